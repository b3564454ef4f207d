/- Texts joined by a program: SkN, SkC, SkD, SkO, SkL, SkS. -/
import Derived.Lib.SmallJoins
import Derived.Test.YtmidcjlidploaaaGreatDoorSb16
import Derived.Test.YtmidcjlidploaaaGreatDoorSb19
import Derived.Test.YtmidcjlidploaaaGreatDoorSb20

section
set_option linter.unusedSimpArgs false
set_option linter.unusedVariables false
namespace Go.Proofs.YtmidcjlidploaaaGreatDoor.Sk
open Go.Aw Go.Aw.D Go.Proofs Ty
open Go.Proofs.YtmidcjlidploaaaGreatDoor (byteAt digitR)
open Go.Proofs.YtmidcjlidploaaaGreatDoor.Nw
open Go.Proofs.YtmidcjlidploaaaGreatDoor.Sc (decZ decZ_eq i64B decZ_size decN_size20)
open Go.RowKit (Below)
set_option maxRecDepth 100000
theorem trimZ_c (n : Int) : PC Tryz.prog 78 [str (decZ n), str ⟨#[45]⟩] (str (decN n.natAbs)) := by
  refine PC.lib (a := [.string (decZ n), .string ⟨#[45]⟩]) (v := .string (decN n.natAbs)) (fun S w => rfl) fun w _ => (Tryz.strings_TrimPrefix (decZ n) ⟨#[45]⟩ w).mono fun e w' ⟨he, hw⟩ => ?_
  rw [hw]
  refine ⟨he.trans ?_, Below.refl _ _⟩
  have : Lib.trimPrefix (decZ n).data.toList [45] = Lib.decDigits n.natAbs := by
    rw [show (decZ n).data.toList = Lib.itoa n from bs_decZ n]
    unfold Lib.itoa Lib.trimPrefix Lib.hasPrefix
    by_cases hn : n < 0
    · rw [if_pos hn, if_pos (by simp [List.isPrefixOf])]
      rfl
    · rw [if_neg hn, show n.toNat = n.natAbs by omega, if_neg]
      cases hd : Lib.decDigits n.natAbs with
      | nil => simp [List.isPrefixOf]
      | cons c r =>
        have hc := dec_digit n.natAbs c (by rw [hd]; simp)
        have : ((45 : UInt8) == c) = false := by
          rw [beq_eq_false_iff_ne]
          rintro rfl
          have : (45 : UInt8).toNat = 45 := rfl
          omega
        simp [List.isPrefixOf, this]
  rw [show (⟨#[45]⟩ : ByteArray).data.toList = [45] from rfl, this, decN_eq]
theorem atoiZ_c (n : Int) (h : i64B n) : PC Tryz.prog 80 [str (decZ n)] (.tup [int n, .v .nilIface]) := by
  have hz := decZ_size h
  refine PC.lib (a := [.string (decZ n)]) (v := .tuple #[.int .i64 n, .nilIface]) (fun S w => ?_) fun w _ => ?_
  · simp only [rep, repL]
    exact ⟨[.int .i64 n, .nilIface], rfl, _, _, rfl, rfl, _, _, rfl, rfl, rfl⟩
  · refine (Tryz.strconv_Atoi_ok (decZ n) (by omega) n (by rw [show (decZ n).data.toList = Lib.itoa n from bs_decZ n]; exact atoi_itoa n h) w).mono ?_
    rintro e w' ⟨rfl, hw⟩
    refine ⟨rfl, ?_⟩
    rcases hw with rfl | ⟨t, rfl⟩
    · exact Below.refl _ _
    · exact Go.Joins.below_bytesWorld _ _ _ _ (Nat.le_refl _)
theorem decN_dig (u i : Nat) (hi : i < (decN u).size) : digitR (byteAt (decN u) i) = true := by
  have hi2 : i < (decN u).data.size := hi
  have hc := dec_digit u ((decN u).data[i]) (by
    have : (decN u).data.toList = Lib.decDigits u := by rw [decN_eq]
    rw [← this]
    simp)
  unfold byteAt digitR
  rw [Array.getD_eq_getD_getElem?, Array.getElem?_eq_getElem hi2]
  simp only [Option.getD_some, Bool.and_eq_true, decide_eq_true_eq]
  omega
theorem decN_pos (u : Nat) : 0 < (decN u).size := by
  have h : (decN u).data.toList = Lib.decDigits u := by rw [decN_eq]
  have := dec_ne u
  rw [← bs_size]
  show 0 < (decN u).data.toList.length
  rw [h]
  exact List.length_pos_iff.2 this
theorem decN_head {u : Nat} (h : u ≠ 0) : byteAt (decN u) 0 ≠ 48 := by
  have hd := dec_head u h
  have e : (decN u).data.toList = Lib.decDigits u := by rw [decN_eq]
  have hp := decN_pos u
  intro hb
  apply hd
  rw [← e]
  unfold byteAt at hb
  have hi2 : 0 < (decN u).data.size := hp
  rw [Array.getD_eq_getD_getElem?, Array.getElem?_eq_getElem hi2, Option.getD_some] at hb
  rw [List.head?_eq_getElem?, Array.getElem?_toList, Array.getElem?_eq_getElem hi2]
  congr 1
  apply UInt8.toNat_inj.1
  have : (48 : UInt8).toNat = 48 := rfl
  omega
theorem number_c (n : Int) (h : i64B n) : PC Tryz.prog 46 [str (decZ n)] (.tup [int n, int 0]) := by
  have hz := decN_size20 19 n.natAbs (by have := h.1; have := h.2; omega)
  have hp := decN_pos n.natAbs
  refine PC.body (c := Tryz.f46.body.getD .skip) (fun _ => false) mixed Tryz.func46 rfl (by kernel_rfl) ?_
  unfold Tryz.f46
  simp only [Option.getD_some]
  simp only [go_sem]
  refine PC.use (trimZ_c n) ?_
  simp only [go_sem]
  rw [empty_b]
  have hc : (decide (((decN n.natAbs).size : Int) < 1) || (((decN n.natAbs).data.getD 0 0).toNat : Int) == 48 && !(decZ n).toList == (⟨#[48]⟩ : ByteArray).toList) = false := by
    rw [decide_eq_false (by omega), Bool.false_or, Bool.and_eq_false_iff]
    by_cases h0 : n = 0
    · subst h0
      exact .inr (by decide +kernel)
    · have := decN_head (u := n.natAbs) (by omega)
      unfold byteAt at this
      exact .inl (by simpa using this)
  refine ⟨fun _ => ⟨by omega, by omega⟩, acond_i (fun hb => absurd (hb.symm.trans hc) (by decide)) (fun _ => ?_)⟩
  simp only [go_sem]
  refine ⟨fun ρ _ => ∃ k : Nat, k ≤ (decN n.natAbs).size ∧ ρ 0 = str (decZ n) ∧ ρ 4 = str (decN n.natAbs) ∧ ρ 22 = int (decN n.natAbs).size ∧ ρ 23 = int k, fun ρ _ => (decN n.natAbs).size - natOf (ρ 23), ⟨0, Nat.zero_le _, by simp only [go_sem], by simp only [go_sem], by simp only [go_sem], (by simp only [go_sem]; rfl)⟩, ?_⟩
  rintro ρ H ⟨k, hk, e0, e4, e22, e23⟩
  simp only [go_sem, e0, e4, e22, e23]
  refine acond_i (fun hlt => ?_) (fun hge => ?_)
  · have hlt := le_of_lt_b hlt
    have b1 := inB hlt
    simp only [go_sem, e0, e4, e22, e23, b1]
    refine PC.use (digit_c _) ?_
    have hd := decN_dig n.natAbs k hlt
    unfold byteAt at hd
    rw [hd]
    simp only [go_sem, e0, e4, e22, e23]
    refine acond_i (fun hb => absurd hb (by decide)) (fun _ => ?_)
    simp only [go_sem, e0, e4, e22, e23, wrapS (show k ≤ 4611686018427387904 by omega)]
    exact ⟨⟨k + 1, hlt, rfl⟩, by simp only [natOf_int]; omega⟩
  simp only [go_sem, e0, e4, e22, e23]
  refine PC.use (atoiZ_c n h) ?_
  simp only [go_sem]
  refine ⟨by kernel_rfl, ?_⟩
  refine acond_i (fun h => absurd h (by decide)) (fun _ => ?_)
  simp only [go_sem]
  exact .refl _
end Go.Proofs.YtmidcjlidploaaaGreatDoor.Sk
end

section
set_option linter.unusedSimpArgs false
set_option linter.unusedVariables false
namespace Go.Proofs.YtmidcjlidploaaaGreatDoor.Sk
open Go.Aw Go.Aw.D Go.Proofs Ty
open Go.Proofs.YtmidcjlidploaaaGreatDoor.Nw
open Go.Proofs.YtmidcjlidploaaaGreatDoor.Sc
open Go.RowKit (Below)
set_option maxRecDepth 100000
def sz0 : AV → Nat
  | .v (.string s) => s.size
  | _ => 0
theorem wordR_pos {w : ByteArray} (h : wordR w = true) : 0 < w.size := by
  unfold wordR at h
  simp only [Bool.and_eq_true, Bool.not_eq_true', decide_eq_false_iff_not] at h
  omega
theorem words_c (ws : List ByteArray) (hne : ws ≠ []) (ho : ∀ w ∈ ws, wordR w = true) (hl : (joinB spB ws).size ≤ 1048576) (hwl : ws.length ≤ 1048576) : PC Tryz.prog 45 [str (joinB spB ws)] (.tup [.sl (ws.map D.encStr), int 0]) := by
  refine PC.body (c := Tryz.f45.body.getD .skip) (fun t => t == 4) mixed Tryz.func45 rfl (by kernel_rfl) ?_
  unfold Tryz.f45
  simp only [Option.getD_some]
  simp only [go_sem]
  refine anew_g fun i HGi hi0 (Ri : HGi i = some (⟨9, 1, []⟩)) N => ?_
  clear N hi0
  simp only [go_sem, Ri]
  refine ⟨fun ρ H => ∃ (k i : Nat), k < ws.length ∧ ρ 0 = str (joinB spB (ws.drop k)) ∧ ρ 4 = .os i ∧ H i = some (strRow (ws.take k)) ∧ (joinB spB (ws.drop k)).size ≤ 1048576, fun ρ _ => sz0 (ρ 0), ⟨0, i, List.length_pos_iff.2 hne, rfl, rfl, Ri, hl⟩, ?_⟩
  rintro ρ H ⟨k, i, hk, e0, e4, Ri, hs⟩
  simp only [go_sem, e0, e4]
  obtain ⟨w, r, hd⟩ : ∃ w r, ws.drop k = w :: r := by
    cases hx : ws.drop k with
    | nil => exact absurd (List.drop_eq_nil_iff.1 hx) (by omega)
    | cons w r => exact ⟨w, r, rfl⟩
  have hw : wordR w = true := ho w (List.mem_of_mem_drop (by rw [hd]; simp))
  have hp := wordR_pos hw
  rw [hd] at hs ⊢
  rw [hd] at e0
  have hq := jb_pos (r := r) spB hp
  refine acond_i (fun _ => ?_) (fun hb => ?_)
  · simp only [go_sem, e0, e4]
    cases r with
    | nil =>
      rw [jb_one] at hs hq e0 ⊢
      refine PC.use (part_c w w.size hs (Nat.le_refl _) (by rw [show w.extract 0 w.size = w from by simp]; exact hw) (.inl rfl)) ?_
      simp only [go_sem, e0, e4]
      refine acond_i (fun hb => absurd (of_decide_eq_true hb) (by omega)) (fun _ => ?_)
      simp only [go_sem, e0, e4]
      refine acond_i (fun _ => ?_) (fun hb => absurd hb (by simp))
      simp only [go_sem, e0, e4, Ri]
      refine wappE_i Ri ⟨rfl, rfl⟩ (by simp only [go_sem]) (by simp only [List.length_map, List.length_cons, List.length_nil, List.length_take]; omega) fun j' hj' => ?_
      simp only [go_sem]
      have hst : ws = ws.take k ++ [w] := by rw [← hd, List.take_append_drop]
      refine .tup _ _ (.cons _ _ _ _ (.row _ _ _ (updH_same _ _ _) ?_) (.cons _ _ _ _ (.refl _) .nil))
      have he : ws.map D.encStr = (ws.take k).map D.encStr ++ [[str w]] := (congrArg (List.map D.encStr) hst).trans (by rw [List.map_append]; rfl)
      rw [he]
      exact ConvE.refl _
    | cons x r =>
      refine PC.use (part_c _ w.size hs (by rw [jb_size]; omega) (by rw [jb_head]; exact hw) (.inr (jb_sep w x r))) ?_
      simp only [go_sem, e0, e4]
      have hz := jb_size spB w x r
      have hx : wordR x = true := ho x (List.mem_of_mem_drop (i := k) (by rw [hd]; simp))
      have hxp := jb_pos (r := r) spB (wordR_pos hx)
      have h1 : spB.size = 1 := rfl
      have hsep : (joinB spB (w :: x :: r)).data.getD w.size 0 = 32 := by rw [Array.getD_eq_getD_getElem?, jb_sep]; rfl
      refine acond_i (fun hb => absurd (eq_of_beq hb) (by omega)) (fun _ => ?_)
      simp only [go_sem, e0, e4]
      refine acond_i (fun hb => absurd (eq_of_beq hb) (by omega)) (fun _ => ?_)
      simp only [go_sem, e0, e4, hsep]
      refine ⟨⟨by omega, by omega⟩, acond_i (fun hb => ?_) (fun _ => ?_)⟩
      · rw [wrapS (show w.size ≤ 4611686018427387904 by omega), show (((UInt8.toNat 32 : Nat) : Int) != 32) = false from by decide, Bool.false_or] at hb
        exact absurd (eq_of_beq hb) (by omega)
      simp only [go_sem, e0, e4, hsep]
      refine ⟨⟨by omega, by omega⟩, wappE_i Ri ⟨rfl, rfl⟩ (by simp only [go_sem]) (by simp only [List.length_map, List.length_cons, List.length_nil, List.length_take]; omega) fun j' hj' => ?_⟩
      simp only [go_sem, e0, e4, wrapS (show w.size ≤ 4611686018427387904 by omega)]
      have hd1 : ws.drop (k + 1) = x :: r := by rw [← List.drop_drop, hd]; rfl
      have hkl : k + 1 < ws.length := by
        have := congrArg List.length hd1
        simp at this
        omega
      have hg : ws[k]? = some w := by rw [← List.head?_drop, hd]; rfl
      have he : (ws.take (k + 1)).map D.encStr = (ws.take k).map D.encStr ++ [[str w]] := by
        rw [List.take_add_one, hg, List.map_append]
        rfl
      rw [jb_head]
      refine ⟨⟨by omega, by omega⟩, ⟨k + 1, j', hkl, ?_, rfl, ?_, ?_⟩, ?_⟩
      · rw [hd1]; exact congrArg (fun b => AV.v (Value.string b)) (jb_rest w x r)
      · rw [updH_same, strRow, he]
      · rw [hd1]; omega
      · rw [jb_rest]; simp only [sz0]; omega
  · rw [empty_b, decide_eq_false (by omega)] at hb
    exact absurd hb (by decide)
end Go.Proofs.YtmidcjlidploaaaGreatDoor.Sk
end

section
set_option linter.unusedSimpArgs false
set_option linter.unusedVariables false
namespace Go.Proofs.YtmidcjlidploaaaGreatDoor.Sk
open Go.Aw Go.Aw.D Go.Proofs Ty
open Go.Proofs.YtmidcjlidploaaaGreatDoor (byteAt)
open Go.Proofs.YtmidcjlidploaaaGreatDoor.Nw
open Go.Proofs.YtmidcjlidploaaaGreatDoor.Sc
open Go.RowKit (Below)
set_option maxRecDepth 100000
abbrev rdRow (l : List ByteArray) : Row := ⟨152, 1, [[.sl (l.map D.encStr)]]⟩
theorem quote_no {w : ByteArray} (h : wordR w = true) : Lib.hasPrefix w.data.toList [34] = false := by
  obtain ⟨s⟩ := w
  have hp := wordR_pos h
  unfold wordR at h
  simp only [Bool.and_eq_true] at h
  have h0 := List.all_eq_true.1 h.1 0 (List.mem_range.2 hp)
  cases hs : s.toList with
  | nil => rfl
  | cons c r =>
    have hc : c ≠ 34 := fun e => by
      have e0 : byteAt ⟨s⟩ 0 = 34 := by
        unfold byteAt
        rw [Array.getD_eq_getD_getElem?, ← Array.getElem?_toList, hs, e]
        rfl
      rw [e0] at h0
      exact absurd h0 (by decide)
    have : ((34 : UInt8) == c) = false := by simpa using fun e => hc e.symm
    show (((34 : UInt8) == c) && _) = false
    rw [this, Bool.false_and]
theorem quote_c (w : ByteArray) : PC Tryz.prog 34 [str w, str ⟨#[34]⟩] (boo (Lib.hasPrefix w.data.toList [34])) := by
  refine PC.lib (a := [.string w, .string ⟨#[34]⟩]) (v := .bool (Lib.hasPrefix w.data.toList [34])) (fun S w => rfl) fun u ht => (Tryz.strings_HasPrefix w ⟨#[34]⟩ u).mono fun e w' ⟨he, hw⟩ => ⟨he, hw ▸ Below.refl _ _⟩
theorem rword_c {H : Heap} {K : AV → Heap → Prop} {b : Nat} (w : ByteArray) (r : List ByteArray) (hb : H b = some (rdRow (w :: r))) (hw : wordR w = true) (hr : r.length ≤ 1048576)
    (hK : K (str w) (updH H b (some (rdRow r)))) : FCalls Tryz.prog 69 [.op b 0 0] H K := by
  refine FCalls.body (c := Tryz.f69.body.getD .skip) (fun _ => false) mixed Tryz.func69 rfl (by kernel_rfl) ?_
  unfold Tryz.f69
  simp only [Option.getD_some]
  simp only [go_sem, hb]
  refine acond_i (fun h => absurd (eq_of_beq h) (by omega)) (fun _ => ?_)
  simp only [go_sem, hb]
  refine ⟨⟨by omega, by omega⟩, ⟨⟨by omega, by omega⟩, ?_⟩, ?_⟩
  · exact allLen_map (f := D.encStr) (n := 1) (fun _ => rfl) _
  refine wputE_1 so22 hb ⟨by simp, rfl, by simp⟩ ?_
  simp only [go_sem]
  refine PC.use (quote_c w) ?_
  rw [quote_no hw]
  simp only [go_sem]
  refine acond_i (fun h => absurd h (by decide)) (fun _ => ?_)
  simp only [go_sem]
  exact hK
end Go.Proofs.YtmidcjlidploaaaGreatDoor.Sk
end

section
set_option linter.unusedSimpArgs false
set_option linter.unusedVariables false
namespace Go.Proofs.YtmidcjlidploaaaGreatDoor.Sk
open Go.Aw Go.Aw.D Go.Proofs Ty
open Go.Proofs.YtmidcjlidploaaaGreatDoor.Nw
open Go.Proofs.YtmidcjlidploaaaGreatDoor.Sc
open Go.RowKit (Below)
set_option maxRecDepth 100000
theorem els_str {S : Sg} {w : World} {g : Nat} : ∀ (xs : List ByteArray) (o : Nat), (∀ i x, xs[i]? = some x → w.cell? ⟨g, o + i, none⟩ = some (.string x)) → elsAt S w g 1 o (xs.map D.encStr)
  | [], _, _ => by simp [elsAt]
  | x :: xs, o, h => by
    simp only [List.map_cons, elsAt]
    refine ⟨rfl, ?_, els_str xs (o + 1) fun i y hy => by have := h (i + 1) y (by simpa using hy); rw [show o + 1 + i = o + (i + 1) by omega]; exact this⟩
    simp only [D.encStr, cellsAt]
    exact ⟨⟨_, by have := h 0 x rfl; simpa using this, rfl, by simp [rep]⟩, trivial⟩
theorem split_c {c : UInt8} {ps : List ByteArray} (hn : ps ≠ []) (h : ∀ p ∈ ps, c ∉ p.data.toList) (hs : (joinB ⟨#[c]⟩ ps).size ≤ 1048576) : PC Tryz.prog 108 [str (joinB ⟨#[c]⟩ ps), str ⟨#[c]⟩] (.sl (ps.map D.encStr)) := by
  intro S w vals hS hf ha
  simp only [repL] at ha
  obtain ⟨u, t, rfl, h1, u2, t2, rfl, h2, rfl⟩ := ha
  simp only [rep] at h1 h2
  subst h1 h2
  obtain ⟨m, hm⟩ := num_of fun t ht => (hS.tabs t ht).2
  have hsp := splitB_join ps hn h
  have hlen := Lib.splitB_all ⟨#[c]⟩ (Nat.le_refl 1) 0 _ (joinB ⟨#[c]⟩ ps) rfl
  have hcl := Lib.countB_le ⟨#[c]⟩ (Nat.le_refl 1) _ (joinB ⟨#[c]⟩ ps) (Nat.le_refl _)
  refine (Tryz.strings_Split (joinB ⟨#[c]⟩ ps) ⟨#[c]⟩ m w (by omega) hm (Nat.le_refl 1)).mono ?_
  rintro e w' ⟨rfl, rfl⟩
  rw [hsp] at hlen ⊢
  obtain ⟨n1, n2⟩ := hS.newRo (o := Obj.cells (ps.map Value.string).toArray 9) (w' := w.alloc (Obj.cells (ps.map Value.string).toArray 9)) rfl rfl rfl rfl
  refine ⟨_, _, noRows, _, rfl, rfl, n1, ?_, n2, NewK.refl _ _⟩
  simp only [rep]
  refine ⟨_, _, _, rfl, by rw [List.length_map, hlen], Nat.le_refl _, by simp only [maxLen]; omega, .inr ⟨w.heap.size, 0, 1, rfl, .inr rfl, by decide, els_str ps 0 fun i x hx => ?_⟩⟩
  rw [cell_of_row (w.alloc (.cells (ps.map Value.string).toArray 9)) w.heap.size (0 + i) (ps.map Value.string).toArray 9 (0, 0) (heap_alloc_new w _)]
  simp [hx]
theorem snum_c (n : Int) (h : i64B n) : PC Tryz.prog 107 [str (decZ n)] (int n) := by
  refine PC.body (c := Tryz.f107.body.getD .skip) (fun _ => false) mixed Tryz.func107 rfl (by kernel_rfl) ?_
  unfold Tryz.f107
  simp only [Option.getD_some]
  simp only [go_sem]
  refine PC.use (number_c n h) ?_
  simp only [go_sem]
  refine acond_i (fun h => absurd h (by decide)) (fun _ => ?_)
  simp only [go_sem]
  exact .refl _
theorem nums_c {c : UInt8} {l : List Int} (hc : c.toNat < 45 ∨ 57 < c.toNat) (hn : l ≠ []) (hl : l.length ≤ 1048576) (h : ∀ n ∈ l, i64B n) (hs : (joinB ⟨#[c]⟩ (l.map decZ)).size ≤ 1048576) : PC Tryz.prog 109 [str (joinB ⟨#[c]⟩ (l.map decZ)), str ⟨#[c]⟩] (.sl (l.map D.encInt)) := by
  have hsp := split_c (c := c) (ps := l.map decZ) (by simpa using hn) (fun p hp hm => by
    obtain ⟨n, _, rfl⟩ := List.mem_map.1 hp
    exact num_not (decZ_num n c hm) hc rfl) hs
  refine PC.body (c := Tryz.f109.body.getD .skip) (fun t => t == 5) mixed Tryz.func109 rfl (by kernel_rfl) ?_
  unfold Tryz.f109
  simp only [Option.getD_some]
  simp only [go_sem]
  refine anew_g fun i HGi hi0 (Ri : HGi i = some (⟨3, 1, []⟩)) N => ?_
  clear N hi0
  simp only [go_sem, Ri]
  refine PC.use hsp ?_
  simp only [go_sem]
  refine ⟨fun ρ H => ∃ (k : Nat) (i : Nat), k ≤ l.length ∧ ρ 10 = .sl ((l.map decZ).map D.encStr) ∧ ρ 11 = int (l.length : Nat) ∧ ρ 12 = int k ∧ ρ 5 = .os i ∧ H i = some ⟨3, 1, (l.take k).map D.encInt⟩, fun ρ _ => l.length - natOf (ρ 12), ⟨0, i, Nat.zero_le _, by simp only [go_sem], by simp only [go_sem, List.length_map], (by simp only [go_sem]; rfl), by simp only [go_sem], Ri⟩, ?_⟩
  rintro ρ H ⟨k, i, hk, e10, e11, e12, e5, Ri⟩
  simp only [go_sem, e10, e11, e12, e5]
  refine acond_i (fun hlt => ?_) (fun hge => ?_)
  · have hlt := ltB hlt
    obtain ⟨n, hn⟩ := getIn hlt
    have b1 := inB hlt
    have hwr := wrapS (show k ≤ 4611686018427387904 by omega)
    have hst : (l.take (k + 1)).map D.encInt = (l.take k).map D.encInt ++ [D.encInt n] := by rw [take_succ hn]; simp
    have hg : (l.map decZ)[k]? = some (decZ n) := by simp [hn]
    have b1 := inB (show k < (l.map decZ).length by rw [List.length_map]; exact hlt)
    simp only [go_sem, e10, e11, e12, e5, getD_map hg, b1]
    refine PC.use (snum_c n (h n (mem_of_get hn))) ?_
    simp only [go_sem, e10, e11, e12, e5]
    refine wappE_i Ri ⟨rfl, rfl⟩ (by simp only [go_sem]) (by simp only [List.length_map, List.length_cons, List.length_nil, List.length_take]; omega) fun j' hj' => ?_
    have g1 : updH (updH H i none) j' (some ⟨3, 1, (l.take k).map D.encInt ++ [[int n]]⟩) j' = some ⟨3, 1, (l.take (k + 1)).map D.encInt⟩ := by
      rw [updH_same, hst]
      rfl
    simp only [go_sem, e10, e11, e12, e5, hwr]
    exact ⟨⟨k + 1, j', hlt, rfl, rfl, g1⟩, by simp only [natOf_int]; omega⟩
  · have hge := geB hk hge
    subst hge
    rw [List.take_of_length_le (Nat.le_refl _)] at Ri
    simp only [go_sem, e10, e11, e12, e5]
    exact .row _ _ _ Ri (ConvE.refl _)
theorem num_not' {c : UInt8} (h : numC c) (e : c = 46) : False := by
  subst e
  rcases h with h | h
  · exact absurd h (by decide)
  · exact absurd h (by decide)
section
variable {H : Heap} {K : AV → Heap → Prop} {b : Nat} {r : List ByteArray}
theorem rnum_c (n : Int) (hb : H b = some (rdRow (decZ n :: r))) (hn : i64B n) (hr : r.length ≤ 1048576) (hK : K (int n) (updH H b (some (rdRow r)))) : FCalls Tryz.prog 70 [.op b 0 0] H K := by
  refine FCalls.body (c := Tryz.f70.body.getD .skip) (fun _ => false) mixed Tryz.func70 rfl (by kernel_rfl) ?_
  unfold Tryz.f70
  simp only [Option.getD_some]
  simp only [go_sem]
  refine rword_c (decZ n) r hb (decZ_word n) hr ?_
  simp only [go_sem]
  refine PC.use (snum_c n hn) ?_
  simp only [go_sem]
  exact hK
theorem dot_not {l : List Int} {s : ByteArray} (hl : l ≠ []) : ((joinB s (l.map decZ)).toList == (⟨#[46]⟩ : ByteArray).toList) = false := by
  cases l with
  | nil => exact absurd rfl hl
  | cons a l =>
    rw [beq_eq_false_iff_ne]
    intro e
    rw [Lib.toList_data, Lib.toList_data] at e
    have e : bs (joinB s (decZ a :: l.map decZ)) = [46] := e
    rw [joinB_cons, bs_app] at e
    cases h : bs (decZ a) with
    | nil => exact decZ_ne a h
    | cons c r =>
      rw [h] at e
      simp only [List.cons_append, List.cons.injEq] at e
      have := decZ_num a c (by rw [h]; simp)
      exact num_not' this e.1
theorem rlist_c (l : List Int) (hb : H b = some (rdRow (listS l :: r))) (hl : l.length ≤ 1048576) (hn : ∀ n ∈ l, i64B n) (hs : (listS l).size ≤ 1048576) (hr : r.length ≤ 1048576) (hK : K (.sl (l.map D.encInt)) (updH H b (some (rdRow r)))) : FCalls Tryz.prog 110 [.op b 0 0] H K := by
  refine FCalls.body (c := Tryz.f110.body.getD .skip) (fun _ => false) mixed Tryz.func110 rfl (by kernel_rfl) ?_
  unfold Tryz.f110
  simp only [Option.getD_some]
  simp only [go_sem]
  refine rword_c (listS l) r hb (listS_word l) hr ?_
  simp only [go_sem]
  by_cases h0 : l = []
  · subst h0
    refine acond_i (fun _ => ?_) (fun h => absurd h (by rw [show listS [] = (⟨#[46]⟩ : ByteArray) from rfl]; simp))
    simp only [go_sem]
    exact hK
  rw [listS_join h0] at hs ⊢
  rw [dot_not h0]
  refine acond_i (fun h => absurd h (by decide)) (fun _ => ?_)
  simp only [go_sem]
  refine PC.use (nums_c (by decide) h0 hl hn hs) ?_
  simp only [go_sem]
  exact hK
end
end Go.Proofs.YtmidcjlidploaaaGreatDoor.Sk
end

section
set_option linter.unusedSimpArgs false
set_option linter.unusedVariables false
namespace Go.Aw
open Go.RowKit
section
variable {P : Program} {f : FuncId} {args : List AV} {H H1 : Heap} {K : AV → Heap → Prop} {r : AV}
def Sup (H H' : Heap) : Prop := ∀ k row, H k = some row → H' k = some row
def Back (H : Heap) (r : AV) (a : AV) (H' : Heap) : Prop := Sup H H' ∧ ∃ l : List Nat, (∀ k, k ∈ l → H k = none) ∧ Conv (fun k => if k ∈ l then H' k else none) a r
theorem Sup.refl (H : Heap) : Sup H H := fun _ _ h => h
theorem Sup.upd {H H' : Heap} (h : Sup H H') {i : Nat} (hi : H i = none) (a : Option Row) : Sup H (updH H' i a) := fun k row hk => by
  rw [updH_ne _ _ _ _ (fun e => by subst e; rw [hi] at hk; cases hk)]; exact h k row hk
theorem Sup.none {H H' : Heap} (h : Sup H H') {i : Nat} (hi : H' i = none) : H i = none := by
  cases e : H i with
  | none => rfl
  | some row => rw [h i row e] at hi; cases hi
theorem Back.flat {H H' : Heap} (h : Sup H H') (r : AV) : Back H r r H' := ⟨h, [], by simp, .refl r⟩
theorem FCalls.dataM (hs : ∀ k, H k = none → H1 k = none) (h : FCalls P f args H (Back H1 r)) (hK : K r H1) : FCalls P f args H K := by
  intro S w vals hS ha
  refine (h S w vals hS ha).mono fun e w' ⟨v, x, H', S', he, ⟨hm, l, hl, hc⟩, hS', hv, hg, hn⟩ => ?_
  obtain ⟨h1, h2, h3⟩ := hS'.frz l
  refine ⟨v, r, H1, S'.froze _, he, hK, h1.drop (fun k row hk => ?_), hc.rep h3 hv, hg.trans h2, fun k _ h0 => hs k h0⟩
  have hkl : ¬ k ∈ l := fun hkl => by rw [hl k hkl] at hk; cases hk
  show (if k ∈ l then none else H' k) = some row
  rw [if_neg hkl]
  exact hm k row hk
theorem upd_noneOf {H : Heap} {j : Nat} {a : Option Row} {b : Row} (h : H j = some b) : ∀ k, H k = none → updH H j a k = none := fun k hk => by
  by_cases e : k = j
  · subst e; rw [h] at hk; cases hk
  · rw [updH_ne _ _ _ _ e, hk]
theorem adraw_J {P : Program} {C : CallP} {PC : FuncId → List AV → Heap → AV → Prop} {mt : Nat → Bool} {ops : List Oper} {K : Env → Heap → Prop} {m : Nat} {ρ : Env} {H : Heap} (l : List Nat) (t : Mx) (J : Env → Heap → Prop) (hl : ∀ k, k ∈ l → (H k).isSome = true) (hB : treeB ops.toArray t = true)
    (h : ∀ K' : Env → Heap → Prop, (∀ ρ' H', J ρ' H' → K' ρ' H') → ∀ Hp Hr : Heap, (∀ k, k ∈ l → Hp k = H k) → (∀ k, k ∉ l → Hr k = H k) → (∀ k, k ∉ l → Hp k = none) → (∀ k, k ∈ l → Hr k = none) → amixt P C PC mt ops.toArray (pinEnd l H K') Hp t ρ Hr)
    (hK : ∀ ρ' H', J ρ' H' → K ρ' H') : adraw P C PC mt ops.toArray K m ρ H := adraw_t l t hl hB (h K hK)
end
end Go.Aw
namespace Go.Proofs.YtmidcjlidploaaaGreatDoor.Sk
open Go.Aw Go.Aw.D Go.Proofs Ty
open Go.Proofs.YtmidcjlidploaaaGreatDoor.Nw
open Go.Proofs.YtmidcjlidploaaaGreatDoor.Sc
set_option maxRecDepth 100000
def Fr (b : Nat) (H H' : Heap) : Prop := ∀ k row, k ≠ b → H k = some row → H' k = some row
section
variable {b : Nat} {H H' G : Heap}
theorem Fr.none {i : Nat} {x : Row} (F : Fr b H G) (hb : G b = some x) (hi : G i = none) : H i = none := by
  cases e : H i with
  | none => rfl
  | some row =>
    have hne : i ≠ b := fun e => by rw [e, hb] at hi; cases hi
    rw [F _ _ hne e] at hi; cases hi
theorem Fr.trans (F : Fr b H H') (F' : Fr b H' G) : Fr b H G := fun _ _ hk h => F' _ _ hk (F _ _ hk h)
theorem Fr.new {i : Nat} (F : Fr b H H') (N : ∀ {j a}, H' j = some a → j ≠ i ∧ G j = some a) : Fr b H G := fun _ _ hk h => (N (F _ _ hk h)).2
theorem Fr.put {j : Nat} (F : Fr b H H') (hj : H j = .none) (F' : Fr j H' G) : Fr b H G := fun _ _ hk h => F' _ _ (fun e => by rw [e, hj] at h; cases h) (F _ _ hk h)
theorem put1 {P : Program} {t : TypeId} {d : Option Tmp} {j i f : Nat} {cs : List AV} {ρ : Env} {K : Env → Heap → Prop} {r : Row} (ht : ∃ i, P.info? t = some i ∧ i.size = 1) (hj : H j = some r) (h1 : i < r.es.length ∧ cs.length = 1 ∧ f + cs.length ≤ r.sz)
    (h : ∀ G : Heap, G j = some { r with es := r.es.set i (setAt (r.es.getD i []) f cs) } → Fr j H G → K (upd ρ d .any) G) : wputE P t none d j i f cs ρ H K :=
  wputE_1 ht hj h1 (h _ (updH_same _ _ _) fun _ _ hk hr => (updH_ne _ _ _ _ hk).trans hr)
theorem putn {P : Program} {t : TypeId} {m : Nat} {d : Option Tmp} {j i f : Nat} {cs : List AV} {ρ : Env} {K : Env → Heap → Prop} {r : Row} (hj : H j = some r) (h1 : i < r.es.length ∧ cs.length = m ∧ f + cs.length ≤ r.sz)
    (h : ∀ G : Heap, G j = some { r with es := r.es.set i (setAt (r.es.getD i []) f cs) } → Fr j H G → K (upd ρ d .any) G) : wputE P t (some m) d j i f cs ρ H K :=
  wputE_n hj h1 (h _ (updH_same _ _ _) fun _ _ hk hr => (updH_ne _ _ _ _ hk).trans hr)
theorem app1 {e : TypeId × Nat × Nat} {d : Option Tmp} {j : Nat} {news : List (List AV)} {ρ : Env} {K : Env → Heap → Prop} {r : Row} (hj : H j = some r)
    (h1 : r.e = e.1 ∧ r.sz = e.2.1) (h2 : allLen e.2.1 news) (h3 : (r.es.length + news.length) * e.2.2 ≤ 140737488355328)
    (h : ∀ (j' : Nat) (G : Heap), G j' = some ⟨e.1, e.2.1, r.es ++ news⟩ → (∀ k row, k ≠ j → H k = some row → k ≠ j' ∧ G k = some row) → K (upd ρ d (.os j')) G) : wappE e d j (.sl news) ρ H K :=
  wappE_i hj h1 h2 h3 fun j' hj' => h j' _ (updH_same _ _ _) fun k row hk hr => by
    have hn : k ≠ j' := fun e => by rw [e, hj'] at hr; cases hr
    exact ⟨hn, by rw [updH_ne _ _ _ _ hn, updH_ne _ _ _ _ hk]; exact hr⟩
def RD (f : FuncId) (b : Nat) (H : Heap) (r : List ByteArray) (v : AV) : Prop := ∀ K : AV → Heap → Prop, (∀ H', H' b = some (rdRow r) → Fr b H H' → K v H') → FCalls Tryz.prog f [.op b 0 0] H K
theorem RD.use {f : FuncId} {r : List ByteArray} {v : AV} {K : AV → Heap → Prop} (h : RD f b H r v) (hK : ∀ H', H' b = some (rdRow r) → Fr b H H' → K v H') : FCalls Tryz.prog f [.op b 0 0] H K := h K hK
theorem RD.of {f : FuncId} {r : List ByteArray} {v : AV} (h : ∀ K : AV → Heap → Prop, K v (updH H b (some (rdRow r))) → FCalls Tryz.prog f [.op b 0 0] H K) : RD f b H r v :=
  fun K hK => h K (hK _ (updH_same _ _ _) fun _ _ hk hr => (updH_ne _ _ _ _ hk).trans hr)
variable {r : List ByteArray}
theorem rword_d {w : ByteArray} (hb : H b = some (rdRow (w :: r))) (hw : wordR w = true) (hr : r.length ≤ 1048576) : RD 69 b H r (str w) := .of fun K hK => rword_c w r hb hw hr hK
theorem rnum_d {n : Int} (hb : H b = some (rdRow (decZ n :: r))) (hn : i64B n) (hr : r.length ≤ 1048576) : RD 70 b H r (int n) := .of fun K hK => rnum_c n hb hn hr hK
theorem rlist_d {l : List Int} (hb : H b = some (rdRow (listS l :: r))) (hl : l.length ≤ 1048576) (hn : ∀ n ∈ l, i64B n) (hs : (listS l).size ≤ 1048576) (hr : r.length ≤ 1048576) : RD 110 b H r (.sl (l.map D.encInt)) := .of fun K hK => rlist_c l hb hl hn hs hr hK
end
end Go.Proofs.YtmidcjlidploaaaGreatDoor.Sk
end

section
set_option linter.unusedSimpArgs false
set_option linter.unusedVariables false
namespace Go.Proofs.YtmidcjlidploaaaGreatDoor.Sk
open Go.Aw Go.Aw.D Go.Proofs Ty
open Go.Proofs.YtmidcjlidploaaaGreatDoor
open Go.Proofs.YtmidcjlidploaaaGreatDoor.Nw (ltB geB cB)
open Go.Proofs.YtmidcjlidploaaaGreatDoor.Sc
set_option maxRecDepth 100000
section
variable {H : Heap} {b : Nat} {r : List ByteArray}
theorem zeroStop_eq {s : Stop} (h : zeroStop s = true) : s = ⟨-1, 0, 0, 0⟩ := by
  obtain ⟨p, a, c, d⟩ := s
  unfold zeroStop at h
  simp at h
  simp [h]
theorem rstop_d {s : Stop} (hb : H b = some (rdRow (stopS s :: r))) (hz : okStop s) (hs : (stopS s).size ≤ 1048576) (hr : r.length ≤ 1048576) : RD 111 b H r (.agg (encStop s)) := by
  intro K hK
  refine FCalls.body (c := Tryz.f111.body.getD .skip) (fun _ => false) mixed Tryz.func111 rfl (by kernel_rfl) ?_
  unfold Tryz.f111
  simp only [Option.getD_some]
  simp only [go_sem]
  refine anew_g fun p G hp (P : G p = some ⟨47, 4, [encStop ⟨0, 0, 0, 0⟩]⟩) N => ?_
  obtain ⟨nb, B⟩ := N hb
  have F : Fr b H G := fun _ _ _ h => (N h).2
  clear N
  simp only [go_sem, P]
  refine (rword_d B (stopS_word s) hr).use fun G1 B1 F1 => ?_
  replace P := F1 _ _ nb.symm P
  replace F := F.trans F1
  simp only [go_sem, P]
  cases hzs : zeroStop s with
  | true =>
    have e : stopS s = ⟨#[46]⟩ := if_pos hzs
    refine acond_i (fun _ => ?_) (fun h => absurd h (by rw [e]; simp))
    have hs0 := zeroStop_eq hzs
    simp only [go_sem, P]
    refine putn P ⟨by simp, rfl, by simp⟩ fun G2 P2 F2 => ?_
    simp only [go_sem, P2]
    subst hs0
    exact hK G2 (F2 _ _ nb B1) (F.put hp F2)
  | false =>
    have e : stopS s = joinB ⟨#[58]⟩ ([s.place, s.start, s.close, s.service].map decZ) := if_neg (by rw [hzs]; simp)
    have hl : ∀ n ∈ [s.place, s.start, s.close, s.service], i64B n := by
      intro n hn
      simp only [List.mem_cons, List.not_mem_nil, or_false] at hn
      rcases hn with rfl | rfl | rfl | rfl
      · exact hz.1
      · exact hz.2.1
      · exact hz.2.2.1
      · exact hz.2.2.2
    refine acond_i (fun h => absurd h (by rw [e, dot_not (by simp)]; simp)) (fun _ => ?_)
    simp only [go_sem, P]
    rw [e] at hs
    have hn := nums_c (c := 58) (l := [s.place, s.start, s.close, s.service]) (by decide) (by simp) (by simp) hl hs
    rw [← e] at hn
    refine PC.use hn ?_
    simp only [go_sem, P]
    refine acond_i (fun h => absurd h (by simp)) (fun _ => ?_)
    simp only [go_sem, P]
    refine adraw_m [(0, true), (1, true), (2, true), (3, true), (4, true), (5, true), (6, true), (7, true), (8, true), (9, true), (10, true), (11, true), (12, true), (13, false), (14, false)] (by kernel_rfl) ?_
    simp only [go_sem, P]
    refine ⟨⟨by omega, by omega⟩, ⟨by omega, by omega⟩, ⟨by omega, by omega⟩, ⟨by omega, by omega⟩, ?_⟩
    refine anew_g fun q G2 hq (Q : G2 q = some ⟨47, 4, [encStop ⟨0, 0, 0, 0⟩]⟩) N => ?_
    obtain ⟨np, P⟩ := N P
    obtain ⟨nqb, B2⟩ := N B1
    have hq0 : H q = none := F.none B1 hq
    replace F := F.new N
    clear N
    simp only [go_sem, P, Q]
    refine putn Q ⟨by simp, rfl, by simp⟩ fun G3 Q3 F3 => ?_
    replace P := F3 _ _ np P
    have B3 := F3 _ _ nqb B2
    replace F := F.put hq0 F3
    simp only [go_sem, P, Q3]
    refine PC.use (stop_c s hz) ?_
    simp only [go_sem, P, Q3]
    refine acond_i (fun h => absurd h (by simp)) (fun _ => ?_)
    simp only [go_sem, P, Q3]
    refine putn P ⟨by simp, rfl, by simp⟩ fun G4 P4 F4 => ?_
    simp only [go_sem, P4]
    exact hK G4 (F4 _ _ nb B3) (F.put hp F4)
theorem point_num (p : Point) : ∀ c ∈ bs (pointS p), numC c ∨ c = 58 := by
  intro c hc
  rw [pointS_join] at hc
  rcases mem_joinB hc with hc | ⟨w, hw, hc⟩
  · exact .inr (by simpa [bs] using hc)
  · obtain ⟨n, _, rfl⟩ := List.mem_map.1 hw
    exact .inl (decZ_num n c hc)
theorem dot_notP {l : List Point} (hl : l ≠ []) : ((travelS l).toList == (⟨#[46]⟩ : ByteArray).toList) = false := by
  cases l with
  | nil => exact absurd rfl hl
  | cons a l =>
    rw [beq_eq_false_iff_ne]
    intro e
    rw [Lib.toList_data, Lib.toList_data] at e
    have e : bs (joinB ⟨#[44]⟩ (pointS a :: l.map pointS)) = [46] := e
    rw [joinB_cons, bs_app, pointS_join, List.map_cons, joinB_cons, bs_app] at e
    cases h : bs (decZ a.t) with
    | nil => exact decZ_ne a.t h
    | cons c r =>
      rw [h] at e
      simp only [List.cons_append, List.cons.injEq] at e
      have := decZ_num a.t c (by rw [h]; simp)
      exact num_not' this e.1
abbrev ptRow (l : List Point) : Row := ⟨140, 2, l.map encPoint⟩
theorem rpoints_d {l : List Point} (hb : H b = some (rdRow (travelS l :: r))) (hl : l.length ≤ 1048576) (hz : ∀ p ∈ l, okPoint p) (hs : (travelS l).size ≤ 1048576) (hr : r.length ≤ 1048576) : RD 71 b H r (.sl (l.map encPoint)) := by
  intro K hK
  refine FCalls.dataM (H1 := updH H b (some (rdRow r))) (upd_noneOf hb) ?_ (hK _ (updH_same _ _ _) fun _ _ hk hr => (updH_ne _ _ _ _ hk).trans hr)
  refine FCalls.body (c := Tryz.f71.body.getD .skip) (fun t => t == 4) mixed Tryz.func71 rfl (by kernel_rfl) ?_
  unfold Tryz.f71
  simp only [Option.getD_some]
  simp only [go_sem]
  refine rword_c (travelS l) r hb (travelS_word l) hr ?_
  generalize hG : updH H b (some (rdRow r)) = G
  simp only [go_sem]
  by_cases h0 : l = []
  · subst h0
    refine acond_i (fun _ => ?_) (fun h => absurd h (by rw [show travelS [] = (⟨#[46]⟩ : ByteArray) from rfl]; simp))
    simp only [go_sem]
    exact Back.flat (Sup.refl G) _
  rw [dot_notP h0]
  refine acond_i (fun h => absurd h (by decide)) (fun _ => ?_)
  rw [travelS_join h0] at hs ⊢
  have hsp := split_c (c := 44) (ps := l.map pointS) (by simpa using h0) (fun p hp hm => by
    obtain ⟨n, _, rfl⟩ := List.mem_map.1 hp
    rcases point_num n _ hm with h | h
    · exact num_not h (d := 44) (by decide) rfl
    · exact absurd h (by decide)) hs
  simp only [go_sem]
  refine anew_g fun i HGi hi0 (Ri : HGi i = some (ptRow [])) N => ?_
  have U : Sup G HGi := fun _ _ h => (N h).2
  clear N
  simp only [go_sem, Ri]
  refine PC.use hsp ?_
  simp only [go_sem]
  refine ⟨fun ρ H' => ∃ (k : Nat) (i : Nat), k ≤ l.length ∧ ρ 13 = .sl ((l.map pointS).map D.encStr) ∧ ρ 14 = int (l.length : Nat) ∧ ρ 15 = int k ∧ ρ 4 = .os i ∧ H' i = some (ptRow (l.take k)) ∧ Sup G H' ∧ G i = none, fun ρ _ => l.length - natOf (ρ 15), ⟨0, i, Nat.zero_le _, by simp only [go_sem], by simp only [go_sem, List.length_map], (by simp only [go_sem]; rfl), by simp only [go_sem], Ri, U, hi0⟩, ?_⟩
  clear U Ri hi0
  rintro ρ H' ⟨k, i, hk, e13, e14, e15, e4, Ri, U, hi0⟩
  simp only [go_sem, e13, e14, e15, e4]
  refine acond_i (fun hlt => ?_) (fun hge => ?_)
  · have hlt := ltB hlt
    obtain ⟨n, hn⟩ := getIn hlt
    have b1 := inB (show k < (l.map pointS).length by rw [List.length_map]; exact hlt)
    have hwr := wrapS (show k ≤ 4611686018427387904 by omega)
    have hst : (l.take (k + 1)).map encPoint = (l.take k).map encPoint ++ [encPoint n] := by rw [take_succ hn]; simp
    have hg : (l.map pointS)[k]? = some (pointS n) := by simp [hn]
    have hok := hz n (mem_of_get hn)
    simp only [go_sem, e13, e14, e15, e4, getD_map hg, b1]
    have hnn := nums_c (c := 58) (l := [n.t, n.a]) (by decide) (by simp) (by simp) (by
      intro m hm
      simp only [List.mem_cons, List.not_mem_nil, or_false] at hm
      rcases hm with rfl | rfl
      · exact hok.1
      · exact hok.2) (by have := pointS_size hok; rw [pointS_join] at this; omega)
    rw [← pointS_join] at hnn
    refine PC.use hnn ?_
    simp only [go_sem, e13, e14, e15, e4]
    refine acond_i (fun h => absurd h (by simp)) (fun _ => ?_)
    simp only [go_sem, e13, e14, e15, e4]
    refine adraw_m [(0, true), (1, true), (2, true), (3, true), (4, true), (5, true), (6, true), (7, true), (8, false), (9, false), (10, false)] (by kernel_rfl) ?_
    simp only [go_sem, e13, e14, e15, e4]
    refine ⟨⟨by omega, by omega⟩, ⟨by omega, by omega⟩, ?_⟩
    refine wappE_i Ri ⟨rfl, rfl⟩ (by simp only [go_sem]) (by simp only [List.length_map, List.length_cons, List.length_nil, List.length_take]; omega) fun j' hj' => ?_
    have g1 : updH (updH H' i none) j' (some ⟨140, 2, (l.take k).map encPoint ++ [[int n.t, int n.a]]⟩) j' = some (ptRow (l.take (k + 1))) := by
      rw [updH_same, ptRow, hst]
      rfl
    simp only [go_sem, e13, e14, e15, e4, hwr]
    exact ⟨⟨k + 1, j', hlt, rfl, rfl, g1, (U.upd hi0 _).upd (U.none hj') _, U.none hj'⟩, by simp only [natOf_int]; omega⟩
  · have hge := geB hk hge
    subst hge
    rw [List.take_of_length_le (Nat.le_refl _)] at Ri
    simp only [go_sem, e13, e14, e15, e4]
    exact ⟨U, [i], by simpa using hi0, .row _ _ _ (show (fun k => if k ∈ [i] then H' k else none) i = some (ptRow l) by simp [Ri]) (ConvE.refl _)⟩
end
end Go.Proofs.YtmidcjlidploaaaGreatDoor.Sk
end
