/- Texts joined by a program: ScD, ScF, ScE. -/
import Derived.Test.YtjohkkigiacbjaaGreatDoorSp20

section
set_option linter.unusedSimpArgs false
set_option linter.unusedVariables false
namespace Go.Proofs.YtjohkkigiacbjaaGreatDoor.Sc
open Go.Aw Go.Aw.D Go.Proofs Ty
open Go.RowKit (Below)
open Go.Proofs.YtjohkkigiacbjaaGreatDoor
open Go.Proofs.YtjohkkigiacbjaaGreatDoor.Nw (ltB geB)
set_option maxRecDepth 100000
theorem cells_str {S : Sg} {w : World} {b : Nat} : ∀ (l : List ByteArray) (o sz : Nat), elsAt S w b sz o (l.map D.encStr) → ∀ (j : Nat) x, l[j]? = some x → w.cell? ⟨b, o + j, none⟩ = some (.string x)
  | [], _, _, _, _, _, h => by simp at h
  | a :: r, o, sz, h, j, x, hx => by
    simp only [List.map_cons, elsAt, D.encStr, List.length_cons, List.length_nil] at h
    obtain ⟨h1, h2, h3⟩ := h
    subst h1
    cases j with
    | zero =>
      simp at hx
      subst hx
      simp only [cellsAt, rep] at h2
      obtain ⟨⟨u, h4, _, h5⟩, _⟩ := h2
      subst h5
      exact h4
    | succ j =>
      have := cells_str r (o + (0 + 1)) (0 + 1) h3 j x (by simpa using hx)
      rwa [show o + (0 + 1) + j = o + (j + 1) by omega] at this
theorem join_c (l : List ByteArray) (s : ByteArray) (h1 : l.length ≤ 4000000) (hm : (joinB s l).size ≤ 140737488355328) : PC Tryz.prog 43 [.sl (l.map D.encStr), str s] (str (joinB s l)) := by
  intro S w vals hS hf ha
  simp only [repL] at ha
  obtain ⟨u, t, rfl, hu, v, t2, rfl, hv, rfl⟩ := ha
  simp only [rep] at hu hv
  subst hv
  obtain ⟨ad, n, c, rfl, hn, hnc, hcm, h⟩ := hu
  rw [List.length_map] at hn
  have key : Calls Tryz.prog 43 #[.slice ad n c, .string s] w fun e w' => e = .returned (.string (joinB s l)) ∧ Below w.heap.size w w' := by
    rcases h with h | ⟨b, o, sz, rfl, hb, hs, hels⟩
    · have hl : l = [] := List.map_eq_nil_iff.1 h
      subst hl
      subst hn
      exact (Tryz.strings_Join_none ad c s w).mono fun e w' ⟨he, hw⟩ => ⟨he, hw ▸ Below.refl _ _⟩
    · subst hn
      have hbk := hf
      refine (Tryz.strings_Join b o c l s w (cells_str l o sz hels) (hS.fz_lt b (hS.ro_fz b hb)) (by omega) hnc ?_).mono fun e w' ⟨he, hw⟩ => ⟨?_, hw⟩
      · have h2 := join_eq s l
        have h3 := congrArg ByteArray.size h2
        have h4 : (⟨(Lib.join (l.map (·.data.toList)) s.data.toList).toArray⟩ : ByteArray).size = (Lib.join (l.map (·.data.toList)) s.data.toList).length := by simp [ByteArray.size]
        omega
      · rw [he, join_eq]
  refine key.mono fun e w' ⟨he, hb⟩ => ?_
  exact ⟨_, str (joinB s l), noRows, S, he, rfl, hS.after hb.size fun k hk => hb.block k hk, by simp only [rep], hS.grow hb.os hb.tape hb.output hb.size fun k hk => hb.block k hk, NewK.refl _ _⟩
theorem tjoin_c (l : List ByteArray) (h1 : l.length ≤ 4000000) (hm : (joinB spB l).size ≤ 140737488355328) : PC Tryz.prog 21 [.sl (l.map D.encStr)] (str (joinB spB l)) := by
  refine PC.body (c := Tryz.f21.body.getD .skip) (fun _ => false) mixed Tryz.func21 rfl (by kernel_rfl) ?_
  unfold Tryz.f21
  simp only [Option.getD_some]
  simp only [go_sem]
  refine PC.use (join_c l spB h1 hm) ?_
  simp only [go_sem]
  exact .refl _
inductive Wd where
  | i (n : Int)
  | s (t : ByteArray)
def encW : Wd → List AV
  | .i n => [.v (.iface 3 (.int .i64 n))]
  | .s t => [.v (.iface 9 (.string t))]
def txW : Wd → ByteArray
  | .i n => decZ n
  | .s t => t
def okW : Wd → Prop
  | .i n => i64B n
  | .s t => t.size ≤ 100000000
abbrev strRow (l : List ByteArray) : Row := ⟨9, 1, l.map D.encStr⟩
theorem txW_size {w : Wd} (h : okW w) : (txW w).size ≤ 100000000 := by
  cases w with
  | i n => exact Nat.le_trans (decZ_size h) (by decide)
  | s t => exact h
theorem line_c {H : Heap} {K : AV → Heap → Prop} {b j : Nat} {T : TypeId} {a : AV} {t : ByteArray} (ws : List Wd) (hb : H b = some (bRow T a j)) (hj : H j = some (tRow t)) (ha : Fu a b) (hT : BT T) (hw : ws.length ≤ 100) (ho : ∀ w ∈ ws, okW w)
    (hlen : t.size ≤ 100000000000000)
    (hK : ∀ (H' : Heap) (j' : Nat), b ≠ j' → H' b = some (bRow T (.op b 0 0) j') → H' j' = some (tRow (t ++ lineS (ws.map txW))) → K (.tup []) H') :
    FCalls Tryz.prog 28 [.op b 0 0, .sl (ws.map encW)] H K := by
  have hbj : b ≠ j := fun e => by have h := congrArg (fun o : Option Row => o.map Row.sz) (hb.symm.trans (e ▸ hj)); simp at h
  refine FCalls.body (c := Tryz.f28.body.getD .skip) (fun t => t == 4) mixed Tryz.func28 rfl (by kernel_rfl) ?_
  unfold Tryz.f28
  simp only [Option.getD_some]
  simp only [go_sem]
  refine anew_g fun i HGi hi0 (Ri : HGi i = some (⟨9, 1, []⟩)) N => ?_
  replace hb := N hb
  obtain ⟨ne_b_i, hb⟩ := hb
  replace hj := N hj
  obtain ⟨ne_j_i, hj⟩ := hj
  clear N hi0
  simp only [go_sem, Ri, hb, hj]
  refine ⟨fun ρ H => ∃ (k : Nat) (i : Nat), k ≤ ws.length ∧ ρ 0 = .op b 0 0 ∧ ρ 9 = .sl (ws.map encW) ∧ ρ 10 = int (ws.length : Nat) ∧ ρ 11 = int k ∧ ρ 4 = .os i ∧ H i = some (strRow ((ws.take k).map txW)) ∧ H b = some (bRow T a j) ∧ H j = some (tRow t) ∧ b ≠ i ∧ j ≠ i, fun ρ _ => ws.length - natOf (ρ 11), ⟨0, i, Nat.zero_le _, by simp only [go_sem], by simp only [go_sem], by simp only [go_sem, List.length_map], (by simp only [go_sem]; rfl), by simp only [go_sem], Ri, hb, hj, ne_b_i, ne_j_i⟩, ?_⟩
  rintro ρ H ⟨k, i, hk, e0, e9, e10, e11, e4, Ri, hb, hj, ne1, ne2⟩
  simp only [go_sem, e0, e9, e10, e11, e4]
  refine acond_i (fun hlt => ?_) (fun hge => ?_)
  · have hlt := ltB hlt
    obtain ⟨w, hw1⟩ := getIn hlt
    have b1 := inB hlt
    have hwr := wrapS (show k ≤ 4611686018427387904 by omega)
    have hst : (ws.take (k + 1)).map txW = (ws.take k).map txW ++ [txW w] := by rw [take_succ hw1]; simp
    have ok := ho w (mem_of_get hw1)
    have hfin : ∀ (G : Heap) (j' : Nat), H j' = none → ∃ (k' i' : Nat), k + 1 = k' ∧ j' = i' ∧ updH (updH H i none) j' (some ⟨9, 1, ((ws.take k).map txW).map D.encStr ++ [[str (txW w)]]⟩) i' = some (strRow ((ws.take k').map txW)) ∧ updH (updH H i none) j' (some ⟨9, 1, ((ws.take k).map txW).map D.encStr ++ [[str (txW w)]]⟩) b = some (bRow T a j) ∧ updH (updH H i none) j' (some ⟨9, 1, ((ws.take k).map txW).map D.encStr ++ [[str (txW w)]]⟩) j = some (tRow t) ∧ b ≠ i' ∧ j ≠ i' := by
      intro G j' hj'
      refine ⟨_, _, rfl, rfl, ?_, keep_app hb ne1.symm hj', keep_app hj ne2.symm hj', ne_new hb hj', ne_new hj hj'⟩
      rw [updH_same, hst]
      simp only [strRow, List.map_append]
      rfl
    cases w with
    | i n =>
      simp only [go_sem, e0, e9, e10, e11, e4, getD_map hw1, b1, encW]
      refine ⟨by kernel_rfl, acond_i (fun _ => ?_) (fun hb => absurd hb (by simp))⟩
      simp only [go_sem, e0, e9, e10, e11, e4]
      refine PC.use (decimalZ_c n ok) ?_
      simp only [go_sem, e0, e9, e10, e11, e4]
      refine wappE_i Ri ⟨rfl, rfl⟩ (by simp only [go_sem]) (by simp only [List.length_map, List.length_cons, List.length_nil, List.length_take]; omega) fun j' hj' => ?_
      obtain ⟨_, _, rfl, rfl, g1, g2, g3, g4, g5⟩ := hfin H j' hj'
      simp only [go_sem, e0, e9, e10, e11, e4, hwr]
      exact ⟨⟨k + 1, j', hlt, rfl, rfl, g1, g2, g3, g4, g5⟩, by simp only [natOf_int]; omega⟩
    | s x =>
      simp only [go_sem, e0, e9, e10, e11, e4, getD_map hw1, b1, encW]
      refine ⟨by kernel_rfl, int 0, by kernel_rfl, acond_i (fun hb => absurd hb (by simp)) fun _ => ?_⟩
      simp only [go_sem, e0, e9, e10, e11, e4]
      refine ⟨by kernel_rfl, acond_i (fun _ => ?_) (fun hb => absurd hb (by simp))⟩
      simp only [go_sem, e0, e9, e10, e11, e4]
      refine wappE_i Ri ⟨rfl, rfl⟩ (by simp only [go_sem]) (by simp only [List.length_map, List.length_cons, List.length_nil, List.length_take]; omega) fun j' hj' => ?_
      obtain ⟨_, _, rfl, rfl, g1, g2, g3, g4, g5⟩ := hfin H j' hj'
      simp only [go_sem, e0, e9, e10, e11, e4, hwr]
      exact ⟨⟨k + 1, j', hlt, rfl, rfl, g1, g2, g3, g4, g5⟩, by simp only [natOf_int]; omega⟩
  · have hge := geB hk hge
    subst hge
    rw [List.take_of_length_le (Nat.le_refl _)] at Ri
    simp only [go_sem, e0, e9, e10, e11, e4]
    refine adraw_p [i] [(0, true), (1, true), (2, true), (3, true), (4, true), (5, true), (6, false)] (by simp [Ri]) (by kernel_rfl) fun Hp Hr hp hr _ hr0 => ?_
    have P_Ri := (hp i (by simp)).trans Ri
    have Q_hb := (hr b (by simp [ne1])).trans hb
    have Q_hj := (hr j (by simp [ne2])).trans hj
    simp only [go_sem, e0, e9, e10, e11, e4, P_Ri, Q_hb, Q_hj]
    have hsz : (joinB spB (ws.map txW)).size ≤ 20000000000 := Nat.le_trans (joinB_size (B := 100000000) (ws.map txW) fun y hy => by
      obtain ⟨w, hw, rfl⟩ := List.mem_map.1 hy
      exact txW_size (ho w hw)) (by rw [List.length_map]; show ws.length * (1 + 100000000) ≤ _; omega)
    refine ⟨_, .inl ⟨[.sl ((ws.map txW).map D.encStr)], .cons _ _ _ _ (.row _ _ _ P_Ri (ConvE.refl _)) .nil, tjoin_c _ (by rw [List.length_map]; omega) (by omega), rfl⟩, ?_⟩
    simp only [go_sem]
    refine ⟨by rw [i64max]; simp only [List.size_toArray, List.length_cons, List.length_nil]; omega, ?_⟩
    refine wstr_c Q_hb Q_hj ha hT (by rw [ByteArray.size_append]; show _ + (_ + 1) ≤ _; omega) fun H' j' h1 h2 h3 h4 => ?_
    simp only [go_sem]
    refine pinEnd_i fun h0 Hm hm1 hm2 => ?_
    have hji : j' ≠ i := fun e => by have := h0 i (by simp); rw [← e, h3] at this; cases this
    exact hK Hm j' h1 ((hm2 b (by simp [ne1])).trans h2) ((hm2 j' (by simp [hji])).trans h3)
end Go.Proofs.YtjohkkigiacbjaaGreatDoor.Sc
end

section
set_option linter.unusedSimpArgs false
set_option linter.unusedVariables false
namespace Go.Proofs.YtjohkkigiacbjaaGreatDoor.Sc
open Go.Aw Go.Aw.D Go.Proofs Go.RowKit Ty
open Go.Proofs.YtjohkkigiacbjaaGreatDoor
open Go.Proofs.YtjohkkigiacbjaaGreatDoor.Nw (ltB geB)
set_option maxRecDepth 100000
def sgn (b : Bool) (k : Nat) : Int := if b = true then -(k : Int) else k
theorem sgn_tmod (b : Bool) (k : Nat) : (sgn b k).tmod 10 = sgn b (k % 10) := by
  unfold sgn; cases b
  · exact tmod10 k
  · show (-(k : Int)).tmod 10 = -((k % 10 : Nat) : Int)
    rw [Int.neg_tmod, tmod10]
theorem sgn_tdiv (b : Bool) (k : Nat) : (sgn b k).tdiv 10 = sgn b (k / 10) := by
  unfold sgn; cases b
  · exact tdiv10 k
  · show (-(k : Int)).tdiv 10 = -((k / 10 : Nat) : Int)
    rw [Int.neg_tdiv, tdiv10]
theorem sgn_in {b : Bool} {k : Nat} (h : k ≤ 9223372036854775808) (h2 : b = false → k ≤ 9223372036854775807) : -9223372036854775808 ≤ sgn b k ∧ sgn b k ≤ 9223372036854775807 := by
  unfold sgn; cases b
  · have := h2 rfl; simp; omega
  · simp; omega
theorem sgn_zero {b : Bool} {k : Nat} : (sgn b k != 0) = decide (k ≠ 0) := by
  unfold sgn; cases b <;> simp <;> by_cases h : k = 0 <;> simp [h]
theorem refDecimal_c (n : Int) (h : i64B n) : PC Tryz.prog 22 [int n] (str (decZ n)) := by
  obtain ⟨b, N, hn, hN, hN2, hbn⟩ : ∃ (b : Bool) (N : Nat), n = sgn b N ∧ N ≤ 9223372036854775808 ∧ (b = false → N ≤ 9223372036854775807) ∧ decZ n = (if n < 0 then ⟨#[45]⟩ ++ decN N else decN N) := by
    rcases Int.lt_or_le n 0 with hlt | hge
    · refine ⟨true, n.natAbs, by unfold sgn; simp; omega, by have := h.1; omega, by simp, by unfold decZ; rw [if_pos hlt, if_pos hlt]⟩
    · refine ⟨false, n.toNat, by unfold sgn; simp; omega, by have := h.2; omega, fun _ => by have := h.2; omega, by unfold decZ; rw [if_neg (by omega), if_neg (by omega)]⟩
  rw [hbn]
  have hd21 : (decN N).size ≤ 21 := by
    have := decN_size20 19 N (by omega)
    omega
  clear hbn
  refine PC.body (c := Tryz.f22.body.getD .skip) (fun _ => false) mixed Tryz.func22 rfl (by kernel_rfl) ?_
  unfold Tryz.f22
  simp only [Option.getD_some]
  simp only [go_sem]
  refine ⟨fun ρ _ => ∃ (c : Bool) (k : Nat) (s : ByteArray), ρ 0 = int n ∧ ρ 5 = boo c ∧ ρ 4 = int (sgn b k) ∧ ρ 3 = str s ∧ k ≤ N ∧ (c = true → decN N = decN k ++ s) ∧ (c = false → decN N = s),
    fun ρ _ => (match ρ 4 with | .v (.int _ x) => x.natAbs | _ => 0) + bitOf (ρ 5), ⟨true, N, ByteArray.empty, rfl, rfl, by rw [hn]; rfl, rfl, Nat.le_refl _, fun _ => by simp, by simp⟩, ?_⟩
  rintro ρ H ⟨c, k, s, e0, e5, e4, e3, hk, ht, hf⟩
  simp only [go_sem, e0, e3, e4, e5]
  refine acond_i (fun hb => ?_) (fun hb => ?_)
  · subst hb
    have he := ht rfl
    have hss : s.size ≤ 21 := by have := congrArg ByteArray.size he; rw [ByteArray.size_append] at this; omega
    have hq : IntKind.i64.wrap (sgn b (k / 10)) = sgn b (k / 10) := wrap_in (sgn_in (by omega) fun hb => by have := hN2 hb; omega)
    have fin : (∃ (c : Bool) (k' : Nat) (s' : ByteArray), boo (sgn b (k / 10) != 0) = boo c ∧ int (sgn b (k / 10)) = int (sgn b k') ∧ str (digitS ((k % 10 : Nat) : Int) ++ s) = str s' ∧ k' ≤ N ∧ (c = true → decN N = decN k' ++ s') ∧ (c = false → decN N = s')) ∧ (sgn b (k / 10)).natAbs + bitOf (boo (sgn b (k / 10) != 0)) < (sgn b k).natAbs + bitOf (boo true) := by
      have hb1 : bitOf (boo true) = 1 := rfl
      rw [hb1]
      have hab : ∀ m : Nat, (sgn b m).natAbs = m := fun m => by unfold sgn; cases b <;> simp
      refine ⟨⟨_, k / 10, _, rfl, rfl, rfl, by omega, fun hc => ?_, fun hc => ?_⟩, ?_⟩
      · rw [sgn_zero] at hc
        have : 10 ≤ k := by simp at hc; omega
        rw [he, decN_step this, ByteArray.append_assoc]
      · rw [sgn_zero] at hc
        have h10 : k < 10 := by simp at hc; omega
        rw [he, decN_last h10, Nat.mod_eq_of_lt h10]
      · rw [hab, hab, sgn_zero]
        rcases Nat.lt_or_ge k 10 with h | h
        · have : k / 10 = 0 := by omega
          simp [this, bitOf]
        · simp only [bitOf]; split <;> omega
    simp only [go_sem, e0, e3, e4, e5, sgn_tmod]
    refine ⟨by omega, ?_⟩
    refine acond_i (fun hb => ?_) (fun hb => ?_)
    · have hng : IntKind.i64.wrap (0 - sgn b (k % 10)) = ((k % 10 : Nat) : Int) := by
        have hb1 : sgn b (k % 10) < 0 := by simpa using hb
        have hbt : b = true := by cases b with | true => rfl | false => (unfold sgn at hb1; simp at hb1; omega)
        subst hbt
        rw [wrap_in (by unfold sgn; simp; omega)]
        unfold sgn; simp
      simp only [go_sem, e0, e3, e4, e5, sgn_tmod, sgn_tdiv, hng, hq]
      refine ⟨?_, by decide, fin⟩
      rw [strOf1, i64max]; omega
    · have hng : sgn b (k % 10) = ((k % 10 : Nat) : Int) := by
        have hb1 : ¬ sgn b (k % 10) < 0 := by simpa using hb
        unfold sgn at hb1 ⊢
        cases b <;> simp at hb1 ⊢; omega
      simp only [go_sem, e0, e3, e4, e5, sgn_tmod, sgn_tdiv, hng, hq]
      refine ⟨?_, by decide, fin⟩
      rw [strOf1, i64max]; omega
  · subst hb
    have he := hf rfl
    simp only [go_sem, e0, e3, e4, e5]
    refine acond_i (fun hb => ?_) (fun hb => ?_)
    · have hlt : n < 0 := by simpa using hb
      simp only [go_sem, e0, e3, e4, e5]
      rw [if_pos hlt, he]
      refine ⟨?_, .refl _⟩
      rw [i64max]
      show ((1 + s.size : Nat) : Int) ≤ _
      rw [← he]; omega
    · have hge : ¬ n < 0 := by simpa using hb
      simp only [go_sem, e0, e3, e4, e5]
      rw [if_neg hge, he]
      exact .refl _
theorem joinB_take {α : Type} {s : ByteArray} {f : α → ByteArray} {l : List α} {k : Nat} {x : α} (h : l[k]? = some x) : joinB s ((l.take (k + 1)).map f) = (if 0 < k then joinB s ((l.take k).map f) ++ s else joinB s ((l.take k).map f)) ++ f x := by
  cases l with
  | nil => simp at h
  | cons a r =>
    cases k with
    | zero =>
      simp at h
      subst h
      simp only [Nat.lt_irrefl, if_false, List.take_zero, List.map_nil, joinB, List.take_succ_cons, List.map_cons, tailB_nil]
      rw [nil_app, app_nil]
    | succ k =>
      rw [if_pos (Nat.succ_pos k), List.take_succ_cons, List.take_succ_cons, List.map_cons, List.map_cons, joinB_cons, joinB_cons, tailB_take (by simpa using h), app_assoc, app_assoc]
theorem tailB_le {α : Type} {s : ByteArray} {f : α → ByteArray} {B : Nat} (l : List α) (k : Nat) (h : ∀ a ∈ l, (f a).size ≤ B) : (tailB s ((l.take k).map f)).size ≤ l.length * (s.size + B) := by
  have := tailB_size (s := s) (B := B) ((l.take k).map f) fun a ha => by
    obtain ⟨x, hx, rfl⟩ := List.mem_map.1 ha
    exact h x (List.mem_of_mem_take hx)
  refine Nat.le_trans this (Nat.mul_le_mul_right _ ?_)
  rw [List.length_map, List.length_take]; omega
theorem joinB_le {α : Type} {s : ByteArray} {f : α → ByteArray} {B : Nat} (l : List α) (k : Nat) (h : ∀ a ∈ l, (f a).size ≤ B) : (joinB s ((l.take k).map f)).size ≤ l.length * (s.size + B) := by
  have := joinB_size (s := s) (B := B) ((l.take k).map f) fun a ha => by
    obtain ⟨x, hx, rfl⟩ := List.mem_map.1 ha
    exact h x (List.mem_of_mem_take hx)
  refine Nat.le_trans this (Nat.mul_le_mul_right _ ?_)
  rw [List.length_map, List.length_take]; omega
theorem map_id' (l : List ByteArray) : l.map (fun a => a) = l := List.map_id l
theorem refJoin_c (l : List ByteArray) (hl : l.length ≤ 2000000) (hs : ∀ a ∈ l, a.size ≤ 200000000) : PC Tryz.prog 23 [.sl (l.map D.encStr)] (str (joinB spB l)) := by
  refine PC.body (c := Tryz.f23.body.getD .skip) (fun _ => false) mixed Tryz.func23 rfl (by kernel_rfl) ?_
  unfold Tryz.f23
  simp only [Option.getD_some]
  simp only [go_sem]
  refine ⟨fun ρ H => ∃ (k : Nat), k ≤ l.length ∧ ρ 0 = .sl (l.map D.encStr) ∧ ρ 4 = int k ∧ ρ 3 = str (joinB spB ((l.take k).map fun a => a)), fun ρ _ => l.length - natOf (ρ 4), ⟨0, Nat.zero_le _, by simp only [go_sem], (by simp only [go_sem]; rfl), by simp only [go_sem]; rfl⟩, ?_⟩
  rintro ρ H ⟨k, hk, e0, e4, e3⟩
  simp only [go_sem, e0, e4, e3]
  refine acond_i (fun hlt => ?_) (fun hge => ?_)
  · have hlt := ltB hlt
    obtain ⟨a, ha⟩ := getIn hlt
    have b1 := inB hlt
    have h1 : spB.size = 1 := rfl
    have hj := Nat.le_trans (joinB_le (s := spB) (B := 200000000) l k hs) (show l.length * (spB.size + 200000000) ≤ 400000002000000 by rw [h1]; omega)
    have hsa := hs a (mem_of_get ha)
    have hw := wrapS (show k ≤ 4611686018427387904 by omega)
    simp only [go_sem, e0, e4, e3]
    refine acond_i (fun hb => ?_) (fun hb => ?_)
    · have hk0 : 0 < k := by simpa using hb
      have hst := joinB_take (s := spB) (f := fun a => a) ha
      rw [if_pos hk0] at hst
      simp only [go_sem, e0, e4, e3, getD_map ha, b1, hw]
      refine ⟨by rw [i64max]; simp only [ByteArray.size_append, List.size_toArray, List.length_cons, List.length_nil]; omega, by rw [i64max]; simp only [ByteArray.size_append, List.size_toArray, List.length_cons, List.length_nil]; omega, ⟨k + 1, hlt, rfl, ?_⟩, by simp only [natOf_int]; omega⟩
      rw [hst]; rfl
    · have hk0 : k = 0 := by simpa using hb
      have hst := joinB_take (s := spB) (f := fun a => a) ha
      rw [if_neg (by omega)] at hst
      simp only [go_sem, e0, e4, e3, getD_map ha, b1, hw]
      refine ⟨by rw [i64max]; omega, ⟨k + 1, hlt, rfl, ?_⟩, by simp only [natOf_int]; omega⟩
      rw [hst]
  · have hge := geB hk hge
    subst hge
    simp only [go_sem, e0, e4, e3]
    rw [List.take_of_length_le (Nat.le_refl _), map_id']
    exact .refl _
theorem refNumbers_c (l : List Int) (hl : l.length ≤ 2000000) (hz : ∀ n ∈ l, i64B n) : PC Tryz.prog 36 [.sl (l.map encInt)] (str (tailB spB (l.map decZ))) := by
  refine PC.body (c := Tryz.f36.body.getD .skip) (fun _ => false) mixed Tryz.func36 rfl (by kernel_rfl) ?_
  unfold Tryz.f36
  simp only [Option.getD_some]
  simp only [go_sem]
  refine ⟨fun ρ H => ∃ (k : Nat), k ≤ l.length ∧ ρ 0 = .sl (l.map encInt) ∧ ρ 4 = int k ∧ ρ 3 = str (tailB spB ((l.take k).map decZ)), fun ρ _ => l.length - natOf (ρ 4), ⟨0, Nat.zero_le _, by simp only [go_sem], (by simp only [go_sem]; rfl), by simp only [go_sem]; rfl⟩, ?_⟩
  rintro ρ H ⟨k, hk, e0, e4, e3⟩
  simp only [go_sem, e0, e4, e3]
  refine acond_i (fun hlt => ?_) (fun hge => ?_)
  · have hlt := ltB hlt
    obtain ⟨a, ha⟩ := getIn hlt
    have b1 := inB hlt
    have hj := Nat.le_trans (tailB_le (s := spB) (f := decZ) (B := 21) l k fun n hn => decZ_size (hz n hn)) (show l.length * ((spB : ByteArray).size + 21) ≤ 44000000 by show l.length * (1 + 21) ≤ _; omega)
    have h1 : spB.size = 1 := rfl
    have hsa := decZ_size (hz a (mem_of_get ha))
    simp only [go_sem, e0, e4, e3, getD_map ha, b1]
    refine ⟨by rw [i64max]; simp only [ByteArray.size_append, List.size_toArray, List.length_cons, List.length_nil]; omega, ?_⟩
    refine PC.use (refDecimal_c a (hz a (mem_of_get ha))) ?_
    simp only [go_sem, e0, e4, e3, wrapS (show k ≤ 4611686018427387904 by omega)]
    refine ⟨by rw [i64max]; simp only [ByteArray.size_append, List.size_toArray, List.length_cons, List.length_nil]; omega, ⟨k + 1, hlt, rfl, ?_⟩, by simp only [natOf_int]; omega⟩
    rw [tailB_take ha, ← app_assoc]; rfl
  · have hge := geB hk hge
    subst hge
    simp only [go_sem, e0, e4, e3]
    rw [List.take_of_length_le (Nat.le_refl _)]
    exact .refl _
theorem refList_c (l : List Int) (hl : l.length ≤ 2000000) (hz : ∀ n ∈ l, i64B n) : PC Tryz.prog 71 [.sl (l.map encInt)] (str (listS l)) := by
  cases l with
  | nil =>
    refine PC.body (c := Tryz.f71.body.getD .skip) (fun _ => false) mixed Tryz.func71 rfl (by kernel_rfl) ?_
    unfold Tryz.f71
    simp only [Option.getD_some]
    simp only [go_sem]
    refine acond_i (fun hb => ?_) (fun hb => absurd hb (by simp))
    simp only [go_sem]
    exact .refl _
  | cons a0 r =>
  have hr : listS (a0 :: r) = joinB ⟨#[44]⟩ ((a0 :: r).map decZ) := rfl
  rw [hr]
  have hsa0 := decZ_size (hz a0 (by simp))
  generalize hL : a0 :: r = l at *
  have h0 : l[0]? = some a0 := by rw [← hL]; rfl
  have h0l : 0 < l.length := by rw [← hL]; simp
  refine PC.body (c := Tryz.f71.body.getD .skip) (fun _ => false) mixed Tryz.func71 rfl (by kernel_rfl) ?_
  unfold Tryz.f71
  simp only [Option.getD_some]
  simp only [go_sem]
  refine acond_i (fun hb => by simp at hb; rw [hb] at h0l; simp at h0l) (fun hb => ?_)
  have b0 : 0 ≤ (0 : Int) ∧ (0 : Int) < (l.length : Nat) := by omega
  simp only [go_sem, getD_map h0, b0, List.length_map]
  refine PC.use (refDecimal_c a0 (hz a0 (mem_of_get h0))) ?_
  simp only [go_sem]
  refine ⟨fun ρ _ => ∃ k : Nat, k ≤ l.length ∧ 0 < k ∧ ρ 0 = .sl (l.map encInt) ∧ ρ 4 = int k ∧ ρ 3 = str (joinB ⟨#[44]⟩ ((l.take k).map decZ)), fun ρ _ => l.length - natOf (ρ 4), ⟨1, h0l, Nat.one_pos, by simp only [go_sem], by simp only [go_sem]; rfl, ?_⟩, ?_⟩
  · simp only [go_sem]
    have := joinB_take (s := ⟨#[44]⟩) (f := decZ) h0
    rw [this, if_neg (by omega), List.take_zero]
    show str _ = str (⟨#[]⟩ ++ _)
    rw [nil_app]
  rintro ρ H ⟨k, hk, hk0, e0, e4, e3⟩
  simp only [go_sem, e0, e4, e3, List.length_map]
  refine acond_i (fun hlt => ?_) (fun hge => ?_)
  · have hlt := ltB hlt
    obtain ⟨a, ha⟩ := getIn hlt
    have b1 := inB hlt
    have hj := Nat.le_trans (joinB_le (s := ⟨#[44]⟩) (f := decZ) (B := 21) l k fun n hn => decZ_size (hz n hn)) (show l.length * ((⟨#[44]⟩ : ByteArray).size + 21) ≤ 44000000 by show l.length * (1 + 21) ≤ _; omega)
    have hsa := decZ_size (hz a (mem_of_get ha))
    simp only [go_sem, e0, e4, e3, getD_map ha, b1]
    refine ⟨by rw [i64max]; simp only [ByteArray.size_append, List.size_toArray, List.length_cons, List.length_nil]; omega, ?_⟩
    refine PC.use (refDecimal_c a (hz a (mem_of_get ha))) ?_
    simp only [go_sem, e0, e4, e3, wrapS (show k ≤ 4611686018427387904 by omega)]
    refine ⟨by rw [i64max]; simp only [ByteArray.size_append, List.size_toArray, List.length_cons, List.length_nil]; omega, ⟨k + 1, hlt, by omega, rfl, ?_⟩, by simp only [natOf_int]; omega⟩
    rw [joinB_take ha, if_pos hk0]
  · have hge := geB hk hge
    subst hge
    simp only [go_sem, e0, e4, e3]
    rw [List.take_of_length_le (Nat.le_refl _)]
    exact .refl _
end Go.Proofs.YtjohkkigiacbjaaGreatDoor.Sc
end

section
set_option linter.unusedSimpArgs false
set_option linter.unusedVariables false
namespace Go.Proofs.YtjohkkigiacbjaaGreatDoor.Sc
open Go.Aw Go.Aw.D Go.Proofs Ty
open Go.RowKit (Below)
open Go.Proofs.YtjohkkigiacbjaaGreatDoor
open Go.Proofs.YtjohkkigiacbjaaGreatDoor.Nw (ltB geB)
set_option maxRecDepth 100000
theorem listS_join {l : List Int} (h : l ≠ []) : listS l = joinB ⟨#[44]⟩ (l.map decZ) := by
  cases l with
  | nil => exact absurd rfl h
  | cons a r => rfl
theorem travelS_join {l : List Point} (h : l ≠ []) : travelS l = joinB ⟨#[44]⟩ (l.map pointS) := by
  cases l with
  | nil => exact absurd rfl h
  | cons a r => rfl
theorem mapB_size {α : Type} {f : α → ByteArray} {s : ByteArray} {B : Nat} (l : List α) (h : ∀ a ∈ l, (f a).size ≤ B) : (joinB s (l.map f)).size ≤ l.length * (s.size + B) := by
  have := joinB_le (s := s) (f := f) l l.length h
  rwa [List.take_of_length_le (Nat.le_refl _)] at this
theorem listS_size {l : List Int} (hl : l.length ≤ 1048576) (h : ∀ n ∈ l, i64B n) : (listS l).size ≤ 30000000 := by
  by_cases h0 : l = []
  · subst h0; exact (by decide : (1 : Nat) ≤ 30000000)
  · rw [listS_join h0]
    refine Nat.le_trans (mapB_size (s := ⟨#[44]⟩) (f := decZ) (B := 21) l fun n hn => decZ_size (h n hn)) ?_
    show l.length * (1 + 21) ≤ _
    omega
theorem list_c (l : List Int) (hl : l.length ≤ 1048576) (hz : ∀ n ∈ l, i64B n) : PC Tryz.prog 30 [.sl (l.map D.encInt)] (str (listS l)) := by
  by_cases h0 : l = []
  · subst h0
    refine PC.body (c := Tryz.f30.body.getD .skip) (fun _ => false) mixed Tryz.func30 rfl (by kernel_rfl) ?_
    unfold Tryz.f30
    simp only [Option.getD_some]
    simp only [go_sem]
    refine acond_i (fun hb => ?_) (fun hb => absurd hb (by simp))
    simp only [go_sem]
    exact .refl _
  rw [listS_join h0]
  refine PC.body (c := Tryz.f30.body.getD .skip) (fun t => t == 3) mixed Tryz.func30 rfl (by kernel_rfl) ?_
  unfold Tryz.f30
  simp only [Option.getD_some]
  simp only [go_sem]
  refine acond_i (fun hb => absurd (by simpa using hb) h0) (fun hb => ?_)
  simp only [go_sem]
  refine anew_g fun i HGi hi0 (Ri : HGi i = some (⟨9, 1, []⟩)) N => ?_
  clear N hi0
  simp only [go_sem, Ri]
  refine ⟨fun ρ H => ∃ (k : Nat) (i : Nat), k ≤ l.length ∧ ρ 9 = .sl (l.map D.encInt) ∧ ρ 10 = int (l.length : Nat) ∧ ρ 11 = int k ∧ ρ 3 = .os i ∧ H i = some (strRow ((l.take k).map decZ)), fun ρ _ => l.length - natOf (ρ 11), ⟨0, i, Nat.zero_le _, by simp only [go_sem], by simp only [go_sem, List.length_map], (by simp only [go_sem]; rfl), by simp only [go_sem], Ri⟩, ?_⟩
  rintro ρ H ⟨k, i, hk, e9, e10, e11, e3, Ri⟩
  simp only [go_sem, e9, e10, e11, e3]
  refine acond_i (fun hlt => ?_) (fun hge => ?_)
  · have hlt := ltB hlt
    obtain ⟨n, hn⟩ := getIn hlt
    have b1 := inB hlt
    have hwr := wrapS (show k ≤ 4611686018427387904 by omega)
    have hst : (l.take (k + 1)).map decZ = (l.take k).map decZ ++ [decZ n] := by rw [take_succ hn]; simp
    simp only [go_sem, e9, e10, e11, e3, getD_map hn, b1]
    refine PC.use (decimalZ_c n (hz n (mem_of_get hn))) ?_
    simp only [go_sem, e9, e10, e11, e3]
    refine wappE_i Ri ⟨rfl, rfl⟩ (by simp only [go_sem]) (by simp only [List.length_map, List.length_cons, List.length_nil, List.length_take]; omega) fun j' hj' => ?_
    have g1 : updH (updH H i none) j' (some ⟨9, 1, ((l.take k).map decZ).map D.encStr ++ [[str (decZ n)]]⟩) j' = some (strRow ((l.take (k + 1)).map decZ)) := by
      rw [updH_same, hst]
      simp only [strRow, List.map_append]
      rfl
    simp only [go_sem, e9, e10, e11, e3, hwr]
    exact ⟨⟨k + 1, j', hlt, rfl, rfl, g1⟩, by simp only [natOf_int]; omega⟩
  · have hge := geB hk hge
    subst hge
    rw [List.take_of_length_le (Nat.le_refl _)] at Ri
    simp only [go_sem, e9, e10, e11, e3]
    refine QFlat.use ⟨[.sl ((l.map decZ).map D.encStr), str ⟨#[44]⟩], .cons _ _ _ _ (.row _ _ _ Ri (ConvE.refl _)) (.cons _ _ _ _ (.refl _) .nil), join_c _ _ (by rw [List.length_map]; omega) ?_, rfl⟩ ?_
    · refine Nat.le_trans (mapB_size (s := ⟨#[44]⟩) (f := decZ) (B := 21) l fun n hn => decZ_size (hz n hn)) ?_
      show l.length * (1 + 21) ≤ _
      omega
    · simp only [go_sem]
      exact .refl _
theorem num_of {w : World} (h : ∀ t ∈ tabL, t.2 (varCells w t.1)) : ∃ m : Int, w.cell? ⟨0, 0, none⟩ = some (.int .i64 m) := by
  have h1 : isNum (varCells w 0) := h (0, isNum) (by simp [tabL])
  obtain ⟨m, h1⟩ := h1
  refine ⟨m, ?_⟩
  unfold varCells at h1
  split at h1
  · rename_i cs t fz hw
    injection h1 with h1
    subst h1
    simp [World.cell?, hw]
  · cases h1
theorem replace_c (s : ByteArray) (hs : s.size ≤ 4000000000) : PC Tryz.prog 58 [str s, str ⟨#[44]⟩, str ⟨#[58]⟩] (str (turnB 44 58 s)) := by
  refine PC.lib (a := [.string s, .string ⟨#[44]⟩, .string ⟨#[58]⟩]) (v := .string (turnB 44 58 s)) (fun S w => rfl) fun w ht => ?_
  obtain ⟨m, hm⟩ := num_of ht
  have h1 : 1 ≤ (⟨#[44]⟩ : ByteArray).size := Nat.le_refl 1
  have hmul := Lib.countB_mul_le (⟨#[44]⟩ : ByteArray) h1 s.size s (Nat.le_refl _)
  have e1 : (⟨#[44]⟩ : ByteArray).size = 1 := rfl
  have e2 : (⟨#[58]⟩ : ByteArray).size = 1 := rfl
  rw [e1] at hmul
  refine (Tryz.strings_ReplaceAll s ⟨#[44]⟩ ⟨#[58]⟩ m w (by omega) hm h1 (by rw [e2]; omega)).mono fun e w' ⟨he, hb⟩ => ⟨?_, hb⟩
  rw [he]
  show Ending.returned (.string ⟨(Lib.replaceAll s.data.toList [44] [58]).toArray⟩) = _
  rw [replaceAll_one (by decide)]
  rfl
def okStop (s : Stop) : Prop := i64B s.place ∧ i64B s.start ∧ i64B s.close ∧ i64B s.service
theorem stop_c (s : Stop) (hz : okStop s) : PC Tryz.prog 31 [.agg (encStop s)] (str (stopS s)) := by
  refine PC.body (c := Tryz.f31.body.getD .skip) (fun _ => false) mixed Tryz.func31 rfl (by kernel_rfl) ?_
  unfold Tryz.f31
  simp only [Option.getD_some]
  simp only [go_sem]
  refine anew_i fun j hj => ?_
  simp only [go_sem]
  refine wputE_n (updH_same _ _ _) (by simp) ?_
  have R : ∀ H q, updH H j q j = q := fun H q => updH_same _ _ _
  simp only [go_sem, R]
  have hzs : (s.place == -1 && (s.start == 0 && (s.close == 0 && (s.service == 0 && true)))) = zeroStop s := by unfold zeroStop; simp [Bool.and_assoc]
  refine acond_i (fun hb => ?_) (fun hb => ?_) <;> rw [hzs] at hb
  · simp only [go_sem]
    have : stopS s = ⟨#[46]⟩ := if_pos hb
    rw [this]; exact .refl _
  · have hl : ∀ n ∈ [s.place, s.start, s.close, s.service], i64B n := by
      intro n hn
      simp only [List.mem_cons, List.not_mem_nil, or_false] at hn
      rcases hn with rfl | rfl | rfl | rfl
      · exact hz.1
      · exact hz.2.1
      · exact hz.2.2.1
      · exact hz.2.2.2
    have hls := listS_size (l := [s.place, s.start, s.close, s.service]) (by simp) hl
    simp only [go_sem, R]
    refine PC.use (list_c [s.place, s.start, s.close, s.service] (by simp) hl) ?_
    simp only [go_sem]
    refine PC.use (replace_c _ (by omega)) ?_
    simp only [go_sem]
    have : stopS s = turnB 44 58 (listS [s.place, s.start, s.close, s.service]) := by
      rw [listS_join (by simp), turn_join]
      exact if_neg (by rw [hb]; simp)
    rw [this]; exact .refl _
def okPoint (p : Point) : Prop := i64B p.t ∧ i64B p.a
theorem pointS_size {p : Point} (h : okPoint p) : (pointS p).size ≤ 43 := by
  have h1 := decZ_size h.1
  have h2 := decZ_size h.2
  unfold pointS
  rw [ByteArray.size_append, ByteArray.size_append]
  show _ + (1 + _) ≤ _
  omega
theorem travelS_size {l : List Point} (hl : l.length ≤ 1048576) (h : ∀ n ∈ l, okPoint n) : (travelS l).size ≤ 50000000 := by
  by_cases h0 : l = []
  · subst h0; exact (by decide : (1 : Nat) ≤ 50000000)
  · rw [travelS_join h0]
    refine Nat.le_trans (mapB_size (s := ⟨#[44]⟩) (f := pointS) (B := 43) l fun n hn => pointS_size (h n hn)) ?_
    show l.length * (1 + 43) ≤ _
    omega
theorem travel_c (l : List Point) (hl : l.length ≤ 1048576) (hz : ∀ n ∈ l, okPoint n) : PC Tryz.prog 29 [.sl (l.map encPoint)] (str (travelS l)) := by
  by_cases h0 : l = []
  · subst h0
    refine PC.body (c := Tryz.f29.body.getD .skip) (fun _ => false) mixed Tryz.func29 rfl (by kernel_rfl) ?_
    unfold Tryz.f29
    simp only [Option.getD_some]
    simp only [go_sem]
    refine acond_i (fun hb => ?_) (fun hb => absurd hb (by simp))
    simp only [go_sem]
    exact .refl _
  rw [travelS_join h0]
  refine PC.body (c := Tryz.f29.body.getD .skip) (fun t => t == 3) mixed Tryz.func29 rfl (by kernel_rfl) ?_
  unfold Tryz.f29
  simp only [Option.getD_some]
  simp only [go_sem]
  refine acond_i (fun hb => absurd (by simpa using hb) h0) (fun hb => ?_)
  simp only [go_sem]
  refine anew_g fun i HGi hi0 (Ri : HGi i = some (⟨9, 1, []⟩)) N => ?_
  clear N hi0
  simp only [go_sem, Ri]
  refine ⟨fun ρ H => ∃ (k : Nat) (i : Nat), k ≤ l.length ∧ ρ 9 = .sl (l.map encPoint) ∧ ρ 10 = int (l.length : Nat) ∧ ρ 11 = int k ∧ ρ 3 = .os i ∧ H i = some (strRow ((l.take k).map pointS)), fun ρ _ => l.length - natOf (ρ 11), ⟨0, i, Nat.zero_le _, by simp only [go_sem], by simp only [go_sem, List.length_map], (by simp only [go_sem]; rfl), by simp only [go_sem], Ri⟩, ?_⟩
  rintro ρ H ⟨k, i, hk, e9, e10, e11, e3, Ri⟩
  simp only [go_sem, e9, e10, e11, e3]
  refine acond_i (fun hlt => ?_) (fun hge => ?_)
  · have hlt := ltB hlt
    obtain ⟨n, hn⟩ := getIn hlt
    have b1 := inB hlt
    have hwr := wrapS (show k ≤ 4611686018427387904 by omega)
    have hst : (l.take (k + 1)).map pointS = (l.take k).map pointS ++ [pointS n] := by rw [take_succ hn]; simp
    have hok := hz n (mem_of_get hn)
    have s1 := decZ_size hok.1
    have s2 := decZ_size hok.2
    simp only [go_sem, e9, e10, e11, e3, getD_map hn, b1]
    refine anew_i fun p hp0 => ?_
    simp only [go_sem, e9, e10, e11, e3, hwr, Ri]
    refine wputE_v hp0 (by simp [encPoint]) fun HGp (Rp : HGp p = some (⟨134, 2, [encPoint n]⟩)) N => ?_
    replace Ri := N Ri
    obtain ⟨ne_i_p, Ri⟩ := Ri
    clear N hp0
    simp only [go_sem, e9, e10, e11, e3, hwr, Rp, Ri]
    refine adraw_p [p] [(0, true), (1, true), (2, true), (3, true), (4, true), (5, true), (6, true), (7, true), (8, true), (9, false), (10, false), (11, true)] (by simp [Rp]) (by kernel_rfl) fun Hp Hr hp hr _ hr0 => ?_
    have P_Rp := (hp p (by simp)).trans Rp
    have Q_Ri := (hr i (by simp [ne_i_p])).trans Ri
    simp only [go_sem, e9, e10, e11, e3, P_Rp, Q_Ri]
    refine ⟨_, .inl ⟨_, .cons _ _ _ _ (.refl _) .nil, decimalZ_c _ hok.1, rfl⟩, ?_⟩
    simp only [go_sem, e9, e10, e11, e3, P_Rp]
    refine ⟨by rw [i64max]; simp only [List.size_toArray, List.length_cons, List.length_nil]; omega, _, .inl ⟨_, .cons _ _ _ _ (.refl _) .nil, decimalZ_c _ hok.2, rfl⟩, ?_⟩
    simp only [go_sem, e9, e10, e11, e3, P_Rp]
    refine ⟨by rw [i64max]; simp only [ByteArray.size_append, List.size_toArray, List.length_cons, List.length_nil]; omega, ?_⟩
    refine wappE_i Q_Ri ⟨rfl, rfl⟩ (by simp only [go_sem]) (by simp only [List.length_map, List.length_cons, List.length_nil, List.length_take]; omega) fun j' hj' => ?_
    simp only [go_sem, e9, e10, e11, e3]
    refine pinEnd_i fun h0 Hm hm1 hm2 => ?_
    have hjp : j' ≠ p := fun e => by have := h0 p (by simp); rw [← e, updH_same] at this; cases this
    have g1 := (hm2 j' (by simp [hjp])).trans (updH_same _ _ _)
    simp only [go_sem, e9, e10, e11, e3, hwr]
    refine ⟨⟨k + 1, j', hlt, rfl, rfl, g1.trans ?_⟩, by simp only [natOf_int]; omega⟩
    rw [hst]
    simp only [strRow, List.map_append, pointS, app_assoc]
    rfl
  · have hge := geB hk hge
    subst hge
    rw [List.take_of_length_le (Nat.le_refl _)] at Ri
    simp only [go_sem, e9, e10, e11, e3]
    refine QFlat.use ⟨[.sl ((l.map pointS).map D.encStr), str ⟨#[44]⟩], .cons _ _ _ _ (.row _ _ _ Ri (ConvE.refl _)) (.cons _ _ _ _ (.refl _) .nil), join_c _ _ (by rw [List.length_map]; omega) ?_, rfl⟩ ?_
    · refine Nat.le_trans (mapB_size (s := ⟨#[44]⟩) (f := pointS) (B := 43) l fun n hn => pointS_size (hz n hn)) ?_
      show l.length * (1 + 43) ≤ _
      omega
    · simp only [go_sem]
      exact .refl _
end Go.Proofs.YtjohkkigiacbjaaGreatDoor.Sc
end
