/- Texts joined by a program: ScC, ScD, ScF, ScE, SkM, SkP, SkQ, SkW. -/
import Derived.Lib.AtoiAllCases
import Derived.Lib.ItoaMem
import Derived.Lib.SplitLaws
import Derived.Lib.CutLaws
import Derived.Test.YtmidcjlidploaaaGreatDoorSb19

section
set_option linter.unusedSimpArgs false
set_option linter.unusedVariables false
namespace Go.Proofs.YtmidcjlidploaaaGreatDoor.Sc
open Go.Aw Go.Aw.D Go.Proofs Go.RowKit Ty
open Go.Proofs.YtmidcjlidploaaaGreatDoor
set_option maxRecDepth 100000
theorem strA_app (s t : ByteArray) : strA (s ++ t) = strA s ++ strA t := by
  unfold strA
  rw [ByteArray.data_append, Array.toList_append, List.map_append]
abbrev bRow (T : TypeId) (a : AV) (j : Nat) : Row := ⟨T, 2, [[a, .os j]]⟩
abbrev tRow (s : ByteArray) : Row := ⟨5, 1, strA s⟩
structure BT (T : TypeId) : Prop where
  lies : ∀ n, 0 < n → liesAt Tryz.prog Tryz.prog.depth T n 0 65 1 = true
  cells : Tryz.prog.cellsOf T = 2
abbrev Fu (a : AV) (k : Nat) : Prop := a = .v (.pointer none) ∨ a = .op k 0 0
theorem len_c {H : Heap} {K : AV → Heap → Prop} {k j : Nat} {T : TypeId} {a : AV} {s : ByteArray} (hk : H k = some (bRow T a j)) (hj : H j = some (tRow s)) (hK : K (int s.size) H) : FCalls Tryz.prog 14 [.op k 0 0] H K := by
  refine FCalls.body (c := Tryz.f14.body.getD .skip) (fun _ => false) mixed Tryz.func14 rfl (by kernel_rfl) ?_
  unfold Tryz.f14
  simp only [Option.getD_some]
  simp only [go_sem]
  rw [hk]
  simp only [go_sem]
  rw [hj]
  simp only [go_sem]
  rw [strA_len]
  exact hK
theorem wstr_c {H : Heap} {K : AV → Heap → Prop} {k j : Nat} {T : TypeId} {a : AV} {t s : ByteArray} (hk : H k = some (bRow T a j)) (hj : H j = some (tRow t)) (ha : Fu a k) (hT : BT T) (hlen : t.size + s.size ≤ 140737488355328)
    (hK : ∀ (H' : Heap) (j' : Nat), k ≠ j' → H' k = some (bRow T (.op k 0 0) j') → H' j' = some (tRow (t ++ s)) → (∀ {i r}, H i = some r → i ≠ k → i ≠ j → i ≠ j' ∧ H' i = some r) → K (.tup [int s.size, .v .nilIface]) H') :
    FCalls Tryz.prog 12 [.op k 0 0, str s] H K := by
  have hkj : k ≠ j := fun e => by have h := congrArg (fun o : Option Row => o.map Row.sz) (hk.symm.trans (e ▸ hj)); simp at h
  refine FCalls.body (c := Tryz.f12.body.getD .skip) (fun _ => false) mixed Tryz.func12 rfl (by kernel_rfl) ?_
  unfold Tryz.f12
  simp only [Option.getD_some]
  simp only [go_sem]
  refine chk_c hk ha hT.lies hT.cells fun H1 h1 hold => ?_
  have hj1 : H1 j = some (tRow t) := (hold j hkj.symm).trans hj
  simp only [go_sem, h1]
  refine wappS_i el63 hj1 ⟨rfl, rfl⟩ (by kernel_rfl) (by rw [strA_len]; exact hlen) fun j' hj0 => ?_
  have hkj' : k ≠ j' := ne_new h1 hj0
  have h2 : updH (updH H1 j none) j' (some ⟨5, 1, strA t ++ strA s⟩) k = some (bRow T (.op k 0 0) j) := keep_app h1 hkj.symm hj0
  have h3 : updH (updH H1 j none) j' (some ⟨5, 1, strA t ++ strA s⟩) j' = some (tRow (t ++ s)) := by rw [updH_same, show (some (⟨5, 1, strA t ++ strA s⟩ : Row)) = some (tRow (t ++ s)) by rw [← strA_app]]
  have hold2 : ∀ {i r}, H1 i = some r → i ≠ j → i ≠ j' ∧ updH (updH H1 j none) j' (some ⟨5, 1, strA t ++ strA s⟩) i = some r := fun hi hn => ⟨ne_new hi hj0, keep_app hi hn.symm hj0⟩
  generalize updH (updH H1 j none) j' _ = H2 at *
  simp only [go_sem]
  refine wputE_1 so63 h2 ⟨by simp, rfl, by simp⟩ ?_
  simp only [go_sem]
  refine hK _ j' hkj' (by rw [updH_same]) (by rw [updH_ne _ _ _ _ hkj'.symm]; exact h3) fun hi hik hij => ?_
  obtain ⟨e1, e2⟩ := hold2 ((hold _ hik).trans hi) hij
  exact ⟨e1, by rw [updH_ne _ _ _ _ hik]; exact e2⟩
theorem rowAt_one {P : Program} {fits : TypeId → Bool} {d : Nat} {e : TypeId} {n : Nat} (hn : 0 < n) (h : rowAt P fits (d + 1) e 1 0 1 = true) : rowAt P fits (d + 1) e n 0 1 = true := by
  unfold rowAt at h ⊢
  simp only [Nat.zero_div, Nat.zero_mod] at h ⊢
  rw [show decide (0 + 1 ≤ n) = true by simp; omega, show decide (0 < n) = true by simp; exact hn]
  exact h
theorem bt_of {T : TypeId} (h : Tryz.prog.cellsOf T = 2) (h2 : rowAt Tryz.prog (sameLayout Tryz.prog Tryz.prog.depth · 65) Tryz.prog.depth T 1 0 1 = true) : BT T := by
  refine ⟨fun n hn => ?_, h⟩
  obtain ⟨d, hd⟩ : ∃ d, Tryz.prog.depth = d + 1 := ⟨_, rfl⟩
  rw [hd] at h2 ⊢
  unfold liesAt
  rw [hd, rowAt_one hn h2, Bool.true_or]
theorem btB : BT 65 := bt_of (by kernel_rfl) (by kernel_rfl)
theorem btW : BT 94 := bt_of (by kernel_rfl) (by kernel_rfl)
end Go.Proofs.YtmidcjlidploaaaGreatDoor.Sc
end

section
set_option linter.unusedSimpArgs false
set_option linter.unusedVariables false
namespace Go.Proofs.YtmidcjlidploaaaGreatDoor.Sc
open Go.Aw Go.Aw.D Go.Proofs Ty
open Go.RowKit (Below)
open Go.Proofs.YtmidcjlidploaaaGreatDoor
open Go.Proofs.YtmidcjlidploaaaGreatDoor.Nw (ltB geB)
set_option maxRecDepth 100000
theorem cells_str {S : Sg} {w : World} {b : Nat} : ∀ (l : List ByteArray) (o sz : Nat), elsAt S w b sz o (l.map D.encStr) → ∀ (j : Nat) x, l[j]? = some x → w.cell? ⟨b, o + j, none⟩ = some (.string x)
  | [], _, _, _, _, _, h => by simp at h
  | a :: r, o, sz, h, j, x, hx => by
    simp only [List.map_cons, elsAt, D.encStr, List.length_cons, List.length_nil] at h
    obtain ⟨h1, h2, h3⟩ := h
    subst h1
    cases j with
    | zero =>
      simp at hx
      subst hx
      simp only [cellsAt, rep] at h2
      obtain ⟨⟨u, h4, _, h5⟩, _⟩ := h2
      subst h5
      exact h4
    | succ j =>
      have := cells_str r (o + (0 + 1)) (0 + 1) h3 j x (by simpa using hx)
      rwa [show o + (0 + 1) + j = o + (j + 1) by omega] at this
theorem join_c (l : List ByteArray) (s : ByteArray) (h1 : l.length ≤ 4000000) (hm : (joinB s l).size ≤ 140737488355328) : PC Tryz.prog 47 [.sl (l.map D.encStr), str s] (str (joinB s l)) := by
  intro S w vals hS hf ha
  simp only [repL] at ha
  obtain ⟨u, t, rfl, hu, v, t2, rfl, hv, rfl⟩ := ha
  simp only [rep] at hu hv
  subst hv
  obtain ⟨ad, n, c, rfl, hn, hnc, hcm, h⟩ := hu
  rw [List.length_map] at hn
  have key : Calls Tryz.prog 47 #[.slice ad n c, .string s] w fun e w' => e = .returned (.string (joinB s l)) ∧ Below w.heap.size w w' := by
    rcases h with h | ⟨b, o, sz, rfl, hb, hs, hels⟩
    · have hl : l = [] := List.map_eq_nil_iff.1 h
      subst hl
      subst hn
      exact (Tryz.strings_Join_none ad c s w).mono fun e w' ⟨he, hw⟩ => ⟨he, hw ▸ Below.refl _ _⟩
    · subst hn
      have hbk := hf
      refine (Tryz.strings_Join b o c l s w (cells_str l o sz hels) (hS.fz_lt b (hS.ro_fz b hb)) (by omega) hnc ?_).mono fun e w' ⟨he, hw⟩ => ⟨?_, hw⟩
      · have h2 := join_eq s l
        have h3 := congrArg ByteArray.size h2
        have h4 : (⟨(Lib.join (l.map (·.data.toList)) s.data.toList).toArray⟩ : ByteArray).size = (Lib.join (l.map (·.data.toList)) s.data.toList).length := by simp [ByteArray.size]
        omega
      · rw [he, join_eq]
  refine key.mono fun e w' ⟨he, hb⟩ => ?_
  exact ⟨_, str (joinB s l), noRows, S, he, rfl, hS.after hb.size fun k hk => hb.block k hk, by simp only [rep], hS.grow hb.os hb.tape hb.output hb.size fun k hk => hb.block k hk, NewK.refl _ _⟩
theorem tjoin_c (l : List ByteArray) (h1 : l.length ≤ 4000000) (hm : (joinB spB l).size ≤ 140737488355328) : PC Tryz.prog 21 [.sl (l.map D.encStr)] (str (joinB spB l)) := by
  refine PC.body (c := Tryz.f21.body.getD .skip) (fun _ => false) mixed Tryz.func21 rfl (by kernel_rfl) ?_
  unfold Tryz.f21
  simp only [Option.getD_some]
  simp only [go_sem]
  refine PC.use (join_c l spB h1 hm) ?_
  simp only [go_sem]
  exact .refl _
inductive Wd where
  | i (n : Int)
  | s (t : ByteArray)
def encW : Wd → List AV
  | .i n => [.v (.iface 3 (.int .i64 n))]
  | .s t => [.v (.iface 9 (.string t))]
def txW : Wd → ByteArray
  | .i n => decZ n
  | .s t => t
def okW : Wd → Prop
  | .i n => i64B n
  | .s t => t.size ≤ 100000000
abbrev strRow (l : List ByteArray) : Row := ⟨9, 1, l.map D.encStr⟩
theorem txW_size {w : Wd} (h : okW w) : (txW w).size ≤ 100000000 := by
  cases w with
  | i n => exact Nat.le_trans (decZ_size h) (by decide)
  | s t => exact h
theorem line_c {H : Heap} {K : AV → Heap → Prop} {b j : Nat} {T : TypeId} {a : AV} {t : ByteArray} (ws : List Wd) (hb : H b = some (bRow T a j)) (hj : H j = some (tRow t)) (ha : Fu a b) (hT : BT T) (hw : ws.length ≤ 100) (ho : ∀ w ∈ ws, okW w)
    (hlen : t.size ≤ 100000000000000)
    (hK : ∀ (H' : Heap) (j' : Nat), b ≠ j' → H' b = some (bRow T (.op b 0 0) j') → H' j' = some (tRow (t ++ lineS (ws.map txW))) → K (.tup []) H') :
    FCalls Tryz.prog 27 [.op b 0 0, .sl (ws.map encW)] H K := by
  have hbj : b ≠ j := fun e => by have h := congrArg (fun o : Option Row => o.map Row.sz) (hb.symm.trans (e ▸ hj)); simp at h
  refine FCalls.body (c := Tryz.f27.body.getD .skip) (fun t => t == 4) mixed Tryz.func27 rfl (by kernel_rfl) ?_
  unfold Tryz.f27
  simp only [Option.getD_some]
  simp only [go_sem]
  refine anew_g fun i HGi hi0 (Ri : HGi i = some (⟨9, 1, []⟩)) N => ?_
  replace hb := N hb
  obtain ⟨ne_b_i, hb⟩ := hb
  replace hj := N hj
  obtain ⟨ne_j_i, hj⟩ := hj
  clear N hi0
  simp only [go_sem, Ri, hb, hj]
  refine ⟨fun ρ H => ∃ (k : Nat) (i : Nat), k ≤ ws.length ∧ ρ 0 = .op b 0 0 ∧ ρ 9 = .sl (ws.map encW) ∧ ρ 10 = int (ws.length : Nat) ∧ ρ 11 = int k ∧ ρ 4 = .os i ∧ H i = some (strRow ((ws.take k).map txW)) ∧ H b = some (bRow T a j) ∧ H j = some (tRow t) ∧ b ≠ i ∧ j ≠ i, fun ρ _ => ws.length - natOf (ρ 11), ⟨0, i, Nat.zero_le _, by simp only [go_sem], by simp only [go_sem], by simp only [go_sem, List.length_map], (by simp only [go_sem]; rfl), by simp only [go_sem], Ri, hb, hj, ne_b_i, ne_j_i⟩, ?_⟩
  rintro ρ H ⟨k, i, hk, e0, e9, e10, e11, e4, Ri, hb, hj, ne1, ne2⟩
  simp only [go_sem, e0, e9, e10, e11, e4]
  refine acond_i (fun hlt => ?_) (fun hge => ?_)
  · have hlt := ltB hlt
    obtain ⟨w, hw1⟩ := getIn hlt
    have b1 := inB hlt
    have hwr := wrapS (show k ≤ 4611686018427387904 by omega)
    have hst : (ws.take (k + 1)).map txW = (ws.take k).map txW ++ [txW w] := by rw [take_succ hw1]; simp
    have ok := ho w (mem_of_get hw1)
    have hfin : ∀ (G : Heap) (j' : Nat), H j' = none → ∃ (k' i' : Nat), k + 1 = k' ∧ j' = i' ∧ updH (updH H i none) j' (some ⟨9, 1, ((ws.take k).map txW).map D.encStr ++ [[str (txW w)]]⟩) i' = some (strRow ((ws.take k').map txW)) ∧ updH (updH H i none) j' (some ⟨9, 1, ((ws.take k).map txW).map D.encStr ++ [[str (txW w)]]⟩) b = some (bRow T a j) ∧ updH (updH H i none) j' (some ⟨9, 1, ((ws.take k).map txW).map D.encStr ++ [[str (txW w)]]⟩) j = some (tRow t) ∧ b ≠ i' ∧ j ≠ i' := by
      intro G j' hj'
      refine ⟨_, _, rfl, rfl, ?_, keep_app hb ne1.symm hj', keep_app hj ne2.symm hj', ne_new hb hj', ne_new hj hj'⟩
      rw [updH_same, hst]
      simp only [strRow, List.map_append]
      rfl
    cases w with
    | i n =>
      simp only [go_sem, e0, e9, e10, e11, e4, getD_map hw1, b1, encW]
      refine ⟨by kernel_rfl, acond_i (fun _ => ?_) (fun hb => absurd hb (by simp))⟩
      simp only [go_sem, e0, e9, e10, e11, e4]
      refine PC.use (decimalZ_c n ok) ?_
      simp only [go_sem, e0, e9, e10, e11, e4]
      refine wappE_i Ri ⟨rfl, rfl⟩ (by simp only [go_sem]) (by simp only [List.length_map, List.length_cons, List.length_nil, List.length_take]; omega) fun j' hj' => ?_
      obtain ⟨_, _, rfl, rfl, g1, g2, g3, g4, g5⟩ := hfin H j' hj'
      simp only [go_sem, e0, e9, e10, e11, e4, hwr]
      exact ⟨⟨k + 1, j', hlt, rfl, rfl, g1, g2, g3, g4, g5⟩, by simp only [natOf_int]; omega⟩
    | s x =>
      simp only [go_sem, e0, e9, e10, e11, e4, getD_map hw1, b1, encW]
      refine ⟨by kernel_rfl, int 0, by kernel_rfl, acond_i (fun hb => absurd hb (by simp)) fun _ => ?_⟩
      simp only [go_sem, e0, e9, e10, e11, e4]
      refine ⟨by kernel_rfl, acond_i (fun _ => ?_) (fun hb => absurd hb (by simp))⟩
      simp only [go_sem, e0, e9, e10, e11, e4]
      refine wappE_i Ri ⟨rfl, rfl⟩ (by simp only [go_sem]) (by simp only [List.length_map, List.length_cons, List.length_nil, List.length_take]; omega) fun j' hj' => ?_
      obtain ⟨_, _, rfl, rfl, g1, g2, g3, g4, g5⟩ := hfin H j' hj'
      simp only [go_sem, e0, e9, e10, e11, e4, hwr]
      exact ⟨⟨k + 1, j', hlt, rfl, rfl, g1, g2, g3, g4, g5⟩, by simp only [natOf_int]; omega⟩
  · have hge := geB hk hge
    subst hge
    rw [List.take_of_length_le (Nat.le_refl _)] at Ri
    simp only [go_sem, e0, e9, e10, e11, e4]
    refine adraw_p [i] [(0, true), (1, true), (2, true), (3, true), (4, true), (5, true), (6, false)] (by simp [Ri]) (by kernel_rfl) fun Hp Hr hp hr _ hr0 => ?_
    have P_Ri := (hp i (by simp)).trans Ri
    have Q_hb := (hr b (by simp [ne1])).trans hb
    have Q_hj := (hr j (by simp [ne2])).trans hj
    simp only [go_sem, e0, e9, e10, e11, e4, P_Ri, Q_hb, Q_hj]
    have hsz : (joinB spB (ws.map txW)).size ≤ 20000000000 := Nat.le_trans (joinB_size (B := 100000000) (ws.map txW) fun y hy => by
      obtain ⟨w, hw, rfl⟩ := List.mem_map.1 hy
      exact txW_size (ho w hw)) (by rw [List.length_map]; show ws.length * (1 + 100000000) ≤ _; omega)
    refine ⟨_, .inl ⟨[.sl ((ws.map txW).map D.encStr)], .cons _ _ _ _ (.row _ _ _ P_Ri (ConvE.refl _)) .nil, tjoin_c _ (by rw [List.length_map]; omega) (by omega), rfl⟩, ?_⟩
    simp only [go_sem]
    refine ⟨by rw [i64max]; simp only [List.size_toArray, List.length_cons, List.length_nil]; omega, ?_⟩
    refine wstr_c Q_hb Q_hj ha hT (by rw [ByteArray.size_append]; show _ + (_ + 1) ≤ _; omega) fun H' j' h1 h2 h3 h4 => ?_
    simp only [go_sem]
    refine pinEnd_i fun h0 Hm hm1 hm2 => ?_
    have hji : j' ≠ i := fun e => by have := h0 i (by simp); rw [← e, h3] at this; cases this
    exact hK Hm j' h1 ((hm2 b (by simp [ne1])).trans h2) ((hm2 j' (by simp [hji])).trans h3)
end Go.Proofs.YtmidcjlidploaaaGreatDoor.Sc
end

section
set_option linter.unusedSimpArgs false
set_option linter.unusedVariables false
namespace Go.Proofs.YtmidcjlidploaaaGreatDoor.Sc
open Go.Aw Go.Aw.D Go.Proofs Go.RowKit Ty
open Go.Proofs.YtmidcjlidploaaaGreatDoor
open Go.Proofs.YtmidcjlidploaaaGreatDoor.Nw (ltB geB)
set_option maxRecDepth 100000
theorem joinB_le {α : Type} {s : ByteArray} {f : α → ByteArray} {B : Nat} (l : List α) (k : Nat) (h : ∀ a ∈ l, (f a).size ≤ B) : (joinB s ((l.take k).map f)).size ≤ l.length * (s.size + B) := by
  have := joinB_size (s := s) (B := B) ((l.take k).map f) fun a ha => by
    obtain ⟨x, hx, rfl⟩ := List.mem_map.1 ha
    exact h x (List.mem_of_mem_take hx)
  refine Nat.le_trans this (Nat.mul_le_mul_right _ ?_)
  rw [List.length_map, List.length_take]; omega
end Go.Proofs.YtmidcjlidploaaaGreatDoor.Sc
end

section
set_option linter.unusedSimpArgs false
set_option linter.unusedVariables false
namespace Go.Proofs.YtmidcjlidploaaaGreatDoor.Sc
open Go.Aw Go.Aw.D Go.Proofs Ty
open Go.RowKit (Below)
open Go.Proofs.YtmidcjlidploaaaGreatDoor
open Go.Proofs.YtmidcjlidploaaaGreatDoor.Nw (ltB geB)
set_option maxRecDepth 100000
theorem listS_join {l : List Int} (h : l ≠ []) : listS l = joinB ⟨#[44]⟩ (l.map decZ) := by
  cases l with
  | nil => exact absurd rfl h
  | cons a r => rfl
theorem travelS_join {l : List Point} (h : l ≠ []) : travelS l = joinB ⟨#[44]⟩ (l.map pointS) := by
  cases l with
  | nil => exact absurd rfl h
  | cons a r => rfl
theorem mapB_size {α : Type} {f : α → ByteArray} {s : ByteArray} {B : Nat} (l : List α) (h : ∀ a ∈ l, (f a).size ≤ B) : (joinB s (l.map f)).size ≤ l.length * (s.size + B) := by
  have := joinB_le (s := s) (f := f) l l.length h
  rwa [List.take_of_length_le (Nat.le_refl _)] at this
theorem listS_size {l : List Int} (hl : l.length ≤ 1048576) (h : ∀ n ∈ l, i64B n) : (listS l).size ≤ 30000000 := by
  by_cases h0 : l = []
  · subst h0; exact (by decide : (1 : Nat) ≤ 30000000)
  · rw [listS_join h0]
    refine Nat.le_trans (mapB_size (s := ⟨#[44]⟩) (f := decZ) (B := 21) l fun n hn => decZ_size (h n hn)) ?_
    show l.length * (1 + 21) ≤ _
    omega
theorem list_c (l : List Int) (hl : l.length ≤ 1048576) (hz : ∀ n ∈ l, i64B n) : PC Tryz.prog 29 [.sl (l.map D.encInt)] (str (listS l)) := by
  by_cases h0 : l = []
  · subst h0
    refine PC.body (c := Tryz.f29.body.getD .skip) (fun _ => false) mixed Tryz.func29 rfl (by kernel_rfl) ?_
    unfold Tryz.f29
    simp only [Option.getD_some]
    simp only [go_sem]
    refine acond_i (fun hb => ?_) (fun hb => absurd hb (by simp))
    simp only [go_sem]
    exact .refl _
  rw [listS_join h0]
  refine PC.body (c := Tryz.f29.body.getD .skip) (fun t => t == 3) mixed Tryz.func29 rfl (by kernel_rfl) ?_
  unfold Tryz.f29
  simp only [Option.getD_some]
  simp only [go_sem]
  refine acond_i (fun hb => absurd (by simpa using hb) h0) (fun hb => ?_)
  simp only [go_sem]
  refine anew_g fun i HGi hi0 (Ri : HGi i = some (⟨9, 1, []⟩)) N => ?_
  clear N hi0
  simp only [go_sem, Ri]
  refine ⟨fun ρ H => ∃ (k : Nat) (i : Nat), k ≤ l.length ∧ ρ 9 = .sl (l.map D.encInt) ∧ ρ 10 = int (l.length : Nat) ∧ ρ 11 = int k ∧ ρ 3 = .os i ∧ H i = some (strRow ((l.take k).map decZ)), fun ρ _ => l.length - natOf (ρ 11), ⟨0, i, Nat.zero_le _, by simp only [go_sem], by simp only [go_sem, List.length_map], (by simp only [go_sem]; rfl), by simp only [go_sem], Ri⟩, ?_⟩
  rintro ρ H ⟨k, i, hk, e9, e10, e11, e3, Ri⟩
  simp only [go_sem, e9, e10, e11, e3]
  refine acond_i (fun hlt => ?_) (fun hge => ?_)
  · have hlt := ltB hlt
    obtain ⟨n, hn⟩ := getIn hlt
    have b1 := inB hlt
    have hwr := wrapS (show k ≤ 4611686018427387904 by omega)
    have hst : (l.take (k + 1)).map decZ = (l.take k).map decZ ++ [decZ n] := by rw [take_succ hn]; simp
    simp only [go_sem, e9, e10, e11, e3, getD_map hn, b1]
    refine PC.use (decimalZ_c n (hz n (mem_of_get hn))) ?_
    simp only [go_sem, e9, e10, e11, e3]
    refine wappE_i Ri ⟨rfl, rfl⟩ (by simp only [go_sem]) (by simp only [List.length_map, List.length_cons, List.length_nil, List.length_take]; omega) fun j' hj' => ?_
    have g1 : updH (updH H i none) j' (some ⟨9, 1, ((l.take k).map decZ).map D.encStr ++ [[str (decZ n)]]⟩) j' = some (strRow ((l.take (k + 1)).map decZ)) := by
      rw [updH_same, hst]
      simp only [strRow, List.map_append]
      rfl
    simp only [go_sem, e9, e10, e11, e3, hwr]
    exact ⟨⟨k + 1, j', hlt, rfl, rfl, g1⟩, by simp only [natOf_int]; omega⟩
  · have hge := geB hk hge
    subst hge
    rw [List.take_of_length_le (Nat.le_refl _)] at Ri
    simp only [go_sem, e9, e10, e11, e3]
    refine QFlat.use ⟨[.sl ((l.map decZ).map D.encStr), str ⟨#[44]⟩], .cons _ _ _ _ (.row _ _ _ Ri (ConvE.refl _)) (.cons _ _ _ _ (.refl _) .nil), join_c _ _ (by rw [List.length_map]; omega) ?_, rfl⟩ ?_
    · refine Nat.le_trans (mapB_size (s := ⟨#[44]⟩) (f := decZ) (B := 21) l fun n hn => decZ_size (hz n hn)) ?_
      show l.length * (1 + 21) ≤ _
      omega
    · simp only [go_sem]
      exact .refl _
theorem num_of {w : World} (h : ∀ t ∈ tabL, t.2 (varCells w t.1)) : ∃ m : Int, w.cell? ⟨0, 0, none⟩ = some (.int .i64 m) := by
  have h1 : isNum (varCells w 0) := h (0, isNum) (by simp [tabL])
  obtain ⟨m, h1⟩ := h1
  refine ⟨m, ?_⟩
  unfold varCells at h1
  split at h1
  · rename_i cs t fz hw
    injection h1 with h1
    subst h1
    simp [World.cell?, hw]
  · cases h1
theorem replace_c (s : ByteArray) (hs : s.size ≤ 4000000000) : PC Tryz.prog 58 [str s, str ⟨#[44]⟩, str ⟨#[58]⟩] (str (turnB 44 58 s)) := by
  refine PC.lib (a := [.string s, .string ⟨#[44]⟩, .string ⟨#[58]⟩]) (v := .string (turnB 44 58 s)) (fun S w => rfl) fun w ht => ?_
  obtain ⟨m, hm⟩ := num_of ht
  have h1 : 1 ≤ (⟨#[44]⟩ : ByteArray).size := Nat.le_refl 1
  have hmul := Lib.countB_mul_le (⟨#[44]⟩ : ByteArray) h1 s.size s (Nat.le_refl _)
  have e1 : (⟨#[44]⟩ : ByteArray).size = 1 := rfl
  have e2 : (⟨#[58]⟩ : ByteArray).size = 1 := rfl
  rw [e1] at hmul
  refine (Tryz.strings_ReplaceAll s ⟨#[44]⟩ ⟨#[58]⟩ m w (by omega) hm h1 (by rw [e2]; omega)).mono fun e w' ⟨he, hb⟩ => ⟨?_, hb⟩
  rw [he]
  show Ending.returned (.string ⟨(Lib.replaceAll s.data.toList [44] [58]).toArray⟩) = _
  rw [replaceAll_one (by decide)]
  rfl
def okStop (s : Stop) : Prop := i64B s.place ∧ i64B s.start ∧ i64B s.close ∧ i64B s.service
theorem stop_c (s : Stop) (hz : okStop s) : PC Tryz.prog 30 [.agg (encStop s)] (str (stopS s)) := by
  refine PC.body (c := Tryz.f30.body.getD .skip) (fun _ => false) mixed Tryz.func30 rfl (by kernel_rfl) ?_
  unfold Tryz.f30
  simp only [Option.getD_some]
  simp only [go_sem]
  refine anew_i fun j hj => ?_
  simp only [go_sem]
  refine wputE_n (updH_same _ _ _) (by simp) ?_
  have R : ∀ H q, updH H j q j = q := fun H q => updH_same _ _ _
  simp only [go_sem, R]
  have hzs : (s.place == -1 && (s.start == 0 && (s.close == 0 && (s.service == 0 && true)))) = zeroStop s := by unfold zeroStop; simp [Bool.and_assoc]
  refine acond_i (fun hb => ?_) (fun hb => ?_) <;> rw [hzs] at hb
  · simp only [go_sem]
    have : stopS s = ⟨#[46]⟩ := if_pos hb
    rw [this]; exact .refl _
  · have hl : ∀ n ∈ [s.place, s.start, s.close, s.service], i64B n := by
      intro n hn
      simp only [List.mem_cons, List.not_mem_nil, or_false] at hn
      rcases hn with rfl | rfl | rfl | rfl
      · exact hz.1
      · exact hz.2.1
      · exact hz.2.2.1
      · exact hz.2.2.2
    have hls := listS_size (l := [s.place, s.start, s.close, s.service]) (by simp) hl
    simp only [go_sem, R]
    refine PC.use (list_c [s.place, s.start, s.close, s.service] (by simp) hl) ?_
    simp only [go_sem]
    refine PC.use (replace_c _ (by omega)) ?_
    simp only [go_sem]
    have : stopS s = turnB 44 58 (listS [s.place, s.start, s.close, s.service]) := by
      rw [listS_join (by simp), turn_join]
      exact if_neg (by rw [hb]; simp)
    rw [this]; exact .refl _
def okPoint (p : Point) : Prop := i64B p.t ∧ i64B p.a
theorem pointS_size {p : Point} (h : okPoint p) : (pointS p).size ≤ 43 := by
  have h1 := decZ_size h.1
  have h2 := decZ_size h.2
  unfold pointS
  rw [ByteArray.size_append, ByteArray.size_append]
  show _ + (1 + _) ≤ _
  omega
theorem travelS_size {l : List Point} (hl : l.length ≤ 1048576) (h : ∀ n ∈ l, okPoint n) : (travelS l).size ≤ 50000000 := by
  by_cases h0 : l = []
  · subst h0; exact (by decide : (1 : Nat) ≤ 50000000)
  · rw [travelS_join h0]
    refine Nat.le_trans (mapB_size (s := ⟨#[44]⟩) (f := pointS) (B := 43) l fun n hn => pointS_size (h n hn)) ?_
    show l.length * (1 + 43) ≤ _
    omega
theorem travel_c (l : List Point) (hl : l.length ≤ 1048576) (hz : ∀ n ∈ l, okPoint n) : PC Tryz.prog 28 [.sl (l.map encPoint)] (str (travelS l)) := by
  by_cases h0 : l = []
  · subst h0
    refine PC.body (c := Tryz.f28.body.getD .skip) (fun _ => false) mixed Tryz.func28 rfl (by kernel_rfl) ?_
    unfold Tryz.f28
    simp only [Option.getD_some]
    simp only [go_sem]
    refine acond_i (fun hb => ?_) (fun hb => absurd hb (by simp))
    simp only [go_sem]
    exact .refl _
  rw [travelS_join h0]
  refine PC.body (c := Tryz.f28.body.getD .skip) (fun t => t == 3) mixed Tryz.func28 rfl (by kernel_rfl) ?_
  unfold Tryz.f28
  simp only [Option.getD_some]
  simp only [go_sem]
  refine acond_i (fun hb => absurd (by simpa using hb) h0) (fun hb => ?_)
  simp only [go_sem]
  refine anew_g fun i HGi hi0 (Ri : HGi i = some (⟨9, 1, []⟩)) N => ?_
  clear N hi0
  simp only [go_sem, Ri]
  refine ⟨fun ρ H => ∃ (k : Nat) (i : Nat), k ≤ l.length ∧ ρ 9 = .sl (l.map encPoint) ∧ ρ 10 = int (l.length : Nat) ∧ ρ 11 = int k ∧ ρ 3 = .os i ∧ H i = some (strRow ((l.take k).map pointS)), fun ρ _ => l.length - natOf (ρ 11), ⟨0, i, Nat.zero_le _, by simp only [go_sem], by simp only [go_sem, List.length_map], (by simp only [go_sem]; rfl), by simp only [go_sem], Ri⟩, ?_⟩
  rintro ρ H ⟨k, i, hk, e9, e10, e11, e3, Ri⟩
  simp only [go_sem, e9, e10, e11, e3]
  refine acond_i (fun hlt => ?_) (fun hge => ?_)
  · have hlt := ltB hlt
    obtain ⟨n, hn⟩ := getIn hlt
    have b1 := inB hlt
    have hwr := wrapS (show k ≤ 4611686018427387904 by omega)
    have hst : (l.take (k + 1)).map pointS = (l.take k).map pointS ++ [pointS n] := by rw [take_succ hn]; simp
    have hok := hz n (mem_of_get hn)
    have s1 := decZ_size hok.1
    have s2 := decZ_size hok.2
    simp only [go_sem, e9, e10, e11, e3, getD_map hn, b1]
    refine anew_i fun p hp0 => ?_
    simp only [go_sem, e9, e10, e11, e3, hwr, Ri]
    refine wputE_v hp0 (by simp [encPoint]) fun HGp (Rp : HGp p = some (⟨140, 2, [encPoint n]⟩)) N => ?_
    replace Ri := N Ri
    obtain ⟨ne_i_p, Ri⟩ := Ri
    clear N hp0
    simp only [go_sem, e9, e10, e11, e3, hwr, Rp, Ri]
    refine adraw_p [p] [(0, true), (1, true), (2, true), (3, true), (4, true), (5, true), (6, true), (7, true), (8, true), (9, false), (10, false), (11, true)] (by simp [Rp]) (by kernel_rfl) fun Hp Hr hp hr _ hr0 => ?_
    have P_Rp := (hp p (by simp)).trans Rp
    have Q_Ri := (hr i (by simp [ne_i_p])).trans Ri
    simp only [go_sem, e9, e10, e11, e3, P_Rp, Q_Ri]
    refine ⟨_, .inl ⟨_, .cons _ _ _ _ (.refl _) .nil, decimalZ_c _ hok.1, rfl⟩, ?_⟩
    simp only [go_sem, e9, e10, e11, e3, P_Rp]
    refine ⟨by rw [i64max]; simp only [List.size_toArray, List.length_cons, List.length_nil]; omega, _, .inl ⟨_, .cons _ _ _ _ (.refl _) .nil, decimalZ_c _ hok.2, rfl⟩, ?_⟩
    simp only [go_sem, e9, e10, e11, e3, P_Rp]
    refine ⟨by rw [i64max]; simp only [ByteArray.size_append, List.size_toArray, List.length_cons, List.length_nil]; omega, ?_⟩
    refine wappE_i Q_Ri ⟨rfl, rfl⟩ (by simp only [go_sem]) (by simp only [List.length_map, List.length_cons, List.length_nil, List.length_take]; omega) fun j' hj' => ?_
    simp only [go_sem, e9, e10, e11, e3]
    refine pinEnd_i fun h0 Hm hm1 hm2 => ?_
    have hjp : j' ≠ p := fun e => by have := h0 p (by simp); rw [← e, updH_same] at this; cases this
    have g1 := (hm2 j' (by simp [hjp])).trans (updH_same _ _ _)
    simp only [go_sem, e9, e10, e11, e3, hwr]
    refine ⟨⟨k + 1, j', hlt, rfl, rfl, g1.trans ?_⟩, by simp only [natOf_int]; omega⟩
    rw [hst]
    simp only [strRow, List.map_append, pointS, app_assoc]
    rfl
  · have hge := geB hk hge
    subst hge
    rw [List.take_of_length_le (Nat.le_refl _)] at Ri
    simp only [go_sem, e9, e10, e11, e3]
    refine QFlat.use ⟨[.sl ((l.map pointS).map D.encStr), str ⟨#[44]⟩], .cons _ _ _ _ (.row _ _ _ Ri (ConvE.refl _)) (.cons _ _ _ _ (.refl _) .nil), join_c _ _ (by rw [List.length_map]; omega) ?_, rfl⟩ ?_
    · refine Nat.le_trans (mapB_size (s := ⟨#[44]⟩) (f := pointS) (B := 43) l fun n hn => pointS_size (hz n hn)) ?_
      show l.length * (1 + 43) ≤ _
      omega
    · simp only [go_sem]
      exact .refl _
end Go.Proofs.YtmidcjlidploaaaGreatDoor.Sc
end

section
set_option linter.unusedSimpArgs false
set_option linter.unusedVariables false
namespace Go.Proofs.YtmidcjlidploaaaGreatDoor.Sk
open Go.Proofs.YtmidcjlidploaaaGreatDoor.Sc
open Go.Proofs.YtmidcjlidploaaaGreatDoor.Nw
set_option maxRecDepth 100000
theorem parse_app : ∀ (l r : List UInt8) (acc m : Nat), Lib.parseUint10 acc l = .ok m → Lib.parseUint10 acc (l ++ r) = Lib.parseUint10 m r
  | [], r, acc, m, h => by
    simp only [Lib.parseUint10] at h
    injection h with h
    rw [h]; rfl
  | c :: l, r, acc, m, h => by
    simp only [Lib.parseUint10] at h
    simp only [List.cons_append, Lib.parseUint10]
    split at h
    · rename_i h1
      rw [if_pos h1]
      split at h
      · cases h
      rename_i h2
      rw [if_neg h2]
      split at h
      · cases h
      rename_i h3
      rw [if_neg h3]
      exact parse_app l r _ m h
    · cases h
theorem dig_nat {k : Nat} (h : k < 10) : (UInt8.ofNat (48 + k)).toNat = 48 + k := by
  rw [UInt8.toNat_ofNat']
  omega
theorem parse_dec : ∀ u : Nat, u < 18446744073709551616 → Lib.parseUint10 0 (Lib.decDigits u) = .ok u := by
  intro u
  induction u using Nat.strongRecOn with
  | ind u ih =>
    intro hu
    rw [Lib.decDigits]
    by_cases h : u < 10
    · rw [dif_pos h]
      have := dig_nat h
      simp only [Lib.parseUint10, this]
      rw [if_pos (by omega), if_neg (by omega), if_neg (by omega)]
      congr 1
      omega
    · rw [dif_neg h, parse_app _ _ _ _ (ih (u / 10) (by omega) (by omega))]
      have := dig_nat (Nat.mod_lt u (by decide : 10 > 0))
      simp only [Lib.parseUint10, this]
      rw [if_pos (by omega), if_neg (by omega), if_neg (by omega)]
      congr 1
      omega
theorem dec_ne (u : Nat) : Lib.decDigits u ≠ [] := by
  rw [Lib.decDigits]
  split
  · simp
  · simp
theorem dec_digit : ∀ (u : Nat) (c : UInt8), c ∈ Lib.decDigits u → 48 ≤ c.toNat ∧ c.toNat ≤ 57 := by
  intro u
  induction u using Nat.strongRecOn with
  | ind u ih =>
    intro c hc
    rw [Lib.decDigits] at hc
    by_cases h : u < 10
    · rw [dif_pos h] at hc
      simp only [List.mem_cons, List.not_mem_nil, or_false] at hc
      rw [hc, dig_nat h]; omega
    · rw [dif_neg h, List.mem_append] at hc
      rcases hc with hc | hc
      · exact ih _ (by omega) c hc
      · simp only [List.mem_cons, List.not_mem_nil, or_false] at hc
        rw [hc, dig_nat (Nat.mod_lt u (by decide : 10 > 0))]
        omega
theorem dec_head : ∀ u : Nat, u ≠ 0 → (Lib.decDigits u).head? ≠ some 48 := by
  intro u
  induction u using Nat.strongRecOn with
  | ind u ih =>
    intro hu
    rw [Lib.decDigits]
    by_cases h : u < 10
    · rw [dif_pos h]
      intro e
      simp only [List.head?_cons, Option.some.injEq] at e
      have := congrArg UInt8.toNat e
      rw [dig_nat h] at this
      have h48 : (48 : UInt8).toNat = 48 := rfl
      omega
    · rw [dif_neg h]
      have := ih (u / 10) (by omega) (by omega)
      cases hd : Lib.decDigits (u / 10) with
      | nil => exact absurd hd (dec_ne _)
      | cons a r => rw [hd] at this; exact this
theorem mag_dec (u : Nat) (h : u < 18446744073709551616) : Lib.parseMag (Lib.decDigits u) = .ok u := by
  unfold Lib.parseMag
  rw [if_neg (dec_ne u), parse_dec u h]
theorem atoi_itoa (n : Int) (h : i64B n) : Lib.atoiAll (Lib.itoa n) = .ok n := by
  obtain ⟨h0, h1⟩ := h
  unfold Lib.itoa
  by_cases hn : n < 0
  · rw [if_pos hn]
    unfold Lib.atoiAll
    have e45 : (45 : UInt8).toNat = 45 := rfl
    have hu : ¬ 9223372036854775808 < n.natAbs := by omega
    simp only [e45, or_true, if_true, mag_dec _ (show n.natAbs < 18446744073709551616 by omega), not_true_eq_false, false_and, if_false, true_and, hu]
    congr 1
    omega
  · rw [if_neg hn]
    cases hd : Lib.decDigits n.toNat with
    | nil => exact absurd hd (dec_ne _)
    | cons c r =>
      have hc := dec_digit n.toNat c (by rw [hd]; simp)
      unfold Lib.atoiAll
      simp only
      rw [if_neg (by omega), ← hd, mag_dec _ (by omega)]
      simp only
      rw [if_neg (by omega), if_neg (by omega), if_neg (by omega)]
      congr 1
      omega
end Go.Proofs.YtmidcjlidploaaaGreatDoor.Sk
end

section
set_option linter.unusedSimpArgs false
set_option linter.unusedVariables false
namespace Go.Proofs.YtmidcjlidploaaaGreatDoor.Sk
open Go.Proofs.YtmidcjlidploaaaGreatDoor.Sc
theorem jb_one (w : ByteArray) : joinB spB [w] = w := by rw [joinB_cons, tailB_nil, app_nil]
theorem jb_two (s w x : ByteArray) (r : List ByteArray) : joinB s (w :: x :: r) = w ++ (s ++ joinB s (x :: r)) := by
  rw [joinB_cons, tailB_cons, joinB_cons]
theorem jb_head (s w : ByteArray) (r : List ByteArray) : (joinB s (w :: r)).extract 0 w.size = w := by
  rw [joinB_cons]
  exact ByteArray.extract_append_eq_left rfl
theorem jb_size (s w x : ByteArray) (r : List ByteArray) : (joinB s (w :: x :: r)).size = w.size + (s.size + (joinB s (x :: r)).size) := by
  rw [jb_two, ByteArray.size_append, ByteArray.size_append]
theorem jb_sep (w x : ByteArray) (r : List ByteArray) : (joinB spB (w :: x :: r)).data[w.size]? = some 32 := by
  rw [jb_two, ByteArray.data_append, Array.getElem?_append_right (by simp), ByteArray.data_append]
  rw [show w.size - w.data.size = 0 from Nat.sub_self _, Array.getElem?_append_left (by decide)]
  rfl
theorem jb_rest (w x : ByteArray) (r : List ByteArray) : (joinB spB (w :: x :: r)).extract (w.size + 1) (joinB spB (w :: x :: r)).size = joinB spB (x :: r) := by
  have h := jb_size spB w x r
  rw [jb_two, ← app_assoc] at *
  refine ByteArray.extract_append_eq_right ?_ ?_
  · rw [ByteArray.size_append]; rfl
  · rw [ByteArray.size_append, ByteArray.size_append]
theorem jb_pos {w : ByteArray} {r : List ByteArray} (s : ByteArray) (h : 0 < w.size) : 0 < (joinB s (w :: r)).size := by
  rw [joinB_cons, ByteArray.size_append]
  omega
end Go.Proofs.YtmidcjlidploaaaGreatDoor.Sk
end

section
set_option linter.unusedSimpArgs false
set_option linter.unusedVariables false
namespace Go.Proofs.YtmidcjlidploaaaGreatDoor.Sk
open Go.Proofs.YtmidcjlidploaaaGreatDoor.Sc
set_option maxRecDepth 100000
section
variable {c : UInt8}
theorem ib_hit : ∀ (p r : List UInt8), c ∉ p → Lib.indexByte (p ++ c :: r) c = (p.length : Int)
  | [], r, _ => by simp [Lib.indexByte]
  | b :: p, r, h => by
    have hb : (b == c) = false := by
      have : b ≠ c := fun e => h (by rw [e]; simp)
      simpa using this
    have := ib_hit p r fun hm => h (by simp [hm])
    simp only [List.cons_append, Lib.indexByte, hb, this]
    rw [if_neg (by simp), if_neg (by simp), List.length_cons]
    push_cast
    rfl
theorem cut_hit (p r : List UInt8) (h : c ∉ p) : Lib.cut (p ++ c :: r) [c] = (p, r, true) := by
  unfold Lib.cut
  rw [Lib.index_one, ib_hit p r h, if_pos (by omega), Int.toNat_natCast]
  simp
theorem count_hit (p r : List UInt8) (h : c ∉ p) : Lib.count (p ++ c :: r) [c] = Lib.count r [c] + 1 := by
  rw [Lib.count_one, Lib.count_one, List.count_append, List.count_cons_self, List.count_eq_zero_of_not_mem h]
  omega
theorem split_join : ∀ ps : List (List UInt8), ps ≠ [] → (∀ p ∈ ps, c ∉ p) → Lib.splitK [c] 0 (Lib.count (Lib.join ps [c]) [c]) (Lib.join ps [c]) = ps
  | [], h, _ => absurd rfl h
  | [p], _, h => by
    have hp := h p (by simp)
    have e : Lib.join [p] [c] = p := by rw [Lib.join_cons]; simp [Lib.joinTail]
    rw [e, Lib.count_one, List.count_eq_zero_of_not_mem hp]
    rfl
  | p :: q :: r, _, h => by
    have hp := h p (by simp)
    have e : Lib.join (p :: q :: r) [c] = p ++ c :: Lib.join (q :: r) [c] := by
      rw [Lib.join_cons, Lib.join_cons]
      simp [Lib.joinTail]
    have ih := split_join (q :: r) (by simp) fun x hx => h x (by simp at hx ⊢; exact .inr hx)
    rw [e, count_hit _ _ hp, Lib.splitK, Lib.index_one, ib_hit _ _ hp]
    rw [if_neg (by simp), Int.toNat_natCast]
    have e1 : (p ++ c :: Lib.join (q :: r) [c]).take (p.length + 0) = p := by simp
    have e2 : (p ++ c :: Lib.join (q :: r) [c]).drop (p.length + [c].length) = Lib.join (q :: r) [c] := by simp
    rw [e1, e2, ih]
theorem map_inj {α β : Type} {f : α → β} (hf : ∀ a b, f a = f b → a = b) : ∀ {l m : List α}, l.map f = m.map f → l = m
  | [], [], _ => rfl
  | [], _ :: _, h => by simp at h
  | _ :: _, [], h => by simp at h
  | a :: l, b :: m, h => by
    simp only [List.map_cons, List.cons.injEq] at h
    rw [hf a b h.1, map_inj hf h.2]
theorem joinB_list (s : ByteArray) (ps : List ByteArray) : (joinB s ps).data.toList = Lib.join (ps.map (·.data.toList)) s.data.toList := by
  rw [← join_eq]
theorem splitB_join (ps : List ByteArray) (hn : ps ≠ []) (h : ∀ p ∈ ps, c ∉ p.data.toList) : Lib.splitB ⟨#[c]⟩ 0 (Lib.countB (joinB ⟨#[c]⟩ ps) ⟨#[c]⟩) (joinB ⟨#[c]⟩ ps) = ps := by
  have h1 := Lib.splitB_data ⟨#[c]⟩ 0 (Lib.countB (joinB ⟨#[c]⟩ ps) ⟨#[c]⟩) (joinB ⟨#[c]⟩ ps)
  have h2 : Lib.countB (joinB ⟨#[c]⟩ ps) ⟨#[c]⟩ = Lib.count (Lib.join (ps.map (·.data.toList)) [c]) [c] := by
    unfold Lib.countB
    rw [joinB_list]
  rw [h2, joinB_list] at h1
  have h3 : ([c] : List UInt8) = (⟨#[c]⟩ : ByteArray).data.toList := rfl
  rw [← h3, split_join _ (by simpa using hn) (by
    intro p hp
    obtain ⟨q, hq, rfl⟩ := List.mem_map.1 hp
    exact h q hq)] at h1
  rw [h2]
  exact map_inj (fun a b (e : a.data.toList = b.data.toList) => ByteArray.ext (Array.ext' e)) h1
end
end Go.Proofs.YtmidcjlidploaaaGreatDoor.Sk
end

section
set_option linter.unusedSimpArgs false
set_option linter.unusedVariables false
namespace Go.Proofs.YtmidcjlidploaaaGreatDoor.Sk
open Go.Aw Go.Aw.D Go.Proofs
open Go.Proofs.YtmidcjlidploaaaGreatDoor (byteAt nameR digitR letterR)
open Go.Proofs.YtmidcjlidploaaaGreatDoor.Nw
open Go.Proofs.YtmidcjlidploaaaGreatDoor.Sc (decZ decZ_eq i64B joinB tailB spB listS stopS travelS pointS onS joinB_cons tailB_cons tailB_nil listS_join travelS_join)
set_option maxRecDepth 100000
abbrev bs (s : ByteArray) : List UInt8 := s.data.toList
theorem bs_app (s t : ByteArray) : bs (s ++ t) = bs s ++ bs t := by simp [bs, ByteArray.data_append]
theorem bs_size (s : ByteArray) : (bs s).length = s.size := by simp [bs]
theorem wordR_of {s : ByteArray} (h0 : bs s ≠ []) (h : ∀ c ∈ bs s, okC (c.toNat : Int) = true) : wordR s = true := by
  have hp : 0 < s.size := by rw [← bs_size]; exact List.length_pos_iff.2 h0
  unfold wordR
  rw [Bool.and_eq_true]
  refine ⟨List.all_eq_true.2 fun i hi => ?_, by simpa using (by omega : ¬ s.size = 0)⟩
  have hi : i < s.size := List.mem_range.1 hi
  have hi2 : i < s.data.size := hi
  unfold byteAt
  rw [Array.getD_eq_getD_getElem?, Array.getElem?_eq_getElem hi2]
  exact h _ (by simp [bs])
theorem mem_tailB {s : ByteArray} {c : UInt8} : ∀ {l : List ByteArray}, c ∈ bs (tailB s l) → c ∈ bs s ∨ ∃ w ∈ l, c ∈ bs w
  | [], h => by simp [tailB_nil, bs] at h
  | a :: r, h => by
    rw [tailB_cons, bs_app, bs_app, List.mem_append, List.mem_append] at h
    rcases h with h | h | h
    · exact .inl h
    · exact .inr ⟨a, by simp, h⟩
    · rcases mem_tailB h with h | ⟨w, hw, h⟩
      · exact .inl h
      · exact .inr ⟨w, by simp [hw], h⟩
theorem mem_joinB {s : ByteArray} {c : UInt8} {l : List ByteArray} (h : c ∈ bs (joinB s l)) : c ∈ bs s ∨ ∃ w ∈ l, c ∈ bs w := by
  cases l with
  | nil => simp [joinB, bs] at h
  | cons a r =>
    rw [joinB_cons, bs_app, List.mem_append] at h
    rcases h with h | h
    · exact .inr ⟨a, by simp, h⟩
    · rcases mem_tailB h with h | ⟨w, hw, h⟩
      · exact .inl h
      · exact .inr ⟨w, by simp [hw], h⟩
theorem joinB_ne {s a : ByteArray} {r : List ByteArray} (h : bs a ≠ []) : bs (joinB s (a :: r)) ≠ [] := by
  rw [joinB_cons, bs_app]
  simp [h]
def numC (c : UInt8) : Prop := c = 45 ∨ (48 ≤ c.toNat ∧ c.toNat ≤ 57)
theorem bs_decZ (n : Int) : bs (decZ n) = Lib.itoa n := by rw [decZ_eq]
theorem decZ_num (n : Int) : ∀ c ∈ bs (decZ n), numC c := by
  intro c hc
  rw [bs_decZ] at hc
  unfold Lib.itoa at hc
  split at hc
  · simp only [List.mem_cons] at hc
    rcases hc with hc | hc
    · exact .inl hc
    · exact .inr (dec_digit _ c hc)
  · exact .inr (dec_digit _ c hc)
theorem decZ_ne (n : Int) : bs (decZ n) ≠ [] := by
  rw [bs_decZ]
  unfold Lib.itoa
  split
  · simp
  · exact dec_ne _
theorem num_ok {c : UInt8} (h : numC c) : okC (c.toNat : Int) = true := by
  unfold okC
  rcases h with rfl | h
  · decide
  · rw [decide_eq_false (by omega), decide_eq_false (by omega)]
    simp only [Bool.false_or, Bool.not_eq_true', beq_eq_false_iff_ne]
    omega
theorem num_not {c d : UInt8} (h : numC c) (hd : d.toNat < 45 ∨ 57 < d.toNat) : c ≠ d := by
  rintro rfl
  rcases h with rfl | h
  · have : (45 : UInt8).toNat = 45 := rfl
    omega
  · omega
theorem decZ_word (n : Int) : wordR (decZ n) = true := wordR_of (decZ_ne n) fun c hc => num_ok (decZ_num n c hc)
theorem joinZ_word {s : ByteArray} {l : List Int} (hs : ∀ c ∈ bs s, okC (c.toNat : Int) = true) (hl : l ≠ []) : wordR (joinB s (l.map decZ)) = true := by
  cases l with
  | nil => exact absurd rfl hl
  | cons a r =>
    refine wordR_of (joinB_ne (decZ_ne a)) fun c hc => ?_
    rcases mem_joinB hc with hc | ⟨w, hw, hc⟩
    · exact hs c hc
    · obtain ⟨n, _, rfl⟩ := List.mem_map.1 hw
      exact num_ok (decZ_num n c hc)
theorem c44_ok : ∀ c ∈ bs ⟨#[44]⟩, okC (c.toNat : Int) = true := by decide
theorem c58_ok : ∀ c ∈ bs ⟨#[58]⟩, okC (c.toNat : Int) = true := by decide
theorem listS_word (l : List Int) : wordR (listS l) = true := by
  by_cases h : l = []
  · subst h; decide
  · rw [listS_join h]; exact joinZ_word c44_ok h
theorem stopS_word (s : Stop) : wordR (stopS s) = true := by
  unfold stopS
  split
  · decide
  · exact joinZ_word c58_ok (by simp)
theorem pointS_join (p : Point) : pointS p = joinB ⟨#[58]⟩ ([p.t, p.a].map decZ) := by
  simp only [List.map_cons, List.map_nil, joinB_cons, tailB_cons, tailB_nil]
  unfold pointS
  rw [Sc.app_nil]
theorem pointS_ok (p : Point) : ∀ c ∈ bs (pointS p), okC (c.toNat : Int) = true := by
  intro c hc
  rw [pointS_join] at hc
  rcases mem_joinB hc with hc | ⟨w, hw, hc⟩
  · exact c58_ok c hc
  · obtain ⟨n, _, rfl⟩ := List.mem_map.1 hw
    exact num_ok (decZ_num n c hc)
theorem travelS_word (l : List Point) : wordR (travelS l) = true := by
  by_cases h : l = []
  · subst h; decide
  · rw [travelS_join h]
    cases l with
    | nil => exact absurd rfl h
    | cons a r =>
      refine wordR_of (joinB_ne ?_) fun c hc => ?_
      · rw [pointS_join]; exact joinB_ne (decZ_ne _)
      · rcases mem_joinB hc with hc | ⟨w, hw, hc⟩
        · exact c44_ok c hc
        · obtain ⟨n, _, rfl⟩ := List.mem_map.1 hw
          exact pointS_ok n c hc
theorem onS_word (b : Bool) : wordR (onS b) = true := by cases b <;> decide
theorem name_ok {s : ByteArray} (h : nameR s = true) : ∀ i, i < s.size → okC (byteAt s i) = true ∧ byteAt s i ≠ 46 := by
  intro i hi
  unfold nameR at h
  split at h
  · cases h
  · have := List.all_eq_true.1 h i (List.mem_range.2 hi)
    unfold letterR digitR at this
    generalize byteAt s i = c at this ⊢
    simp only [Bool.or_eq_true, Bool.and_eq_true, decide_eq_true_eq, beq_iff_eq] at this
    refine ⟨?_, by omega⟩
    unfold okC
    rw [decide_eq_false (by omega), decide_eq_false (by omega)]
    simp only [Bool.false_or, Bool.not_eq_true', beq_eq_false_iff_ne]
    omega
theorem name_word {s : ByteArray} (h : nameR s = true) : wordR s = true := by
  have hs : 0 < s.size := by
    unfold nameR at h
    split at h
    · cases h
    · rename_i h1
      simp only [Bool.or_eq_true, decide_eq_true_eq, not_or] at h1
      omega
  unfold wordR
  rw [Bool.and_eq_true]
  refine ⟨List.all_eq_true.2 fun i hi => (name_ok h i (List.mem_range.1 hi)).1, by simpa using (by omega : ¬ s.size = 0)⟩
end Go.Proofs.YtmidcjlidploaaaGreatDoor.Sk
end
