/- Texts joined by a program: TkB, TkC, TkD, TkE. -/
import Derived.Test.YtmidcjlidploaaaGreatDoorSb31

section
set_option linter.unusedSimpArgs false
set_option linter.unusedVariables false
namespace Go.Proofs.YtmidcjlidploaaaGreatDoor.Sk
open Go.Aw Go.Aw.D Go.Proofs Ty
open Go.Proofs.YtmidcjlidploaaaGreatDoor
open Go.Proofs.YtmidcjlidploaaaGreatDoor.Nw (ltB geB cB)
open Go.Proofs.YtmidcjlidploaaaGreatDoor.Sc hiding wordR
open Go.RowKit (Below)
set_option maxRecDepth 100000
theorem prefix_c (s p : ByteArray) : PC Tryz.prog 34 [str s, str p] (boo (Lib.hasPrefix s.data.toList p.data.toList)) := by
  refine PC.lib (a := [.string s, .string p]) (v := .bool (Lib.hasPrefix s.data.toList p.data.toList)) (fun S w => rfl) fun u ht => (Tryz.strings_HasPrefix s p u).mono fun e w' ⟨he, hw⟩ => ⟨he, hw ▸ Below.refl _ _⟩
theorem indexNl_c (s : ByteArray) : PC Tryz.prog 35 [str s, .v (.int .u8 10)] (int (Lib.indexByte s.data.toList 10)) := by
  refine PC.lib (a := [.string s, .int .u8 10]) (v := .int .i64 (Lib.indexByte s.data.toList 10)) (fun S w => rfl) fun w ht => (Tryz.strings_IndexByte s 10 w).mono fun e w' ⟨he, hw⟩ => ⟨he, hw ▸ Below.refl _ _⟩
theorem rest_at {a b : ByteArray} {n : Nat} (h : a.size = n) : (a ++ b).extract n (a ++ b).size = b := ByteArray.extract_append_eq_right h.symm (by rw [ByteArray.size_append])
theorem head_at {a b : ByteArray} {n : Nat} (h : a.size = n) : (a ++ b).extract 0 n = a := ByteArray.extract_append_eq_left h.symm
theorem ln_begin (it : Item) (t : ByteArray) : Lib.hasPrefix (it.ln ++ t).data.toList beginB.data.toList = false := by
  have e : (it.ln ++ t).data.toList = bs it.word ++ (bs (tailB spB it.words) ++ (bs nlB ++ bs t)) := by
    show bs (it.ln ++ t) = _
    rw [bs_app, Item.ln, bs_app, Item.line, joinB_cons, bs_app]
    simp only [List.append_assoc]
  rw [e]
  cases it <;> rfl
theorem divide_c (L : List Item) (hL : ∀ it ∈ L, OkIt it) (r : ByteArray) (hs : (catB (L.map Item.ln) ++ (beginB ++ r)).size ≤ 65536) : PC Tryz.prog 16 [str (catB (L.map Item.ln) ++ (beginB ++ r))] (.tup [str (catB (L.map Item.ln)), str r, boo true]) := by
  generalize hS : catB (L.map Item.ln) ++ (beginB ++ r) = S at *
  have hsp : ∀ k, S = catB ((L.take k).map Item.ln) ++ (catB ((L.drop k).map Item.ln) ++ (beginB ++ r)) := fun k => by
    rw [← app_assoc, ← catB_app, ← List.map_append, List.take_append_drop, hS]
  refine PC.body (c := Tryz.f16.body.getD .skip) (fun _ => false) mixed Tryz.func16 rfl (by kernel_rfl) ?_
  unfold Tryz.f16
  simp only [Option.getD_some]
  simp only [go_sem]
  refine ⟨fun ρ _ => ∃ k : Nat, k ≤ L.length ∧ ρ 0 = str S ∧ ρ 5 = int (catB ((L.take k).map Item.ln)).size, fun ρ _ => S.size - natOf (ρ 5), ⟨0, Nat.zero_le _, by simp only [go_sem], (by simp only [go_sem]; rfl)⟩, ?_⟩
  rintro ρ H ⟨k, hk, e0, e5⟩
  have hk2 := hsp k
  have hz := congrArg ByteArray.size hk2
  rw [ByteArray.size_append, ByteArray.size_append, ByteArray.size_append] at hz
  have hb6 : beginB.size = 6 := rfl
  generalize hA : catB ((L.take k).map Item.ln) = A at *
  simp only [go_sem, e0, e5]
  refine acond_i (fun _ => ?_) (fun hb => absurd (of_decide_eq_false hb) (by omega))
  simp only [go_sem, e0, e5]
  have hr : S.extract A.size S.size = catB ((L.drop k).map Item.ln) ++ (beginB ++ r) := by
    conv => lhs; rw [hk2]
    exact rest_at rfl
  rw [hr]
  refine ⟨⟨by omega, by omega⟩, PC.use (prefix_c _ beginB) ?_⟩
  cases hd : L.drop k with
  | nil =>
    have hkl : k = L.length := by have := List.drop_eq_nil_iff.1 hd; omega
    subst hkl
    rw [hd] at hz hk2
    rw [List.map_nil, catB, nil_app] at hk2 ⊢
    have hp : Lib.hasPrefix (beginB ++ r).data.toList beginB.data.toList = true := by
      rw [show (beginB ++ r).data.toList = bs beginB ++ bs r from bs_app _ _]
      rfl
    rw [hp]
    simp only [go_sem, e0, e5]
    refine acond_i (fun _ => ?_) (fun hb => absurd hb (by decide))
    simp only [go_sem, e0, e5]
    refine adraw_m [(0, true), (1, true), (2, true), (3, true), (4, true), (5, true), (6, true), (7, true), (8, true), (9, true)] (by kernel_rfl) ?_
    have hw6 : IntKind.i64.wrap ((A.size : Int) + 6) = ((A.size + 6 : Nat) : Int) := by rw [wrap_in (by omega)]; omega
    simp only [go_sem, e0, e5, hw6]
    have h1 : S.extract 0 A.size = catB (L.map Item.ln) := by
      conv => lhs; rw [hk2]
      rw [head_at rfl, ← hA, List.take_of_length_le (Nat.le_refl _)]
    have h2 : S.extract (A.size + 6) S.size = r := by
      have : S = (A ++ beginB) ++ r := by rw [app_assoc]; exact hk2
      conv => lhs; rw [this]
      exact rest_at (by rw [ByteArray.size_append, hb6])
    rw [h1, h2]
    have h0 : (catB (([] : List Item).map Item.ln)).size = 0 := rfl
    exact ⟨⟨by omega, by omega⟩, ⟨by omega, by omega⟩, .refl _⟩
  | cons it rest =>
    have hit : it ∈ L := List.mem_of_mem_drop (i := k) (by rw [hd]; simp)
    rw [hd] at hz hk2
    rw [List.map_cons, catB, app_assoc] at hk2 ⊢
    rw [List.map_cons, catB, ByteArray.size_append] at hz
    rw [ln_begin it]
    simp only [go_sem, e0, e5]
    refine acond_i (fun hb => absurd hb (by decide)) (fun _ => ?_)
    simp only [go_sem, e0, e5]
    rw [hd, List.map_cons, catB, app_assoc] at hr
    rw [hr]
    have hi : Lib.indexByte (it.ln ++ (catB (rest.map Item.ln) ++ (beginB ++ r))).data.toList 10 = (it.line.size : Int) := by
      have : (it.ln ++ (catB (rest.map Item.ln) ++ (beginB ++ r))).data.toList = bs it.line ++ 10 :: bs (catB (rest.map Item.ln) ++ (beginB ++ r)) := by
        show bs _ = _
        rw [bs_app, Item.ln, bs_app]
        simp [nlB, bs]
      rw [this, ib_hit _ _ (line_no (hL it hit)), bs_size]
    refine ⟨⟨by omega, by omega⟩, PC.use (indexNl_c _) ?_⟩
    rw [hi]
    have z1 : it.ln.size = it.line.size + 1 := by rw [Item.ln, ByteArray.size_append]; rfl
    simp only [go_sem, e0, e5]
    refine acond_i (fun hb => absurd (of_decide_eq_true hb) (by omega)) (fun _ => ?_)
    have hw1 := wrapS (show it.line.size ≤ 4611686018427387904 by omega)
    have hw2 : IntKind.i64.wrap ((A.size : Int) + ((it.line.size + 1 : Nat) : Int)) = ((A.size + (it.line.size + 1) : Nat) : Int) := by rw [wrap_in (by omega)]; omega
    simp only [go_sem, e0, e5, hw1, hw2]
    have hkl : k < L.length := by
      have := congrArg List.length hd
      rw [List.length_drop] at this
      simp at this
      omega
    have hg : L[k]? = some it := by rw [← List.head?_drop, hd]; rfl
    refine ⟨⟨k + 1, hkl, ?_⟩, by simp only [natOf_int]; omega⟩
    rw [catB_take hg, hA, ByteArray.size_append, z1]
def simpR (s : ByteArray) : Int := if (s.toList == (⟨#[112, 108, 97, 110]⟩ : ByteArray).toList) = true then 1 else if (s.toList == (⟨#[112, 114, 111, 118, 101]⟩ : ByteArray).toList) = true then 4 else if (s.toList == (⟨#[110, 101, 120, 116]⟩ : ByteArray).toList) = true then 6 else 0
theorem simple_c (s : ByteArray) : PC Tryz.prog 42 [str s] (int (simpR s)) := by
  refine PC.body (c := Tryz.f42.body.getD .skip) (fun _ => false) mixed Tryz.func42 rfl (by kernel_rfl) ?_
  unfold Tryz.f42
  simp only [Option.getD_some]
  simp only [go_sem]
  unfold simpR
  refine acond_i (fun hb => ?_) (fun hb => ?_)
  · rw [if_pos hb]
    simp only [go_sem]
    exact .refl _
  rw [if_neg (by rw [hb]; decide)]
  simp only [go_sem]
  refine acond_i (fun hb => ?_) (fun hb => ?_)
  · rw [if_pos hb]
    simp only [go_sem]
    exact .refl _
  rw [if_neg (by rw [hb]; decide)]
  simp only [go_sem]
  refine acond_i (fun hb => ?_) (fun hb => ?_)
  · rw [if_pos hb]
    simp only [go_sem]
    exact .refl _
  rw [if_neg (by rw [hb]; decide)]
  simp only [go_sem]
  exact .refl _
end Go.Proofs.YtmidcjlidploaaaGreatDoor.Sk
end

section
set_option linter.unusedSimpArgs false
set_option linter.unusedVariables false
namespace Go.Proofs.YtmidcjlidploaaaGreatDoor.Sk
open Go.Aw Go.Aw.D Go.Proofs Ty
open Go.Proofs.YtmidcjlidploaaaGreatDoor
open Go.Proofs.YtmidcjlidploaaaGreatDoor.Nw (ltB geB cB)
open Go.Proofs.YtmidcjlidploaaaGreatDoor.Sc hiding wordR
open Go.RowKit (Below)
set_option maxRecDepth 100000
def e00 : D.Event := ⟨0, 0, 0, 0, 0, o0⟩
theorem noneE_eq {e : D.Event} (h : noneE e = true) : e = e00 := by
  obtain ⟨t, kind, a, b, n, o⟩ := e
  unfold noneE at h
  simp only [Bool.and_eq_true, beq_iff_eq] at h
  obtain ⟨⟨⟨⟨⟨h1, h2⟩, h3⟩, h4⟩, h5⟩, h6⟩ := h
  rw [zeroO_eq h1, h2, h3, h4, h5, h6]
  rfl
def planB : ByteArray := ⟨#[112, 108, 97, 110]⟩
def proveB : ByteArray := ⟨#[112, 114, 111, 118, 101]⟩
def nextB : ByteArray := ⟨#[110, 101, 120, 116]⟩
def advB : ByteArray := ⟨#[97, 100, 118, 97, 110, 99, 101]⟩
def explB : ByteArray := ⟨#[101, 120, 112, 108, 97, 105, 110]⟩
def hapB : ByteArray := ⟨#[104, 97, 112, 112, 101, 110, 32]⟩
def CE (c : D.Command) (l : ByteArray) : Prop :=
  (c = ⟨1, 0, e00⟩ ∧ l = planB) ∨ (c = ⟨4, 0, e00⟩ ∧ l = proveB) ∨ (c = ⟨6, 0, e00⟩ ∧ l = nextB) ∨
  (∃ n, i64B n ∧ c = ⟨2, n, e00⟩ ∧ l = joinB spB [advB, decZ n]) ∨ (∃ n, i64B n ∧ c = ⟨5, n, e00⟩ ∧ l = joinB spB [explB, decZ n]) ∨
  (∃ e, OkE e ∧ (evR e).2 = 0 ∧ c = ⟨3, 0, e⟩ ∧ l = hapB ++ (evR e).1)
theorem two_words (a b : ByteArray) : a ++ (⟨#[32]⟩ ++ b) = joinB spB [a, b] := by rw [jb_two, jb_one]; rfl
theorem ce_of {c : D.Command} (h : OkC c) (h0 : (cmdR c).2 = 0) : CE c (cmdR c).1 := by
  obtain ⟨kind, n, e⟩ := c
  unfold cmdR at h0 ⊢
  simp only at h0 ⊢
  have word : ∀ (w : ByteArray), (if (noneE e && n == 0) = true then (w, (0 : Int)) else (⟨#[]⟩, 2)).2 = 0 → e = e00 ∧ n = 0 ∧ (if (noneE e && n == 0) = true then (w, (0 : Int)) else (⟨#[]⟩, 2)).1 = w := fun w hw => by
    by_cases hc : (noneE e && n == 0) = true
    · rw [if_pos hc]
      simp only [Bool.and_eq_true, beq_iff_eq] at hc
      exact ⟨noneE_eq hc.1, hc.2, rfl⟩
    · rw [if_neg hc] at hw; cases hw
  have num : ∀ (w : ByteArray), (if noneE e = true then (w, (0 : Int)) else (⟨#[]⟩, 2)).2 = 0 → e = e00 ∧ (if noneE e = true then (w, (0 : Int)) else (⟨#[]⟩, 2)).1 = w := fun w hw => by
    by_cases hc : noneE e = true
    · rw [if_pos hc]
      exact ⟨noneE_eq hc, rfl⟩
    · rw [if_neg hc] at hw; cases hw
  by_cases h1 : kind = 1
  · subst h1
    rw [if_pos rfl] at h0 ⊢
    obtain ⟨rfl, rfl, e1⟩ := word _ h0
    rw [e1]
    exact .inl ⟨rfl, rfl⟩
  rw [if_neg h1] at h0 ⊢
  by_cases h4 : kind = 4
  · subst h4
    rw [if_pos rfl] at h0 ⊢
    obtain ⟨rfl, rfl, e1⟩ := word _ h0
    rw [e1]
    exact .inr (.inl ⟨rfl, rfl⟩)
  rw [if_neg h4] at h0 ⊢
  by_cases h6 : kind = 6
  · subst h6
    rw [if_pos rfl] at h0 ⊢
    obtain ⟨rfl, rfl, e1⟩ := word _ h0
    rw [e1]
    exact .inr (.inr (.inl ⟨rfl, rfl⟩))
  rw [if_neg h6] at h0 ⊢
  by_cases h2 : kind = 2
  · subst h2
    rw [if_pos rfl] at h0 ⊢
    obtain ⟨rfl, e1⟩ := num _ h0
    rw [e1, two_words]
    exact .inr (.inr (.inr (.inl ⟨n, h.1, rfl, rfl⟩)))
  rw [if_neg h2] at h0 ⊢
  by_cases h5 : kind = 5
  · subst h5
    rw [if_pos rfl] at h0 ⊢
    obtain ⟨rfl, e1⟩ := num _ h0
    rw [e1, two_words]
    exact .inr (.inr (.inr (.inr (.inl ⟨n, h.1, rfl, rfl⟩))))
  rw [if_neg h5] at h0 ⊢
  by_cases h3 : kind = 3
  · subst h3
    rw [if_pos rfl] at h0 ⊢
    by_cases hn : n = 0
    · subst hn
      rw [if_pos rfl] at h0 ⊢
      by_cases he : (evR e).2 = 0
      · rw [if_pos he]
        exact .inr (.inr (.inr (.inr (.inr ⟨e, h.2, he, rfl, rfl⟩))))
      · rw [if_neg he] at h0; exact absurd h0 he
    · rw [if_neg hn] at h0; cases h0
  · rw [if_neg h3] at h0; cases h0
theorem ne_head {s t : ByteArray} {a b : UInt8} {x y : List UInt8} (hs : bs s = a :: x) (ht : bs t = b :: y) (h : a ≠ b) : (s.toList == t.toList) = false := by
  rw [beq_eq_false_iff_ne]
  intro e
  rw [Lib.toList_data, Lib.toList_data] at e
  have e : bs s = bs t := e
  rw [hs, ht] at e
  injection e with e1 _
  exact h e1
theorem simpR_none {s : ByteArray} {a : UInt8} {x : List UInt8} (hs : bs s = a :: x) (h1 : a ≠ 112) (h2 : a ≠ 110) : simpR s = 0 := by
  unfold simpR
  rw [ne_head hs (t := ⟨#[112, 108, 97, 110]⟩) rfl h1, ne_head hs (t := ⟨#[112, 114, 111, 118, 101]⟩) rfl h1, ne_head hs (t := ⟨#[110, 101, 120, 116]⟩) rfl h2]
  rfl
theorem cutHap_c (s t : ByteArray) (ok : Bool) (h1 : (⟨(Lib.trimPrefix s.data.toList hapB.data.toList).toArray⟩ : ByteArray) = t) (h2 : Lib.hasPrefix s.data.toList hapB.data.toList = ok) : PC Tryz.prog 43 [str s, str hapB] (.tup [str t, boo ok]) := by
  refine PC.lib (a := [.string s, .string hapB]) (v := .tuple #[.string t, .bool ok]) (fun S w => ⟨_, rfl, ⟨_, _, rfl, rfl, ⟨_, _, rfl, rfl, rfl⟩⟩⟩) fun w _ => (Tryz.strings_CutPrefix s hapB w).mono fun e w' ⟨he, hw⟩ => ?_
  rw [hw]
  refine ⟨he.trans ?_, Below.refl _ _⟩
  rw [h1, h2]
abbrev cRow (k n : Int) (e : D.Event) : Row := ⟨70, 23, [encCommand ⟨k, n, e⟩]⟩
theorem command_c {c : D.Command} {l : ByteArray} (h : CE c l) (hs : l.size ≤ 65536) : PC Tryz.prog 20 [str l] (.tup [.agg (encCommand c), int 0]) := by
  refine PC.body (c := Tryz.f20.body.getD .skip) (fun _ => false) mixed Tryz.func20 rfl (by kernel_rfl) ?_
  unfold Tryz.f20
  simp only [Option.getD_some]
  simp only [go_sem]
  refine anew_g fun p G hp0 (P : G p = some (cRow 0 0 e00)) N => ?_
  clear N hp0
  simp only [go_sem, P]
  refine PC.use (simple_c l) ?_
  simp only [go_sem, P]
  rcases h with ⟨rfl, rfl⟩ | ⟨rfl, rfl⟩ | ⟨rfl, rfl⟩ | ⟨n, hn, rfl, rfl⟩ | ⟨n, hn, rfl, rfl⟩ | ⟨e, he, h0, rfl, rfl⟩
  · rw [show simpR planB = 1 by decide +kernel]
    refine acond_i (fun _ => ?_) (fun hb => absurd hb (by decide))
    simp only [go_sem, P]
    refine putn P ⟨Nat.zero_lt_one, rfl, Nat.le_of_ble_eq_true rfl⟩ fun G P1 F => ?_
    simp only [go_sem, P1]
    exact .refl _
  · rw [show simpR proveB = 4 by decide +kernel]
    refine acond_i (fun _ => ?_) (fun hb => absurd hb (by decide))
    simp only [go_sem, P]
    refine putn P ⟨Nat.zero_lt_one, rfl, Nat.le_of_ble_eq_true rfl⟩ fun G P1 F => ?_
    simp only [go_sem, P1]
    exact .refl _
  · rw [show simpR nextB = 6 by decide +kernel]
    refine acond_i (fun _ => ?_) (fun hb => absurd hb (by decide))
    simp only [go_sem, P]
    refine putn P ⟨Nat.zero_lt_one, rfl, Nat.le_of_ble_eq_true rfl⟩ fun G P1 F => ?_
    simp only [go_sem, P1]
    exact .refl _
  · have hb : bs (joinB spB [advB, decZ n]) = 97 :: ([100, 118, 97, 110, 99, 101] ++ bs (tailB spB [decZ n])) := by rw [joinB_cons, bs_app]; rfl
    rw [simpR_none hb (by decide) (by decide)]
    refine acond_i (fun hb => absurd hb (by decide)) (fun _ => ?_)
    simp only [go_sem, P]
    refine PC.use (cutHap_c _ _ false rfl ?_) ?_
    · rw [show (joinB spB [advB, decZ n]).data.toList = _ from hb]; rfl
    simp only [go_sem, P]
    refine acond_i (fun hb => absurd hb (by decide)) (fun _ => ?_)
    simp only [go_sem, P]
    refine PC.use (words_c [advB, decZ n] (by simp) (fun w hw => ?_) (by omega) (by simp)) ?_
    · simp only [List.mem_cons, List.not_mem_nil, or_false] at hw
      rcases hw with rfl | rfl
      · decide +kernel
      · exact decZ_word n
    simp only [go_sem, P]
    refine acond_i (fun hb => absurd hb (by decide)) (fun _ => ?_)
    simp only [go_sem, P]
    refine ⟨⟨by omega, by omega⟩, PC.use (number_c n hn) ?_⟩
    simp only [go_sem, P]
    refine acond_i (fun hb => absurd hb (by decide)) (fun _ => ?_)
    simp only [go_sem, P]
    refine ⟨⟨by omega, by omega⟩, ?_⟩
    refine acond_i (fun _ => ?_) (fun hb => absurd hb (by decide +kernel))
    simp only [go_sem, P]
    refine putn P ⟨Nat.zero_lt_one, rfl, Nat.le_of_ble_eq_true rfl⟩ fun G P1 F => ?_
    simp only [go_sem, P1]
    exact .refl _
  · have hb : bs (joinB spB [explB, decZ n]) = 101 :: ([120, 112, 108, 97, 105, 110] ++ bs (tailB spB [decZ n])) := by rw [joinB_cons, bs_app]; rfl
    rw [simpR_none hb (by decide) (by decide)]
    refine acond_i (fun hb => absurd hb (by decide)) (fun _ => ?_)
    simp only [go_sem, P]
    refine PC.use (cutHap_c _ _ false rfl ?_) ?_
    · rw [show (joinB spB [explB, decZ n]).data.toList = _ from hb]; rfl
    simp only [go_sem, P]
    refine acond_i (fun hb => absurd hb (by decide)) (fun _ => ?_)
    simp only [go_sem, P]
    refine PC.use (words_c [explB, decZ n] (by simp) (fun w hw => ?_) (by omega) (by simp)) ?_
    · simp only [List.mem_cons, List.not_mem_nil, or_false] at hw
      rcases hw with rfl | rfl
      · decide +kernel
      · exact decZ_word n
    simp only [go_sem, P]
    refine acond_i (fun hb => absurd hb (by decide)) (fun _ => ?_)
    simp only [go_sem, P]
    refine ⟨⟨by omega, by omega⟩, PC.use (number_c n hn) ?_⟩
    simp only [go_sem, P]
    refine acond_i (fun hb => absurd hb (by decide)) (fun _ => ?_)
    simp only [go_sem, P]
    refine ⟨⟨by omega, by omega⟩, ?_⟩
    refine acond_i (fun hb => absurd hb (by decide +kernel)) (fun _ => ?_)
    simp only [go_sem, P]
    refine ⟨⟨by omega, by omega⟩, ?_⟩
    refine acond_i (fun _ => ?_) (fun hb => absurd hb (by decide +kernel))
    simp only [go_sem, P]
    refine putn P ⟨Nat.zero_lt_one, rfl, Nat.le_of_ble_eq_true rfl⟩ fun G P1 F => ?_
    simp only [go_sem, P1]
    exact .refl _
  · have hb : bs (hapB ++ (evR e).1) = 104 :: ([97, 112, 112, 101, 110, 32] ++ bs (evR e).1) := by rw [bs_app]; rfl
    rw [simpR_none hb (by decide) (by decide)]
    refine acond_i (fun hb => absurd hb (by decide)) (fun _ => ?_)
    simp only [go_sem, P]
    refine PC.use (cutHap_c _ (evR e).1 true ?_ ?_) ?_
    · rw [show (hapB ++ (evR e).1).data.toList = _ from hb]; rfl
    · rw [show (hapB ++ (evR e).1).data.toList = _ from hb]; rfl
    simp only [go_sem, P]
    refine acond_i (fun _ => ?_) (fun hb => absurd hb (by decide))
    simp only [go_sem, P]
    refine PC.use (eparse_c e he h0 (by rw [ByteArray.size_append] at hs; omega)) ?_
    simp only [go_sem, P]
    refine anew_g fun q G hq0 (Q : G q = some (evRow 0 0 0 0 0 o0)) N => ?_
    obtain ⟨npq, P⟩ := N P
    clear N hq0
    simp only [go_sem, P, Q]
    refine putn Q ⟨Nat.zero_lt_one, rfl, Nat.le_of_ble_eq_true rfl⟩ fun G Q1 F => ?_
    replace P := F _ _ npq P
    replace Q : G q = some ⟨51, 21, [encEvent e]⟩ := Q1
    clear F Q1
    simp only [go_sem, P, Q]
    refine acond_i (fun hb => absurd hb (by decide)) (fun _ => ?_)
    simp only [go_sem, P, Q]
    refine putn P ⟨Nat.zero_lt_one, rfl, Nat.le_of_ble_eq_true rfl⟩ fun G P1 F => ?_
    simp only [go_sem, P1]
    exact .refl _
end Go.Proofs.YtmidcjlidploaaaGreatDoor.Sk
end

section
set_option linter.unusedSimpArgs false
set_option linter.unusedVariables false
namespace Go.Proofs.YtmidcjlidploaaaGreatDoor.Sk
open Go.Aw Go.Aw.D Go.Proofs Ty
open Go.Proofs.YtmidcjlidploaaaGreatDoor
open Go.Proofs.YtmidcjlidploaaaGreatDoor.Nw (ltB geB cB)
open Go.Proofs.YtmidcjlidploaaaGreatDoor.Sc hiding wordR
open Go.RowKit (Below)
set_option maxRecDepth 100000
theorem word_no {w : ByteArray} (h : wordR w = true) : (10 : UInt8) ∉ bs w := by
  intro hm
  unfold wordR at h
  simp only [Bool.and_eq_true] at h
  obtain ⟨i, hi, e⟩ := List.getElem_of_mem hm
  have hi2 : i < w.data.size := by simpa [bs] using hi
  have h1 := List.all_eq_true.1 h.1 i (List.mem_range.2 hi2)
  unfold byteAt at h1
  rw [Array.getD_eq_getD_getElem?, Array.getElem?_eq_getElem hi2, Option.getD_some] at h1
  have e2 : w.data[i] = 10 := by rw [← e]; simp [bs]
  rw [e2] at h1
  exact absurd h1 (by decide)
theorem join_no {ws : List ByteArray} (h : ∀ w ∈ ws, wordR w = true) : (10 : UInt8) ∉ bs (joinB spB ws) := by
  intro hm
  rcases mem_joinB hm with hm | ⟨w, hw, hm⟩
  · exact absurd hm (by decide)
  · exact word_no (h w hw) hm
theorem ce_no {c : D.Command} {l : ByteArray} (h : CE c l) : (10 : UInt8) ∉ bs l := by
  rcases h with ⟨_, rfl⟩ | ⟨_, rfl⟩ | ⟨_, rfl⟩ | ⟨n, hn, _, rfl⟩ | ⟨n, hn, _, rfl⟩ | ⟨e, he, h0, _, rfl⟩
  · decide
  · decide
  · decide
  · refine join_no fun w hw => ?_
    simp only [List.mem_cons, List.not_mem_nil, or_false] at hw
    rcases hw with rfl | rfl
    · decide +kernel
    · exact decZ_word n
  · refine join_no fun w hw => ?_
    simp only [List.mem_cons, List.not_mem_nil, or_false] at hw
    rcases hw with rfl | rfl
    · decide +kernel
    · exact decZ_word n
  · obtain ⟨kind, ws, hp, hj, hw⟩ := pe_of he h0
    rw [bs_app, List.mem_append, hj]
    rintro (hm | hm)
    · exact absurd hm (by decide)
    · refine join_no (fun w hm => ?_) hm
      rcases List.mem_cons.1 hm with rfl | hm
      · exact kind_word kind hp.pos.2.1 hp.pos.1
      · exact hw w hm
theorem cutcmd_c {l : ByteArray} (h : (10 : UInt8) ∉ bs l) (r : ByteArray) (hs : (l ++ ⟨#[10]⟩ ++ r).size ≤ 1048576) : PC Tryz.prog 19 [str (l ++ ⟨#[10]⟩ ++ r), str ⟨#[10]⟩] (.tup [str l, str r, boo true]) := by
  refine cut_c _ (bs l) (bs r) true hs ?_
  have : (l ++ ⟨#[10]⟩ ++ r).data.toList = bs l ++ 10 :: bs r := by
    show bs _ = _
    rw [bs_app, bs_app]
    simp [bs]
  rw [this, cut_hit _ _ h]
theorem countNl_c (s : ByteArray) : PC Tryz.prog 17 [str s, str ⟨#[10]⟩] (int (s.data.toList.count 10 : Nat)) := by
  refine PC.lib (a := [.string s, .string ⟨#[10]⟩]) (v := .int .i64 (s.data.toList.count 10 : Nat)) (fun S w => rfl) fun w ht => ?_
  exact (Tryz.strings_Count_one s 10 w).mono fun e w' ⟨he, hw⟩ => ⟨he, hw ▸ Below.refl _ _⟩
theorem al_app {α : Type} {P : α → Prop} {a b : List α} (h1 : ∀ f ∈ a, P f) (h2 : ∀ f ∈ b, P f) : ∀ f ∈ a ++ b, P f := fun f hf => (List.mem_append.1 hf).elim (h1 f) (h2 f)
theorem al_nil {α : Type} {P : α → Prop} : ∀ f ∈ ([] : List α), P f := fun f hf => by simp at hf
theorem al_opt {α : Type} {P : α → Prop} {b : Bool} {g : α} (h : P g) : ∀ f ∈ opt b g, P f := fun f hf => by
  cases b with
  | false => simp [opt] at hf
  | true => simp [opt] at hf; rw [hf]; exact h
theorem al_flat {α β : Type} {P : β → Prop} {f : α → List β} {l : List α} (h : ∀ a, ∀ x ∈ f a, P x) : ∀ x ∈ l.flatMap f, P x := fun x hx => by
  obtain ⟨a, _, h1⟩ := List.mem_flatMap.1 hx
  exact h a x h1
theorem al_map {α β : Type} {P : β → Prop} {Q : α → Prop} {f : α → β} {l : List α} (h : ∀ a, Q a → P (f a)) (h0 : ∀ a ∈ l, Q a) : ∀ x ∈ l.map f, P x := fun x hx => by
  obtain ⟨a, ha, rfl⟩ := List.mem_map.1 hx
  exact h a (h0 a ha)
theorem faults_ne (x : Instance) : ∀ f ∈ checkR x, f.err ≠ 0 := by
  unfold checkR netR placesR typesR ordersR rulesR pairsR
  refine al_app (al_app (al_app ?_ ?_) ?_) ?_ <;> refine al_map (Q := fun f => f.err ≠ 0) (fun f h => h) ?_
  · refine al_app (al_app (al_app (al_opt (by decide)) (al_flat fun i => ?_)) (al_opt (by decide))) (al_flat fun i => ?_)
    · unfold placeFaults
      split
      · intro f hf
        simp at hf
        rw [hf]; simp
      · exact al_opt (by simp)
    · unfold arcR
      repeat' apply al_app
      all_goals first | exact al_nil | exact al_opt (by simp) | exact al_flat fun i => al_opt (by simp) | skip
      refine al_map (Q := fun f => f.err ≠ 0) (fun f h => h) ?_
      unfold travelR
      refine al_app (al_opt (by simp)) (al_flat fun i => ?_)
      unfold pointFaults
      exact al_app (al_opt (by simp)) (al_opt (by simp))
  · refine al_app (al_opt (by decide)) (al_flat fun i => al_map (Q := fun n => n ≠ 0) (fun n h => h) ?_)
    unfold typeErrs
    repeat' apply al_app
    all_goals first | exact al_nil | exact al_opt (by decide)
  · refine al_app (al_opt (by decide)) (al_flat fun i => al_map (Q := fun n => n ≠ 0) (fun n h => h) ?_)
    unfold orderErrs
    repeat' apply al_app
    all_goals first | exact al_nil | exact al_opt (by decide)
  · refine al_app (al_app (al_opt (by decide)) (al_flat fun i => ?_)) (al_app (al_opt (by decide)) (al_flat fun i => ?_)) <;> unfold pairFaults <;> split
    · intro f hf
      simp at hf
      rw [hf]; simp
    · exact al_opt (by simp)
    · intro f hf
      simp at hf
      rw [hf]; simp
    · exact al_opt (by simp)
theorem errC_zero : ∀ {l : List D.Command}, errC l = 0 → ∀ c ∈ l, (cmdR c).2 = 0
  | [], _, c, hc => by simp at hc
  | a :: r, h, c, hc => by
    rw [errC] at h
    by_cases h0 : (cmdR a).2 = 0
    · rw [if_pos h0] at h
      rcases List.mem_cons.1 hc with rfl | hc
      · exact h0
      · exact errC_zero h c hc
    · rw [if_neg h0] at h; exact absurd h h0
theorem scr_ok {s : D.Script} (h0 : (scrR s).2 = 0) : checkR s.inst = [] ∧ (printR s.inst).1 = textI s.inst ∧ (∀ c ∈ s.commands, (cmdR c).2 = 0) ∧ (scrR s).1 = catB ((items s.inst ++ [Item.fin]).map Item.ln) ++ (beginB ++ catB (s.commands.map cmdL)) ∧ (scrR s).1.size ≤ 65536 := by
  unfold scrR at h0 ⊢
  by_cases h1 : (printR s.inst).2 = 0
  · rw [if_pos h1] at h0 ⊢
    by_cases h2 : errC s.commands = 0
    · rw [if_pos h2] at h0 ⊢
      by_cases h3 : 65536 < (scrT s).size
      · rw [if_pos h3] at h0; cases h0
      rw [if_neg h3]
      unfold printR at h1
      cases hc : checkR s.inst with
      | cons f l =>
        rw [hc] at h1
        exact absurd h1 (faults_ne s.inst f (by rw [hc]; simp))
      | nil =>
        rw [hc] at h1
        simp only at h1
        have hp : (printR s.inst).1 = textI s.inst := by
          unfold printR
          rw [hc]
          simp only
          by_cases h4 : 65536 < (textI s.inst).size
          · rw [if_pos h4] at h1; cases h1
          · rw [if_neg h4]
        refine ⟨rfl, hp, ?_, ?_, by simp only; omega⟩
        · exact errC_zero h2
        · simp only [scrT, hp, textI_ln, app_assoc]
    · rw [if_neg h2] at h0; exact absurd h0 h2
  · rw [if_neg h1] at h0; exact absurd h0 h1
end Go.Proofs.YtmidcjlidploaaaGreatDoor.Sk
end

section
set_option linter.unusedSimpArgs false
set_option linter.unusedVariables false
namespace Go.Proofs.YtmidcjlidploaaaGreatDoor.Sk
open Go.Aw Go.Aw.D Go.Proofs Ty
open Go.Proofs.YtmidcjlidploaaaGreatDoor
open Go.Proofs.YtmidcjlidploaaaGreatDoor.Nw (ltB geB cB empty_b)
open Go.Proofs.YtmidcjlidploaaaGreatDoor.Sc hiding wordR
open Go.RowKit (Below)
set_option maxRecDepth 100000
theorem scparse_c (s : D.Script) (h : OkS s) (h0 : (scrR s).2 = 0) : PC Tryz.prog 8 [str (scrR s).1] (.tup [.agg (encScript s), int 0, int 0]) := by
  obtain ⟨hc, _, hcm, hT, hsz⟩ := scr_ok h0
  have hok : ∀ it ∈ items s.inst ++ [Item.fin], OkIt it := fun it hi => by
    rcases List.mem_append.1 hi with hi | hi
    · exact items_ok h.inst hc it hi
    · simp only [List.mem_cons, List.not_mem_nil, or_false] at hi
      subst hi; exact trivial
  have hdv := divide_c _ hok (catB (s.commands.map cmdL)) (by rw [← hT]; exact hsz)
  rw [← textI_ln] at hT hdv
  rw [← hT] at hdv
  have hz := congrArg ByteArray.size hT
  rw [ByteArray.size_append, ByteArray.size_append] at hz
  have hsp := sparse_c s.inst h.inst hc (by omega)
  have hcnt := countNl_c (textI s.inst)
  generalize (textI s.inst).data.toList.count 10 = cnt at hcnt
  generalize (scrR s).1 = S at *
  generalize textI s.inst = T at *
  refine PC.body (c := Tryz.f8.body.getD .skip) (fun t => t == 46) mixed Tryz.func8 rfl (by kernel_rfl) ?_
  unfold Tryz.f8
  simp only [Option.getD_some]
  simp only [go_sem]
  refine anew_g fun r HGr hr0 (R : HGr r = some (⟨41, 7, [encScript scr0]⟩)) N => ?_
  clear N hr0
  simp only [go_sem, R]
  refine acond_i (fun hb => absurd (of_decide_eq_true hb) (by omega)) (fun _ => ?_)
  simp only [go_sem, R]
  refine PC.use hdv ?_
  simp only [go_sem, R]
  refine acond_i (fun hb => absurd hb (by decide)) (fun _ => ?_)
  simp only [go_sem, R]
  refine PC.use hsp ?_
  simp only [go_sem, R]
  refine anew_g fun q G hq0 (Q : G q = some ⟨30, 6, [encInstance x0]⟩) N => ?_
  obtain ⟨nrq, R⟩ := N R
  clear N hq0
  simp only [go_sem, R, Q]
  refine putn Q ⟨Nat.zero_lt_one, rfl, Nat.le_of_ble_eq_true rfl⟩ fun G Q1 F => ?_
  replace R := F _ _ nrq R
  replace Q : G q = some ⟨30, 6, [encInstance s.inst]⟩ := Q1
  clear F Q1
  simp only [go_sem, R, Q]
  refine acond_i (fun hb => absurd hb (by decide)) (fun _ => ?_)
  simp only [go_sem, R, Q]
  refine anew_g fun n1 G1 _ _ N => ?_
  replace R := N R
  obtain ⟨q1, R⟩ := R
  clear N
  refine anew_g fun n2 G2 _ _ N => ?_
  replace R := N R
  obtain ⟨q2, R⟩ := R
  clear N
  refine anew_g fun n3 G3 _ _ N => ?_
  replace R := N R
  obtain ⟨q3, R⟩ := R
  clear N
  refine anew_g fun n4 G4 _ _ N => ?_
  replace R := N R
  obtain ⟨q4, R⟩ := R
  clear N
  refine anew_g fun n5 G5 _ _ N => ?_
  replace R := N R
  obtain ⟨q5, R⟩ := R
  clear N
  refine anew_g fun n6 G6 _ _ N => ?_
  replace R := N R
  obtain ⟨q6, R⟩ := R
  clear N
  refine anew_g fun n7 G7 _ (C : G7 n7 = some (cmdRow [])) N => ?_
  replace R := N R
  obtain ⟨q7, R⟩ := R
  clear N
  refine anew_i fun u hu0 => ?_
  simp only [go_sem, R, C]
  refine wputE_v hu0 (by simp [encInstance]) fun G (U : G u = some (⟨41, 7, [cellsP s.inst n7]⟩)) N => ?_
  replace R := N R
  obtain ⟨nru, R⟩ := R
  replace C := N C
  obtain ⟨nnu, C⟩ := C
  clear N hu0
  simp only [go_sem, R, U, C]
  refine PC.use hcnt ?_
  simp only [go_sem, R, U, C]
  refine ⟨fun ρ H => ∃ (k n : Nat) (v : Int), k ≤ s.commands.length ∧ ρ 2 = .op r 0 0 ∧ ρ 11 = .op u 0 0 ∧ ρ 6 = str (catB ((s.commands.drop k).map cmdL)) ∧ ρ 12 = int v ∧ H u = some ⟨41, 7, [cellsP s.inst n]⟩ ∧ H n = some (cmdRow (s.commands.take k)) ∧ H r = some ⟨41, 7, [encScript scr0]⟩ ∧ u ≠ n ∧ r ≠ n ∧ (catB ((s.commands.drop k).map cmdL)).size ≤ 65536, fun ρ _ => sz0 (ρ 6), ⟨0, n7, IntKind.i64.wrap ((cnt : Int) + 2), Nat.zero_le _, by simp only [go_sem], by simp only [go_sem], by simp only [go_sem, List.drop_zero], by simp only [go_sem], U, C, R, nnu.symm, q7, by rw [List.drop_zero]; omega⟩, ?_⟩
  clear U C R
  rintro ρ H ⟨k, n, v, hk, e2, e11, e6, e12, U, C, R, hun, hrn, hcs⟩
  simp only [go_sem, e2, e11, e6, e12]
  cases hd : s.commands.drop k with
  | nil =>
    have hkl : k = s.commands.length := by have := List.drop_eq_nil_iff.1 hd; omega
    subst hkl
    refine acond_i (fun hb => absurd hb (by decide +kernel)) (fun _ => ?_)
    rw [List.take_of_length_le (Nat.le_refl _)] at C
    simp only [go_sem, e2, e11, e6, e12, U]
    refine putn R ⟨Nat.zero_lt_one, rfl, Nat.le_of_ble_eq_true rfl⟩ fun G R1 F => ?_
    replace C := F _ _ hrn.symm C
    simp only [go_sem, e2, R1]
    refine .tup _ _ (.cons _ _ _ _ ?_ (.cons _ _ _ _ (.refl _) (.cons _ _ _ _ (.refl _) .nil)))
    exact .agg _ _ (.cons _ _ _ _ (.refl _) (.cons _ _ _ _ (.refl _) (.cons _ _ _ _ (.refl _) (.cons _ _ _ _ (.refl _) (.cons _ _ _ _ (.refl _) (.cons _ _ _ _ (.refl _) (.cons _ _ _ _ (.row _ _ _ C (ConvE.refl _)) .nil)))))))
  | cons c rest =>
    have hcin : c ∈ s.commands := List.mem_of_mem_drop (i := k) (by rw [hd]; simp)
    have hce := ce_of (h.cmd c hcin) (hcm c hcin)
    have hkl : k < s.commands.length := by
      have := congrArg List.length hd
      rw [List.length_drop] at this
      simp at this
      omega
    have hg : s.commands[k]? = some c := by rw [← List.head?_drop, hd]; rfl
    have hd1 : s.commands.drop (k + 1) = rest := by rw [← List.drop_drop, hd]; rfl
    rw [hd, List.map_cons, catB] at hcs
    rw [hd, List.map_cons, catB] at e6
    rw [List.map_cons, catB]
    rw [ByteArray.size_append] at hcs
    have hl1 : (cmdL c).size = (cmdR c).1.size + 1 := by rw [cmdL, ByteArray.size_append]; rfl
    refine acond_i (fun _ => ?_) (fun hb => absurd hb ?_)
    · simp only [go_sem, e2, e11, e6, e12]
      refine PC.use (cutcmd_c (ce_no hce) _ (by show (cmdL c ++ _).size ≤ _; rw [ByteArray.size_append]; omega)) ?_
      simp only [go_sem, e2, e11, e6, e12]
      refine acond_i (fun hb => absurd hb (by decide)) (fun _ => ?_)
      simp only [go_sem, e2, e11, e6, e12]
      refine PC.use (command_c hce (by omega)) ?_
      simp only [go_sem, e2, e11, e6, e12]
      refine anew_g fun j G hj (J : G j = some (cRow 0 0 e00)) N => ?_
      obtain ⟨nuj, U⟩ := N U
      obtain ⟨nnj, C⟩ := N C
      obtain ⟨nrj, R⟩ := N R
      clear N hj
      simp only [go_sem, e2, e11, e6, e12, J, U, R]
      refine putn J ⟨Nat.zero_lt_one, rfl, Nat.le_of_ble_eq_true rfl⟩ fun G J1 F => ?_
      replace U := F _ _ nuj U
      replace C := F _ _ nnj C
      replace R := F _ _ nrj R
      replace J : G j = some ⟨70, 23, [encCommand c]⟩ := J1
      clear J1 F
      simp only [go_sem, e2, e11, e6, e12, J, U, R]
      refine acond_i (fun hb => absurd hb (by decide)) (fun _ => ?_)
      simp only [go_sem, e2, e11, e6, e12, J, U, R]
      have hst : (s.commands.take (k + 1)).map encCommand = (s.commands.take k).map encCommand ++ [encCommand c] := by rw [take_succ hg]; simp
      refine app1 C ⟨rfl, rfl⟩ (by simp only [go_sem, encCommand]) (by simp only [List.length_map, List.length_cons, List.length_nil, List.length_take]; have := h.cl; omega) fun j' G2 A N2 => ?_
      obtain ⟨nuj', U⟩ := N2 _ _ hun U
      obtain ⟨nrj', R⟩ := N2 _ _ hrn R
      simp only [go_sem, e2, e11, e6, e12, U, R]
      refine put1 so39 U ⟨Nat.zero_lt_one, rfl, Nat.le_of_ble_eq_true rfl⟩ fun G3 U3 F3 => ?_
      have A3 := F3 _ _ nuj'.symm A
      have R3 := F3 _ _ nru R
      simp only [go_sem, e2, e11, e6, e12]
      refine ⟨⟨k + 1, j', _, hkl, ?_, rfl, U3, A3.trans ?_, R3, nuj', nrj', by rw [hd1]; omega⟩, ?_⟩
      · rw [hd1]
      · simp only [cmdRow, hst]
      · simp only [sz0, ByteArray.size_append, hl1]
        omega
    · rw [empty_b]
      have : (cmdL c ++ catB (rest.map cmdL)).size = (cmdL c).size + (catB (rest.map cmdL)).size := ByteArray.size_append
      rw [decide_eq_false (by omega)]
      decide
theorem scr_bad {s : D.Script} (h : (scrR s).2 ≠ 0) : (scrR s).1 = ⟨#[]⟩ := by
  unfold scrR at h ⊢
  split
  · split
    · split
      · rfl
      · rename_i h1 h2 h3
        rw [if_pos h1, if_pos h2, if_neg h3] at h
        exact absurd rfl h
    · rfl
  · rfl
theorem scriptBack_c (s : D.Script) (hl : s.commands.length ≤ 1048576) (hS : smallS s = true → OkS s) : PC Tryz.prog 3 [.agg (encScript s)] (boo true) := by
  refine PC.body (c := Tryz.f3.body.getD .skip) (fun _ => false) mixed Tryz.func3 rfl (by kernel_rfl) ?_
  unfold Tryz.f3
  simp only [Option.getD_some]
  simp only [go_sem]
  refine PC.use (small_c s hl) ?_
  simp only [go_sem]
  refine acond_i (fun hb => ?_) (fun hb => ?_)
  · simp only [go_sem]
    refine PC.use example54_c ?_
    simp only [go_sem]
    exact .refl _
  have hs : smallS s = true := by simpa using hb
  have hS := hS hs
  simp only [go_sem]
  refine PC.use (program_c s hS.cl) ?_
  simp only [go_sem]
  refine PC.use (sPrint_c s hS) ?_
  simp only [go_sem]
  refine acond_i (fun hb => ?_) (fun hb => ?_)
  · have h0 : (scrR s).2 ≠ 0 := by simpa using hb
    simp only [go_sem]
    rw [scr_bad h0]
    refine ⟨_, fun _ => .inl ⟨_, .nil, example54_c, rfl⟩, ?_⟩
    simp only [go_sem]
    exact cB (by simp)
  have h0 : (scrR s).2 = 0 := by simpa using hb
  simp only [go_sem]
  refine PC.use (scparse_c s hS h0) ?_
  simp only [go_sem]
  refine anew_g fun q G hq0 (Q : G q = some ⟨41, 7, [encScript scr0]⟩) N => ?_
  clear N hq0
  simp only [go_sem, Q]
  refine putn Q ⟨Nat.zero_lt_one, rfl, Nat.le_of_ble_eq_true rfl⟩ fun G Q1 F => ?_
  replace Q : G q = some ⟨41, 7, [encScript s]⟩ := Q1
  clear F Q1
  simp only [go_sem, Q]
  refine PC.use (sPrint_c s hS) ?_
  simp only [go_sem, Q]
  rw [h0]
  refine ⟨_, fun _ => .inl ⟨_, .nil, example54_c, rfl⟩, ?_⟩
  simp only [go_sem]
  exact cB (by simp)
end Go.Proofs.YtmidcjlidploaaaGreatDoor.Sk
end
