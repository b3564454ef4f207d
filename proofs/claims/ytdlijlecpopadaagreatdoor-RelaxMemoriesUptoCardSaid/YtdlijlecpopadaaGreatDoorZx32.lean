/- Texts joined by a program: SoA, RxI. -/
import Derived.Lib.ItoaMem
import Derived.Test.YtdlijlecpopadaaGreatDoorZx31

section
set_option linter.unusedSimpArgs false
set_option linter.unusedVariables false
namespace Go.So
variable {α : Type}
structure SWO (lt : α → α → Bool) : Prop where
  asym : ∀ a b, lt a b = true → lt b a = false
  neg : ∀ a b c, lt a b = false → lt b c = false → lt a c = false
def tlt (lt : α → α → Bool) (p q : α × Nat) : Prop := lt p.1 q.1 = true ∨ (lt q.1 p.1 = false ∧ p.2 < q.2)
section
variable {lt : α → α → Bool} (h : SWO lt)
include h
theorem lt_of {a b c : α} (h1 : lt a b = true) (h2 : lt c b = false) : lt a c = true := by
  cases hc : lt a c with
  | true => rfl
  | false => have := h.neg _ _ _ hc h2; rw [h1] at this; cases this
theorem lt_of2 {a b c : α} (h1 : lt a b = true) (h2 : lt a c = false) : lt c b = true := by
  cases hc : lt c b with
  | true => rfl
  | false => have := h.neg _ _ _ h2 hc; rw [h1] at this; cases this
theorem tlt_nlt {p q : α × Nat} (h1 : tlt lt p q) : lt q.1 p.1 = false := h1.elim (fun e => h.asym _ _ e) (fun e => e.1)
theorem tlt_trans {p q r : α × Nat} (h1 : tlt lt p q) (h2 : tlt lt q r) : tlt lt p r := by
  rcases h1 with h1 | ⟨h1, h1'⟩
  · exact .inl (lt_of h h1 (tlt_nlt h h2))
  · rcases h2 with h2 | ⟨h2, h2'⟩
    · exact .inl (lt_of2 h h2 h1)
    · exact .inr ⟨h.neg _ _ _ h2 h1, by omega⟩
theorem tlt_asym {p q : α × Nat} (h1 : tlt lt p q) (h2 : tlt lt q p) : False := by
  rcases h1 with h1 | ⟨h1, h1'⟩
  · have := tlt_nlt h h2; rw [h1] at this; cases this
  · rcases h2 with h2 | ⟨h2, h2'⟩
    · rw [h1] at h2; cases h2
    · omega
end
theorem perm_unique {R : α → α → Prop} (ha : ∀ a b, R a b → R b a → False) : ∀ l1 l2 : List α, l1.Perm l2 → l1.Pairwise R → l2.Pairwise R → l1 = l2
  | [], l2, hp, _, _ => (List.nil_perm.1 hp).symm
  | a :: t, [], hp, _, _ => absurd hp.length_eq (by simp)
  | a :: t, b :: u, hp, h1, h2 => by
    have h1' := List.pairwise_cons.1 h1
    have h2' := List.pairwise_cons.1 h2
    by_cases e : a = b
    · subst e
      rw [perm_unique ha t u ((List.perm_cons a).1 hp) h1'.2 h2'.2]
    · have ma : a ∈ u := (List.mem_cons.1 (hp.mem_iff.1 (List.mem_cons_self ..))).resolve_left e
      have mb : b ∈ t := (List.mem_cons.1 (hp.mem_iff.2 (List.mem_cons_self ..))).resolve_left (fun x => e x.symm)
      exact (ha a b (h1'.1 b mb) (h2'.1 a ma)).elim
def ins (lt : α → α → Bool) (x : α) : List α → List α
  | [] => [x]
  | z :: r => if lt x z = true then x :: z :: r else z :: ins lt x r
def ssort (lt : α → α → Bool) (l : List α) : List α := l.foldl (fun acc x => ins lt x acc) []
theorem ins_perm (lt : α → α → Bool) (x : α) : ∀ l : List α, (ins lt x l).Perm (x :: l)
  | [] => .refl _
  | z :: r => by
    unfold ins
    split
    · exact .refl _
    · exact ((ins_perm lt x r).cons z).trans (.swap x z r)
theorem ins_map {β : Type} (lt : α → α → Bool) (f : β → α) (x : β) : ∀ l : List β, (ins (fun a b => lt (f a) (f b)) x l).map f = ins lt (f x) (l.map f)
  | [] => rfl
  | z :: r => by
    rw [List.map_cons]
    unfold ins
    split
    · rfl
    · rw [List.map_cons, ins_map lt f x r]
theorem ins_mem {lt : α → α → Bool} {x y : α} {l : List α} : y ∈ ins lt x l ↔ y = x ∨ y ∈ l := by rw [(ins_perm lt x l).mem_iff, List.mem_cons]
theorem ins_sorted {lt : α → α → Bool} (h : SWO lt) (x : α × Nat) : ∀ l : List (α × Nat), l.Pairwise (tlt lt) → (∀ y ∈ l, y.2 < x.2) → (ins (fun a b => lt a.1 b.1) x l).Pairwise (tlt lt)
  | [], _, _ => by simp [ins]
  | z :: r, hs, hr => by
    have hs' := List.pairwise_cons.1 hs
    unfold ins
    split
    · next hx =>
      refine List.pairwise_cons.2 ⟨fun y hy => ?_, hs⟩
      rcases List.mem_cons.1 hy with rfl | hy
      · exact .inl hx
      · exact tlt_trans h (.inl hx) (hs'.1 y hy)
    · next hx =>
      refine List.pairwise_cons.2 ⟨fun y hy => ?_, ins_sorted h x r hs'.2 fun y hy => hr y (List.mem_cons_of_mem _ hy)⟩
      rcases ins_mem.1 hy with rfl | hy
      · exact .inr ⟨by simpa using hx, hr z (List.mem_cons_self ..)⟩
      · exact hs'.1 y hy
theorem foldl_ins {lt : α → α → Bool} (h : SWO lt) : ∀ (l acc : List (α × Nat)) (k : Nat), acc.Pairwise (tlt lt) → (∀ y ∈ acc, y.2 < k) → (∀ i (y : α × Nat), l[i]? = some y → y.2 = k + i) →
    ((l.foldl (fun a x => ins (fun a b => lt a.1 b.1) x a) acc).Pairwise (tlt lt) ∧ (l.foldl (fun a x => ins (fun a b => lt a.1 b.1) x a) acc).Perm (acc ++ l) ∧ (l.foldl (fun a x => ins (fun a b => lt a.1 b.1) x a) acc).map Prod.fst = (l.map Prod.fst).foldl (fun a x => ins lt x a) (acc.map Prod.fst))
  | [], acc, k, hs, _, _ => ⟨hs, by simp, rfl⟩
  | x :: l, acc, k, hs, hk, hl => by
    have hx : x.2 = k := by have := hl 0 x rfl; omega
    have ih := foldl_ins h l (ins (fun a b => lt a.1 b.1) x acc) (k + 1) (ins_sorted h x acc hs fun y hy => by have := hk y hy; omega) (fun y hy => by
      rcases ins_mem.1 hy with rfl | hy
      · omega
      · have := hk y hy; omega) (fun i y hi => by have := hl (i + 1) y (by simpa using hi); omega)
    rw [List.foldl_cons]
    refine ⟨ih.1, ih.2.1.trans ?_, ?_⟩
    · refine ((ins_perm _ x acc).append_right l).trans ?_
      exact List.perm_middle.symm
    · rw [ih.2.2, ins_map lt Prod.fst x acc, List.map_cons, List.foldl_cons]
def tag (l : List α) : List (α × Nat) := l.zipIdx
theorem tag_fst (l : List α) : (tag l).map Prod.fst = l := by unfold tag; exact List.zipIdx_map_fst 0 l
theorem tag_get {l : List α} {i : Nat} {y : α × Nat} (h : (tag l)[i]? = some y) : y.2 = i := by
  unfold tag at h
  rw [List.getElem?_zipIdx] at h
  cases hx : l[i]? with
  | none => rw [hx] at h; cases h
  | some a => rw [hx] at h; simp at h; rw [← h]
theorem tag_len (l : List α) : (tag l).length = l.length := by unfold tag; exact List.length_zipIdx
theorem sorted_is {lt : α → α → Bool} (h : SWO lt) {l : List α} {L : List (α × Nat)} (hp : L.Perm (tag l)) (hs : L.Pairwise (tlt lt)) : L.map Prod.fst = ssort lt l := by
  have hf := foldl_ins h (tag l) [] 0 List.Pairwise.nil (by simp) (fun i y hi => by have := tag_get hi; omega)
  rw [perm_unique (fun a b => tlt_asym h) L _ (hp.trans hf.2.1.symm) hs hf.1, hf.2.2, tag_fst]
  rfl
section
variable {lt : α → α → Bool} (h : SWO lt)
include h
theorem mid_sorted {Q B : List (α × Nat)} {x : α × Nat} (hs : (Q ++ B).Pairwise (tlt lt)) (h1 : ∀ y, Q.getLast? = some y → tlt lt y x) (h2 : ∀ y, B.head? = some y → tlt lt x y) : (Q ++ x :: B).Pairwise (tlt lt) := by
  obtain ⟨hQ, hB, hQB⟩ := List.pairwise_append.1 hs
  have hxB : ∀ b ∈ B, tlt lt x b := by
    intro b hb
    cases B with
    | nil => cases hb
    | cons y r =>
      rcases List.mem_cons.1 hb with rfl | hb
      · exact h2 b rfl
      · exact tlt_trans h (h2 y rfl) ((List.pairwise_cons.1 hB).1 b hb)
  have hQx : ∀ a ∈ Q, tlt lt a x := by
    intro a ha
    rcases List.eq_nil_or_concat Q with rfl | ⟨Q', y, rfl⟩
    · cases ha
    · rw [List.concat_eq_append] at *
      have hy := h1 y (by simp)
      rcases List.mem_append.1 ha with ha | ha
      · exact tlt_trans h ((List.pairwise_append.1 hQ).2.2 a ha y (by simp)) hy
      · rw [List.mem_singleton.1 ha]; exact hy
  refine List.pairwise_append.2 ⟨hQ, List.pairwise_cons.2 ⟨hxB, hB⟩, fun a ha b hb => ?_⟩
  rcases List.mem_cons.1 hb with rfl | hb
  · exact hQx a ha
  · exact hQB a ha b hb
end
def swp (l : List α) (i j : Nat) : List α := match l[i]?, l[j]? with
  | some x, some y => (l.set i y).set j x
  | _, _ => l
theorem swp_at {U V W : List α} {x y : α} {i j : Nat} (hi : i = U.length) (hj : j = U.length + 1 + V.length) : swp (U ++ x :: (V ++ y :: W)) i j = U ++ y :: (V ++ x :: W) := by
  subst hi hj
  unfold swp
  have e1 : (U ++ x :: (V ++ y :: W))[U.length]? = some x := by simp
  have e2 : (U ++ x :: (V ++ y :: W))[U.length + 1 + V.length]? = some y := by
    rw [List.getElem?_append_right (by omega), show U.length + 1 + V.length - U.length = V.length + 1 by omega, List.getElem?_cons_succ, List.getElem?_append_right (by omega)]
    simp
  rw [e1, e2]
  simp only
  rw [List.set_append_right _ _ (by omega), show U.length - U.length = 0 by omega, List.set_cons_zero, List.set_append_right _ _ (by omega), show U.length + 1 + V.length - U.length = V.length + 1 by omega, List.set_cons_succ, List.set_append_right _ _ (by omega), Nat.sub_self, List.set_cons_zero]
theorem swp_next {U W : List α} {x y : α} {i j : Nat} (hi : i = U.length) (hj : j = U.length + 1) : swp (U ++ x :: y :: W) i j = U ++ y :: x :: W := swp_at (V := []) hi (by simpa using hj)
theorem swp_comm (l : List α) (i j : Nat) (h : i ≠ j) : swp l i j = swp l j i := by
  unfold swp
  cases l[i]? with
  | none => cases l[j]? <;> rfl
  | some x => cases l[j]? with
    | none => rfl
    | some y => exact List.set_comm _ _ h
def ranks (A B : List (α × Nat)) : Prop := ∀ x ∈ A, ∀ y ∈ B, x.2 < y.2
structure Good (lt : α → α → Bool) (R : List (List (α × Nat))) : Prop where
  srt : ∀ A ∈ R, A.Pairwise (tlt lt)
  rk : R.Pairwise ranks
end Go.So
end

section
set_option linter.unusedSimpArgs false
set_option linter.unusedVariables false
namespace Go.Proofs.YtdlijlecpopadaaGreatDoor.Rx
open Go.Aw Go.Aw.D Go.Proofs Ty Go.Nu Go.So
open Nu (ltB geB)
set_option maxRecDepth 100000
abbrev iRow (l : List Int) : Row := ⟨3, 1, l.map encInt⟩
theorem encInt_len (x : Int) : (encInt x).length = 1 := (rfl)
theorem encInt_drop (x : Int) : (encInt x).drop 1 = [] := (rfl)
theorem drop_at {α : Type} {l : List α} {k : Nat} {x : α} (h : l[k]? = some x) : l.drop k = x :: l.drop (k + 1) := by
  obtain ⟨hlt, rfl⟩ := List.getElem?_eq_some_iff.1 h
  rw [List.getElem_cons_drop]
theorem tag_up {α : Type} (l : List α) : (tag l).Pairwise fun p q => p.2 < q.2 := by
  rw [List.pairwise_iff_getElem]
  intro i k hi hk hik
  rw [tag_get (List.getElem?_eq_getElem hi), tag_get (List.getElem?_eq_getElem hk)]
  exact hik
theorem updH_twice (H : Heap) (j : Nat) (a b : Option Row) : updH (updH H j a) j b = updH H j b := by
  funext k
  unfold updH
  split <;> rfl
theorem updH_self {H : Heap} {j : Nat} {r : Row} (h : H j = some r) : updH H j (some r) = H := by
  funext k
  unfold updH
  split
  · next e => rw [e, h]
  · rfl
theorem swp_row {L : List Int} {a b j : Nat} {x y : Int} {H0 H : Heap} (hx : L[a]? = some x) (hy : L[b]? = some y) (hne : a ≠ b) (hH : H = updH H0 j (some (iRow L))) :
    updH (updH H j (some (⟨3, 1, (L.map encInt).set a (encInt y)⟩ : Row))) j (some (⟨3, 1, ((L.map encInt).set a (encInt y)).set b (encInt x ++ List.drop 1 (((L.map encInt).set a (encInt y)).getD b []))⟩ : Row)) = updH H0 j (some (iRow (swp L a b))) := by
  have hg : ((L.map encInt).set a (encInt y)).getD b [] = encInt y := by
    rw [List.getD, List.getElem?_set_ne hne, List.getElem?_map, hy]; rfl
  rw [hH, updH_twice, updH_twice, hg, encInt_drop, List.append_nil]
  unfold swp iRow
  simp only [hx, hy, List.map_set]
abbrev TB := Int × Nat
def fs (L : List TB) : List Int := L.map Prod.fst
theorem fs_len (a : List TB) : (fs a).length = a.length := List.length_map _
theorem fs_get {L : List TB} {k : Nat} {x : TB} (h : L[k]? = some x) : (fs L)[k]? = some x.1 := by unfold fs; rw [List.getElem?_map, h]; rfl
structure CmpOk (gf : Nat) (cap' : List AV) (lt : Int → Int → Bool) (ok : Int → Prop) : Prop where
  call : callOk Tryz.prog gf = true
  cmp : ∀ x y, ok x → ok y → ∃ n : Int, decide (n < 0) = lt x y ∧ PC Tryz.prog gf (int x :: int y :: cap') (int n)
theorem pin_back {l : List Nat} {H Hr Hm : Heap} (h1 : ∀ k, k ∈ l → Hm k = H k) (h2 : ∀ k, k ∉ l → Hm k = Hr k) (h3 : ∀ k, k ∉ l → Hr k = H k) : Hm = H := funext fun k => by
  by_cases h : k ∈ l
  · exact h1 k h
  · rw [h2 k h, h3 k h]
theorem insertion_c {gf : Nat} {cx : AV} {jc : Nat} {rc : Row} {cap' : List AV} {lt : Int → Int → Bool} {ok : Int → Prop} (hs : SWO lt) (hc : CmpOk gf cap' lt ok) (hcv : ∀ H : Heap, H jc = some rc → ConvL H [cx, .op jc 0 0] cap') (P X S : List TB) (a b j : Nat) (H0 : Heap) (K : AV → Heap → Prop) (ha : a = P.length) (hb : b = a + X.length)
    (hrk : X.Pairwise fun p q => p.2 < q.2) (hok : ∀ x ∈ X, ok x.1) (hl : (P ++ X ++ S).length ≤ 1048576) (hj : H0 j = some (iRow (fs (P ++ X ++ S)))) (hjc : H0 jc = some rc) (hne : jc ≠ j)
    (hK : ∀ M : List TB, M.Perm X → M.Pairwise (tlt lt) → ∀ r, K r (updH H0 j (some (iRow (fs (P ++ M ++ S)))))) : FCalls Tryz.prog 139 [.os j, int a, int b, (.fn gf [cx, .op jc 0 0])] H0 K := by
  have hlen : P.length + X.length + S.length ≤ 1048576 := by simpa [Nat.add_assoc] using hl
  have hcall := hc.call
  refine FCalls.body (c := Tryz.f139.body.getD .skip) (fun _ => false) mixed Tryz.func139 rfl (by kernel_rfl) ?_
  unfold Tryz.f139
  simp only [Option.getD_some]
  simp only [go_sem]
  simp only [go_sem, wrapS (show a ≤ 4611686018427387904 by omega)]
  refine ⟨fun ρ H => ∃ (k : Nat) (M : List TB), 1 ≤ k ∧ k ≤ max 1 X.length ∧ ρ 0 = .os j ∧ ρ 1 = int a ∧ ρ 2 = int b ∧ ρ 3 = (.fn gf [cx, .op jc 0 0]) ∧ ρ 8 = int (a + k : Nat) ∧ M.Perm (X.take k) ∧ M.Pairwise (tlt lt) ∧ H = updH H0 j (some (iRow (fs (P ++ M ++ X.drop k ++ S)))), fun ρ _ => b + 1 - natOf (ρ 8),
    ⟨1, X.take 1, Nat.le_refl _, Nat.le_max_left _ _, by simp only [go_sem], by simp only [go_sem], by simp only [go_sem], by simp only [go_sem], by simp only [go_sem], .refl _, by cases X <;> simp, by
      have : P ++ X.take 1 ++ X.drop 1 ++ S = P ++ X ++ S := by rw [List.append_assoc P, List.take_append_drop]
      rw [this]; exact (updH_self hj).symm⟩, ?_⟩
  rintro ρ H ⟨k, M, hk1, hkm, e0, e1, e2, e3, e8, hp, hM, hH⟩
  simp only [go_sem, e0, e1, e2, e3, e8]
  refine acond_i (fun hlt => ?_) (fun hge => ?_)
  · have hkx : k < X.length := by have := ltB hlt; omega
    obtain ⟨y, hy⟩ := getIn hkx
    have hyX : y ∈ X := List.mem_of_getElem? hy
    have hML : M.length = k := by rw [hp.length_eq, List.length_take]; omega
    have hMok : ∀ z ∈ M, ok z.1 ∧ z.2 < y.2 := fun z hz => by
      have hz := hp.mem_iff.1 hz
      refine ⟨hok z (List.mem_of_mem_take hz), ?_⟩
      have hX : X = X.take k ++ y :: X.drop (k + 1) := by rw [← drop_at hy, List.take_append_drop]
      rw [hX] at hrk
      exact (List.pairwise_append.1 hrk).2.2 z hz y (List.mem_cons_self ..)
    simp only [go_sem, e0, e1, e2, e3, e8]
    refine ⟨fun ρ H => ∃ M1 M2 : List TB, M = M1 ++ M2 ∧ (∀ z ∈ M2, lt y.1 z.1 = true) ∧ ρ 0 = .os j ∧ ρ 1 = int a ∧ ρ 2 = int b ∧ ρ 3 = (.fn gf [cx, .op jc 0 0]) ∧ ρ 8 = int (a + k : Nat) ∧ ρ 9 = int (a + M1.length : Nat) ∧ H = updH H0 j (some (iRow (fs (P ++ M1 ++ y :: M2 ++ X.drop (k + 1) ++ S)))), fun ρ _ => natOf (ρ 9),
      ⟨M, [], by simp, by simp, by simp only [go_sem, e0], by simp only [go_sem, e1], by simp only [go_sem, e2], by simp only [go_sem, e3], by simp only [go_sem, e8], by simp only [go_sem, e8, hML], by rw [hH, drop_at hy]; simp only [List.append_assoc, List.cons_append, List.nil_append]⟩, ?_⟩
    clear e0 e1 e2 e3 e8 hH
    rintro ρ H ⟨M1, M2, rfl, hM2, e0, e1, e2, e3, e8, e9, hH⟩
    have hml : M1.length + M2.length = k := by rw [← hML, List.length_append]
    have R : H j = some (iRow (fs (P ++ M1 ++ y :: M2 ++ X.drop (k + 1) ++ S))) := by rw [hH]; exact updH_same _ _ _
    have Rc : H jc = some rc := by rw [hH, updH_ne _ _ _ _ hne]; exact hjc
    have finish : (M1 = [] ∨ ∃ M' z, M1 = M' ++ [z] ∧ lt y.1 z.1 = false) → (M1 ++ y :: M2).Perm (X.take (k + 1)) ∧ (M1 ++ y :: M2).Pairwise (tlt lt) := by
      intro hfin
      refine ⟨?_, mid_sorted hs hM (fun z hz => ?_) (fun z hz => .inl (hM2 z (List.mem_of_mem_head? hz)))⟩
      · rw [take_succ hy]
        refine List.perm_middle.trans ?_
        exact ((hp.cons y)).trans (List.perm_append_singleton y _).symm
      · rcases hfin with rfl | ⟨M', z', rfl, hz'⟩
        · cases hz
        · rw [List.getLast?_append, List.getLast?_singleton] at hz
          have : z' = z := by simpa using hz
          subst this
          exact .inr ⟨hz', (hMok z' (by simp)).2⟩
    rcases List.eq_nil_or_concat M1 with rfl | ⟨M', z, rfl⟩
    · simp only [go_sem, e0, e1, e2, e3, e8, e9]
      refine adraw_p [j, jc] [(0, true), (1, true), (2, true), (3, true), (4, true), (5, true), (6, true), (7, true), (8, true), (9, true), (10, true), (11, true), (12, true), (13, true), (14, true), (15, true), (16, true)] (by simp [R, Rc]) (by kernel_rfl) fun Hp Hr hp1 hr1 hp2 hr2 => ?_
      have Rp := (hp1 j (by simp)).trans R
      have Rpc := (hp1 jc (by simp)).trans Rc
      have hz0 : decide ((a : Int) > (a : Int)) = false := by simp
      simp only [List.length_nil, Nat.add_zero] at e9
      simp only [go_sem, e0, e1, e2, e3, e8, e9, Rp, hz0, hcall]
      refine ⟨int 0, ?_⟩
      simp only [go_sem, e0, e1, e2, e3, e8, e9]
      refine pinEnd_i fun _ Hm hm1 hm2 => ?_
      obtain rfl := pin_back hm1 hm2 hr1
      refine acond_i (fun hb => by cases hb) (fun _ => ?_)
      simp only [go_sem, e0, e1, e2, e3, e8, wrapS (show a + k ≤ 4611686018427387904 by omega)]
      obtain ⟨f1, f2⟩ := finish (.inl rfl)
      refine ⟨⟨k + 1, _, by omega, by omega, ?_, f1, f2, by rw [hH]; simp only [List.append_assoc, List.cons_append, List.nil_append]⟩, by simp only [natOf_int]; omega⟩
      rw [Nat.add_assoc]
    · rw [List.concat_eq_append] at *
      have hzy : (P ++ (M' ++ [z]) ++ y :: M2 ++ X.drop (k + 1) ++ S)[a + M'.length]? = some z := by
        rw [ha]; simp only [List.append_assoc]; rw [List.getElem?_append_right (by omega), List.getElem?_append_right (by omega)]; simp
      have hyy : (P ++ (M' ++ [z]) ++ y :: M2 ++ X.drop (k + 1) ++ S)[a + M'.length + 1]? = some y := by
        rw [ha]; simp only [List.append_assoc]; rw [List.getElem?_append_right (by omega), List.getElem?_append_right (by omega), List.getElem?_append_right (by simp; omega)]; simp [Nat.add_sub_cancel_left, show P.length + M'.length + 1 - P.length - M'.length - 1 = 0 by omega]
      simp only [List.length_append, List.length_singleton] at hml
      have hfl : (fs (P ++ (M' ++ [z]) ++ y :: M2 ++ X.drop (k + 1) ++ S)).length = P.length + X.length + S.length := by simp [fs]; omega
      have b1 : (0 : Int) ≤ ((a + M'.length + 1 : Nat) : Int) ∧ ((a + M'.length + 1 : Nat) : Int) < ((fs (P ++ (M' ++ [z]) ++ y :: M2 ++ X.drop (k + 1) ++ S)).length : Int) := by omega
      have b2 : (0 : Int) ≤ ((a + M'.length : Nat) : Int) ∧ ((a + M'.length : Nat) : Int) < ((fs (P ++ (M' ++ [z]) ++ y :: M2 ++ X.drop (k + 1) ++ S)).length : Int) := by omega
      have g1 := getD_map (f := encInt) (fs_get hyy)
      have g2 := getD_map (f := encInt) (fs_get hzy)
      obtain ⟨n, hn, hpc⟩ := hc.cmp y.1 z.1 (hok y hyX) (hMok z (by simp)).1
      have e9' : ρ 9 = int ((a + M'.length + 1 : Nat) : Int) := by rw [e9]; simp [Nat.add_assoc]
      have hgt : decide (((a + M'.length + 1 : Nat) : Int) > (a : Int)) = true := by simp; omega
      have w1 : IntKind.i64.wrap (((a + M'.length + 1 : Nat) : Int) - 1) = ((a + M'.length : Nat) : Int) := by rw [wrap_in (by omega)]; omega
      simp only [go_sem, e0, e1, e2, e3, e8, e9']
      refine adraw_p [j, jc] [(0, true), (1, true), (2, true), (3, true), (4, true), (5, true), (6, true), (7, true), (8, true), (9, true), (10, true), (11, true), (12, true), (13, true), (14, true), (15, true), (16, true)] (by simp [R, Rc]) (by kernel_rfl) fun Hp Hr hp1 hr1 hp2 hr2 => ?_
      have Rp := (hp1 j (by simp)).trans R
      have Rpc := (hp1 jc (by simp)).trans Rc
      simp only [go_sem, e0, e1, e2, e3, e8, e9', Rp, hgt, hcall, w1, g1, g2, b1, b2]
      refine ⟨by omega, by omega, _, .inl ⟨_, .cons _ _ _ _ (.refl _) (.cons _ _ _ _ (.refl _) (hcv Hp Rpc)), hpc, rfl⟩, ?_⟩
      simp only [go_sem, e0, e1, e2, e3, e8, e9', hn]
      refine pinEnd_i fun _ Hm hm1 hm2 => ?_
      obtain rfl := pin_back hm1 hm2 hr1
      refine acond_i (fun hb => ?_) (fun hb => ?_)
      · simp only [go_sem, e0, e1, e2, e3, e8, e9']
        refine adraw_t [] (.q 0 (.q 1 (.q 2 (.q 3 (.q 4 (.q 5 (.q 6 (.q 7 (.q 10 (.q 11 (.a2 8 (.a2 9 (.a1 12 (.a1 13 (.a1 14 (.a1 15 (.a1 16 (.a1 17 (.nil))))))) 12 (.a2 9 (.a1 13 (.a1 14 (.a1 15 (.a1 16 (.a1 17 (.nil)))))) 13 (.a1 9 (.a1 14 (.a1 15 (.a1 16 (.a1 17 (.nil)))))))) 12 (.a2 8 (.a2 9 (.a1 13 (.a1 14 (.a1 15 (.a1 16 (.a1 17 (.nil)))))) 13 (.a1 9 (.a1 14 (.a1 15 (.a1 16 (.a1 17 (.nil))))))) 13 (.a1 8 (.a1 9 (.a1 14 (.a1 15 (.a1 16 (.a1 17 (.nil))))))))))))))))))) (by simp) (by kernel_rfl) fun Hp Hr _ hr _ _ => ?_
        obtain rfl : Hr = Hm := funext fun i => hr i (by simp)
        have hx : (fs (P ++ (M' ++ [z]) ++ y :: M2 ++ X.drop (k + 1) ++ S))[a + M'.length + 1]? = some y.1 := fs_get hyy
        have hy2 : (fs (P ++ (M' ++ [z]) ++ y :: M2 ++ X.drop (k + 1) ++ S))[a + M'.length]? = some z.1 := fs_get hzy
        simp only [go_sem, e0, e1, e2, e3, e8, e9', w1, R, b1, b2]
        repeat' (first | (refine amixt_2i ?_ ?_) | (refine ⟨by omega, ?_⟩) | (refine wputE_1 so3 R ⟨by rw [List.length_map]; omega, rfl, Nat.le_refl 1⟩ ?_) | (refine wputE_1 so3 (updH_same _ _ _) ⟨by rw [List.length_set, List.length_map]; omega, rfl, Nat.le_refl 1⟩ ?_) | (refine pinEnd_i fun _ Hm _ hm => ?_; obtain rfl : Hm = _ := funext fun i => hm i (by simp)) | (simp only [go_sem, e0, e1, e2, e3, e8, e9', w1, R, b1, b2, g1, g2, List.length_set, List.length_map, encInt_drop, List.append_nil]))
        all_goals refine ⟨⟨M', z :: M2, by simp, ?_, rfl, (swp_row hx hy2 (by omega) hH).trans ?_⟩, by simp only [natOf_int]; omega⟩
        all_goals first
          | (intro u hu
             rcases List.mem_cons.1 hu with rfl | hu
             · exact hb
             · exact hM2 u hu)
          | (congr 2
             rw [swp_comm _ _ _ (by omega)]
             have := swp_next (U := fs (P ++ M')) (W := fs (M2 ++ X.drop (k + 1) ++ S)) (x := z.1) (y := y.1) (i := a + M'.length) (j := a + M'.length + 1) (by rw [fs_len, List.length_append]; omega) (by rw [fs_len, List.length_append]; omega)
             simp only [fs, List.map_append, List.map_cons, List.map_nil, List.append_assoc, List.cons_append, List.nil_append] at this ⊢
             exact congrArg iRow this)
      · simp only [go_sem, e0, e1, e2, e3, e8, wrapS (show a + k ≤ 4611686018427387904 by omega)]
        obtain ⟨f1, f2⟩ := finish (.inr ⟨M', z, rfl, hb⟩)
        refine ⟨⟨k + 1, _, by omega, by omega, ?_, f1, f2, by rw [hH]; simp only [List.append_assoc, List.cons_append, List.nil_append]⟩, by simp only [natOf_int]; omega⟩
        rw [Nat.add_assoc]
  · have hkx : X.length ≤ k := by have : ¬ a + k < b := fun h => by simp at hge; omega
                                  omega
    rw [List.take_of_length_le hkx] at hp
    rw [List.drop_of_length_le hkx, List.append_nil] at hH
    simp only [go_sem]
    rw [hH]
    exact hK M hp hM _
section
variable {gf : Nat} {cx : AV} {jc : Nat} {rc : Row} {cap' : List AV} {lt : Int → Int → Bool} {ok : Int → Prop}
theorem stable_c (hs : SWO lt) (hc : CmpOk gf cap' lt ok) (hcv : ∀ H : Heap, H jc = some rc → ConvL H [cx, .op jc 0 0] cap') (l : List Int) (j : Nat) (H0 : Heap) (K : AV → Heap → Prop) (hl : l.length ≤ 19) (hok : ∀ x ∈ l, ok x) (hj : H0 j = some (iRow l)) (hjc : H0 jc = some rc) (hne : jc ≠ j)
    (hK : ∀ r, K r (updH H0 j (some (iRow (ssort lt l))))) : FCalls Tryz.prog 75 [.os j, int (l.length : Nat), .fn gf [cx, .op jc 0 0]] H0 K := by
  refine FCalls.body (c := Tryz.f75.body.getD .skip) (fun _ => false) mixed Tryz.func75 rfl (by kernel_rfl) ?_
  unfold Tryz.f75
  simp only [Option.getD_some]
  simp only [go_sem]
  refine ⟨fun ρ H => ρ 0 = .os j ∧ ρ 1 = int (l.length : Nat) ∧ ρ 2 = .fn gf [cx, .op jc 0 0] ∧ ρ 6 = int 20 ∧ ρ 7 = int 0 ∧ ρ 8 = int 20 ∧ H = H0, fun _ _ => 0, ⟨by simp only [go_sem], by simp only [go_sem], by simp only [go_sem], by simp only [go_sem], by simp only [go_sem], by simp only [go_sem], rfl⟩, ?_⟩
  rintro ρ H ⟨e0, e1, e2, e6, e7, e8, rfl⟩
  simp only [go_sem, e0, e1, e2, e6, e7, e8]
  refine acond_i (fun hb => ?_) (fun hb => ?_)
  · have hb := of_decide_eq_true hb
    omega
  simp only [go_sem, e0, e1, e2, e6, e7, e8]
  have htl : (tag l).length = l.length := tag_len l
  refine insertion_c hs hc hcv [] (tag l) [] 0 l.length j H _ rfl (by rw [htl, Nat.zero_add]) ?_ ?_ (by simp [htl]; omega) ?_ hjc hne fun M hM hMs r => ?_
  · exact tag_up l
  · intro x hx
    exact hok _ (by rw [← tag_fst l]; exact List.mem_map.2 ⟨x, hx, rfl⟩)
  · simp only [List.nil_append, List.append_nil]
    show H j = some (iRow ((tag l).map Prod.fst))
    rw [tag_fst]; exact hj
  simp only [List.nil_append, List.append_nil]
  have hfm : fs M = ssort lt l := sorted_is hs hM hMs
  rw [hfm]
  simp only [go_sem, e0, e1, e2, e6, e7, e8]
  refine ⟨fun ρ H' => ρ 1 = int (l.length : Nat) ∧ ρ 6 = int 20 ∧ H' = updH H j (some (iRow (ssort lt l))), fun _ _ => 0, ⟨by simp only [go_sem, e1], by simp only [go_sem, e6], rfl⟩, ?_⟩
  rintro ρ H' ⟨e1, e6, rfl⟩
  simp only [go_sem, e1, e6]
  refine acond_i (fun hb => ?_) (fun hb => ?_)
  · have hb := of_decide_eq_true hb
    omega
  simp only [go_sem]
  exact hK _
theorem sortStable_c (hs : SWO lt) (hc : CmpOk gf cap' lt ok) (hcv : ∀ H : Heap, H jc = some rc → ConvL H [cx, .op jc 0 0] cap') (l : List Int) (j : Nat) (H0 : Heap) (K : AV → Heap → Prop) (hl : l.length ≤ 19) (hok : ∀ x ∈ l, ok x) (hj : H0 j = some (iRow l)) (hjc : H0 jc = some rc) (hne : jc ≠ j)
    (hK : ∀ r, K r (updH H0 j (some (iRow (ssort lt l))))) : FCalls Tryz.prog 36 [.os j, .fn gf [cx, .op jc 0 0]] H0 K := by
  refine FCalls.body (c := Tryz.f36.body.getD .skip) (fun _ => false) mixed Tryz.func36 rfl (by kernel_rfl) ?_
  unfold Tryz.f36
  simp only [Option.getD_some]
  simp only [go_sem]
  simp only [go_sem, hj, List.length_map]
  refine stable_c hs hc hcv l j H0 _ hl hok hj hjc hne fun r => ?_
  simp only [go_sem]
  exact hK _
end
end Go.Proofs.YtdlijlecpopadaaGreatDoor.Rx
end
