/- Texts joined by a program: SkV, SkX, ScH, ScI. -/
import Derived.Test.YtmidcjlidploaaaGreatDoorSb26
import Derived.Test.YtmidcjlidploaaaGreatDoorSb28

section
set_option linter.unusedSimpArgs false
set_option linter.unusedVariables false
namespace Go.Proofs.YtmidcjlidploaaaGreatDoor.Sk
open Go.Aw Go.Aw.D Go.Proofs Ty
open Go.Proofs.YtmidcjlidploaaaGreatDoor
open Go.Proofs.YtmidcjlidploaaaGreatDoor.Sc
set_option maxRecDepth 100000
def Item.line (it : Item) : ByteArray := joinB spB (it.word :: it.words)
def Item.ln (it : Item) : ByteArray := it.line ++ nlB
def items (x : Instance) : List Item := x.net.places.map .place ++ (x.net.arcs.map .arc ++ (x.types.map .type ++ (x.orders.map .order ++ (x.apart.map .apart ++ x.before.map .before))))
theorem ln_fin : Item.fin.ln = endL := by decide +kernel
theorem textI_ln (x : Instance) : textI x = catB ((items x ++ [Item.fin]).map Item.ln) := by
  unfold items textI text6 text5 text4 text3 text2 text1
  simp only [List.map_append, catB_app, List.map_map, List.map_cons, List.map_nil, catB_one, ln_fin, app_assoc]
  rfl
def x0 : Instance := ⟨⟨[], []⟩, [], [], [], []⟩
theorem add_places (l : List ByteArray) : ∀ x : Instance, (l.map Item.place).foldl addI x = { x with net := { x.net with places := x.net.places ++ l } } := by
  induction l with
  | nil => intro x; simp
  | cons a l ih => intro x; simp [ih, addI]
theorem add_arcs (l : List Arc) : ∀ x : Instance, (l.map Item.arc).foldl addI x = { x with net := { x.net with arcs := x.net.arcs ++ l } } := by
  induction l with
  | nil => intro x; simp
  | cons a l ih => intro x; simp [ih, addI]
theorem add_types (l : List VType) : ∀ x : Instance, (l.map Item.type).foldl addI x = { x with types := x.types ++ l } := by
  induction l with
  | nil => intro x; simp
  | cons a l ih => intro x; simp [ih, addI]
theorem add_orders (l : List Order) : ∀ x : Instance, (l.map Item.order).foldl addI x = { x with orders := x.orders ++ l } := by
  induction l with
  | nil => intro x; simp
  | cons a l ih => intro x; simp [ih, addI]
theorem add_apart (l : List Pair) : ∀ x : Instance, (l.map Item.apart).foldl addI x = { x with apart := x.apart ++ l } := by
  induction l with
  | nil => intro x; simp
  | cons a l ih => intro x; simp [ih, addI]
theorem add_before (l : List Pair) : ∀ x : Instance, (l.map Item.before).foldl addI x = { x with before := x.before ++ l } := by
  induction l with
  | nil => intro x; simp
  | cons a l ih => intro x; simp [ih, addI]
theorem add_items (x : Instance) : (items x).foldl addI x0 = x := by
  unfold items
  simp only [List.foldl_append, add_places, add_arcs, add_types, add_orders, add_apart, add_before, x0, List.nil_append]
abbrev Srt (l : List Item) : Prop := l.Pairwise fun a b => a.rank ≤ b.rank
theorem ge_app {α : Type} {f : α → Item} {l : List α} {m : List Item} {r s : Nat} (hf : ∀ a, (f a).rank = s) (hr : r ≤ s) (hm : ∀ b ∈ m, r ≤ b.rank) : ∀ b ∈ l.map f ++ m, r ≤ b.rank := fun b hb => by
  rcases List.mem_append.1 hb with hb | hb
  · obtain ⟨v, _, rfl⟩ := List.mem_map.1 hb
    rw [hf]; exact hr
  · exact hm b hb
theorem srt_app {α : Type} {f : α → Item} {l : List α} {m : List Item} {s : Nat} (hf : ∀ a, (f a).rank = s) (hm : ∀ b ∈ m, s ≤ b.rank) (hs : Srt m) : Srt (l.map f ++ m) := by
  induction l with
  | nil => exact hs
  | cons a l ih => exact List.pairwise_cons.2 ⟨fun b hb => by rw [hf]; exact ge_app hf (Nat.le_refl _) hm b hb, ih⟩
theorem items_srt (x : Instance) : Srt (items x) := by
  have h5 : ∀ b ∈ x.before.map Item.before ++ [], 5 ≤ b.rank := ge_app (s := 5) (fun _ => rfl) (by decide) (by simp)
  rw [List.append_nil] at h5
  have h5' : Srt (x.before.map Item.before ++ []) := srt_app (s := 5) (fun _ => rfl) (by simp) .nil
  rw [List.append_nil] at h5'
  have h4 : ∀ r, r ≤ 4 → ∀ b ∈ x.apart.map Item.apart ++ x.before.map Item.before, r ≤ b.rank := fun r hr => ge_app (s := 4) (fun _ => rfl) hr fun b hb => by have := h5 b hb; omega
  have h3 : ∀ r, r ≤ 3 → ∀ b ∈ x.orders.map Item.order ++ (x.apart.map Item.apart ++ x.before.map Item.before), r ≤ b.rank := fun r hr => ge_app (s := 3) (fun _ => rfl) hr (h4 r (by omega))
  have h2 : ∀ r, r ≤ 2 → ∀ b ∈ x.types.map Item.type ++ (x.orders.map Item.order ++ (x.apart.map Item.apart ++ x.before.map Item.before)), r ≤ b.rank := fun r hr => ge_app (s := 2) (fun _ => rfl) hr (h3 r (by omega))
  have h1 : ∀ r, r ≤ 1 → ∀ b ∈ x.net.arcs.map Item.arc ++ (x.types.map Item.type ++ (x.orders.map Item.order ++ (x.apart.map Item.apart ++ x.before.map Item.before))), r ≤ b.rank := fun r hr => ge_app (s := 1) (fun _ => rfl) hr (h2 r (by omega))
  exact srt_app (s := 0) (fun _ => rfl) (h1 0 (by decide)) (srt_app (s := 1) (fun _ => rfl) (h2 1 (by decide)) (srt_app (s := 2) (fun _ => rfl) (h3 2 (by decide)) (srt_app (s := 3) (fun _ => rfl) (h4 3 (by decide)) (srt_app (s := 4) (fun _ => rfl) (fun b hb => by have := h5 b hb; omega) h5'))))
theorem items_lt (x : Instance) : ∀ it ∈ items x, it.rank < 6 := by
  intro it h
  unfold items at h
  simp only [List.mem_append, List.mem_map] at h
  rcases h with ⟨v, _, rfl⟩ | ⟨v, _, rfl⟩ | ⟨v, _, rfl⟩ | ⟨v, _, rfl⟩ | ⟨v, _, rfl⟩ | ⟨v, _, rfl⟩ <;> (simp only [Item.rank]; decide)
theorem small_back : ∀ (l : List Item) (y : Instance), Small (l.foldl addI y) → Small y
  | [], _, h => h
  | it :: l, y, h => by
    have h := small_back l _ h
    cases it <;> obtain ⟨h1, h2, h3, h4, h5, h6⟩ := h <;> simp only [addI, List.length_append, List.length_cons, List.length_nil] at h1 h2 h3 h4 h5 h6 <;> exact ⟨by omega, by omega, by omega, by omega, by omega, by omega⟩
theorem line_no {it : Item} (h : OkIt it) : (10 : UInt8) ∉ bs it.line := by
  intro hm
  rcases mem_joinB hm with hm | ⟨w, hw, hm⟩
  · exact absurd hm (by decide)
  · have := words_ok h w hw
    unfold wordR at this
    simp only [Bool.and_eq_true] at this
    obtain ⟨i, hi, e⟩ := List.getElem_of_mem hm
    have hi2 : i < w.data.size := by simpa [bs] using hi
    have h1 := List.all_eq_true.1 this.1 i (List.mem_range.2 hi2)
    unfold byteAt at h1
    rw [Array.getD_eq_getD_getElem?, Array.getElem?_eq_getElem hi2, Option.getD_some] at h1
    have e2 : w.data[i] = 10 := by rw [← e]; simp [bs]
    rw [e2] at h1
    exact absurd h1 (by decide)
theorem cut_ln {it : Item} (h : OkIt it) (r : ByteArray) : Lib.cut (it.ln ++ r).data.toList [10] = (bs it.line, bs r, true) := by
  have : (it.ln ++ r).data.toList = bs it.line ++ 10 :: bs r := by
    show bs (it.ln ++ r) = _
    rw [bs_app, Item.ln, bs_app]
    simp [nlB, bs]
  rw [this, cut_hit _ _ (line_no h)]
end Go.Proofs.YtmidcjlidploaaaGreatDoor.Sk
end

section
set_option linter.unusedSimpArgs false
set_option linter.unusedVariables false
namespace Go.Aw
open Go.RowKit
theorem PC.useNil {P : Program} {f : FuncId} {args args' : List AV} {H : Heap} {K : AV → Heap → Prop} (hc : ConvL H args args') (hp : PC P f args' (.sl [])) (hK : K (.sl []) H) : FCalls P f args H K := by
  intro S w vals hS ha
  let S0 : Sg := { S.froze H with fz := fun k => k < w.heap.size }
  have hle0 : (S.froze H).le S0 := ⟨fun _ h => h, Nat.le_refl _, fun _ _ => rfl, fun _ _ => rfl⟩
  have hS0 : St S0 w noRows := ⟨fun k hk => by
    rcases hk with hk | ⟨j, r, hj, hg⟩
    · exact hS.fz_lt k (hS.ro_fz k hk)
    · exact (hS.rows j r hj).block_lt hg, fun _ h => h, fun k r hk => by simp [noRows] at hk, fun k r hk => by simp [noRows] at hk, fun k k' r r' hk => by simp [noRows] at hk, (hS.tabs.keep (S.le_froze H) (Kept.refl S w)).keep hle0 (Kept.refl _ w)⟩
  refine (hp S0 w vals hS0 (fun _ h => h) (repL_mono hle0 (Kept.refl _ w) _ _ (hc.rep hS ha))).mono fun e w' ⟨v', x, H', S', he, hx, hS', hv', hg, hn⟩ => ?_
  subst hx
  refine ⟨v', .sl [], H, S, he, hK, hS.after hg.size hg.same, ?_, hS.grow hg.os hg.tape hg.output hg.size hg.same, NewK.refl _ _⟩
  simp only [rep] at hv' ⊢
  obtain ⟨ad, n, c, h1, h2, h3, h4, _⟩ := hv'
  exact ⟨ad, n, c, h1, h2, h3, h4, .inl trivial⟩
end Go.Aw
namespace Go.Proofs.YtmidcjlidploaaaGreatDoor.Sk
open Go.Aw Go.Aw.D Go.Proofs Ty
open Go.Proofs.YtmidcjlidploaaaGreatDoor
open Go.Proofs.YtmidcjlidploaaaGreatDoor.Nw (ltB geB cB icheck_c)
open Go.Proofs.YtmidcjlidploaaaGreatDoor.Sc
open Go.RowKit (Below)
set_option maxRecDepth 100000
theorem names_ok {x : Instance} (h : checkR x = []) : (∀ s ∈ x.net.places, nameR s = true) ∧ (∀ t ∈ x.types, nameR t.name = true) ∧ (∀ o ∈ x.orders, nameR o.name = true) := by
  unfold checkR netR placesR typesR ordersR at h
  simp only [List.append_eq_nil_iff, List.map_eq_nil_iff, List.flatMap_eq_nil_iff, List.mem_range] at h
  obtain ⟨⟨⟨⟨⟨⟨_, hp⟩, _⟩, _⟩, _, ht⟩, _, ho⟩, _⟩ := h
  refine ⟨fun s hs => ?_, fun t hs => ?_, fun o hs => ?_⟩
  · obtain ⟨i, hi, e⟩ := List.getElem_of_mem hs
    have := hp i hi
    unfold placeFaults at this
    rw [strAt_get (by rw [List.getElem?_eq_getElem hi, e])] at this
    cases hn : nameR s with
    | true => rfl
    | false => rw [hn] at this; cases this
  · obtain ⟨i, hi, e⟩ := List.getElem_of_mem hs
    have := ht i hi
    unfold typeFaults at this
    rw [vtAt_get (by rw [List.getElem?_eq_getElem hi, e])] at this
    unfold typeErrs at this
    simp only [List.map_eq_nil_iff, List.append_eq_nil_iff] at this
    cases hn : nameR t.name with
    | true => rfl
    | false => simp [hn, opt] at this
  · obtain ⟨i, hi, e⟩ := List.getElem_of_mem hs
    have := ho i hi
    unfold orderFaults at this
    rw [orAt_get (by rw [List.getElem?_eq_getElem hi, e])] at this
    unfold orderErrs at this
    simp only [List.map_eq_nil_iff, List.append_eq_nil_iff] at this
    cases hn : nameR o.name with
    | true => rfl
    | false => simp [hn, opt] at this
theorem items_ok {x : Instance} (h : OkI x) (hc : checkR x = []) : ∀ it ∈ items x, OkIt it := by
  obtain ⟨h1, h2, h3⟩ := names_ok hc
  intro it hi
  unfold items at hi
  simp only [List.mem_append, List.mem_map] at hi
  rcases hi with ⟨v, hv, rfl⟩ | ⟨v, hv, rfl⟩ | ⟨v, hv, rfl⟩ | ⟨v, hv, rfl⟩ | ⟨v, hv, rfl⟩ | ⟨v, hv, rfl⟩
  · exact name_word (h1 v hv)
  · exact h.arc v hv
  · exact ⟨h.type v hv, name_word (h2 v hv)⟩
  · exact ⟨h.order v hv, name_word (h3 v hv)⟩
  · exact h.apart v hv
  · exact h.before v hv
theorem drew_below {w : World} (k : Nat) : Below w.heap.size w (w.drewN k) := by
  refine ⟨rfl, rfl, rfl, ?_, fun i hi => ?_⟩
  · simp
  · simp only [World.heap_drewN]
theorem cut_c (s : ByteArray) (a b : List UInt8) (ok : Bool) (hs : s.size ≤ 1048576) (h : Lib.cut s.data.toList [10] = (a, b, ok)) : PC Tryz.prog 19 [str s, str ⟨#[10]⟩] (.tup [str ⟨a.toArray⟩, str ⟨b.toArray⟩, boo ok]) := by
  refine PC.lib (a := [.string s, .string ⟨#[10]⟩]) (v := .tuple #[.string ⟨a.toArray⟩, .string ⟨b.toArray⟩, .bool ok]) (fun S w => ⟨_, rfl, ⟨_, _, rfl, rfl, ⟨_, _, rfl, rfl, ⟨_, _, rfl, rfl, rfl⟩⟩⟩⟩) fun w ht => ?_
  obtain ⟨m, hm⟩ := num_of ht
  refine (Tryz.strings_Cut s ⟨#[10]⟩ m w (by omega) hm).mono fun e w' ⟨he, k, hw⟩ => ?_
  rw [show (⟨#[10]⟩ : ByteArray).data.toList = [10] from rfl, h] at he
  exact ⟨he, hw ▸ drew_below k⟩
theorem cutln_c {it : Item} (h : OkIt it) (r : ByteArray) (hs : (it.ln ++ r).size ≤ 1048576) : PC Tryz.prog 19 [str (it.ln ++ r), str ⟨#[10]⟩] (.tup [str it.line, str r, boo true]) := cut_c _ _ _ _ hs (cut_ln h r)
theorem inst_conv {H : Heap} {b : Nat} {n : Nat → Nat} {x : Instance} (I : IH H b n x) : Conv H (.agg [.os (n 0), .os (n 1), .os (n 2), .os (n 3), .os (n 4), .os (n 5)]) (.agg (encInstance x)) :=
  .agg _ _ (.cons _ _ _ _ (.row _ _ _ (I.d 0 (by decide)) (ConvE.refl _)) (.cons _ _ _ _ (.row _ _ _ (I.d 1 (by decide)) (ConvE.refl _)) (.cons _ _ _ _ (.row _ _ _ (I.d 2 (by decide)) (ConvE.refl _)) (.cons _ _ _ _ (.row _ _ _ (I.d 3 (by decide)) (ConvE.refl _)) (.cons _ _ _ _ (.row _ _ _ (I.d 4 (by decide)) (ConvE.refl _)) (.cons _ _ _ _ (.row _ _ _ (I.d 5 (by decide)) (ConvE.refl _)) .nil))))))
theorem sparse_c (x : Instance) (h : OkI x) (hc : checkR x = []) (hs : (textI x).size ≤ 65536) : PC Tryz.prog 18 [str (textI x)] (.tup [.agg (encInstance x), int 0, int 0]) := by
  refine PC.body (c := Tryz.f18.body.getD .skip) (fun t => t == 5) mixed Tryz.func18 rfl (by kernel_rfl) ?_
  unfold Tryz.f18
  simp only [Option.getD_some]
  simp only [go_sem]
  refine anew_g fun r Gr hr (R : Gr r = some ⟨30, 6, [encInstance x0]⟩) N => ?_
  clear N hr
  simp only [go_sem, R]
  refine acond_i (fun hb => absurd (of_decide_eq_true hb) (by omega)) (fun _ => ?_)
  simp only [go_sem, R]
  refine anew_g fun k0 G0 _ (D0 : G0 k0 = some (strRow [])) N => ?_
  obtain ⟨q0, R⟩ := N R
  clear N
  refine anew_g fun k1 G1 _ (D1 : G1 k1 = some (arcRow [])) N => ?_
  obtain ⟨q1, R⟩ := N R
  obtain ⟨p01, D0⟩ := N D0
  clear N
  refine anew_g fun k2 G2 _ (D2 : G2 k2 = some (typRow [])) N => ?_
  obtain ⟨q2, R⟩ := N R
  obtain ⟨p02, D0⟩ := N D0
  obtain ⟨p12, D1⟩ := N D1
  clear N
  refine anew_g fun k3 G3 _ (D3 : G3 k3 = some (ordRow [])) N => ?_
  obtain ⟨q3, R⟩ := N R
  obtain ⟨p03, D0⟩ := N D0
  obtain ⟨p13, D1⟩ := N D1
  obtain ⟨p23, D2⟩ := N D2
  clear N
  refine anew_g fun k4 G4 _ (D4 : G4 k4 = some (pairRow [])) N => ?_
  obtain ⟨q4, R⟩ := N R
  obtain ⟨p04, D0⟩ := N D0
  obtain ⟨p14, D1⟩ := N D1
  obtain ⟨p24, D2⟩ := N D2
  obtain ⟨p34, D3⟩ := N D3
  clear N
  refine anew_g fun k5 G5 _ (D5 : G5 k5 = some (pairRow [])) N => ?_
  obtain ⟨q5, R⟩ := N R
  obtain ⟨p05, D0⟩ := N D0
  obtain ⟨p15, D1⟩ := N D1
  obtain ⟨p25, D2⟩ := N D2
  obtain ⟨p35, D3⟩ := N D3
  obtain ⟨p45, D4⟩ := N D4
  clear N
  refine anew_g fun b G _ (B : G b = some (insRow fun i => [k0, k1, k2, k3, k4, k5].getD i 0)) N => ?_
  obtain ⟨qb, R⟩ := N R
  obtain ⟨b0, D0⟩ := N D0
  obtain ⟨b1, D1⟩ := N D1
  obtain ⟨b2, D2⟩ := N D2
  obtain ⟨b3, D3⟩ := N D3
  obtain ⟨b4, D4⟩ := N D4
  obtain ⟨b5, D5⟩ := N D5
  clear N
  have six : ∀ i : Nat, i < 6 → i = 0 ∨ i = 1 ∨ i = 2 ∨ i = 3 ∨ i = 4 ∨ i = 5 := fun i hi => by omega
  have I : IH G b (fun i => [k0, k1, k2, k3, k4, k5].getD i 0) x0 := by
    refine ⟨B, fun i hi => ?_, fun i hi => ?_, fun i hi j hj hne => ?_⟩
    · rcases six i hi with rfl | rfl | rfl | rfl | rfl | rfl <;> assumption
    · rcases six i hi with rfl | rfl | rfl | rfl | rfl | rfl <;> assumption
    · rcases six i hi with rfl | rfl | rfl | rfl | rfl | rfl <;> rcases six j hj with rfl | rfl | rfl | rfl | rfl | rfl <;> first | exact absurd rfl hne | assumption | exact Ne.symm (by assumption)
  have off : Off b (fun i => [k0, k1, k2, k3, k4, k5].getD i 0) r := ⟨qb, fun i hi => by rcases six i hi with rfl | rfl | rfl | rfl | rfl | rfl <;> assumption⟩
  generalize (fun i => [k0, k1, k2, k3, k4, k5].getD i 0) = n at *
  simp only [go_sem, R]
  refine ⟨fun ρ H' => ∃ (rb : List Item) (y : Instance) (n : Nat → Nat) (m k : Nat), ρ 0 = str (catB ((rb ++ [Item.fin]).map Item.ln)) ∧ ρ 2 = .op r 0 0 ∧ ρ 5 = .op b 0 0 ∧ ρ 6 = int m ∧ ρ 7 = int k ∧ IH H' b n y ∧ H' r = some ⟨30, 6, [encInstance x0]⟩ ∧ Off b n r ∧ rb.foldl addI y = x ∧ (∀ it ∈ rb, OkIt it ∧ it.rank < 6 ∧ m ≤ it.rank + 1) ∧ Srt rb ∧ (catB ((rb ++ [Item.fin]).map Item.ln)).size + k ≤ 65537 ∧ m ≤ 6, fun ρ _ => sz0 (ρ 0), ⟨items x, x0, n, 0, 1, by rw [← textI_ln]; simp only [go_sem], by simp only [go_sem], by simp only [go_sem], (by simp only [go_sem]; rfl), (by simp only [go_sem]; rfl), I, R, off, add_items x, fun it hi => ⟨items_ok h hc it hi, items_lt x it hi, Nat.zero_le _⟩, items_srt x, by rw [← textI_ln]; omega, by decide⟩, ?_⟩
  clear I R off B D0 D1 D2 D3 D4 D5
  rintro ρ H' ⟨rb, y, n, m, k, e0, e2, e5, e6, e7, I, R, off, hf, hi, hsr, hsz, hm⟩
  simp only [go_sem, e0, e2, e5, e6, e7]
  obtain ⟨it, rest, el⟩ : ∃ it rest, rb ++ [Item.fin] = it :: rest := by cases rb with | nil => exact ⟨_, _, rfl⟩ | cons a l => exact ⟨_, _, rfl⟩
  have hit : OkIt it ∧ m ≤ it.rank + 1 := by
    cases rb with
    | nil =>
      simp only [List.nil_append, List.cons.injEq] at el
      obtain ⟨rfl, rfl⟩ := el
      exact ⟨trivial, by show m ≤ 7; omega⟩
    | cons a l =>
      simp only [List.cons_append, List.cons.injEq] at el
      obtain ⟨rfl, rfl⟩ := el
      have := hi a (by simp)
      exact ⟨this.1, this.2.2⟩
  rw [el, List.map_cons, catB] at hsz ⊢
  have z1 : it.ln.size = it.line.size + 1 := by rw [Item.ln, ByteArray.size_append]; rfl
  rw [ByteArray.size_append, z1] at hsz
  refine PC.use (cutln_c hit.1 _ (by rw [ByteArray.size_append]; omega)) ?_
  simp only [go_sem, e0, e2, e5, e6, e7]
  refine acond_i (fun h => absurd h (by decide)) (fun _ => ?_)
  simp only [go_sem, e0, e2, e5, e6, e7]
  have hxs : Small x := ⟨by have := h.pl; omega, by have := h.al; omega, by have := h.tl; omega, by have := h.ol; omega, by have := h.ap; omega, by have := h.be; omega⟩
  refine sline_c it I hit.1 (by show it.line.size ≤ 65536; omega) (small_back rb y (hf ▸ hxs)) fun H2 n2 I2 K2 => ?_
  obtain ⟨R2, off2⟩ := K2 r _ off R
  have hrk := it.rank_lt
  simp only [go_sem, e0, e2, e5, e6, e7]
  have hcnd : (((it.rank + 1 : Nat) : Int) == 0 || decide (((it.rank + 1 : Nat) : Int) < (m : Int))) = false := by
    rw [Bool.or_eq_false_iff]
    exact ⟨by rw [beq_eq_false_iff_ne]; omega, by rw [decide_eq_false_iff_not]; omega⟩
  refine acond_i (fun hb => absurd (hb.symm.trans hcnd) (by decide)) (fun _ => ?_)
  simp only [go_sem, e0, e2, e5, e6, e7]
  refine PC.use (rank_c 6 (by decide)) ?_
  simp only [go_sem, e0, e2, e5, e6, e7]
  cases rb with
  | nil =>
    simp only [List.nil_append, List.cons.injEq] at el
    obtain ⟨rfl, rfl⟩ := el
    refine acond_i (fun _ => ?_) (fun hb => absurd hb (by decide))
    simp only [go_sem, e0, e2, e5, e6, e7]
    refine acond_i (fun hb => absurd hb (by decide +kernel)) (fun _ => ?_)
    simp only [go_sem, e0, e2, e5, e6, e7]
    simp only [List.foldl_nil] at hf
    subst hf
    simp only [go_sem, I2.row]
    have hic := icheck_c y h.inB
    rw [hc] at hic
    refine PC.useNil (.cons _ _ _ _ (inst_conv I2) .nil) hic ?_
    simp only [go_sem, I2.row]
    refine acond_i (fun hb => absurd hb (by decide)) (fun _ => ?_)
    simp only [go_sem, e2, e5, I2.row]
    refine putn R2 ⟨Nat.zero_lt_one, rfl, Nat.le_of_ble_eq_true rfl⟩ fun G3 R3 F3 => ?_
    simp only [go_sem, e2, R3]
    exact .tup _ _ (.cons _ _ _ _ (inst_conv (I2.fr F3 off2)) (.cons _ _ _ _ (.refl _) (.cons _ _ _ _ (.refl _) .nil)))
  | cons a l =>
    simp only [List.cons_append, List.cons.injEq] at el
    obtain ⟨rfl, rfl⟩ := el
    have ha := hi a (by simp)
    refine acond_i (fun hb => absurd (eq_of_beq hb) (by omega)) (fun _ => ?_)
    have hkw := wrapS (show k ≤ 4611686018427387904 by omega)
    simp only [go_sem, e0, e2, e5, e6, e7, hkw]
    refine ⟨⟨l, addI y a, n2, a.rank + 1, k + 1, rfl, rfl, rfl, I2, R2, off2, hf, fun it hm => ?_, ?_, ?_, ?_⟩, ?_⟩
    · have h1 := hi it (by simp [hm])
      exact ⟨h1.1, h1.2.1, Nat.succ_le_succ ((List.pairwise_cons.1 hsr).1 it hm)⟩
    · exact (List.pairwise_cons.1 hsr).2
    · omega
    · omega
    · simp only [sz0, ByteArray.size_append, z1]
      omega
end Go.Proofs.YtmidcjlidploaaaGreatDoor.Sk
end

section
set_option linter.unusedSimpArgs false
set_option linter.unusedVariables false
namespace Go.Proofs.YtmidcjlidploaaaGreatDoor.Sc
open Go.Aw Go.Aw.D Go.Proofs Ty
open Go.RowKit (Below)
open Go.Proofs.YtmidcjlidploaaaGreatDoor
open Go.Proofs.YtmidcjlidploaaaGreatDoor.Nw (ltB geB)
set_option maxRecDepth 100000
theorem qi {f : FuncId} {H : Heap} {a : AV} {s : ByteArray} (h : PC Tryz.prog f [a] (str s)) : QCalls Tryz.prog f [a] H (str s) := .inl ⟨_, .cons _ _ _ _ (.refl _) .nil, h, rfl⟩
theorem adraw_tj {P : Program} {C : CallP} {PC : FuncId → List AV → Heap → AV → Prop} {mt : Nat → Bool} {ops : List Oper} {K : Env → Heap → Prop} {m : Nat} {ρ : Env} {H : Heap} (l : List Nat) (t : Mx) (J : Env → Heap → Prop) (hl : ∀ k, k ∈ l → (H k).isSome = true) (hB : treeB ops.toArray t = true)
    (h : ∀ K' : Env → Heap → Prop, (∀ ρ' H', J ρ' H' → K' ρ' H') → ∀ Hp Hr : Heap, (∀ k, k ∈ l → Hp k = H k) → (∀ k, k ∉ l → Hr k = H k) → (∀ k, k ∉ l → Hp k = none) → (∀ k, k ∈ l → Hr k = none) → amixt P C PC mt ops.toArray (pinEnd l H K') Hp t ρ Hr)
    (hK : ∀ ρ' H', J ρ' H' → K ρ' H') : adraw P C PC mt ops.toArray K m ρ H := adraw_t l t hl hB (h K hK)
end Go.Proofs.YtmidcjlidploaaaGreatDoor.Sc
end

section
set_option linter.unusedSimpArgs false
set_option linter.unusedVariables false
namespace Go.Proofs.YtmidcjlidploaaaGreatDoor.Sc
open Go.Aw Go.Aw.D Go.Proofs Ty
open Go.RowKit (Below)
open Go.Proofs.YtmidcjlidploaaaGreatDoor
open Go.Proofs.YtmidcjlidploaaaGreatDoor.Nw (ltB geB cB)
set_option maxRecDepth 100000
def zeroStp (s : Stop) : Bool := s.place == 0 && (s.start == 0 && (s.close == 0 && (s.service == 0 && true)))
def zeroO (o : Order) : Bool := (o.name.toList == (⟨#[]⟩ : ByteArray).toList) && ((o.load.length : Int) == 0) && zeroStp o.pick && zeroStp o.drop && (o.skills == 0) && (o.penalty == 0) && (o.split == 0) && (o.last == 0) && (o.now == 0) && !o.off
theorem ezero_c (o : Order) : PC Tryz.prog 100 [.agg (encOrder o)] (boo (zeroO o)) := by
  refine PC.body (c := Tryz.f100.body.getD .skip) (fun _ => false) mixed Tryz.func100 rfl (by kernel_rfl) ?_
  unfold Tryz.f100
  simp only [Option.getD_some]
  simp only [go_sem]
  exact .refl _
def wordR (k : Int) : ByteArray := if k = 1 then ⟨#[111, 114, 100, 101, 114]⟩ else if k = 2 then ⟨#[99, 97, 110, 99, 101, 108]⟩ else if k = 3 then ⟨#[100, 101, 108, 97, 121]⟩ else if k = 4 then ⟨#[98, 114, 101, 97, 107]⟩ else if k = 5 then ⟨#[115, 104, 105, 102, 116]⟩ else ⟨#[]⟩
theorem eword_c (k : Int) : PC Tryz.prog 60 [int k] (str (wordR k)) := by
  refine PC.body (c := Tryz.f60.body.getD .skip) (fun _ => false) mixed Tryz.func60 rfl (by kernel_rfl) ?_
  unfold Tryz.f60
  simp only [Option.getD_some]
  simp only [go_sem]
  refine anew_i fun j hj => ?_
  simp only [go_sem]
  refine wputE_n (updH_same _ _ _) (by simp) ?_
  have R : ∀ H q, updH H j q j = q := fun H q => updH_same _ _ _
  simp only [go_sem, R]
  refine acond_i (fun hb => ?_) (fun hb => ?_)
  · simp only [go_sem]
    have hk : k < 0 ∨ 6 ≤ k := by simpa using hb
    unfold wordR
    rw [if_neg (by omega), if_neg (by omega), if_neg (by omega), if_neg (by omega), if_neg (by omega)]
    exact .refl _
  · have hk : ¬ (k < 0 ∨ 6 ≤ k) := by simpa using hb
    have hk : k = 0 ∨ k = 1 ∨ k = 2 ∨ k = 3 ∨ k = 4 ∨ k = 5 := by omega
    clear hb
    rcases hk with rfl | rfl | rfl | rfl | rfl | rfl <;> (simp only [go_sem, R]; exact ⟨by omega, .refl _⟩)
def cleanE (e : D.Event) : Bool := if e.kind = 1 then (e.a == 0 && e.b == 0) && e.n == 0 else if e.kind = 3 then zeroO e.order else if e.kind = 5 then e.b == 0 && zeroO e.order else (e.b == 0 && e.n == 0) && zeroO e.order
theorem gdB {H : Heap} {f : FuncId} {a : AV} {c : Bool} (h : PC Tryz.prog f [a] (boo c)) : QCalls Tryz.prog f [a] H (boo c) := .inl ⟨_, .cons _ _ _ _ (.refl _) .nil, h, rfl⟩
theorem eclean_c (e : D.Event) : PC Tryz.prog 61 [.agg (encEvent e)] (boo (cleanE e)) := by
  refine PC.body (c := Tryz.f61.body.getD .skip) (fun _ => false) mixed Tryz.func61 rfl (by kernel_rfl) ?_
  unfold Tryz.f61
  simp only [Option.getD_some]
  simp only [go_sem]
  unfold cleanE
  refine acond_i (fun hb => ?_) (fun hb => ?_)
  · simp only [go_sem]
    rw [if_pos (by simpa using hb)]; exact .refl _
  rw [if_neg (by simpa using hb)]
  simp only [go_sem]
  refine acond_i (fun hb => ?_) (fun hb => ?_)
  · simp only [go_sem]
    rw [if_pos (by simpa using hb)]
    refine PC.use (ezero_c e.order) ?_
    simp only [go_sem]
    exact .refl _
  rw [if_neg (by simpa using hb)]
  simp only [go_sem]
  refine acond_i (fun hb => ?_) (fun hb => ?_)
  · simp only [go_sem]
    rw [if_pos (by simpa using hb)]
    refine ⟨_, fun _ => gdB (ezero_c e.order), ?_⟩
    simp only [go_sem]
    exact .refl _
  rw [if_neg (by simpa using hb)]
  simp only [go_sem]
  refine ⟨_, fun _ => gdB (ezero_c e.order), ?_⟩
  simp only [go_sem]
  exact .refl _
def numsE (e : D.Event) : List Int := if e.kind = 3 then [e.at_, e.a, e.b, e.n] else if e.kind = 5 then [e.at_, e.a, e.n] else if e.kind = 4 then [e.at_, e.a] else if e.kind = 2 then [e.at_, e.a] else [e.at_]
def stopN (s : Stop) : List Int := [s.place, s.start, s.close, s.service]
def orderN (o : Order) : List Int := (o.load.length : Int) :: o.load ++ stopN o.pick ++ stopN o.drop ++ [o.skills, o.penalty, o.split, o.last, o.now]
theorem estop_c (s : Stop) : PC Tryz.prog 102 [.agg (encStop s)] (.sl ((stopN s).map D.encInt)) := by
  refine PC.body (c := Tryz.f102.body.getD .skip) (fun _ => false) mixed Tryz.func102 rfl (by kernel_rfl) ?_
  unfold Tryz.f102
  simp only [Option.getD_some]
  simp only [go_sem]
  exact .refl _
abbrev intRow (l : List Int) : Row := ⟨3, 1, l.map D.encInt⟩
theorem enumbers_c (e : D.Event) : PC Tryz.prog 62 [.agg (encEvent e)] (.sl ((numsE e).map D.encInt)) := by
  refine PC.body (c := Tryz.f62.body.getD .skip) (fun t => t == 6) mixed Tryz.func62 rfl (by kernel_rfl) ?_
  unfold Tryz.f62
  simp only [Option.getD_some]
  simp only [go_sem]
  refine anew_g fun i HGi hi0 (Ri : HGi i = some (intRow [e.at_])) N => ?_
  clear N hi0
  simp only [go_sem, Ri]
  unfold numsE
  have fin : ∀ (l : List Int) {H : Heap} {j : Nat}, H j = some ⟨3, 1, [e.at_].map D.encInt ++ l.map D.encInt⟩ → Conv H (.os j) (.sl ((e.at_ :: l).map D.encInt)) := fun l H j h => .row _ _ _ h (ConvE.refl _)
  refine acond_i (fun hb => ?_) (fun hb => ?_)
  · simp only [go_sem, Ri]
    refine wappE_i Ri ⟨rfl, rfl⟩ (by simp only [go_sem]) (by simp only [List.length_map, List.length_cons, List.length_nil]; omega) fun j' hj' => ?_
    simp only [go_sem]
    rw [if_pos (by simpa using hb)]
    exact fin [e.a, e.b, e.n] (updH_same _ _ _)
  rw [if_neg (by simpa using hb)]
  simp only [go_sem, Ri]
  refine acond_i (fun hb => ?_) (fun hb => ?_)
  · simp only [go_sem, Ri]
    refine wappE_i Ri ⟨rfl, rfl⟩ (by simp only [go_sem]) (by simp only [List.length_map, List.length_cons, List.length_nil]; omega) fun j' hj' => ?_
    simp only [go_sem]
    rw [if_pos (by simpa using hb)]
    exact fin [e.a, e.n] (updH_same _ _ _)
  rw [if_neg (by simpa using hb)]
  simp only [go_sem, Ri]
  refine acond_i (fun hb => ?_) (fun hb => ?_)
  · simp only [go_sem, Ri]
    refine wappE_i Ri ⟨rfl, rfl⟩ (by simp only [go_sem]) (by simp only [List.length_map, List.length_cons, List.length_nil]; omega) fun j' hj' => ?_
    simp only [go_sem]
    rw [if_pos (by simpa using hb)]
    exact fin [e.a] (updH_same _ _ _)
  rw [if_neg (by simpa using hb)]
  simp only [go_sem, Ri]
  refine acond_i (fun hb => ?_) (fun hb => ?_)
  · simp only [go_sem, Ri]
    refine wappE_i Ri ⟨rfl, rfl⟩ (by simp only [go_sem]) (by simp only [List.length_map, List.length_cons, List.length_nil]; omega) fun j' hj' => ?_
    simp only [go_sem]
    rw [if_pos (by simpa using hb)]
    exact fin [e.a] (updH_same _ _ _)
  rw [if_neg (by simpa using hb)]
  simp only [go_sem, Ri]
  exact .row _ _ _ Ri (ConvE.refl _)
theorem all1 (l : List Int) : allLen 1 (l.map D.encInt) := allLen_iff.2 fun c hc => by
  obtain ⟨x, _, rfl⟩ := List.mem_map.1 hc
  rfl
theorem eorder_c (o : Order) (hl : o.load.length ≤ 1048576) : PC Tryz.prog 64 [.agg (encOrder o)] (.sl ((orderN o).map D.encInt)) := by
  refine PC.body (c := Tryz.f64.body.getD .skip) (fun t => t == 7) mixed Tryz.func64 rfl (by kernel_rfl) ?_
  unfold Tryz.f64
  simp only [Option.getD_some]
  simp only [go_sem]
  refine anew_g fun i HGi hi0 (Ri : HGi i = some (intRow [(o.load.length : Int)])) N => ?_
  clear N hi0
  simp only [go_sem, Ri]
  refine wappE_i Ri ⟨rfl, rfl⟩ (all1 _) (by simp only [List.length_append, List.length_map, List.length_cons, List.length_nil, stopN]; omega) fun j1 hj10 => ?_
  generalize hP : updH (updH _ i none) j1 _ = HP
  have R1 : HP j1 = some (⟨3, 1, [(o.load.length : Int)].map D.encInt ++ o.load.map D.encInt⟩) := upS hP
  clear hP hj10
  simp only [go_sem, R1]
  refine PC.use (estop_c o.pick) ?_
  simp only [go_sem, R1]
  refine wappE_i R1 ⟨rfl, rfl⟩ (all1 _) (by simp only [List.length_append, List.length_map, List.length_cons, List.length_nil, stopN]; omega) fun j2 hj20 => ?_
  generalize hP : updH (updH _ j1 none) j2 _ = HP
  have R2 : HP j2 = some (⟨3, 1, [(o.load.length : Int)].map D.encInt ++ o.load.map D.encInt ++ (stopN o.pick).map D.encInt⟩) := upS hP
  clear hP hj20
  simp only [go_sem, R2]
  refine PC.use (estop_c o.drop) ?_
  simp only [go_sem, R2]
  refine wappE_i R2 ⟨rfl, rfl⟩ (all1 _) (by simp only [List.length_append, List.length_map, List.length_cons, List.length_nil, stopN]; omega) fun j3 hj30 => ?_
  generalize hP : updH (updH _ j2 none) j3 _ = HP
  have R3 : HP j3 = some (⟨3, 1, [(o.load.length : Int)].map D.encInt ++ o.load.map D.encInt ++ (stopN o.pick).map D.encInt ++ (stopN o.drop).map D.encInt⟩) := upS hP
  clear hP hj30
  simp only [go_sem, R3]
  refine wappE_i R3 ⟨rfl, rfl⟩ (by simp only [go_sem]) (by simp only [List.length_append, List.length_map, List.length_cons, List.length_nil, stopN]; omega) fun j4 hj40 => ?_
  simp only [go_sem]
  rw [show (orderN o).map D.encInt = [(o.load.length : Int)].map D.encInt ++ o.load.map D.encInt ++ (stopN o.pick).map D.encInt ++ (stopN o.drop).map D.encInt ++ [o.skills, o.penalty, o.split, o.last, o.now].map D.encInt from by simp [orderN]]
  exact .row _ _ _ (updH_same _ _ _) (ConvE.refl _)
structure OkE (e : D.Event) : Prop where
  at_ : i64B e.at_
  a : i64B e.a
  b : i64B e.b
  n : i64B e.n
  order : OkOrder e.order
theorem numsE_ok {e : D.Event} (h : OkE e) : (∀ n ∈ numsE e, i64B n) ∧ (numsE e).length ≤ 4 := by
  unfold numsE
  have h1 := h.at_
  have h2 := h.a
  have h3 := h.b
  have h4 := h.n
  split
  · exact ⟨by simp [h1, h2, h3, h4], by simp⟩
  split
  · exact ⟨by simp [h1, h2, h4], by simp⟩
  split
  · exact ⟨by simp [h1, h2], by simp⟩
  split
  · exact ⟨by simp [h1, h2], by simp⟩
  · exact ⟨by simp [h1], by simp⟩
theorem orderN_ok {o : Order} (h : OkOrder o) (h3 : o.load.length ≤ 3) : (∀ n ∈ orderN o, i64B n) ∧ (orderN o).length ≤ 17 := by
  refine ⟨fun n hn => ?_, by simp [orderN, stopN]; omega⟩
  simp only [orderN, stopN, List.mem_append, List.mem_cons, List.not_mem_nil, or_false] at hn
  rcases hn with (((rfl | hn) | rfl | rfl | rfl | rfl) | rfl | rfl | rfl | rfl) | rfl | rfl | rfl | rfl | rfl
  · exact ⟨by omega, by omega⟩
  · exact h.load n hn
  · exact h.pick.1
  · exact h.pick.2.1
  · exact h.pick.2.2.1
  · exact h.pick.2.2.2
  · exact h.drop.1
  · exact h.drop.2.1
  · exact h.drop.2.2.1
  · exact h.drop.2.2.2
  · exact h.skills
  · exact h.penalty
  · exact h.split
  · exact h.last
  · exact h.now
def wordsE (e : D.Event) : List ByteArray := wordR e.kind :: (numsE e).map decZ
def wordsO (e : D.Event) : List ByteArray := wordsE e ++ e.order.name :: (orderN e.order).map decZ
def evR (e : D.Event) : ByteArray × Int :=
  if e.kind < 1 ∨ 5 < e.kind then (⟨#[]⟩, 8) else if cleanE e = false then (⟨#[]⟩, 2)
  else if e.kind = 1 then (if e.order.off = true then (⟨#[]⟩, 9) else if nameR e.order.name = false then (⟨#[]⟩, 5) else if 3 < e.order.load.length then (⟨#[]⟩, 4) else (joinB spB (wordsO e), 0))
  else (joinB spB (wordsE e), 0)
theorem wordR_size (k : Int) : (wordR k).size ≤ 6 := by
  unfold wordR
  repeat' split
  all_goals decide
theorem wordR_none {k : Int} : ((wordR k).toList == (⟨#[]⟩ : ByteArray).toList) = decide (k < 1 ∨ 5 < k) := by
  by_cases h : k < 1 ∨ 5 < k
  · rw [decide_eq_true h]
    unfold wordR
    rw [if_neg (by omega), if_neg (by omega), if_neg (by omega), if_neg (by omega), if_neg (by omega)]
    decide +kernel
  · rw [decide_eq_false h]
    have hk : k = 1 ∨ k = 2 ∨ k = 3 ∨ k = 4 ∨ k = 5 := by omega
    rcases hk with rfl | rfl | rfl | rfl | rfl <;> decide +kernel
theorem wordsE_size {e : D.Event} (h : OkE e) : ∀ a ∈ wordsE e, a.size ≤ 1048576 := by
  intro a ha
  rcases List.mem_cons.1 ha with rfl | ha
  · exact Nat.le_trans (wordR_size _) (by decide)
  · obtain ⟨n, hn, rfl⟩ := List.mem_map.1 ha
    exact Nat.le_trans (decZ_size ((numsE_ok h).1 n hn)) (by decide)
theorem wordsO_size {e : D.Event} (h : OkE e) (h3 : e.order.load.length ≤ 3) : ∀ a ∈ wordsO e, a.size ≤ 1048576 := by
  intro a ha
  rcases List.mem_append.1 ha with ha | ha
  · exact wordsE_size h a ha
  rcases List.mem_cons.1 ha with rfl | ha
  · exact h.order.name
  · obtain ⟨n, hn, rfl⟩ := List.mem_map.1 ha
    exact Nat.le_trans (decZ_size ((orderN_ok h.order h3).1 n hn)) (by decide)
theorem wordsE_len {e : D.Event} (h : OkE e) : (wordsE e).length ≤ 5 := by
  have := (numsE_ok h).2
  simp only [wordsE, List.length_cons, List.length_map]; omega
theorem wordsO_len {e : D.Event} (h : OkE e) (h3 : e.order.load.length ≤ 3) : (wordsO e).length ≤ 23 := by
  have := (orderN_ok h.order h3).2
  have := wordsE_len h
  simp only [wordsO, List.length_append, List.length_cons, List.length_map]; omega
theorem ePrint_c (e : D.Event) (h : OkE e) : PC Tryz.prog 33 [.agg (encEvent e)] (.tup [str (evR e).1, int (evR e).2]) := by
  have hn1 := wordsE_size h
  have hn2 := wordsE_len h
  refine PC.body (c := Tryz.f33.body.getD .skip) (fun t => t == 22) mixed Tryz.func33 rfl (by kernel_rfl) ?_
  unfold Tryz.f33
  simp only [Option.getD_some]
  simp only [go_sem]
  refine PC.use (eword_c e.kind) ?_
  simp only [go_sem]
  rw [wordR_none]
  unfold evR
  refine acond_i (fun hb => ?_) (fun hb => ?_)
  · simp only [go_sem]
    rw [if_pos (by simpa using hb)]; exact .refl _
  rw [if_neg (by simpa using hb)]
  simp only [go_sem]
  refine PC.use (eclean_c e) ?_
  simp only [go_sem]
  refine acond_i (fun hb => ?_) (fun hb => ?_)
  · simp only [go_sem]
    rw [if_pos (by simpa using hb)]; exact .refl _
  rw [if_neg (by simpa using hb)]
  simp only [go_sem]
  refine anew_g fun i HGi hi0 (Ri : HGi i = some (strRow [wordR e.kind])) N => ?_
  clear N hi0
  simp only [go_sem, Ri]
  refine PC.use (enumbers_c e) ?_
  simp only [go_sem, Ri, List.length_map]
  refine ⟨fun ρ H => ∃ (k : Nat) (i : Nat), k ≤ (numsE e).length ∧ ρ 1 = .rp (encEvent e) 0 ∧ ρ 24 = .sl ((numsE e).map D.encInt) ∧ ρ 25 = int ((numsE e).length : Nat) ∧ ρ 26 = int k ∧ ρ 5 = .os i ∧ H i = some (strRow (wordR e.kind :: ((numsE e).take k).map decZ)), fun ρ _ => (numsE e).length - natOf (ρ 26), ⟨0, i, Nat.zero_le _, by simp only [go_sem], by simp only [go_sem], by simp only [go_sem, List.length_map], (by simp only [go_sem]; rfl), by simp only [go_sem], Ri⟩, ?_⟩
  rintro ρ H ⟨k, i, hk, e1, e24, e25, e26, e5, Ri⟩
  simp only [go_sem, e1, e24, e25, e26, e5]
  refine acond_i (fun hlt => ?_) (fun hge => ?_)
  · have hlt := ltB hlt
    obtain ⟨n, hn⟩ := getIn hlt
    have b1 := inB hlt
    have hwr := wrapS (show k ≤ 4611686018427387904 by have := (numsE_ok h).2; omega)
    have hst : ((numsE e).take (k + 1)).map decZ = ((numsE e).take k).map decZ ++ [decZ n] := by rw [take_succ hn]; simp
    simp only [go_sem, e1, e24, e25, e26, e5, getD_map hn, b1]
    refine PC.use (decimalZ_c n ((numsE_ok h).1 n (mem_of_get hn))) ?_
    simp only [go_sem, e1, e24, e25, e26, e5]
    refine wappE_i Ri ⟨rfl, rfl⟩ (by simp only [go_sem]) (by have := (numsE_ok h).2; simp only [List.length_map, List.length_cons, List.length_nil, List.length_take]; omega) fun j' hj' => ?_
    simp only [go_sem, e1, e24, e25, e26, e5, hwr]
    refine ⟨⟨k + 1, j', hlt, rfl, rfl, (updH_same _ _ _).trans ?_⟩, by simp only [natOf_int]; omega⟩
    rw [hst]
    simp only [strRow, List.map_append, List.map_cons, List.cons_append]
    rfl
  have hge := geB hk hge
  have hk4 := (numsE_ok h).2
  subst hge
  rw [List.take_of_length_le (Nat.le_refl _)] at Ri
  replace Ri : H i = some (strRow (wordsE e)) := Ri
  simp only [go_sem, e1, e24, e25, e26, e5]
  refine acond_i (fun hb => ?_) (fun hb => ?_)
  · rw [if_pos (by simpa using hb)]
    simp only [go_sem, e1, e24, e25, e26, e5, Ri]
    refine anew_i fun p hp0 => ?_
    simp only [go_sem, e1, e24, e25, e26, e5, Ri]
    refine wputE_v hp0 (by simp [encOrder]) fun HGp (Rp : HGp p = some (⟨49, 16, [encOrder e.order]⟩)) N => ?_
    replace Ri := N Ri
    obtain ⟨ne_i_p, Ri⟩ := Ri
    clear N hp0
    simp only [go_sem, e1, e24, e25, e26, e5, Rp, Ri]
    refine acond_i (fun hb1 => ?_) (fun hb1 => ?_)
    · simp only [go_sem]
      rw [if_pos hb1]; exact .refl _
    rw [if_neg (by rw [hb1]; simp)]
    simp only [go_sem, e1, e24, e25, e26, e5, Rp, Ri]
    refine PC.use (Nw.name_c e.order.name h.order.name) ?_
    simp only [go_sem, e1, e24, e25, e26, e5, Rp, Ri]
    refine acond_i (fun hb2 => ?_) (fun hb2 => ?_)
    · simp only [go_sem]
      rw [if_pos (by simpa using hb2)]; exact .refl _
    rw [if_neg (by simpa using hb2)]
    simp only [go_sem, e1, e24, e25, e26, e5, Rp, Ri, List.length_map]
    refine acond_i (fun hb3 => ?_) (fun hb3 => ?_)
    · simp only [go_sem]
      have h3 : ((e.order.load.length : Nat) : Int) > 3 := by simpa using hb3
      rw [if_pos (by omega)]; exact .refl _
    have h3 : ¬ ((e.order.load.length : Nat) : Int) > 3 := by simpa using hb3
    rw [if_neg (by omega)]
    replace h3 : e.order.load.length ≤ 3 := by omega
    simp only [go_sem, e1, e24, e25, e26, e5, Rp, Ri]
    refine wappE_i Ri ⟨rfl, rfl⟩ (by simp only [go_sem]) (by simp only [List.length_map, List.length_cons, List.length_nil]; omega) fun i2 hi20 => ?_
    have Ri2 : updH (updH HGp i none) i2 (some ⟨9, 1, (wordsE e).map D.encStr ++ [[str e.order.name]]⟩) i2 = some (strRow (wordsE e ++ [e.order.name])) := by
      rw [updH_same]
      simp only [strRow, List.map_append]
      rfl
    generalize updH (updH HGp i none) i2 _ = H2 at *
    simp only [go_sem, e1, e24, e25, e26, e5]
    refine PC.use (eorder_c e.order h.order.ll) ?_
    simp only [go_sem, Ri2, List.length_map]
    clear e5 e24 e25 e26 Ri
    refine ⟨fun ρ H => ∃ (k : Nat) (i : Nat), k ≤ (orderN e.order).length ∧ ρ 62 = .sl ((orderN e.order).map D.encInt) ∧ ρ 63 = int ((orderN e.order).length : Nat) ∧ ρ 64 = int k ∧ ρ 5 = .os i ∧ H i = some (strRow (wordsE e ++ e.order.name :: ((orderN e.order).take k).map decZ)), fun ρ _ => (orderN e.order).length - natOf (ρ 64), ⟨0, i2, Nat.zero_le _, by simp only [go_sem], by simp only [go_sem, List.length_map], (by simp only [go_sem]; rfl), by simp only [go_sem], Ri2⟩, ?_⟩
    rintro ρ H ⟨k, i, hk, e62, e63, e64, e5, Ri⟩
    simp only [go_sem, e62, e63, e64, e5]
    refine acond_i (fun hlt => ?_) (fun hge => ?_)
    · have hlt := ltB hlt
      obtain ⟨n, hn⟩ := getIn hlt
      have b1 := inB hlt
      have hwr := wrapS (show k ≤ 4611686018427387904 by have := (orderN_ok h.order h3).2; omega)
      have hst : ((orderN e.order).take (k + 1)).map decZ = ((orderN e.order).take k).map decZ ++ [decZ n] := by rw [take_succ hn]; simp
      simp only [go_sem, e62, e63, e64, e5, getD_map hn, b1]
      refine PC.use (decimalZ_c n ((orderN_ok h.order h3).1 n (mem_of_get hn))) ?_
      simp only [go_sem, e62, e63, e64, e5]
      refine wappE_i Ri ⟨rfl, rfl⟩ (by simp only [go_sem]) (by have := (orderN_ok h.order h3).2; simp only [List.length_map, List.length_append, List.length_cons, List.length_nil, List.length_take]; omega) fun j' hj' => ?_
      simp only [go_sem, e62, e63, e64, e5, hwr]
      refine ⟨⟨k + 1, j', hlt, rfl, rfl, (updH_same _ _ _).trans ?_⟩, by simp only [natOf_int]; omega⟩
      rw [hst]
      simp only [strRow, List.map_append, List.map_cons, List.cons_append, List.append_assoc]
      rfl
    have hge := geB hk hge
    subst hge
    rw [List.take_of_length_le (Nat.le_refl _)] at Ri
    replace Ri : H i = some (strRow (wordsO e)) := Ri
    simp only [go_sem, e62, e63, e64, e5]
    have hl := wordsO_len h h3
    refine QFlat.use ⟨[.sl ((wordsO e).map D.encStr)], .cons _ _ _ _ (.row _ _ _ Ri (ConvE.refl _)) .nil, tjoin_c _ (by omega) ?_, rfl⟩ ?_
    · refine Nat.le_trans (joinB_size (s := spB) (wordsO e) (wordsO_size h h3)) ?_
      show (wordsO e).length * (1 + 1048576) ≤ _
      omega
    · simp only [go_sem]
      exact .refl _
  · rw [if_neg (by simpa using hb)]
    simp only [go_sem, e5]
    refine QFlat.use ⟨[.sl ((wordsE e).map D.encStr)], .cons _ _ _ _ (.row _ _ _ Ri (ConvE.refl _)) .nil, tjoin_c _ (by omega) ?_, rfl⟩ ?_
    · refine Nat.le_trans (joinB_size (s := spB) (wordsE e) hn1) ?_
      show (wordsE e).length * (1 + 1048576) ≤ _
      omega
    · simp only [go_sem]
      exact .refl _
end Go.Proofs.YtmidcjlidploaaaGreatDoor.Sc
end
