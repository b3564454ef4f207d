/- Texts joined by a program: ScG. -/
import Derived.Test.YtmidcjlidploaaaGreatDoorSb20
import Derived.Test.YtmidcjlidploaaaGreatDoorSb25

set_option linter.unusedSimpArgs false
set_option linter.unusedVariables false
namespace Go.Proofs.YtmidcjlidploaaaGreatDoor.Sc
open Go.Aw Go.Aw.D Go.Proofs Ty
open Go.RowKit (Below)
open Go.Proofs.YtmidcjlidploaaaGreatDoor
open Go.Proofs.YtmidcjlidploaaaGreatDoor.Nw (ltB geB icheck_c)
set_option maxRecDepth 100000
structure OkArc (a : Arc) : Prop where
  src : i64B a.src
  dst : i64B a.dst
  profile : i64B a.profile
  miles : i64B a.miles
  tl : a.travel.length ≤ 1048576
  travel : ∀ p ∈ a.travel, okPoint p
  sl : a.slow.length ≤ 1048576
  slow : ∀ p ∈ a.slow, okPoint p
structure OkType (t : VType) : Prop where
  name : t.name.size ≤ 1048576
  count : i64B t.count
  src : i64B t.src
  dst : i64B t.dst
  cl : t.cap.length ≤ 1048576
  cap : ∀ n ∈ t.cap, i64B n
  skills : i64B t.skills
  profile : i64B t.profile
  start : i64B t.start
  close : i64B t.close
  drive : i64B t.drive
  rest : i64B t.rest
  fixed : i64B t.fixed
  perMile : i64B t.perMile
  perTick : i64B t.perTick
structure OkOrder (o : Order) : Prop where
  name : o.name.size ≤ 1048576
  ll : o.load.length ≤ 1048576
  load : ∀ n ∈ o.load, i64B n
  pick : okStop o.pick
  drop : okStop o.drop
  skills : i64B o.skills
  penalty : i64B o.penalty
  split : i64B o.split
  last : i64B o.last
  now : i64B o.now
def OkPair (p : Pair) : Prop := i64B p.a ∧ i64B p.b
structure OkI (x : Instance) : Prop where
  inB : InB x
  pl : x.net.places.length ≤ 100
  al : x.net.arcs.length ≤ 100
  tl : x.types.length ≤ 100
  ol : x.orders.length ≤ 100
  ap : x.apart.length ≤ 100
  be : x.before.length ≤ 100
  arc : ∀ a ∈ x.net.arcs, OkArc a
  type : ∀ a ∈ x.types, OkType a
  order : ∀ a ∈ x.orders, OkOrder a
  apart : ∀ a ∈ x.apart, OkPair a
  before : ∀ a ∈ x.before, OkPair a
def printR (x : Instance) : ByteArray × Int := match checkR x with
  | f :: _ => (⟨#[]⟩, f.err)
  | [] => if 65536 < (textI x).size then (⟨#[]⟩, 4) else (textI x, 0)
theorem stopS_size {s : Stop} (h : okStop s) : (stopS s).size ≤ 100 := by
  unfold stopS
  split
  · exact (by decide : (1 : Nat) ≤ 100)
  · refine Nat.le_trans (mapB_size (s := ⟨#[58]⟩) (f := decZ) (B := 21) [s.place, s.start, s.close, s.service] fun n hn => decZ_size ?_) (by show 4 * (1 + 21) ≤ 100; decide)
    simp only [List.mem_cons, List.not_mem_nil, or_false] at hn
    rcases hn with rfl | rfl | rfl | rfl
    · exact h.1
    · exact h.2.1
    · exact h.2.2.1
    · exact h.2.2.2
theorem lineS_size {ws : List Wd} (hl : ws.length ≤ 19) (h : ∀ w ∈ ws, okW w) : (lineS (ws.map txW)).size ≤ 2000000000 := by
  have := mapB_size (s := spB) (f := txW) (B := 100000000) ws fun w hw => txW_size (h w hw)
  have h1 : spB.size = 1 := rfl
  have h2 : nlB.size = 1 := rfl
  rw [h1] at this
  unfold lineS
  rw [ByteArray.size_append, h2]
  omega
theorem catT {α : Type} {f : α → ByteArray} {l : List α} (hl : l.length ≤ 100) (h : ∀ a ∈ l, (f a).size ≤ 2000000000) (k : Nat) : (catB ((l.take k).map f)).size ≤ 200000000000 := by
  have := catB_size (B := 2000000000) ((l.take k).map f) fun a ha => by
    obtain ⟨x, hx, rfl⟩ := List.mem_map.1 ha
    exact h x (List.mem_of_mem_take hx)
  rw [List.length_map, List.length_take] at this
  omega
def wPlace (s : ByteArray) : List Wd := [.s ⟨#[112, 108, 97, 99, 101]⟩, .s s]
def wArc (a : Arc) : List Wd := [.s ⟨#[97, 114, 99]⟩, .i a.src, .i a.dst, .i a.profile, .i a.miles, .s (travelS a.travel), .s (travelS a.slow)]
def wType (t : VType) : List Wd := [.s ⟨#[116, 121, 112, 101]⟩, .s t.name, .i t.count, .i t.src, .i t.dst, .s (listS t.cap), .i t.skills, .i t.profile, .i t.start, .i t.close, .i t.drive, .i t.rest, .i t.fixed, .i t.perMile, .i t.perTick]
def wOrder (o : Order) : List Wd := [.s ⟨#[111, 114, 100, 101, 114]⟩, .s o.name, .s (listS o.load), .s (stopS o.pick), .s (stopS o.drop), .i o.skills, .i o.penalty, .i o.split, .i o.last, .i o.now, .s (onS o.off)]
def wOrd (o : Order) (s : ByteArray) : List Wd := [.s ⟨#[111, 114, 100, 101, 114]⟩, .s o.name, .s (listS o.load), .s (stopS o.pick), .s (stopS o.drop), .i o.skills, .i o.penalty, .i o.split, .i o.last, .i o.now, .s s]
def wApart (p : Pair) : List Wd := [.s ⟨#[97, 112, 97, 114, 116]⟩, .i p.a, .i p.b]
def wBefore (p : Pair) : List Wd := [.s ⟨#[98, 101, 102, 111, 114, 101]⟩, .i p.a, .i p.b]
def wEnd : List Wd := [.s ⟨#[101, 110, 100]⟩]
theorem okS {t : ByteArray} (h : t.size ≤ 100000000) : okW (.s t) := h
theorem okPlace {s : ByteArray} (h : s.size ≤ 1048576) : ∀ w ∈ wPlace s, okW w := by
  intro w hw
  simp only [wPlace, List.mem_cons, List.not_mem_nil, or_false] at hw
  rcases hw with rfl | rfl
  · exact okS (by decide : (5 : Nat) ≤ 100000000)
  · exact okS (by omega)
theorem okArcW {a : Arc} (h : OkArc a) : ∀ w ∈ wArc a, okW w := by
  intro w hw
  have h1 := travelS_size h.tl h.travel
  have h2 := travelS_size h.sl h.slow
  simp only [wArc, List.mem_cons, List.not_mem_nil, or_false] at hw
  rcases hw with rfl | rfl | rfl | rfl | rfl | rfl | rfl
  · exact okS (by decide : (3 : Nat) ≤ 100000000)
  · exact h.src
  · exact h.dst
  · exact h.profile
  · exact h.miles
  · exact okS (by omega)
  · exact okS (by omega)
theorem okTypeW {t : VType} (h : OkType t) : ∀ w ∈ wType t, okW w := by
  intro w hw
  have h1 := listS_size h.cl h.cap
  have h2 := h.name
  simp only [wType, List.mem_cons, List.not_mem_nil, or_false] at hw
  rcases hw with rfl | rfl | rfl | rfl | rfl | rfl | rfl | rfl | rfl | rfl | rfl | rfl | rfl | rfl | rfl
  · exact okS (by decide : (4 : Nat) ≤ 100000000)
  · exact okS (by omega)
  · exact h.count
  · exact h.src
  · exact h.dst
  · exact okS (by omega)
  · exact h.skills
  · exact h.profile
  · exact h.start
  · exact h.close
  · exact h.drive
  · exact h.rest
  · exact h.fixed
  · exact h.perMile
  · exact h.perTick
theorem okOrderW {o : Order} (h : OkOrder o) : ∀ w ∈ wOrder o, okW w := by
  intro w hw
  have h1 := listS_size h.ll h.load
  have h2 := h.name
  have h3 := stopS_size h.pick
  have h4 := stopS_size h.drop
  simp only [wOrder, List.mem_cons, List.not_mem_nil, or_false] at hw
  rcases hw with rfl | rfl | rfl | rfl | rfl | rfl | rfl | rfl | rfl | rfl | rfl
  · exact okS (by decide : (5 : Nat) ≤ 100000000)
  · exact okS (by omega)
  · exact okS (by omega)
  · exact okS (by omega)
  · exact okS (by omega)
  · exact h.skills
  · exact h.penalty
  · exact h.split
  · exact h.last
  · exact h.now
  · cases o.off
    · exact okS (by decide : (2 : Nat) ≤ 100000000)
    · exact okS (by decide : (3 : Nat) ≤ 100000000)
theorem okApartW {p : Pair} (h : OkPair p) : ∀ w ∈ wApart p, okW w := by
  intro w hw
  simp only [wApart, List.mem_cons, List.not_mem_nil, or_false] at hw
  rcases hw with rfl | rfl | rfl
  · exact okS (by decide : (5 : Nat) ≤ 100000000)
  · exact h.1
  · exact h.2
theorem okBeforeW {p : Pair} (h : OkPair p) : ∀ w ∈ wBefore p, okW w := by
  intro w hw
  simp only [wBefore, List.mem_cons, List.not_mem_nil, or_false] at hw
  rcases hw with rfl | rfl | rfl
  · exact okS (by decide : (6 : Nat) ≤ 100000000)
  · exact h.1
  · exact h.2
theorem text_sizes (x : Instance) (h : OkI x) : (text1 x).size ≤ 200000000000 ∧ (text2 x).size ≤ 400000000000 ∧ (text3 x).size ≤ 600000000000 ∧ (text4 x).size ≤ 800000000000 ∧ (text5 x).size ≤ 1000000000000 ∧ (text6 x).size ≤ 1200000000000 := by
  have c1 := catT (f := placeL) h.pl (fun a ha => lineS_size (ws := wPlace a) (by simp [wPlace]) (okPlace (h.inB.place a ha))) x.net.places.length
  have c2 := catT (f := arcL) h.al (fun a ha => lineS_size (ws := wArc a) (by simp [wArc]) (okArcW (h.arc a ha))) x.net.arcs.length
  have c3 := catT (f := typeL) h.tl (fun a ha => lineS_size (ws := wType a) (by simp [wType]) (okTypeW (h.type a ha))) x.types.length
  have c4 := catT (f := orderL) h.ol (fun a ha => lineS_size (ws := wOrder a) (by simp [wOrder]) (okOrderW (h.order a ha))) x.orders.length
  have c5 := catT (f := apartL) h.ap (fun a ha => lineS_size (ws := wApart a) (by simp [wApart]) (okApartW (h.apart a ha))) x.apart.length
  have c6 := catT (f := beforeL) h.be (fun a ha => lineS_size (ws := wBefore a) (by simp [wBefore]) (okBeforeW (h.before a ha))) x.before.length
  rw [List.take_of_length_le (Nat.le_refl _)] at c1 c2 c3 c4 c5 c6
  unfold text6 text5 text4 text3 text2 text1
  simp only [ByteArray.size_append]
  omega
theorem print_c (x : Instance) (h : OkI x) : PC Tryz.prog 11 [.agg (encInstance x)] (.tup [str (printR x).1, int (printR x).2]) := by
  obtain ⟨z1, z2, z3, z4, z5, z6⟩ := text_sizes x h
  refine PC.body (c := Tryz.f11.body.getD .skip) (fun t => t == 5) mixed Tryz.func11 rfl (by kernel_rfl) ?_
  unfold Tryz.f11
  simp only [Option.getD_some]
  simp only [go_sem]
  refine PC.use (icheck_c x h.inB) ?_
  unfold printR
  cases hc : checkR x with
  | cons f r =>
    simp only [go_sem, List.map_cons]
    refine acond_i (fun hb => ?_) (fun hb => absurd hb (by simp))
    simp only [go_sem]
    refine adraw_q (by rfl) (by kernel_rfl) ?_
    simp only [go_sem, encFault]
    exact ⟨by omega, .refl _⟩
  | nil =>
  simp only [go_sem, List.map_nil, List.length_nil]
  refine acond_i (fun hb => absurd hb (by simp)) (fun hb => ?_)
  simp only [go_sem]
  refine anew_g fun j HGj hj0 (Rj : HGj j = some (⟨5, 1, []⟩)) N0 => ?_
  clear N0 hj0
  refine anew_g fun b HGb hb0 (Rb : HGb b = some (⟨94, 2, [[.v (.pointer none), .os j]]⟩)) N => ?_
  replace Rj := N Rj
  obtain ⟨ne_j_b, Rj⟩ := Rj
  clear N hb0
  simp only [go_sem, Rb, Rj]
  have c9 : isConcT Tryz.prog 9 = true := by kernel_rfl
  have c3 : isConcT Tryz.prog 3 = true := by kernel_rfl
  refine ⟨fun ρ H => ∃ (k : Nat) (j : Nat) (a : AV), k ≤ x.net.places.length ∧ ρ 5 = .op b 0 0 ∧ ρ 1 = .rp (encInstance x) 0 ∧ ρ 30 = .sl (x.net.places.map D.encStr) ∧ ρ 31 = int (x.net.places.length : Nat) ∧ ρ 32 = int k ∧ H b = some (bRow 94 a j) ∧ Fu a b ∧ H j = some (tRow (catB ((x.net.places.take k).map placeL))), fun ρ _ => x.net.places.length - natOf (ρ 32), ⟨0, j, .v (.pointer none), Nat.zero_le _, by simp only [go_sem], by simp only [go_sem], by simp only [go_sem], by simp only [go_sem, List.length_map], (by simp only [go_sem]; rfl), Rb, .inl rfl, Rj⟩, ?_⟩
  rintro ρ H ⟨k, j, a, hk, e5, e1, e30, e31, e32, hb, ha, hj⟩
  simp only [go_sem, e5, e1, e30, e31, e32]
  refine acond_i (fun hlt => ?_) (fun hge => ?_)
  · have hlt := ltB hlt
    obtain ⟨y, hy⟩ := getIn hlt
    have b1 := inB hlt
    have hwr := wrapS (show k ≤ 4611686018427387904 by have := h.pl; omega)
    have hmy := mem_of_get hy
    have hct := catB_take (f := placeL) hy
    have hsz := catT (f := placeL) h.pl (fun a ha => lineS_size (ws := wPlace a) (by simp [wPlace]) (okPlace (h.inB.place a ha))) k
    simp only [go_sem, e5, e1, e30, e31, e32, getD_map hy, b1, c9]
    refine line_c (wPlace y) hb hj ha btW (by simp [wPlace]) (okPlace (h.inB.place y hmy)) (by omega) fun H' j' h1 h2 h3 => ?_
    simp only [go_sem, e5, e1, e30, e31, e32, hwr]
    exact ⟨⟨k + 1, j', .op b 0 0, hlt, rfl, h2, .inr rfl, h3.trans (by rw [hct]; rfl)⟩, by simp only [natOf_int]; omega⟩
  have hge := geB hk hge
  subst hge
  rw [List.take_of_length_le (Nat.le_refl _)] at hj
  replace hj : H j = some (tRow (text1 x)) := hj
  simp only [go_sem, e5, e1, e30, e31, e32]
  refine ⟨fun ρ H => ∃ (k : Nat) (j : Nat) (a : AV), k ≤ x.net.arcs.length ∧ ρ 5 = .op b 0 0 ∧ ρ 1 = .rp (encInstance x) 0 ∧ ρ 44 = .sl (x.net.arcs.map encArc) ∧ ρ 45 = int (x.net.arcs.length : Nat) ∧ ρ 46 = int k ∧ H b = some (bRow 94 a j) ∧ Fu a b ∧ H j = some (tRow (text1 x ++ catB ((x.net.arcs.take k).map arcL))), fun ρ _ => x.net.arcs.length - natOf (ρ 46), ⟨0, j, a, Nat.zero_le _, by simp only [go_sem, e5, e1], by simp only [go_sem, e5, e1], by simp only [go_sem, e5, e1], by simp only [go_sem, List.length_map, e5, e1], (by simp only [go_sem, e5, e1]; rfl), hb, ha, (by rw [List.take_zero, List.map_nil, catB, app_nil]; exact hj)⟩, ?_⟩
  rintro ρ H ⟨k, j, a, hk, e5, e1, e44, e45, e46, hb, ha, hj⟩
  simp only [go_sem, e5, e1, e44, e45, e46]
  refine acond_i (fun hlt => ?_) (fun hge => ?_)
  · have hlt := ltB hlt
    obtain ⟨y, hy⟩ := getIn hlt
    have b1 := inB hlt
    have hwr := wrapS (show k ≤ 4611686018427387904 by have := h.al; omega)
    have hmy := mem_of_get hy
    have hct := catB_take (f := arcL) hy
    have hsz := catT (f := arcL) h.al (fun a ha => lineS_size (ws := wArc a) (by simp [wArc]) (okArcW (h.arc a ha))) k
    have hoy := h.arc y hmy
    simp only [go_sem, e5, e1, e44, e45, e46, getD_map hy, b1, c9]
    refine anew_i fun p hp0 => ?_
    simp only [go_sem, e5, e1, e44, e45, e46, hwr, hb, hj]
    refine wputE_v hp0 (by simp [encArc]) fun HGp (Rp : HGp p = some (⟨98, 6, [encArc y]⟩)) N => ?_
    replace hb := N hb
    obtain ⟨ne_b_p, hb⟩ := hb
    replace hj := N hj
    obtain ⟨ne_j_p, hj⟩ := hj
    clear N hp0
    simp only [go_sem, e5, e1, e44, e45, e46, hwr, Rp, hb, hj]
    refine adraw_p [p] [(0, true), (1, true), (2, true), (3, true), (4, true), (5, true), (6, true), (7, true), (8, true), (9, true), (10, true), (11, true), (12, true), (13, true), (14, true), (15, true), (16, true), (17, true), (18, true), (19, true), (20, true), (21, false), (22, false)] (by simp [Rp]) (by kernel_rfl) fun Hp Hr hp hr _ hr0 => ?_
    have P_Rp := (hp p (by simp)).trans Rp
    have Q_hb := (hr b (by simp [ne_b_p])).trans hb
    have Q_hj := (hr j (by simp [ne_j_p])).trans hj
    simp only [go_sem, e5, e1, e44, e45, e46, c9, c3, P_Rp, Q_hb, Q_hj]
    refine ⟨_, .inl ⟨_, .cons _ _ _ _ (.refl _) .nil, travel_c _ hoy.tl hoy.travel, rfl⟩, ?_⟩
    simp only [go_sem, e5, e1, e44, e45, e46, P_Rp, c9, c3]
    refine ⟨_, .inl ⟨_, .cons _ _ _ _ (.refl _) .nil, travel_c _ hoy.sl hoy.slow, rfl⟩, ?_⟩
    simp only [go_sem, e5, e1, e44, e45, e46, P_Rp, c9, c3]
    refine line_c (wArc y) Q_hb Q_hj ha btW (by simp [wArc]) (okArcW hoy) (by simp only [ByteArray.size_append]; omega) fun H' j' h1 h2 h3 => ?_
    simp only [go_sem]
    refine pinEnd_i fun h0 Hm hm1 hm2 => ?_
    have hjp : j' ≠ p := fun e => by have := h0 p (by simp); rw [← e, h3] at this; cases this
    simp only [go_sem, e5, e1, e44, e45, e46, hwr]
    exact ⟨⟨k + 1, j', .op b 0 0, hlt, rfl, (hm2 b (by simp [ne_b_p])).trans h2, .inr rfl, ((hm2 j' (by simp [hjp])).trans h3).trans (by rw [hct, ← app_assoc]; rfl)⟩, by simp only [natOf_int]; omega⟩
  have hge := geB hk hge
  subst hge
  rw [List.take_of_length_le (Nat.le_refl _)] at hj
  replace hj : H j = some (tRow (text2 x)) := hj
  simp only [go_sem, e5, e1, e44, e45, e46]
  refine ⟨fun ρ H => ∃ (k : Nat) (j : Nat) (a : AV), k ≤ x.types.length ∧ ρ 5 = .op b 0 0 ∧ ρ 1 = .rp (encInstance x) 0 ∧ ρ 75 = .sl (x.types.map encVType) ∧ ρ 76 = int (x.types.length : Nat) ∧ ρ 77 = int k ∧ H b = some (bRow 94 a j) ∧ Fu a b ∧ H j = some (tRow (text2 x ++ catB ((x.types.take k).map typeL))), fun ρ _ => x.types.length - natOf (ρ 77), ⟨0, j, a, Nat.zero_le _, by simp only [go_sem, e5, e1], by simp only [go_sem, e5, e1], by simp only [go_sem, e5, e1], by simp only [go_sem, List.length_map, e5, e1], (by simp only [go_sem, e5, e1]; rfl), hb, ha, (by rw [List.take_zero, List.map_nil, catB, app_nil]; exact hj)⟩, ?_⟩
  rintro ρ H ⟨k, j, a, hk, e5, e1, e75, e76, e77, hb, ha, hj⟩
  simp only [go_sem, e5, e1, e75, e76, e77]
  refine acond_i (fun hlt => ?_) (fun hge => ?_)
  · have hlt := ltB hlt
    obtain ⟨y, hy⟩ := getIn hlt
    have b1 := inB hlt
    have hwr := wrapS (show k ≤ 4611686018427387904 by have := h.tl; omega)
    have hmy := mem_of_get hy
    have hct := catB_take (f := typeL) hy
    have hsz := catT (f := typeL) h.tl (fun a ha => lineS_size (ws := wType a) (by simp [wType]) (okTypeW (h.type a ha))) k
    have hoy := h.type y hmy
    simp only [go_sem, e5, e1, e75, e76, e77, getD_map hy, b1, c9]
    refine anew_i fun p hp0 => ?_
    simp only [go_sem, e5, e1, e75, e76, e77, hwr, hb, hj]
    refine wputE_v hp0 (by simp [encVType]) fun HGp (Rp : HGp p = some (⟨101, 14, [encVType y]⟩)) N => ?_
    replace hb := N hb
    obtain ⟨ne_b_p, hb⟩ := hb
    replace hj := N hj
    obtain ⟨ne_j_p, hj⟩ := hj
    clear N hp0
    simp only [go_sem, e5, e1, e75, e76, e77, hwr, Rp, hb, hj]
    refine adraw_p [p] [(0, true), (1, true), (2, true), (3, true), (4, true), (5, true), (6, true), (7, true), (8, true), (9, true), (10, true), (11, true), (12, true), (13, true), (14, true), (15, true), (16, true), (17, true), (18, true), (19, true), (20, true), (21, true), (22, true), (23, true), (24, true), (25, true), (26, true), (27, true), (28, true), (29, true), (30, true), (31, true), (32, true), (33, true), (34, true), (35, true), (36, true), (37, true), (38, true), (39, true), (40, true), (41, true), (42, true), (43, true), (44, false), (45, false)] (by simp [Rp]) (by kernel_rfl) fun Hp Hr hp hr _ hr0 => ?_
    have P_Rp := (hp p (by simp)).trans Rp
    have Q_hb := (hr b (by simp [ne_b_p])).trans hb
    have Q_hj := (hr j (by simp [ne_j_p])).trans hj
    simp only [go_sem, e5, e1, e75, e76, e77, c9, c3, P_Rp, Q_hb, Q_hj]
    refine ⟨_, .inl ⟨_, .cons _ _ _ _ (.refl _) .nil, list_c _ hoy.cl hoy.cap, rfl⟩, ?_⟩
    simp only [go_sem, e5, e1, e75, e76, e77, P_Rp, c9, c3]
    refine line_c (wType y) Q_hb Q_hj ha btW (by simp [wType]) (okTypeW hoy) (by simp only [ByteArray.size_append]; omega) fun H' j' h1 h2 h3 => ?_
    simp only [go_sem]
    refine pinEnd_i fun h0 Hm hm1 hm2 => ?_
    have hjp : j' ≠ p := fun e => by have := h0 p (by simp); rw [← e, h3] at this; cases this
    simp only [go_sem, e5, e1, e75, e76, e77, hwr]
    exact ⟨⟨k + 1, j', .op b 0 0, hlt, rfl, (hm2 b (by simp [ne_b_p])).trans h2, .inr rfl, ((hm2 j' (by simp [hjp])).trans h3).trans (by rw [hct, ← app_assoc]; rfl)⟩, by simp only [natOf_int]; omega⟩
  have hge := geB hk hge
  subst hge
  rw [List.take_of_length_le (Nat.le_refl _)] at hj
  replace hj : H j = some (tRow (text3 x)) := hj
  simp only [go_sem, e5, e1, e75, e76, e77]
  refine ⟨fun ρ H => ∃ (k : Nat) (j : Nat) (a : AV), k ≤ x.orders.length ∧ ρ 5 = .op b 0 0 ∧ ρ 1 = .rp (encInstance x) 0 ∧ ρ 129 = .sl (x.orders.map encOrder) ∧ ρ 130 = int (x.orders.length : Nat) ∧ ρ 131 = int k ∧ H b = some (bRow 94 a j) ∧ Fu a b ∧ H j = some (tRow (text3 x ++ catB ((x.orders.take k).map orderL))), fun ρ _ => x.orders.length - natOf (ρ 131), ⟨0, j, a, Nat.zero_le _, by simp only [go_sem, e5, e1], by simp only [go_sem, e5, e1], by simp only [go_sem, e5, e1], by simp only [go_sem, List.length_map, e5, e1], (by simp only [go_sem, e5, e1]; rfl), hb, ha, (by rw [List.take_zero, List.map_nil, catB, app_nil]; exact hj)⟩, ?_⟩
  rintro ρ H ⟨k, j, a, hk, e5, e1, e129, e130, e131, hb, ha, hj⟩
  simp only [go_sem, e5, e1, e129, e130, e131]
  refine acond_i (fun hlt => ?_) (fun hge => ?_)
  · have hlt := ltB hlt
    obtain ⟨y, hy⟩ := getIn hlt
    have b1 := inB hlt
    have hwr := wrapS (show k ≤ 4611686018427387904 by have := h.ol; omega)
    have hmy := mem_of_get hy
    have hct := catB_take (f := orderL) hy
    have hsz := catT (f := orderL) h.ol (fun a ha => lineS_size (ws := wOrder a) (by simp [wOrder]) (okOrderW (h.order a ha))) k
    have hoy := h.order y hmy
    simp only [go_sem, e5, e1, e129, e130, e131, getD_map hy, b1, c9]
    refine anew_i fun p hp0 => ?_
    simp only [go_sem, e5, e1, e129, e130, e131, hwr, hb, hj]
    refine wputE_v hp0 (by simp [encOrder]) fun HGp (Rp : HGp p = some (⟨49, 16, [encOrder y]⟩)) N => ?_
    replace hb := N hb
    obtain ⟨ne_b_p, hb⟩ := hb
    replace hj := N hj
    obtain ⟨ne_j_p, hj⟩ := hj
    clear N hp0
    simp only [go_sem, e5, e1, e129, e130, e131, hwr, Rp, hb, hj]
    cases hoff : y.off with
    | true =>
      refine acond_i (fun _ => ?_) (fun hb => absurd hb (by simp))
      simp only [go_sem, e5, e1, e129, e130, e131, Rp, hb, hj]
      refine adraw_p [p] [(0, true), (1, true), (2, true), (3, true), (4, true), (5, true), (6, true), (7, true), (8, true), (9, true), (10, true), (11, true), (12, true), (13, true), (14, true), (15, true), (16, true), (17, true), (18, true), (19, true), (20, true), (21, true), (22, true), (23, true), (24, true), (25, true), (26, true), (27, true), (28, true), (29, true), (30, true), (31, true), (32, true), (33, false), (34, false)] (by simp [Rp]) (by kernel_rfl) fun Hp Hr hp hr _ hr0 => ?_
      have P_Rp := (hp p (by simp)).trans Rp
      have Q_hb := (hr b (by simp [ne_b_p])).trans hb
      have Q_hj := (hr j (by simp [ne_j_p])).trans hj
      simp only [go_sem, e5, e1, e129, e130, e131, c9, c3, P_Rp, Q_hb, Q_hj]
      refine ⟨_, .inl ⟨_, .cons _ _ _ _ (.refl _) .nil, list_c _ hoy.ll hoy.load, rfl⟩, ?_⟩
      simp only [go_sem, e5, e1, e129, e130, e131, P_Rp, c9, c3]
      refine ⟨_, .inl ⟨_, .cons _ _ _ _ (.refl _) .nil, stop_c y.pick hoy.pick, rfl⟩, ?_⟩
      simp only [go_sem, e5, e1, e129, e130, e131, P_Rp, c9, c3]
      refine ⟨_, .inl ⟨_, .cons _ _ _ _ (.refl _) .nil, stop_c y.drop hoy.drop, rfl⟩, ?_⟩
      simp only [go_sem, e5, e1, e129, e130, e131, P_Rp, c9, c3]
      have hwo : wOrder y = wOrd y ⟨#[111, 102, 102]⟩ := by unfold wOrder; rw [hoff]; rfl
      refine line_c (wOrd y ⟨#[111, 102, 102]⟩) Q_hb Q_hj ha btW (by simp [wOrd]) (by rw [← hwo]; exact okOrderW hoy) (by simp only [ByteArray.size_append]; omega) fun H' j' h1 h2 h3 => ?_
      rw [← hwo] at h3
      simp only [go_sem]
      refine pinEnd_i fun h0 Hm hm1 hm2 => ?_
      have hjp : j' ≠ p := fun e => by have := h0 p (by simp); rw [← e, h3] at this; cases this
      simp only [go_sem, e5, e1, e129, e130, e131, hwr]
      exact ⟨⟨k + 1, j', .op b 0 0, hlt, rfl, (hm2 b (by simp [ne_b_p])).trans h2, .inr rfl, ((hm2 j' (by simp [hjp])).trans h3).trans (by rw [hct, ← app_assoc]; rfl)⟩, by simp only [natOf_int]; omega⟩
    | false =>
      refine acond_i (fun hb => absurd hb (by simp)) (fun _ => ?_)
      simp only [go_sem, e5, e1, e129, e130, e131, Rp, hb, hj]
      refine adraw_p [p] [(0, true), (1, true), (2, true), (3, true), (4, true), (5, true), (6, true), (7, true), (8, true), (9, true), (10, true), (11, true), (12, true), (13, true), (14, true), (15, true), (16, true), (17, true), (18, true), (19, true), (20, true), (21, true), (22, true), (23, true), (24, true), (25, true), (26, true), (27, true), (28, true), (29, true), (30, true), (31, true), (32, true), (33, false), (34, false)] (by simp [Rp]) (by kernel_rfl) fun Hp Hr hp hr _ hr0 => ?_
      have P_Rp := (hp p (by simp)).trans Rp
      have Q_hb := (hr b (by simp [ne_b_p])).trans hb
      have Q_hj := (hr j (by simp [ne_j_p])).trans hj
      simp only [go_sem, e5, e1, e129, e130, e131, c9, c3, P_Rp, Q_hb, Q_hj]
      refine ⟨_, .inl ⟨_, .cons _ _ _ _ (.refl _) .nil, list_c _ hoy.ll hoy.load, rfl⟩, ?_⟩
      simp only [go_sem, e5, e1, e129, e130, e131, P_Rp, c9, c3]
      refine ⟨_, .inl ⟨_, .cons _ _ _ _ (.refl _) .nil, stop_c y.pick hoy.pick, rfl⟩, ?_⟩
      simp only [go_sem, e5, e1, e129, e130, e131, P_Rp, c9, c3]
      refine ⟨_, .inl ⟨_, .cons _ _ _ _ (.refl _) .nil, stop_c y.drop hoy.drop, rfl⟩, ?_⟩
      simp only [go_sem, e5, e1, e129, e130, e131, P_Rp, c9, c3]
      have hwo : wOrder y = wOrd y ⟨#[111, 110]⟩ := by unfold wOrder; rw [hoff]; rfl
      refine line_c (wOrd y ⟨#[111, 110]⟩) Q_hb Q_hj ha btW (by simp [wOrd]) (by rw [← hwo]; exact okOrderW hoy) (by simp only [ByteArray.size_append]; omega) fun H' j' h1 h2 h3 => ?_
      rw [← hwo] at h3
      simp only [go_sem]
      refine pinEnd_i fun h0 Hm hm1 hm2 => ?_
      have hjp : j' ≠ p := fun e => by have := h0 p (by simp); rw [← e, h3] at this; cases this
      simp only [go_sem, e5, e1, e129, e130, e131, hwr]
      exact ⟨⟨k + 1, j', .op b 0 0, hlt, rfl, (hm2 b (by simp [ne_b_p])).trans h2, .inr rfl, ((hm2 j' (by simp [hjp])).trans h3).trans (by rw [hct, ← app_assoc]; rfl)⟩, by simp only [natOf_int]; omega⟩
  have hge := geB hk hge
  subst hge
  rw [List.take_of_length_le (Nat.le_refl _)] at hj
  replace hj : H j = some (tRow (text4 x)) := hj
  simp only [go_sem, e5, e1, e129, e130, e131]
  refine ⟨fun ρ H => ∃ (k : Nat) (j : Nat) (a : AV), k ≤ x.apart.length ∧ ρ 5 = .op b 0 0 ∧ ρ 1 = .rp (encInstance x) 0 ∧ ρ 174 = .sl (x.apart.map encPair) ∧ ρ 175 = int (x.apart.length : Nat) ∧ ρ 176 = int k ∧ H b = some (bRow 94 a j) ∧ Fu a b ∧ H j = some (tRow (text4 x ++ catB ((x.apart.take k).map apartL))), fun ρ _ => x.apart.length - natOf (ρ 176), ⟨0, j, a, Nat.zero_le _, by simp only [go_sem, e5, e1], by simp only [go_sem, e5, e1], by simp only [go_sem, e5, e1], by simp only [go_sem, List.length_map, e5, e1], (by simp only [go_sem, e5, e1]; rfl), hb, ha, (by rw [List.take_zero, List.map_nil, catB, app_nil]; exact hj)⟩, ?_⟩
  rintro ρ H ⟨k, j, a, hk, e5, e1, e174, e175, e176, hb, ha, hj⟩
  simp only [go_sem, e5, e1, e174, e175, e176]
  refine acond_i (fun hlt => ?_) (fun hge => ?_)
  · have hlt := ltB hlt
    obtain ⟨y, hy⟩ := getIn hlt
    have b1 := inB hlt
    have hwr := wrapS (show k ≤ 4611686018427387904 by have := h.ap; omega)
    have hmy := mem_of_get hy
    have hct := catB_take (f := apartL) hy
    have hsz := catT (f := apartL) h.ap (fun a ha => lineS_size (ws := wApart a) (by simp [wApart]) (okApartW (h.apart a ha))) k
    have hoy := h.apart y hmy
    simp only [go_sem, e5, e1, e174, e175, e176, getD_map hy, b1, c9]
    refine anew_i fun p hp0 => ?_
    simp only [go_sem, e5, e1, e174, e175, e176, hwr, hb, hj]
    refine wputE_v hp0 (by simp [encPair]) fun HGp (Rp : HGp p = some (⟨104, 2, [encPair y]⟩)) N => ?_
    replace hb := N hb
    obtain ⟨ne_b_p, hb⟩ := hb
    replace hj := N hj
    obtain ⟨ne_j_p, hj⟩ := hj
    clear N hp0
    simp only [go_sem, e5, e1, e174, e175, e176, hwr, Rp, hb, hj]
    simp only [c9, c3, go_sem]
    refine ⟨by omega, by omega, ?_⟩
    refine line_c (wApart y) hb hj ha btW (by simp [wApart]) (okApartW hoy) (by simp only [ByteArray.size_append]; omega) fun H' j' h1 h2 h3 => ?_
    simp only [go_sem, e5, e1, e174, e175, e176, hwr]
    exact ⟨⟨k + 1, j', .op b 0 0, hlt, rfl, h2, .inr rfl, h3.trans (by rw [hct, ← app_assoc]; rfl)⟩, by simp only [natOf_int]; omega⟩
  have hge := geB hk hge
  subst hge
  rw [List.take_of_length_le (Nat.le_refl _)] at hj
  replace hj : H j = some (tRow (text5 x)) := hj
  simp only [go_sem, e5, e1, e174, e175, e176]
  refine ⟨fun ρ H => ∃ (k : Nat) (j : Nat) (a : AV), k ≤ x.before.length ∧ ρ 5 = .op b 0 0 ∧ ρ 191 = .sl (x.before.map encPair) ∧ ρ 192 = int (x.before.length : Nat) ∧ ρ 193 = int k ∧ H b = some (bRow 94 a j) ∧ Fu a b ∧ H j = some (tRow (text5 x ++ catB ((x.before.take k).map beforeL))), fun ρ _ => x.before.length - natOf (ρ 193), ⟨0, j, a, Nat.zero_le _, by simp only [go_sem, e5, e1], by simp only [go_sem, e5, e1], by simp only [go_sem, List.length_map, e5, e1], (by simp only [go_sem, e5, e1]; rfl), hb, ha, (by rw [List.take_zero, List.map_nil, catB, app_nil]; exact hj)⟩, ?_⟩
  rintro ρ H ⟨k, j, a, hk, e5, e191, e192, e193, hb, ha, hj⟩
  simp only [go_sem, e5, e191, e192, e193]
  refine acond_i (fun hlt => ?_) (fun hge => ?_)
  · have hlt := ltB hlt
    obtain ⟨y, hy⟩ := getIn hlt
    have b1 := inB hlt
    have hwr := wrapS (show k ≤ 4611686018427387904 by have := h.be; omega)
    have hmy := mem_of_get hy
    have hct := catB_take (f := beforeL) hy
    have hsz := catT (f := beforeL) h.be (fun a ha => lineS_size (ws := wBefore a) (by simp [wBefore]) (okBeforeW (h.before a ha))) k
    have hoy := h.before y hmy
    simp only [go_sem, e5, e191, e192, e193, getD_map hy, b1, c9]
    refine anew_i fun p hp0 => ?_
    simp only [go_sem, e5, e191, e192, e193, hwr, hb, hj]
    refine wputE_v hp0 (by simp [encPair]) fun HGp (Rp : HGp p = some (⟨104, 2, [encPair y]⟩)) N => ?_
    replace hb := N hb
    obtain ⟨ne_b_p, hb⟩ := hb
    replace hj := N hj
    obtain ⟨ne_j_p, hj⟩ := hj
    clear N hp0
    simp only [go_sem, e5, e191, e192, e193, hwr, Rp, hb, hj]
    simp only [c9, c3, go_sem]
    refine ⟨by omega, by omega, ?_⟩
    refine line_c (wBefore y) hb hj ha btW (by simp [wBefore]) (okBeforeW hoy) (by simp only [ByteArray.size_append]; omega) fun H' j' h1 h2 h3 => ?_
    simp only [go_sem, e5, e191, e192, e193, hwr]
    exact ⟨⟨k + 1, j', .op b 0 0, hlt, rfl, h2, .inr rfl, h3.trans (by rw [hct, ← app_assoc]; rfl)⟩, by simp only [natOf_int]; omega⟩
  have hge := geB hk hge
  subst hge
  rw [List.take_of_length_le (Nat.le_refl _)] at hj
  replace hj : H j = some (tRow (text6 x)) := hj
  simp only [go_sem, e5, e191, e192, e193]
  simp only [c9, go_sem]
  refine line_c wEnd hb hj ha btW (by simp [wEnd]) (fun w hw => by simp only [wEnd, List.mem_cons, List.not_mem_nil, or_false] at hw; subst hw; exact okS (by decide : (3 : Nat) ≤ 100000000)) (by omega) fun H' j' h1 h2 h3 => ?_
  replace h3 : H' j' = some (tRow (textI x)) := h3
  have hsz : (textI x).size ≤ 1200000000010 := by
    unfold textI
    rw [ByteArray.size_append]
    have : endL.size = 4 := rfl
    omega
  have hpos : 0 < (textI x).size := by
    unfold textI
    rw [ByteArray.size_append]
    have : endL.size = 4 := rfl
    omega
  simp only [go_sem, e5]
  refine len_c h2 h3 ?_
  simp only [go_sem, e5]
  refine acond_i (fun hb2 => ?_) (fun hb2 => ?_)
  · simp only [go_sem]
    rw [if_pos (by have : ((textI x).size : Int) > 65536 := by simpa using hb2
                   omega)]
    exact .refl _
  · simp only [go_sem, e5]
    refine str_c h2 h3 hpos (by omega) fun H2 _ => ?_
    simp only [go_sem]
    rw [if_neg (by have : ¬ ((textI x).size : Int) > 65536 := by simpa using hb2
                   omega)]
    exact .refl _
end Go.Proofs.YtmidcjlidploaaaGreatDoor.Sc
