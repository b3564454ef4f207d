/- Texts joined by a program: CuH, CuI, SoA, SoB, SoC, SoD, SoE. -/
import Derived.Lib.ItoaMem
import Derived.Test.YtbcfajfngdmgnaaGreatDoorZk27

section
set_option linter.unusedSimpArgs false
set_option linter.unusedVariables false
namespace Go.Proofs.YtbcfajfngdmgnaaGreatDoor.Nu
open Go.Aw Go.Aw.D Go.Proofs Ty Go.Nu
set_option maxRecDepth 100000
def encInts (l : List Int) : List AV := [.sl (l.map encInt)]
def even06 (ll : List (List Int)) (d : Int) : Bool := !(decide (d < 0) || decide (d > 3)) && ll.all fun l => !((l.length : Int) != d)
theorem even06_c (ll : List (List Int)) (d : Int) (hl : ll.length ≤ 1048576) : PC Tryz.prog 226 [.sl (ll.map encInts), int d] (boo (even06 ll d)) := by
  refine PC.body (c := Tryz.f226.body.getD .skip) (fun _ => false) mixed Tryz.func226 rfl (by kernel_rfl) ?_
  unfold Tryz.f226
  simp only [Option.getD_some]
  simp only [go_sem]
  refine acond_i (fun hb => ?_) (fun hb => ?_)
  · simp only [go_sem]
    exact cB (by unfold even06; rw [hb]; rfl)
  have hf : even06 ll d = ll.all fun l => !((l.length : Int) != d) := by unfold even06; rw [hb]; rfl
  rw [hf]
  simp only [go_sem]
  refine ⟨fun ρ _ => ∃ k : Nat, k ≤ ll.length ∧ ρ 0 = .sl (ll.map encInts) ∧ ρ 1 = int d ∧ ρ 5 = int k ∧ ∀ l ∈ ll.take k, ((l.length : Int) != d) = false, fun ρ _ => ll.length - natOf (ρ 5), ⟨0, Nat.zero_le _, rfl, rfl, rfl, by simp⟩, ?_⟩
  rintro ρ H ⟨k, hk, h0, h1, h5, hz⟩
  simp only [go_sem, h0, h1, h5]
  refine acond_i (fun hlt => ?_) (fun hge => ?_)
  · have hlt := ltB hlt
    obtain ⟨u, hu⟩ := getIn hlt
    have b1 := inB hlt
    simp only [go_sem, h0, h1, h5, getD_map hu, b1, encInts]
    refine acond_i (fun hb => ?_) (fun hb => ?_)
    · simp only [go_sem]
      refine cB ?_
      symm
      rw [List.all_eq_false]
      exact ⟨u, List.mem_of_getElem? hu, by rw [hb]; simp⟩
    · simp only [go_sem, h0, h1, h5, wrapS (show k ≤ 4611686018427387904 by omega)]
      exact ⟨⟨k + 1, hlt, rfl, take_all' (p := fun l : List Int => ((l.length : Int) != d) = false) hu hb hz⟩, by simp only [natOf_int]; omega⟩
  · have hge := geB hk hge
    subst hge
    rw [List.take_length] at hz
    simp only [go_sem]
    refine cB ?_
    symm
    rw [List.all_eq_true]
    intro l hl
    rw [hz l hl]; rfl
def sumAt (ll : List (List Int)) (i : Nat) : Int := ll.foldl (fun s l => IntKind.i64.wrap (s + l.getD i 0)) 0
theorem sumAt_succ {ll : List (List Int)} {k i : Nat} {l : List Int} (h : ll[k]? = some l) : sumAt (ll.take (k + 1)) i = IntKind.i64.wrap (sumAt (ll.take k) i + l.getD i 0) := by unfold sumAt; rw [take_succ h, List.foldl_append]; rfl
def sum06 (ll : List (List Int)) (d : Int) : List Int × Int := if even06 ll d = true then ((List.range d.toNat).map (sumAt ll), 0) else ([], 2)
theorem even_spec {ll : List (List Int)} {d : Int} (h : even06 ll d = true) : 0 ≤ d ∧ d ≤ 3 ∧ ∀ l ∈ ll, (l.length : Int) = d := by
  simp only [even06, Bool.and_eq_true, Bool.not_eq_true', Bool.or_eq_false_iff, decide_eq_false_iff_not, List.all_eq_true] at h
  refine ⟨by omega, by omega, fun l hl => ?_⟩
  have := h.2 l hl
  simpa using this
theorem sum06_c (ll : List (List Int)) (d : Int) (hl : ll.length ≤ 1048576) : PC Tryz.prog 161 [.sl (ll.map encInts), int d] (.tup [.sl ((sum06 ll d).1.map encInt), int (sum06 ll d).2]) := by
  refine PC.body (c := Tryz.f161.body.getD .skip) (fun t => t == 6) mixed Tryz.func161 rfl (by kernel_rfl) ?_
  unfold Tryz.f161
  simp only [Option.getD_some]
  simp only [go_sem]
  refine PC.use (even06_c ll d hl) ?_
  simp only [go_sem]
  refine acond_i (fun hb => ?_) (fun hb => ?_)
  · simp only [go_sem]
    have : sum06 ll d = ([], 2) := by unfold sum06; rw [if_neg (by simpa using hb)]
    rw [this]; exact .refl _
  have hev : even06 ll d = true := by simpa using hb
  obtain ⟨d0, d3, hd⟩ := even_spec hev
  have hs : sum06 ll d = ((List.range d.toNat).map (sumAt ll), 0) := by unfold sum06; rw [if_pos hev]
  rw [hs]
  simp only [go_sem]
  refine anew_i fun j hj => ?_
  simp only [go_sem]
  refine ⟨fun ρ H => ∃ i : Nat, i ≤ d.toNat ∧ ρ 0 = .sl (ll.map encInts) ∧ ρ 1 = int d ∧ ρ 7 = int i ∧ ∃ j, ρ 6 = .os j ∧ H j = some (⟨3, 1, ((List.range i).map (sumAt ll)).map encInt⟩ : Row), fun ρ _ => d.toNat - natOf (ρ 7), ⟨0, Nat.zero_le _, rfl, rfl, rfl, j, rfl, updH_same _ _ _⟩, ?_⟩
  clear hj
  rintro ρ H ⟨i, hi, h0, h1, h7, j, h6, hj⟩
  simp only [go_sem, h0, h1, h7, h6]
  refine acond_i (fun hlt => ?_) (fun hge => ?_)
  · have hlt : i < d.toNat := by simp at hlt; omega
    simp only [go_sem, h0, h1, h7, h6]
    refine ⟨fun ρ H => ∃ k : Nat, k ≤ ll.length ∧ ρ 0 = .sl (ll.map encInts) ∧ ρ 1 = int d ∧ ρ 6 = .os j ∧ ρ 7 = int i ∧ ρ 8 = int (sumAt (ll.take k) i) ∧ ρ 9 = int k ∧ H j = some (⟨3, 1, ((List.range i).map (sumAt ll)).map encInt⟩ : Row), fun ρ _ => ll.length - natOf (ρ 9), ⟨0, Nat.zero_le _, by simp only [go_sem, h0], by simp only [go_sem, h1], by simp only [go_sem, h6], by simp only [go_sem, h7], by simp only [go_sem]; rfl, by simp only [go_sem]; rfl, hj⟩, ?_⟩
    clear h0 h1 h7 h6 hj
    rintro ρ H ⟨k, hk, h0, h1, h6, h7, h8, h9, hj⟩
    simp only [go_sem, h0, h1, h6, h7, h8, h9]
    refine acond_i (fun hlt2 => ?_) (fun hge2 => ?_)
    · have hlt2 := ltB hlt2
      obtain ⟨u, hu⟩ := getIn hlt2
      have b1 := inB hlt2
      have hul := hd u (List.mem_of_getElem? hu)
      obtain ⟨v, hv⟩ := getIn (show i < u.length by omega)
      have b2 := inB (show i < u.length by omega)
      have egd : u.getD i 0 = v := by simp [List.getD, hv]
      simp only [go_sem, h0, h1, h6, h7, h8, h9, getD_map hu, b1, encInts, getD_map hv, b2, wrapS (show k ≤ 4611686018427387904 by omega)]
      refine ⟨⟨k + 1, hlt2, by rw [sumAt_succ hu, egd], rfl, hj⟩, by simp only [natOf_int]; omega⟩
    · have hge2 := geB hk hge2
      subst hge2
      rw [List.take_length] at h8
      simp only [go_sem, h0, h1, h6, h7, h8]
      refine wappE_i hj ⟨rfl, rfl⟩ ⟨rfl, trivial⟩ (by simp only [List.length_map, List.length_range, List.length_cons, List.length_nil]; omega) (fun j' hj' => ?_)
      simp only [go_sem, h0, h1, h7, wrapS (show i ≤ 4611686018427387904 by omega)]
      refine ⟨⟨i + 1, hlt, rfl, j', rfl, ?_⟩, by simp only [natOf_int]; omega⟩
      rw [List.range_succ, List.map_append, List.map_append]
      exact updH_same _ _ _
  · have hge : i = d.toNat := by simp at hge; omega
    subst hge
    simp only [go_sem, h6]
    exact .tup _ _ (.cons _ _ _ _ (.row _ _ _ hj (ConvE.refl _)) (ConvL.refl _))
theorem bit5_c (i : Nat) (hi : i ≤ 62) : PC Tryz.prog 23 [int i] (int (2 ^ i : Nat)) := by
  refine PC.body (c := Tryz.f23.body.getD .skip) (fun _ => false) mixed Tryz.func23 rfl (by kernel_rfl) ?_
  unfold Tryz.f23
  simp only [Option.getD_some]
  simp only [go_sem]
  refine ⟨fun ρ H => ∃ (k : Nat), k ≤ i ∧ ρ 0 = int i ∧ ρ 4 = int k ∧ ρ 3 = int (2 ^ k : Nat), fun ρ _ => i - natOf (ρ 4), ⟨0, Nat.zero_le _, by simp only [go_sem], (by simp only [go_sem]; rfl), by simp only [go_sem]; rfl⟩, ?_⟩
  rintro ρ H ⟨k, hk, e0, e4, e3⟩
  simp only [go_sem, e0, e4, e3]
  refine acond_i (fun hlt => ?_) (fun hge => ?_)
  · have hlt := ltB hlt
    have hp : (2 : Nat) ^ (k + 1) ≤ 2 ^ 62 := Nat.pow_le_pow_right (by decide) (by omega)
    have hs : (2 : Nat) ^ (k + 1) = 2 * 2 ^ k := by rw [Nat.pow_succ, Nat.mul_comm]
    have w1 : IntKind.i64.wrap (2 * ((2 ^ k : Nat) : Int)) = ((2 ^ (k + 1) : Nat) : Int) := by rw [hs]; rw [hs] at hp; rw [wrap_in (by omega)]; rfl
    simp only [go_sem, e0, e4, e3, w1, wrapS (show k ≤ 4611686018427387904 by omega)]
    exact ⟨⟨k + 1, hlt, rfl, rfl⟩, by simp only [natOf_int]; omega⟩
  · have hge := geB hk hge
    subst hge
    simp only [go_sem, e0, e4, e3]
    exact .refl _
theorem has5_c (s : Nat) (i : Int) (hs : s < 2 ^ 63) : PC Tryz.prog 22 [int s, int i] (boo (hasR s i)) := by
  refine PC.body (c := Tryz.f22.body.getD .skip) (fun _ => false) mixed Tryz.func22 rfl (by kernel_rfl) ?_
  unfold Tryz.f22
  simp only [Option.getD_some]
  simp only [go_sem]
  refine ⟨int (2 ^ i.toNat : Nat), fun hg => ?_, ?_⟩
  · simp at hg
    obtain ⟨n, rfl⟩ := Int.eq_ofNat_of_zero_le hg.1
    exact (bit5_c n (by omega)).q rfl
  have hp : 0 < 2 ^ i.toNat := Nat.two_pow_pos _
  have w1 : IntKind.i64.wrap ((s : Int).tdiv ((2 ^ i.toNat : Nat) : Int)) = ((s / 2 ^ i.toNat : Nat) : Int) := by
    have : s / 2 ^ i.toNat ≤ s := Nat.div_le_self _ _
    rw [show ((s : Int).tdiv ((2 ^ i.toNat : Nat) : Int)) = ((s / 2 ^ i.toNat : Nat) : Int) from rfl]
    generalize s / 2 ^ i.toNat = q at *
    exact wrap_in (by omega)
  simp only [go_sem, w1]
  refine ⟨fun _ => by omega, fun _ => by decide, ?_⟩
  refine cB ?_
  unfold hasR
  have h3 : ((2 : Int) ^ i.toNat) = ((2 ^ i.toNat : Nat) : Int) := by norm_cast
  rw [h3]
  rfl
theorem members5_c (s : Nat) (hs : s < 2 ^ 63) : PC Tryz.prog 82 [int s] (.sl ((memS s).map encInt)) := by
  refine PC.body (c := Tryz.f82.body.getD .skip) (fun t => t == 3) mixed Tryz.func82 rfl (by kernel_rfl) ?_
  unfold Tryz.f82
  simp only [Option.getD_some]
  simp only [go_sem]
  refine anew_i fun j hj => ?_
  simp only [go_sem]
  refine ⟨fun ρ H => ∃ k : Nat, k ≤ 63 ∧ ρ 0 = int s ∧ ρ 4 = int k ∧ ∃ j, ρ 3 = .os j ∧ H j = some (intRow (memU s k)), fun ρ _ => 63 - natOf (ρ 4), ⟨0, Nat.zero_le _, by simp only [go_sem], by simp only [go_sem]; rfl, j, by simp only [go_sem], updH_same _ _ _⟩, ?_⟩
  clear hj
  rintro ρ H ⟨k, hk, h0, h4, j, h3, R⟩
  simp only [go_sem, h0, h4, h3]
  refine acond_i (fun hlt => ?_) (fun hge => ?_)
  · have hlt : k < 63 := by simp at hlt; omega
    simp only [go_sem, h0, h4, h3]
    refine PC.use (has5_c s k hs) ?_
    simp only [go_sem, h0, h4, h3]
    refine acond_i (fun hb => ?_) (fun hb => ?_)
    · simp only [go_sem, h0, h4, h3]
      refine wappE_i R ⟨rfl, rfl⟩ ⟨rfl, trivial⟩ (by have := memU_len s k; simp [intRow]; omega) (fun j' hj' => ?_)
      simp only [go_sem, h0, h4, h3, wrapS (show k ≤ 4611686018427387904 by omega)]
      refine ⟨⟨k + 1, hlt, rfl, j', rfl, ?_⟩, by simp only [natOf_int]; omega⟩
      rw [memU_succ, if_pos hb, updH_same]
      simp only [intRow, List.map_append, List.map_cons, List.map_nil]
      rfl
    · simp only [go_sem, h0, h4, h3, wrapS (show k ≤ 4611686018427387904 by omega)]
      refine ⟨⟨k + 1, hlt, rfl, j, rfl, ?_⟩, by simp only [natOf_int]; omega⟩
      rw [memU_succ, if_neg (by rw [hb]; simp), List.append_nil]
      exact R
  · have hge : k = 63 := by simp at hge; omega
    subst hge
    simp only [go_sem, h3]
    exact .row _ _ _ R (ConvE.refl _)
def badM (l : List Order) (i : Int) : Bool := decide (i ≥ (l.length : Int)) || (orderAt l i).off || !((orderAt l i).penalty == -1)
def must28 (l : List Order) (ms : List Int) : Bool := !ms.any (badM l) && decide (0 < ms.length)
theorem must28_c (x : Instance) (ms : List Int) (hm : ∀ i ∈ ms, 0 ≤ i) (hl : ms.length ≤ 1048576) : PC Tryz.prog 88 [.agg (encInstance x), .sl (ms.map encInt)] (boo (must28 x.orders ms)) := by
  refine PC.body (c := Tryz.f88.body.getD .skip) (fun _ => false) mixed Tryz.func88 rfl (by kernel_rfl) ?_
  unfold Tryz.f88
  simp only [Option.getD_some]
  simp only [go_sem]
  refine ⟨fun ρ H => ∃ (k : Nat), k ≤ ms.length ∧ ρ 1 = .sl (ms.map encInt) ∧ ρ 2 = .rp (encInstance x) 0 ∧ ρ 5 = int k ∧ ∀ i ∈ ms.take k, badM x.orders i = false, fun ρ _ => ms.length - natOf (ρ 5), ⟨0, Nat.zero_le _, by simp only [go_sem], by simp only [go_sem], (by simp only [go_sem]; rfl), by simp⟩, ?_⟩
  rintro ρ H ⟨k, hk, e1, e2, e5, hz⟩
  simp only [go_sem, e1, e2, e5]
  refine acond_i (fun hlt => ?_) (fun hge => ?_)
  · have hlt := ltB hlt
    obtain ⟨i, hi⟩ := getIn hlt
    have b1 := inB hlt
    have hi0 := hm i (List.mem_of_getElem? hi)
    obtain ⟨n, rfl⟩ := Int.eq_ofNat_of_zero_le hi0
    have hg : n < x.orders.length → (x.orders.map encOrder).getD n [] = encOrder (orderAt x.orders n) := fun h => by
      obtain ⟨o, ho⟩ := getIn h
      rw [getD_map ho, orderAt_get ho]
    by_cases hn : n < x.orders.length
    · have b2 := inB hn
      simp only [go_sem, e1, e2, e5, getD_map hi, b1]
      refine adraw_q (by rfl) (by kernel_rfl) ?_
      simp only [go_sem, e1, e2, e5, getD_map hi, b1, hg hn, b2]
      refine acond_i (fun hb => ?_) (fun hb => ?_)
      · simp only [go_sem]
        refine cB ?_
        unfold must28
        rw [any_yes hi hb]; rfl
      · simp only [go_sem, e1, e2, e5, wrapS (show k ≤ 4611686018427387904 by omega)]
        exact ⟨⟨k + 1, hlt, rfl, take_all' (p := fun i => badM x.orders i = false) hi hb hz⟩, by simp only [natOf_int]; omega⟩
    · have hb2 : decide ((n : Int) ≥ (x.orders.length : Int)) = true := by simp; omega
      have hb3 : badM x.orders (n : Int) = true := by unfold badM; rw [hb2]; rfl
      simp only [go_sem, e1, e2, e5, getD_map hi, b1]
      refine adraw_q (by rfl) (by kernel_rfl) ?_
      have hg0 : (x.orders.map encOrder).getD n [] = [] := by rw [List.getD, List.getElem?_eq_none (by rw [List.length_map]; omega)]; rfl
      have hp0 : ∀ b : Bool, pickV true (boo b) .any = boo b := fun b => by cases b <;> rfl
      simp only [go_sem, e1, e2, e5, getD_map hi, b1, hb2, hg0, List.getD_nil, hp0]
      refine acond_i (fun hb => ?_) (fun hb => by cases hb)
      simp only [go_sem]
      refine cB ?_
      unfold must28
      rw [any_yes hi hb3]; rfl
  · have hge := geB hk hge
    subst hge
    rw [List.take_length] at hz
    simp only [go_sem, e1, e2, e5, List.length_map]
    refine cB ?_
    unfold must28
    rw [any_none hz, Bool.eq_iff_iff]
    simp
theorem sided28_c (x : Instance) (ms : List Int) (hm : Memb x.orders ms) (hl : ms.length ≤ 1048576) : PC Tryz.prog 89 [.agg (encInstance x), .sl (ms.map encInt)] (boo (togP x ms)) := by
  refine PC.body (c := Tryz.f89.body.getD .skip) (fun _ => false) mixed Tryz.func89 rfl (by kernel_rfl) ?_
  unfold Tryz.f89
  simp only [Option.getD_some]
  simp only [go_sem]
  unfold togP
  generalize hp : (fun i => decide ((orderAt x.orders i).pick.place ≥ 0)) = p
  generalize hq : (fun i => decide ((orderAt x.orders i).drop.place ≥ 0)) = q
  refine ⟨fun ρ H => ∃ (k : Nat), k ≤ ms.length ∧ ρ 1 = .sl (ms.map encInt) ∧ ρ 2 = .rp (encInstance x) 0 ∧ ρ 7 = int k ∧ ρ 5 = boo ((ms.take k).any p) ∧ ρ 6 = boo ((ms.take k).any q), fun ρ _ => ms.length - natOf (ρ 7), ⟨0, Nat.zero_le _, by simp only [go_sem], by simp only [go_sem], (by simp only [go_sem]; rfl), by simp only [go_sem]; rfl, by simp only [go_sem]; rfl⟩, ?_⟩
  rintro ρ H ⟨k, hk, e1, e2, e7, e5, e6⟩
  simp only [go_sem, e1, e2, e7, e5, e6]
  refine acond_i (fun hlt => ?_) (fun hge => ?_)
  · have hlt := ltB hlt
    obtain ⟨i, hi⟩ := getIn hlt
    have b1 := inB hlt
    have him := hm i (List.mem_of_getElem? hi)
    obtain ⟨n, rfl⟩ := Int.eq_ofNat_of_zero_le him.1
    have hn : n < x.orders.length := by omega
    obtain ⟨o, ho⟩ := getIn hn
    have b2 := inB hn
    have hp1 : p (n : Int) = decide (o.pick.place ≥ 0) := by rw [← hp]; simp only [orderAt_get ho]
    have hq1 : q (n : Int) = decide (o.drop.place ≥ 0) := by rw [← hq]; simp only [orderAt_get ho]
    simp only [go_sem, e1, e2, e7, e5, e6, getD_map hi, b1]
    refine adraw_q (by rfl) (by kernel_rfl) ?_
    simp only [go_sem, e1, e2, e7, e5, e6, getD_map hi, b1, getD_map ho, b2]
    refine adraw_q (by rfl) (by kernel_rfl) ?_
    simp only [go_sem, e1, e2, e7, e5, e6, getD_map hi, b1, getD_map ho, b2, wrapS (show k ≤ 4611686018427387904 by omega)]
    refine ⟨⟨k + 1, hlt, rfl, ?_, ?_⟩, by simp only [natOf_int]; omega⟩
    · rw [take_succ hi, List.any_append, List.any_cons, List.any_nil, hp1]; simp
    · rw [take_succ hi, List.any_append, List.any_cons, List.any_nil, hq1]; simp
  · have hge := geB hk hge
    subst hge
    rw [List.take_length] at e5 e6
    simp only [go_sem, e1, e2, e7, e5, e6]
    exact .refl _
theorem greatest_c (x : Instance) (d dim : Nat) (h : LoadsOk x d) (hd : dim < d) : PC Tryz.prog 91 [.agg (encInstance x), int dim] (int (capMax x.types dim)) := by
  have ht62 := h.types
  refine PC.body (c := Tryz.f91.body.getD .skip) (fun _ => false) mixed Tryz.func91 rfl (by kernel_rfl) ?_
  unfold Tryz.f91
  simp only [Option.getD_some]
  simp only [go_sem]
  refine ⟨fun ρ H => ∃ (k : Nat), k ≤ x.types.length ∧ ρ 1 = int dim ∧ ρ 2 = .rp (encInstance x) 0 ∧ ρ 6 = int k ∧ ρ 5 = int (capMax (x.types.take k) dim), fun ρ _ => x.types.length - natOf (ρ 6), ⟨0, Nat.zero_le _, by simp only [go_sem], by simp only [go_sem], (by simp only [go_sem]; rfl), by simp only [go_sem]; rfl⟩, ?_⟩
  rintro ρ H ⟨k, hk, e1, e2, e6, e5⟩
  simp only [go_sem, e1, e2, e6, e5]
  refine acond_i (fun hlt => ?_) (fun hge => ?_)
  · have hlt := ltB hlt
    obtain ⟨t, ht⟩ := getIn hlt
    have b1 := inB hlt
    obtain ⟨h1, h2⟩ := h.cap t (List.mem_of_getElem? ht)
    obtain ⟨v, hv⟩ := getIn (show dim < t.cap.length by omega)
    have b3 := inB (show dim < t.cap.length by omega)
    have hcm : capMax (x.types.take (k + 1)) dim = imax (capMax (x.types.take k) dim) v := by rw [take_succ ht, capMax_snoc, List.getD, hv]; rfl
    have hb3 : decide ((dim : Int) < (t.cap.length : Int)) = true := by simpa using b3.2
    simp only [go_sem, e1, e2, e6, e5, getD_map ht, b1, getD_map hv, b3, hb3]
    refine acond_i (fun hb => ?_) (fun hb => ?_)
    · simp only [go_sem, e1, e2, e6, e5, getD_map ht, b1, getD_map hv, b3, wrapS (show k ≤ 4611686018427387904 by omega)]
      refine ⟨⟨k + 1, hlt, rfl, ?_⟩, by simp only [natOf_int]; omega⟩
      rw [hcm]; unfold imax; rw [if_pos (by simpa using hb)]
    · simp only [go_sem, e1, e2, e6, e5, wrapS (show k ≤ 4611686018427387904 by omega)]
      refine ⟨⟨k + 1, hlt, rfl, ?_⟩, by simp only [natOf_int]; omega⟩
      rw [hcm]; unfold imax; rw [if_neg (by simpa using hb)]
  · have hge := geB hk hge
    subst hge
    rw [List.take_length] at e5
    simp only [go_sem, e1, e2, e6, e5]
    exact .refl _
def loadLists (l : List Order) (ms : List Int) : List (List Int) := ms.map fun i => (orderAt l i).load
theorem sumAt_wrap {ll : List (List Int)} {i : Nat} (h : ∀ l ∈ ll, 0 ≤ l.getD i 0 ∧ l.getD i 0 ≤ 1000) : ∀ k, k ≤ 1048576 → sumAt (ll.take k) i = ((ll.take k).map fun l => l.getD i 0).sum ∧ 0 ≤ sumAt (ll.take k) i ∧ sumAt (ll.take k) i ≤ 1000 * k
  | 0, _ => by simp [sumAt]
  | k + 1, hk => by
    have ih := sumAt_wrap h k (by omega)
    rcases Nat.lt_or_ge k ll.length with hlt | hge
    · obtain ⟨l, hl⟩ := getIn hlt
      have := h l (List.mem_of_getElem? hl)
      have e : sumAt (ll.take (k + 1)) i = sumAt (ll.take k) i + l.getD i 0 := by rw [sumAt_succ hl, wrap_in (by omega)]
      refine ⟨?_, by omega, by omega⟩
      rw [e, take_succ hl, List.map_append, List.sum_append, ih.1]; simp
    · rw [List.take_of_length_le (by omega)] at ih ⊢
      exact ⟨ih.1, ih.2.1, by omega⟩
theorem load11_c (x : Instance) (d : Nat) (s : Nat) (h : LoadsOk x d) (hs : s < 2 ^ x.orders.length) :
    PC Tryz.prog 90 [.sl (x.orders.map encOrder), int s, int d] (.tup [.sl (((List.range d).map fun dim => loadSum x.orders (memS s) dim).map encInt), int 0]) := by
  have hd3 := h.dims
  have ho62 := h.orders
  have hm : Memb x.orders (memS (s : Int)) := memS_in hs ho62
  have hml : (memS (s : Int)).length ≤ 63 := memU_len _ _
  have h62 : 2 ^ x.orders.length ≤ 2 ^ 62 := Nat.pow_le_pow_right (by decide) ho62
  refine PC.body (c := Tryz.f90.body.getD .skip) (fun t => t == 9) mixed Tryz.func90 rfl (by kernel_rfl) ?_
  unfold Tryz.f90
  simp only [Option.getD_some]
  simp only [go_sem]
  refine ⟨_, fun _ => (in11_c (d : Int) 0 3).q rfl, ?_⟩
  have hin : inR (d : Int) 0 3 = true := by unfold inR; simp; omega
  have hs0 : decide ((s : Int) < 0) = false := by simp
  simp only [go_sem, hin, hs0]
  refine acond_i (fun hb => by simp at hb) (fun hb => ?_)
  simp only [go_sem]
  refine PC.use (members5_c s (by omega)) ?_
  simp only [go_sem]
  refine anew_i fun j hj => ?_
  simp only [go_sem]
  refine ⟨fun ρ H => ∃ (k : Nat) (j : Nat), k ≤ (memS (s : Int)).length ∧ ρ 0 = .sl (x.orders.map encOrder) ∧ ρ 2 = int d ∧ ρ 8 = .sl ((memS (s : Int)).map encInt) ∧ ρ 10 = int k ∧ ρ 9 = .os j ∧ H j = some (⟨51, 1, (loadLists x.orders ((memS (s : Int)).take k)).map encInts⟩ : Row), fun ρ _ => (memS (s : Int)).length - natOf (ρ 10), ⟨0, j, Nat.zero_le _, by simp only [go_sem], by simp only [go_sem], by simp only [go_sem], (by simp only [go_sem]; rfl), by simp only [go_sem], updH_same _ _ _⟩, ?_⟩
  rintro ρ H ⟨k, j, hk, e0, e2, e8, e10, e9, R⟩
  simp only [go_sem, e0, e2, e8, e10, e9]
  refine acond_i (fun hlt => ?_) (fun hge => ?_)
  · have hlt := ltB hlt
    obtain ⟨i, hi⟩ := getIn hlt
    have b1 := inB hlt
    have him := hm i (List.mem_of_getElem? hi)
    obtain ⟨n, rfl⟩ := Int.eq_ofNat_of_zero_le him.1
    have hn : n < x.orders.length := by omega
    obtain ⟨o, ho⟩ := getIn hn
    have b2 := inB hn
    simp only [go_sem, e0, e2, e8, e10, e9, getD_map hi, b1]
    refine acond_i (fun hb => by simp at hb; omega) (fun hb => ?_)
    simp only [go_sem, e0, e2, e8, e10, e9, getD_map hi, b1, getD_map ho, b2]
    refine wappE_i R ⟨rfl, rfl⟩ ⟨rfl, trivial⟩ (by simp [loadLists]; omega) (fun j' hj' => ?_)
    simp only [go_sem, e0, e2, e8, e10, e9, wrapS (show k ≤ 4611686018427387904 by omega)]
    refine ⟨⟨k + 1, j', hlt, rfl, rfl, ?_⟩, by simp only [natOf_int]; omega⟩
    rw [updH_same]
    simp only [loadLists, take_succ hi, List.map_append, List.map_cons, List.map_nil, orderAt_get ho, encInts]
  · have hge := geB hk hge
    subst hge
    rw [List.take_length] at R
    simp only [go_sem, e0, e2, e8, e10, e9]
    refine PC.useF [j] (.cons _ _ _ _ (.row _ _ _ (by simp only [List.mem_singleton, if_true]; exact R) (ConvE.refl _)) (.cons _ _ _ _ (.refl _) .nil)) (sum06_c (loadLists x.orders (memS (s : Int))) (d : Int) (by simp [loadLists]; omega)) ?_
    have hev : even06 (loadLists x.orders (memS (s : Int))) (d : Int) = true := by
      unfold even06
      rw [Bool.and_eq_true]
      refine ⟨by simp; omega, List.all_eq_true.2 fun l hl => ?_⟩
      unfold loadLists at hl
      obtain ⟨i, hi, rfl⟩ := List.mem_map.1 hl
      have him := hm i hi
      obtain ⟨n, rfl⟩ := Int.eq_ofNat_of_zero_le him.1
      obtain ⟨o, ho⟩ := getIn (show n < x.orders.length by omega)
      rw [orderAt_get ho, (h.load o (List.mem_of_getElem? ho)).1]
      simp
    have hsum : sum06 (loadLists x.orders (memS (s : Int))) (d : Int) = ((List.range d).map fun dim => loadSum x.orders (memS (s : Int)) dim, 0) := by
      unfold sum06
      rw [if_pos hev, Int.toNat_natCast]
      congr 1
      refine List.map_congr_left fun dim hdim => ?_
      have hdim := List.mem_range.1 hdim
      have := (sumAt_wrap (ll := loadLists x.orders (memS (s : Int))) (i := dim) (fun l hl => by
        unfold loadLists at hl
        obtain ⟨i, hi, rfl⟩ := List.mem_map.1 hl
        exact loadOf_in h hdim (hm i hi)) (loadLists x.orders (memS (s : Int))).length (by simp [loadLists]; omega)).1
      rw [List.take_length] at this
      rw [this]
      unfold loadLists loadSum loadOf
      rw [List.map_map]; rfl
    rw [hsum]
    simp only [go_sem]
    exact .refl _
end Go.Proofs.YtbcfajfngdmgnaaGreatDoor.Nu
end

section
set_option linter.unusedSimpArgs false
set_option linter.unusedVariables false
namespace Go.Proofs.YtbcfajfngdmgnaaGreatDoor.Nu
open Go.Aw Go.Aw.D Go.Proofs Ty Go.Nu
set_option maxRecDepth 100000
theorem memS_iff {s : Nat} {i : Int} : i ∈ memS (s : Int) ↔ ∃ j : Nat, j < 63 ∧ s.testBit j = true ∧ i = (j : Int) := by
  unfold memS memU
  rw [List.mem_map]
  constructor
  · rintro ⟨j, hj, rfl⟩
    obtain ⟨h1, h2⟩ := List.mem_filter.1 hj
    have h3 := List.mem_range.1 h1
    rw [hasR_nat (by omega)] at h2
    exact ⟨j, h3, h2, rfl⟩
  · rintro ⟨j, h1, h2, rfl⟩
    refine ⟨j, List.mem_filter.2 ⟨List.mem_range.2 h1, ?_⟩, rfl⟩
    rw [hasR_nat (by omega)]; exact h2
theorem mem_pos {s : Nat} (hs : s < 2 ^ 63) : (0 < (memS (s : Int)).length) ↔ 0 < s := by
  constructor
  · intro h
    rcases Nat.eq_zero_or_pos s with rfl | h0
    · obtain ⟨i, hi⟩ := List.exists_mem_of_length_pos h
      obtain ⟨j, _, h2, _⟩ := memS_iff.1 hi
      simp at h2
    · exact h0
  · intro h
    obtain ⟨j, hj⟩ := Nat.exists_testBit_of_ne_zero (x := s) (by omega)
    have hj63 : j < 63 := by
      rcases Nat.lt_or_ge j 63 with h1 | h1
      · exact h1
      · rw [Nat.testBit_lt_two_pow (Nat.lt_of_lt_of_le hs (Nat.pow_le_pow_right (by decide) h1))] at hj; cases hj
    exact List.length_pos_of_mem (memS_iff.2 ⟨j, hj63, hj, rfl⟩)
theorem must_same {x : Instance} {s : Nat} (hx : x.orders.length ≤ 62) (hs : s < 2 ^ 63) (h0 : 0 < s) : must28 x.orders (memS (s : Int)) = !stays x (s : Int) := by
  unfold must28 stays
  rw [decide_eq_true ((mem_pos hs).2 h0), Bool.and_true, exist_nat, Int.toNat_natCast, show decide ((s : Int) ≤ 0) = false by simp; omega, Bool.false_or]
  rw [Bool.eq_iff_iff]
  simp only [Bool.not_eq_true', Bool.or_eq_false_iff, Bool.not_eq_false', decide_eq_true_eq, List.any_eq_false]
  have hbit : ∀ j : Nat, j < 63 → (badM x.orders (j : Int) = false ↔ (mustO x).testBit j = true) := by
    intro j hj
    unfold mustO suchN badM
    rw [bitsN_test]
    rcases Nat.lt_or_ge j x.orders.length with hlt | hge
    · obtain ⟨o, ho⟩ := getIn hlt
      rw [orderAt_get ho, suchB_at ho, decide_eq_true hlt, show decide ((j : Int) ≥ (x.orders.length : Int)) = false by simp; omega]
      simp
    · rw [show decide ((j : Int) ≥ (x.orders.length : Int)) = true by simp; omega, show decide (j < x.orders.length) = false by simp; omega]
      simp
  have hin : ∀ j, s.testBit j = true → j < 63 := fun j hj => by
    rcases Nat.lt_or_ge j 63 with h1 | h1
    · exact h1
    · rw [Nat.testBit_lt_two_pow (Nat.lt_of_lt_of_le hs (Nat.pow_le_pow_right (by decide) h1))] at hj; cases hj
  constructor
  · intro h
    have hsub : ∀ j, s.testBit j = true → (mustO x).testBit j = true := fun j hj => (hbit j (hin j hj)).1 (by have := h (j : Int) (memS_iff.2 ⟨j, hin j hj, hj, rfl⟩); simpa using this)
    have hand : s &&& mustO x = s := by
      apply Nat.eq_of_testBit_eq
      intro j
      rw [Nat.testBit_and]
      cases hj : s.testBit j with
      | false => rfl
      | true => rw [hsub j hj]; rfl
    refine ⟨?_, hand⟩
    have hmu : mustO x < 2 ^ x.orders.length := suchN_lt _ _
    have : s &&& mustO x ≤ mustO x := Nat.and_le_right
    omega
  · rintro ⟨_, hand⟩ i hi
    obtain ⟨j, h1, h2, rfl⟩ := memS_iff.1 hi
    have h3 : (mustO x).testBit j = true := by
      rw [← hand, Nat.testBit_and] at h2
      exact (Bool.and_eq_true_iff.1 h2).2
    simpa using (hbit j h1).2 h3
theorem tripsD_spec {x : Instance} {d dim : Nat} {ms : List Int} (h : LoadsOk x d) (hd : dim < d) (hm : Memb x.orders ms) :
    0 ≤ tripsD x ms dim ∧ (capMax x.types dim < 1 → tripsD x ms dim = 0) ∧ (1 ≤ capMax x.types dim → ∀ n : Int, 0 ≤ n → (tripsD x ms dim ≤ n ↔ loadSum x.orders ms dim ≤ n * capMax x.types dim)) ∧ tripsD x ms dim ≤ loadSum x.orders ms dim := by
  have hL := (loadSum_in h hd hm).1
  have hC := (capMax_in h hd x.types.length).1
  rw [List.take_length] at hC
  unfold tripsD tripsL
  generalize loadSum x.orders ms dim = L at *
  generalize capMax x.types dim = C at *
  have hnc : ([C].any fun n => decide (n < 0)) = false := by simp; exact hC
  simp only [List.length_cons, List.length_nil, ne_eq, not_true, if_false, hnc, Bool.false_eq_true, tripsF]
  by_cases h0 : L ≤ 0
  · have : L = 0 := by omega
    subst this
    simp only [Int.le_refl, if_true]
    simp
    intro hc n hn
    exact ⟨fun _ => Int.mul_nonneg hn (by omega), fun _ => hn⟩
  · rw [if_neg h0]
    by_cases hc : C = 0
    · rw [if_pos hc]; simp; omega
    · rw [if_neg hc]
      have hq : imax 0 ((L + C - 1).tdiv C) = (L + C - 1) / C := by
        have h1 : (L + C - 1).tdiv C = (L + C - 1) / C := Int.tdiv_eq_ediv_of_nonneg (by omega)
        have h2 : 0 ≤ (L + C - 1) / C := Int.ediv_nonneg (by omega) (by omega)
        rw [h1]; unfold imax; split <;> omega
      simp only [hq, not_true, if_false]
      have h2 : 0 ≤ (L + C - 1) / C := Int.ediv_nonneg (by omega) (by omega)
      refine ⟨h2, fun h => by omega, fun h1 n hn => ?_, ?_⟩
      · have h4 : (L + C - 1) / C ≤ n ↔ (L + C - 1) / C < n + 1 := by omega
        rw [h4, Int.ediv_lt_iff_lt_mul (by omega), Int.add_mul, Int.one_mul]
        omega
      · have h4 : (L + C - 1) / C ≤ L ↔ (L + C - 1) / C < L + 1 := by omega
        rw [h4, Int.ediv_lt_iff_lt_mul (by omega), Int.add_mul, Int.one_mul]
        have : L * 1 ≤ L * C := Int.mul_le_mul_of_nonneg_left (by omega) (by omega)
        omega
theorem dimF_in {x : Instance} {d : Nat} {ms : List Int} (h : LoadsOk x d) (hm : Memb x.orders ms) (hl : ms.length ≤ 63) : ∀ k, k ≤ d → 1 ≤ dimF x ms k ∧ dimF x ms k ≤ 63001
  | 0, _ => by simp [dimF]
  | k + 1, hk => by
    have ih := dimF_in h hm hl k (by omega)
    have h1 := tripsD_spec h (dim := k) (by omega) hm
    have h2 := loadSum_in h (dim := k) (by omega) hm
    rw [dimF_succ]
    unfold imax
    split <;> omega
theorem trips28_c (x : Instance) (d : Nat) (set : Int) (h : LoadsOk x d) (ht : x.types ≠ []) (hset : set < 9223372036854775808) : PC Tryz.prog 27 [.agg (encInstance x), int set] (int (tripsP x d set)) := by
  have ho62 := h.orders
  have hd3 := h.dims
  have htl := h.types
  obtain ⟨t, r, ht2⟩ := List.exists_cons_of_ne_nil ht
  have hlen : ((x.types.length : Int) == 0) = false := by rw [ht2]; rw [beq_eq_false_iff_ne]; simp; omega
  refine PC.body (c := Tryz.f27.body.getD .skip) (fun _ => false) mixed Tryz.func27 rfl (by kernel_rfl) ?_
  unfold Tryz.f27
  simp only [Option.getD_some]
  simp only [go_sem]
  simp only [go_sem, List.length_map, hlen]
  refine acond_i (fun hb => ?_) (fun hb => ?_)
  · simp only [go_sem]
    have : stays x set = true := by unfold stays; rw [show decide (set ≤ 0) = true by simpa using hb]; rfl
    rw [show tripsP x d set = 0 from if_pos this]
    exact .refl _
  obtain ⟨s, rfl⟩ := Int.eq_ofNat_of_zero_le (a := set) (by simp at hb; omega)
  have hs0 : 0 < s := by simp at hb; omega
  have hs63 : s < 2 ^ 63 := by omega
  simp only [go_sem]
  refine PC.use (members5_c s hs63) ?_
  simp only [go_sem]
  have hml : (memS (s : Int)).length ≤ 63 := memU_len _ _
  refine PC.use (must28_c x (memS (s : Int)) (fun i hi => by obtain ⟨j, _, _, rfl⟩ := memS_iff.1 hi; omega) (by omega)) ?_
  rw [must_same ho62 hs63 hs0]
  simp only [go_sem]
  refine acond_i (fun hb2 => ?_) (fun hb2 => ?_)
  · simp only [go_sem]
    rw [show tripsP x d (s : Int) = 0 from if_pos (by simpa using hb2)]
    exact .refl _
  have hst : stays x (s : Int) = false := by simpa using hb2
  have e0 : tripsP x d (s : Int) = if togP x (memS (s : Int)) = false then 1 else dimF x (memS (s : Int)) d := if_neg (by rw [hst]; simp)
  rw [e0]
  have hsn : s < 2 ^ x.orders.length := by
    unfold stays at hst
    simp only [Bool.or_eq_false_iff, Bool.not_eq_false'] at hst
    obtain ⟨s', hs', hlt⟩ := exist_spec hst.1.2
    omega
  have hm : Memb x.orders (memS (s : Int)) := memS_in hsn ho62
  simp only [go_sem]
  refine PC.use (sided28_c x (memS (s : Int)) hm (by omega)) ?_
  simp only [go_sem]
  refine acond_i (fun hb3 => ?_) (fun hb3 => ?_)
  · simp only [go_sem]
    rw [if_pos (by simpa using hb3)]
    exact .refl _
  rw [if_neg (by simpa using hb3)]
  have b1 := inB (show 0 < x.types.length by rw [ht2]; simp)
  have hx0 : x.types[0]? = some t := by rw [ht2]; rfl
  have hg0 := getD_map (f := encVType) hx0
  have hd := (h.cap t (by rw [ht2]; simp)).1
  subst hd
  have hld := load11_c x _ s h hsn
  simp only [go_sem]
  refine adraw_m [(0, true), (1, true), (2, true), (3, true), (4, true), (5, true), (6, true), (7, true), (8, true), (9, false), (10, true), (11, true), (12, true), (13, true), (14, true)] (by kernel_rfl) ?_
  simp only [go_sem, List.length_map, hg0]
  refine ⟨by omega, ?_⟩
  refine PC.use hld ?_
  simp only [go_sem]
  have hdl : ((List.range t.cap.length).map fun dim => loadSum x.orders (memS (s : Int)) dim).length = t.cap.length := by simp
  refine ⟨fun ρ H => ∃ (k : Nat), k ≤ t.cap.length ∧ ρ 2 = .rp (encInstance x) 0 ∧ ρ 7 = .sl (((List.range t.cap.length).map fun dim => loadSum x.orders (memS (s : Int)) dim).map encInt) ∧ ρ 8 = int 0 ∧ ρ 9 = int k ∧ ρ 6 = int (dimF x (memS (s : Int)) k), fun ρ _ => t.cap.length - natOf (ρ 9), ⟨0, Nat.zero_le _, by simp only [go_sem], by simp only [go_sem], by simp only [go_sem], (by simp only [go_sem]; rfl), by simp only [go_sem]; rfl⟩, ?_⟩
  rintro ρ H ⟨k, hk, e2, e7, e8, e9, e6⟩
  simp only [go_sem, e2, e7, e8, e9, e6]
  refine acond_i (fun hlt => ?_) (fun hge => ?_)
  · have hkl : k < t.cap.length := by simpa using hlt
    clear hlt
    have hlt := hkl
    have hR := dimF_in h hm hml (k + 1) (by omega)
    have hK := dimF_in h hm hml k (by omega)
    obtain ⟨q0, q1, q2, _⟩ := tripsD_spec h hlt hm
    have hL := loadSum_in h hlt hm
    have hC := capMax_in h hlt x.types.length
    rw [List.take_length] at hC
    have hsucc := dimF_succ x (memS (s : Int)) k
    have hlk : ((List.range t.cap.length).map fun dim => loadSum x.orders (memS (s : Int)) dim)[k]? = some (loadSum x.orders (memS (s : Int)) k) := by
      rw [List.getElem?_map, List.getElem?_range hlt]; rfl
    have hgl := getD_map (f := encInt) hlk
    generalize hG : ((List.range t.cap.length).map fun dim => loadSum x.orders (memS (s : Int)) dim) = G at *
    have bG : 0 ≤ (k : Int) ∧ (k : Int) < (G.length : Int) := by omega
    simp only [go_sem, e2, e7, e8, e9, e6]
    refine PC.use (greatest_c x _ k h hlt) ?_
    simp only [go_sem, e2, e7, e8, e9, e6]
    generalize loadSum x.orders (memS (s : Int)) k = L at *
    generalize capMax x.types k = C at *
    generalize tripsD x (memS (s : Int)) k = T at *
    refine acond_i (fun hc => ?_) (fun hc => ?_)
    · have hT := q1 (by simpa using hc)
      simp only [go_sem, e2, e7, e8, e9, e6, wrapS (show k ≤ 4611686018427387904 by omega)]
      refine ⟨⟨k + 1, hlt, rfl, ?_⟩, by simp only [natOf_int]; omega⟩
      rw [hsucc, hT]; unfold imax; rw [if_neg (by omega)]
    have hc : 1 ≤ C := by simp at hc; omega
    simp only [go_sem, e2, e7, e8, e9, e6]
    refine ⟨fun ρ H => ∃ out : Int, dimF x (memS (s : Int)) k ≤ out ∧ out ≤ dimF x (memS (s : Int)) (k + 1) ∧ ρ 2 = .rp (encInstance x) 0 ∧ ρ 7 = .sl (G.map encInt) ∧ ρ 8 = int 0 ∧ ρ 9 = int k ∧ ρ 10 = int C ∧ ρ 6 = int out, fun ρ _ => (dimF x (memS (s : Int)) (k + 1)).toNat - natOf (ρ 6),
      ⟨dimF x (memS (s : Int)) k, Int.le_refl _, by rw [hsucc]; unfold imax; split <;> omega, by simp only [go_sem, e2, e7, e8, e9, e6], by simp only [go_sem, e2, e7, e8, e9, e6], by simp only [go_sem, e2, e7, e8, e9, e6], by simp only [go_sem, e2, e7, e8, e9, e6], by simp only [go_sem, e2, e7, e8, e9, e6], by simp only [go_sem, e2, e7, e8, e9, e6]⟩, ?_⟩
    clear e2 e7 e8 e9 e6
    rintro ρ H ⟨out, ho1, ho2, e2, e7, e8, e9, e10, e6⟩
    have hmul : out * C ≤ 63001 * 1000 := Int.le_trans (Int.mul_le_mul_of_nonneg_right (by omega : out ≤ 63001) (by omega)) (Int.mul_le_mul_of_nonneg_left hC.2 (by omega))
    have hmul0 : 0 ≤ out * C := Int.mul_nonneg (by omega) (by omega)
    have w1 : IntKind.i64.wrap (out * C) = out * C := wrap_in (by omega)
    simp only [go_sem, e2, e7, e8, e9, e10, e6, hgl, bG, w1]
    refine acond_i (fun hb => ?_) (fun hb => ?_)
    · have hb : L > out * C := by simpa using hb
      have hT : ¬ T ≤ out := fun h => by have := (q2 hc out (by omega)).1 h; omega
      have w2 : IntKind.i64.wrap (out + 1) = out + 1 := wrap_in (by omega)
      have hup : out + 1 ≤ dimF x (memS (s : Int)) (k + 1) := by rw [hsucc] at ho2 ⊢; unfold imax at ho2 ⊢; split at ho2 <;> split <;> omega
      simp only [go_sem, e2, e7, e8, e9, e10, e6, w2]
      exact ⟨⟨out + 1, by omega, hup, rfl⟩, by simp only [natOf_int]; omega⟩
    · have hb : ¬ L > out * C := by simpa using hb
      have hT : T ≤ out := (q2 hc out (by omega)).2 (by omega)
      simp only [go_sem, e2, e7, e8, e9, e10, e6, wrapS (show k ≤ 4611686018427387904 by omega)]
      refine ⟨⟨k + 1, hlt, rfl, ?_⟩, by simp only [natOf_int]; omega⟩
      have : out = dimF x (memS (s : Int)) (k + 1) := by rw [hsucc] at ho2 ⊢; unfold imax at ho2 ⊢; split at ho2 <;> split <;> omega
      rw [this]
  · have hge : k = t.cap.length := by simp at hge; omega
    subst hge
    simp only [go_sem, e2, e7, e8, e9, e6]
    exact .refl _
theorem exist_mem {n s : Nat} (hn : n ≤ 62) (hs : s < 2 ^ 63) : existP n (s : Int) = !((memS (s : Int)).any fun i => decide (i ≥ (n : Int))) := by
  rw [exist_nat, Bool.eq_iff_iff]
  simp only [Bool.not_eq_true', decide_eq_true_eq, List.any_eq_false]
  constructor
  · intro h i hi
    have := memS_in h hn i hi
    omega
  · intro h
    refine Nat.lt_pow_two_of_testBit _ fun j hj => ?_
    cases hb : s.testBit j with
    | false => rfl
    | true =>
      have hj63 : j < 63 := by
        rcases Nat.lt_or_ge j 63 with h1 | h1
        · exact h1
        · rw [Nat.testBit_lt_two_pow (Nat.lt_of_lt_of_le hs (Nat.pow_le_pow_right (by decide) h1))] at hb; cases hb
      have := h (j : Int) (memS_iff.2 ⟨j, hj63, hb, rfl⟩)
      omega
theorem right28_c (x : Instance) (d : Nat) (one : Cut) (h : LoadsOk x d) (ht : x.types ≠ []) (hset : one.set < 9223372036854775808) : PC Tryz.prog 25 [.agg (encInstance x), .agg (encCut one)] (int (rightC x d one)) := by
  have ho62 := h.orders
  refine PC.body (c := Tryz.f25.body.getD .skip) (fun _ => false) mixed Tryz.func25 rfl (by kernel_rfl) ?_
  unfold Tryz.f25
  simp only [Option.getD_some]
  simp only [go_sem]
  unfold rightC
  refine acond_i (fun h1 => ?_) (fun h1 => ?_)
  · have h1 : one.kind ≠ 1 ∧ one.kind ≠ 2 := by simpa using h1
    simp only [go_sem]
    rw [if_neg h1.1, if_neg h1.2]
    exact .refl _
  have hkd : one.kind = 1 ∨ one.kind = 2 := by
    simp at h1
    by_cases e : one.kind = 1
    · exact .inl e
    · exact .inr (h1 e)
  simp only [go_sem]
  refine acond_i (fun h2 => ?_) (fun h2 => ?_)
  · have he : existP x.orders.length one.set = false := by unfold existP; rw [show decide (one.set ≥ 0) = false by simpa using h2]; rfl
    simp only [go_sem]
    rw [he]
    rcases hkd with hkd | hkd
    · rw [if_pos hkd, if_pos (by rfl)]; exact .refl _
    · rw [if_neg (by omega), if_pos hkd, if_pos (by rfl)]; exact .refl _
  obtain ⟨s, hs⟩ := Int.eq_ofNat_of_zero_le (a := one.set) (by simpa using h2)
  have hs63 : s < 2 ^ 63 := by omega
  have hsl : (memS (s : Int)).length = popK 63 s := memU_pop s 63 (Nat.le_refl _)
  have h63p := popK_le 63 s
  have hpos := mem_pos hs63
  have hex := exist_mem ho62 hs63
  rw [hs, Int.toNat_natCast, ← hsl]
  simp only [go_sem, hs]
  refine PC.use (members5_c s hs63) ?_
  simp only [go_sem]
  refine ⟨fun ρ H => ∃ (k : Nat), k ≤ (memS (s : Int)).length ∧ ρ 2 = .rp (encInstance x) 0 ∧ ρ 3 = .rp (encCut one) 0 ∧ ρ 5 = .sl ((memS (s : Int)).map encInt) ∧ ρ 6 = int k ∧ ∀ i ∈ (memS (s : Int)).take k, decide (i ≥ (x.orders.length : Int)) = false, fun ρ _ => (memS (s : Int)).length - natOf (ρ 6), ⟨0, Nat.zero_le _, by simp only [go_sem], by simp only [go_sem], by simp only [go_sem], (by simp only [go_sem]; rfl), by simp⟩, ?_⟩
  rintro ρ H ⟨k, hk, e2, e3, e5, e6, hz⟩
  simp only [go_sem, e2, e3, e5, e6]
  refine acond_i (fun hlt => ?_) (fun hge => ?_)
  · have hlt := ltB hlt
    obtain ⟨i, hi⟩ := getIn hlt
    have b1 := inB hlt
    simp only [go_sem, e2, e3, e5, e6]
    refine adraw_q (by rfl) (by kernel_rfl) ?_
    simp only [go_sem, e2, e3, e5, e6, getD_map hi, b1]
    refine acond_i (fun hb => ?_) (fun hb => ?_)
    · rw [hex, any_yes hi hb]
      simp only [go_sem]
      rcases hkd with hkd | hkd
      · rw [if_pos hkd, if_pos (by rfl)]; exact .refl _
      · rw [if_neg (by omega), if_pos hkd, if_pos (by rfl)]; exact .refl _
    · simp only [go_sem, e2, e3, e5, e6, wrapS (show k ≤ 4611686018427387904 by omega)]
      exact ⟨⟨k + 1, hlt, rfl, take_all' (p := fun i => decide (i ≥ (x.orders.length : Int)) = false) hi hb hz⟩, by simp only [natOf_int]; omega⟩
  have hge := geB hk hge
  subst hge
  rw [List.take_length] at hz
  rw [hex, any_none hz]
  have h63 : (memS (s : Int)).length ≤ 63 := memU_len _ _
  simp only [go_sem, e2, e3, e5, e6, List.length_map]
  refine acond_i (fun h1 => ?_) (fun h1 => ?_)
  · rw [if_pos (by simpa using h1)]
    simp only [go_sem, e2, e3, e5, e6, List.length_map]
    refine acond_i (fun hb => ?_) (fun hb => ?_)
    · rw [if_pos (by simpa using hb)]
      simp only [go_sem]
      exact .refl _
    rw [if_neg (by simpa using hb)]
    simp only [go_sem, e2, e3, e5, e6]
    refine acond_i (fun hb => ?_) (fun hb => ?_)
    · rw [if_pos (by simpa using hb)]
      simp only [go_sem]
      exact .refl _
    · rw [if_neg (by simpa using hb)]
      simp only [go_sem]
      exact .refl _
  have h1 : one.kind ≠ 1 := by simpa using h1
  rw [if_neg h1, if_pos (hkd.resolve_left h1)]
  simp only [go_sem, e2, e3, e5, e6, List.length_map]
  have hz0 : (((memS (s : Int)).length : Int) == 0) = ((s : Int) == 0) := by
    rw [Bool.eq_iff_iff, beq_iff_eq, beq_iff_eq]
    omega
  rw [hz0]
  refine acond_i (fun hb => ?_) (fun hb => ?_)
  · rw [if_pos (by rw [hb]; rfl)]
    simp only [go_sem]
    exact .refl _
  rw [if_neg (by rw [hb]; simp)]
  have htr := trips28_c x d (s : Int) h ht (by omega)
  simp only [go_sem, e2, e3, e5, e6]
  refine adraw_q (by rfl) (by kernel_rfl) ?_
  simp only [go_sem, e2, e3, e5, e6, hs]
  refine ⟨_, fun _ => htr.q rfl, ?_⟩
  simp only [go_sem]
  refine acond_i (fun hb => ?_) (fun hb => ?_)
  · rw [if_pos (by exact hb)]
    simp only [go_sem]
    exact .refl _
  · rw [if_neg (by rw [show (decide (one.n < 1) || decide (one.n > tripsP x d (s : Int))) = false from hb]; simp)]
    simp only [go_sem]
    exact .refl _
end Go.Proofs.YtbcfajfngdmgnaaGreatDoor.Nu
end

section
set_option linter.unusedSimpArgs false
set_option linter.unusedVariables false
namespace Go.So
variable {α : Type}
structure SWO (lt : α → α → Bool) : Prop where
  asym : ∀ a b, lt a b = true → lt b a = false
  neg : ∀ a b c, lt a b = false → lt b c = false → lt a c = false
def tlt (lt : α → α → Bool) (p q : α × Nat) : Prop := lt p.1 q.1 = true ∨ (lt q.1 p.1 = false ∧ p.2 < q.2)
section
variable {lt : α → α → Bool} (h : SWO lt)
include h
end
section
variable {lt : α → α → Bool} (h : SWO lt)
include h
end
def ranks (A B : List (α × Nat)) : Prop := ∀ x ∈ A, ∀ y ∈ B, x.2 < y.2
structure Good (lt : α → α → Bool) (R : List (List (α × Nat))) : Prop where
  srt : ∀ A ∈ R, A.Pairwise (tlt lt)
  rk : R.Pairwise ranks
end Go.So
end

section
set_option linter.unusedSimpArgs false
set_option linter.unusedVariables false
namespace Go.Proofs.YtbcfajfngdmgnaaGreatDoor.Nu
open Go.Aw Go.Aw.D Go.Proofs Ty Go.Nu Go.So
set_option maxRecDepth 100000
structure Broken where
  cut : Cut
  by_ : ByteArray
def encBroken (x : Broken) : List AV := [.v (.int .i64 x.cut.kind), .v (.int .i64 x.cut.set), .v (.int .i64 x.cut.n), .v (.string x.by_)]
theorem updH_self {H : Heap} {j : Nat} {r : Row} (h : H j = some r) : updH H j (some r) = H := by
  funext k
  unfold updH
  split
  · next e => rw [e, h]
  · rfl
end Go.Proofs.YtbcfajfngdmgnaaGreatDoor.Nu
end

section
set_option linter.unusedSimpArgs false
set_option linter.unusedVariables false
namespace Go.Proofs.YtbcfajfngdmgnaaGreatDoor.Nu
open Go.Aw Go.Aw.D Go.Proofs Ty Go.Nu Go.So
set_option maxRecDepth 100000
abbrev TB := Broken × Nat
def fs (L : List TB) : List Broken := L.map Prod.fst
structure CmpOk (gf : Nat) (lt : Broken → Broken → Bool) (ok : Broken → Prop) : Prop where
  call : callOk Tryz.prog gf = true
  cmp : ∀ x y, ok x → ok y → ∃ n : Int, decide (n < 0) = lt x y ∧ PC Tryz.prog gf [.agg (encBroken x), .agg (encBroken y)] (int n)
end Go.Proofs.YtbcfajfngdmgnaaGreatDoor.Nu
end

section
set_option linter.unusedSimpArgs false
set_option linter.unusedVariables false
namespace Go.Proofs.YtbcfajfngdmgnaaGreatDoor.Nu
open Go.Aw Go.Aw.D Go.Proofs Ty Go.Nu Go.So
set_option maxRecDepth 100000
section
variable {gf : Nat} {lt : Broken → Broken → Bool} {ok : Broken → Prop}
end
end Go.Proofs.YtbcfajfngdmgnaaGreatDoor.Nu
end

section
set_option linter.unusedSimpArgs false
set_option linter.unusedVariables false
namespace Go.Proofs.YtbcfajfngdmgnaaGreatDoor.Nu
open Go.Aw Go.Aw.D Go.Proofs Ty Go.Nu Go.So
set_option maxRecDepth 100000
section
variable {gf : Nat} {lt : Broken → Broken → Bool} {ok : Broken → Prop}
end
end Go.Proofs.YtbcfajfngdmgnaaGreatDoor.Nu
end
