/- Texts joined by a program: RxK. -/
import Derived.Test.YtdlijlecpopadaaGreatDoorZx33

set_option linter.unusedSimpArgs false
set_option linter.unusedVariables false
namespace Go.Proofs.YtdlijlecpopadaaGreatDoor.Rx
open Go.Aw Go.Aw.D Go.Proofs Ty Go.Nu Go.So
open Sq (W visP stopV hasR NetOk)
open Nu (ltB geB)
open Mv (convI convB convA NC.pc take_allP)
set_option maxRecDepth 100000
theorem bit_c (i : Nat) (hi : i ≤ 62) : PC Tryz.prog 40 [int i] (int (2 ^ i : Nat)) := by
  refine PC.body (c := Tryz.f40.body.getD .skip) (fun _ => false) mixed Tryz.func40 rfl (by kernel_rfl) ?_
  unfold Tryz.f40
  simp only [Option.getD_some]
  simp only [go_sem]
  refine ⟨fun ρ H => ∃ (k : Nat), k ≤ i ∧ ρ 0 = int i ∧ ρ 4 = int k ∧ ρ 3 = int (2 ^ k : Nat), fun ρ _ => i - natOf (ρ 4), ⟨0, Nat.zero_le _, by simp only [go_sem], (by simp only [go_sem]; rfl), by simp only [go_sem]; rfl⟩, ?_⟩
  rintro ρ H ⟨k, hk, e0, e4, e3⟩
  simp only [go_sem, e0, e4, e3]
  refine acond_i (fun hlt => ?_) (fun hge => ?_)
  · have hlt := ltB hlt
    have hp : (2 : Nat) ^ (k + 1) ≤ 2 ^ 62 := Nat.pow_le_pow_right (by decide) (by omega)
    have hs : (2 : Nat) ^ (k + 1) = 2 * 2 ^ k := by rw [Nat.pow_succ, Nat.mul_comm]
    have w1 : IntKind.i64.wrap (2 * ((2 ^ k : Nat) : Int)) = ((2 ^ (k + 1) : Nat) : Int) := by rw [hs]; rw [hs] at hp; rw [wrap_in (by omega)]; rfl
    simp only [go_sem, e0, e4, e3, w1, wrapS (show k ≤ 4611686018427387904 by omega)]
    exact ⟨⟨k + 1, hlt, rfl, rfl⟩, by simp only [natOf_int]; omega⟩
  · have hge := geB hk hge
    subst hge
    simp only [go_sem, e0, e4, e3]
    exact .refl _
def hasN (s i : Nat) : Bool := s / 2 ^ i % 2 == 1
theorem has32_c (s i : Nat) (hs : s < 2 ^ 63) (hi : i ≤ 1048576) : PC Tryz.prog 41 [int (s : Nat), int (i : Nat)] (boo (hasN s i)) := by
  refine PC.body (c := Tryz.f41.body.getD .skip) (fun _ => false) mixed Tryz.func41 rfl (by kernel_rfl) ?_
  unfold Tryz.f41
  simp only [Option.getD_some]
  simp only [go_sem]
  refine ⟨fun ρ H => ∃ (k : Nat), k ≤ i ∧ ρ 1 = int (i : Nat) ∧ ρ 5 = int k ∧ ρ 0 = int (s / 2 ^ k : Nat), fun ρ _ => i - natOf (ρ 5), ⟨0, Nat.zero_le _, by simp only [go_sem], (by simp only [go_sem]; rfl), by simp only [go_sem, Nat.pow_zero, Nat.div_one]⟩, ?_⟩
  rintro ρ H ⟨k, hk, e1, e5, e0⟩
  simp only [go_sem, e1, e5, e0]
  refine acond_i (fun hlt => ?_) (fun hge => ?_)
  · have hlt := ltB hlt
    have hd : (s / 2 ^ k : Nat) ≤ s := Nat.div_le_self _ _
    have w1 : IntKind.i64.wrap (Int.tdiv ((s / 2 ^ k : Nat) : Int) 2) = ((s / 2 ^ (k + 1) : Nat) : Int) := by
      have e1 : Int.tdiv ((s / 2 ^ k : Nat) : Int) 2 = ((s / 2 ^ k / 2 : Nat) : Int) := rfl
      rw [e1, Nat.div_div_eq_div_mul, ← Nat.pow_succ]
      have : s / 2 ^ k.succ ≤ s := Nat.div_le_self _ _
      show IntKind.i64.wrap ((s / 2 ^ k.succ : Nat) : Int) = ((s / 2 ^ k.succ : Nat) : Int)
      generalize s / 2 ^ k.succ = z at *
      exact wrap_in (by omega)
    simp only [go_sem, e1, e5, e0, w1, wrapS (show k ≤ 4611686018427387904 by omega)]
    exact ⟨by decide, ⟨k + 1, hlt, rfl, rfl⟩, by simp only [natOf_int]; omega⟩
  · have hge := geB hk hge
    subst hge
    simp only [go_sem, e1, e5, e0]
    refine ⟨by decide, convB ?_⟩
    unfold hasN
    have e1 : Int.tmod ((s / 2 ^ k : Nat) : Int) 2 = ((s / 2 ^ k % 2 : Nat) : Int) := rfl
    rw [e1, Bool.eq_iff_iff]
    simp only [beq_iff_eq]
    omega
def places32 (o : Order) : List Int := (if decide (o.pick.place ≥ 0) = true then [o.pick.place] else []) ++ (if decide (o.drop.place ≥ 0) = true then [o.drop.place] else [])
theorem places32_c (o : Order) : PC Tryz.prog 79 [.agg (encOrder o)] (.sl ((places32 o).map encInt)) := by
  refine PC.body (c := Tryz.f79.body.getD .skip) (fun t => t == 3) mixed Tryz.func79 rfl (by kernel_rfl) ?_
  unfold Tryz.f79
  simp only [Option.getD_some]
  simp only [go_sem]
  refine anew_i fun j3 h3 => ?_
  have R3 : updH noRows j3 (some (⟨3, 1, []⟩ : Row)) j3 = some (iRow []) := updH_same _ _ _
  generalize updH noRows j3 _ = H at R3 ⊢
  simp only [go_sem]
  unfold places32
  refine acond_join (fun ρ' H' => ∃ (j : Nat), ρ' 1 = .rp (encOrder o) 0 ∧ ρ' 3 = .os j ∧ H' j = some (iRow (if decide (o.pick.place ≥ 0) = true then [o.pick.place] else []))) ?_ fun K hK => acond_i (fun hb => ?_) (fun hb => ?_)
  rotate_left
  · rw [if_pos hb] at hK
    simp only [go_sem]
    refine wappE_i R3 ⟨rfl, rfl⟩ (by simp only [go_sem]) (by simp) (fun j2 hj2 => ?_)
    simp only [go_sem]
    refine hK _ _ ⟨j2, by simp only [go_sem], by simp only [go_sem], (updH_same _ _ _).trans rfl⟩
  · rw [if_neg (fun h => Bool.noConfusion (hb.symm.trans h))] at hK
    refine hK _ _ ⟨j3, by simp only [go_sem], by simp only [go_sem], R3⟩
  rintro ρ H ⟨j, e1, e3, R3⟩
  have hl : (if decide (o.pick.place ≥ 0) = true then [o.pick.place] else []).length ≤ 1 := by split <;> simp
  generalize (if decide (o.pick.place ≥ 0) = true then [o.pick.place] else []) = L at *
  simp only [go_sem, e1, e3]
  refine acond_i (fun hb => ?_) (fun hb => ?_)
  · rw [if_pos hb]
    simp only [go_sem, e1, e3]
    refine wappE_i R3 ⟨rfl, rfl⟩ (by simp only [go_sem]) (by simp only [List.length_map, List.length_cons, List.length_nil]; omega) (fun j2 hj2 => ?_)
    simp only [go_sem, e1, e3]
    refine .row _ _ _ (updH_same _ _ _) ?_
    show ConvE _ (L.map encInt ++ [[int o.drop.place]]) ((L ++ [o.drop.place]).map encInt)
    rw [List.map_append]
    exact ConvE.refl _
  · rw [if_neg (fun h => Bool.noConfusion (hb.symm.trans h)), List.append_nil]
    simp only [go_sem, e1, e3]
    exact .row _ _ _ R3 (ConvE.refl _)
def listBad (near : List Int) (i : Nat) : Bool := decide (near.getD i 0 < 0) || decide (near.getD i 0 ≥ ((2 ^ near.length : Nat) : Int)) || !hasN (near.getD i 0).toNat i
def list32 (x : Instance) (near : List Int) : Bool := !((near.length : Int) != (x.orders.length : Int)) && (List.range near.length).all fun i => !listBad near i
theorem list32_c (x : Instance) (near : List Int) (hx : x.orders.length ≤ 62) (hnl : near.length ≤ 1048576) : PC Tryz.prog 14 [.agg (encInstance x), .sl (near.map encInt)] (boo (list32 x near)) := by
  have eL : list32 x near = (!((near.length : Int) != (x.orders.length : Int)) && (List.range near.length).all fun i => !listBad near i) := rfl
  generalize list32 x near = R at eL
  refine PC.body (c := Tryz.f14.body.getD .skip) (fun _ => false) mixed Tryz.func14 rfl (by kernel_rfl) ?_
  unfold Tryz.f14
  simp only [Option.getD_some]
  simp only [go_sem]
  refine acond_i (fun hb => ?_) (fun hb => ?_)
  · rw [hb] at eL
    subst eL
    simp only [go_sem]
    exact .refl _
  rw [hb, Bool.not_false, Bool.true_and] at eL
  have hl : near.length = x.orders.length := by simp at hb; omega
  simp only [go_sem]
  refine ⟨fun ρ H => ∃ (k : Nat), k ≤ near.length ∧ ρ 1 = .sl (near.map encInt) ∧ ρ 5 = int k ∧ (∀ i, i < k → listBad near i = false), fun ρ _ => near.length - natOf (ρ 5), ⟨0, Nat.zero_le _, by simp only [go_sem], (by simp only [go_sem]; rfl), by intro i hi; omega⟩, ?_⟩
  rintro ρ H ⟨k, hk, e1, e5, hz⟩
  simp only [go_sem, e1, e5]
  refine acond_i (fun hlt => ?_) (fun hge => ?_)
  · have hlt := ltB (by simpa using hlt)
    obtain ⟨v, hv⟩ := getIn hlt
    have b1 := inB hlt
    have hgv : near.getD k 0 = v := by rw [List.getD, hv]; rfl
    have hlb : listBad near k = (decide (v < 0) || decide (v ≥ ((2 ^ near.length : Nat) : Int)) || !hasN v.toNat k) := by unfold listBad; rw [hgv]
    have hp2 : 2 ^ near.length ≤ 2 ^ 62 := Nat.pow_le_pow_right (by decide) (by omega)
    simp only [go_sem, e1, e5]
    refine adraw_m [(0, true), (1, true), (2, true), (3, true), (4, true), (5, true), (6, true), (7, true), (8, true), (9, true), (10, true), (11, true), (12, true), (13, true), (14, true), (15, true), (16, true), (17, true), (18, true), (19, true), (20, true), (21, true), (22, true), (23, true)] (by kernel_rfl) ?_
    simp only [go_sem, e1, e5, getD_map hv, b1, List.length_map]
    refine ⟨_, fun _ => PC.q (bit_c near.length (by omega)) rfl, ?_⟩
    simp only [go_sem, e1, e5, getD_map hv, b1, List.length_map]
    refine ⟨boo (hasN v.toNat k), fun hg => ?_, ?_⟩
    · rw [Bool.or_eq_false_iff] at hg
      have g1 := of_decide_eq_false hg.1
      have g2 := of_decide_eq_false hg.2
      obtain ⟨n, rfl⟩ : ∃ n : Nat, v = (n : Nat) := ⟨v.toNat, by omega⟩
      rw [Int.toNat_natCast]
      exact PC.q (has32_c n k (by omega) (by omega)) rfl
    simp only [go_sem, e1, e5]
    refine acond_i (fun hb => ?_) (fun hb => ?_)
    · have : ((List.range near.length).all fun i => !listBad near i) = false := by
        rw [Bool.eq_false_iff]; intro h
        have := List.all_eq_true.1 h k (List.mem_range.2 hlt)
        rw [hlb, hb] at this; cases this
      rw [this] at eL
      subst eL
      simp only [go_sem]
      exact .refl _
    · simp only [go_sem, e1, e5, wrapS (show k ≤ 4611686018427387904 by omega)]
      refine ⟨⟨k + 1, hlt, rfl, fun i hi => ?_⟩, by simp only [natOf_int]; omega⟩
      by_cases e : i = k
      · subst e; rw [hlb]; exact hb
      · exact hz i (by omega)
  have hge := geB hk (by simpa using hge)
  subst hge
  rw [List.all_eq_true.2 (fun i hi => by rw [hz i (List.mem_range.1 hi)]; rfl)] at eL
  subst eL
  simp only [go_sem]
  exact .refl _
def memS (near : List Int) (m o : Nat) (s i : Nat) : Nat := if (i == o || (hasN m i && hasN (near.getD o 0).toNat i)) = true then s + 2 ^ i else s
def memTo (near : List Int) (m o k : Nat) : Nat := (List.range k).foldl (memS near m o) 0
theorem memTo_succ (near : List Int) (m o k : Nat) : memTo near m o (k + 1) = memS near m o (memTo near m o k) k := by
  unfold memTo; rw [List.range_succ, List.foldl_append]; rfl
theorem memTo_lt (near : List Int) (m o : Nat) : ∀ k, memTo near m o k < 2 ^ k
  | 0 => by show 0 < 1; decide
  | k + 1 => by
    have := memTo_lt near m o k
    rw [memTo_succ, Nat.pow_succ]
    unfold memS
    split <;> omega
theorem mem32_c (near : List Int) (m o : Nat) (h : NearB near) (ho : o < near.length) (hm : m < 2 ^ 62) : PC Tryz.prog 16 [.sl (near.map encInt), int (m : Nat), int (o : Nat)] (int (memTo near m o near.length : Nat)) := by
  obtain ⟨vo, hvo⟩ := getIn ho
  have bo := inB ho
  have hl := h.len
  have hn := h.num vo (List.mem_of_getElem? hvo)
  obtain ⟨N, rfl⟩ := Int.eq_ofNat_of_zero_le hn.1
  have hgo : (near.getD o 0).toNat = N := by rw [List.getD, hvo]; rfl
  refine PC.body (c := Tryz.f16.body.getD .skip) (fun _ => false) mixed Tryz.func16 rfl (by kernel_rfl) ?_
  unfold Tryz.f16
  simp only [Option.getD_some]
  simp only [go_sem]
  refine ⟨fun ρ H => ∃ (k : Nat), k ≤ near.length ∧ ρ 0 = .sl (near.map encInt) ∧ ρ 1 = int (m : Nat) ∧ ρ 2 = int (o : Nat) ∧ ρ 8 = int k ∧ ρ 7 = int (memTo near m o k : Nat), fun ρ _ => near.length - natOf (ρ 8), ⟨0, Nat.zero_le _, by simp only [go_sem], by simp only [go_sem], by simp only [go_sem], (by simp only [go_sem]; rfl), by simp only [go_sem]; rfl⟩, ?_⟩
  rintro ρ H ⟨k, hk, e0, e1, e2, e8, e7⟩
  simp only [go_sem, e0, e1, e2, e8, e7]
  refine acond_i (fun hlt => ?_) (fun hge => ?_)
  · have hlt := ltB (by simpa using hlt)
    have hs := memTo_succ near m o k
    have hlt2 := memTo_lt near m o k
    have hp : (2 : Nat) ^ k ≤ 2 ^ 61 := Nat.pow_le_pow_right (by decide) (by omega)
    unfold memS at hs
    rw [hgo] at hs
    generalize memTo near m o k = S at *
    simp only [go_sem, e0, e1, e2, e8, e7]
    refine ⟨_, fun _ => PC.q (has32_c m k (by omega) (by omega)) rfl, ?_⟩
    simp only [go_sem, e0, e1, e2, e8, e7, getD_map hvo, bo]
    refine ⟨_, fun _ => PC.q (has32_c N k (by omega) (by omega)) rfl, ?_⟩
    simp only [go_sem, e0, e1, e2, e8, e7]
    have hbe : (((k : Nat) : Int) == ((o : Nat) : Int)) = (k == o) := by rw [Bool.eq_iff_iff]; simp only [beq_iff_eq]; omega
    rw [hbe]
    refine acond_i (fun hb => ?_) (fun hb => ?_)
    · rw [if_pos hb] at hs
      simp only [go_sem, e0, e1, e2, e8, e7]
      refine PC.use (bit_c k (by omega)) ?_
      have w1 : IntKind.i64.wrap (((S : Nat) : Int) + ((2 ^ k : Nat) : Int)) = ((S + 2 ^ k : Nat) : Int) := by rw [wrap_in (by omega)]; rfl
      simp only [go_sem, e0, e1, e2, e8, e7, w1, wrapS (show k ≤ 4611686018427387904 by omega)]
      exact ⟨⟨k + 1, hlt, rfl, by rw [hs]⟩, by simp only [natOf_int]; omega⟩
    · rw [if_neg (fun h => Bool.noConfusion (hb.symm.trans h))] at hs
      simp only [go_sem, e0, e1, e2, e8, e7, wrapS (show k ≤ 4611686018427387904 by omega)]
      exact ⟨⟨k + 1, hlt, rfl, by rw [hs]⟩, by simp only [natOf_int]; omega⟩
  have hge := geB hk (by simpa using hge)
  subst hge
  simp only [go_sem, e0, e1, e2, e8, e7]
  exact .refl _
def d32A (p q : Int) (out : Int) (w : Arc) : Int := if ((w.src == p && w.dst == q) || (w.src == q && w.dst == p)) = true then imin out w.miles else out
def d32Q (arcs : List Arc) (p : Int) (out q : Int) : Int := arcs.foldl (d32A p q) (if (p == q) = true then 0 else out)
def d32P (arcs : List Arc) (Q : List Int) (out p : Int) : Int := Q.foldl (d32Q arcs p) out
def dist32 (x : Instance) (a b : Nat) : Int := (places32 (ordAt x a)).foldl (d32P x.net.arcs (places32 (ordAt x b))) 10001
theorem places32_len (o : Order) : (places32 o).length ≤ 2 := by unfold places32; split <;> split <;> simp
theorem dist32_c (x : Instance) (a b : Nat) (ha : a < x.orders.length) (hb : b < x.orders.length) (hx : x.net.arcs.length ≤ 1048576) : PC Tryz.prog 42 [.agg (encInstance x), int (a : Nat), int (b : Nat)] (int (dist32 x a b)) := by
  have g1 := getD_map (f := encOrder) (ordAt_get ha)
  have g2 := getD_map (f := encOrder) (ordAt_get hb)
  have b1 := inB ha
  have b2 := inB hb
  unfold dist32
  refine PC.body (c := Tryz.f42.body.getD .skip) (fun _ => false) mixed Tryz.func42 rfl (by kernel_rfl) ?_
  unfold Tryz.f42
  simp only [Option.getD_some]
  simp only [go_sem]
  simp only [go_sem, g1, b1]
  refine PC.use (places32_c _) ?_
  simp only [go_sem, g2, b2]
  refine PC.use (places32_c _) ?_
  have hpl := places32_len (ordAt x a)
  have hql := places32_len (ordAt x b)
  generalize places32 (ordAt x a) = P at *
  generalize places32 (ordAt x b) = Q at *
  simp only [go_sem]
  refine ⟨fun ρ H => ∃ (k : Nat), k ≤ P.length ∧ ρ 3 = .rp (encInstance x) 0 ∧ ρ 8 = .sl (P.map encInt) ∧ ρ 9 = .sl (Q.map encInt) ∧ ρ 10 = int k ∧ ρ 7 = int ((P.take k).foldl (d32P x.net.arcs Q) 10001), fun ρ _ => P.length - natOf (ρ 10), ⟨0, Nat.zero_le _, by simp only [go_sem], by simp only [go_sem], by simp only [go_sem], (by simp only [go_sem]; rfl), by simp only [go_sem]; rfl⟩, ?_⟩
  rintro ρ H ⟨k, hk, e3, e8, e9, e10, e7⟩
  simp only [go_sem, e3, e8, e9, e10, e7]
  refine acond_i (fun hlt => ?_) (fun hge => ?_)
  · have hlt := ltB (by simpa using hlt)
    obtain ⟨p, hpp⟩ := getIn hlt
    have c1 := inB hlt
    have hs := Sq.foldl_take (f := d32P x.net.arcs Q) (b := (10001 : Int)) hpp
    generalize (P.take k).foldl (d32P x.net.arcs Q) 10001 = m1 at *
    unfold d32P at hs
    simp only [go_sem, e3, e8, e9, e10, e7]
    generalize hk1 : k = k1 at *
    refine ⟨fun ρ H => ∃ (k : Nat), k ≤ Q.length ∧ ρ 3 = .rp (encInstance x) 0 ∧ ρ 8 = .sl (P.map encInt) ∧ ρ 9 = .sl (Q.map encInt) ∧ ρ 10 = int (k1 : Nat) ∧ ρ 11 = int k ∧ ρ 7 = int ((Q.take k).foldl (d32Q x.net.arcs p) m1), fun ρ _ => Q.length - natOf (ρ 11), ⟨0, Nat.zero_le _, by simp only [go_sem, e3, e8, e9, e10, e7], by simp only [go_sem, e3, e8, e9, e10, e7], by simp only [go_sem, e3, e8, e9, e10, e7], by simp only [go_sem, e3, e8, e9, e10, e7], (by simp only [go_sem, e3, e8, e9, e10, e7]; rfl), by simp only [go_sem, e7]; rfl⟩, ?_⟩
    rintro ρ H ⟨k, hk, e3, e8, e9, e10, e11, e7⟩
    simp only [go_sem, e3, e8, e9, e10, e11, e7]
    refine acond_i (fun hlt => ?_) (fun hge => ?_)
    · have hlt2 := ltB (by simpa using hlt)
      obtain ⟨q, hqq⟩ := getIn hlt2
      have c2 := inB hlt2
      have hs2 := Sq.foldl_take (f := d32Q x.net.arcs p) (b := m1) hqq
      generalize (Q.take k).foldl (d32Q x.net.arcs p) m1 = m2 at *
      unfold d32Q at hs2
      simp only [go_sem, e3, e8, e9, e10, e11, e7]
      refine adraw_m [(0, true), (1, true), (2, true), (3, true), (4, true), (5, true), (6, true), (7, true), (8, true)] (by kernel_rfl) ?_
      simp only [go_sem, e3, e8, e9, e10, e11, e7, getD_map hpp, getD_map hqq, c1, c2]
      refine acond_join (fun ρ' H' => ρ' 3 = .rp (encInstance x) 0 ∧ ρ' 8 = .sl (P.map encInt) ∧ ρ' 9 = .sl (Q.map encInt) ∧ ρ' 10 = int (k1 : Nat) ∧ ρ' 11 = int (k : Nat) ∧ ρ' 7 = int (if (p == q) = true then 0 else m2)) ?_ fun K hK => acond_i (fun hb => ?_) (fun hb => ?_)
      rotate_left
      · rw [if_pos hb] at hK
        simp only [go_sem, e3, e8, e9, e10, e11, e7]
        exact hK _ _ ⟨by simp only [go_sem, e3, e8, e9, e10, e11, e7], by simp only [go_sem, e3, e8, e9, e10, e11, e7], by simp only [go_sem, e3, e8, e9, e10, e11, e7], by simp only [go_sem, e3, e8, e9, e10, e11, e7], by simp only [go_sem, e3, e8, e9, e10, e11, e7], by simp only [go_sem]⟩
      · rw [if_neg (fun h => Bool.noConfusion (hb.symm.trans h))] at hK
        simp only [go_sem]
        exact hK _ _ ⟨by simp only [go_sem, e3, e8, e9, e10, e11, e7], by simp only [go_sem, e3, e8, e9, e10, e11, e7], by simp only [go_sem, e3, e8, e9, e10, e11, e7], by simp only [go_sem, e3, e8, e9, e10, e11, e7], by simp only [go_sem, e3, e8, e9, e10, e11, e7], by simp only [go_sem, e3, e8, e9, e10, e11, e7]⟩
      rintro ρ H ⟨e3, e8, e9, e10, e11, e7⟩
      generalize (if (p == q) = true then 0 else m2) = m3 at *
      simp only [go_sem, e3, e8, e9, e10, e11, e7]
      generalize hk2 : k = k2 at *
      refine ⟨fun ρ H => ∃ (k : Nat), k ≤ x.net.arcs.length ∧ ρ 3 = .rp (encInstance x) 0 ∧ ρ 8 = .sl (P.map encInt) ∧ ρ 9 = .sl (Q.map encInt) ∧ ρ 10 = int (k1 : Nat) ∧ ρ 11 = int (k2 : Nat) ∧ ρ 12 = int k ∧ ρ 7 = int ((x.net.arcs.take k).foldl (d32A p q) m3), fun ρ _ => x.net.arcs.length - natOf (ρ 12), ⟨0, Nat.zero_le _, by simp only [go_sem, e3, e8, e9, e10, e11, e7], by simp only [go_sem, e3, e8, e9, e10, e11, e7], by simp only [go_sem, e3, e8, e9, e10, e11, e7], by simp only [go_sem, e3, e8, e9, e10, e11, e7], by simp only [go_sem, e3, e8, e9, e10, e11, e7], (by simp only [go_sem, e3, e8, e9, e10, e11, e7]; rfl), by simp only [go_sem, e7]; rfl⟩, ?_⟩
      rintro ρ H ⟨k, hk, e3, e8, e9, e10, e11, e12, e7⟩
      simp only [go_sem, e3, e8, e9, e10, e11, e12, e7]
      refine acond_i (fun hlt => ?_) (fun hge => ?_)
      · have hlt3 := ltB (by simpa using hlt)
        obtain ⟨c, hc⟩ := getIn hlt3
        have c3 := inB hlt3
        have hs3 := Sq.foldl_take (f := d32A p q) (b := m3) hc
        generalize (x.net.arcs.take k).foldl (d32A p q) m3 = m at *
        have hdc : d32A p q m c = if ((c.src == p && c.dst == q) || (c.src == q && c.dst == p)) = true then imin m c.miles else m := rfl
        simp only [go_sem, e3, e8, e9, e10, e11, e12, e7, getD_map hc, c3]
        refine anew_i fun i13 hi130 => ?_
        simp only [go_sem, e3, e8, e9, e10, e11, e12, e7]
        refine wputE_n (updH_same _ _ _) (by simp [encArc_len]) ?_
        generalize hGi13 : updH (updH _ i13 _) i13 _ = HGi13
        have R13 : HGi13 i13 = some ((⟨139, 6, [encArc c]⟩ : Row)) := by rw [← hGi13, updH_same]; try rfl
        clear hGi13 hi130
        simp only [go_sem, e3, e8, e9, e10, e11, e12, e7, R13]
        refine adraw_p [i13] [(0, true), (1, true), (2, true), (3, true), (4, true), (5, true), (6, true), (7, true), (8, true), (9, true), (10, true), (11, true), (12, true), (13, true), (14, true), (15, true), (16, true), (17, true), (18, true), (19, true), (20, true), (21, true), (22, true), (23, true), (24, true), (25, true), (26, true), (27, true), (28, true), (29, true), (30, true), (31, true), (32, true), (33, true)] (by simp [R13]) (by kernel_rfl) fun Hp Hr hp hr _ hr0 => ?_
        have P_R13 := (hp i13 (by simp)).trans R13
        simp only [go_sem, e3, e8, e9, e10, e11, e12, e7, getD_map hpp, getD_map hqq, c1, c2, P_R13]
        refine pinEnd_same hr ?_
        simp only [go_sem, e3, e8, e9, e10, e11, e12, e7]
        refine acond_i (fun hb => ?_) (fun hb => ?_)
        · rw [if_pos hb] at hdc
          simp only [go_sem, e3, e8, e9, e10, e11, e12, e7, R13, wrapS (show k ≤ 4611686018427387904 by omega)]
          exact ⟨⟨k + 1, hlt3, rfl, by rw [hs3, hdc]⟩, by simp only [natOf_int]; omega⟩
        · rw [if_neg (fun h => Bool.noConfusion (hb.symm.trans h))] at hdc
          simp only [go_sem, e3, e8, e9, e10, e11, e12, e7, wrapS (show k ≤ 4611686018427387904 by omega)]
          exact ⟨⟨k + 1, hlt3, rfl, by rw [hs3, hdc]⟩, by simp only [natOf_int]; omega⟩
      have hge := geB hk (by simpa using hge)
      subst hge
      rw [List.take_length] at e7
      simp only [go_sem, e3, e8, e9, e10, e11, e12, e7, wrapS (show k2 ≤ 4611686018427387904 by omega)]
      refine ⟨⟨k2 + 1, hlt2, rfl, ?_⟩, by simp only [natOf_int]; omega⟩
      exact congrArg (fun z : Int => int z) hs2.symm
    have hge := geB hk (by simpa using hge)
    subst hge
    rw [List.take_length] at e7
    simp only [go_sem, e3, e8, e9, e10, e7, wrapS (show k1 ≤ 4611686018427387904 by omega)]
    refine ⟨⟨k1 + 1, hlt, rfl, ?_⟩, by simp only [natOf_int]; omega⟩
    exact congrArg (fun z : Int => int z) hs.symm
  have hge := geB hk (by simpa using hge)
  subst hge
  rw [List.take_length] at e7
  simp only [go_sem, e3, e8, e9, e10, e7]
  exact .refl _
def bestS (x : Instance) (a set : Nat) (best : Int) (b : Nat) : Int := if (!hasN set b && (decide (best < 0) || decide (dist32 x a b < dist32 x a best.toNat))) = true then (b : Int) else best
def bestTo (x : Instance) (a set k : Nat) : Int := (List.range k).foldl (bestS x a set) (-1)
theorem bestTo_succ (x : Instance) (a set k : Nat) : bestTo x a set (k + 1) = bestS x a set (bestTo x a set k) k := by unfold bestTo; rw [List.range_succ, List.foldl_append]; rfl
theorem bestTo_lt (x : Instance) (a set : Nat) : ∀ k, -1 ≤ bestTo x a set k ∧ bestTo x a set k < k
  | 0 => by show (-1 : Int) ≤ -1 ∧ (-1 : Int) < ((0 : Nat) : Int); omega
  | k + 1 => by
    have := bestTo_lt x a set k
    rw [bestTo_succ]; unfold bestS
    split <;> omega
def setS (x : Instance) (a set : Nat) : Nat := if bestTo x a set x.orders.length ≥ 0 then set + 2 ^ (bestTo x a set x.orders.length).toNat else set
def setTo (x : Instance) (a : Nat) : Nat → Nat
  | 0 => 2 ^ a
  | m + 1 => setS x a (setTo x a m)
theorem setTo_le (x : Instance) (a : Nat) (hn : x.orders.length ≤ 19) (ha : a < x.orders.length) : ∀ m, setTo x a m ≤ (m + 1) * 524288
  | 0 => by
    have : 2 ^ a ≤ 2 ^ 19 := Nat.pow_le_pow_right (by decide) (by omega)
    show 2 ^ a ≤ 1 * 524288
    omega
  | m + 1 => by
    have h := setTo_le x a hn ha m
    have hb := bestTo_lt x a (setTo x a m) x.orders.length
    show setS x a (setTo x a m) ≤ _
    unfold setS
    split
    · have h2 : 2 ^ (bestTo x a (setTo x a m) x.orders.length).toNat ≤ 524288 := Nat.le_trans (Nat.pow_le_pow_right (by decide) (show _ ≤ 19 by omega)) (by decide)
      generalize 2 ^ (bestTo x a (setTo x a m) x.orders.length).toNat = z at *
      rw [Nat.succ_mul (m + 1)]
      exact Nat.add_le_add h h2
    · rw [Nat.succ_mul (m + 1)]
      exact Nat.le_trans h (Nat.le_add_right _ _)
def near32 (x : Instance) (size : Nat) : List Int := (List.range x.orders.length).map fun a => ((setTo x a (size - 1) : Nat) : Int)
theorem near32_c (x : Instance) (size : Nat) (h1 : 1 ≤ size) (h10 : size ≤ 10) (hn : x.orders.length ≤ 19) (hx : x.net.arcs.length ≤ 1048576) :
    PC Tryz.prog 12 [.agg (encInstance x), int (size : Nat)] (.tup [.sl ((near32 x size).map encInt), int 0]) := by
  refine PC.body (c := Tryz.f12.body.getD .skip) (fun t => t == 6) mixed Tryz.func12 rfl (by kernel_rfl) ?_
  unfold Tryz.f12
  simp only [Option.getD_some]
  simp only [go_sem]
  refine acond_i (fun hb => ?_) (fun hb => ?_)
  · simp at hb; omega
  simp only [go_sem]
  refine anew_i fun j6 h6 => ?_
  have R6 : updH noRows j6 (some (⟨3, 1, []⟩ : Row)) j6 = some (iRow []) := updH_same _ _ _
  generalize updH noRows j6 _ = HA at R6 ⊢
  clear h6
  simp only [go_sem]
  refine ⟨fun ρ H => ∃ (k : Nat) (j6 : Nat), k ≤ x.orders.length ∧ ρ 1 = int (size : Nat) ∧ ρ 2 = .rp (encInstance x) 0 ∧ ρ 7 = int k ∧ ρ 6 = .os j6 ∧ H j6 = some (iRow ((List.range k).map fun a => ((setTo x a (size - 1) : Nat) : Int))), fun ρ _ => x.orders.length - natOf (ρ 7), ⟨0, j6, Nat.zero_le _, by simp only [go_sem], by simp only [go_sem], (by simp only [go_sem]; rfl), by simp only [go_sem], R6⟩, ?_⟩
  rintro ρ H ⟨k, j6, hk, e1, e2, e7, e6, R6⟩
  simp only [go_sem, e1, e2, e7, e6]
  refine acond_i (fun hlt => ?_) (fun hge => ?_)
  · have hlt := ltB (by simpa using hlt)
    simp only [go_sem, e1, e2, e7, e6]
    refine PC.use (bit_c k (by omega)) ?_
    simp only [go_sem, e1, e2, e7, e6]
    refine ⟨fun ρ' H' => ∃ m : Nat, m ≤ size - 1 ∧ ρ' 1 = int (size : Nat) ∧ ρ' 2 = .rp (encInstance x) 0 ∧ ρ' 6 = .os j6 ∧ ρ' 7 = int (k : Nat) ∧ ρ' 8 = int (setTo x k m : Nat) ∧ ρ' 9 = int (m + 1 : Nat) ∧ H' = H, fun ρ _ => size - natOf (ρ 9), ⟨0, Nat.zero_le _, by simp only [go_sem, e1, e2, e7, e6], by simp only [go_sem, e1, e2, e7, e6], by simp only [go_sem, e1, e2, e7, e6], by simp only [go_sem, e1, e2, e7, e6], by simp only [go_sem]; rfl, by simp only [go_sem]; rfl, rfl⟩, ?_⟩
    clear e1 e2 e6 e7
    rintro ρ HB ⟨m, hm, e1, e2, e6, e7, e8, e9, rfl⟩
    simp only [go_sem, e1, e2, e6, e7, e8, e9]
    refine acond_i (fun hlt2 => ?_) (fun hge2 => ?_)
    · have hlt2 : m + 1 < size := ltB hlt2
      have hsl := setTo_le x k hn hlt m
      have hss : setTo x k (m + 1) = setS x k (setTo x k m) := rfl
      unfold setS at hss
      generalize setTo x k m = S at *
      simp only [go_sem, e1, e2, e6, e7, e8, e9]
      generalize hk0 : k = k0 at *
      refine ⟨fun ρ H => ∃ (k : Nat), k ≤ x.orders.length ∧ ρ 1 = int (size : Nat) ∧ ρ 2 = .rp (encInstance x) 0 ∧ ρ 6 = .os j6 ∧ ρ 7 = int (k0 : Nat) ∧ ρ 8 = int (S : Nat) ∧ ρ 9 = int (m + 1 : Nat) ∧ ρ 11 = int k ∧ ρ 10 = int (bestTo x k0 S k) ∧ H = HB, fun ρ _ => x.orders.length - natOf (ρ 11), ⟨0, Nat.zero_le _, by simp only [go_sem, e1, e2, e6, e7, e8, e9], by simp only [go_sem, e1, e2, e6, e7, e8, e9], by simp only [go_sem, e1, e2, e6, e7, e8, e9], by simp only [go_sem, e1, e2, e6, e7, e8, e9], by simp only [go_sem, e1, e2, e6, e7, e8, e9], by simp only [go_sem, e1, e2, e6, e7, e8, e9], (by simp only [go_sem, e1, e2, e6, e7, e8, e9]; rfl), by simp only [go_sem]; rfl, rfl⟩, ?_⟩
      rintro ρ H ⟨k, hk, e1, e2, e6, e7, e8, e9, e11, e10, hH⟩
      simp only [go_sem, e1, e2, e6, e7, e8, e9, e11, e10]
      refine acond_i (fun hlt => ?_) (fun hge => ?_)
      · have hlt3 := ltB (by simpa using hlt)
        have hb := bestTo_lt x k0 S k
        have hs := bestTo_succ x k0 S k
        unfold bestS at hs
        generalize bestTo x k0 S k = bst at *
        simp only [go_sem, e1, e2, e6, e7, e8, e9, e11, e10]
        refine adraw_m [(0, true), (1, true), (2, true), (3, true), (4, true), (5, true), (6, true), (7, true), (8, true), (9, true), (10, true), (11, true), (12, true), (13, true), (14, true), (15, true), (16, true), (17, true), (18, true)] (by kernel_rfl) ?_
        simp only [go_sem, e1, e2, e6, e7, e8, e9, e11, e10]
        refine ⟨_, PC.q (has32_c S k (by omega) (by omega)) rfl, ?_⟩
        simp only [go_sem, e1, e2, e6, e7, e8, e9, e11, e10]
        refine ⟨_, fun _ => PC.q (dist32_c x k0 k (by omega) hlt3 hx) rfl, ?_⟩
        simp only [go_sem, e1, e2, e6, e7, e8, e9, e11, e10]
        refine ⟨int (dist32 x k0 bst.toNat), fun hg => ?_, ?_⟩
        · have g2 := of_decide_eq_false hg.2
          obtain ⟨n, rfl⟩ : ∃ n : Nat, bst = (n : Nat) := ⟨bst.toNat, by omega⟩
          rw [Int.toNat_natCast]
          exact PC.q (dist32_c x k0 n (by omega) (by omega) hx) rfl
        simp only [go_sem, e1, e2, e6, e7, e8, e9, e11, e10]
        refine acond_i (fun hb => ?_) (fun hb => ?_)
        · rw [if_pos hb] at hs
          simp only [go_sem, e1, e2, e6, e7, e8, e9, e11, e10, wrapS (show k ≤ 4611686018427387904 by omega)]
          exact ⟨⟨k + 1, hlt3, rfl, by rw [hs], hH⟩, by simp only [natOf_int]; omega⟩
        · rw [if_neg (fun h => Bool.noConfusion (hb.symm.trans h))] at hs
          simp only [go_sem, e1, e2, e6, e7, e8, e9, e11, e10, wrapS (show k ≤ 4611686018427387904 by omega)]
          exact ⟨⟨k + 1, hlt3, rfl, by rw [hs], hH⟩, by simp only [natOf_int]; omega⟩
      have hge := geB hk (by simpa using hge)
      subst hge
      have hb := bestTo_lt x k0 S x.orders.length
      generalize bestTo x k0 S x.orders.length = bst at *
      simp only [go_sem, e1, e2, e6, e7, e8, e9, e11, e10]
      have hbst : 2 ^ bst.toNat ≤ 524288 := Nat.le_trans (Nat.pow_le_pow_right (by decide) (show _ ≤ 19 by omega)) (by decide)
      refine acond_joinL (fun ρ' H' => ρ' 1 = int (size : Nat) ∧ ρ' 2 = .rp (encInstance x) 0 ∧ ρ' 6 = .os j6 ∧ ρ' 7 = int (k0 : Nat) ∧ ρ' 9 = int (m + 1 : Nat) ∧ ρ' 8 = int (setTo x k0 (m + 1) : Nat) ∧ H' = HB) ?_ fun K hK hKe hKr => acond_i (fun hb => ?_) (fun hb => ?_)
      rotate_left
      · have g2 : bst ≥ 0 := of_decide_eq_true hb
        rw [if_pos g2] at hss
        obtain ⟨n, rfl⟩ : ∃ n : Nat, bst = (n : Nat) := ⟨bst.toNat, by omega⟩
        rw [Int.toNat_natCast] at hss hbst
        simp only [go_sem, e1, e2, e6, e7, e8, e9, e11, e10]
        refine PC.use (bit_c n (by omega)) ?_
        have w1 : IntKind.i64.wrap (((S : Nat) : Int) + ((2 ^ n : Nat) : Int)) = ((S + 2 ^ n : Nat) : Int) := by
          generalize 2 ^ n = z at *
          rw [wrap_in (by omega)]; rfl
        simp only [go_sem, e1, e2, e6, e7, e8, e9, e11, e10, w1]
        exact hK _ _ ⟨by simp only [go_sem, e1, e2, e6, e7, e8, e9, e11, e10], by simp only [go_sem, e1, e2, e6, e7, e8, e9, e11, e10], by simp only [go_sem, e1, e2, e6, e7, e8, e9, e11, e10], by simp only [go_sem, e1, e2, e6, e7, e8, e9, e11, e10], by simp only [go_sem, e1, e2, e6, e7, e8, e9, e11, e10], by simp only [go_sem]; rw [hss], hH⟩
      · have g2 : ¬ bst ≥ 0 := of_decide_eq_false hb
        rw [if_neg g2] at hss
        simp only [go_sem]
        exact hK _ _ ⟨by simp only [go_sem, e1, e2, e6, e7, e8, e9, e11, e10], by simp only [go_sem, e1, e2, e6, e7, e8, e9, e11, e10], by simp only [go_sem, e1, e2, e6, e7, e8, e9, e11, e10], by simp only [go_sem, e1, e2, e6, e7, e8, e9, e11, e10], by simp only [go_sem, e1, e2, e6, e7, e8, e9, e11, e10], by simp only [go_sem, e1, e2, e6, e7, e8, e9, e11, e10]; rw [hss], hH⟩
      rintro ρ H ⟨e1, e2, e6, e7, e9, e8, hH⟩
      simp only [go_sem, e1, e2, e6, e7, e9, e8, wrapS (show m + 1 ≤ 4611686018427387904 by omega)]
      exact ⟨⟨m + 1, by omega, rfl, rfl, hH⟩, by simp only [natOf_int]; omega⟩
    · have hge2 : ¬ m + 1 < size := fun h => by simp at hge2; omega
      have hme : m = size - 1 := by omega
      subst hme
      simp only [go_sem, e1, e2, e6, e7, e8, e9]
      refine wappE_i R6 ⟨rfl, rfl⟩ (by simp only [go_sem]) (by simp only [List.length_map, List.length_range, List.length_cons, List.length_nil]; omega) (fun j2 hj2 => ?_)
      simp only [go_sem, e1, e2, e6, e7, e8, e9, wrapS (show k ≤ 4611686018427387904 by omega)]
      refine ⟨⟨k + 1, j2, hlt, rfl, rfl, ?_⟩, by simp only [natOf_int]; omega⟩
      rw [updH_same, List.range_succ, List.map_append]
      refine congrArg (fun l => some (⟨3, 1, l⟩ : Row)) ?_
      rw [List.map_append]; rfl
  have hge := geB hk (by simpa using hge)
  subst hge
  simp only [go_sem, e1, e2, e6, e7]
  exact .tup _ _ (.cons _ _ _ _ (.row _ _ _ R6 (ConvE.refl _)) (.cons _ _ _ _ (.refl _) .nil))
end Go.Proofs.YtdlijlecpopadaaGreatDoor.Rx
