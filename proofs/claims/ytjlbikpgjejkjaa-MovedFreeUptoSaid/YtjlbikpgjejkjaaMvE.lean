/- lorryref13.Same: an instance is the same as itself. -/
import Derived.Test.YtjlbikpgjejkjaaMvC
set_option linter.unusedSimpArgs false
set_option linter.unusedVariables false
namespace Go.Proofs.Ytjlbikpgjejkjaa.Mv
open Go.Aw Go.Aw.D Go.Proofs Ty
set_option maxRecDepth 100000

theorem eqPair (d : Pair) : eqCells [0, 0] (encPair d) (encPair d) = some true := by simp [encPair, eqCells, eqCell, andO]
theorem eqPoint (d : Point) : eqCells [0, 0] (encPoint d) (encPoint d) = some true := by simp [encPoint, eqCells, eqCell, andO]
theorem eqStop (d : Stop) : eqCells [0, 0, 0, 0] (encStop d) (encStop d) = some true := by simp [encStop, eqCells, eqCell, andO]
theorem points_same (l : List Point) (hl : l.length ≤ 1048576) : PC Try.prog 84 [.sl (l.map encPoint), .sl (l.map encPoint)] (boo true) := by
  refine PC.body (c := Try.f84.body.getD .skip) (fun _ => false) mixed Try.func84 rfl (by kernel_rfl) ?_
  unfold Try.f84
  simp only [Option.getD_some]
  simp only [go_sem]
  refine acond_i (fun hb => by simp at hb) (fun _ => ?_)
  simp only [go_sem]
  refine ⟨fun ρ _ => ∃ k : Nat, k ≤ l.length ∧ ρ 0 = .sl (l.map encPoint) ∧ ρ 1 = .sl (l.map encPoint) ∧ ρ 5 = int k, fun ρ _ => l.length - natOf (ρ 5), ⟨0, Nat.zero_le _, rfl, rfl, rfl⟩, ?_⟩
  rintro ρ H ⟨k, hk, h0, h1, h5⟩
  simp only [go_sem, h0, h1, h5]
  refine acond_i (fun hlt => ?_) (fun hge => ?_)
  · have hlt := le_of_lt_b hlt
    obtain ⟨v, hv⟩ := getIn hlt
    have b1 := inB hlt
    simp only [go_sem]
    refine adraw_q (by rfl) (by kernel_rfl) ?_
    simp only [go_sem, h0, h1, h5, getD_map hv, b1, eqPoint]
    refine acond_i (fun hb => by simp at hb) (fun _ => ?_)
    simp only [go_sem, h0, h1, h5, wrapS (show k ≤ 4611686018427387904 by omega)]
    exact ⟨⟨k + 1, hlt, rfl⟩, by simp only [natOf_int]; omega⟩
  · simp only [go_sem]
    exact .refl _
theorem pairs_same (l : List Pair) (hl : l.length ≤ 1048576) : PC Try.prog 56 [.sl (l.map encPair), .sl (l.map encPair)] (boo true) := by
  refine PC.body (c := Try.f56.body.getD .skip) (fun _ => false) mixed Try.func56 rfl (by kernel_rfl) ?_
  unfold Try.f56
  simp only [Option.getD_some]
  simp only [go_sem]
  refine acond_i (fun hb => by simp at hb) (fun _ => ?_)
  simp only [go_sem]
  refine ⟨fun ρ _ => ∃ k : Nat, k ≤ l.length ∧ ρ 0 = .sl (l.map encPair) ∧ ρ 1 = .sl (l.map encPair) ∧ ρ 5 = int k, fun ρ _ => l.length - natOf (ρ 5), ⟨0, Nat.zero_le _, rfl, rfl, rfl⟩, ?_⟩
  rintro ρ H ⟨k, hk, h0, h1, h5⟩
  simp only [go_sem, h0, h1, h5]
  refine acond_i (fun hlt => ?_) (fun hge => ?_)
  · have hlt := le_of_lt_b hlt
    obtain ⟨v, hv⟩ := getIn hlt
    have b1 := inB hlt
    simp only [go_sem]
    refine adraw_q (by rfl) (by kernel_rfl) ?_
    simp only [go_sem, h0, h1, h5, getD_map hv, b1, eqPair]
    refine acond_i (fun hb => by simp at hb) (fun _ => ?_)
    simp only [go_sem, h0, h1, h5, wrapS (show k ≤ 4611686018427387904 by omega)]
    exact ⟨⟨k + 1, hlt, rfl⟩, by simp only [natOf_int]; omega⟩
  · simp only [go_sem]
    exact .refl _
theorem ints_same (l : List Int) (hl : l.length ≤ 1048576) : PC Try.prog 85 [.sl (l.map encInt), .sl (l.map encInt)] (boo true) := by
  refine PC.body (c := Try.f85.body.getD .skip) (fun _ => false) mixed Try.func85 rfl (by kernel_rfl) ?_
  unfold Try.f85
  simp only [Option.getD_some]
  simp only [go_sem]
  refine acond_i (fun hb => by simp at hb) (fun _ => ?_)
  simp only [go_sem]
  refine ⟨fun ρ _ => ∃ k : Nat, k ≤ l.length ∧ ρ 0 = .sl (l.map encInt) ∧ ρ 1 = .sl (l.map encInt) ∧ ρ 5 = int k, fun ρ _ => l.length - natOf (ρ 5), ⟨0, Nat.zero_le _, rfl, rfl, rfl⟩, ?_⟩
  rintro ρ H ⟨k, hk, h0, h1, h5⟩
  simp only [go_sem, h0, h1, h5]
  refine acond_i (fun hlt => ?_) (fun hge => ?_)
  · have hlt := le_of_lt_b hlt
    obtain ⟨v, hv⟩ := getIn hlt
    have b1 := inB hlt
    simp only [go_sem]
    refine adraw_q (by rfl) (by kernel_rfl) ?_
    simp only [go_sem, h0, h1, h5, getD_map hv, b1]
    refine acond_i (fun hb => by simp at hb) (fun _ => ?_)
    simp only [go_sem, h0, h1, h5, wrapS (show k ≤ 4611686018427387904 by omega)]
    exact ⟨⟨k + 1, hlt, rfl⟩, by simp only [natOf_int]; omega⟩
  · simp only [go_sem]
    exact .refl _
theorem order_same (o : Order) (ho : o.load.length ≤ 1048576) : PC Try.prog 55 [.agg (encOrder o), .agg (encOrder o)] (boo true) := by
  refine PC.body (c := Try.f55.body.getD .skip) (fun _ => false) mixed Try.func55 rfl (by kernel_rfl) ?_
  unfold Try.f55
  simp only [Option.getD_some]
  simp only [go_sem]
  refine ⟨_, fun _ => (ints_same o.load ho).q rfl, ?_⟩
  simp only [go_sem, eqStop]
  refine convB ?_
  simp
theorem type_same (t : VType) (ht : t.cap.length ≤ 1048576) : PC Try.prog 54 [.agg (encVType t), .agg (encVType t)] (boo true) := by
  refine PC.body (c := Try.f54.body.getD .skip) (fun _ => false) mixed Try.func54 rfl (by kernel_rfl) ?_
  unfold Try.f54
  simp only [Option.getD_some]
  simp only [go_sem]
  refine acond_i (fun hb => by simp at hb) (fun _ => ?_)
  simp only [go_sem]
  refine ⟨fun ρ _ => ∃ k : Nat, k ≤ t.cap.length ∧ ρ 2 = .rp (encVType t) 0 ∧ ρ 3 = .rp (encVType t) 0 ∧ ρ 5 = int k, fun ρ _ => t.cap.length - natOf (ρ 5), ⟨0, Nat.zero_le _, rfl, rfl, rfl⟩, ?_⟩
  rintro ρ H ⟨k, hk, h2, h3, h5⟩
  simp only [go_sem, h2, h3, h5]
  refine acond_i (fun hlt => ?_) (fun hge => ?_)
  · have hlt := le_of_lt_b hlt
    obtain ⟨v, hv⟩ := getIn hlt
    have b1 := inB hlt
    simp only [go_sem]
    refine adraw_q (by rfl) (by kernel_rfl) ?_
    simp only [go_sem, h2, h3, h5, getD_map hv, b1]
    refine acond_i (fun hb => by simp at hb) (fun _ => ?_)
    simp only [go_sem, h2, h3, h5, wrapS (show k ≤ 4611686018427387904 by omega)]
    exact ⟨⟨k + 1, hlt, rfl⟩, by simp only [natOf_int]; omega⟩
  · simp only [go_sem, h2, h3]
    refine convB ?_
    simp
theorem net_same (n : Network) (hp : n.places.length ≤ 1048576) (ha : n.arcs.length ≤ 1048576) (hq : ∀ a ∈ n.arcs, a.travel.length ≤ 1048576 ∧ a.slow.length ≤ 1048576) : PC Try.prog 53 [.agg (encNetwork n), .agg (encNetwork n)] (boo true) := by
  refine PC.body (c := Try.f53.body.getD .skip) (fun _ => false) mixed Try.func53 rfl (by kernel_rfl) ?_
  unfold Try.f53
  simp only [Option.getD_some]
  simp only [go_sem]
  refine acond_i (fun hb => by simp at hb) (fun _ => ?_)
  simp only [go_sem]
  refine ⟨fun ρ _ => ∃ k : Nat, k ≤ n.places.length ∧ ρ 2 = .rp (encNetwork n) 0 ∧ ρ 3 = .rp (encNetwork n) 0 ∧ ρ 5 = int k, fun ρ _ => n.places.length - natOf (ρ 5), ⟨0, Nat.zero_le _, rfl, rfl, rfl⟩, ?_⟩
  rintro ρ H ⟨k, hk, h2, h3, h5⟩
  simp only [go_sem, h2, h3, h5]
  refine acond_i (fun hlt => ?_) (fun hge => ?_)
  · have hlt := le_of_lt_b hlt
    obtain ⟨v, hv⟩ := getIn hlt
    have b1 := inB hlt
    simp only [go_sem]
    refine adraw_q (by rfl) (by kernel_rfl) ?_
    simp only [go_sem, h2, h3, h5, getD_map hv, b1]
    refine acond_i (fun hb => by simp at hb) (fun _ => ?_)
    simp only [go_sem, h2, h3, h5, wrapS (show k ≤ 4611686018427387904 by omega)]
    exact ⟨⟨k + 1, hlt, rfl⟩, by simp only [natOf_int]; omega⟩
  · simp only [go_sem, h2, h3]
    refine ⟨fun ρ _ => ∃ k : Nat, k ≤ n.arcs.length ∧ ρ 2 = .rp (encNetwork n) 0 ∧ ρ 3 = .rp (encNetwork n) 0 ∧ ρ 6 = int k, fun ρ _ => n.arcs.length - natOf (ρ 6), ⟨0, Nat.zero_le _, by simp only [go_sem, h2], by simp only [go_sem, h3], by simp only [go_sem]; rfl⟩, ?_⟩
    clear h2 h3 h5
    rintro ρ H ⟨k, hk, h2, h3, h6⟩
    simp only [go_sem, h2, h3, h6]
    refine acond_i (fun hlt => ?_) (fun hge => ?_)
    · have hlt := le_of_lt_b hlt
      obtain ⟨a, hak⟩ := getIn hlt
      have b1 := inB hlt
      have hqa := hq a (List.mem_of_getElem? hak)
      simp only [go_sem, h2, h3, h6, getD_map hak, b1]
      refine anew_i fun i1 hi1 => ?_
      simp only [go_sem, h2, h3, h6, getD_map hak, b1]
      refine wputE_n (updH_same _ _ _) (by simp [encArc_len]) ?_
      simp only [go_sem, h2, h3, h6, getD_map hak, b1]
      refine anew_i fun i2 hi2 => ?_
      have hne : i1 ≠ i2 := ne_new (updH_same _ _ _) hi2
      simp only [go_sem, h2, h3, h6, getD_map hak, b1]
      refine wputE_n (updH_same _ _ _) (by simp [encArc_len]) ?_
      generalize hG : updH _ i2 _ = HG
      have B2 : HG i2 = some ⟨132, 6, [encArc a]⟩ := by rw [← hG, updH_same]; rfl
      have B1 : HG i1 = some ⟨132, 6, [encArc a]⟩ := by rw [← hG]; simp only [updH_ne _ _ _ _ hne, updH_same]
      clear hG hi1 hi2
      simp only [go_sem, h2, h3, h6, B1, B2]
      refine ⟨_, fun _ => (points_same a.travel hqa.1).q rfl, ?_⟩
      simp only [go_sem, h2, h3, h6, B1, B2]
      refine ⟨_, fun _ => (points_same a.slow hqa.2).q rfl, ?_⟩
      simp only [go_sem, h2, h3, h6]
      refine acond_i (fun hb => by simp at hb) (fun _ => ?_)
      simp only [go_sem, h2, h3, h6, wrapS (show k ≤ 4611686018427387904 by omega)]
      exact ⟨⟨k + 1, hlt, rfl⟩, by simp only [natOf_int]; omega⟩
    · simp only [go_sem]
      exact .refl _
/-- lists of an instance that Same goes through -/
structure SameB (x : Instance) : Prop where
  places : x.net.places.length ≤ 1048576
  arcs : x.net.arcs.length ≤ 1048576
  arc : ∀ a ∈ x.net.arcs, a.travel.length ≤ 1048576 ∧ a.slow.length ≤ 1048576
  types : x.types.length ≤ 1048576
  cap : ∀ t ∈ x.types, t.cap.length ≤ 1048576
  orders : x.orders.length ≤ 1048576
  load : ∀ o ∈ x.orders, o.load.length ≤ 1048576
  apart : x.apart.length ≤ 1048576
  before : x.before.length ≤ 1048576
theorem Same_c (x : Instance) (hx : SameB x) : PC Try.prog 23 [.agg (encInstance x), .agg (encInstance x)] (boo true) := by
  have ht := hx.types
  have ho := hx.orders
  refine PC.body (c := Try.f23.body.getD .skip) (fun _ => false) mixed Try.func23 rfl (by kernel_rfl) ?_
  unfold Try.f23
  simp only [Option.getD_some]
  simp only [go_sem]
  refine PC.use (net_same x.net hx.places hx.arcs hx.arc) ?_
  simp only [go_sem]
  refine acond_i (fun hb => by simp at hb) (fun _ => ?_)
  simp only [go_sem]
  refine ⟨fun ρ _ => ∃ k : Nat, k ≤ x.types.length ∧ ρ 2 = .rp (encInstance x) 0 ∧ ρ 3 = .rp (encInstance x) 0 ∧ ρ 5 = int k, fun ρ _ => x.types.length - natOf (ρ 5), ⟨0, Nat.zero_le _, rfl, rfl, rfl⟩, ?_⟩
  rintro ρ H ⟨k, hk, h2, h3, h5⟩
  simp only [go_sem, h2, h3, h5]
  refine acond_i (fun hlt => ?_) (fun hge => ?_)
  · have hlt := le_of_lt_b hlt
    obtain ⟨t, htk⟩ := getIn hlt
    have b1 := inB hlt
    simp only [go_sem]
    refine adraw_q (by rfl) (by kernel_rfl) ?_
    simp only [go_sem, h2, h3, h5, getD_map htk, b1]
    refine ⟨_, (type_same t (hx.cap t (List.mem_of_getElem? htk))).q rfl, ?_⟩
    simp only [go_sem, h2, h3, h5]
    refine acond_i (fun hb => by simp at hb) (fun _ => ?_)
    simp only [go_sem, h2, h3, h5, wrapS (show k ≤ 4611686018427387904 by omega)]
    exact ⟨⟨k + 1, hlt, rfl⟩, by simp only [natOf_int]; omega⟩
  · simp only [go_sem, h2, h3]
    refine ⟨fun ρ _ => ∃ k : Nat, k ≤ x.orders.length ∧ ρ 2 = .rp (encInstance x) 0 ∧ ρ 3 = .rp (encInstance x) 0 ∧ ρ 6 = int k, fun ρ _ => x.orders.length - natOf (ρ 6), ⟨0, Nat.zero_le _, by simp only [go_sem, h2], by simp only [go_sem, h3], by simp only [go_sem]; rfl⟩, ?_⟩
    clear h2 h3 h5
    rintro ρ H ⟨k, hk, h2, h3, h6⟩
    simp only [go_sem, h2, h3, h6]
    refine acond_i (fun hlt => ?_) (fun hge => ?_)
    · have hlt := le_of_lt_b hlt
      obtain ⟨o, hok⟩ := getIn hlt
      have b1 := inB hlt
      simp only [go_sem]
      refine adraw_q (by rfl) (by kernel_rfl) ?_
      simp only [go_sem, h2, h3, h6, getD_map hok, b1]
      refine ⟨_, (order_same o (hx.load o (List.mem_of_getElem? hok))).q rfl, ?_⟩
      simp only [go_sem, h2, h3, h6]
      refine acond_i (fun hb => by simp at hb) (fun _ => ?_)
      simp only [go_sem, h2, h3, h6, wrapS (show k ≤ 4611686018427387904 by omega)]
      exact ⟨⟨k + 1, hlt, rfl⟩, by simp only [natOf_int]; omega⟩
    · simp only [go_sem, h2, h3]
      refine PC.use (pairs_same x.apart hx.apart) ?_
      simp only [go_sem, h2, h3]
      refine ⟨_, (pairs_same x.before hx.before).q rfl, ?_⟩
      simp only [go_sem]
      exact .refl _
end Go.Proofs.Ytjlbikpgjejkjaa.Mv
