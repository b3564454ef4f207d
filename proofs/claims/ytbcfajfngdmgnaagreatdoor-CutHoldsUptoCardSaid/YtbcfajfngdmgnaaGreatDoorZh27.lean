/- Texts joined by a program: SqJ. -/
import Derived.Test.YtbcfajfngdmgnaaGreatDoorZh26

set_option linter.unusedSimpArgs false
set_option linter.unusedVariables false
namespace Go.Proofs.YtbcfajfngdmgnaaGreatDoor.Sq
open Go.Aw Go.Aw.D Go.Proofs Ty
open Mv (convI convB convA NC.pc take_allP)
set_option maxRecDepth 100000
def slowS (t : Int) (s : Int) (p : Point) : Int := if decide (p.t ≤ t) = true then W (s + p.a) else s
def arrive09 (a : Arc) (t : Int) : Int := a.slow.foldl (slowS t) (arrive07 a.travel t)
structure ArcB (a : Arc) : Prop where
  travel : a.travel.length ≤ 1048576
  slow : a.slow.length ≤ 1048576
  time : ∀ p ∈ a.travel, i64B p.t
theorem arrive09_c (a : Arc) (t : Int) (ha : ArcB a) : PC Tryz.prog 336 [.agg (encArc a), int t] (int (arrive09 a t)) := by
  have hsl := ha.slow
  refine PC.body (c := Tryz.f336.body.getD .skip) (fun _ => false) mixed Tryz.func336 rfl (by kernel_rfl) ?_
  unfold Tryz.f336
  simp only [Option.getD_some]
  simp only [go_sem]
  refine PC.use (arrive07_c a.travel t ha.travel ha.time) ?_
  simp only [go_sem]
  refine ⟨fun ρ _ => ∃ k : Nat, k ≤ a.slow.length ∧ ρ 1 = int t ∧ ρ 2 = .rp (encArc a) 0 ∧ ρ 5 = int ((a.slow.take k).foldl (slowS t) (arrive07 a.travel t)) ∧ ρ 6 = int k, fun ρ _ => a.slow.length - natOf (ρ 6), ⟨0, Nat.zero_le _, rfl, rfl, rfl, rfl⟩, ?_⟩
  rintro ρ H ⟨k, hk, h1, h2, h5, h6⟩
  simp only [go_sem, h1, h2, h5, h6]
  refine acond_i (fun hlt => ?_) (fun hge => ?_)
  · have hlt := le_of_lt_b hlt
    obtain ⟨p, hp⟩ := getIn hlt
    have b1 := inB hlt
    have hs : (a.slow.take (k + 1)).foldl (slowS t) (arrive07 a.travel t) = slowS t ((a.slow.take k).foldl (slowS t) (arrive07 a.travel t)) p := by rw [take_succ hp, List.foldl_append]; rfl
    simp only [go_sem, h1, h2, h5, h6, getD_map hp, b1]
    refine acond_joinL (fun ρ' _ => ρ' 1 = int t ∧ ρ' 2 = .rp (encArc a) 0 ∧ ρ' 5 = int ((a.slow.take (k + 1)).foldl (slowS t) (arrive07 a.travel t)) ∧ ρ' 6 = int k) ?_ fun K hK _ _ => acond_i (fun hb => ?_) (fun hb => ?_)
    · clear h1 h2 h5 h6
      rintro ρ H ⟨h1, h2, h5, h6⟩
      simp only [go_sem, h1, h2, h5, h6, wrapS (show k ≤ 4611686018427387904 by omega)]
      exact ⟨⟨k + 1, hlt, rfl, rfl⟩, by simp only [natOf_int]; omega⟩
    · simp only [go_sem, h1, h2, h5, h6, getD_map hp, b1]
      refine hK _ _ ⟨by simp only [go_sem, h1], by simp only [go_sem, h2], ?_, by simp only [go_sem, h6]⟩
      simp only [go_sem]
      rw [hs, slowS, if_pos hb]; rfl
    · simp only [go_sem]
      refine hK _ _ ⟨by simp only [go_sem, h1], by simp only [go_sem, h2], ?_, by simp only [go_sem, h6]⟩
      simp only [go_sem, h5]
      rw [hs, slowS, if_neg (by rw [hb]; simp)]
  · have hge := eq_of_ge_b hk hge
    subst hge
    simp only [go_sem, h5]
    rw [List.take_length]
    exact .refl _
structure NetB (n : Network) : Prop where
  arcs : n.arcs.length ≤ 1048576
  arc : ∀ a ∈ n.arcs, ArcB a
def go09 (n : Network) (p f t time : Int) : Int × Int × Int :=
  if (!place09 n f || !place09 n t) = true then (0, 0, 11) else if (f == t) = true then (time, 0, 0)
  else match find09 n p f t with | some a => (arrive09 a time, a.miles, 0) | none => (0, 0, 12)
theorem go09_c (n : Network) (p f t time : Int) (hn : NetB n) : PC Tryz.prog 333 [.agg (encNetwork n), int p, int f, int t, int time] (.tup [int (go09 n p f t time).1, int (go09 n p f t time).2.1, int (go09 n p f t time).2.2]) := by
  refine PC.body (c := Tryz.f333.body.getD .skip) (fun _ => false) mixed Tryz.func333 rfl (by kernel_rfl) ?_
  unfold Tryz.f333
  simp only [Option.getD_some]
  simp only [go_sem]
  refine PC.use (place09_c n f) ?_
  simp only [go_sem]
  refine ⟨_, fun _ => (place09_c n t).q rfl, ?_⟩
  simp only [go_sem]
  refine acond_i (fun h1 => ?_) (fun h1 => ?_)
  · simp only [go_sem]
    have : go09 n p f t time = (0, 0, 11) := by unfold go09; rw [if_pos h1]
    rw [this]; exact .refl _
  simp only [go_sem]
  refine acond_i (fun h2 => ?_) (fun h2 => ?_)
  · simp only [go_sem]
    have : go09 n p f t time = (time, 0, 0) := by unfold go09; rw [if_neg (by rw [h1]; simp), if_pos h2]
    rw [this]; exact .refl _
  have hg : go09 n p f t time = match find09 n p f t with | some a => (arrive09 a time, a.miles, 0) | none => (0, 0, 12) := by unfold go09; rw [if_neg (by rw [h1]; simp), if_neg (by rw [h2]; simp)]
  rw [hg]
  simp only [go_sem]
  refine PC.use (find09_c n p f t hn.arcs) ?_
  simp only [go_sem]
  refine anew_i fun j hj => ?_
  simp only [go_sem]
  refine wputE_n (updH_same _ _ _) (by simp [encArc_len]) ?_
  simp only [go_sem, encArc_len]
  cases hf : find09 n p f t with
  | none =>
    refine acond_i (fun _ => ?_) (fun hb => by simp at hb)
    simp only [go_sem]
    exact .refl _
  | some a =>
    have ha : ArcB a := hn.arc a (List.mem_of_find?_eq_some hf)
    refine acond_i (fun hb => by simp at hb) (fun _ => ?_)
    simp only [go_sem, Option.getD_some, encArc_len]
    refine adraw_q (by rfl) (by kernel_rfl) ?_
    simp only [go_sem, encArc_len]
    refine ⟨_, (arrive09_c a time ha).q rfl, ?_⟩
    simp only [go_sem, encArc_len]
    exact .refl _
theorem way18_c (x : Instance) (p f t time : Int) (hn : NetB x.net) : PC Tryz.prog 329 [.agg (encInstance x), int p, int f, int t, int time] (.tup [int (go09 x.net p f t time).1, int (go09 x.net p f t time).2.1, boo ((go09 x.net p f t time).2.2 == 0)]) := by
  refine PC.body (c := Tryz.f329.body.getD .skip) (fun _ => false) mixed Tryz.func329 rfl (by kernel_rfl) ?_
  unfold Tryz.f329
  simp only [Option.getD_some]
  simp only [go_sem]
  refine PC.use (go09_c x.net p f t time hn) ?_
  simp only [go_sem]
  exact .refl _
structure Score where
  cost : Int
  moved : Int
  other : Int
  work : Int
def encScore (s : Score) : List AV := [int s.cost, int s.moved, int s.other, int s.work]
def begins20 (l : List Visit) (n : Nat) : Bool := (List.range n).all fun i => !(ordAt l i == ordAt l n)
theorem begins20_c (l : List Visit) (n : Nat) (hl : l.length ≤ 1048576) (hn : n < l.length) : PC Tryz.prog 275 [.sl (l.map encVisit), int n] (boo (begins20 l n)) := by
  obtain ⟨u, hu⟩ := getIn hn
  have b2 := inB hn
  refine PC.body (c := Tryz.f275.body.getD .skip) (fun _ => false) mixed Tryz.func275 rfl (by kernel_rfl) ?_
  unfold Tryz.f275
  simp only [Option.getD_some]
  simp only [go_sem]
  refine ⟨fun ρ _ => ∃ k : Nat, k ≤ n ∧ ρ 0 = .sl (l.map encVisit) ∧ ρ 1 = int n ∧ ρ 5 = int k ∧ ∀ i ∈ (List.range n).take k, (ordAt l i == ordAt l n) = false, fun ρ _ => n - natOf (ρ 5), ⟨0, Nat.zero_le _, rfl, rfl, rfl, by simp⟩, ?_⟩
  rintro ρ H ⟨k, hk, h0, h1, h5, hz⟩
  simp only [go_sem, h0, h1, h5]
  refine acond_i (fun hlt => ?_) (fun hge => ?_)
  · have hlt : k < n := by simpa using hlt
    obtain ⟨v, hv⟩ := getIn (show k < l.length by omega)
    have b1 := inB (show k < l.length by omega)
    have e : (ordAt l k == ordAt l n) = (v.order == u.order) := by rw [ordAt_get hv, ordAt_get hu]
    simp only [go_sem]
    refine adraw_q (by rfl) (by kernel_rfl) ?_
    simp only [go_sem, h0, h1, h5, getD_map hv, getD_map hu, b1, b2]
    rw [← e]
    refine acond_i (fun hb => ?_) (fun hb => ?_)
    · simp only [go_sem]
      refine convB ?_
      symm
      unfold begins20
      rw [List.all_eq_false]
      exact ⟨k, List.mem_range.2 hlt, by rw [hb]; simp⟩
    · simp only [go_sem, h0, h1, h5, wrapS (show k ≤ 4611686018427387904 by omega)]
      exact ⟨⟨k + 1, hlt, rfl, take_allP (p := fun i => (ordAt l i == ordAt l n) = false) (range_get hlt) hb hz⟩, by simp only [natOf_int]; omega⟩
  · have hge : k = n := by simp at hge; omega
    subst hge
    simp only [go_sem]
    refine convB ?_
    symm
    unfold begins20
    rw [List.all_eq_true]
    intro i hi
    rw [hz i (by rw [List.take_of_length_le (by simp)]; exact hi)]; rfl
def ablePow (c s : Int) (i : Nat) : Bool := (IntKind.i64.wrap (Int.tdiv s (2 ^ i : Nat))).tmod 2 == 1 && (IntKind.i64.wrap (Int.tdiv c (2 ^ i : Nat))).tmod 2 == 0
def able10 (c s : Int) : Bool := !(decide (c < 0) || decide (s < 0)) && (List.range 63).all fun i => !ablePow c s i
theorem able10_c (t : VType) (s : Int) : PC Tryz.prog 221 [.agg (encVType t), int s] (boo (able10 t.skills s)) := by
  refine PC.body (c := Tryz.f221.body.getD .skip) (fun _ => false) mixed Tryz.func221 rfl (by kernel_rfl) ?_
  unfold Tryz.f221
  simp only [Option.getD_some]
  simp only [go_sem]
  refine acond_i (fun h1 => ?_) (fun h1 => ?_)
  · simp only [go_sem]
    exact convB (by unfold able10; rw [h1]; rfl)
  have ha : able10 t.skills s = (List.range 63).all fun i => !ablePow t.skills s i := by unfold able10; rw [h1]; rfl
  rw [ha]
  simp only [go_sem]
  refine ⟨fun ρ _ => ∃ k : Nat, k ≤ 63 ∧ ρ 1 = int s ∧ ρ 2 = .rp (encVType t) 0 ∧ ρ 5 = int (IntKind.i64.wrap (2 ^ k : Nat)) ∧ ∀ i ∈ (List.range 63).take k, ablePow t.skills s i = false, fun ρ _ => if natOf (ρ 5) = 0 then 0 else 9223372036854775809 - natOf (ρ 5), ⟨0, Nat.zero_le _, rfl, rfl, rfl, by simp⟩, ?_⟩
  rintro ρ H ⟨k, hk, h1, h2, h5, hz⟩
  by_cases hk63 : k = 63
  · subst hk63
    have hw : IntKind.i64.wrap ((2 ^ 63 : Nat) : Int) = -9223372036854775808 := by decide +kernel
    rw [hw] at h5
    simp only [go_sem, h1, h2, h5]
    refine acond_i (fun hb => by simp at hb) (fun _ => ?_)
    simp only [go_sem]
    refine convB ?_
    symm
    rw [List.all_eq_true]
    intro i hi
    rw [hz i (by rw [List.take_of_length_le (by simp)]; exact hi)]; rfl
  · have hlt : k < 63 := by omega
    have hp : 2 ^ k ≤ 2 ^ 62 := Nat.pow_le_pow_right (by decide) (by omega)
    have hp0 : 0 < 2 ^ k := Nat.two_pow_pos k
    have hw : IntKind.i64.wrap ((2 ^ k : Nat) : Int) = ((2 ^ k : Nat) : Int) := wrap_in (by omega)
    have hw2 : ((2 ^ k : Nat) : Int) * 2 = ((2 ^ (k + 1) : Nat) : Int) := by rw [Nat.pow_succ]; push_cast; rfl
    rw [hw] at h5
    simp only [go_sem, h1, h2, h5]
    have hpos : decide (((2 ^ k : Nat) : Int) > 0) = true := decide_eq_true (by exact_mod_cast hp0)
    have hnz : ¬ (((2 ^ k : Nat) : Int) = 0) := fun h => absurd (by exact_mod_cast h : 2 ^ k = 0) (by omega)
    refine acond_i (fun _ => ?_) (fun hb => by rw [hpos] at hb; cases hb)
    simp only [go_sem, h1, h2, h5]
    refine ⟨hnz, by decide, fun _ => hnz, fun _ => by decide, ?_⟩
    refine acond_i (fun hb => ?_) (fun hb => ?_)
    · simp only [go_sem]
      refine convB ?_
      symm
      rw [List.all_eq_false]
      exact ⟨k, List.mem_range.2 hlt, by rw [show ablePow t.skills s k = true from hb]; simp⟩
    · simp only [go_sem, h1, h2, h5, hw2]
      refine ⟨⟨k + 1, by omega, rfl, take_allP (p := fun i => ablePow t.skills s i = false) (range_get hlt) hb hz⟩, ?_⟩
      have hb1 : natOf (int ((2 ^ k : Nat) : Int)) = 2 ^ k := natOf_int.trans (Int.toNat_natCast _)
      have hold : (if natOf (int ((2 ^ k : Nat) : Int)) = 0 then 0 else 9223372036854775809 - natOf (int ((2 ^ k : Nat) : Int))) = 9223372036854775809 - 2 ^ k := by rw [hb1, if_neg (by omega)]
      rw [hold]
      by_cases e : k = 62
      · subst e
        have : natOf (AV.v (Value.int IntKind.i64 (IntKind.i64.wrap ((2 ^ (62 + 1) : Nat) : Int)))) = 0 := by decide +kernel
        rw [this]; simp
      · have hp1 : 2 ^ (k + 1) ≤ 2 ^ 62 := Nat.pow_le_pow_right (by decide) (by omega)
        have hw3 : IntKind.i64.wrap ((2 ^ (k + 1) : Nat) : Int) = ((2 ^ (k + 1) : Nat) : Int) := wrap_in (by omega)
        have hb2 : natOf (int ((2 ^ (k + 1) : Nat) : Int)) = 2 ^ (k + 1) := natOf_int.trans (Int.toNat_natCast _)
        rw [hw3, hb2]
        rw [if_neg (by have := Nat.two_pow_pos (k + 1); omega), Nat.pow_succ]
        rw [Nat.pow_succ] at hp1
        omega
def zeroScore : Score := ⟨0, 0, 0, 0⟩
def zeroStop : Stop := ⟨0, 0, 0, 0⟩
def stopO (o : Order) (v : Visit) : Stop := if v.drop = true then o.drop else o.pick
def stop18 (x : Instance) (v : Visit) : Stop × Bool := if badNo v.order x.orders.length = true then (zeroStop, false) else
  match x.orders[v.order.toNat]? with
  | some o => (stopO o v, decide ((stopO o v).place ≥ 0))
  | none => (zeroStop, false)
theorem stop18_c (x : Instance) (v : Visit) : PC Tryz.prog 299 [.agg (encInstance x), .agg (encVisit v)] (.tup [.agg (encStop (stop18 x v).1), boo (stop18 x v).2]) := by
  refine PC.body (c := Tryz.f299.body.getD .skip) (fun _ => false) mixed Tryz.func299 rfl (by kernel_rfl) ?_
  unfold Tryz.f299
  simp only [Option.getD_some]
  simp only [go_sem]
  refine anew_i fun j hj => ?_
  have R := updH_same noRows j (some (⟨94, 4, [[int 0, int 0, int 0, int 0]]⟩ : Row))
  generalize updH noRows j _ = H0 at R ⊢
  clear hj
  simp only [go_sem]
  refine acond_i (fun h1 => ?_) (fun h1 => ?_)
  · have e : stop18 x v = (zeroStop, false) := if_pos h1
    rw [e]
    simp only [go_sem]
    refine wputE_n R (by simp) ?_
    simp only [go_sem]
    exact .refl _
  have hin : 0 ≤ v.order ∧ v.order < (x.orders.length : Int) := by
    simp only [Bool.or_eq_false_iff, decide_eq_false_iff_not] at h1; omega
  obtain ⟨o, ho⟩ := getIn (show v.order.toNat < x.orders.length by omega)
  have e : stop18 x v = (stopO o v, decide ((stopO o v).place ≥ 0)) := by unfold stop18; rw [if_neg (by rw [show badNo v.order x.orders.length = false from h1]; simp), ho]
  rw [e]
  simp only [go_sem, getD_map ho, hin]
  refine anew_i fun i hi => ?_
  have nji : j ≠ i := ne_new R hi
  simp only [go_sem]
  refine wputE_n (updH_same _ _ _) (by simp [encStop_len]) ?_
  generalize hG : updH (updH H0 i _) i _ = H1
  have R1 : H1 i = some ⟨94, 4, [encStop o.pick]⟩ := by rw [← hG, updH_same]; rfl
  have R : H1 j = some ⟨94, 4, [[int 0, int 0, int 0, int 0]]⟩ := by rw [← hG, updH_ne _ _ _ _ nji, updH_ne _ _ _ _ nji]; exact R
  clear hG hi
  simp only [go_sem]
  refine acond_join (fun ρ' H' => ρ' 4 = .op j 0 0 ∧ ρ' 6 = .op i 0 0 ∧ H' j = some ⟨94, 4, [[int 0, int 0, int 0, int 0]]⟩ ∧ H' i = some ⟨94, 4, [encStop (stopO o v)]⟩) ?_ fun K hK => acond_i (fun hb => ?_) (fun hb => ?_)
  · clear R R1
    rintro ρ H ⟨h4, h6, R, R1⟩
    simp only [go_sem]
    refine adraw_p [i] [(0, true), (1, true), (2, true), (3, true), (4, false), (5, false)] (by simp [R1]) (by kernel_rfl) fun Hp Hr hp hr _ _ => ?_
    have Rp : Hp i = some ⟨94, 4, [encStop (stopO o v)]⟩ := by rw [hp i (by simp)]; exact R1
    have Rr : Hr j = some ⟨94, 4, [[int 0, int 0, int 0, int 0]]⟩ := by rw [hr j (by simpa using nji)]; exact R
    simp only [go_sem, h4, h6, Rp]
    refine wputE_n Rr (by simp [encStop_len]) ?_
    simp only [go_sem]
    refine pinEnd_i fun _ Hm _ hm => ?_
    have Rm : Hm j = some ⟨94, 4, [encStop (stopO o v)]⟩ := by rw [hm j (by simpa using nji), updH_same]
    simp only [go_sem, h4, Rm]
    exact .refl _
  · simp only [go_sem, getD_map ho, hin]
    refine wputE_n R1 (by simp [encStop_len]) ?_
    simp only [go_sem]
    refine hK _ _ ⟨by simp only [go_sem], by simp only [go_sem], by rw [updH_ne _ _ _ _ nji]; exact R, ?_⟩
    rw [updH_same, stopO, if_pos hb]; rfl
  · simp only [go_sem]
    refine hK _ _ ⟨by simp only [go_sem], by simp only [go_sem], R, ?_⟩
    rw [stopO, if_neg (by rw [hb]; simp)]; exact R1
def possible18 (x : Instance) (r : Route) : Bool :=
  !(badNo r.type x.types.length || decide (r.start < 0) || decide (r.start > 4096) || decide ((r.visits.length : Int) > 20)) && r.visits.all fun v => (stop18 x v).2
theorem possible18_c (x : Instance) (r : Route) (hr : r.visits.length ≤ 1048576) : PC Tryz.prog 272 [.agg (encInstance x), .agg (encRoute r)] (boo (possible18 x r)) := by
  refine PC.body (c := Tryz.f272.body.getD .skip) (fun _ => false) mixed Tryz.func272 rfl (by kernel_rfl) ?_
  unfold Tryz.f272
  simp only [Option.getD_some]
  simp only [go_sem]
  refine acond_i (fun h1 => ?_) (fun h1 => ?_)
  · simp only [go_sem]
    refine convB ?_
    unfold possible18
    rw [show (badNo r.type x.types.length || decide (r.start < 0) || decide (r.start > 4096) || decide ((r.visits.length : Int) > 20)) = true from h1]; rfl
  have ha : possible18 x r = r.visits.all fun v => (stop18 x v).2 := by unfold possible18; rw [show (badNo r.type x.types.length || decide (r.start < 0) || decide (r.start > 4096) || decide ((r.visits.length : Int) > 20)) = false from h1]; rfl
  rw [ha]
  simp only [go_sem]
  refine ⟨fun ρ _ => ∃ k : Nat, k ≤ r.visits.length ∧ ρ 2 = .rp (encInstance x) 0 ∧ ρ 3 = .rp (encRoute r) 0 ∧ ρ 5 = int k ∧ ∀ v ∈ r.visits.take k, (stop18 x v).2 = true, fun ρ _ => r.visits.length - natOf (ρ 5), ⟨0, Nat.zero_le _, rfl, rfl, rfl, by simp⟩, ?_⟩
  rintro ρ H ⟨k, hk, h2, h3, h5, hz⟩
  simp only [go_sem, h2, h3, h5]
  refine acond_i (fun hlt => ?_) (fun hge => ?_)
  · have hlt := le_of_lt_b hlt
    obtain ⟨v, hv⟩ := getIn hlt
    have b1 := inB hlt
    simp only [go_sem]
    refine adraw_m [(0, true), (1, true), (2, true), (3, true), (4, true), (5, true), (6, true), (7, true), (8, true), (9, true), (10, false), (11, false), (12, false)] (by kernel_rfl) ?_
    simp only [go_sem, h2, h3, h5, getD_map hv, b1, encVisit_len]
    refine ⟨_, (stop18_c x v).q rfl, ?_⟩
    simp only [go_sem]
    refine anew_i fun j hj => ?_
    simp only [go_sem]
    refine wputE_n (updH_same _ _ _) (by simp [encStop_len]) ?_
    simp only [go_sem]
    refine acond_i (fun hb => ?_) (fun hb => ?_)
    · simp only [go_sem]
      refine convB ?_
      symm
      rw [List.all_eq_false]
      exact ⟨v, List.mem_of_getElem? hv, by simpa using hb⟩
    · simp only [go_sem, h2, h3, h5, wrapS (show k ≤ 4611686018427387904 by omega)]
      exact ⟨⟨k + 1, hlt, rfl, take_allP (p := fun v => (stop18 x v).2 = true) hv (by simpa using hb) hz⟩, by simp only [natOf_int]; omega⟩
  · have hge := eq_of_ge_b hk hge
    subst hge
    simp only [go_sem]
    refine convB ?_
    symm
    rw [List.all_eq_true]
    intro v hv
    exact hz v (by rw [List.take_length]; exact hv)
structure St8 where
  place : Int
  time : Int
  driven : Int
  miles : Int
def encSt8 (s : St8) : List AV := [int s.place, int s.time, int s.driven, int s.miles]
theorem encSt8_len (s : St8) : (encSt8 s).length = 4 := (rfl)
theorem encSt8_0 (s : St8) : (encSt8 s).getD 0 .any = int s.place := (rfl)
theorem encSt8_1 (s : St8) : (encSt8 s).getD 1 .any = int s.time := (rfl)
theorem encSt8_2 (s : St8) : (encSt8 s).getD 2 .any = int s.driven := (rfl)
theorem encSt8_3 (s : St8) : (encSt8 s).getD 3 .any = int s.miles := (rfl)
theorem encSt8_all (s : St8) : (encSt8 s).take 4 = encSt8 s := (rfl)
attribute [go_sem] encSt8_0 encSt8_1 encSt8_2 encSt8_3 encSt8_all
def rest18 (t : VType) (s : St8) (yes : Bool) : St8 := if yes = true then ⟨s.place, W (s.time + t.rest), 0, s.miles⟩ else s
theorem rest18_c (t : VType) (s : St8) (yes : Bool) : PC Tryz.prog 316 [.agg (encVType t), .agg (encSt8 s), boo yes] (.agg (encSt8 (rest18 t s yes))) := by
  simp only [encSt8]
  refine PC.body (c := Tryz.f316.body.getD .skip) (fun t => t == 4) mixed Tryz.func316 rfl (by kernel_rfl) ?_
  unfold Tryz.f316
  simp only [Option.getD_some]
  simp only [go_sem]
  refine anew_i fun j hj => ?_
  have R := updH_same noRows j (some (⟨328, 4, [[int s.place, int s.time, int s.driven, int s.miles]]⟩ : Row))
  generalize updH noRows j _ = H0 at R ⊢
  clear hj
  simp only [go_sem]
  refine anew_i fun i hi => ?_
  have nji : j ≠ i := ne_new R hi
  have R1 := updH_same H0 i (some (⟨328, 4, [[int 0, int 0, int 0, int 0]]⟩ : Row))
  have R : updH H0 i (some (⟨328, 4, [[int 0, int 0, int 0, int 0]]⟩ : Row)) j = _ := (updH_ne _ _ _ _ nji).trans R
  generalize hG : updH H0 i _ = H1 at R R1 ⊢
  clear hi hG
  simp only [go_sem]
  refine acond_join (fun ρ' H' => ρ' 4 = .op j 0 0 ∧ ρ' 6 = .op i 0 0 ∧ H' j = some ⟨328, 4, [encSt8 (rest18 t s yes)]⟩ ∧ H' i = some ⟨328, 4, [[int 0, int 0, int 0, int 0]]⟩) ?_ fun K hK => acond_i (fun hb => ?_) (fun hb => ?_)
  · clear R R1
    rintro ρ H ⟨h4, h6, R, R1⟩
    simp only [go_sem, h4, h6, R]
    refine wputE_n R1 (by simp [encSt8]) ?_
    simp only [go_sem, h6]
    exact .refl _
  · simp only [go_sem, R]
    refine wputE_1 so3 R ⟨by simp, rfl, by simp⟩ ?_
    simp only [go_sem]
    refine wputE_1 so3 (updH_same _ _ _) ⟨by simp, rfl, by simp⟩ ?_
    simp only [go_sem]
    refine hK _ _ ⟨by simp only [go_sem], by simp only [go_sem], ?_, by rw [updH_ne _ _ _ _ nji.symm, updH_ne _ _ _ _ nji.symm]; exact R1⟩
    rw [updH_same, rest18, if_pos hb]; rfl
  · simp only [go_sem]
    refine hK _ _ ⟨by simp only [go_sem], by simp only [go_sem], ?_, R1⟩
    rw [rest18, if_neg (by rw [hb]; simp)]; exact R
def step18 (x : Instance) (t : VType) (s : St8) (to close late : Int) : St8 × Int :=
  if (!((go09 x.net t.profile s.place to s.time).2.2 == 0)) = true then (s, 12)
  else if (go09 x.net t.profile s.place to s.time).1 > close then (s, late)
  else if W (W (s.driven + (go09 x.net t.profile s.place to s.time).1) - s.time) > t.drive then (s, 16)
  else (⟨to, (go09 x.net t.profile s.place to s.time).1, W (W (s.driven + (go09 x.net t.profile s.place to s.time).1) - s.time), W (s.miles + (go09 x.net t.profile s.place to s.time).2.1)⟩, 0)
theorem step18_c (x : Instance) (t : VType) (s : St8) (to close late : Int) (hn : NetB x.net) : PC Tryz.prog 317 [.agg (encInstance x), .agg (encVType t), .agg (encSt8 s), int to, int close, int late] (.tup [.agg (encSt8 (step18 x t s to close late).1), int (step18 x t s to close late).2]) := by
  simp only [encSt8]
  refine PC.body (c := Tryz.f317.body.getD .skip) (fun _ => false) mixed Tryz.func317 rfl (by kernel_rfl) ?_
  unfold Tryz.f317
  simp only [Option.getD_some]
  simp only [go_sem]
  refine anew_i fun j hj => ?_
  have R := updH_same noRows j (some (⟨328, 4, [[int 0, int 0, int 0, int 0]]⟩ : Row))
  generalize updH noRows j _ = H0 at R ⊢
  clear hj
  simp only [go_sem]
  refine PC.use (way18_c x t.profile s.place to s.time hn) ?_
  simp only [go_sem]
  generalize hg : go09 x.net t.profile s.place to s.time = g
  refine acond_i (fun h1 => ?_) (fun h1 => ?_)
  · simp only [go_sem]
    refine wputE_n R (by simp) ?_
    simp only [go_sem]
    rw [show step18 x t s to close late = (s, 12) by unfold step18; rw [hg, if_pos h1]]
    exact .refl _
  simp only [go_sem]
  refine acond_i (fun h2 => ?_) (fun h2 => ?_)
  · simp only [go_sem]
    refine wputE_n R (by simp) ?_
    simp only [go_sem]
    rw [show step18 x t s to close late = (s, late) by unfold step18; rw [hg, if_neg (by rw [h1]; simp), if_pos (of_decide_eq_true h2)]]
    exact .refl _
  simp only [go_sem]
  refine anew_i fun i hi => ?_
  have nji : j ≠ i := ne_new R hi
  simp only [go_sem]
  refine wputE_n (updH_same _ _ _) (by simp) ?_
  generalize hG : updH (updH H0 i _) i _ = H1
  have R1 : H1 i = some ⟨328, 4, [[int to, int g.1, int (W (W (s.driven + g.1) - s.time)), int (W (s.miles + g.2.1))]]⟩ := by rw [← hG, updH_same]; rfl
  have R : H1 j = some ⟨328, 4, [[int 0, int 0, int 0, int 0]]⟩ := by rw [← hG, updH_ne _ _ _ _ nji, updH_ne _ _ _ _ nji]; exact R
  clear hG hi
  simp only [go_sem, R1]
  refine acond_i (fun h3 => ?_) (fun h3 => ?_)
  · simp only [go_sem]
    refine wputE_n R (by simp) ?_
    simp only [go_sem]
    rw [show step18 x t s to close late = (s, 16) by unfold step18; rw [hg, if_neg (by rw [h1]; simp), if_neg (of_decide_eq_false h2), if_pos (of_decide_eq_true h3)]]
    exact .refl _
  · simp only [go_sem, R1]
    refine wputE_n R (by simp) ?_
    simp only [go_sem]
    rw [show step18 x t s to close late = (⟨to, g.1, W (W (s.driven + g.1) - s.time), W (s.miles + g.2.1)⟩, 0) by unfold step18; rw [hg, if_neg (by rw [h1]; simp), if_neg (of_decide_eq_false h2), if_neg (of_decide_eq_false h3)]]
    exact .refl _
end Go.Proofs.YtbcfajfngdmgnaaGreatDoor.Sq
