/- Texts joined by a program: DiJ, DiK, DiL, DiM, DiN, EndDN. -/
import Derived.Shelf.Spec.SlicesGrow
import Derived.Test.YtgblgpmhjeigpaaGreatDoorCards
import Derived.Test.YtgblgpmhjeigpaaGreatDoorTie
import Derived.Deep.DeepHandedRow
import Derived.Deep.DeepWitnessRowRef
import Derived.Lib.LaidIn
import Derived.SevenTiedAt
import Derived.Test.YtgblgpmhjeigpaaGreatDoorDn14
import Derived.Test.YtgblgpmhjeigpaaGreatDoorDn15

section
set_option linter.unusedSimpArgs false
set_option linter.unusedVariables false
namespace Go.Proofs.YtgblgpmhjeigpaaGreatDoor.Di
open Go.Aw Go.Aw.D Go.Proofs Ty
set_option maxRecDepth 100000
theorem pin_back {l : List Nat} {H Hr Hm : Heap} (h1 : ∀ k, k ∈ l → Hm k = H k) (h2 : ∀ k, k ∉ l → Hm k = Hr k) (h3 : ∀ k, k ∉ l → Hr k = H k) : Hm = H := funext fun k => by
  by_cases h : k ∈ l
  · exact h1 k h
  · rw [h2 k h, h3 k h]
def exT : List AV := [str ⟨#[97]⟩, int 1, int 0, int 0, .sl [[int 5]], int 0, int 0, int 0, int 100, int 50, int 0, int 0, int 0, int 0]
theorem errors_c : PC Tryz.prog 104 [.agg (encNetwork exI.net), .sl [exT], int 0] (.sl []) := by
  refine PC.body (c := Tryz.f104.body.getD .skip) (fun _ => false) mixed Tryz.func104 rfl (by kernel_rfl) ?_
  unfold Tryz.f104
  simp only [Option.getD_some]
  simp only [go_sem]
  refine anew_i fun j hj => ?_
  simp only [go_sem]
  refine ⟨by decide, by decide, ?_⟩
  refine anew_i fun i hi => ?_
  have Rj : updH noRows j (some ⟨198, 1, [[.sl []]]⟩) j = some ⟨198, 1, [[.sl []]]⟩ := updH_same _ _ _
  generalize updH noRows j (some ⟨198, 1, [[.sl []]]⟩) = G at *
  have hne := ne_new Rj hi
  simp only [go_sem]
  refine wputE_n (updH_same _ _ _) (by simp only [go_sem]; decide) ?_
  rw [updH_twice]
  generalize hP : updH G i _ = HP
  have Ri : HP i = some ⟨83, 14, [[str ⟨#[97]⟩, int 1, int 0, int 0, .sl [[int 5]], int 0, int 0, int 0, int 100, int 50, int 0, int 0, int 0, int 0]]⟩ := by rw [← hP, updH_same]; rfl
  have Rj : HP j = some ⟨198, 1, [[.sl []]]⟩ := by rw [← hP, updH_ne _ _ _ _ hne]; exact Rj
  clear hP
  simp only [go_sem, Ri]
  refine PC.use nameA_c ?_
  simp only [go_sem]
  refine add_c 5 _ fun _ => ?_
  simp only [go_sem]
  refine ⟨by decide, contains0_c _ _ ?_⟩
  simp only [go_sem]
  refine add_c 6 _ fun _ => ?_
  simp only [go_sem, Ri]
  refine PC.use (within_c _ _ _) ?_
  simp only [go_sem]
  refine add_c 22 _ fun _ => ?_
  simp only [go_sem, Ri]
  refine PC.use (within_c _ _ _) ?_
  simp only [go_sem, Ri]
  refine ⟨_, fun _ => (within_c _ _ _).q rfl, ?_⟩
  simp only [go_sem]
  refine add_c 11 _ fun _ => ?_
  simp only [go_sem]
  refine adraw_p [i] [(0, true), (1, true), (2, true), (3, true), (4, true), (5, true), (6, true), (7, false), (8, false)] (by simp [Ri]) (by kernel_rfl) fun Hp Hr hp1 hr1 hp2 hr2 => ?_
  have Rp := (hp1 i (by simp)).trans Ri
  simp only [go_sem, Rp]
  refine ⟨⟨by decide, rfl⟩, by decide, ?_⟩
  simp only [go_sem, exT]
  refine PC.use capacity_c ?_
  simp only [go_sem]
  refine add_c 17 _ fun _ => ?_
  simp only [go_sem]
  refine pinEnd_i fun _ Hm hm1 hm2 => ?_
  obtain rfl : Hm = HP := pin_back hm1 hm2 hr1
  simp only [go_sem, Ri]
  refine PC.use (within_c _ _ _) ?_
  simp only [go_sem]
  refine add_c 18 _ fun _ => ?_
  simp only [go_sem, Ri]
  refine PC.use (within_c _ _ _) ?_
  simp only [go_sem, Ri]
  refine add_c 15 _ fun _ => ?_
  simp only [go_sem, Ri]
  refine PC.use (within_c _ _ _) ?_
  simp only [go_sem, Ri]
  refine ⟨_, fun _ => (within_c _ _ _).q rfl, ?_⟩
  simp only [go_sem]
  refine add_c 16 _ fun _ => ?_
  simp only [go_sem, Ri]
  refine PC.use (within_c _ _ _) ?_
  simp only [go_sem, Ri]
  refine ⟨_, fun _ => (within_c _ _ _).q rfl, ?_⟩
  simp only [go_sem, Ri]
  refine ⟨_, fun _ => (within_c _ _ _).q rfl, ?_⟩
  simp only [go_sem, Ri]
  refine ⟨_, fun _ => (within_c _ _ _).q rfl, ?_⟩
  simp only [go_sem]
  refine add_c 2 _ fun _ => ?_
  simp only [go_sem, Rj]
  exact .refl _
theorem fleet_c : PC Tryz.prog 64 [.agg (encNetwork exI.net), .sl (exI.types.map encVType)] (.sl []) := by
  refine PC.body (c := Tryz.f64.body.getD .skip) (fun _ => false) mixed Tryz.func64 rfl (by kernel_rfl) ?_
  unfold Tryz.f64
  simp only [Option.getD_some]
  simp only [go_sem]
  refine PC.use (within_c _ _ _) ?_
  simp only [go_sem]
  refine acond_i (fun hb => absurd hb (by decide)) (fun hb => ?_)
  simp only [go_sem]
  refine ⟨fun ρ _ => ∃ k : Nat, k ≤ 1 ∧ ρ 1 = .sl [exT] ∧ ρ 2 = .rp (encNetwork exI.net) 0 ∧ ρ 5 = .sl [] ∧ ρ 18 = int 1 ∧ ρ 19 = int k, fun ρ _ => 1 - natOf (ρ 19), ⟨0, by omega, rfl, rfl, rfl, rfl, rfl⟩, ?_⟩
  rintro ρ H ⟨k, hk, h1, h2, h5, h18, h19⟩
  simp only [go_sem, h1, h2, h5, h18, h19]
  refine acond_i (fun hb => ?_) (fun hb => ?_)
  · obtain rfl : k = 0 := by simp at hb; omega
    simp only [go_sem, h1, h2, h5, h18, h19]
    refine PC.use errors_c ?_
    simp only [go_sem, h1, h2, h5, h18, h19]
    refine ⟨fun ρ _ => ρ 1 = .sl [exT] ∧ ρ 2 = .rp (encNetwork exI.net) 0 ∧ ρ 5 = .sl [] ∧ ρ 18 = int 1 ∧ ρ 19 = int ((0 : Nat) : Int) ∧ ρ 26 = int 0 ∧ ρ 27 = int 0, fun _ _ => 0, ⟨by simp only [go_sem, h1], by simp only [go_sem, h2], by simp only [go_sem, h5], by simp only [go_sem, h18], by simp only [go_sem, h19], rfl, rfl⟩, ?_⟩
    clear h1 h2 h5 h18 h19
    rintro ρ H ⟨h1, h2, h5, h18, h19, h26, h27⟩
    simp only [go_sem, h1, h2, h5, h18, h19, h26, h27]
    refine acond_i (fun hb => by cases hb) (fun hb => ?_)
    simp only [go_sem, h1, h2, h5, h18, h19]
    exact ⟨⟨1, Nat.le_refl 1, rfl⟩, by decide⟩
  · simp only [go_sem, h5]
    exact .refl _
theorem fleetNo_c : PC Tryz.prog 64 [.agg (encNetwork noI.net), .sl (noI.types.map encVType)] (.sl [encFault ⟨4, ⟨#[]⟩⟩]) := by
  refine PC.body (c := Tryz.f64.body.getD .skip) (fun t => t == 5) mixed Tryz.func64 rfl (by kernel_rfl) ?_
  unfold Tryz.f64
  simp only [Option.getD_some]
  simp only [go_sem]
  refine anew_i fun j hj => ?_
  simp only [go_sem]
  refine PC.use (within_c _ _ _) ?_
  simp only [go_sem]
  have Rj : updH noRows j (some ⟨149, 2, []⟩) j = some ⟨149, 2, []⟩ := updH_same _ _ _
  generalize updH noRows j (some ⟨149, 2, []⟩) = G at *
  refine acond_i (fun hb => ?_) (fun hb => absurd hb (by decide))
  simp only [go_sem]
  refine wappE_i Rj ⟨rfl, rfl⟩ (by simp only [go_sem]) (by simp only [List.length_nil, List.length_cons]; omega) (fun i hi => ?_)
  generalize hP : updH (updH G j none) i _ = HP
  have Ri : HP i = some ⟨149, 2, [encFault ⟨4, ⟨#[]⟩⟩]⟩ := by rw [← hP, updH_same]; rfl
  clear hP
  simp only [go_sem]
  refine ⟨fun ρ H => ρ 5 = .os i ∧ H i = some ⟨149, 2, [encFault ⟨4, ⟨#[]⟩⟩]⟩ ∧ ρ 18 = int 0 ∧ ρ 19 = int 0, fun _ _ => 0, ⟨by simp only [go_sem], Ri, rfl, rfl⟩, ?_⟩
  clear Ri
  rintro ρ H ⟨h5, Ri, h18, h19⟩
  simp only [go_sem, h5, h18, h19]
  refine acond_i (fun hb => by cases hb) (fun hb => ?_)
  simp only [go_sem, h5]
  exact .row _ _ _ Ri (ConvE.refl _)
end Go.Proofs.YtgblgpmhjeigpaaGreatDoor.Di
end

section
set_option linter.unusedSimpArgs false
set_option linter.unusedVariables false
namespace Go.Proofs.YtgblgpmhjeigpaaGreatDoor.Di
open Go.Aw Go.Aw.D Go.Proofs Ty
set_option maxRecDepth 100000
theorem under0_c (w : ByteArray) : PC Tryz.prog 62 [str w, .sl []] (.sl []) := by
  refine PC.body (c := Tryz.f62.body.getD .skip) (fun _ => false) mixed Tryz.func62 rfl (by kernel_rfl) ?_
  unfold Tryz.f62
  simp only [Option.getD_some]
  simp only [go_sem]
  refine ⟨⟨by decide, by decide⟩, ?_⟩
  refine anew_i fun j hj => ?_
  have Rj : updH noRows j (some ⟨149, 2, List.replicate 0 [int 0, str ByteArray.empty]⟩) j = some ⟨149, 2, []⟩ := updH_same _ _ _
  generalize updH noRows j _ = G at *
  simp only [go_sem]
  refine ⟨fun ρ H => ρ 5 = .os j ∧ H j = some ⟨149, 2, []⟩ ∧ ρ 13 = int 0 ∧ ρ 14 = int 0, fun _ _ => 0, ⟨by simp only [go_sem], Rj, rfl, rfl⟩, ?_⟩
  clear Rj
  rintro ρ H ⟨h5, Rj, h13, h14⟩
  simp only [go_sem, h5, h13, h14]
  refine acond_i (fun hb => by cases hb) (fun hb => ?_)
  simp only [go_sem, h5]
  exact .row _ _ _ Rj (ConvE.refl _)
theorem under1_c (w : ByteArray) (e : Int) : PC Tryz.prog 62 [str w, .sl [encFault ⟨e, ⟨#[]⟩⟩]] (.sl [encFault ⟨e, w⟩]) := by
  refine PC.body (c := Tryz.f62.body.getD .skip) (fun _ => false) mixed Tryz.func62 rfl (by kernel_rfl) ?_
  unfold Tryz.f62
  simp only [Option.getD_some]
  simp only [go_sem]
  refine ⟨⟨by decide, by decide⟩, ?_⟩
  refine anew_i fun j hj => ?_
  have Rj : updH noRows j (some ⟨149, 2, List.replicate 0 [int 0, str ByteArray.empty]⟩) j = some ⟨149, 2, []⟩ := updH_same _ _ _
  generalize updH noRows j _ = G at *
  simp only [go_sem]
  refine ⟨fun ρ H => ∃ (k j : Nat), k ≤ 1 ∧ ρ 0 = str w ∧ ρ 5 = .os j ∧ H j = some ⟨149, 2, ([encFault ⟨e, w⟩]).take k⟩ ∧ ρ 12 = .sl [encFault ⟨e, ⟨#[]⟩⟩] ∧ ρ 13 = int 1 ∧ ρ 14 = int k, fun ρ _ => 1 - natOf (ρ 14), ⟨0, j, by omega, by simp only [go_sem], by simp only [go_sem], Rj, by simp only [go_sem], rfl, rfl⟩, ?_⟩
  clear Rj
  rintro ρ H ⟨k, j, hk, h0, h5, Rj, h12, h13, h14⟩
  simp only [go_sem, h0, h5, h12, h13, h14]
  refine acond_i (fun hb => ?_) (fun hb => ?_)
  · obtain rfl : k = 0 := by simp at hb; omega
    simp only [go_sem, h0, h5, h12, h13, h14]
    refine ⟨by decide, ?_⟩
    refine anew_i fun i hi => ?_
    have hne := ne_new Rj hi
    simp only [go_sem]
    refine wputE_n (updH_same _ _ _) (by simp only [go_sem]) ?_
    rw [updH_twice]
    generalize hP : updH H i _ = HP
    have Ri : HP i = some ⟨149, 2, [[int e, str ⟨#[]⟩]]⟩ := by rw [← hP, updH_same]; rfl
    have Rj : HP j = some ⟨149, 2, []⟩ := by rw [← hP, updH_ne _ _ _ _ hne]; exact Rj
    clear hP
    simp only [go_sem, h0, h5, h12, h13, h14, Ri]
    refine acond_i (fun hb => by simp at hb) (fun hb => ?_)
    simp only [go_sem, h0, h5, h12, h13, h14, Ri]
    refine wappE_i Rj ⟨rfl, rfl⟩ (by simp only [go_sem]) (by simp only [List.length_nil, List.length_cons]; omega) (fun j' hj' => ?_)
    simp only [go_sem, h0, h5, h12, h13, h14]
    exact ⟨⟨1, j', Nat.le_refl 1, rfl, updH_same _ _ _, rfl⟩, by decide⟩
  · have : k = 1 := by simp at hb; omega
    subst this
    simp only [go_sem, h5]
    exact .row _ _ _ Rj (ConvE.refl _)
end Go.Proofs.YtgblgpmhjeigpaaGreatDoor.Di
end

section
set_option linter.unusedSimpArgs false
set_option linter.unusedVariables false
namespace Go.Proofs.YtgblgpmhjeigpaaGreatDoor.Di
open Go.Aw Go.Aw.D Go.Proofs Go.RowKit Ty
set_option maxRecDepth 100000
def growRen : Go.Shelf.Ren := ⟨fun | 4 => 98 | n => n, fun | 22 => 84 | 25 => 149 | n => n, fun | n => n⟩
theorem growLays : Lays8.n4 Tryz.prog growRen := {
  mixed := by kernel_rfl
  f4 := ⟨"slices.Grow[[]lorry/api.Fault,lorry/api.Fault]", by decide, Tryz.func98.trans (congrArg some (by kernel_rfl))⟩
  t0 := Tryz.underlying0
  a0 := Tryz.isAgg0
  z0 := Tryz.sizeOf0
  v0 := Tryz.zeroValue0
  t3 := Tryz.underlying3
  a3 := Tryz.isAgg3
  z3 := Tryz.sizeOf3
  v3 := Tryz.zeroValue3
  t4 := Tryz.underlying4
  a4 := Tryz.isAgg4
  z4 := Tryz.sizeOf4
  v4 := Tryz.zeroValue4
  t9 := Tryz.underlying9
  a9 := Tryz.isAgg9
  z9 := Tryz.sizeOf9
  v9 := Tryz.zeroValue9
  t20 := Tryz.underlying20
  a20 := Tryz.isAgg20
  z20 := Tryz.sizeOf20
  v20 := Tryz.zeroValue20
  t22 := Tryz.underlying84
  a22 := Tryz.isAgg84
  z22 := Tryz.sizeOf84
  v22 := Tryz.zeroValue84 }
theorem args2 {S : Sg} {w : World} {a b : Value} {vals : List Value} (h : repL S w [.v a, .v b] vals) : vals = [a, b] := by
  simp only [repL, rep] at h
  obtain ⟨_, _, rfl, rfl, _, _, rfl, rfl, rfl⟩ := h
  rfl
theorem grow0_c {H0 : Heap} {K : AV → Heap → Prop} (hK : K (.v (.slice none 0 0)) H0) : FCalls Tryz.prog 98 [.v (.slice none 0 0), int 0] H0 K := fun S w vals hS hr => by
  obtain rfl := args2 hr
  refine (Any8.slices_Grow_room growLays none 0 0 0 w (by decide) (by decide) (by decide) (by decide)).mono ?_
  rintro e w' ⟨rfl, rfl⟩
  exact ⟨_, _, H0, S, rfl, hK, hS, by simp only [rep], Grow.refl S w', NewK.refl _ _⟩
theorem grow1_c {H0 : Heap} {K : AV → Heap → Prop} (hK : ∀ k, H0 k = none → K (.os k) (updH H0 k (some ⟨149, 2, []⟩))) : FCalls Tryz.prog 98 [.v (.slice none 0 0), int 1] H0 K := fun S w vals hS hr => by
  obtain rfl := args2 hr
  obtain ⟨inf, z, hut, hi, hsz, hby, hpos, hbpos, hz, hzs⟩ := elemT_spec el84
  refine (Any8.slices_Grow_grow growLays inf z hi hz (by omega) none 0 0 1 [] w (Nat.le_refl 0) (by decide) (by omega) (by decide) (by simp) (fun _ => rfl) (by simp)).mono ?_
  rintro e w' ⟨rfl, rfl⟩
  have hcap := grownCap_le_maxLen w (0 + 1) 0 (growRen.t 25) (by decide)
  have hge := grownCap_ge w (0 + 1) 0 (growRen.t 25)
  generalize grownCap w (0 + 1) 0 (growRen.t 25) = cap at *
  obtain ⟨q1, q2⟩ := hS.newRow (e := 149) (sz := 2) (es := []) (xs := []) (cap := cap) (cur := ([] : List Value).toArray ++ Builtin.zeroCells z.cells (0 + 1 - 0) ++ Builtin.zeroCells z.cells (cap - (0 + 1))) (w' := w.drew.alloc (.cells (([] : List Value).toArray ++ Builtin.zeroCells z.cells (0 + 1 - 0) ++ Builtin.zeroCells z.cells (cap - (0 + 1))) 149)) (by decide) (by simp) (by simp [repL]) (by simp) (Nat.zero_le _) hcap (by simp only [Array.size_append, size_zeroCells, hzs]; simp; omega) (by simp) rfl rfl rfl rfl
  refine ⟨_, .os S.N, _, _, rfl, hK S.N hS.fresh, q1, ?_, q2, fun j hj h0 => ?_⟩
  · simp only [rep, Sg.addRow, if_true]
    exact ⟨Nat.lt_succ_self _, rfl, _, _, _, rfl⟩
  · rw [updH_ne _ _ _ _ (Nat.ne_of_lt hj)]
    exact h0
end Go.Proofs.YtgblgpmhjeigpaaGreatDoor.Di
end

section
set_option linter.unusedSimpArgs false
set_option linter.unusedVariables false
namespace Go.Proofs.YtgblgpmhjeigpaaGreatDoor.Di
open Go.Aw Go.Aw.D Go.Proofs Ty
set_option maxRecDepth 100000
theorem nil_sl {P : Program} {f : FuncId} {args : List AV} (h : PC P f args (.v (.slice none 0 0))) : PC P f args (.sl []) := fun S w vals h1 h2 h3 => (h S w vals h1 h2 h3).mono fun e w' q => by
  obtain ⟨v, r, H', S', e1, hr, q1, q2, q3, q4⟩ := q
  subst hr
  refine ⟨v, .sl [], H', S', e1, rfl, q1, ?_, q3, q4⟩
  simp only [rep] at q2 ⊢
  subst q2
  exact ⟨none, 0, 0, rfl, rfl, Nat.le_refl _, Nat.zero_le _, .inl trivial⟩
theorem concat0_c : PC Tryz.prog 61 [.sl [[.sl []], [.sl []], [.sl []], [.sl []]]] (.sl []) := nil_sl <| by
  refine PC.body (c := Tryz.f61.body.getD .skip) (fun t => t == 24) mixed Tryz.func61 rfl (by kernel_rfl) ?_
  unfold Tryz.f61
  simp only [Option.getD_some]
  simp only [go_sem]
  refine ⟨fun ρ H => ∃ k : Nat, k ≤ 4 ∧ ρ 0 = .sl [[.sl []], [.sl []], [.sl []], [.sl []]] ∧ ρ 3 = int 0 ∧ ρ 9 = .sl [[.sl []], [.sl []], [.sl []], [.sl []]] ∧ ρ 10 = int 4 ∧ ρ 11 = int k, fun ρ _ => 4 - natOf (ρ 11), ⟨0, by omega, rfl, rfl, rfl, rfl, rfl⟩, ?_⟩
  rintro ρ H ⟨k, hk, h0, h3, h9, h10, h11⟩
  simp only [go_sem, h0, h3, h9, h10, h11]
  refine acond_i (fun hb => ?_) (fun hb => ?_)
  · have hlt : k < 4 := by simp at hb; omega
    obtain rfl | rfl | rfl | rfl : k = 0 ∨ k = 1 ∨ k = 2 ∨ k = 3 := by omega
    all_goals
      simp only [go_sem, h0, h3, h9, h10, h11]
      refine ⟨by decide, ?_⟩
      refine acond_i (fun hb => absurd hb (by decide)) (fun hb => ?_)
      simp only [go_sem, h0, h3, h9, h10, h11]
      exact ⟨⟨_, hlt, rfl, rfl⟩, by decide⟩
  · clear h9 h10 h11
    simp only [go_sem, h0, h3]
    refine grow0_c ?_
    simp only [go_sem, h0]
    refine ⟨fun ρ H => ∃ k : Nat, k ≤ 4 ∧ ρ 6 = .v (.slice none 0 0) ∧ ρ 25 = .sl [[.sl []], [.sl []], [.sl []], [.sl []]] ∧ ρ 26 = int 4 ∧ ρ 27 = int k, fun ρ _ => 4 - natOf (ρ 27), ⟨0, by omega, by simp only [go_sem], by simp only [go_sem, h0], rfl, rfl⟩, ?_⟩
    clear h0 h3
    rintro ρ H ⟨k, hk, h6, h25, h26, h27⟩
    simp only [go_sem, h6, h25, h26, h27]
    refine acond_i (fun hb => ?_) (fun hb => ?_)
    · have hlt : k < 4 := by simp at hb; omega
      obtain rfl | rfl | rfl | rfl : k = 0 ∨ k = 1 ∨ k = 2 ∨ k = 3 := by omega
      all_goals
        simp only [go_sem, h6, h25, h26, h27]
        refine ⟨by decide, ?_⟩
        refine wapp_none rfl (.inl rfl) (.inl rfl) ?_
        simp only [go_sem, h6, h25, h26, h27]
        exact ⟨⟨_, hlt, rfl⟩, by decide⟩
    · simp only [go_sem, h6]
      exact .refl _
theorem concat1_c (f : Fault) : PC Tryz.prog 61 [.sl [[.sl []], [.sl [encFault f]], [.sl []], [.sl []]]] (.sl [encFault f]) := by
  refine PC.body (c := Tryz.f61.body.getD .skip) (fun t => t == 24) mixed Tryz.func61 rfl (by kernel_rfl) ?_
  unfold Tryz.f61
  simp only [Option.getD_some]
  simp only [go_sem]
  refine ⟨fun ρ H => ∃ k : Nat, k ≤ 4 ∧ ρ 0 = .sl [[.sl []], [.sl [encFault f]], [.sl []], [.sl []]] ∧ ρ 3 = int (if k ≤ 1 then 0 else 1) ∧ ρ 9 = .sl [[.sl []], [.sl [encFault f]], [.sl []], [.sl []]] ∧ ρ 10 = int 4 ∧ ρ 11 = int k, fun ρ _ => 4 - natOf (ρ 11), ⟨0, by omega, rfl, rfl, rfl, rfl, rfl⟩, ?_⟩
  rintro ρ H ⟨k, hk, h0, h3, h9, h10, h11⟩
  simp only [go_sem, h0, h3, h9, h10, h11]
  refine acond_i (fun hb => ?_) (fun hb => ?_)
  · have hlt : k < 4 := by simp at hb; omega
    obtain rfl | rfl | rfl | rfl : k = 0 ∨ k = 1 ∨ k = 2 ∨ k = 3 := by omega
    all_goals
      simp only [go_sem, h0, h3, h9, h10, h11]
      refine ⟨by decide, ?_⟩
      refine acond_i (fun hb => absurd hb (by decide)) (fun hb => ?_)
      simp only [go_sem, h0, h3, h9, h10, h11]
      exact ⟨⟨_, hlt, rfl, rfl⟩, by decide⟩
  · have hk4 : k = 4 := by simp at hb; omega
    subst hk4
    clear h9 h10 h11
    simp only [go_sem, h0, h3]
    refine grow1_c fun j hj => ?_
    have Rj : updH H j (some ⟨149, 2, []⟩) j = some ⟨149, 2, []⟩ := updH_same _ _ _
    generalize updH H j (some ⟨149, 2, []⟩) = G at *
    simp only [go_sem, h0]
    refine ⟨fun ρ H => ∃ k j : Nat, k ≤ 4 ∧ ρ 6 = .os j ∧ H j = some ⟨149, 2, if k ≤ 1 then [] else [encFault f]⟩ ∧ ρ 25 = .sl [[.sl []], [.sl [encFault f]], [.sl []], [.sl []]] ∧ ρ 26 = int 4 ∧ ρ 27 = int k, fun ρ _ => 4 - natOf (ρ 27), ⟨0, j, by omega, by simp only [go_sem], Rj, by simp only [go_sem, h0], rfl, rfl⟩, ?_⟩
    clear h0 h3 Rj hj
    rintro ρ H ⟨k, j, hk, h6, Rj, h25, h26, h27⟩
    simp only [go_sem, h6, h25, h26, h27]
    refine acond_i (fun hb => ?_) (fun hb => ?_)
    · have hlt : k < 4 := by simp at hb; omega
      obtain rfl | rfl | rfl | rfl : k = 0 ∨ k = 1 ∨ k = 2 ∨ k = 3 := by omega
      all_goals
        simp only [go_sem, h6, h25, h26, h27]
        refine ⟨by decide, ?_⟩
        refine wappE_i Rj ⟨rfl, rfl⟩ (by simp only [go_sem]) (by simp) (fun j' hj' => ?_)
        simp only [go_sem, h6, h25, h26, h27]
        exact ⟨⟨_, j', hlt, rfl, updH_same _ _ _, rfl⟩, by decide⟩
    · have hk4 : k = 4 := by simp at hb; omega
      subst hk4
      simp only [go_sem, h6]
      exact .row _ _ _ Rj (ConvE.refl _)
end Go.Proofs.YtgblgpmhjeigpaaGreatDoor.Di
end

section
set_option linter.unusedSimpArgs false
set_option linter.unusedVariables false
namespace Go.Proofs.YtgblgpmhjeigpaaGreatDoor.Di
open Go.Aw Go.Aw.D Go.Proofs Ty
set_option maxRecDepth 100000
theorem check1_c : PC Tryz.prog 33 [.agg (encInstance exI)] (.sl []) := by
  refine PC.body (c := Tryz.f33.body.getD .skip) (fun _ => false) mixed Tryz.func33 rfl (by kernel_rfl) ?_
  unfold Tryz.f33
  simp only [Option.getD_some]
  simp only [go_sem]
  refine adraw_m [(0, true), (1, true), (4, true), (5, true), (6, true), (7, true), (10, true), (11, true), (12, true), (13, true), (15, true), (16, true), (17, true), (18, true), (19, true), (22, true), (23, true), (24, true), (25, true), (26, true), (27, true), (28, true), (2, false), (3, false), (8, false), (9, false), (14, false), (20, false), (21, false), (29, false), (30, false), (31, false), (32, false), (33, true)] (by kernel_rfl) ?_
  simp only [go_sem]
  refine PC.use netHub_c ?_
  simp only [go_sem]
  refine PC.use (under0_c _) ?_
  simp only [go_sem]
  refine PC.use fleet_c ?_
  simp only [go_sem]
  refine PC.use (under0_c _) ?_
  simp only [go_sem]
  refine PC.use (dims0_c exI.types) ?_
  simp only [go_sem]
  refine PC.use (order0_c exI.net _ _) ?_
  simp only [go_sem]
  refine PC.use (under0_c _) ?_
  simp only [go_sem]
  refine PC.use (rules0_c _) ?_
  simp only [go_sem]
  refine PC.use (under0_c _) ?_
  simp only [go_sem]
  refine PC.use concat0_c ?_
  simp only [go_sem]
  exact .refl _
theorem check0_c : PC Tryz.prog 33 [.agg (encInstance noI)] (.sl [encFault ⟨4, ⟨#[116, 121, 112, 101, 115]⟩⟩]) := by
  refine PC.body (c := Tryz.f33.body.getD .skip) (fun _ => false) mixed Tryz.func33 rfl (by kernel_rfl) ?_
  unfold Tryz.f33
  simp only [Option.getD_some]
  simp only [go_sem]
  refine adraw_m [(0, true), (1, true), (4, true), (5, true), (6, true), (7, true), (10, true), (11, true), (12, true), (13, true), (15, true), (16, true), (17, true), (18, true), (19, true), (22, true), (23, true), (24, true), (25, true), (26, true), (27, true), (28, true), (2, false), (3, false), (8, false), (9, false), (14, false), (20, false), (21, false), (29, false), (30, false), (31, false), (32, false), (33, true)] (by kernel_rfl) ?_
  simp only [go_sem]
  refine PC.use netNo_c ?_
  simp only [go_sem]
  refine PC.use (under0_c _) ?_
  simp only [go_sem]
  refine PC.use fleetNo_c ?_
  simp only [go_sem]
  refine PC.use (under1_c _ _) ?_
  simp only [go_sem]
  refine PC.use (dims0_c noI.types) ?_
  simp only [go_sem]
  refine PC.use (order0_c noI.net _ _) ?_
  simp only [go_sem]
  refine PC.use (under0_c _) ?_
  simp only [go_sem]
  refine PC.use (rules0_c _) ?_
  simp only [go_sem]
  refine PC.use (under0_c _) ?_
  simp only [go_sem]
  refine PC.use (concat1_c _) ?_
  simp only [go_sem]
  exact .refl _
theorem dispatchNil_c (c : Command) : PC Tryz.prog 3 [.agg (encCommand c)] (boo true) := nil_c (example_c check1_c check0_c) c
end Go.Proofs.YtgblgpmhjeigpaaGreatDoor.Di
end

section
set_option linter.unusedSimpArgs false
set_option linter.unusedVariables false
namespace Go.Proofs.YtgblgpmhjeigpaaGreatDoor.dispatchNil
open Go.Aw Go.Aw.D Go.Proofs Go.RowKit Go.ChangeShapes Go.WideShapes Go.ChangeAt
set_option maxRecDepth 100000
theorem goes_none {P : Program} (h : P.funcs.any Func.goes = false) (f : FuncId) : P.goes f = false := by
  have hg : ∀ g : Nat, (P.funcs[g]?).any Func.goes = false := fun g => by
    cases e : P.funcs[g]? with
    | none => rfl
    | some x =>
      have hm := Array.mem_of_getElem? e
      rw [Array.any_eq_false'] at h
      simpa using h x hm
  unfold Program.goes
  rw [h, Bool.and_false, Bool.or_false]
  simp [hg]
theorem goesBy_none {P : Program} (c : OpenClaim) (hs : c.start = .entering) (h : P.funcs.any Func.goes = false) : false = c.goesBy P := by
  unfold OpenClaim.goesBy Program.goesAt Program.goesFrom
  rw [hs]
  cases P.funcNamed c.func with
  | none => rfl
  | some f => simp [goes_none h f]
theorem noGo : Tryz.prog.funcs.any Func.goes = false := by as_aux_lemma => kernel_rfl
def Holds : Prop := ∀ (x0 : Command), PC Tryz.prog 3 [.agg (encCommand x0)] (.v (.bool true))
theorem own : ownKnob Tryz.prog.godebug = none := by kernel_rfl
theorem laidOut : laidOutB Tryz.prog = true := by kernel_rfl
theorem readCommand : Tryz.prog.readableRec 30 = true ∧ 30 < Tryz.prog.types.size := ⟨by kernel_rfl, by decide +kernel⟩
theorem contract (hh : Holds) (H : Type) (enc : TypeId × Value → H) (W : World) (base : Nat) (args : Array Value) (ds gs : List (DataW H)) (before : List MemPlace)
    (hval : ∀ (j : Nat) t v, Tryz.f3.params[j]? = some t → args[j]? = some v → Value.okWide Tryz.prog W .any base t v)
    (hW : DataW.Whole enc Tryz.prog Tryz.f3.params.toList Rows.dispatchNilSpec.vars false W args.toList ds gs before) :
    Calls Tryz.prog 3 args W fun e W' => ∃ v, e = .returned v ∧ Rows.dispatchNilSpec.post enc Tryz.prog Tryz.f3 false true false false W args v W' := by
  have hW' := hW
  obtain ⟨p, q, hA0, hV, rfl, hfz, hnd⟩ := hW
  have hA : DataW.TrodAll enc Tryz.prog W 0 (fun _ => true) true [30] args.toList ds p := hA0
  obtain ⟨v0, d0, rfl, rfl, h0⟩ := trodAll_one hA
  obtain ⟨rfl, rfl⟩ := trodVars_none hV
  clear hA0
  simp only [List.append_nil] at hW'
  obtain ⟨x0, r0, b0⟩ := arg_struct Tryz.underlying30 rd_Command (hval 0 30 v0 rfl rfl) h0
  refine (calls_of_PC (vals := [v0]) (hh x0) (fun t ht => absurd (show t ∈ ([] : List (Nat × Array Value)) from ht) List.not_mem_nil) (by simp only [repL]; exact ⟨_, _, rfl, r0, rfl⟩)).mono fun e W' ⟨he, hg⟩ => ?_
  subst he
  exact ⟨_, rfl, post_true laidOut (by
    intro t ht
    have ht : t ∈ [30] := ht
    simp only [List.mem_cons, List.not_mem_nil, or_false] at ht
    rcases ht with rfl
    · exact readCommand
    ) rfl Tryz.underlying4 rfl (gs := []) (by simpa using hW') rfl rfl rfl hg⟩
def cellsOf : DataW Unit → Array Value
  | .agg l => (l.map fun d => match d with | .lit (.int k n) => Value.int k n | _ => undef).toArray
  | _ => #[]
def lettersOf : DataW Unit → ByteArray
  | .iface _ (.ptr (.agg [.lit (.string b)])) => ⟨b.toArray⟩
  | _ => ⟨#[]⟩
noncomputable def laidWorld (os : Os) : World :=
  let N := (World.settled Tryz.prog os).heap.size
  let w0 := World.holding Tryz.prog os ⟨#[.cells #[.string (lettersOf Rows.laid_strconv_ErrRange)] 613, .cells #[.string (lettersOf Rows.laid_strconv_ErrSyntax)] 613], #[], []⟩
  let put (h : Array Obj) (g : Nat) (cs : Array Value) : Array Obj := h.modify g fun
    | .cells _ t frozen => .cells cs t frozen
    | o => o
  let h1 := put w0.heap 4 #[.iface 611 (.pointer (some ⟨N, 0, none⟩))]
  let h2 := put h1 3 #[.iface 611 (.pointer (some ⟨N + 1, 0, none⟩))]
  let h3 := put h2 2 (cellsOf Rows.laid_internal_strconv_uint64pow10)
  let h4 := put h3 0 (cellsOf Rows.laid_math_bits_deBruijn32tab)
  let h5 := put h4 1 (cellsOf Rows.laid_math_bits_deBruijn64tab)
  { w0 with heap := h5 }
theorem laid_met (os : Os) : laidMet Tryz.prog Rows.dispatchNilRow.laid ((laidWorld os).forCall (fun _ _ => 0) ⟨#[], #[.agg #[.int .i64 0, .int .i64 0, .int .i64 0, .int .i64 0, .int .i64 0, .int .i64 0, .int .i64 0, .string ByteArray.empty, .slice none 0 0, .int .i64 0, .int .i64 0, .int .i64 0, .int .i64 0, .int .i64 0, .int .i64 0, .int .i64 0, .int .i64 0, .int .i64 0, .int .i64 0, .int .i64 0, .int .i64 0, .int .i64 0, .bool false]], []⟩).memory :=
  laidMet_of_run' 8 (by kernel_rfl) (by kernel_rfl)
theorem reads (os : Os) {H : Type} (enc : TypeId × Value → H) : ∃ places, DataW.whole enc Tryz.prog ((laidWorld os).forCall (fun _ _ => 0) ⟨#[], #[.agg #[.int .i64 0, .int .i64 0, .int .i64 0, .int .i64 0, .int .i64 0, .int .i64 0, .int .i64 0, .string ByteArray.empty, .slice none 0 0, .int .i64 0, .int .i64 0, .int .i64 0, .int .i64 0, .int .i64 0, .int .i64 0, .int .i64 0, .int .i64 0, .int .i64 0, .int .i64 0, .int .i64 0, .int .i64 0, .int .i64 0, .bool false]], []⟩).memory Tryz.f3.params.toList Rows.dispatchNilSpec.vars false (#[.agg #[.int .i64 0, .int .i64 0, .int .i64 0, .int .i64 0, .int .i64 0, .int .i64 0, .int .i64 0, .string ByteArray.empty, .slice none 0 0, .int .i64 0, .int .i64 0, .int .i64 0, .int .i64 0, .int .i64 0, .int .i64 0, .int .i64 0, .int .i64 0, .int .i64 0, .int .i64 0, .int .i64 0, .int .i64 0, .int .i64 0, .bool false]] : Array Value).toList 8 = some ([.agg [.lit (.int .i64 0), .lit (.int .i64 0), .agg [.lit (.int .i64 0), .lit (.int .i64 0), .lit (.int .i64 0), .lit (.int .i64 0), .lit (.int .i64 0), .agg [.lit (.string []), .nil, .agg [.lit (.int .i64 0), .lit (.int .i64 0), .lit (.int .i64 0), .lit (.int .i64 0)], .agg [.lit (.int .i64 0), .lit (.int .i64 0), .lit (.int .i64 0), .lit (.int .i64 0)], .lit (.int .i64 0), .lit (.int .i64 0), .lit (.int .i64 0), .lit (.int .i64 0), .lit (.int .i64 0), .lit (.bool false)]]]], [], places) :=
  ⟨[], by kernel_rfl⟩
theorem lifted (hh : Holds) (os : Os) (started : os.Started) (H : Type) (enc : TypeId × Value → H) (F : Stop.Interp) :
    ReturnsInHanded {} Tryz.checked os 3 .any ((OpenSpec.ofChange Rows.dispatchNilSpec).preRow enc Tryz.prog Tryz.f3 Rows.dispatchNilRow.domain false Rows.dispatchNilRow.laid) (((OpenSpec.ofChange Rows.dispatchNilSpec).at F).post enc Tryz.prog Tryz.f3 false true false false) := by
  obtain ⟨places, hx⟩ := reads os enc
  refine returnsInHanded_of_row (C := Tryz.checked) (s := OpenSpec.ofChange Rows.dispatchNilSpec) own started (by kernel_rfl) Tryz.func3
    (witness_row_atRef (enc := enc) (C := Tryz.checked) false (laidWorld os) #[.agg #[.int .i64 0, .int .i64 0, .int .i64 0, .int .i64 0, .int .i64 0, .int .i64 0, .int .i64 0, .string ByteArray.empty, .slice none 0 0, .int .i64 0, .int .i64 0, .int .i64 0, .int .i64 0, .int .i64 0, .int .i64 0, .int .i64 0, .int .i64 0, .int .i64 0, .int .i64 0, .int .i64 0, .int .i64 0, .int .i64 0, .bool false]] rfl (by kernel_rfl) (by kernel_rfl) (by kernel_rfl)
      (OpenSpec.preRow_of_cond 8 hx (by kernel_rfl) (fun k hk => by cases hk) (by kernel_rfl) (laid_met os))) ?_
  intro W base args ds gs before hval hW _ _ _ hL _ _
  exact contract hh H enc W base args ds gs before hval hW
theorem and_mk {a b : Bool} (h1 : a = true) (h2 : b = true) : (a && b) = true := by rw [h1, h2]; rfl
set_option maxHeartbeats 4000000 in
theorem closed : joinedFacts Tryz.prog 3 Tryz.f3 (OpenSpec.ofChange Rows.dispatchNilSpec).bare Rows.dispatchNilRow = true := by
  unfold joinedFacts
  repeat' (first | with_reducible refine and_mk ?_ ?_ | (as_aux_lemma => kernel_rfl))
set_option maxHeartbeats 4000000 in
theorem said (hh : Holds) : Rows.DispatchNilSaid :=
  OpenClaim.holds_of_cond 3 Tryz.f3 rfl rfl rfl rfl rfl rfl rfl ⟨rfl, rfl, rfl, rfl, rfl⟩ rfl rfl rfl rfl rfl (by as_aux_lemma => kernel_rfl) Tryz.func3 closed
    (of_decide_eq_true (by as_aux_lemma => kernel_rfl)) (by unfold Func.isWrapper; first | (rw [if_pos (by decide +kernel)]; kernel_rfl) | (rw [if_neg (by decide +kernel)]; exact ⟨rfl, rfl⟩))
    (fun os started H enc _ F => by rw [OpenClaim.pre_eq_preRow]; exact lifted hh os started H enc F)
set_option maxHeartbeats 4000000 in
theorem card (hh : Holds) : Rows.DispatchNilCardSaid :=
  Claim7.holds_tied_plain_at .later [] _ _ _ _ (said hh) (fun _ h => by cases h) (by as_aux_lemma => kernel_rfl) (fun _ h => by cases h) dispatchNil_row_tie rfl ⟨rfl, rfl⟩ (by as_aux_lemma => kernel_rfl) rfl
    (fun f fn hf hfn => by
      obtain rfl : f = 3 := Option.some.inj ((show Tryz.prog.funcNamed "lorry/lorrylaw53.DispatchNil" = some 3 by as_aux_lemma => kernel_rfl).symm.trans hf) |>.symm
      obtain rfl : fn = Tryz.f3 := (Option.some.inj (Tryz.func3.symm.trans hfn)).symm
      refine ⟨by as_aux_lemma => kernel_rfl, fun j t ht => ?_⟩
      have ht : (#[30] : Array TypeId)[j]? = some t := ht
      have hm := Array.mem_of_getElem? ht
      simp only [Array.mem_def, List.mem_cons, List.not_mem_nil, or_false, or_self] at hm
      subst hm
      exact (show Tryz.prog.wantsStandIn 30 = false by as_aux_lemma => kernel_rfl)) (goesBy_none _ rfl noGo)
end Go.Proofs.YtgblgpmhjeigpaaGreatDoor.dispatchNil
namespace Go.Proofs.YtgblgpmhjeigpaaGreatDoor
theorem dispatchNil_holds : Rows.DispatchNilCardSaid := dispatchNil.card Di.dispatchNil_c
#print axioms dispatchNil_holds
end Go.Proofs.YtgblgpmhjeigpaaGreatDoor
end
