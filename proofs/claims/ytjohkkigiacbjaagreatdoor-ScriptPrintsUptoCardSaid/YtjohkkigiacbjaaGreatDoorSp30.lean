/- Texts joined by a program: ScM. -/
import Derived.Test.YtjohkkigiacbjaaGreatDoorSp29

set_option linter.unusedSimpArgs false
set_option linter.unusedVariables false
namespace Go.Proofs.YtjohkkigiacbjaaGreatDoor.Sc
open Go.Aw Go.Aw.D Go.Proofs Ty
open Go.RowKit (Below)
open Go.Proofs.YtjohkkigiacbjaaGreatDoor
open Go.Proofs.YtjohkkigiacbjaaGreatDoor.Nw (ltB geB cB)
set_option maxRecDepth 100000
def bigS (s : D.Script) : Bool := decide ((s.commands.length : Int) > 10) || decide ((s.inst.orders.length : Int) > 6) || decide ((s.inst.types.length : Int) > 4) || decide ((s.inst.net.arcs.length : Int) > 50) || decide ((s.inst.net.places.length : Int) > 10) || decide ((s.inst.apart.length : Int) > 6) || decide ((s.inst.before.length : Int) > 6)
def badC (c : D.Command) : Bool := decide ((c.event.order.load.length : Int) > 4) || decide ((c.event.order.name.size : Int) > 40)
def smallS (s : D.Script) : Bool := !bigS s && !(s.commands.any badC)
theorem small_c (s : D.Script) (hl : s.commands.length ≤ 1048576) : PC Tryz.prog 4 [.agg (encScript s)] (boo (smallS s)) := by
  refine PC.body (c := Tryz.f4.body.getD .skip) (fun _ => false) mixed Tryz.func4 rfl (by kernel_rfl) ?_
  unfold Tryz.f4
  simp only [Option.getD_some]
  simp only [go_sem]
  refine anew_i fun p hp0 => ?_
  simp only [go_sem]
  refine wputE_v hp0 (by simp [encInstance]) fun HGp (Rp : HGp p = some (⟨30, 6, [encInstance s.inst]⟩)) N => ?_
  clear N hp0
  simp only [go_sem, Rp]
  refine acond_i (fun hb => ?_) (fun hb => ?_)
  · simp only [go_sem]
    refine cB ?_
    have h1 : bigS s = true := hb
    unfold smallS
    rw [h1]; rfl
  have h1 : bigS s = false := hb
  simp only [go_sem]
  refine ⟨fun ρ H => ∃ (k : Nat), k ≤ s.commands.length ∧ ρ 1 = .rp (encScript s) 0 ∧ ρ 4 = int k ∧ (∀ c ∈ s.commands.take k, badC c = false), fun ρ _ => s.commands.length - natOf (ρ 4), ⟨0, Nat.zero_le _, by simp only [go_sem], (by simp only [go_sem]; rfl), by simp⟩, ?_⟩
  rintro ρ H ⟨k, hk, e1, e4, hz⟩
  simp only [go_sem, e1, e4]
  refine acond_i (fun hlt => ?_) (fun hge => ?_)
  · have hlt := ltB hlt
    obtain ⟨y, hy⟩ := getIn hlt
    have b1 := inB hlt
    have hwr := wrapS (show k ≤ 4611686018427387904 by omega)
    simp only [go_sem, e1, e4, getD_map hy, b1]
    refine acond_i (fun hb => ?_) (fun hb => ?_)
    · simp only [go_sem]
      refine cB ?_
      have h2 : s.commands.any badC = true := List.any_eq_true.2 ⟨y, mem_of_get hy, by unfold badC; simpa using hb⟩
      unfold smallS
      rw [h2, Bool.and_comm]; rfl
    · simp only [go_sem, e1, e4, hwr]
      exact ⟨⟨k + 1, hlt, rfl, Nw.take_allP hy (by unfold badC; simpa using hb) hz⟩, by simp only [natOf_int]; omega⟩
  have hge := geB hk hge
  subst hge
  rw [List.take_of_length_le (Nat.le_refl _)] at hz
  simp only [go_sem, e1, e4]
  refine cB ?_
  have h2 : s.commands.any badC = false := by
    rw [List.any_eq_false]
    intro c hc
    rw [hz c hc]; simp
  unfold smallS
  rw [h1, h2]; rfl
theorem divide0_c : PC Tryz.prog 44 [str ⟨#[]⟩] (.tup [str ⟨#[]⟩, str ⟨#[]⟩, boo false]) := by
  refine PC.body (c := Tryz.f44.body.getD .skip) (fun _ => false) mixed Tryz.func44 rfl (by kernel_rfl) ?_
  unfold Tryz.f44
  simp only [Option.getD_some]
  simp only [go_sem]
  refine ⟨fun ρ _ => ρ 0 = str ⟨#[]⟩ ∧ ρ 5 = int 0, fun _ _ => 0, ⟨by simp only [go_sem], by simp only [go_sem]⟩, ?_⟩
  rintro ρ H ⟨e0, e5⟩
  simp only [go_sem, e0, e5]
  refine acond_i (fun hb => absurd hb (by decide)) (fun _ => ?_)
  simp only [go_sem]
  exact .refl _
theorem count0_c : PC Tryz.prog 45 [str ⟨#[]⟩, str ⟨#[10]⟩] (int 0) := by
  refine PC.lib (a := [.string ⟨#[]⟩, .string ⟨#[10]⟩]) (v := .int .i64 0) (fun S w => rfl) fun w ht => ?_
  exact (Tryz.strings_Count_one ⟨#[]⟩ 10 w).mono fun e w' ⟨he, hw⟩ => ⟨he, hw ▸ Below.refl _ _⟩
def scr0 : D.Script := ⟨⟨⟨[], []⟩, [], [], [], []⟩, []⟩
theorem parse0_c : PC Tryz.prog 24 [str ⟨#[]⟩] (.tup [.agg (encScript scr0), int 1, int 3]) := by
  refine PC.body (c := Tryz.f24.body.getD .skip) (fun _ => false) mixed Tryz.func24 rfl (by kernel_rfl) ?_
  unfold Tryz.f24
  simp only [Option.getD_some]
  simp only [go_sem]
  refine anew_g fun r HGr hr0 (R : HGr r = some (⟨44, 7, [encScript scr0]⟩)) N => ?_
  clear N hr0
  simp only [go_sem, R]
  refine acond_i (fun hb => absurd hb (by decide)) (fun _ => ?_)
  simp only [go_sem, R]
  refine PC.use divide0_c ?_
  simp only [go_sem, R]
  refine acond_i (fun _ => ?_) (fun hb => absurd hb (by decide))
  simp only [go_sem, R]
  refine PC.use count0_c ?_
  simp only [go_sem, R]
  refine wputE_n R ⟨by simp, rfl, by simp⟩ ?_
  simp only [go_sem]
  exact .refl _
theorem run0_c : PC Tryz.prog 11 [str ⟨#[]⟩] (.sl [[str ⟨#[108, 105, 110, 101, 32, 49, 32, 51]⟩]]) := by
  refine PC.body (c := Tryz.f11.body.getD .skip) (fun _ => false) mixed Tryz.func11 rfl (by kernel_rfl) ?_
  unfold Tryz.f11
  simp only [Option.getD_some]
  simp only [go_sem]
  refine PC.use parse0_c ?_
  simp only [go_sem]
  refine anew_i fun r hr0 => ?_
  simp only [go_sem]
  refine wputE_v hr0 (by simp [encScript]) fun HGr (R : HGr r = some (⟨44, 7, [encScript scr0]⟩)) N => ?_
  clear N hr0
  simp only [go_sem, R]
  refine acond_i (fun _ => ?_) (fun hb => absurd hb (by decide))
  simp only [go_sem, R]
  refine PC.use (decimalZ_c 1 ⟨by decide, by decide⟩) ?_
  simp only [go_sem]
  refine PC.use (code_c 3 ⟨by decide, by decide⟩) ?_
  simp only [go_sem]
  refine PC.use (tjoin_c [⟨#[108, 105, 110, 101]⟩, decZ 1, decZ 3] (by decide) (by decide +kernel)) ?_
  simp only [go_sem]
  rw [show joinB spB [⟨#[108, 105, 110, 101]⟩, decZ 1, decZ 3] = ⟨#[108, 105, 110, 101, 32, 49, 32, 51]⟩ by decide +kernel]
  exact .refl _
abbrev cellsP (x : Instance) (n : Nat) : List AV := [.sl (x.net.places.map D.encStr), .sl (x.net.arcs.map encArc), .sl (x.types.map encVType), .sl (x.orders.map encOrder), .sl (x.apart.map encPair), .sl (x.before.map encPair), .os n]
abbrev cmdRow (l : List D.Command) : Row := ⟨72, 23, l.map encCommand⟩
theorem program_c (s : D.Script) (hl : s.commands.length ≤ 100) : PC Tryz.prog 7 [.agg (encScript s)] (.agg (encScript s)) := by
  refine PC.body (c := Tryz.f7.body.getD .skip) (fun t => t == 7) mixed Tryz.func7 rfl (by kernel_rfl) ?_
  unfold Tryz.f7
  simp only [Option.getD_some]
  simp only [go_sem]
  refine anew_g fun r2 HGr2 hr20 (R2 : HGr2 r2 = some (⟨44, 7, [encScript scr0]⟩)) N => ?_
  clear N hr20
  simp only [go_sem, R2]
  refine anew_g fun n1 G1 _ _ N => ?_
  replace R2 := N R2
  obtain ⟨q1, R2⟩ := R2
  clear N
  refine anew_g fun n2 G2 _ _ N => ?_
  replace R2 := N R2
  obtain ⟨q2, R2⟩ := R2
  clear N
  refine anew_g fun n3 G3 _ _ N => ?_
  replace R2 := N R2
  obtain ⟨q3, R2⟩ := R2
  clear N
  refine anew_g fun n4 G4 _ _ N => ?_
  replace R2 := N R2
  obtain ⟨q4, R2⟩ := R2
  clear N
  refine anew_g fun n5 G5 _ _ N => ?_
  replace R2 := N R2
  obtain ⟨q5, R2⟩ := R2
  clear N
  refine anew_g fun n6 G6 _ _ N => ?_
  replace R2 := N R2
  obtain ⟨q6, R2⟩ := R2
  clear N
  refine anew_g fun n7 G7 _ (C : G7 n7 = some ⟨72, 23, []⟩) N => ?_
  replace R2 := N R2
  obtain ⟨q7, R2⟩ := R2
  clear N
  refine anew_i fun r3 hr30 => ?_
  simp only [go_sem, R2, C]
  refine wputE_v hr30 (by simp [encInstance]) fun HGr3 (R3 : HGr3 r3 = some (⟨44, 7, [cellsP s.inst n7]⟩)) N => ?_
  replace R2 := N R2
  obtain ⟨ne_r2_r3, R2⟩ := R2
  replace C := N C
  obtain ⟨ne_n7_r3, C⟩ := C
  clear N hr30
  simp only [go_sem, R3, R2, C]
  have h23 : r2 ≠ r3 := ne_r2_r3
  refine ⟨fun ρ H => ∃ (k : Nat) (n : Nat), k ≤ s.commands.length ∧ ρ 1 = .rp (encScript s) 0 ∧ ρ 2 = .op r2 0 0 ∧ ρ 3 = .op r3 0 0 ∧ ρ 4 = int k ∧ H r3 = some ⟨44, 7, [cellsP s.inst n]⟩ ∧ H n = some (cmdRow (s.commands.take k)) ∧ H r2 = some ⟨44, 7, [encScript scr0]⟩ ∧ r3 ≠ n ∧ r2 ≠ n, fun ρ _ => s.commands.length - natOf (ρ 4), ⟨0, n7, Nat.zero_le _, by simp only [go_sem], by simp only [go_sem], by simp only [go_sem], (by simp only [go_sem]; rfl), R3, C, R2, ne_n7_r3.symm, q7⟩, ?_⟩
  rintro ρ H ⟨k, n, hk, e1, e2, e3, e4, R3, C, R2, h3n, h2n⟩
  simp only [go_sem, e1, e2, e3, e4]
  refine acond_i (fun hlt => ?_) (fun hge => ?_)
  · have hlt := ltB hlt
    obtain ⟨y, hy⟩ := getIn hlt
    have b1 := inB hlt
    have hwr := wrapS (show k ≤ 4611686018427387904 by omega)
    simp only [go_sem, e1, e2, e3, e4, R3]
    refine adraw_tj [] (.q 0 (.q 2 (.q 3 (.q 4 (.q 5 (.q 6 (.a2 1 (.a1 7 (.a1 8 (.q 9 (.a1 10 .nil)))) 7 (.a1 1 (.a1 8 (.q 9 (.a1 10 .nil))))))))))) (fun ρ' H' => ρ' 1 = .rp (encScript s) 0 ∧ ρ' 2 = .op r2 0 0 ∧ ρ' 3 = .op r3 0 0 ∧ ρ' 4 = int (k : Nat) ∧ ∃ n', H' r3 = some ⟨44, 7, [cellsP s.inst n']⟩ ∧ H' n' = some (cmdRow (s.commands.take (k + 1))) ∧ H' r2 = some ⟨44, 7, [encScript scr0]⟩ ∧ r3 ≠ n' ∧ r2 ≠ n') (by simp) (by kernel_rfl) (fun K' hK' Hp Hr hp hr _ hr0 => ?_) ?_
    · have Q3 := (hr r3 (by simp)).trans R3
      have QC := (hr n (by simp)).trans C
      have Q2 := (hr r2 (by simp)).trans R2
      have hst : (s.commands.take (k + 1)).map encCommand = (s.commands.take k).map encCommand ++ [encCommand y] := by rw [take_succ hy]; simp
      simp only [go_sem, e1, e2, e3, e4, Q3, getD_map hy, b1]
      refine ⟨?_, ?_⟩
      all_goals
        simp only [go_sem, e1, e2, e3, e4, Q3, getD_map hy, b1]
        refine wappE_i QC ⟨rfl, rfl⟩ (by simp only [go_sem, encCommand]) (by simp only [List.length_map, List.length_cons, List.length_nil, List.length_take]; omega) fun j' hj' => ?_
        have P3 := keep_app (r' := ⟨72, 23, (s.commands.take k).map encCommand ++ [encCommand y]⟩) Q3 h3n.symm hj'
        have P2 := keep_app (r' := ⟨72, 23, (s.commands.take k).map encCommand ++ [encCommand y]⟩) Q2 h2n.symm hj'
        have PC2 : updH (updH Hr n none) j' (some ⟨72, 23, (s.commands.take k).map encCommand ++ [encCommand y]⟩) j' = some (cmdRow (s.commands.take (k + 1))) := by rw [updH_same]; simp only [cmdRow, hst]
        have w3 := ne_new Q3 hj'
        have w2 := ne_new Q2 hj'
        generalize updH (updH Hr n none) j' _ = HQ at *
        simp only [go_sem, e1, e2, e3, e4, P3]
        refine wputE_1 so42 P3 ⟨by simp, rfl, by simp⟩ ?_
        simp only [go_sem, e1, e2, e3, e4]
        refine pinEnd_i fun _ Hm _ hm2 => hK' _ _ ⟨?_, ?_, ?_, ?_, j', ?_, ?_, ?_, w3, w2⟩
        · simp only [go_sem, e1, e2, e3, e4]
        · simp only [go_sem, e1, e2, e3, e4]
        · simp only [go_sem, e1, e2, e3, e4]
        · simp only [go_sem, e1, e2, e3, e4]
        · exact (hm2 r3 (by simp)).trans (updH_same _ _ _)
        · exact (hm2 j' (by simp)).trans ((updH_ne _ _ _ _ w3.symm).trans PC2)
        · exact (hm2 r2 (by simp)).trans ((updH_ne _ _ _ _ h23).trans P2)
    · rintro ρ' H' ⟨e1, e2, e3, e4, n', R3, C, R2, h3n, h2n⟩
      simp only [go_sem, e1, e2, e3, e4, hwr]
      exact ⟨⟨k + 1, n', hlt, rfl, R3, C, R2, h3n, h2n⟩, by simp only [natOf_int]; omega⟩
  have hge := geB hk hge
  subst hge
  rw [List.take_of_length_le (Nat.le_refl _)] at C
  simp only [go_sem, e1, e2, e3, e4, R3]
  refine wputE_n R2 ⟨by simp, rfl, by simp⟩ ?_
  simp only [go_sem, e1, e2, e3, e4]
  have C2 : updH H r2 (some ⟨44, 7, [cellsP s.inst n]⟩) n = some (cmdRow s.commands) := by rw [updH_ne _ _ _ _ h2n.symm]; exact C
  exact .agg _ _ (.cons _ _ _ _ (.refl _) (.cons _ _ _ _ (.refl _) (.cons _ _ _ _ (.refl _) (.cons _ _ _ _ (.refl _) (.cons _ _ _ _ (.refl _) (.cons _ _ _ _ (.refl _) (.cons _ _ _ _ (.row _ _ _ C2 (ConvE.refl _)) .nil)))))))
def rep0 : D.Reply := ⟨0, 7, [⟨3, 0⟩]⟩
theorem rep0_ok : OkR rep0 := ⟨⟨by decide, by decide⟩, ⟨by decide, by decide⟩, by decide, fun i hi => by
  simp only [rep0, List.mem_cons, List.not_mem_nil, or_false] at hi
  subst hi
  exact ⟨⟨by decide, by decide⟩, ⟨by decide, by decide⟩⟩⟩
theorem line0_c : PC Tryz.prog 9 [.agg (encReply rep0)] (str ⟨#[48, 32, 55, 32, 51, 58, 48]⟩) := by
  have := line54_c rep0 rep0_ok
  rwa [show joinB spB (repL rep0) = ⟨#[48, 32, 55, 32, 51, 58, 48]⟩ by decide +kernel] at this
theorem example54_c : PC Tryz.prog 5 [] (boo true) := by
  refine PC.body (c := Tryz.f5.body.getD .skip) (fun _ => false) mixed Tryz.func5 rfl (by kernel_rfl) ?_
  unfold Tryz.f5
  simp only [Option.getD_some]
  simp only [go_sem]
  refine PC.use run0_c ?_
  simp only [go_sem]
  refine ⟨fun _ => by omega, _, fun _ => qi line0_c, ?_⟩
  simp only [go_sem]
  exact cB (by decide +kernel)
theorem scriptPrints_c (s : D.Script) (r : D.Reply) (hl : s.commands.length ≤ 1048576) (hS : smallS s = true → OkS s) (hR : r.items.length ≤ 40 → OkR r) : PC Tryz.prog 3 [.agg (encScript s), .agg (encReply r)] (boo true) := by
  refine PC.body (c := Tryz.f3.body.getD .skip) (fun _ => false) mixed Tryz.func3 rfl (by kernel_rfl) ?_
  unfold Tryz.f3
  simp only [Option.getD_some]
  simp only [go_sem]
  refine PC.use (small_c s hl) ?_
  simp only [go_sem]
  refine acond_i (fun hb => ?_) (fun hb => ?_)
  · simp only [go_sem]
    refine PC.use example54_c ?_
    simp only [go_sem]
    exact .refl _
  have hs : smallS s = true ∧ r.items.length ≤ 40 := by
    cases hx : smallS s with
    | true =>
      rw [hx] at hb
      have h40 : ((r.items.length : Nat) : Int) ≤ 40 := by simpa using hb
      exact ⟨rfl, by omega⟩
    | false => rw [hx] at hb; simp at hb
  have hS := hS hs.1
  have hR := hR hs.2
  simp only [go_sem]
  refine PC.use (program_c s hS.cl) ?_
  simp only [go_sem]
  refine PC.use (sPrint_c s hS) ?_
  simp only [go_sem]
  refine PC.use (refPrint54_c s hS) ?_
  simp only [go_sem]
  refine adraw_m [(0, true), (1, true), (2, true), (3, true), (4, true), (5, true), (6, true), (7, true), (8, true), (9, true), (10, true), (11, true), (12, true), (13, true), (14, true), (15, true), (16, true), (17, true), (18, true)] (by kernel_rfl) ?_
  simp only [go_sem]
  refine ⟨_, fun _ => qi (line54_c r hR), ?_⟩
  simp only [go_sem]
  refine ⟨_, fun _ => qi (refLine54_c r hR), ?_⟩
  simp only [go_sem]
  refine ⟨_, fun _ => .inl ⟨_, .nil, example54_c, rfl⟩, ?_⟩
  simp only [go_sem]
  exact cB (by simp)
end Go.Proofs.YtjohkkigiacbjaaGreatDoor.Sc
