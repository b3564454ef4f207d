/- Texts joined by a program: SkY, SkZ. -/
import Derived.Test.YtmidcjlidploaaaGreatDoorSb29

section
set_option linter.unusedSimpArgs false
set_option linter.unusedVariables false
namespace Go.Proofs.YtmidcjlidploaaaGreatDoor.Sk
open Go.Aw Go.Aw.D Go.Proofs Ty
open Go.Proofs.YtmidcjlidploaaaGreatDoor
open Go.Proofs.YtmidcjlidploaaaGreatDoor.Nw (ltB geB cB)
open Go.Proofs.YtmidcjlidploaaaGreatDoor.Sc hiding wordR
set_option maxRecDepth 100000
theorem read_c {l : List Int} (hl : l.length ≤ 1048576) (h : ∀ n ∈ l, i64B n) : PC Tryz.prog 113 [.sl ((l.map decZ).map D.encStr)] (.tup [.sl (l.map D.encInt), boo true]) := by
  refine PC.body (c := Tryz.f113.body.getD .skip) (fun t => t == 4) mixed Tryz.func113 rfl (by kernel_rfl) ?_
  unfold Tryz.f113
  simp only [Option.getD_some]
  simp only [go_sem]
  refine anew_g fun i HGi hi0 (Ri : HGi i = some (intRow [])) N => ?_
  clear N hi0
  simp only [go_sem, Ri]
  refine ⟨fun ρ H => ∃ (k : Nat) (i : Nat), k ≤ l.length ∧ ρ 9 = .sl ((l.map decZ).map D.encStr) ∧ ρ 10 = int (l.length : Nat) ∧ ρ 11 = int k ∧ ρ 4 = .os i ∧ H i = some (intRow (l.take k)), fun ρ _ => l.length - natOf (ρ 11), ⟨0, i, Nat.zero_le _, by simp only [go_sem], by simp only [go_sem, List.length_map], (by simp only [go_sem]; rfl), by simp only [go_sem], Ri⟩, ?_⟩
  rintro ρ H ⟨k, i, hk, e9, e10, e11, e4, Ri⟩
  simp only [go_sem, e9, e10, e11, e4]
  refine acond_i (fun hlt => ?_) (fun hge => ?_)
  · have hlt := ltB hlt
    obtain ⟨n, hn⟩ := getIn hlt
    have hwr := wrapS (show k ≤ 4611686018427387904 by omega)
    have hst : (l.take (k + 1)).map D.encInt = (l.take k).map D.encInt ++ [D.encInt n] := by rw [take_succ hn]; simp
    have hg : (l.map decZ)[k]? = some (decZ n) := by simp [hn]
    have b1 := inB (show k < (l.map decZ).length by rw [List.length_map]; exact hlt)
    simp only [go_sem, e9, e10, e11, e4, getD_map hg, b1]
    refine PC.use (number_c n (h n (mem_of_get hn))) ?_
    simp only [go_sem, e9, e10, e11, e4]
    refine acond_i (fun h => absurd h (by decide)) (fun _ => ?_)
    simp only [go_sem, e9, e10, e11, e4]
    refine wappE_i Ri ⟨rfl, rfl⟩ (by simp only [go_sem]) (by simp only [List.length_map, List.length_cons, List.length_nil, List.length_take]; omega) fun j' hj' => ?_
    have g1 : updH (updH H i none) j' (some ⟨3, 1, (l.take k).map D.encInt ++ [[int n]]⟩) j' = some (intRow (l.take (k + 1))) := by
      rw [updH_same, intRow, hst]
      rfl
    simp only [go_sem, e9, e10, e11, e4, hwr]
    exact ⟨⟨k + 1, j', hlt, rfl, rfl, g1⟩, by simp only [natOf_int]; omega⟩
  · have hge := geB hk hge
    subst hge
    rw [List.take_of_length_le (Nat.le_refl _)] at Ri
    simp only [go_sem, e9, e10, e11, e4]
    exact .tup _ _ (.cons _ _ _ _ (.row _ _ _ Ri (ConvE.refl _)) (.cons _ _ _ _ (.refl _) .nil))
theorem readOrder_c (o : Order) (h : OkOrder o) (h3 : o.load.length ≤ 3) (hoff : o.off = false) : PC Tryz.prog 112 [.sl ((o.name :: (orderN o).map decZ).map D.encStr)] (.tup [.agg (encOrder o), boo true]) := by
  have hr := read_c (l := orderN o) (by have := (orderN_ok h h3).2; omega) (orderN_ok h h3).1
  obtain ⟨name, load, pick, drop, skills, penalty, split, last, now, off⟩ := o
  simp only at hoff h3
  subst hoff
  refine PC.body (c := Tryz.f112.body.getD .skip) (fun _ => false) mixed Tryz.func112 rfl (by kernel_rfl) ?_
  unfold Tryz.f112
  simp only [Option.getD_some]
  simp only [go_sem]
  refine anew_g fun p G hp (P : G p = some ⟨49, 16, [encOrder ⟨⟨#[]⟩, [], ⟨0, 0, 0, 0⟩, ⟨0, 0, 0, 0⟩, 0, 0, 0, 0, 0, false⟩]⟩) N => ?_
  clear N hp
  match load, h3 with
  | [], _ =>
    have e : orderN ⟨name, [], pick, drop, skills, penalty, split, last, now, false⟩ = [0, pick.place, pick.start, pick.close, pick.service, drop.place, drop.start, drop.close, drop.service, skills, penalty, split, last, now] := rfl
    rw [e] at hr
    rw [e]
    simp only [go_sem, P]
    refine acond_i (fun hb => absurd hb (by decide)) (fun _ => ?_)
    simp only [go_sem, P]
    refine ⟨⟨by omega, by omega⟩, PC.use hr ?_⟩
    simp only [go_sem, P]
    refine ⟨fun _ => ⟨by omega, by omega⟩, fun _ => ⟨by omega, by omega⟩, fun _ => ⟨by omega, by omega⟩, acond_i (fun hb => absurd hb (by decide +kernel)) (fun _ => ?_)⟩
    simp only [go_sem, P]
    refine ⟨⟨by omega, by omega⟩, ?_⟩
    refine anew_g fun q G2 hq (Q : G2 q = some ⟨49, 16, [mixA (encOrder ⟨name, [], pick, drop, skills, penalty, split, last, now, false⟩) (encOrder ⟨⟨#[]⟩, [], ⟨0, 0, 0, 0⟩, ⟨0, 0, 0, 0⟩, 0, 0, 0, 0, 0, false⟩) 0]⟩) N => ?_
    obtain ⟨np, P⟩ := N P
    clear N hq
    simp only [go_sem, P, Q]
    refine putn Q ⟨Nat.zero_lt_one, rfl, Nat.le_of_ble_eq_true rfl⟩ fun G Q1 F => ?_
    replace P := F _ _ np P
    replace Q : G q = some ⟨49, 16, [mixA (encOrder ⟨name, [], pick, drop, skills, penalty, split, last, now, false⟩) (encOrder ⟨⟨#[]⟩, [], ⟨0, 0, 0, 0⟩, ⟨0, 0, 0, 0⟩, 0, 0, 0, 0, 0, false⟩) 1]⟩ := Q1
    clear Q1 F
    simp only [go_sem, P, Q]
    refine ⟨⟨by omega, by omega⟩, ?_⟩
    have hw : IntKind.i64.wrap (1 + 0) = 1 := by decide +kernel
    refine acond_i (fun hb => absurd hb (by decide)) (fun _ => ?_)
    simp only [go_sem, P, Q, hw]
    refine ⟨⟨by omega, by omega⟩, ⟨by omega, by omega⟩, ?_⟩
    refine adraw_m [(0, true), (1, true), (2, true), (3, true), (4, true), (5, true), (6, true), (7, true), (8, true), (9, true), (10, true), (11, true), (12, true), (13, true), (14, false)] (by kernel_rfl) ?_
    simp only [go_sem, P, Q]
    refine ⟨⟨by omega, by omega⟩, ⟨by omega, by omega⟩, ⟨by omega, by omega⟩, ⟨by omega, by omega⟩, ?_⟩
    refine putn Q ⟨Nat.zero_lt_one, rfl, Nat.le_of_ble_eq_true rfl⟩ fun G Q1 F => ?_
    replace P := F _ _ np P
    replace Q : G q = some ⟨49, 16, [mixA (encOrder ⟨name, [], pick, drop, skills, penalty, split, last, now, false⟩) (encOrder ⟨⟨#[]⟩, [], ⟨0, 0, 0, 0⟩, ⟨0, 0, 0, 0⟩, 0, 0, 0, 0, 0, false⟩) 6]⟩ := Q1
    clear Q1 F
    simp only [go_sem, P, Q]
    refine adraw_m [(0, true), (1, true), (2, true), (3, true), (4, true), (5, true), (6, true), (7, true), (8, true), (9, true), (10, true), (11, true), (12, true), (13, true), (14, false)] (by kernel_rfl) ?_
    simp only [go_sem, P, Q]
    refine ⟨⟨by omega, by omega⟩, ⟨by omega, by omega⟩, ⟨by omega, by omega⟩, ⟨by omega, by omega⟩, ?_⟩
    refine putn Q ⟨Nat.zero_lt_one, rfl, Nat.le_of_ble_eq_true rfl⟩ fun G Q1 F => ?_
    replace P := F _ _ np P
    replace Q : G q = some ⟨49, 16, [mixA (encOrder ⟨name, [], pick, drop, skills, penalty, split, last, now, false⟩) (encOrder ⟨⟨#[]⟩, [], ⟨0, 0, 0, 0⟩, ⟨0, 0, 0, 0⟩, 0, 0, 0, 0, 0, false⟩) 10]⟩ := Q1
    clear Q1 F
    simp only [go_sem, P, Q]
    refine adraw_m [(0, true), (1, true), (2, true), (3, true), (4, true), (5, true), (6, true), (7, true), (8, true), (9, true), (10, true), (11, true), (12, true), (13, true), (14, true), (15, true), (16, false), (17, true), (18, false), (19, true), (20, false), (21, true), (22, false), (23, true), (24, false)] (by kernel_rfl) ?_
    simp only [go_sem, P, Q]
    refine ⟨⟨by omega, by omega⟩, ⟨by omega, by omega⟩, ⟨by omega, by omega⟩, ⟨by omega, by omega⟩, ⟨by omega, by omega⟩, ?_⟩
    refine put1 so3 Q ⟨Nat.zero_lt_one, rfl, Nat.le_of_ble_eq_true rfl⟩ fun G Q1 F => ?_
    replace P := F _ _ np P
    replace Q : G q = some ⟨49, 16, [mixA (encOrder ⟨name, [], pick, drop, skills, penalty, split, last, now, false⟩) (encOrder ⟨⟨#[]⟩, [], ⟨0, 0, 0, 0⟩, ⟨0, 0, 0, 0⟩, 0, 0, 0, 0, 0, false⟩) 11]⟩ := Q1
    clear Q1 F
    simp only [go_sem, P, Q]
    refine put1 so3 Q ⟨Nat.zero_lt_one, rfl, Nat.le_of_ble_eq_true rfl⟩ fun G Q1 F => ?_
    replace P := F _ _ np P
    replace Q : G q = some ⟨49, 16, [mixA (encOrder ⟨name, [], pick, drop, skills, penalty, split, last, now, false⟩) (encOrder ⟨⟨#[]⟩, [], ⟨0, 0, 0, 0⟩, ⟨0, 0, 0, 0⟩, 0, 0, 0, 0, 0, false⟩) 12]⟩ := Q1
    clear Q1 F
    simp only [go_sem, P, Q]
    refine put1 so3 Q ⟨Nat.zero_lt_one, rfl, Nat.le_of_ble_eq_true rfl⟩ fun G Q1 F => ?_
    replace P := F _ _ np P
    replace Q : G q = some ⟨49, 16, [mixA (encOrder ⟨name, [], pick, drop, skills, penalty, split, last, now, false⟩) (encOrder ⟨⟨#[]⟩, [], ⟨0, 0, 0, 0⟩, ⟨0, 0, 0, 0⟩, 0, 0, 0, 0, 0, false⟩) 13]⟩ := Q1
    clear Q1 F
    simp only [go_sem, P, Q]
    refine put1 so3 Q ⟨Nat.zero_lt_one, rfl, Nat.le_of_ble_eq_true rfl⟩ fun G Q1 F => ?_
    replace P := F _ _ np P
    replace Q : G q = some ⟨49, 16, [mixA (encOrder ⟨name, [], pick, drop, skills, penalty, split, last, now, false⟩) (encOrder ⟨⟨#[]⟩, [], ⟨0, 0, 0, 0⟩, ⟨0, 0, 0, 0⟩, 0, 0, 0, 0, 0, false⟩) 14]⟩ := Q1
    clear Q1 F
    simp only [go_sem, P, Q]
    refine put1 so3 Q ⟨Nat.zero_lt_one, rfl, Nat.le_of_ble_eq_true rfl⟩ fun G Q1 F => ?_
    replace P := F _ _ np P
    replace Q : G q = some ⟨49, 16, [mixA (encOrder ⟨name, [], pick, drop, skills, penalty, split, last, now, false⟩) (encOrder ⟨⟨#[]⟩, [], ⟨0, 0, 0, 0⟩, ⟨0, 0, 0, 0⟩, 0, 0, 0, 0, 0, false⟩) 15]⟩ := Q1
    clear Q1 F
    simp only [go_sem, P, Q]
    refine putn P ⟨Nat.zero_lt_one, rfl, Nat.le_of_ble_eq_true rfl⟩ fun G P1 F => ?_
    simp only [go_sem, P1]
    exact .refl _
  | [a], _ =>
    have e : orderN ⟨name, [a], pick, drop, skills, penalty, split, last, now, false⟩ = [1, a, pick.place, pick.start, pick.close, pick.service, drop.place, drop.start, drop.close, drop.service, skills, penalty, split, last, now] := rfl
    rw [e] at hr
    rw [e]
    simp only [go_sem, P]
    refine acond_i (fun hb => absurd hb (by decide)) (fun _ => ?_)
    simp only [go_sem, P]
    refine ⟨⟨by omega, by omega⟩, PC.use hr ?_⟩
    simp only [go_sem, P]
    refine ⟨fun _ => ⟨by omega, by omega⟩, fun _ => ⟨by omega, by omega⟩, fun _ => ⟨by omega, by omega⟩, acond_i (fun hb => absurd hb (by decide +kernel)) (fun _ => ?_)⟩
    simp only [go_sem, P]
    refine ⟨⟨by omega, by omega⟩, ?_⟩
    refine anew_g fun q G2 hq (Q : G2 q = some ⟨49, 16, [mixA (encOrder ⟨name, [a], pick, drop, skills, penalty, split, last, now, false⟩) (encOrder ⟨⟨#[]⟩, [], ⟨0, 0, 0, 0⟩, ⟨0, 0, 0, 0⟩, 0, 0, 0, 0, 0, false⟩) 0]⟩) N => ?_
    obtain ⟨np, P⟩ := N P
    clear N hq
    simp only [go_sem, P, Q]
    refine putn Q ⟨Nat.zero_lt_one, rfl, Nat.le_of_ble_eq_true rfl⟩ fun G Q1 F => ?_
    replace P := F _ _ np P
    replace Q : G q = some ⟨49, 16, [mixA (encOrder ⟨name, [a], pick, drop, skills, penalty, split, last, now, false⟩) (encOrder ⟨⟨#[]⟩, [], ⟨0, 0, 0, 0⟩, ⟨0, 0, 0, 0⟩, 0, 0, 0, 0, 0, false⟩) 1]⟩ := Q1
    clear Q1 F
    simp only [go_sem, P, Q]
    refine ⟨⟨by omega, by omega⟩, ?_⟩
    have hw : IntKind.i64.wrap (1 + 1) = 2 := by decide +kernel
    refine acond_i (fun _ => ?_) (fun hb => absurd hb (by decide))
    simp only [go_sem, P, Q, hw]
    refine ⟨⟨by omega, by omega⟩, ⟨by omega, by omega⟩, ?_⟩
    refine put1 so45 Q ⟨Nat.zero_lt_one, rfl, Nat.le_of_ble_eq_true rfl⟩ fun G Q1 F => ?_
    replace P := F _ _ np P
    replace Q : G q = some ⟨49, 16, [mixA (encOrder ⟨name, [a], pick, drop, skills, penalty, split, last, now, false⟩) (encOrder ⟨⟨#[]⟩, [], ⟨0, 0, 0, 0⟩, ⟨0, 0, 0, 0⟩, 0, 0, 0, 0, 0, false⟩) 2]⟩ := Q1
    clear Q1 F
    simp only [go_sem, P, Q, hw]
    refine ⟨⟨by omega, by omega⟩, ⟨by omega, by omega⟩, ?_⟩
    refine adraw_m [(0, true), (1, true), (2, true), (3, true), (4, true), (5, true), (6, true), (7, true), (8, true), (9, true), (10, true), (11, true), (12, true), (13, true), (14, false)] (by kernel_rfl) ?_
    simp only [go_sem, P, Q]
    refine ⟨⟨by omega, by omega⟩, ⟨by omega, by omega⟩, ⟨by omega, by omega⟩, ⟨by omega, by omega⟩, ?_⟩
    refine putn Q ⟨Nat.zero_lt_one, rfl, Nat.le_of_ble_eq_true rfl⟩ fun G Q1 F => ?_
    replace P := F _ _ np P
    replace Q : G q = some ⟨49, 16, [mixA (encOrder ⟨name, [a], pick, drop, skills, penalty, split, last, now, false⟩) (encOrder ⟨⟨#[]⟩, [], ⟨0, 0, 0, 0⟩, ⟨0, 0, 0, 0⟩, 0, 0, 0, 0, 0, false⟩) 6]⟩ := Q1
    clear Q1 F
    simp only [go_sem, P, Q]
    refine adraw_m [(0, true), (1, true), (2, true), (3, true), (4, true), (5, true), (6, true), (7, true), (8, true), (9, true), (10, true), (11, true), (12, true), (13, true), (14, false)] (by kernel_rfl) ?_
    simp only [go_sem, P, Q]
    refine ⟨⟨by omega, by omega⟩, ⟨by omega, by omega⟩, ⟨by omega, by omega⟩, ⟨by omega, by omega⟩, ?_⟩
    refine putn Q ⟨Nat.zero_lt_one, rfl, Nat.le_of_ble_eq_true rfl⟩ fun G Q1 F => ?_
    replace P := F _ _ np P
    replace Q : G q = some ⟨49, 16, [mixA (encOrder ⟨name, [a], pick, drop, skills, penalty, split, last, now, false⟩) (encOrder ⟨⟨#[]⟩, [], ⟨0, 0, 0, 0⟩, ⟨0, 0, 0, 0⟩, 0, 0, 0, 0, 0, false⟩) 10]⟩ := Q1
    clear Q1 F
    simp only [go_sem, P, Q]
    refine adraw_m [(0, true), (1, true), (2, true), (3, true), (4, true), (5, true), (6, true), (7, true), (8, true), (9, true), (10, true), (11, true), (12, true), (13, true), (14, true), (15, true), (16, false), (17, true), (18, false), (19, true), (20, false), (21, true), (22, false), (23, true), (24, false)] (by kernel_rfl) ?_
    simp only [go_sem, P, Q]
    refine ⟨⟨by omega, by omega⟩, ⟨by omega, by omega⟩, ⟨by omega, by omega⟩, ⟨by omega, by omega⟩, ⟨by omega, by omega⟩, ?_⟩
    refine put1 so3 Q ⟨Nat.zero_lt_one, rfl, Nat.le_of_ble_eq_true rfl⟩ fun G Q1 F => ?_
    replace P := F _ _ np P
    replace Q : G q = some ⟨49, 16, [mixA (encOrder ⟨name, [a], pick, drop, skills, penalty, split, last, now, false⟩) (encOrder ⟨⟨#[]⟩, [], ⟨0, 0, 0, 0⟩, ⟨0, 0, 0, 0⟩, 0, 0, 0, 0, 0, false⟩) 11]⟩ := Q1
    clear Q1 F
    simp only [go_sem, P, Q]
    refine put1 so3 Q ⟨Nat.zero_lt_one, rfl, Nat.le_of_ble_eq_true rfl⟩ fun G Q1 F => ?_
    replace P := F _ _ np P
    replace Q : G q = some ⟨49, 16, [mixA (encOrder ⟨name, [a], pick, drop, skills, penalty, split, last, now, false⟩) (encOrder ⟨⟨#[]⟩, [], ⟨0, 0, 0, 0⟩, ⟨0, 0, 0, 0⟩, 0, 0, 0, 0, 0, false⟩) 12]⟩ := Q1
    clear Q1 F
    simp only [go_sem, P, Q]
    refine put1 so3 Q ⟨Nat.zero_lt_one, rfl, Nat.le_of_ble_eq_true rfl⟩ fun G Q1 F => ?_
    replace P := F _ _ np P
    replace Q : G q = some ⟨49, 16, [mixA (encOrder ⟨name, [a], pick, drop, skills, penalty, split, last, now, false⟩) (encOrder ⟨⟨#[]⟩, [], ⟨0, 0, 0, 0⟩, ⟨0, 0, 0, 0⟩, 0, 0, 0, 0, 0, false⟩) 13]⟩ := Q1
    clear Q1 F
    simp only [go_sem, P, Q]
    refine put1 so3 Q ⟨Nat.zero_lt_one, rfl, Nat.le_of_ble_eq_true rfl⟩ fun G Q1 F => ?_
    replace P := F _ _ np P
    replace Q : G q = some ⟨49, 16, [mixA (encOrder ⟨name, [a], pick, drop, skills, penalty, split, last, now, false⟩) (encOrder ⟨⟨#[]⟩, [], ⟨0, 0, 0, 0⟩, ⟨0, 0, 0, 0⟩, 0, 0, 0, 0, 0, false⟩) 14]⟩ := Q1
    clear Q1 F
    simp only [go_sem, P, Q]
    refine put1 so3 Q ⟨Nat.zero_lt_one, rfl, Nat.le_of_ble_eq_true rfl⟩ fun G Q1 F => ?_
    replace P := F _ _ np P
    replace Q : G q = some ⟨49, 16, [mixA (encOrder ⟨name, [a], pick, drop, skills, penalty, split, last, now, false⟩) (encOrder ⟨⟨#[]⟩, [], ⟨0, 0, 0, 0⟩, ⟨0, 0, 0, 0⟩, 0, 0, 0, 0, 0, false⟩) 15]⟩ := Q1
    clear Q1 F
    simp only [go_sem, P, Q]
    refine putn P ⟨Nat.zero_lt_one, rfl, Nat.le_of_ble_eq_true rfl⟩ fun G P1 F => ?_
    simp only [go_sem, P1]
    exact .refl _
  | [a, b], _ =>
    have e : orderN ⟨name, [a, b], pick, drop, skills, penalty, split, last, now, false⟩ = [2, a, b, pick.place, pick.start, pick.close, pick.service, drop.place, drop.start, drop.close, drop.service, skills, penalty, split, last, now] := rfl
    rw [e] at hr
    rw [e]
    simp only [go_sem, P]
    refine acond_i (fun hb => absurd hb (by decide)) (fun _ => ?_)
    simp only [go_sem, P]
    refine ⟨⟨by omega, by omega⟩, PC.use hr ?_⟩
    simp only [go_sem, P]
    refine ⟨fun _ => ⟨by omega, by omega⟩, fun _ => ⟨by omega, by omega⟩, fun _ => ⟨by omega, by omega⟩, acond_i (fun hb => absurd hb (by decide +kernel)) (fun _ => ?_)⟩
    simp only [go_sem, P]
    refine ⟨⟨by omega, by omega⟩, ?_⟩
    refine anew_g fun q G2 hq (Q : G2 q = some ⟨49, 16, [mixA (encOrder ⟨name, [a, b], pick, drop, skills, penalty, split, last, now, false⟩) (encOrder ⟨⟨#[]⟩, [], ⟨0, 0, 0, 0⟩, ⟨0, 0, 0, 0⟩, 0, 0, 0, 0, 0, false⟩) 0]⟩) N => ?_
    obtain ⟨np, P⟩ := N P
    clear N hq
    simp only [go_sem, P, Q]
    refine putn Q ⟨Nat.zero_lt_one, rfl, Nat.le_of_ble_eq_true rfl⟩ fun G Q1 F => ?_
    replace P := F _ _ np P
    replace Q : G q = some ⟨49, 16, [mixA (encOrder ⟨name, [a, b], pick, drop, skills, penalty, split, last, now, false⟩) (encOrder ⟨⟨#[]⟩, [], ⟨0, 0, 0, 0⟩, ⟨0, 0, 0, 0⟩, 0, 0, 0, 0, 0, false⟩) 1]⟩ := Q1
    clear Q1 F
    simp only [go_sem, P, Q]
    refine ⟨⟨by omega, by omega⟩, ?_⟩
    have hw : IntKind.i64.wrap (1 + 2) = 3 := by decide +kernel
    refine acond_i (fun _ => ?_) (fun hb => absurd hb (by decide))
    simp only [go_sem, P, Q, hw]
    refine ⟨⟨by omega, by omega⟩, ⟨by omega, by omega⟩, ?_⟩
    refine put1 so45 Q ⟨Nat.zero_lt_one, rfl, Nat.le_of_ble_eq_true rfl⟩ fun G Q1 F => ?_
    replace P := F _ _ np P
    replace Q : G q = some ⟨49, 16, [mixA (encOrder ⟨name, [a, b], pick, drop, skills, penalty, split, last, now, false⟩) (encOrder ⟨⟨#[]⟩, [], ⟨0, 0, 0, 0⟩, ⟨0, 0, 0, 0⟩, 0, 0, 0, 0, 0, false⟩) 2]⟩ := Q1
    clear Q1 F
    simp only [go_sem, P, Q, hw]
    refine ⟨⟨by omega, by omega⟩, ⟨by omega, by omega⟩, ?_⟩
    refine adraw_m [(0, true), (1, true), (2, true), (3, true), (4, true), (5, true), (6, true), (7, true), (8, true), (9, true), (10, true), (11, true), (12, true), (13, true), (14, false)] (by kernel_rfl) ?_
    simp only [go_sem, P, Q]
    refine ⟨⟨by omega, by omega⟩, ⟨by omega, by omega⟩, ⟨by omega, by omega⟩, ⟨by omega, by omega⟩, ?_⟩
    refine putn Q ⟨Nat.zero_lt_one, rfl, Nat.le_of_ble_eq_true rfl⟩ fun G Q1 F => ?_
    replace P := F _ _ np P
    replace Q : G q = some ⟨49, 16, [mixA (encOrder ⟨name, [a, b], pick, drop, skills, penalty, split, last, now, false⟩) (encOrder ⟨⟨#[]⟩, [], ⟨0, 0, 0, 0⟩, ⟨0, 0, 0, 0⟩, 0, 0, 0, 0, 0, false⟩) 6]⟩ := Q1
    clear Q1 F
    simp only [go_sem, P, Q]
    refine adraw_m [(0, true), (1, true), (2, true), (3, true), (4, true), (5, true), (6, true), (7, true), (8, true), (9, true), (10, true), (11, true), (12, true), (13, true), (14, false)] (by kernel_rfl) ?_
    simp only [go_sem, P, Q]
    refine ⟨⟨by omega, by omega⟩, ⟨by omega, by omega⟩, ⟨by omega, by omega⟩, ⟨by omega, by omega⟩, ?_⟩
    refine putn Q ⟨Nat.zero_lt_one, rfl, Nat.le_of_ble_eq_true rfl⟩ fun G Q1 F => ?_
    replace P := F _ _ np P
    replace Q : G q = some ⟨49, 16, [mixA (encOrder ⟨name, [a, b], pick, drop, skills, penalty, split, last, now, false⟩) (encOrder ⟨⟨#[]⟩, [], ⟨0, 0, 0, 0⟩, ⟨0, 0, 0, 0⟩, 0, 0, 0, 0, 0, false⟩) 10]⟩ := Q1
    clear Q1 F
    simp only [go_sem, P, Q]
    refine adraw_m [(0, true), (1, true), (2, true), (3, true), (4, true), (5, true), (6, true), (7, true), (8, true), (9, true), (10, true), (11, true), (12, true), (13, true), (14, true), (15, true), (16, false), (17, true), (18, false), (19, true), (20, false), (21, true), (22, false), (23, true), (24, false)] (by kernel_rfl) ?_
    simp only [go_sem, P, Q]
    refine ⟨⟨by omega, by omega⟩, ⟨by omega, by omega⟩, ⟨by omega, by omega⟩, ⟨by omega, by omega⟩, ⟨by omega, by omega⟩, ?_⟩
    refine put1 so3 Q ⟨Nat.zero_lt_one, rfl, Nat.le_of_ble_eq_true rfl⟩ fun G Q1 F => ?_
    replace P := F _ _ np P
    replace Q : G q = some ⟨49, 16, [mixA (encOrder ⟨name, [a, b], pick, drop, skills, penalty, split, last, now, false⟩) (encOrder ⟨⟨#[]⟩, [], ⟨0, 0, 0, 0⟩, ⟨0, 0, 0, 0⟩, 0, 0, 0, 0, 0, false⟩) 11]⟩ := Q1
    clear Q1 F
    simp only [go_sem, P, Q]
    refine put1 so3 Q ⟨Nat.zero_lt_one, rfl, Nat.le_of_ble_eq_true rfl⟩ fun G Q1 F => ?_
    replace P := F _ _ np P
    replace Q : G q = some ⟨49, 16, [mixA (encOrder ⟨name, [a, b], pick, drop, skills, penalty, split, last, now, false⟩) (encOrder ⟨⟨#[]⟩, [], ⟨0, 0, 0, 0⟩, ⟨0, 0, 0, 0⟩, 0, 0, 0, 0, 0, false⟩) 12]⟩ := Q1
    clear Q1 F
    simp only [go_sem, P, Q]
    refine put1 so3 Q ⟨Nat.zero_lt_one, rfl, Nat.le_of_ble_eq_true rfl⟩ fun G Q1 F => ?_
    replace P := F _ _ np P
    replace Q : G q = some ⟨49, 16, [mixA (encOrder ⟨name, [a, b], pick, drop, skills, penalty, split, last, now, false⟩) (encOrder ⟨⟨#[]⟩, [], ⟨0, 0, 0, 0⟩, ⟨0, 0, 0, 0⟩, 0, 0, 0, 0, 0, false⟩) 13]⟩ := Q1
    clear Q1 F
    simp only [go_sem, P, Q]
    refine put1 so3 Q ⟨Nat.zero_lt_one, rfl, Nat.le_of_ble_eq_true rfl⟩ fun G Q1 F => ?_
    replace P := F _ _ np P
    replace Q : G q = some ⟨49, 16, [mixA (encOrder ⟨name, [a, b], pick, drop, skills, penalty, split, last, now, false⟩) (encOrder ⟨⟨#[]⟩, [], ⟨0, 0, 0, 0⟩, ⟨0, 0, 0, 0⟩, 0, 0, 0, 0, 0, false⟩) 14]⟩ := Q1
    clear Q1 F
    simp only [go_sem, P, Q]
    refine put1 so3 Q ⟨Nat.zero_lt_one, rfl, Nat.le_of_ble_eq_true rfl⟩ fun G Q1 F => ?_
    replace P := F _ _ np P
    replace Q : G q = some ⟨49, 16, [mixA (encOrder ⟨name, [a, b], pick, drop, skills, penalty, split, last, now, false⟩) (encOrder ⟨⟨#[]⟩, [], ⟨0, 0, 0, 0⟩, ⟨0, 0, 0, 0⟩, 0, 0, 0, 0, 0, false⟩) 15]⟩ := Q1
    clear Q1 F
    simp only [go_sem, P, Q]
    refine putn P ⟨Nat.zero_lt_one, rfl, Nat.le_of_ble_eq_true rfl⟩ fun G P1 F => ?_
    simp only [go_sem, P1]
    exact .refl _
  | [a, b, c], _ =>
    have e : orderN ⟨name, [a, b, c], pick, drop, skills, penalty, split, last, now, false⟩ = [3, a, b, c, pick.place, pick.start, pick.close, pick.service, drop.place, drop.start, drop.close, drop.service, skills, penalty, split, last, now] := rfl
    rw [e] at hr
    rw [e]
    simp only [go_sem, P]
    refine acond_i (fun hb => absurd hb (by decide)) (fun _ => ?_)
    simp only [go_sem, P]
    refine ⟨⟨by omega, by omega⟩, PC.use hr ?_⟩
    simp only [go_sem, P]
    refine ⟨fun _ => ⟨by omega, by omega⟩, fun _ => ⟨by omega, by omega⟩, fun _ => ⟨by omega, by omega⟩, acond_i (fun hb => absurd hb (by decide +kernel)) (fun _ => ?_)⟩
    simp only [go_sem, P]
    refine ⟨⟨by omega, by omega⟩, ?_⟩
    refine anew_g fun q G2 hq (Q : G2 q = some ⟨49, 16, [mixA (encOrder ⟨name, [a, b, c], pick, drop, skills, penalty, split, last, now, false⟩) (encOrder ⟨⟨#[]⟩, [], ⟨0, 0, 0, 0⟩, ⟨0, 0, 0, 0⟩, 0, 0, 0, 0, 0, false⟩) 0]⟩) N => ?_
    obtain ⟨np, P⟩ := N P
    clear N hq
    simp only [go_sem, P, Q]
    refine putn Q ⟨Nat.zero_lt_one, rfl, Nat.le_of_ble_eq_true rfl⟩ fun G Q1 F => ?_
    replace P := F _ _ np P
    replace Q : G q = some ⟨49, 16, [mixA (encOrder ⟨name, [a, b, c], pick, drop, skills, penalty, split, last, now, false⟩) (encOrder ⟨⟨#[]⟩, [], ⟨0, 0, 0, 0⟩, ⟨0, 0, 0, 0⟩, 0, 0, 0, 0, 0, false⟩) 1]⟩ := Q1
    clear Q1 F
    simp only [go_sem, P, Q]
    refine ⟨⟨by omega, by omega⟩, ?_⟩
    have hw : IntKind.i64.wrap (1 + 3) = 4 := by decide +kernel
    refine acond_i (fun _ => ?_) (fun hb => absurd hb (by decide))
    simp only [go_sem, P, Q, hw]
    refine ⟨⟨by omega, by omega⟩, ⟨by omega, by omega⟩, ?_⟩
    refine put1 so45 Q ⟨Nat.zero_lt_one, rfl, Nat.le_of_ble_eq_true rfl⟩ fun G Q1 F => ?_
    replace P := F _ _ np P
    replace Q : G q = some ⟨49, 16, [mixA (encOrder ⟨name, [a, b, c], pick, drop, skills, penalty, split, last, now, false⟩) (encOrder ⟨⟨#[]⟩, [], ⟨0, 0, 0, 0⟩, ⟨0, 0, 0, 0⟩, 0, 0, 0, 0, 0, false⟩) 2]⟩ := Q1
    clear Q1 F
    simp only [go_sem, P, Q, hw]
    refine ⟨⟨by omega, by omega⟩, ⟨by omega, by omega⟩, ?_⟩
    refine adraw_m [(0, true), (1, true), (2, true), (3, true), (4, true), (5, true), (6, true), (7, true), (8, true), (9, true), (10, true), (11, true), (12, true), (13, true), (14, false)] (by kernel_rfl) ?_
    simp only [go_sem, P, Q]
    refine ⟨⟨by omega, by omega⟩, ⟨by omega, by omega⟩, ⟨by omega, by omega⟩, ⟨by omega, by omega⟩, ?_⟩
    refine putn Q ⟨Nat.zero_lt_one, rfl, Nat.le_of_ble_eq_true rfl⟩ fun G Q1 F => ?_
    replace P := F _ _ np P
    replace Q : G q = some ⟨49, 16, [mixA (encOrder ⟨name, [a, b, c], pick, drop, skills, penalty, split, last, now, false⟩) (encOrder ⟨⟨#[]⟩, [], ⟨0, 0, 0, 0⟩, ⟨0, 0, 0, 0⟩, 0, 0, 0, 0, 0, false⟩) 6]⟩ := Q1
    clear Q1 F
    simp only [go_sem, P, Q]
    refine adraw_m [(0, true), (1, true), (2, true), (3, true), (4, true), (5, true), (6, true), (7, true), (8, true), (9, true), (10, true), (11, true), (12, true), (13, true), (14, false)] (by kernel_rfl) ?_
    simp only [go_sem, P, Q]
    refine ⟨⟨by omega, by omega⟩, ⟨by omega, by omega⟩, ⟨by omega, by omega⟩, ⟨by omega, by omega⟩, ?_⟩
    refine putn Q ⟨Nat.zero_lt_one, rfl, Nat.le_of_ble_eq_true rfl⟩ fun G Q1 F => ?_
    replace P := F _ _ np P
    replace Q : G q = some ⟨49, 16, [mixA (encOrder ⟨name, [a, b, c], pick, drop, skills, penalty, split, last, now, false⟩) (encOrder ⟨⟨#[]⟩, [], ⟨0, 0, 0, 0⟩, ⟨0, 0, 0, 0⟩, 0, 0, 0, 0, 0, false⟩) 10]⟩ := Q1
    clear Q1 F
    simp only [go_sem, P, Q]
    refine adraw_m [(0, true), (1, true), (2, true), (3, true), (4, true), (5, true), (6, true), (7, true), (8, true), (9, true), (10, true), (11, true), (12, true), (13, true), (14, true), (15, true), (16, false), (17, true), (18, false), (19, true), (20, false), (21, true), (22, false), (23, true), (24, false)] (by kernel_rfl) ?_
    simp only [go_sem, P, Q]
    refine ⟨⟨by omega, by omega⟩, ⟨by omega, by omega⟩, ⟨by omega, by omega⟩, ⟨by omega, by omega⟩, ⟨by omega, by omega⟩, ?_⟩
    refine put1 so3 Q ⟨Nat.zero_lt_one, rfl, Nat.le_of_ble_eq_true rfl⟩ fun G Q1 F => ?_
    replace P := F _ _ np P
    replace Q : G q = some ⟨49, 16, [mixA (encOrder ⟨name, [a, b, c], pick, drop, skills, penalty, split, last, now, false⟩) (encOrder ⟨⟨#[]⟩, [], ⟨0, 0, 0, 0⟩, ⟨0, 0, 0, 0⟩, 0, 0, 0, 0, 0, false⟩) 11]⟩ := Q1
    clear Q1 F
    simp only [go_sem, P, Q]
    refine put1 so3 Q ⟨Nat.zero_lt_one, rfl, Nat.le_of_ble_eq_true rfl⟩ fun G Q1 F => ?_
    replace P := F _ _ np P
    replace Q : G q = some ⟨49, 16, [mixA (encOrder ⟨name, [a, b, c], pick, drop, skills, penalty, split, last, now, false⟩) (encOrder ⟨⟨#[]⟩, [], ⟨0, 0, 0, 0⟩, ⟨0, 0, 0, 0⟩, 0, 0, 0, 0, 0, false⟩) 12]⟩ := Q1
    clear Q1 F
    simp only [go_sem, P, Q]
    refine put1 so3 Q ⟨Nat.zero_lt_one, rfl, Nat.le_of_ble_eq_true rfl⟩ fun G Q1 F => ?_
    replace P := F _ _ np P
    replace Q : G q = some ⟨49, 16, [mixA (encOrder ⟨name, [a, b, c], pick, drop, skills, penalty, split, last, now, false⟩) (encOrder ⟨⟨#[]⟩, [], ⟨0, 0, 0, 0⟩, ⟨0, 0, 0, 0⟩, 0, 0, 0, 0, 0, false⟩) 13]⟩ := Q1
    clear Q1 F
    simp only [go_sem, P, Q]
    refine put1 so3 Q ⟨Nat.zero_lt_one, rfl, Nat.le_of_ble_eq_true rfl⟩ fun G Q1 F => ?_
    replace P := F _ _ np P
    replace Q : G q = some ⟨49, 16, [mixA (encOrder ⟨name, [a, b, c], pick, drop, skills, penalty, split, last, now, false⟩) (encOrder ⟨⟨#[]⟩, [], ⟨0, 0, 0, 0⟩, ⟨0, 0, 0, 0⟩, 0, 0, 0, 0, 0, false⟩) 14]⟩ := Q1
    clear Q1 F
    simp only [go_sem, P, Q]
    refine put1 so3 Q ⟨Nat.zero_lt_one, rfl, Nat.le_of_ble_eq_true rfl⟩ fun G Q1 F => ?_
    replace P := F _ _ np P
    replace Q : G q = some ⟨49, 16, [mixA (encOrder ⟨name, [a, b, c], pick, drop, skills, penalty, split, last, now, false⟩) (encOrder ⟨⟨#[]⟩, [], ⟨0, 0, 0, 0⟩, ⟨0, 0, 0, 0⟩, 0, 0, 0, 0, 0, false⟩) 15]⟩ := Q1
    clear Q1 F
    simp only [go_sem, P, Q]
    refine putn P ⟨Nat.zero_lt_one, rfl, Nat.le_of_ble_eq_true rfl⟩ fun G P1 F => ?_
    simp only [go_sem, P1]
    exact .refl _
  | _ :: _ :: _ :: _ :: _, h3 => simp at h3
end Go.Proofs.YtmidcjlidploaaaGreatDoor.Sk
end

section
set_option linter.unusedSimpArgs false
set_option linter.unusedVariables false
namespace Go.Proofs.YtmidcjlidploaaaGreatDoor.Sk
open Go.Aw Go.Aw.D Go.Proofs Ty
open Go.Proofs.YtmidcjlidploaaaGreatDoor
open Go.Proofs.YtmidcjlidploaaaGreatDoor.Nw (ltB geB cB)
open Go.Proofs.YtmidcjlidploaaaGreatDoor.Sc hiding wordR
set_option maxRecDepth 100000
theorem kinds_ne : ∀ j < 6, ∀ k < 6, 0 < j → 0 < k → ((Sc.wordR (j : Nat)).toList == (Sc.wordR (k : Nat)).toList) = decide (j = k) := by decide +kernel
def o0 : Order := ⟨⟨#[]⟩, [], ⟨0, 0, 0, 0⟩, ⟨0, 0, 0, 0⟩, 0, 0, 0, 0, 0, false⟩
theorem zeroStp_eq {s : Stop} (h : zeroStp s = true) : s = ⟨0, 0, 0, 0⟩ := by
  obtain ⟨p, a, c, d⟩ := s
  unfold zeroStp at h
  simp at h
  simp [h]
theorem zeroO_eq {o : Order} (h : zeroO o = true) : o = o0 := by
  obtain ⟨name, load, pick, drop, skills, penalty, split, last, now, off⟩ := o
  unfold zeroO at h
  simp only [Bool.and_eq_true, beq_iff_eq, Bool.not_eq_true'] at h
  obtain ⟨⟨⟨⟨⟨⟨⟨⟨⟨h1, h2⟩, h3⟩, h4⟩, h5⟩, h6⟩, h7⟩, h8⟩, h9⟩, h10⟩ := h
  have e1 : name = ⟨#[]⟩ := by
    rw [Lib.toList_data, Lib.toList_data] at h1
    exact ByteArray.ext (Array.ext' h1)
  have e2 : load = [] := List.length_eq_zero_iff.1 (by omega)
  rw [e1, e2, zeroStp_eq h3, zeroStp_eq h4, h5, h6, h7, h8, h9, h10]
  rfl
abbrev evRow (at_ kind a b n : Int) (o : Order) : Row := ⟨51, 21, [encEvent ⟨at_, kind, a, b, n, o⟩]⟩
def PE (kind : Nat) (ws : List ByteArray) (e : D.Event) : Prop :=
  (kind = 1 ∧ ∃ t o, i64B t ∧ OkOrder o ∧ o.load.length ≤ 3 ∧ o.off = false ∧ ws = decZ t :: o.name :: (orderN o).map decZ ∧ e = ⟨t, 1, 0, 0, 0, o⟩) ∨
  (kind = 2 ∧ ∃ t a, i64B t ∧ i64B a ∧ ws = [decZ t, decZ a] ∧ e = ⟨t, 2, a, 0, 0, o0⟩) ∨
  (kind = 3 ∧ ∃ t a b n, i64B t ∧ i64B a ∧ i64B b ∧ i64B n ∧ ws = [decZ t, decZ a, decZ b, decZ n] ∧ e = ⟨t, 3, a, b, n, o0⟩) ∨
  (kind = 4 ∧ ∃ t a, i64B t ∧ i64B a ∧ ws = [decZ t, decZ a] ∧ e = ⟨t, 4, a, 0, 0, o0⟩) ∨
  (kind = 5 ∧ ∃ t a n, i64B t ∧ i64B a ∧ i64B n ∧ ws = [decZ t, decZ a, decZ n] ∧ e = ⟨t, 5, a, 0, n, o0⟩)
theorem PE.pos {kind : Nat} {ws : List ByteArray} {e : D.Event} (h : PE kind ws e) : 0 < kind ∧ kind < 6 ∧ 0 < ws.length ∧ ws.length ≤ 100 := by
  rcases h with ⟨rfl, t, o, h1, h2, h3, _, rfl, _⟩ | ⟨rfl, _, _, _, _, rfl, _⟩ | ⟨rfl, _, _, _, _, _, _, _, _, rfl, _⟩ | ⟨rfl, _, _, _, _, rfl, _⟩ | ⟨rfl, _, _, _, _, _, _, rfl, _⟩
  · have := (orderN_ok h2 h3).2
    simp only [List.length_cons, List.length_map]
    omega
  all_goals simp
theorem parse_c {ws : List ByteArray} {e : D.Event} {kind : Nat} (h : PE kind ws e) : PC Tryz.prog 76 [.sl ((Sc.wordR (kind : Nat) :: ws).map D.encStr)] (.tup [.agg (encEvent e), boo true]) := by
  obtain ⟨hk0, hk6, hpos, hl⟩ := h.pos
  refine PC.body (c := Tryz.f76.body.getD .skip) (fun _ => false) mixed Tryz.func76 rfl (by kernel_rfl) ?_
  unfold Tryz.f76
  simp only [Option.getD_some]
  simp only [go_sem]
  refine anew_g fun p G hp (P : G p = some (evRow 0 0 0 0 0 o0)) N => ?_
  clear N hp
  simp only [go_sem, P]
  refine acond_i (fun hb => absurd (of_decide_eq_true hb) (by omega)) (fun _ => ?_)
  simp only [go_sem, P]
  refine ⟨fun ρ H => ∃ (j : Nat), 0 < j ∧ j < 7 ∧ ρ 0 = .sl ((Sc.wordR (kind : Nat) :: ws).map D.encStr) ∧ ρ 2 = .op p 0 0 ∧ ρ 4 = int (if kind < j then kind else 0 : Nat) ∧ ρ 5 = int j ∧ H p = some (evRow 0 0 0 0 0 o0), fun ρ _ => 7 - natOf (ρ 5), ⟨1, by decide, by decide, by simp only [go_sem, List.map_cons], by simp only [go_sem], by rw [if_neg (by omega)]; simp only [go_sem]; rfl, (by simp only [go_sem]; rfl), P⟩, ?_⟩
  clear P
  rintro ρ H ⟨j, hj0, hj7, e0, e2, e4, e5, P⟩
  simp only [go_sem, e0, e2, e4, e5]
  refine acond_i (fun hlt => ?_) (fun hge => ?_)
  · have hlt : j < 6 := by have := of_decide_eq_true hlt; omega
    have hwr := wrapS (show j ≤ 4611686018427387904 by omega)
    simp only [go_sem, e0, e2, e4, e5]
    refine adraw_m [(0, true), (1, true), (2, true), (3, true), (4, true), (5, true)] (by kernel_rfl) ?_
    simp only [go_sem, e0, e2, e4, e5]
    refine ⟨_, (eword_c (j : Nat)).q rfl, ?_⟩
    simp only [go_sem, e0, e2, e4, e5]
    refine ⟨⟨by omega, by omega⟩, ?_⟩
    rw [kinds_ne j hlt kind hk6 hj0 hk0]
    by_cases hjk : j = kind
    · refine acond_i (fun _ => ?_) (fun hb => absurd (of_decide_eq_false hb) (by omega))
      simp only [go_sem, e0, e2, e4, e5, hwr]
      exact ⟨⟨j + 1, by omega, by omega, by rw [if_pos (by omega), hjk], rfl, P⟩, by simp only [natOf_int]; omega⟩
    · refine acond_i (fun hb => absurd (of_decide_eq_true hb) hjk) (fun _ => ?_)
      simp only [go_sem, e0, e2, e4, e5, hwr]
      refine ⟨⟨j + 1, by omega, by omega, ?_, rfl, P⟩, by simp only [natOf_int]; omega⟩
      congr 3
      exact propext ⟨fun _ => by omega, fun _ => by omega⟩
  have hj : j = 6 := by have := of_decide_eq_false hge; omega
  subst hj
  rw [if_pos hk6] at e4
  simp only [go_sem, e0, e2, e4, e5]
  refine anew_g fun q G hq0 (Q : G q = some (evRow 0 0 0 0 0 o0)) N => ?_
  obtain ⟨npq, P⟩ := N P
  clear N hq0
  simp only [go_sem, e0, e2, e4, e5, P, Q]
  refine putn Q ⟨Nat.zero_lt_one, rfl, Nat.le_of_ble_eq_true rfl⟩ fun G Q1 F => ?_
  replace P := F _ _ npq P
  replace Q : G q = some (evRow 0 kind 0 0 0 o0) := Q1
  clear F Q1
  simp only [go_sem, e0, e2, e4, e5, P, Q]
  rcases h with ⟨rfl, t, o, h1, h2, h3, h4, rfl, rfl⟩ | ⟨rfl, t, a, h1, h2, rfl, rfl⟩ | ⟨rfl, t, a, b, n, h1, h2, h3, h4, rfl, rfl⟩ | ⟨rfl, t, a, h1, h2, rfl, rfl⟩ | ⟨rfl, t, a, n, h1, h2, h3, rfl, rfl⟩
  · refine acond_i (fun _ => ?_) (fun hb => absurd hb (by decide))
    simp only [go_sem, e0, e2, e4, e5, P, Q]
    refine ⟨⟨by omega, by omega⟩, PC.use (number_c t h1) ?_⟩
    simp only [go_sem, e0, e2, e4, e5, P, Q]
    refine ⟨⟨by omega, allLen_map (f := D.encStr) (n := 1) (fun _ => rfl) _⟩, PC.use (readOrder_c o h2 h3 h4) ?_⟩
    simp only [go_sem, e0, e2, e4, e5, P, Q]
    refine anew_g fun s G hs (S : G s = some ⟨49, 16, [encOrder o0]⟩) N => ?_
    obtain ⟨nps, P⟩ := N P
    obtain ⟨nqs, Q⟩ := N Q
    clear N hs
    simp only [go_sem, e0, e2, e4, e5, P, Q, S]
    refine putn S ⟨Nat.zero_lt_one, rfl, Nat.le_of_ble_eq_true rfl⟩ fun G S1 F => ?_
    replace P := F _ _ nps P
    replace Q := F _ _ nqs Q
    replace S : G s = some ⟨49, 16, [encOrder o]⟩ := S1
    clear F S1
    simp only [go_sem, e0, e2, e4, e5, P, Q, S]
    refine adraw_p [s] [(0, true), (1, true), (2, true), (3, false), (4, true), (5, false)] (by simp [S]) (by kernel_rfl) fun Hp Hr hp hr _ _ => ?_
    have S1 := (hp s (by simp)).trans S
    replace P := (hr p (by simp [nps])).trans P
    replace Q := (hr q (by simp [nqs])).trans Q
    clear hp hr S
    simp only [go_sem, e0, e2, e4, e5, S1, P, Q]
    refine put1 so3 Q ⟨Nat.zero_lt_one, rfl, Nat.le_of_ble_eq_true rfl⟩ fun G Q1 F => ?_
    replace P := F _ _ npq P
    replace Q : G q = some (evRow t 1 0 0 0 o0) := Q1
    clear F Q1
    simp only [go_sem, e0, e2, e4, e5, S1, P, Q]
    refine putn Q ⟨Nat.zero_lt_one, rfl, Nat.le_of_ble_eq_true rfl⟩ fun G Q1 F => ?_
    replace P := F _ _ npq P
    replace Q : G q = some (evRow t 1 0 0 0 o) := Q1
    clear F Q1
    simp only [go_sem, e0, e2, e4, e5, P, Q]
    refine pinEnd_i fun h0 Hm _ hm2 => ?_
    replace P := (hm2 p (by simp [nps])).trans P
    replace Q := (hm2 q (by simp [nqs])).trans Q
    simp only [go_sem, e0, e2, e4, e5, P, Q]
    refine putn P ⟨Nat.zero_lt_one, rfl, Nat.le_of_ble_eq_true rfl⟩ fun G P1 F => ?_
    simp only [go_sem, e2, P1]
    exact .refl _
  · refine acond_i (fun hb => absurd hb (by decide)) (fun _ => ?_)
    simp only [go_sem, e0, e2, e4, e5, P, Q]
    have hr := read_c (l := [t, a]) (by simp) (by intro m hm; simp only [List.mem_cons, List.not_mem_nil, or_false] at hm; rcases hm with rfl | rfl <;> assumption)
    refine ⟨⟨by omega, by omega⟩, PC.use hr ?_⟩
    simp only [go_sem, e0, e2, e4, e5, P, Q]
    have hn := enumbers_c ⟨0, 2, 0, 0, 0, o0⟩
    rw [show numsE ⟨0, 2, 0, 0, 0, o0⟩ = [0, 0] from rfl] at hn
    refine ⟨_, fun _ => hn.qn, ?_⟩
    simp only [go_sem, e0, e2, e4, e5, P, Q]
    refine acond_i (fun hb => absurd hb (by decide)) (fun _ => ?_)
    simp only [go_sem, e0, e2, e4, e5, P, Q]
    refine adraw_m [(0, true), (1, true), (2, true), (3, true), (4, true), (5, true), (6, true), (7, false), (8, true), (9, false)] (by kernel_rfl) ?_
    simp only [go_sem, e0, e2, e4, e5, P, Q]
    refine ⟨⟨by omega, by omega⟩, ⟨by omega, by omega⟩, ?_⟩
    refine put1 so3 Q ⟨Nat.zero_lt_one, rfl, Nat.le_of_ble_eq_true rfl⟩ fun G Q1 F => ?_
    replace P := F _ _ npq P
    replace Q : G q = some (evRow t 2 0 0 0 o0) := Q1
    clear F Q1
    simp only [go_sem, e0, e2, e4, e5, P, Q]
    refine put1 so3 Q ⟨Nat.zero_lt_one, rfl, Nat.le_of_ble_eq_true rfl⟩ fun G Q1 F => ?_
    replace P := F _ _ npq P
    replace Q : G q = some (evRow t 2 a 0 0 o0) := Q1
    clear F Q1
    simp only [go_sem, e0, e2, e4, e5, P, Q]
    refine acond_i (fun hb => absurd hb (by decide)) (fun _ => ?_)
    simp only [go_sem, e0, e2, e4, e5, P, Q]
    refine acond_i (fun hb => absurd hb (by decide)) (fun _ => ?_)
    simp only [go_sem, e0, e2, e4, e5, P, Q]
    refine putn P ⟨Nat.zero_lt_one, rfl, Nat.le_of_ble_eq_true rfl⟩ fun G P1 F => ?_
    simp only [go_sem, e2, P1]
    exact .refl _
  · refine acond_i (fun hb => absurd hb (by decide)) (fun _ => ?_)
    simp only [go_sem, e0, e2, e4, e5, P, Q]
    have hr := read_c (l := [t, a, b, n]) (by simp) (by intro m hm; simp only [List.mem_cons, List.not_mem_nil, or_false] at hm; rcases hm with rfl | rfl | rfl | rfl <;> assumption)
    refine ⟨⟨by omega, by omega⟩, PC.use hr ?_⟩
    simp only [go_sem, e0, e2, e4, e5, P, Q]
    have hn := enumbers_c ⟨0, 3, 0, 0, 0, o0⟩
    rw [show numsE ⟨0, 3, 0, 0, 0, o0⟩ = [0, 0, 0, 0] from rfl] at hn
    refine ⟨_, fun _ => hn.qn, ?_⟩
    simp only [go_sem, e0, e2, e4, e5, P, Q]
    refine acond_i (fun hb => absurd hb (by decide)) (fun _ => ?_)
    simp only [go_sem, e0, e2, e4, e5, P, Q]
    refine adraw_m [(0, true), (1, true), (2, true), (3, true), (4, true), (5, true), (6, true), (7, false), (8, true), (9, false)] (by kernel_rfl) ?_
    simp only [go_sem, e0, e2, e4, e5, P, Q]
    refine ⟨⟨by omega, by omega⟩, ⟨by omega, by omega⟩, ?_⟩
    refine put1 so3 Q ⟨Nat.zero_lt_one, rfl, Nat.le_of_ble_eq_true rfl⟩ fun G Q1 F => ?_
    replace P := F _ _ npq P
    replace Q : G q = some (evRow t 3 0 0 0 o0) := Q1
    clear F Q1
    simp only [go_sem, e0, e2, e4, e5, P, Q]
    refine put1 so3 Q ⟨Nat.zero_lt_one, rfl, Nat.le_of_ble_eq_true rfl⟩ fun G Q1 F => ?_
    replace P := F _ _ npq P
    replace Q : G q = some (evRow t 3 a 0 0 o0) := Q1
    clear F Q1
    simp only [go_sem, e0, e2, e4, e5, P, Q]
    refine acond_i (fun _ => ?_) (fun hb => absurd hb (by decide))
    simp only [go_sem, e0, e2, e4, e5, P, Q]
    refine adraw_m [(0, true), (1, true), (2, true), (3, true), (4, true), (5, true), (6, true), (7, false), (8, true), (9, false)] (by kernel_rfl) ?_
    simp only [go_sem, e0, e2, e4, e5, P, Q]
    refine ⟨⟨by omega, by omega⟩, ⟨by omega, by omega⟩, ?_⟩
    refine put1 so3 Q ⟨Nat.zero_lt_one, rfl, Nat.le_of_ble_eq_true rfl⟩ fun G Q1 F => ?_
    replace P := F _ _ npq P
    replace Q : G q = some (evRow t 3 a b 0 o0) := Q1
    clear F Q1
    simp only [go_sem, e0, e2, e4, e5, P, Q]
    refine put1 so3 Q ⟨Nat.zero_lt_one, rfl, Nat.le_of_ble_eq_true rfl⟩ fun G Q1 F => ?_
    replace P := F _ _ npq P
    replace Q : G q = some (evRow t 3 a b n o0) := Q1
    clear F Q1
    simp only [go_sem, e0, e2, e4, e5, P, Q]
    refine putn P ⟨Nat.zero_lt_one, rfl, Nat.le_of_ble_eq_true rfl⟩ fun G P1 F => ?_
    simp only [go_sem, e2, P1]
    exact .refl _
  · refine acond_i (fun hb => absurd hb (by decide)) (fun _ => ?_)
    simp only [go_sem, e0, e2, e4, e5, P, Q]
    have hr := read_c (l := [t, a]) (by simp) (by intro m hm; simp only [List.mem_cons, List.not_mem_nil, or_false] at hm; rcases hm with rfl | rfl <;> assumption)
    refine ⟨⟨by omega, by omega⟩, PC.use hr ?_⟩
    simp only [go_sem, e0, e2, e4, e5, P, Q]
    have hn := enumbers_c ⟨0, 4, 0, 0, 0, o0⟩
    rw [show numsE ⟨0, 4, 0, 0, 0, o0⟩ = [0, 0] from rfl] at hn
    refine ⟨_, fun _ => hn.qn, ?_⟩
    simp only [go_sem, e0, e2, e4, e5, P, Q]
    refine acond_i (fun hb => absurd hb (by decide)) (fun _ => ?_)
    simp only [go_sem, e0, e2, e4, e5, P, Q]
    refine adraw_m [(0, true), (1, true), (2, true), (3, true), (4, true), (5, true), (6, true), (7, false), (8, true), (9, false)] (by kernel_rfl) ?_
    simp only [go_sem, e0, e2, e4, e5, P, Q]
    refine ⟨⟨by omega, by omega⟩, ⟨by omega, by omega⟩, ?_⟩
    refine put1 so3 Q ⟨Nat.zero_lt_one, rfl, Nat.le_of_ble_eq_true rfl⟩ fun G Q1 F => ?_
    replace P := F _ _ npq P
    replace Q : G q = some (evRow t 4 0 0 0 o0) := Q1
    clear F Q1
    simp only [go_sem, e0, e2, e4, e5, P, Q]
    refine put1 so3 Q ⟨Nat.zero_lt_one, rfl, Nat.le_of_ble_eq_true rfl⟩ fun G Q1 F => ?_
    replace P := F _ _ npq P
    replace Q : G q = some (evRow t 4 a 0 0 o0) := Q1
    clear F Q1
    simp only [go_sem, e0, e2, e4, e5, P, Q]
    refine acond_i (fun hb => absurd hb (by decide)) (fun _ => ?_)
    simp only [go_sem, e0, e2, e4, e5, P, Q]
    refine acond_i (fun hb => absurd hb (by decide)) (fun _ => ?_)
    simp only [go_sem, e0, e2, e4, e5, P, Q]
    refine putn P ⟨Nat.zero_lt_one, rfl, Nat.le_of_ble_eq_true rfl⟩ fun G P1 F => ?_
    simp only [go_sem, e2, P1]
    exact .refl _
  · refine acond_i (fun hb => absurd hb (by decide)) (fun _ => ?_)
    simp only [go_sem, e0, e2, e4, e5, P, Q]
    have hr := read_c (l := [t, a, n]) (by simp) (by intro m hm; simp only [List.mem_cons, List.not_mem_nil, or_false] at hm; rcases hm with rfl | rfl | rfl <;> assumption)
    refine ⟨⟨by omega, by omega⟩, PC.use hr ?_⟩
    simp only [go_sem, e0, e2, e4, e5, P, Q]
    have hn := enumbers_c ⟨0, 5, 0, 0, 0, o0⟩
    rw [show numsE ⟨0, 5, 0, 0, 0, o0⟩ = [0, 0, 0] from rfl] at hn
    refine ⟨_, fun _ => hn.qn, ?_⟩
    simp only [go_sem, e0, e2, e4, e5, P, Q]
    refine acond_i (fun hb => absurd hb (by decide)) (fun _ => ?_)
    simp only [go_sem, e0, e2, e4, e5, P, Q]
    refine adraw_m [(0, true), (1, true), (2, true), (3, true), (4, true), (5, true), (6, true), (7, false), (8, true), (9, false)] (by kernel_rfl) ?_
    simp only [go_sem, e0, e2, e4, e5, P, Q]
    refine ⟨⟨by omega, by omega⟩, ⟨by omega, by omega⟩, ?_⟩
    refine put1 so3 Q ⟨Nat.zero_lt_one, rfl, Nat.le_of_ble_eq_true rfl⟩ fun G Q1 F => ?_
    replace P := F _ _ npq P
    replace Q : G q = some (evRow t 5 0 0 0 o0) := Q1
    clear F Q1
    simp only [go_sem, e0, e2, e4, e5, P, Q]
    refine put1 so3 Q ⟨Nat.zero_lt_one, rfl, Nat.le_of_ble_eq_true rfl⟩ fun G Q1 F => ?_
    replace P := F _ _ npq P
    replace Q : G q = some (evRow t 5 a 0 0 o0) := Q1
    clear F Q1
    simp only [go_sem, e0, e2, e4, e5, P, Q]
    refine acond_i (fun hb => absurd hb (by decide)) (fun _ => ?_)
    simp only [go_sem, e0, e2, e4, e5, P, Q]
    refine acond_i (fun _ => ?_) (fun hb => absurd hb (by decide))
    simp only [go_sem, e0, e2, e4, e5, P, Q]
    refine ⟨⟨by omega, by omega⟩, ?_⟩
    refine put1 so3 Q ⟨Nat.zero_lt_one, rfl, Nat.le_of_ble_eq_true rfl⟩ fun G Q1 F => ?_
    replace P := F _ _ npq P
    replace Q : G q = some (evRow t 5 a 0 n o0) := Q1
    clear F Q1
    simp only [go_sem, e0, e2, e4, e5, P, Q]
    refine putn P ⟨Nat.zero_lt_one, rfl, Nat.le_of_ble_eq_true rfl⟩ fun G P1 F => ?_
    simp only [go_sem, e2, P1]
    exact .refl _
end Go.Proofs.YtmidcjlidploaaaGreatDoor.Sk
end
