/- Texts joined by a program: SkK, SkT, SkA. -/
import Derived.Test.YtmidcjlidploaaaGreatDoorSb14
import Derived.Test.YtmidcjlidploaaaGreatDoorSb15
import Derived.Test.YtmidcjlidploaaaGreatDoorSb21
import Derived.Test.YtmidcjlidploaaaGreatDoorSb26

section
set_option linter.unusedSimpArgs false
set_option linter.unusedVariables false
namespace Go.Proofs.YtmidcjlidploaaaGreatDoor.Sk
open Go.Aw Go.Aw.D Go.Proofs Ty
open Go.Proofs.YtmidcjlidploaaaGreatDoor
open Go.Proofs.YtmidcjlidploaaaGreatDoor.Nw (ltB geB cB)
open Go.Proofs.YtmidcjlidploaaaGreatDoor.Sc
set_option maxRecDepth 100000
def mixA (a z : List AV) (k : Nat) : List AV := a.take k ++ z.drop k
abbrev kRow (t : VType) (k : Nat) : Row := ⟨101, 14, [mixA (encVType t) (encVType ⟨⟨#[]⟩, 0, 0, 0, [], 0, 0, 0, 0, 0, 0, 0, 0, 0⟩) k]⟩
abbrev oRow (o : Order) (k : Nat) : Row := ⟨49, 16, [mixA (encOrder o) (encOrder ⟨⟨#[]⟩, [], ⟨0, 0, 0, 0⟩, ⟨0, 0, 0, 0⟩, 0, 0, 0, 0, 0, false⟩) k]⟩
section
variable {H : Heap} {b : Nat}
theorem rkind_d {t : VType} (hb : H b = some (rdRow [t.name, decZ t.count, decZ t.src, decZ t.dst, listS t.cap, decZ t.skills, decZ t.profile, decZ t.start, decZ t.close, decZ t.drive, decZ t.rest, decZ t.fixed, decZ t.perMile, decZ t.perTick])) (h : OkType t) (hn : wordR t.name = true) (hc : (listS t.cap).size ≤ 1048576) : RD 72 b H [] (.agg (encVType t)) := by
  intro K hK
  refine FCalls.body (c := Tryz.f72.body.getD .skip) (fun _ => false) mixed Tryz.func72 rfl (by kernel_rfl) ?_
  unfold Tryz.f72
  simp only [Option.getD_some]
  simp only [go_sem]
  refine anew_g fun p G hp (P : G p = some ⟨101, 14, [encVType ⟨⟨#[]⟩, 0, 0, 0, [], 0, 0, 0, 0, 0, 0, 0, 0, 0⟩]⟩) N => ?_
  obtain ⟨npb, B⟩ := N hb
  replace npb := npb.symm
  have F : Fr b H G := fun _ _ _ h => (N h).2
  clear N
  simp only [go_sem]
  refine anew_g fun q G hq0 (Q : G q = some (kRow t 0)) N => ?_
  have hq : H q = none := F.none B hq0
  replace F := F.new N
  obtain ⟨nqb, B⟩ := N B
  replace nqb := nqb.symm
  obtain ⟨npq, P⟩ := N P
  clear N hq0
  simp only [go_sem]
  refine (rword_d B hn (by simp)).use fun G B1 F1 => ?_
  replace B := B1; replace P := F1 _ _ npb P; replace Q := F1 _ _ nqb Q; replace F := F.trans F1; clear B1 F1
  simp only [go_sem]
  refine put1 so9 Q ⟨Nat.zero_lt_one, rfl, Nat.le_of_ble_eq_true rfl⟩ fun G Q1 F1 => ?_
  replace B := F1 _ _ nqb.symm B; replace P := F1 _ _ npq P; replace F := F.put hq F1; replace Q : G q = some (kRow t 1) := Q1; clear Q1 F1
  simp only [go_sem]
  refine (rnum_d B h.count (by simp)).use fun G B1 F1 => ?_
  replace B := B1; replace P := F1 _ _ npb P; replace Q := F1 _ _ nqb Q; replace F := F.trans F1; clear B1 F1
  simp only [go_sem]
  refine put1 so3 Q ⟨Nat.zero_lt_one, rfl, Nat.le_of_ble_eq_true rfl⟩ fun G Q1 F1 => ?_
  replace B := F1 _ _ nqb.symm B; replace P := F1 _ _ npq P; replace F := F.put hq F1; replace Q : G q = some (kRow t 2) := Q1; clear Q1 F1
  simp only [go_sem]
  refine (rnum_d B h.src (by simp)).use fun G B1 F1 => ?_
  replace B := B1; replace P := F1 _ _ npb P; replace Q := F1 _ _ nqb Q; replace F := F.trans F1; clear B1 F1
  simp only [go_sem]
  refine put1 so3 Q ⟨Nat.zero_lt_one, rfl, Nat.le_of_ble_eq_true rfl⟩ fun G Q1 F1 => ?_
  replace B := F1 _ _ nqb.symm B; replace P := F1 _ _ npq P; replace F := F.put hq F1; replace Q : G q = some (kRow t 3) := Q1; clear Q1 F1
  simp only [go_sem]
  refine (rnum_d B h.dst (by simp)).use fun G B1 F1 => ?_
  replace B := B1; replace P := F1 _ _ npb P; replace Q := F1 _ _ nqb Q; replace F := F.trans F1; clear B1 F1
  simp only [go_sem]
  refine put1 so3 Q ⟨Nat.zero_lt_one, rfl, Nat.le_of_ble_eq_true rfl⟩ fun G Q1 F1 => ?_
  replace B := F1 _ _ nqb.symm B; replace P := F1 _ _ npq P; replace F := F.put hq F1; replace Q : G q = some (kRow t 4) := Q1; clear Q1 F1
  simp only [go_sem]
  refine (rlist_d B h.cl h.cap hc (by simp)).use fun G B1 F1 => ?_
  replace B := B1; replace P := F1 _ _ npb P; replace Q := F1 _ _ nqb Q; replace F := F.trans F1; clear B1 F1
  simp only [go_sem]
  refine put1 so45 Q ⟨Nat.zero_lt_one, rfl, Nat.le_of_ble_eq_true rfl⟩ fun G Q1 F1 => ?_
  replace B := F1 _ _ nqb.symm B; replace P := F1 _ _ npq P; replace F := F.put hq F1; replace Q : G q = some (kRow t 5) := Q1; clear Q1 F1
  simp only [go_sem]
  refine (rnum_d B h.skills (by simp)).use fun G B1 F1 => ?_
  replace B := B1; replace P := F1 _ _ npb P; replace Q := F1 _ _ nqb Q; replace F := F.trans F1; clear B1 F1
  simp only [go_sem]
  refine put1 so3 Q ⟨Nat.zero_lt_one, rfl, Nat.le_of_ble_eq_true rfl⟩ fun G Q1 F1 => ?_
  replace B := F1 _ _ nqb.symm B; replace P := F1 _ _ npq P; replace F := F.put hq F1; replace Q : G q = some (kRow t 6) := Q1; clear Q1 F1
  simp only [go_sem]
  refine (rnum_d B h.profile (by simp)).use fun G B1 F1 => ?_
  replace B := B1; replace P := F1 _ _ npb P; replace Q := F1 _ _ nqb Q; replace F := F.trans F1; clear B1 F1
  simp only [go_sem]
  refine put1 so3 Q ⟨Nat.zero_lt_one, rfl, Nat.le_of_ble_eq_true rfl⟩ fun G Q1 F1 => ?_
  replace B := F1 _ _ nqb.symm B; replace P := F1 _ _ npq P; replace F := F.put hq F1; replace Q : G q = some (kRow t 7) := Q1; clear Q1 F1
  simp only [go_sem]
  refine (rnum_d B h.start (by simp)).use fun G B1 F1 => ?_
  replace B := B1; replace P := F1 _ _ npb P; replace Q := F1 _ _ nqb Q; replace F := F.trans F1; clear B1 F1
  simp only [go_sem]
  refine put1 so3 Q ⟨Nat.zero_lt_one, rfl, Nat.le_of_ble_eq_true rfl⟩ fun G Q1 F1 => ?_
  replace B := F1 _ _ nqb.symm B; replace P := F1 _ _ npq P; replace F := F.put hq F1; replace Q : G q = some (kRow t 8) := Q1; clear Q1 F1
  simp only [go_sem]
  refine (rnum_d B h.close (by simp)).use fun G B1 F1 => ?_
  replace B := B1; replace P := F1 _ _ npb P; replace Q := F1 _ _ nqb Q; replace F := F.trans F1; clear B1 F1
  simp only [go_sem]
  refine put1 so3 Q ⟨Nat.zero_lt_one, rfl, Nat.le_of_ble_eq_true rfl⟩ fun G Q1 F1 => ?_
  replace B := F1 _ _ nqb.symm B; replace P := F1 _ _ npq P; replace F := F.put hq F1; replace Q : G q = some (kRow t 9) := Q1; clear Q1 F1
  simp only [go_sem]
  refine (rnum_d B h.drive (by simp)).use fun G B1 F1 => ?_
  replace B := B1; replace P := F1 _ _ npb P; replace Q := F1 _ _ nqb Q; replace F := F.trans F1; clear B1 F1
  simp only [go_sem]
  refine put1 so3 Q ⟨Nat.zero_lt_one, rfl, Nat.le_of_ble_eq_true rfl⟩ fun G Q1 F1 => ?_
  replace B := F1 _ _ nqb.symm B; replace P := F1 _ _ npq P; replace F := F.put hq F1; replace Q : G q = some (kRow t 10) := Q1; clear Q1 F1
  simp only [go_sem]
  refine (rnum_d B h.rest (by simp)).use fun G B1 F1 => ?_
  replace B := B1; replace P := F1 _ _ npb P; replace Q := F1 _ _ nqb Q; replace F := F.trans F1; clear B1 F1
  simp only [go_sem]
  refine put1 so3 Q ⟨Nat.zero_lt_one, rfl, Nat.le_of_ble_eq_true rfl⟩ fun G Q1 F1 => ?_
  replace B := F1 _ _ nqb.symm B; replace P := F1 _ _ npq P; replace F := F.put hq F1; replace Q : G q = some (kRow t 11) := Q1; clear Q1 F1
  simp only [go_sem]
  refine (rnum_d B h.fixed (by simp)).use fun G B1 F1 => ?_
  replace B := B1; replace P := F1 _ _ npb P; replace Q := F1 _ _ nqb Q; replace F := F.trans F1; clear B1 F1
  simp only [go_sem]
  refine put1 so3 Q ⟨Nat.zero_lt_one, rfl, Nat.le_of_ble_eq_true rfl⟩ fun G Q1 F1 => ?_
  replace B := F1 _ _ nqb.symm B; replace P := F1 _ _ npq P; replace F := F.put hq F1; replace Q : G q = some (kRow t 12) := Q1; clear Q1 F1
  simp only [go_sem]
  refine (rnum_d B h.perMile (by simp)).use fun G B1 F1 => ?_
  replace B := B1; replace P := F1 _ _ npb P; replace Q := F1 _ _ nqb Q; replace F := F.trans F1; clear B1 F1
  simp only [go_sem]
  refine put1 so3 Q ⟨Nat.zero_lt_one, rfl, Nat.le_of_ble_eq_true rfl⟩ fun G Q1 F1 => ?_
  replace B := F1 _ _ nqb.symm B; replace P := F1 _ _ npq P; replace F := F.put hq F1; replace Q : G q = some (kRow t 13) := Q1; clear Q1 F1
  simp only [go_sem]
  refine (rnum_d B h.perTick (by simp)).use fun G B1 F1 => ?_
  replace B := B1; replace P := F1 _ _ npb P; replace Q := F1 _ _ nqb Q; replace F := F.trans F1; clear B1 F1
  simp only [go_sem]
  refine put1 so3 Q ⟨Nat.zero_lt_one, rfl, Nat.le_of_ble_eq_true rfl⟩ fun G Q1 F1 => ?_
  replace B := F1 _ _ nqb.symm B; replace P := F1 _ _ npq P; replace F := F.put hq F1; replace Q : G q = some (kRow t 14) := Q1; clear Q1 F1
  simp only [go_sem]
  replace Q : G q = some ⟨101, 14, [encVType t]⟩ := Q
  simp only [go_sem, Q]
  refine putn P ⟨Nat.zero_lt_one, rfl, Nat.le_of_ble_eq_true rfl⟩ fun G P1 F1 => ?_
  replace B := F1 _ _ npb.symm B; replace F := F.put hp F1
  simp only [go_sem, P1]
  exact hK G B F
theorem rorder_d {o : Order} (hb : H b = some (rdRow [o.name, listS o.load, stopS o.pick, stopS o.drop, decZ o.skills, decZ o.penalty, decZ o.split, decZ o.last, decZ o.now, onS o.off])) (h : OkOrder o) (hn : wordR o.name = true) (hl : (listS o.load).size ≤ 1048576) : RD 73 b H [] (.agg (encOrder o)) := by
  intro K hK
  refine FCalls.body (c := Tryz.f73.body.getD .skip) (fun _ => false) mixed Tryz.func73 rfl (by kernel_rfl) ?_
  unfold Tryz.f73
  simp only [Option.getD_some]
  simp only [go_sem]
  refine anew_g fun p G hp (P : G p = some ⟨49, 16, [encOrder ⟨⟨#[]⟩, [], ⟨0, 0, 0, 0⟩, ⟨0, 0, 0, 0⟩, 0, 0, 0, 0, 0, false⟩]⟩) N => ?_
  obtain ⟨npb, B⟩ := N hb
  replace npb := npb.symm
  have F : Fr b H G := fun _ _ _ h => (N h).2
  clear N
  simp only [go_sem]
  refine anew_g fun q G hq0 (Q : G q = some (oRow o 0)) N => ?_
  have hq : H q = none := F.none B hq0
  replace F := F.new N
  obtain ⟨nqb, B⟩ := N B
  replace nqb := nqb.symm
  obtain ⟨npq, P⟩ := N P
  clear N hq0
  simp only [go_sem]
  refine (rword_d B hn (by simp)).use fun G B1 F1 => ?_
  replace B := B1; replace P := F1 _ _ npb P; replace Q := F1 _ _ nqb Q; replace F := F.trans F1; clear B1 F1
  simp only [go_sem]
  refine put1 so9 Q ⟨Nat.zero_lt_one, rfl, Nat.le_of_ble_eq_true rfl⟩ fun G Q1 F1 => ?_
  replace B := F1 _ _ nqb.symm B; replace P := F1 _ _ npq P; replace F := F.put hq F1; replace Q : G q = some (oRow o 1) := Q1; clear Q1 F1
  simp only [go_sem]
  refine (rlist_d B h.ll h.load hl (by simp)).use fun G B1 F1 => ?_
  replace B := B1; replace P := F1 _ _ npb P; replace Q := F1 _ _ nqb Q; replace F := F.trans F1; clear B1 F1
  simp only [go_sem]
  refine put1 so45 Q ⟨Nat.zero_lt_one, rfl, Nat.le_of_ble_eq_true rfl⟩ fun G Q1 F1 => ?_
  replace B := F1 _ _ nqb.symm B; replace P := F1 _ _ npq P; replace F := F.put hq F1; replace Q : G q = some (oRow o 2) := Q1; clear Q1 F1
  simp only [go_sem]
  refine (rstop_d B h.pick (by have := stopS_size h.pick; omega) (by simp)).use fun G B1 F1 => ?_
  replace B := B1; replace P := F1 _ _ npb P; replace Q := F1 _ _ nqb Q; replace F := F.trans F1; clear B1 F1
  simp only [go_sem]
  refine (rstop_d B h.drop (by have := stopS_size h.drop; omega) (by simp)).use fun G B1 F1 => ?_
  replace B := B1; replace P := F1 _ _ npb P; replace Q := F1 _ _ nqb Q; replace F := F.trans F1; clear B1 F1
  simp only [go_sem]
  refine putn Q ⟨Nat.zero_lt_one, rfl, Nat.le_of_ble_eq_true rfl⟩ fun G Q1 F1 => ?_
  replace B := F1 _ _ nqb.symm B; replace P := F1 _ _ npq P; replace F := F.put hq F1; replace Q : G q = some (oRow o 6) := Q1; clear Q1 F1
  simp only [go_sem]
  refine putn Q ⟨Nat.zero_lt_one, rfl, Nat.le_of_ble_eq_true rfl⟩ fun G Q1 F1 => ?_
  replace B := F1 _ _ nqb.symm B; replace P := F1 _ _ npq P; replace F := F.put hq F1; replace Q : G q = some (oRow o 10) := Q1; clear Q1 F1
  simp only [go_sem]
  refine (rnum_d B h.skills (by simp)).use fun G B1 F1 => ?_
  replace B := B1; replace P := F1 _ _ npb P; replace Q := F1 _ _ nqb Q; replace F := F.trans F1; clear B1 F1
  simp only [go_sem]
  refine put1 so3 Q ⟨Nat.zero_lt_one, rfl, Nat.le_of_ble_eq_true rfl⟩ fun G Q1 F1 => ?_
  replace B := F1 _ _ nqb.symm B; replace P := F1 _ _ npq P; replace F := F.put hq F1; replace Q : G q = some (oRow o 11) := Q1; clear Q1 F1
  simp only [go_sem]
  refine (rnum_d B h.penalty (by simp)).use fun G B1 F1 => ?_
  replace B := B1; replace P := F1 _ _ npb P; replace Q := F1 _ _ nqb Q; replace F := F.trans F1; clear B1 F1
  simp only [go_sem]
  refine put1 so3 Q ⟨Nat.zero_lt_one, rfl, Nat.le_of_ble_eq_true rfl⟩ fun G Q1 F1 => ?_
  replace B := F1 _ _ nqb.symm B; replace P := F1 _ _ npq P; replace F := F.put hq F1; replace Q : G q = some (oRow o 12) := Q1; clear Q1 F1
  simp only [go_sem]
  refine (rnum_d B h.split (by simp)).use fun G B1 F1 => ?_
  replace B := B1; replace P := F1 _ _ npb P; replace Q := F1 _ _ nqb Q; replace F := F.trans F1; clear B1 F1
  simp only [go_sem]
  refine put1 so3 Q ⟨Nat.zero_lt_one, rfl, Nat.le_of_ble_eq_true rfl⟩ fun G Q1 F1 => ?_
  replace B := F1 _ _ nqb.symm B; replace P := F1 _ _ npq P; replace F := F.put hq F1; replace Q : G q = some (oRow o 13) := Q1; clear Q1 F1
  simp only [go_sem]
  refine (rnum_d B h.last (by simp)).use fun G B1 F1 => ?_
  replace B := B1; replace P := F1 _ _ npb P; replace Q := F1 _ _ nqb Q; replace F := F.trans F1; clear B1 F1
  simp only [go_sem]
  refine put1 so3 Q ⟨Nat.zero_lt_one, rfl, Nat.le_of_ble_eq_true rfl⟩ fun G Q1 F1 => ?_
  replace B := F1 _ _ nqb.symm B; replace P := F1 _ _ npq P; replace F := F.put hq F1; replace Q : G q = some (oRow o 14) := Q1; clear Q1 F1
  simp only [go_sem]
  refine (rnum_d B h.now (by simp)).use fun G B1 F1 => ?_
  replace B := B1; replace P := F1 _ _ npb P; replace Q := F1 _ _ nqb Q; replace F := F.trans F1; clear B1 F1
  simp only [go_sem]
  refine put1 so3 Q ⟨Nat.zero_lt_one, rfl, Nat.le_of_ble_eq_true rfl⟩ fun G Q1 F1 => ?_
  replace B := F1 _ _ nqb.symm B; replace P := F1 _ _ npq P; replace F := F.put hq F1; replace Q : G q = some (oRow o 15) := Q1; clear Q1 F1
  simp only [go_sem]
  refine (rword_d B (onS_word o.off) (by simp)).use fun G B1 F1 => ?_
  replace B := B1; replace P := F1 _ _ npb P; replace Q := F1 _ _ nqb Q; replace F := F.trans F1; clear B1 F1
  simp only [go_sem]
  refine acond_joinL (fun ρ' G' => ρ' 2 = .op p 0 0 ∧ ρ' 3 = .op q 0 0 ∧ G' b = some (rdRow []) ∧ Fr b H G' ∧ G' p = G p ∧ G' q = some ⟨49, 16, [encOrder o]⟩) ?_ fun Q' hQ' _ _ => ?_
  · rintro ρ' G' ⟨e2, e3, B, F, P', Q⟩
    replace P := P'.trans P
    simp only [go_sem, e2, e3, Q]
    refine putn P ⟨Nat.zero_lt_one, rfl, Nat.le_of_ble_eq_true rfl⟩ fun G P1 F1 => ?_
    replace B := F1 _ _ npb.symm B; replace F := F.put hp F1
    simp only [go_sem, e2, P1]
    exact hK G B F
  cases ho : o.off with
  | false =>
    refine acond_i (fun _ => ?_) (fun h => absurd h (by rw [show onS false = (⟨#[111, 110]⟩ : ByteArray) from rfl]; simp))
    simp only [go_sem]
    refine hQ' _ _ ⟨by simp only [go_sem], by simp only [go_sem], B, F, rfl, Q.trans ?_⟩
    simp only [oRow, mixA, encOrder, ho]
    rfl
  | true =>
    refine acond_i (fun h => absurd h (by rw [show onS true = (⟨#[111, 102, 102]⟩ : ByteArray) from rfl]; decide +kernel)) (fun _ => ?_)
    simp only [go_sem]
    refine acond_i (fun _ => ?_) (fun h => absurd h (by rw [show onS true = (⟨#[111, 102, 102]⟩ : ByteArray) from rfl]; simp))
    simp only [go_sem]
    refine put1 so4 Q ⟨Nat.zero_lt_one, rfl, Nat.le_of_ble_eq_true rfl⟩ fun G1 Q1 F1 => ?_
    simp only [go_sem]
    refine hQ' _ _ ⟨by simp only [go_sem], by simp only [go_sem], F1 _ _ nqb.symm B, F.put hq F1, (F1 _ _ npq P).trans P.symm, Q1.trans ?_⟩
    simp only [oRow, mixA, encOrder, ho]
    rfl
end
end Go.Proofs.YtmidcjlidploaaaGreatDoor.Sk
end

section
set_option linter.unusedSimpArgs false
set_option linter.unusedVariables false
namespace Go.Proofs.YtmidcjlidploaaaGreatDoor.Sk
open Go.Aw Go.Aw.D Go.Proofs Ty
open Go.Proofs.YtmidcjlidploaaaGreatDoor
open Go.Proofs.YtmidcjlidploaaaGreatDoor.Nw (ltB geB cB cI)
open Go.Proofs.YtmidcjlidploaaaGreatDoor.Sc
set_option maxRecDepth 100000
def wordsL : List ByteArray := [⟨#[112, 108, 97, 99, 101]⟩, ⟨#[97, 114, 99]⟩, ⟨#[116, 121, 112, 101]⟩, ⟨#[111, 114, 100, 101, 114]⟩, ⟨#[97, 112, 97, 114, 116]⟩, ⟨#[98, 101, 102, 111, 114, 101]⟩, ⟨#[101, 110, 100]⟩]
theorem wordsL_ne : ∀ i < 7, ∀ k < 7, ((wordsL.getD k ⟨#[]⟩).toList == (wordsL.getD i ⟨#[]⟩).toList) = decide (k = i) := by decide +kernel
theorem rank_c (i : Nat) (hi : i < 7) : PC Tryz.prog 40 [str (wordsL.getD i ⟨#[]⟩)] (int (i + 1 : Nat)) := by
  refine PC.body (c := Tryz.f40.body.getD .skip) (fun _ => false) mixed Tryz.func40 rfl (by kernel_rfl) ?_
  unfold Tryz.f40
  simp only [Option.getD_some]
  simp only [go_sem]
  refine ⟨fun ρ H => ∃ k : Nat, k ≤ i ∧ ρ 0 = str (wordsL.getD i ⟨#[]⟩) ∧ ρ 5 = .sl (wordsL.map D.encStr) ∧ ρ 6 = int (7 : Nat) ∧ ρ 7 = int k, fun ρ _ => 7 - natOf (ρ 7), ⟨0, Nat.zero_le _, by simp only [go_sem], by simp only [go_sem]; rfl, by simp only [go_sem], (by simp only [go_sem]; rfl)⟩, ?_⟩
  rintro ρ H ⟨k, hk, e0, e5, e6, e7⟩
  simp only [go_sem, e0, e5, e6, e7]
  have hlt : k < wordsL.length := by show k < 7; omega
  refine acond_i (fun _ => ?_) (fun h => absurd (of_decide_eq_false h) (by omega))
  have hg : wordsL[k]? = some (wordsL.getD k ⟨#[]⟩) := by rw [List.getElem?_eq_getElem hlt, List.getD_eq_getElem?_getD, List.getElem?_eq_getElem hlt]; rfl
  have b1 := inB hlt
  simp only [go_sem, e0, e5, e6, e7, getD_map hg, b1]
  rw [wordsL_ne i hi k (by omega)]
  refine acond_i (fun h => ?_) (fun h => ?_)
  · have h : k = i := of_decide_eq_true h
    subst h
    simp only [go_sem, e0, e5, e6, e7, wrapS (show k ≤ 4611686018427387904 by omega)]
    exact .refl _
  · have h : k ≠ i := of_decide_eq_false h
    simp only [go_sem, e0, e5, e6, e7, wrapS (show k ≤ 4611686018427387904 by omega)]
    exact ⟨⟨k + 1, by omega, rfl⟩, by simp only [natOf_int]; omega⟩
end Go.Proofs.YtmidcjlidploaaaGreatDoor.Sk
end

section
set_option linter.unusedSimpArgs false
set_option linter.unusedVariables false
namespace Go.Proofs.YtmidcjlidploaaaGreatDoor.Sk
open Go Go.Aw Go.Aw.D Go.Proofs
set_option maxRecDepth 100000
theorem line_dc (x : AV) (H : Heap) : DC Tryz.prog 68 [x] H := by
  intro S w vals hS ha
  simp only [repL] at ha
  obtain ⟨u, t, rfl, hx, rfl⟩ := ha
  have hta : ∀ t, (Instr.typeAssert Value.nilIface t 148 true).run Tryz.prog w = .ok (.tuple #[.agg #[], .bool false]) w := fun t => by rfl
  refine callsD_of_wpS Tryz.func68 rfl fun c₀ cs hu => ?_
  apply wpS_seq
  apply wpS_region
  simp [wpOpsS, go_sem, recoverD, hu, Exit.thenS, hta]
  apply wpS_seq
  apply wpS_region
  simp [wpOpsS, go_sem, recoverD, hu, Exit.thenS]
  refine wpS_cond (t := false) (by simp [Act.eval]) ?_
  simp only [Bool.false_eq_true, if_false]
  refine wpS_of_wp (wp_skip ?_)
  obtain ⟨n1, n2⟩ := hS.newRo (o := Obj.cells #[] 148) (w' := w.alloc (Obj.cells #[] 148)) rfl rfl rfl rfl
  cases c₀
  simp_all [bodyPostS, results]
  exact ⟨_, n1, n2, NewK.refl _ _⟩
end Go.Proofs.YtmidcjlidploaaaGreatDoor.Sk
end
