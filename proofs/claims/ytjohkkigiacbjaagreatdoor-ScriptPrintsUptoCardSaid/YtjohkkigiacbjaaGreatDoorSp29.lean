/- Texts joined by a program: ScK, ScL. -/
import Derived.Test.YtjohkkigiacbjaaGreatDoorSp28

section
set_option linter.unusedSimpArgs false
set_option linter.unusedVariables false
namespace Go.Proofs.YtjohkkigiacbjaaGreatDoor.Sc
open Go.Aw Go.Aw.D Go.Proofs Ty
open Go.RowKit (Below)
open Go.Proofs.YtjohkkigiacbjaaGreatDoor
open Go.Proofs.YtjohkkigiacbjaaGreatDoor.Nw (ltB geB cB)
set_option maxRecDepth 100000
def noneE (e : D.Event) : Bool := zeroO e.order && (e.at_ == 0) && (e.kind == 0) && (e.a == 0) && (e.b == 0) && (e.n == 0)
theorem blank_c (e : D.Event) : PC Tryz.prog 33 [.agg (encEvent e)] (boo (noneE e)) := by
  refine PC.body (c := Tryz.f33.body.getD .skip) (fun _ => false) mixed Tryz.func33 rfl (by kernel_rfl) ?_
  unfold Tryz.f33
  simp only [Option.getD_some]
  simp only [go_sem]
  refine anew_i fun p hp0 => ?_
  simp only [go_sem]
  refine wputE_v hp0 (by simp [encOrder]) fun HGp (Rp : HGp p = some (⟨55, 16, [encOrder e.order]⟩)) N => ?_
  clear N hp0
  simp only [go_sem, Rp]
  refine cB ?_
  unfold noneE zeroO
  simp only [zeroStp, Bool.and_true]
  ac_rfl
theorem refNone_c (e : D.Event) : PC Tryz.prog 40 [.agg (encEvent e)] (boo (noneE e)) := by
  refine PC.body (c := Tryz.f40.body.getD .skip) (fun _ => false) mixed Tryz.func40 rfl (by kernel_rfl) ?_
  unfold Tryz.f40
  simp only [Option.getD_some]
  simp only [go_sem]
  refine anew_i fun p hp0 => ?_
  simp only [go_sem]
  refine wputE_v hp0 (by simp [encOrder]) fun HGp (Rp : HGp p = some (⟨55, 16, [encOrder e.order]⟩)) N => ?_
  clear N hp0
  simp only [go_sem, Rp]
  refine cB ?_
  unfold noneE zeroO
  simp only [zeroStp, Bool.and_true]
  ac_rfl
def OkC (c : D.Command) : Prop := i64B c.n ∧ OkE c.event
def cmdR (c : D.Command) : ByteArray × Int :=
  if c.kind = 1 then (if (noneE c.event && c.n == 0) = true then (⟨#[112, 108, 97, 110]⟩, 0) else (⟨#[]⟩, 2))
  else if c.kind = 4 then (if (noneE c.event && c.n == 0) = true then (⟨#[112, 114, 111, 118, 101]⟩, 0) else (⟨#[]⟩, 2))
  else if c.kind = 6 then (if (noneE c.event && c.n == 0) = true then (⟨#[110, 101, 120, 116]⟩, 0) else (⟨#[]⟩, 2))
  else if c.kind = 2 then (if noneE c.event = true then (⟨#[97, 100, 118, 97, 110, 99, 101]⟩ ++ (⟨#[32]⟩ ++ decZ c.n), 0) else (⟨#[]⟩, 2))
  else if c.kind = 5 then (if noneE c.event = true then (⟨#[101, 120, 112, 108, 97, 105, 110]⟩ ++ (⟨#[32]⟩ ++ decZ c.n), 0) else (⟨#[]⟩, 2))
  else if c.kind = 3 then (if c.n = 0 then (if (evR c.event).2 = 0 then (⟨#[104, 97, 112, 112, 101, 110, 32]⟩ ++ (evR c.event).1, 0) else (⟨#[]⟩, (evR c.event).2)) else (⟨#[]⟩, 2))
  else (⟨#[]⟩, 8)
def wrR (c : D.Command) : ByteArray × Int := if (cmdR c).2 = 0 then ((cmdR c).1 ++ ⟨#[10]⟩, 0) else (⟨#[]⟩, (cmdR c).2)
theorem evR_size {e : D.Event} (h : OkE e) : (evR e).1.size ≤ 25000000 := by
  unfold evR
  split
  · exact (by decide : (0 : Nat) ≤ 25000000)
  split
  · exact (by decide : (0 : Nat) ≤ 25000000)
  split
  · split
    · exact (by decide : (0 : Nat) ≤ 25000000)
    split
    · exact (by decide : (0 : Nat) ≤ 25000000)
    split
    · exact (by decide : (0 : Nat) ≤ 25000000)
    · rename_i h3
      have hl := wordsO_len h (by omega)
      refine Nat.le_trans (joinB_size (s := spB) (wordsO e) (wordsO_size h (by omega))) ?_
      show (wordsO e).length * (1 + 1048576) ≤ _
      omega
  · have hl := wordsE_len h
    refine Nat.le_trans (joinB_size (s := spB) (wordsE e) (wordsE_size h)) ?_
    show (wordsE e).length * (1 + 1048576) ≤ _
    omega
theorem cmdR_size {c : D.Command} (h : OkC c) : (cmdR c).1.size ≤ 30000000 := by
  have h1 := decZ_size h.1
  have h2 := evR_size h.2
  have k0 : (⟨#[]⟩ : ByteArray).size ≤ 30000000 := by decide
  have q1 : (⟨#[97, 100, 118, 97, 110, 99, 101]⟩ : ByteArray).size = 7 := rfl
  have q2 : (⟨#[101, 120, 112, 108, 97, 105, 110]⟩ : ByteArray).size = 7 := rfl
  have q3 : (⟨#[104, 97, 112, 112, 101, 110, 32]⟩ : ByteArray).size = 7 := rfl
  have q4 : (⟨#[32]⟩ : ByteArray).size = 1 := rfl
  unfold cmdR
  repeat' split
  all_goals first | exact k0 | (show (4 : Nat) ≤ 30000000; decide) | (show (5 : Nat) ≤ 30000000; decide) | (show (_ ++ _ : ByteArray).size ≤ _; simp only [ByteArray.size_append, List.size_toArray, List.length_cons, List.length_nil]; omega)
theorem notB {b : Bool} (h : (!b) = true) : ¬ b = true := by cases b with | true => cases h | false => simp
theorem wr_ok {c : D.Command} {t : ByteArray} (h : cmdR c = (t, 0)) : wrR c = (t ++ ⟨#[10]⟩, 0) := by unfold wrR; rw [h]; rfl
theorem wr_bad {c : D.Command} {n : Int} (h : cmdR c = (⟨#[]⟩, n)) (hn : n ≠ 0) : wrR c = (⟨#[]⟩, n) := by unfold wrR; rw [h, if_neg hn]
theorem written_c (c : D.Command) (h : OkC c) : PC Tryz.prog 14 [.agg (encCommand c)] (.tup [str (wrR c).1, int (wrR c).2]) := by
  have z1 := decZ_size h.1
  have z2 := evR_size h.2
  refine PC.body (c := Tryz.f14.body.getD .skip) (fun _ => false) mixed Tryz.func14 rfl (by kernel_rfl) ?_
  unfold Tryz.f14
  simp only [Option.getD_some]
  simp only [go_sem]
  refine PC.use (blank_c c.event) ?_
  simp only [go_sem]
  by_cases hk0 : c.kind = 1 ∨ c.kind = 4 ∨ c.kind = 6 ∨ c.kind = 2 ∨ c.kind = 5 ∨ c.kind = 3
  · rcases hk0 with hk | hk | hk | hk | hk | hk
    · have hc : cmdR c = (if (noneE c.event && c.n == 0) = true then (⟨#[112, 108, 97, 110]⟩, 0) else (⟨#[]⟩, 2)) := by unfold cmdR; rw [if_pos hk]
      refine acond_i (fun _ => ?_) (fun hb => absurd hb (by rw [hk]; decide))
      simp only [go_sem]
      refine adraw_m [(0, true), (1, true), (2, true), (3, true), (4, true), (5, true), (6, true), (7, true)] (by kernel_rfl) ?_
      simp only [go_sem]
      refine acond_i (fun hb => ?_) (fun hb => ?_)
      · simp only [go_sem]
        rw [wr_bad (hc.trans (if_neg (notB hb))) (by decide)]; exact .refl _
      · simp only [go_sem]
        rw [wr_ok (hc.trans (if_pos (by simpa using hb)))]
        refine ⟨by rw [i64max]; first | omega | (simp only [ByteArray.size_append, List.size_toArray, List.length_cons, List.length_nil]; omega), by rw [i64max]; first | omega | (simp only [ByteArray.size_append, List.size_toArray, List.length_cons, List.length_nil]; omega), ?_⟩
        rw [app_nil]; exact .refl _
    · have hc : cmdR c = (if (noneE c.event && c.n == 0) = true then (⟨#[112, 114, 111, 118, 101]⟩, 0) else (⟨#[]⟩, 2)) := by unfold cmdR; rw [if_neg (by omega), if_pos hk]
      refine acond_i (fun hb => absurd hb (by rw [hk]; decide)) (fun _ => ?_)
      simp only [go_sem]
      refine acond_i (fun _ => ?_) (fun hb => absurd hb (by rw [hk]; decide))
      simp only [go_sem]
      refine adraw_m [(0, true), (1, true), (2, true), (3, true), (4, true), (5, true), (6, true), (7, true)] (by kernel_rfl) ?_
      simp only [go_sem]
      refine acond_i (fun hb => ?_) (fun hb => ?_)
      · simp only [go_sem]
        rw [wr_bad (hc.trans (if_neg (notB hb))) (by decide)]; exact .refl _
      · simp only [go_sem]
        rw [wr_ok (hc.trans (if_pos (by simpa using hb)))]
        refine ⟨by rw [i64max]; first | omega | (simp only [ByteArray.size_append, List.size_toArray, List.length_cons, List.length_nil]; omega), by rw [i64max]; first | omega | (simp only [ByteArray.size_append, List.size_toArray, List.length_cons, List.length_nil]; omega), ?_⟩
        rw [app_nil]; exact .refl _
    · have hc : cmdR c = (if (noneE c.event && c.n == 0) = true then (⟨#[110, 101, 120, 116]⟩, 0) else (⟨#[]⟩, 2)) := by unfold cmdR; rw [if_neg (by omega), if_neg (by omega), if_pos hk]
      refine acond_i (fun hb => absurd hb (by rw [hk]; decide)) (fun _ => ?_)
      simp only [go_sem]
      refine acond_i (fun hb => absurd hb (by rw [hk]; decide)) (fun _ => ?_)
      simp only [go_sem]
      refine acond_i (fun _ => ?_) (fun hb => absurd hb (by rw [hk]; decide))
      simp only [go_sem]
      refine adraw_m [(0, true), (1, true), (2, true), (3, true), (4, true), (5, true), (6, true), (7, true)] (by kernel_rfl) ?_
      simp only [go_sem]
      refine acond_i (fun hb => ?_) (fun hb => ?_)
      · simp only [go_sem]
        rw [wr_bad (hc.trans (if_neg (notB hb))) (by decide)]; exact .refl _
      · simp only [go_sem]
        rw [wr_ok (hc.trans (if_pos (by simpa using hb)))]
        refine ⟨by rw [i64max]; first | omega | (simp only [ByteArray.size_append, List.size_toArray, List.length_cons, List.length_nil]; omega), by rw [i64max]; first | omega | (simp only [ByteArray.size_append, List.size_toArray, List.length_cons, List.length_nil]; omega), ?_⟩
        rw [app_nil]; exact .refl _
    · have hc : cmdR c = (if noneE c.event = true then (⟨#[97, 100, 118, 97, 110, 99, 101]⟩ ++ (⟨#[32]⟩ ++ decZ c.n), 0) else (⟨#[]⟩, 2)) := by unfold cmdR; rw [if_neg (by omega), if_neg (by omega), if_neg (by omega), if_pos hk]
      refine acond_i (fun hb => absurd hb (by rw [hk]; decide)) (fun _ => ?_)
      simp only [go_sem]
      refine acond_i (fun hb => absurd hb (by rw [hk]; decide)) (fun _ => ?_)
      simp only [go_sem]
      refine acond_i (fun hb => absurd hb (by rw [hk]; decide)) (fun _ => ?_)
      simp only [go_sem]
      refine acond_i (fun _ => ?_) (fun hb => absurd hb (by rw [hk]; decide))
      simp only [go_sem]
      refine PC.use (decimalZ_c c.n h.1) ?_
      simp only [go_sem]
      refine ⟨by rw [i64max]; first | omega | (simp only [ByteArray.size_append, List.size_toArray, List.length_cons, List.length_nil]; omega), ?_⟩
      refine acond_i (fun hb => ?_) (fun hb => ?_)
      · simp only [go_sem]
        rw [wr_bad (hc.trans (if_neg (notB hb))) (by decide)]; exact .refl _
      · simp only [go_sem]
        rw [wr_ok (hc.trans (if_pos (by simpa using hb)))]
        exact ⟨by rw [i64max]; first | omega | (simp only [ByteArray.size_append, List.size_toArray, List.length_cons, List.length_nil]; omega), by rw [i64max]; first | omega | (simp only [ByteArray.size_append, List.size_toArray, List.length_cons, List.length_nil]; omega), .refl _⟩
    · have hc : cmdR c = (if noneE c.event = true then (⟨#[101, 120, 112, 108, 97, 105, 110]⟩ ++ (⟨#[32]⟩ ++ decZ c.n), 0) else (⟨#[]⟩, 2)) := by unfold cmdR; rw [if_neg (by omega), if_neg (by omega), if_neg (by omega), if_neg (by omega), if_pos hk]
      refine acond_i (fun hb => absurd hb (by rw [hk]; decide)) (fun _ => ?_)
      simp only [go_sem]
      refine acond_i (fun hb => absurd hb (by rw [hk]; decide)) (fun _ => ?_)
      simp only [go_sem]
      refine acond_i (fun hb => absurd hb (by rw [hk]; decide)) (fun _ => ?_)
      simp only [go_sem]
      refine acond_i (fun hb => absurd hb (by rw [hk]; decide)) (fun _ => ?_)
      simp only [go_sem]
      refine acond_i (fun _ => ?_) (fun hb => absurd hb (by rw [hk]; decide))
      simp only [go_sem]
      refine PC.use (decimalZ_c c.n h.1) ?_
      simp only [go_sem]
      refine ⟨by rw [i64max]; first | omega | (simp only [ByteArray.size_append, List.size_toArray, List.length_cons, List.length_nil]; omega), ?_⟩
      refine acond_i (fun hb => ?_) (fun hb => ?_)
      · simp only [go_sem]
        rw [wr_bad (hc.trans (if_neg (notB hb))) (by decide)]; exact .refl _
      · simp only [go_sem]
        rw [wr_ok (hc.trans (if_pos (by simpa using hb)))]
        exact ⟨by rw [i64max]; first | omega | (simp only [ByteArray.size_append, List.size_toArray, List.length_cons, List.length_nil]; omega), by rw [i64max]; first | omega | (simp only [ByteArray.size_append, List.size_toArray, List.length_cons, List.length_nil]; omega), .refl _⟩
    · have hc : cmdR c = (if c.n = 0 then (if (evR c.event).2 = 0 then (⟨#[104, 97, 112, 112, 101, 110, 32]⟩ ++ (evR c.event).1, 0) else (⟨#[]⟩, (evR c.event).2)) else (⟨#[]⟩, 2)) := by unfold cmdR; rw [if_neg (by omega), if_neg (by omega), if_neg (by omega), if_neg (by omega), if_neg (by omega), if_pos hk]
      refine acond_i (fun hb => absurd hb (by rw [hk]; decide)) (fun _ => ?_)
      simp only [go_sem]
      refine acond_i (fun hb => absurd hb (by rw [hk]; decide)) (fun _ => ?_)
      simp only [go_sem]
      refine acond_i (fun hb => absurd hb (by rw [hk]; decide)) (fun _ => ?_)
      simp only [go_sem]
      refine acond_i (fun hb => absurd hb (by rw [hk]; decide)) (fun _ => ?_)
      simp only [go_sem]
      refine acond_i (fun hb => absurd hb (by rw [hk]; decide)) (fun _ => ?_)
      simp only [go_sem]
      refine acond_i (fun _ => ?_) (fun hb => absurd hb (by rw [hk]; decide))
      simp only [go_sem]
      refine acond_i (fun hb => ?_) (fun hb => ?_)
      · simp only [go_sem]
        rw [wr_bad (hc.trans (if_neg (by simpa using hb))) (by decide)]; exact .refl _
      have hn : c.n = 0 := by simpa using hb
      rw [if_pos hn] at hc
      simp only [go_sem]
      refine PC.use (ePrint_c c.event h.2) ?_
      simp only [go_sem]
      refine acond_i (fun hb => ?_) (fun hb => ?_)
      · simp only [go_sem]
        have he : ¬ (evR c.event).2 = 0 := by simpa using hb
        rw [wr_bad (hc.trans (if_neg he)) he]; exact .refl _
      have he : (evR c.event).2 = 0 := by simpa using hb
      simp only [go_sem]
      rw [wr_ok (hc.trans (if_pos he))]
      exact ⟨by rw [i64max]; first | omega | (simp only [ByteArray.size_append, List.size_toArray, List.length_cons, List.length_nil]; omega), by rw [i64max]; first | omega | (simp only [ByteArray.size_append, List.size_toArray, List.length_cons, List.length_nil]; omega), .refl _⟩
  · have hc : cmdR c = (⟨#[]⟩, 8) := by unfold cmdR; rw [if_neg (by omega), if_neg (by omega), if_neg (by omega), if_neg (by omega), if_neg (by omega), if_neg (by omega)]
    refine acond_i (fun hb => absurd (by simpa using hb) (show ¬ c.kind = 1 by omega)) (fun _ => ?_)
    simp only [go_sem]
    refine acond_i (fun hb => absurd (by simpa using hb) (show ¬ c.kind = 4 by omega)) (fun _ => ?_)
    simp only [go_sem]
    refine acond_i (fun hb => absurd (by simpa using hb) (show ¬ c.kind = 6 by omega)) (fun _ => ?_)
    simp only [go_sem]
    refine acond_i (fun hb => absurd (by simpa using hb) (show ¬ c.kind = 2 by omega)) (fun _ => ?_)
    simp only [go_sem]
    refine acond_i (fun hb => absurd (by simpa using hb) (show ¬ c.kind = 5 by omega)) (fun _ => ?_)
    simp only [go_sem]
    refine acond_i (fun hb => absurd (by simpa using hb) (show ¬ c.kind = 3 by omega)) (fun _ => ?_)
    simp only [go_sem]
    rw [wr_bad hc (by decide)]; exact .refl _
theorem refCommand_c (c : D.Command) (h : OkC c) : PC Tryz.prog 18 [.agg (encCommand c)] (.tup [str (cmdR c).1, int (cmdR c).2]) := by
  have z1 := decZ_size h.1
  have z2 := evR_size h.2
  refine PC.body (c := Tryz.f18.body.getD .skip) (fun _ => false) mixed Tryz.func18 rfl (by kernel_rfl) ?_
  unfold Tryz.f18
  simp only [Option.getD_some]
  simp only [go_sem]
  by_cases hk0 : c.kind = 1 ∨ c.kind = 4 ∨ c.kind = 6 ∨ c.kind = 2 ∨ c.kind = 5 ∨ c.kind = 3
  · rcases hk0 with hk | hk | hk | hk | hk | hk
    · have hc : cmdR c = (if (noneE c.event && c.n == 0) = true then (⟨#[112, 108, 97, 110]⟩, 0) else (⟨#[]⟩, 2)) := by unfold cmdR; rw [if_pos hk]
      refine acond_i (fun _ => ?_) (fun hb => absurd hb (by rw [hk]; decide))
      simp only [go_sem]
      refine acond_i (fun _ => ?_) (fun hb => absurd hb (by rw [hk]; decide))
      simp only [go_sem]
      refine ⟨_, fun _ => gdB (refNone_c c.event), ?_⟩
      simp only [go_sem]
      refine acond_i (fun hb => ?_) (fun hb => ?_)
      · simp only [go_sem]
        have hn : ¬ (noneE c.event && c.n == 0) = true := by
          revert hb
          cases noneE c.event <;> by_cases hz : c.n = 0 <;> simp [hz]
        rw [hc, if_neg hn]; exact .refl _
      have hn : (noneE c.event && c.n == 0) = true := by
        revert hb
        cases noneE c.event <;> by_cases hz : c.n = 0 <;> simp [hz]
      rw [hc, if_pos hn]
      simp only [go_sem]
      refine acond_i (fun _ => ?_) (fun hb => absurd hb (by rw [hk]; decide))
      simp only [go_sem]
      exact .refl _
    · have hc : cmdR c = (if (noneE c.event && c.n == 0) = true then (⟨#[112, 114, 111, 118, 101]⟩, 0) else (⟨#[]⟩, 2)) := by unfold cmdR; rw [if_neg (by omega), if_pos hk]
      refine acond_i (fun hb => absurd hb (by rw [hk]; decide)) (fun _ => ?_)
      simp only [go_sem]
      refine acond_i (fun _ => ?_) (fun hb => absurd hb (by rw [hk]; decide))
      simp only [go_sem]
      refine acond_i (fun _ => ?_) (fun hb => absurd hb (by rw [hk]; decide))
      simp only [go_sem]
      refine ⟨_, fun _ => gdB (refNone_c c.event), ?_⟩
      simp only [go_sem]
      refine acond_i (fun hb => ?_) (fun hb => ?_)
      · simp only [go_sem]
        have hn : ¬ (noneE c.event && c.n == 0) = true := by
          revert hb
          cases noneE c.event <;> by_cases hz : c.n = 0 <;> simp [hz]
        rw [hc, if_neg hn]; exact .refl _
      have hn : (noneE c.event && c.n == 0) = true := by
        revert hb
        cases noneE c.event <;> by_cases hz : c.n = 0 <;> simp [hz]
      rw [hc, if_pos hn]
      simp only [go_sem]
      refine acond_i (fun hb => absurd hb (by rw [hk]; decide)) (fun _ => ?_)
      simp only [go_sem]
      refine acond_i (fun _ => ?_) (fun hb => absurd hb (by rw [hk]; decide))
      simp only [go_sem]
      exact .refl _
    · have hc : cmdR c = (if (noneE c.event && c.n == 0) = true then (⟨#[110, 101, 120, 116]⟩, 0) else (⟨#[]⟩, 2)) := by unfold cmdR; rw [if_neg (by omega), if_neg (by omega), if_pos hk]
      refine acond_i (fun hb => absurd hb (by rw [hk]; decide)) (fun _ => ?_)
      simp only [go_sem]
      refine acond_i (fun hb => absurd hb (by rw [hk]; decide)) (fun _ => ?_)
      simp only [go_sem]
      refine acond_i (fun _ => ?_) (fun hb => absurd hb (by rw [hk]; decide))
      simp only [go_sem]
      refine ⟨_, fun _ => gdB (refNone_c c.event), ?_⟩
      simp only [go_sem]
      refine acond_i (fun hb => ?_) (fun hb => ?_)
      · simp only [go_sem]
        have hn : ¬ (noneE c.event && c.n == 0) = true := by
          revert hb
          cases noneE c.event <;> by_cases hz : c.n = 0 <;> simp [hz]
        rw [hc, if_neg hn]; exact .refl _
      have hn : (noneE c.event && c.n == 0) = true := by
        revert hb
        cases noneE c.event <;> by_cases hz : c.n = 0 <;> simp [hz]
      rw [hc, if_pos hn]
      simp only [go_sem]
      refine acond_i (fun hb => absurd hb (by rw [hk]; decide)) (fun _ => ?_)
      simp only [go_sem]
      refine acond_i (fun hb => absurd hb (by rw [hk]; decide)) (fun _ => ?_)
      simp only [go_sem]
      exact .refl _
    · have hc : cmdR c = (if noneE c.event = true then (⟨#[97, 100, 118, 97, 110, 99, 101]⟩ ++ (⟨#[32]⟩ ++ decZ c.n), 0) else (⟨#[]⟩, 2)) := by unfold cmdR; rw [if_neg (by omega), if_neg (by omega), if_neg (by omega), if_pos hk]
      refine acond_i (fun hb => absurd hb (by rw [hk]; decide)) (fun _ => ?_)
      simp only [go_sem]
      refine acond_i (fun hb => absurd hb (by rw [hk]; decide)) (fun _ => ?_)
      simp only [go_sem]
      refine acond_i (fun hb => absurd hb (by rw [hk]; decide)) (fun _ => ?_)
      simp only [go_sem]
      refine acond_i (fun _ => ?_) (fun hb => absurd hb (by rw [hk]; decide))
      simp only [go_sem]
      refine acond_i (fun _ => ?_) (fun hb => absurd hb (by rw [hk]; decide))
      simp only [go_sem]
      refine PC.use (refNone_c c.event) ?_
      simp only [go_sem]
      refine acond_i (fun hb => ?_) (fun hb => ?_)
      · simp only [go_sem]
        rw [hc, if_neg (notB hb)]; exact .refl _
      rw [hc, if_pos (by simpa using hb)]
      simp only [go_sem]
      refine acond_i (fun _ => ?_) (fun hb => absurd hb (by rw [hk]; decide))
      simp only [go_sem]
      refine PC.use (refDecimal_c c.n h.1) ?_
      simp only [go_sem]
      refine ⟨by rw [i64max]; first | omega | (simp only [ByteArray.size_append, List.size_toArray, List.length_cons, List.length_nil]; omega), ?_⟩
      rw [← app_assoc]
      exact .refl _
    · have hc : cmdR c = (if noneE c.event = true then (⟨#[101, 120, 112, 108, 97, 105, 110]⟩ ++ (⟨#[32]⟩ ++ decZ c.n), 0) else (⟨#[]⟩, 2)) := by unfold cmdR; rw [if_neg (by omega), if_neg (by omega), if_neg (by omega), if_neg (by omega), if_pos hk]
      refine acond_i (fun hb => absurd hb (by rw [hk]; decide)) (fun _ => ?_)
      simp only [go_sem]
      refine acond_i (fun hb => absurd hb (by rw [hk]; decide)) (fun _ => ?_)
      simp only [go_sem]
      refine acond_i (fun hb => absurd hb (by rw [hk]; decide)) (fun _ => ?_)
      simp only [go_sem]
      refine acond_i (fun hb => absurd hb (by rw [hk]; decide)) (fun _ => ?_)
      simp only [go_sem]
      refine acond_i (fun _ => ?_) (fun hb => absurd hb (by rw [hk]; decide))
      simp only [go_sem]
      refine PC.use (refNone_c c.event) ?_
      simp only [go_sem]
      refine acond_i (fun hb => ?_) (fun hb => ?_)
      · simp only [go_sem]
        rw [hc, if_neg (notB hb)]; exact .refl _
      rw [hc, if_pos (by simpa using hb)]
      simp only [go_sem]
      refine acond_i (fun hb => absurd hb (by rw [hk]; decide)) (fun _ => ?_)
      simp only [go_sem]
      refine PC.use (refDecimal_c c.n h.1) ?_
      simp only [go_sem]
      refine ⟨by rw [i64max]; first | omega | (simp only [ByteArray.size_append, List.size_toArray, List.length_cons, List.length_nil]; omega), ?_⟩
      rw [← app_assoc]
      exact .refl _
    · have hc : cmdR c = (if c.n = 0 then (if (evR c.event).2 = 0 then (⟨#[104, 97, 112, 112, 101, 110, 32]⟩ ++ (evR c.event).1, 0) else (⟨#[]⟩, (evR c.event).2)) else (⟨#[]⟩, 2)) := by unfold cmdR; rw [if_neg (by omega), if_neg (by omega), if_neg (by omega), if_neg (by omega), if_neg (by omega), if_pos hk]
      refine acond_i (fun hb => absurd hb (by rw [hk]; decide)) (fun _ => ?_)
      simp only [go_sem]
      refine acond_i (fun hb => absurd hb (by rw [hk]; decide)) (fun _ => ?_)
      simp only [go_sem]
      refine acond_i (fun hb => absurd hb (by rw [hk]; decide)) (fun _ => ?_)
      simp only [go_sem]
      refine acond_i (fun hb => absurd hb (by rw [hk]; decide)) (fun _ => ?_)
      simp only [go_sem]
      refine acond_i (fun hb => absurd hb (by rw [hk]; decide)) (fun _ => ?_)
      simp only [go_sem]
      refine acond_i (fun _ => ?_) (fun hb => absurd hb (by rw [hk]; decide))
      simp only [go_sem]
      refine acond_i (fun hb => ?_) (fun hb => ?_)
      · simp only [go_sem]
        rw [hc, if_neg (by simpa using hb)]; exact .refl _
      have hn : c.n = 0 := by simpa using hb
      rw [if_pos hn] at hc
      simp only [go_sem]
      refine PC.use (refEPrint_c c.event h.2) ?_
      simp only [go_sem]
      refine acond_i (fun hb => ?_) (fun hb => ?_)
      · simp only [go_sem]
        have he : ¬ (evR c.event).2 = 0 := by simpa using hb
        rw [hc, if_neg he]; exact .refl _
      have he : (evR c.event).2 = 0 := by simpa using hb
      simp only [go_sem]
      rw [hc, if_pos he]
      exact ⟨by rw [i64max]; first | omega | (simp only [ByteArray.size_append, List.size_toArray, List.length_cons, List.length_nil]; omega), .refl _⟩
  · have hc : cmdR c = (⟨#[]⟩, 8) := by unfold cmdR; rw [if_neg (by omega), if_neg (by omega), if_neg (by omega), if_neg (by omega), if_neg (by omega), if_neg (by omega)]
    refine acond_i (fun hb => absurd (by simpa using hb) (show ¬ c.kind = 1 by omega)) (fun _ => ?_)
    simp only [go_sem]
    refine acond_i (fun hb => absurd (by simpa using hb) (show ¬ c.kind = 4 by omega)) (fun _ => ?_)
    simp only [go_sem]
    refine acond_i (fun hb => absurd (by simpa using hb) (show ¬ c.kind = 6 by omega)) (fun _ => ?_)
    simp only [go_sem]
    refine acond_i (fun hb => absurd (by simpa using hb) (show ¬ c.kind = 2 by omega)) (fun _ => ?_)
    simp only [go_sem]
    refine acond_i (fun hb => absurd (by simpa using hb) (show ¬ c.kind = 5 by omega)) (fun _ => ?_)
    simp only [go_sem]
    refine acond_i (fun hb => absurd (by simpa using hb) (show ¬ c.kind = 3 by omega)) (fun _ => ?_)
    simp only [go_sem]
    rw [hc]; exact .refl _
end Go.Proofs.YtjohkkigiacbjaaGreatDoor.Sc
end

section
set_option linter.unusedSimpArgs false
set_option linter.unusedVariables false
namespace Go.Proofs.YtjohkkigiacbjaaGreatDoor.Sc
open Go.Aw Go.Aw.D Go.Proofs Ty
open Go.RowKit (Below)
open Go.Proofs.YtjohkkigiacbjaaGreatDoor
open Go.Proofs.YtjohkkigiacbjaaGreatDoor.Nw (ltB geB cB)
set_option maxRecDepth 100000
def errC : List D.Command → Int
  | [] => 0
  | c :: r => if (cmdR c).2 = 0 then errC r else (cmdR c).2
theorem errC_all : ∀ {l : List D.Command}, (∀ c ∈ l, (cmdR c).2 = 0) → errC l = 0
  | [], _ => rfl
  | c :: r, h => by rw [errC, if_pos (h c (by simp)), errC_all fun x hx => h x (by simp [hx])]
theorem errC_at : ∀ {l : List D.Command} {k : Nat} {c : D.Command}, (∀ c ∈ l.take k, (cmdR c).2 = 0) → l[k]? = some c → (cmdR c).2 ≠ 0 → errC l = (cmdR c).2
  | [], _, _, _, h, _ => by simp at h
  | a :: r, 0, c, _, h, hc => by
    simp at h
    subst h
    rw [errC, if_neg hc]
  | a :: r, k + 1, c, h0, h, hc => by
    rw [errC, if_pos (h0 a (by simp)), errC_at (k := k) (fun x hx => h0 x (by simp [hx])) (by simpa using h) hc]
def cmdL (c : D.Command) : ByteArray := (cmdR c).1 ++ ⟨#[10]⟩
def beginB : ByteArray := ⟨#[98, 101, 103, 105, 110, 10]⟩
def scrT (s : D.Script) : ByteArray := (printR s.inst).1 ++ beginB ++ catB (s.commands.map cmdL)
def scrR (s : D.Script) : ByteArray × Int :=
  if (printR s.inst).2 = 0 then (if errC s.commands = 0 then (if 65536 < (scrT s).size then (⟨#[]⟩, 4) else (scrT s, 0)) else (⟨#[]⟩, errC s.commands)) else (⟨#[]⟩, (printR s.inst).2)
structure OkS (s : D.Script) : Prop where
  inst : OkI s.inst
  cl : s.commands.length ≤ 100
  cmd : ∀ c ∈ s.commands, OkC c
theorem textI_size {x : Instance} (h : OkI x) : (textI x).size ≤ 1200000000010 := by
  have := (text_sizes x h).2.2.2.2.2
  unfold textI
  rw [ByteArray.size_append]
  have : endL.size = 4 := rfl
  omega
theorem printR_size {x : Instance} (h : OkI x) : (printR x).1.size ≤ 1200000000010 := by
  have := textI_size h
  unfold printR
  split
  · exact (by decide : (0 : Nat) ≤ 1200000000010)
  split
  · exact (by decide : (0 : Nat) ≤ 1200000000010)
  · exact this
theorem cmdL_size {c : D.Command} (h : OkC c) : (cmdL c).size ≤ 2000000000 := by
  have := cmdR_size h
  unfold cmdL
  rw [ByteArray.size_append]
  have : (⟨#[10]⟩ : ByteArray).size = 1 := rfl
  omega
theorem sPrint_c (s : D.Script) (h : OkS s) : PC Tryz.prog 6 [.agg (encScript s)] (.tup [str (scrR s).1, int (scrR s).2]) := by
  have z1 := printR_size h.inst
  refine PC.body (c := Tryz.f6.body.getD .skip) (fun t => t == 6) mixed Tryz.func6 rfl (by kernel_rfl) ?_
  unfold Tryz.f6
  simp only [Option.getD_some]
  simp only [go_sem]
  refine PC.use (print_c s.inst h.inst) ?_
  simp only [go_sem]
  unfold scrR
  refine acond_i (fun hb => ?_) (fun hb => ?_)
  · simp only [go_sem]
    rw [if_neg (by simpa using hb)]; exact .refl _
  rw [if_pos (by simpa using hb)]
  simp only [go_sem]
  refine anew_g fun j HGj hj0 (Rj : HGj j = some (⟨5, 1, []⟩)) N0 => ?_
  clear N0 hj0
  refine anew_g fun b HGb hb0 (Rb : HGb b = some (⟨67, 2, [[.v (.pointer none), .os j]]⟩)) N => ?_
  replace Rj := N Rj
  obtain ⟨ne_j_b, Rj⟩ := Rj
  clear N hb0
  simp only [go_sem, Rb, Rj]
  refine ⟨by rw [i64max]; first | omega | (simp only [ByteArray.size_append, List.size_toArray, List.length_cons, List.length_nil]; omega), ?_⟩
  refine wstr_c (t := ⟨#[]⟩) Rb Rj (.inl rfl) btB (by rw [ByteArray.size_append]; show 0 + (_ + 6) ≤ _; omega) fun H1 j1 hbj1 hb1 hj1 _ => ?_
  replace hj1 : H1 j1 = some (tRow ((printR s.inst).1 ++ beginB)) := by rw [nil_app] at hj1; exact hj1
  simp only [go_sem, List.length_map]
  refine ⟨fun ρ H => ∃ (k : Nat) (j : Nat) (a : AV), k ≤ s.commands.length ∧ ρ 6 = .op b 0 0 ∧ ρ 24 = .sl (s.commands.map encCommand) ∧ ρ 25 = int (s.commands.length : Nat) ∧ ρ 26 = int k ∧ H b = some (bRow 67 a j) ∧ Fu a b ∧ H j = some (tRow ((printR s.inst).1 ++ beginB ++ catB ((s.commands.take k).map cmdL))) ∧ (∀ c ∈ s.commands.take k, (cmdR c).2 = 0), fun ρ _ => s.commands.length - natOf (ρ 26), ⟨0, j1, .op b 0 0, Nat.zero_le _, by simp only [go_sem], by simp only [go_sem], by simp only [go_sem, List.length_map], (by simp only [go_sem]; rfl), hb1, .inr rfl, (by rw [List.take_zero, List.map_nil, catB, app_nil]; exact hj1), by simp⟩, ?_⟩
  rintro ρ H ⟨k, j, a, hk, e6, e24, e25, e26, hb, ha, hj, hz⟩
  simp only [go_sem, e6, e24, e25, e26]
  refine acond_i (fun hlt => ?_) (fun hge => ?_)
  · have hlt := ltB hlt
    obtain ⟨y, hy⟩ := getIn hlt
    have b1 := inB hlt
    have hwr := wrapS (show k ≤ 4611686018427387904 by have := h.cl; omega)
    have hmy := mem_of_get hy
    have hoy := h.cmd y hmy
    have hct := catB_take (f := cmdL) hy
    have hsz := catT (f := cmdL) h.cl (fun a ha => cmdL_size (h.cmd a ha)) k
    have hys := cmdL_size hoy
    simp only [go_sem, e6, e24, e25, e26, getD_map hy, b1]
    refine anew_i fun p hp0 => ?_
    simp only [go_sem, e6, e24, e25, e26, hwr, hb, hj]
    refine wputE_v hp0 (by simp [encCommand]) fun HGp (Rp : HGp p = some (⟨72, 23, [encCommand y]⟩)) N => ?_
    replace hb := N hb
    obtain ⟨ne_b_p, hb⟩ := hb
    replace hj := N hj
    obtain ⟨ne_j_p, hj⟩ := hj
    clear N hp0
    simp only [go_sem, e6, e24, e25, e26, hwr, Rp, hb, hj]
    refine PC.use (written_c y hoy) ?_
    simp only [go_sem, e6, e24, e25, e26, Rp]
    by_cases he : (cmdR y).2 = 0
    · have hw : wrR y = (cmdL y, 0) := wr_ok (t := (cmdR y).1) (Prod.ext rfl he)
      rw [hw]
      refine acond_i (fun hb => absurd hb (by simp)) (fun _ => ?_)
      simp only [go_sem, e6, e24, e25, e26]
      have hq : beginB.size = 6 := rfl
      refine wstr_c hb hj ha btB (by simp only [ByteArray.size_append]; omega) fun H2 j2 hbj2 hb2 hj2 _ => ?_
      simp only [go_sem, e6, e24, e25, e26, hwr]
      exact ⟨⟨k + 1, j2, .op b 0 0, hlt, rfl, hb2, .inr rfl, hj2.trans (by rw [hct, ← app_assoc]), Nw.take_allP hy he hz⟩, by simp only [natOf_int]; omega⟩
    · have hw : wrR y = (⟨#[]⟩, (cmdR y).2) := by unfold wrR; rw [if_neg he]
      rw [hw]
      refine acond_i (fun _ => ?_) (fun hb => absurd hb (by simpa using he))
      simp only [go_sem]
      have hE := errC_at hz hy he
      rw [if_neg (by rw [hE]; exact he), hE]
      exact .refl _
  have hge := geB hk hge
  subst hge
  rw [List.take_of_length_le (Nat.le_refl _)] at hj hz
  replace hj : H j = some (tRow (scrT s)) := hj
  rw [if_pos (errC_all hz)]
  have hsz := catT (f := cmdL) h.cl (fun a ha => cmdL_size (h.cmd a ha)) s.commands.length
  rw [List.take_of_length_le (Nat.le_refl _)] at hsz
  have hT : (scrT s).size ≤ 2000000000000 := by
    unfold scrT
    rw [ByteArray.size_append, ByteArray.size_append]
    have hq : beginB.size = 6 := rfl
    omega
  have hP : 0 < (scrT s).size := by
    unfold scrT
    rw [ByteArray.size_append, ByteArray.size_append]
    have hq : beginB.size = 6 := rfl
    omega
  simp only [go_sem, e6, e24, e25, e26]
  refine len_c hb hj ?_
  simp only [go_sem, e6, e24, e25, e26]
  refine acond_i (fun hb2 => ?_) (fun hb2 => ?_)
  · have hb3 : ((scrT s).size : Int) > 65536 := by simpa using hb2
    simp only [go_sem]
    rw [if_pos (by omega)]
    exact .refl _
  · have hb3 : ¬ ((scrT s).size : Int) > 65536 := by simpa using hb2
    simp only [go_sem, e6, e24, e25, e26]
    refine str_c hb hj hP (by omega) fun H2 _ => ?_
    simp only [go_sem]
    rw [if_neg (by omega)]
    exact .refl _
theorem refPrint54_c (s : D.Script) (h : OkS s) : PC Tryz.prog 8 [.agg (encScript s)] (.tup [str (scrR s).1, int (scrR s).2]) := by
  have z1 := printR_size h.inst
  refine PC.body (c := Tryz.f8.body.getD .skip) (fun _ => false) mixed Tryz.func8 rfl (by kernel_rfl) ?_
  unfold Tryz.f8
  simp only [Option.getD_some]
  simp only [go_sem]
  refine PC.use (refPrint_c s.inst h.inst) ?_
  simp only [go_sem]
  unfold scrR
  refine acond_i (fun hb => ?_) (fun hb => ?_)
  · simp only [go_sem]
    rw [if_neg (by simpa using hb)]; exact .refl _
  rw [if_pos (by simpa using hb)]
  simp only [go_sem]
  refine ⟨by rw [i64max]; first | omega | (simp only [ByteArray.size_append, List.size_toArray, List.length_cons, List.length_nil]; omega), ?_⟩
  refine ⟨fun ρ H => ∃ (k : Nat), k ≤ s.commands.length ∧ ρ 1 = .rp (encScript s) 0 ∧ ρ 6 = int k ∧ ρ 4 = str ((printR s.inst).1 ++ beginB ++ catB ((s.commands.take k).map cmdL)) ∧ (∀ c ∈ s.commands.take k, (cmdR c).2 = 0), fun ρ _ => s.commands.length - natOf (ρ 6), ⟨0, Nat.zero_le _, by simp only [go_sem], (by simp only [go_sem]; rfl), (by simp only [go_sem, List.take_zero, List.map_nil, catB, app_nil]; rfl), by simp⟩, ?_⟩
  rintro ρ H ⟨k, hk, e1, e6, e4, hz⟩
  simp only [go_sem, e1, e6, e4]
  refine acond_i (fun hlt => ?_) (fun hge => ?_)
  · have hlt := ltB hlt
    obtain ⟨y, hy⟩ := getIn hlt
    have b1 := inB hlt
    have hw := wrapS (show k ≤ 4611686018427387904 by have := h.cl; omega)
    have hmy := mem_of_get hy
    have hoy := h.cmd y hmy
    have hct := catB_take (f := cmdL) hy
    have hsz := catT (f := cmdL) h.cl (fun a ha => cmdL_size (h.cmd a ha)) k
    have hys := cmdR_size hoy
    have hq : beginB.size = 6 := rfl
    simp only [go_sem, e1, e6, e4, getD_map hy, b1]
    refine PC.use (refCommand_c y hoy) ?_
    simp only [go_sem, e1, e6, e4]
    by_cases he : (cmdR y).2 = 0
    · refine acond_i (fun hb => absurd he (by simpa using hb)) (fun _ => ?_)
      simp only [go_sem, e1, e6, e4, hw]
      refine ⟨by rw [i64max]; first | omega | (simp only [ByteArray.size_append, List.size_toArray, List.length_cons, List.length_nil]; omega), by rw [i64max]; first | omega | (simp only [ByteArray.size_append, List.size_toArray, List.length_cons, List.length_nil]; omega), ⟨k + 1, hlt, rfl, ?_, Nw.take_allP hy he hz⟩, by simp only [natOf_int]; omega⟩
      rw [hct]
      simp only [cmdL, app_assoc]
    · refine acond_i (fun _ => ?_) (fun hb => absurd (by simpa using hb) he)
      simp only [go_sem]
      have hE := errC_at hz hy he
      rw [if_neg (by rw [hE]; exact he), hE]
      exact .refl _
  have hge := geB hk hge
  subst hge
  rw [List.take_of_length_le (Nat.le_refl _)] at e4 hz
  replace e4 : ρ 4 = str (scrT s) := e4
  rw [if_pos (errC_all hz)]
  simp only [go_sem, e1, e6, e4]
  refine acond_i (fun hb2 => ?_) (fun hb2 => ?_)
  · have hb3 : ((scrT s).size : Int) > 65536 := by simpa using hb2
    simp only [go_sem]
    rw [if_pos (by omega)]
    exact .refl _
  · have hb3 : ¬ ((scrT s).size : Int) > 65536 := by simpa using hb2
    simp only [go_sem, e1, e6, e4]
    rw [if_neg (by omega)]
    exact .refl _
def itemS (i : D.Item) : ByteArray := decZ i.kind ++ (⟨#[58]⟩ ++ decZ i.a)
def repL (r : D.Reply) : List ByteArray := decZ r.err :: decZ r.price :: r.items.map itemS
structure OkR (r : D.Reply) : Prop where
  err : i64B r.err
  price : i64B r.price
  il : r.items.length ≤ 100
  item : ∀ i ∈ r.items, i64B i.kind ∧ i64B i.a
theorem itemS_size {i : D.Item} (h : i64B i.kind ∧ i64B i.a) : (itemS i).size ≤ 43 := by
  have h1 := decZ_size h.1
  have h2 := decZ_size h.2
  unfold itemS
  rw [ByteArray.size_append, ByteArray.size_append]
  show _ + (1 + _) ≤ _
  omega
theorem repL_ok {r : D.Reply} (h : OkR r) : (∀ a ∈ repL r, a.size ≤ 43) ∧ (repL r).length ≤ 102 := by
  refine ⟨fun a ha => ?_, by have := h.il; simp [repL]; omega⟩
  simp only [repL, List.mem_cons, List.mem_map] at ha
  rcases ha with rfl | rfl | ⟨i, hi, rfl⟩
  · exact Nat.le_trans (decZ_size h.err) (by decide)
  · exact Nat.le_trans (decZ_size h.price) (by decide)
  · exact itemS_size (h.item i hi)
theorem line54_c (r : D.Reply) (h : OkR r) : PC Tryz.prog 9 [.agg (encReply r)] (str (joinB spB (repL r))) := by
  refine PC.body (c := Tryz.f9.body.getD .skip) (fun t => t == 12) mixed Tryz.func9 rfl (by kernel_rfl) ?_
  unfold Tryz.f9
  simp only [Option.getD_some]
  simp only [go_sem]
  refine adraw_m [(0, true), (1, true), (2, true), (3, true), (4, true), (5, true), (6, false), (7, true)] (by kernel_rfl) ?_
  simp only [go_sem]
  refine ⟨_, qi (code_c r.err h.err), ?_⟩
  simp only [go_sem]
  refine ⟨_, qi (decimalZ_c r.price h.price), ?_⟩
  simp only [go_sem]
  refine anew_g fun i HGi hi0 (Ri : HGi i = some (strRow [decZ r.err, decZ r.price])) N => ?_
  clear N hi0
  simp only [go_sem, Ri]
  refine ⟨fun ρ H => ∃ (k : Nat) (i : Nat), k ≤ r.items.length ∧ ρ 14 = .sl (r.items.map encItem) ∧ ρ 15 = int (r.items.length : Nat) ∧ ρ 16 = int k ∧ ρ 3 = .os i ∧ H i = some (strRow (decZ r.err :: decZ r.price :: (r.items.take k).map itemS)), fun ρ _ => r.items.length - natOf (ρ 16), ⟨0, i, Nat.zero_le _, by simp only [go_sem], by simp only [go_sem, List.length_map], (by simp only [go_sem]; rfl), by simp only [go_sem], Ri⟩, ?_⟩
  rintro ρ H ⟨k, i, hk, e14, e15, e16, e3, Ri⟩
  simp only [go_sem, e14, e15, e16, e3]
  refine acond_i (fun hlt => ?_) (fun hge => ?_)
  · have hlt := ltB hlt
    obtain ⟨y, hy⟩ := getIn hlt
    have b1 := inB hlt
    have hwr := wrapS (show k ≤ 4611686018427387904 by have := h.il; omega)
    have hst : (r.items.take (k + 1)).map itemS = (r.items.take k).map itemS ++ [itemS y] := by rw [take_succ hy]; simp
    have hok := h.item y (mem_of_get hy)
    have s1 := decZ_size hok.1
    have s2 := decZ_size hok.2
    have hil := h.il
    simp only [go_sem, e14, e15, e16, e3, getD_map hy, b1]
    refine anew_i fun p hp0 => ?_
    simp only [go_sem, e14, e15, e16, e3, hwr, Ri]
    refine wputE_v hp0 (by simp [encItem]) fun HGp (Rp : HGp p = some (⟨62, 2, [encItem y]⟩)) N => ?_
    replace Ri := N Ri
    obtain ⟨ne_i_p, Ri⟩ := Ri
    clear N hp0
    simp only [go_sem, e14, e15, e16, e3, hwr, Rp, Ri]
    refine adraw_p [p] [(0, true), (1, true), (2, true), (3, true), (4, true), (5, true), (6, true), (7, true), (8, true), (9, false), (10, false), (11, true)] (by simp [Rp]) (by kernel_rfl) fun Hp Hr hp hr _ hr0 => ?_
    have P_Rp := (hp p (by simp)).trans Rp
    have Q_Ri := (hr i (by simp [ne_i_p])).trans Ri
    simp only [go_sem, e14, e15, e16, e3, P_Rp, Q_Ri]
    refine ⟨_, qi (decimalZ_c y.kind hok.1), ?_⟩
    simp only [go_sem, e14, e15, e16, e3, P_Rp]
    refine ⟨by rw [i64max]; first | omega | (simp only [ByteArray.size_append, List.size_toArray, List.length_cons, List.length_nil]; omega), _, qi (decimalZ_c y.a hok.2), ?_⟩
    simp only [go_sem, e14, e15, e16, e3, P_Rp]
    refine ⟨by rw [i64max]; first | omega | (simp only [ByteArray.size_append, List.size_toArray, List.length_cons, List.length_nil]; omega), ?_⟩
    refine wappE_i Q_Ri ⟨rfl, rfl⟩ (by simp only [go_sem]) (by simp only [List.length_map, List.length_cons, List.length_nil, List.length_take]; omega) fun j' hj' => ?_
    simp only [go_sem, e14, e15, e16, e3]
    refine pinEnd_i fun h0 Hm hm1 hm2 => ?_
    have hjp : j' ≠ p := fun e => by have := h0 p (by simp); rw [← e, updH_same] at this; cases this
    have g1 := (hm2 j' (by simp [hjp])).trans (updH_same _ _ _)
    simp only [go_sem, e14, e15, e16, e3, hwr]
    refine ⟨⟨k + 1, j', hlt, rfl, rfl, g1.trans ?_⟩, by simp only [natOf_int]; omega⟩
    rw [hst]
    simp only [strRow, List.map_append, List.map_cons, List.cons_append, itemS, app_assoc]
    rfl
  have hge := geB hk hge
  subst hge
  rw [List.take_of_length_le (Nat.le_refl _)] at Ri
  replace Ri : H i = some (strRow (repL r)) := Ri
  obtain ⟨q1, q2⟩ := repL_ok h
  simp only [go_sem, e14, e15, e16, e3]
  refine QFlat.use ⟨[.sl ((repL r).map D.encStr)], .cons _ _ _ _ (.row _ _ _ Ri (ConvE.refl _)) .nil, tjoin_c _ (by omega) ?_, rfl⟩ ?_
  · refine Nat.le_trans (joinB_size (s := spB) (repL r) q1) ?_
    show (repL r).length * (1 + 43) ≤ _
    omega
  · simp only [go_sem]
    exact .refl _
theorem refLine54_c (r : D.Reply) (h : OkR r) : PC Tryz.prog 10 [.agg (encReply r)] (str (joinB spB (repL r))) := by
  refine PC.body (c := Tryz.f10.body.getD .skip) (fun t => t == 11) mixed Tryz.func10 rfl (by kernel_rfl) ?_
  unfold Tryz.f10
  simp only [Option.getD_some]
  simp only [go_sem]
  refine adraw_m [(0, true), (1, true), (2, true), (3, true), (4, true), (5, true), (6, false), (7, true)] (by kernel_rfl) ?_
  simp only [go_sem]
  refine ⟨_, qi (refDecimal_c r.err h.err), ?_⟩
  simp only [go_sem]
  refine ⟨_, qi (refDecimal_c r.price h.price), ?_⟩
  simp only [go_sem]
  refine anew_g fun i HGi hi0 (Ri : HGi i = some (strRow [decZ r.err, decZ r.price])) N => ?_
  clear N hi0
  simp only [go_sem, Ri]
  refine ⟨fun ρ H => ∃ (k : Nat) (i : Nat), k ≤ r.items.length ∧ ρ 1 = .rp (encReply r) 0 ∧ ρ 4 = int k ∧ ρ 3 = .os i ∧ H i = some (strRow (decZ r.err :: decZ r.price :: (r.items.take k).map itemS)), fun ρ _ => r.items.length - natOf (ρ 4), ⟨0, i, Nat.zero_le _, by simp only [go_sem], (by simp only [go_sem]; rfl), by simp only [go_sem], Ri⟩, ?_⟩
  rintro ρ H ⟨k, i, hk, e1, e4, e3, Ri⟩
  simp only [go_sem, e1, e4, e3]
  refine acond_i (fun hlt => ?_) (fun hge => ?_)
  · have hlt := ltB hlt
    obtain ⟨y, hy⟩ := getIn hlt
    have b1 := inB hlt
    have hwr := wrapS (show k ≤ 4611686018427387904 by have := h.il; omega)
    have hst : (r.items.take (k + 1)).map itemS = (r.items.take k).map itemS ++ [itemS y] := by rw [take_succ hy]; simp
    have hok := h.item y (mem_of_get hy)
    have s1 := decZ_size hok.1
    have s2 := decZ_size hok.2
    have hil := h.il
    simp only [go_sem, e1, e4, e3]
    refine adraw_m [(0, true), (1, true), (2, true), (3, true), (4, true), (5, true), (6, true), (7, true), (8, true), (9, true), (10, true), (11, true), (12, true), (13, true), (14, true), (15, true), (16, true), (17, false), (18, false), (19, true)] (by kernel_rfl) ?_
    simp only [go_sem, e1, e4, e3, getD_map hy, b1]
    refine ⟨_, qi (refDecimal_c y.kind hok.1), ?_⟩
    simp only [go_sem, e1, e4, e3, getD_map hy, b1]
    refine ⟨by rw [i64max]; first | omega | (simp only [ByteArray.size_append, List.size_toArray, List.length_cons, List.length_nil]; omega), _, qi (refDecimal_c y.a hok.2), ?_⟩
    simp only [go_sem, e1, e4, e3]
    refine ⟨by rw [i64max]; first | omega | (simp only [ByteArray.size_append, List.size_toArray, List.length_cons, List.length_nil]; omega), ?_⟩
    refine wappE_i Ri ⟨rfl, rfl⟩ (by simp only [go_sem]) (by simp only [List.length_map, List.length_cons, List.length_nil, List.length_take]; omega) fun j' hj' => ?_
    simp only [go_sem, e1, e4, e3, hwr]
    refine ⟨⟨k + 1, j', hlt, rfl, rfl, (updH_same _ _ _).trans ?_⟩, by simp only [natOf_int]; omega⟩
    rw [hst]
    simp only [strRow, List.map_append, List.map_cons, List.cons_append, itemS, app_assoc]
    rfl
  have hge := geB hk hge
  subst hge
  rw [List.take_of_length_le (Nat.le_refl _)] at Ri
  replace Ri : H i = some (strRow (repL r)) := Ri
  obtain ⟨q1, q2⟩ := repL_ok h
  simp only [go_sem, e1, e4, e3]
  refine QFlat.use ⟨[.sl ((repL r).map D.encStr)], .cons _ _ _ _ (.row _ _ _ Ri (ConvE.refl _)) .nil, refJoin_c _ (by omega) (fun a ha => Nat.le_trans (q1 a ha) (by decide)), rfl⟩ ?_
  simp only [go_sem]
  exact .refl _
end Go.Proofs.YtjohkkigiacbjaaGreatDoor.Sc
end
