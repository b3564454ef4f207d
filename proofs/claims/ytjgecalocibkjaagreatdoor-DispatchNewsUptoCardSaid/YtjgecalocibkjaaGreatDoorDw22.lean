/- Texts joined by a program: DiB, DiC, DiD, DiE, DiF, DiG, DiH, DiI, DiJ. -/
import Derived.Test.YtjgecalocibkjaaGreatDoorDw21

section
set_option linter.unusedSimpArgs false
set_option linter.unusedVariables false
namespace Go.Proofs.YtjgecalocibkjaaGreatDoor.Di
open Go.Aw Go.Aw.D Go.Proofs Ty
set_option maxRecDepth 100000
def deskRow (p : Nat → AV) (x0 x1 x2 x3 x4 x5 : AV) (now : Int) (c : AV) : Row := ⟨65, 24, [[boo true, x0, x1, x2, x3, x4, x5, int now, boo false, p 0, p 1, p 2, p 3, p 4, p 5, p 6, p 7, boo false, boo false, boo false, p 8, p 9, p 10, c]]⟩
theorem updH_twice (H : Heap) (j : Nat) (a b : Option Row) : updH (updH H j a) j b = updH H j b := by
  funext i
  by_cases h : i = j
  · subst h; rw [updH_same, updH_same]
  · rw [updH_ne _ _ _ _ h, updH_ne _ _ _ _ h, updH_ne _ _ _ _ h]
def Keep (H H' : Heap) (j : Nat) : Prop := ∀ k r, k ≠ j → H k = some r → H' k = some r
theorem keep_i {H : Heap} {i j : Nat} {a : Option Row} (hi : H i = none) : Keep H (updH H i a) j := fun k r _ hk => by
  rw [updH_ne _ _ _ _ (ne_new hk hi)]; exact hk
theorem keep_j {H G : Heap} {j : Nat} {a : Option Row} (h : Keep H G j) : Keep H (updH G j a) j := fun k r hn hk => by
  rw [updH_ne _ _ _ _ hn]; exact h k r hn hk
theorem keep_i2 {H G : Heap} {i j : Nat} {a : Option Row} (hi : H i = none) (h : Keep H G j) : Keep H (updH G i a) j := fun k r hn hk => by
  rw [updH_ne _ _ _ _ (ne_new hk hi)]; exact h k r hn hk
section
variable {p : Nat → AV} {x0 x1 x2 x3 x4 x5 : AV} {now : Int} {c : AV} {j : Nat} {H0 : Heap} {K : AV → Heap → Prop}
theorem none_live (hj : H0 j = some (deskRow p x0 x1 x2 x3 x4 x5 now c)) (hK : K (boo false) H0) : FCalls Tryz.prog 16 [.op j 0 0] H0 K := by
  have hp : isPtrT Tryz.prog 32 = true := by kernel_rfl
  refine FCalls.body (c := Tryz.f16.body.getD .skip) (fun _ => false) mixed Tryz.func16 rfl (by kernel_rfl) ?_
  unfold Tryz.f16
  simp only [Option.getD_some]
  simp only [go_sem]
  simp only [go_sem, hp, if_true, hj, deskRow]
  exact hK
theorem now_live (hj : H0 j = some (deskRow p x0 x1 x2 x3 x4 x5 now c)) (hK : K (int now) H0) : FCalls Tryz.prog 8 [.op j 0 0] H0 K := by
  refine FCalls.body (c := Tryz.f8.body.getD .skip) (fun _ => false) mixed Tryz.func8 rfl (by kernel_rfl) ?_
  unfold Tryz.f8
  simp only [Option.getD_some]
  simp only [go_sem]
  refine none_live hj ?_
  simp only [go_sem]
  refine acond_i (fun hb => by cases hb) (fun hb => ?_)
  simp only [go_sem, hj, deskRow]
  exact hK
theorem advance_c (n : Int) (hj : H0 j = some (deskRow p x0 x1 x2 x3 x4 x5 now c)) (h0 : 0 ≤ n) (h1 : n ≤ 4096) (hK : now ≤ n → ∀ H', H' j = some (deskRow p x0 x1 x2 x3 x4 x5 n c) → Keep H0 H' j → K (.agg [int 0, int 0, .sl []]) H') (hL : n < now → ∀ H', H' j = some (deskRow p x0 x1 x2 x3 x4 x5 now c) → Keep H0 H' j → K (.agg [int 32, int 0, .sl []]) H') : FCalls Tryz.prog 34 [.op j 0 0, int n] H0 K := by
  refine FCalls.body (c := Tryz.f34.body.getD .skip) (fun _ => false) mixed Tryz.func34 rfl (by kernel_rfl) ?_
  unfold Tryz.f34
  simp only [Option.getD_some]
  simp only [go_sem]
  refine anew_i fun i hi => ?_
  have R := keep_new (r' := ⟨46, 3, [[int 0, int 0, .sl []]]⟩) hj hi
  have hne := ne_new hj hi
  simp only [go_sem, deskRow]
  refine acond_i (fun hb => by simp at hb; omega) (fun hb => ?_)
  simp only [go_sem, deskRow, R]
  refine acond_i (fun hb => ?_) (fun hb => ?_)
  · have hb : n < now := by simpa using hb
    simp only [go_sem]
    refine wputE_n (updH_same _ _ _) (by simp only [go_sem]) ?_
    simp only [go_sem, updH_same]
    refine hL hb _ ?_ (keep_i2 hi (keep_i hi))
    rw [updH_ne _ _ _ _ hne]; exact R
  have hb : now ≤ n := by simpa using hb
  simp only [go_sem]
  refine wputE_1 ⟨_, rfl, rfl⟩ R (by simp [deskRow]) ?_
  have R2 : updH (updH H0 i (some ⟨46, 3, [[int 0, int 0, .sl []]]⟩)) j (some { deskRow p x0 x1 x2 x3 x4 x5 now c with es := (deskRow p x0 x1 x2 x3 x4 x5 now c).es.set 0 (setAt ((deskRow p x0 x1 x2 x3 x4 x5 now c).es.getD 0 []) 7 [int n]) }) i = some ⟨46, 3, [[int 0, int 0, .sl []]]⟩ := by rw [updH_ne _ _ _ _ (Ne.symm hne)]; exact updH_same _ _ _
  have R3 : updH (updH H0 i (some ⟨46, 3, [[int 0, int 0, .sl []]]⟩)) j (some { deskRow p x0 x1 x2 x3 x4 x5 now c with es := (deskRow p x0 x1 x2 x3 x4 x5 now c).es.set 0 (setAt ((deskRow p x0 x1 x2 x3 x4 x5 now c).es.getD 0 []) 7 [int n]) }) j = some (deskRow p x0 x1 x2 x3 x4 x5 n c) := updH_same _ _ _
  have kp := keep_j (a := some { deskRow p x0 x1 x2 x3 x4 x5 now c with es := (deskRow p x0 x1 x2 x3 x4 x5 now c).es.set 0 (setAt ((deskRow p x0 x1 x2 x3 x4 x5 now c).es.getD 0 []) 7 [int n]) }) (keep_i (a := some ⟨46, 3, [[int 0, int 0, .sl []]]⟩) (j := j) hi)
  generalize updH (updH H0 i (some ⟨46, 3, [[int 0, int 0, .sl []]]⟩)) j (some { deskRow p x0 x1 x2 x3 x4 x5 now c with es := (deskRow p x0 x1 x2 x3 x4 x5 now c).es.set 0 (setAt ((deskRow p x0 x1 x2 x3 x4 x5 now c).es.getD 0 []) 7 [int n]) }) = G at *
  simp only [go_sem]
  refine wputE_n R2 (by simp only [go_sem]) ?_
  simp only [go_sem, updH_same]
  refine hK hb _ ?_ (keep_i2 hi kp)
  rw [updH_ne _ _ _ _ hne]; exact R3
theorem prove_c (hj : H0 j = some (deskRow p x0 x1 x2 x3 x4 x5 now c)) (hK : ∀ H', H' j = some (deskRow p x0 x1 x2 x3 x4 x5 now c) → Keep H0 H' j → K (.agg [int 9, int 0, .sl []]) H') : FCalls Tryz.prog 36 [.op j 0 0] H0 K := by
  refine FCalls.body (c := Tryz.f36.body.getD .skip) (fun _ => false) mixed Tryz.func36 rfl (by kernel_rfl) ?_
  unfold Tryz.f36
  simp only [Option.getD_some]
  simp only [go_sem]
  refine anew_i fun i hi => ?_
  have R := keep_new (r' := ⟨46, 3, [[int 0, int 0, .sl []]]⟩) hj hi
  have hne := ne_new hj hi
  simp only [go_sem, deskRow, R]
  refine acond_i (fun hb => ?_) (fun hb => by cases hb)
  simp only [go_sem]
  refine wputE_n (updH_same _ _ _) (by simp only [go_sem]) ?_
  simp only [go_sem, updH_same]
  refine hK _ ?_ (keep_i2 hi (keep_i hi))
  rw [updH_ne _ _ _ _ hne]; exact R
theorem execute_adv (cm : Command) (h2 : cm.kind = 2) (hj : H0 j = some (deskRow p x0 x1 x2 x3 x4 x5 now c)) (h0 : 0 ≤ cm.n) (h1 : cm.n ≤ 4096) (hK : now ≤ cm.n → ∀ H', H' j = some (deskRow p x0 x1 x2 x3 x4 x5 cm.n c) → Keep H0 H' j → K (.agg [int 0, int 0, .sl []]) H') (hL : cm.n < now → ∀ H', H' j = some (deskRow p x0 x1 x2 x3 x4 x5 now c) → Keep H0 H' j → K (.agg [int 32, int 0, .sl []]) H') : FCalls Tryz.prog 17 [.op j 0 0, .agg (encCommand cm)] H0 K := by
  refine FCalls.body (c := Tryz.f17.body.getD .skip) (fun _ => false) mixed Tryz.func17 rfl (by kernel_rfl) ?_
  unfold Tryz.f17
  simp only [Option.getD_some]
  simp only [go_sem]
  refine anew_i fun i hi => ?_
  have R := keep_new (r' := ⟨46, 3, [[int 0, int 0, .sl []]]⟩) hj hi
  have hne := ne_new hj hi
  simp only [go_sem, h2]
  refine acond_i (fun hb => by cases hb) (fun hb => ?_)
  simp only [go_sem, h2]
  refine acond_i (fun hb => ?_) (fun hb => by cases hb)
  simp only [go_sem]
  have fin : ∀ (e : Int) (H' : Heap), Keep (updH H0 i (some ⟨46, 3, [[int 0, int 0, .sl []]]⟩)) H' j → H' i = some ⟨46, 3, [[int 0, int 0, .sl []]]⟩ ∧ Keep H0 (updH H' i (some ⟨46, 3, [[int e, int 0, .sl []]]⟩)) j := fun e H' k => ⟨k i _ (Ne.symm hne) (updH_same _ _ _), keep_i2 hi fun k' r hn hk => k k' r hn (by rw [updH_ne _ _ _ _ (ne_new hk hi)]; exact hk)⟩
  refine advance_c cm.n R h0 h1 (fun hle H' hj' kp => ?_) (fun hlt H' hj' kp => ?_)
  · obtain ⟨Ri, kp⟩ := fin 0 H' kp
    simp only [go_sem]
    refine wputE_n Ri (by simp only [go_sem]) ?_
    simp only [go_sem, updH_same]
    refine hK hle _ ?_ kp
    rw [updH_ne _ _ _ _ hne]; exact hj'
  · obtain ⟨Ri, kp⟩ := fin 32 H' kp
    simp only [go_sem]
    refine wputE_n Ri (by simp only [go_sem]) ?_
    simp only [go_sem, updH_same]
    refine hL hlt _ ?_ kp
    rw [updH_ne _ _ _ _ hne]; exact hj'
theorem execute_prove (cm : Command) (h2 : cm.kind = 4) (hj : H0 j = some (deskRow p x0 x1 x2 x3 x4 x5 now c)) (hK : ∀ H', H' j = some (deskRow p x0 x1 x2 x3 x4 x5 now c) → Keep H0 H' j → K (.agg [int 9, int 0, .sl []]) H') : FCalls Tryz.prog 17 [.op j 0 0, .agg (encCommand cm)] H0 K := by
  refine FCalls.body (c := Tryz.f17.body.getD .skip) (fun _ => false) mixed Tryz.func17 rfl (by kernel_rfl) ?_
  unfold Tryz.f17
  simp only [Option.getD_some]
  simp only [go_sem]
  refine anew_i fun i hi => ?_
  have R := keep_new (r' := ⟨46, 3, [[int 0, int 0, .sl []]]⟩) hj hi
  have hne := ne_new hj hi
  simp only [go_sem, h2]
  refine acond_i (fun hb => by cases hb) (fun hb => ?_)
  simp only [go_sem, h2]
  refine acond_i (fun hb => by cases hb) (fun hb => ?_)
  simp only [go_sem, h2]
  refine acond_i (fun hb => by cases hb) (fun hb => ?_)
  simp only [go_sem, h2]
  refine acond_i (fun hb => ?_) (fun hb => by cases hb)
  simp only [go_sem]
  refine prove_c R (fun H' hj' k => ?_)
  have Ri := k i _ (Ne.symm hne) (updH_same _ _ _)
  simp only [go_sem]
  refine wputE_n Ri (by simp only [go_sem]) ?_
  simp only [go_sem, updH_same]
  refine hK _ ?_ (keep_i2 hi fun k' r hn hk => k k' r hn (by rw [updH_ne _ _ _ _ (ne_new hk hi)]; exact hk))
  rw [updH_ne _ _ _ _ hne]; exact hj'
theorem do_err (cm : Command) (e : Int) (he : e ≠ 0) (hE : ∀ (H : Heap) (K : AV → Heap → Prop), H j = some (deskRow p x0 x1 x2 x3 x4 x5 now c) → (∀ H', H' j = some (deskRow p x0 x1 x2 x3 x4 x5 now c) → Keep H H' j → K (.agg [int e, int 0, .sl []]) H') → FCalls Tryz.prog 17 [.op j 0 0, .agg (encCommand cm)] H K)
    (hj : H0 j = some (deskRow p x0 x1 x2 x3 x4 x5 now c)) (hK : ∀ H', H' j = some (deskRow p x0 x1 x2 x3 x4 x5 now c) → K (.agg [int e, int 0, .sl []]) H') : FCalls Tryz.prog 7 [.op j 0 0, .agg (encCommand cm)] H0 K := by
  refine FCalls.body (c := Tryz.f7.body.getD .skip) (fun _ => false) mixed Tryz.func7 rfl (by kernel_rfl) ?_
  unfold Tryz.f7
  simp only [Option.getD_some]
  simp only [go_sem]
  refine anew_i fun i hi => ?_
  have R := keep_new (r' := ⟨46, 3, [[int 0, int 0, .sl []]]⟩) hj hi
  have hne := ne_new hj hi
  simp only [go_sem]
  refine none_live R ?_
  simp only [go_sem]
  refine acond_i (fun hb => by cases hb) (fun hb => ?_)
  simp only [go_sem]
  refine hE _ _ R (fun H' hj' k => ?_)
  have Ri := k i _ (Ne.symm hne) (updH_same _ _ _)
  simp only [go_sem]
  refine anew_i fun i2 hi2 => ?_
  have R3 := keep_new (r' := ⟨46, 3, [[int 0, int 0, .sl []]]⟩) hj' hi2
  have Ri3 := keep_new (r' := ⟨46, 3, [[int 0, int 0, .sl []]]⟩) Ri hi2
  have hne2 := ne_new hj' hi2
  have hne3 := ne_new Ri hi2
  simp only [go_sem]
  refine wputE_n (updH_same _ _ _) (by simp only [go_sem]) ?_
  simp only [go_sem, updH_same]
  refine acond_i (fun hb => absurd (eq_of_beq hb) he) (fun hb => ?_)
  simp only [go_sem, updH_same]
  refine wputE_n (by rw [updH_ne _ _ _ _ hne3, updH_ne _ _ _ _ hne3]; exact Ri) (by simp only [go_sem]) ?_
  simp only [go_sem, updH_same]
  refine hK _ ?_
  rw [updH_ne _ _ _ _ hne, updH_ne _ _ _ _ hne2, updH_ne _ _ _ _ hne2]; exact hj'
theorem do_ok (cm : Command) (h2 : cm.kind = 2) (h0 : 0 ≤ cm.n) (h1 : cm.n ≤ 4096) (hle : now ≤ cm.n) {kc : Nat} (hkc : H0 kc = some ⟨55, 23, []⟩) (hjk : kc ≠ j)
    (hj : H0 j = some (deskRow p x0 x1 x2 x3 x4 x5 now (.os kc))) (hK : ∀ c H', H' j = some (deskRow p x0 x1 x2 x3 x4 x5 cm.n c) → K (.agg [int 0, int 0, .sl []]) H') : FCalls Tryz.prog 7 [.op j 0 0, .agg (encCommand cm)] H0 K := by
  refine FCalls.body (c := Tryz.f7.body.getD .skip) (fun _ => false) mixed Tryz.func7 rfl (by kernel_rfl) ?_
  unfold Tryz.f7
  simp only [Option.getD_some]
  simp only [go_sem]
  refine anew_i fun i hi => ?_
  have R := keep_new (r' := ⟨46, 3, [[int 0, int 0, .sl []]]⟩) hj hi
  have Rk := keep_new (r' := ⟨46, 3, [[int 0, int 0, .sl []]]⟩) hkc hi
  have hne := ne_new hj hi
  simp only [go_sem]
  refine none_live R ?_
  simp only [go_sem]
  refine acond_i (fun hb => by cases hb) (fun hb => ?_)
  simp only [go_sem]
  refine execute_adv cm h2 R h0 h1 (fun _ H' hj' k => ?_) (fun hlt => by omega)
  have Ri := k i _ (Ne.symm hne) (updH_same _ _ _)
  have Rk := k kc _ hjk Rk
  simp only [go_sem]
  refine anew_i fun i2 hi2 => ?_
  have R3 := keep_new (r' := ⟨46, 3, [[int 0, int 0, .sl []]]⟩) hj' hi2
  have Ri3 := keep_new (r' := ⟨46, 3, [[int 0, int 0, .sl []]]⟩) Ri hi2
  have Rk3 := keep_new (r' := ⟨46, 3, [[int 0, int 0, .sl []]]⟩) Rk hi2
  have hne2 := ne_new hj' hi2
  have hne3 := ne_new Ri hi2
  have hne4 := ne_new Rk hi2
  have hne5 : kc ≠ i := fun e => by rw [e, Ri] at Rk; cases Rk
  simp only [go_sem]
  refine wputE_n (updH_same _ _ _) (by simp only [go_sem]) ?_
  simp only [go_sem, updH_same]
  refine acond_i (fun hb => ?_) (fun hb => by cases hb)
  rw [updH_twice]
  have R5 : updH H' i2 (some ⟨46, 3, [[int 0, int 0, .sl []]]⟩) i2 = some ⟨46, 3, [[int 0, int 0, .sl []]]⟩ := updH_same _ _ _
  generalize updH H' i2 (some ⟨46, 3, [[int 0, int 0, .sl []]]⟩) = G at *
  simp only [go_sem]
  refine adraw_t [] (.q 0 (.q 1 (.q 2 (.q 3 (.q 5 (.a2 4 (.a1 6 (.a1 7 (.q 8 (.q 9 (.a1 10 (.nil)))))) 6 (.a1 4 (.a1 7 (.q 8 (.q 9 (.a1 10 (.nil)))))))))))) (by simp) (by kernel_rfl) fun Hp Hr _ hr _ _ => ?_
  obtain rfl : Hr = G := funext fun i => hr i (by simp)
  simp only [go_sem]
  refine amixt_2i ?_ ?_
  all_goals simp only [go_sem, R3, deskRow]
  all_goals refine wappE_i Rk3 ⟨rfl, rfl⟩ (by simp only [go_sem]) (by simp only [List.length_nil, List.length_cons]; omega) (fun k' hk' => ?_)
  all_goals
    have Rj := keep_app (r' := ⟨55, 23, [] ++ [encCommand cm]⟩) R3 hjk hk'
    have R5 := keep_app (r' := ⟨55, 23, [] ++ [encCommand cm]⟩) R5 hne4 hk'
    have Ri4 := keep_app (r' := ⟨55, 23, [] ++ [encCommand cm]⟩) Ri3 hne5 hk'
    generalize updH (updH Hr kc none) k' (some ⟨55, 23, [] ++ [encCommand cm]⟩) = G2 at *
    simp only [go_sem]
    refine wputE_1 ⟨_, rfl, rfl⟩ Rj (by simp [deskRow]) ?_
    have Q : ∀ r, updH G2 j (some r) i2 = G2 i2 ∧ updH G2 j (some r) i = G2 i := fun r => ⟨updH_ne _ _ _ _ (Ne.symm hne2), updH_ne _ _ _ _ (Ne.symm hne)⟩
    have R6 : updH G2 j (some { deskRow p x0 x1 x2 x3 x4 x5 cm.n (.os kc) with es := (deskRow p x0 x1 x2 x3 x4 x5 cm.n (.os kc)).es.set 0 (setAt ((deskRow p x0 x1 x2 x3 x4 x5 cm.n (.os kc)).es.getD 0 []) 23 [.os k']) }) j = some (deskRow p x0 x1 x2 x3 x4 x5 cm.n (.os k')) := updH_same _ _ _
    have Q := Q { deskRow p x0 x1 x2 x3 x4 x5 cm.n (.os kc) with es := (deskRow p x0 x1 x2 x3 x4 x5 cm.n (.os kc)).es.set 0 (setAt ((deskRow p x0 x1 x2 x3 x4 x5 cm.n (.os kc)).es.getD 0 []) 23 [.os k']) }
    generalize updH G2 j (some { deskRow p x0 x1 x2 x3 x4 x5 cm.n (.os kc) with es := (deskRow p x0 x1 x2 x3 x4 x5 cm.n (.os kc)).es.set 0 (setAt ((deskRow p x0 x1 x2 x3 x4 x5 cm.n (.os kc)).es.getD 0 []) 23 [.os k']) }) = G3 at *
    have R7 := Q.1.trans R5
    have R8 := Q.2.trans Ri4
    simp only [go_sem]
    refine pinEnd_i fun _ Hm _ hm => ?_
    obtain rfl : Hm = _ := funext fun i => hm i (by simp)
    simp only [go_sem, R7]
    refine wputE_n R8 (by simp only [go_sem]) ?_
    simp only [go_sem, updH_same]
    refine hK (.os k') _ ?_
    rw [updH_ne _ _ _ _ hne]; exact R6
end
end Go.Proofs.YtjgecalocibkjaaGreatDoor.Di
end

section
set_option linter.unusedSimpArgs false
set_option linter.unusedVariables false
namespace Go.Proofs.YtjgecalocibkjaaGreatDoor.Di
open Go.Aw Go.Aw.D Go.Proofs Ty
set_option maxRecDepth 100000
def pk (l : List Nat) (n : Nat) : AV := .os (l.getD n 0)
theorem new_ok (x : Instance) (hC : PC Tryz.prog 9 [.agg (encInstance x)] (.sl [])) {H0 : Heap} {K : AV → Heap → Prop}
    (hK : ∀ (p : Nat → AV) (kc j : Nat) (H' : Heap), H' kc = some ⟨55, 23, []⟩ → kc ≠ j → H' j = some (deskRow p (.sl (x.net.places.map encStr)) (.sl (x.net.arcs.map encArc)) (.sl (x.types.map encVType)) (.sl (x.orders.map encOrder)) (.sl (x.apart.map encPair)) (.sl (x.before.map encPair)) 0 (.os kc)) → K (.tup [.op j 0 0, .sl []]) H') : FCalls Tryz.prog 5 [.agg (encInstance x)] H0 K := by
  refine FCalls.body (c := Tryz.f5.body.getD .skip) (fun t => t == 12 || t == 13) mixed Tryz.func5 rfl (by kernel_rfl) ?_
  unfold Tryz.f5
  simp only [Option.getD_some]
  simp only [go_sem]
  refine PC.use hC ?_
  simp only [go_sem]
  refine acond_i (fun hb => by cases hb) (fun hb => ?_)
  simp only [go_sem]
  refine anew_i fun k1 h1 => ?_
  refine anew_i fun k2 h2 => ?_
  refine anew_i fun k3 h3 => ?_
  refine anew_i fun k4 h4 => ?_
  refine anew_i fun k5 h5 => ?_
  refine anew_i fun k6 h6 => ?_
  refine anew_i fun k7 h7 => ?_
  refine anew_i fun k8 h8 => ?_
  refine anew_i fun k9 h9 => ?_
  refine anew_i fun k10 h10 => ?_
  refine anew_i fun k11 h11 => ?_
  refine anew_i fun k12 h12 => ?_
  refine anew_i fun k13 h13 => ?_
  refine anew_i fun k14 h14 => ?_
  refine anew_i fun k15 h15 => ?_
  refine anew_i fun k16 h16 => ?_
  refine anew_i fun k17 h17 => ?_
  refine anew_i fun k18 h18 => ?_
  refine ⟨by simp, ?_⟩
  refine anew_i fun j hj => ?_
  simp only [go_sem]
  refine hK (pk [k7, k8, k9, k10, k11, k12, k13, k14, k15, k16, k17]) k18 j _ (keep_new (updH_same _ _ _) hj) (ne_new (updH_same _ _ _) hj) ?_
  exact updH_same _ _ _
theorem new_bad (x : Instance) (l : List AV) (r : List (List AV)) (hC : PC Tryz.prog 9 [.agg (encInstance x)] (.sl (l :: r))) : PC Tryz.prog 5 [.agg (encInstance x)] (.tup [.v (.pointer none), .sl (l :: r)]) := by
  refine PC.body (c := Tryz.f5.body.getD .skip) (fun _ => false) mixed Tryz.func5 rfl (by kernel_rfl) ?_
  unfold Tryz.f5
  simp only [Option.getD_some]
  simp only [go_sem]
  refine PC.use hC ?_
  simp only [go_sem]
  refine acond_i (fun hb => ?_) (fun hb => by simp at hb)
  simp only [go_sem]
  exact .refl _
end Go.Proofs.YtjgecalocibkjaaGreatDoor.Di
end

section
set_option linter.unusedSimpArgs false
set_option linter.unusedVariables false
namespace Go.Proofs.YtjgecalocibkjaaGreatDoor.Di
open Go.Aw Go.Aw.D Go.Proofs Ty
set_option maxRecDepth 100000
def ungd : List AV → List AV → Prop
  | [], [] => True
  | a :: l, b :: r => (a = b ∨ ∃ g, g = true ∧ a = .gd g b) ∧ ungd l r
  | _, _ => False
theorem repL_ungd {S : Sg} {w : World} : ∀ {args args' : List AV} {vals : List Value}, ungd args args' → repL S w args vals → repL S w args' vals
  | [], [], vals, _, h => h
  | a :: l, b :: r, vals, hu, h => by
    simp only [repL] at h ⊢
    obtain ⟨v, vs, e, h1, h2⟩ := h
    refine ⟨v, vs, e, ?_, repL_ungd hu.2 h2⟩
    rcases hu.1 with rfl | ⟨g, hg, rfl⟩
    · exact h1
    · simp only [rep] at h1
      exact h1.1 hg
theorem fcalls_gd {P : Program} {f : FuncId} {args args' : List AV} {H : Heap} {K : AV → Heap → Prop} (h : ungd args args') (c : FCalls P f args' H K) : FCalls P f args H K := fun S w vals hs hr => c S w vals hs (repL_ungd h hr)
def noStop : Stop := ⟨0, 0, 0, 0⟩
def noOrder : Order := ⟨⟨#[]⟩, [], noStop, noStop, 0, 0, 0, 0, 0, false⟩
def cmd (k n : Int) : Command := ⟨k, n, ⟨0, 0, 0, 0, 0, noOrder⟩⟩
def noI : Instance := ⟨⟨[], []⟩, [], [], [], []⟩
def exI : Instance := ⟨⟨[⟨#[72, 117, 98]⟩], []⟩, [⟨⟨#[97]⟩, 1, 0, 0, [5], 0, 0, 0, 100, 50, 0, 0, 0, 0⟩], [], [], []⟩
theorem example_c (hC : PC Tryz.prog 9 [.agg (encInstance exI)] (.sl [])) {l : List AV} {r : List (List AV)} (h0 : PC Tryz.prog 9 [.agg (encInstance noI)] (.sl (l :: r))) : PC Tryz.prog 4 [] (boo true) := by
  refine PC.body (c := Tryz.f4.body.getD .skip) (fun t => t == 33 || t == 43 || t == 50) mixed Tryz.func4 rfl (by kernel_rfl) ?_
  unfold Tryz.f4
  simp only [Option.getD_some]
  simp only [go_sem]
  refine anew_i fun i hi => ?_
  simp only [go_sem]
  refine wputE_n (updH_same _ _ _) (by simp only [go_sem]) ?_
  simp only [go_sem, updH_same]
  refine new_ok exI hC (fun p kc j H hk hkj hj => ?_)
  simp only [go_sem]
  refine PC.use (new_bad noI l r h0) ?_
  simp only [go_sem]
  have hg : (decide (((0 : Nat) : Int) > 0) || ((r.length + 1 : Nat) : Int) == 0) = false := by simp; omega
  refine ⟨hg, ?_⟩
  refine fcalls_gd (args' := [.op j 0 0, .agg (encCommand (cmd 2 5))]) (by unfold ungd ungd; exact ⟨.inr ⟨_, by rw [hg]; rfl, rfl⟩, .inr ⟨_, by rw [hg]; rfl, rfl⟩, trivial⟩) ?_
  refine do_ok (cmd 2 5) rfl (by decide) (by decide) (by decide) hk hkj hj (fun c H hj => ?_)
  simp only [go_sem, hg]
  refine acond_i (fun hb => by cases hb) (fun hb => ?_)
  simp only [go_sem]
  refine now_live hj ?_
  simp only [go_sem]
  refine ⟨rfl, ?_⟩
  refine fcalls_gd (args' := [.op j 0 0, .agg (encCommand (cmd 2 4))]) (by unfold ungd ungd; exact ⟨.inr ⟨_, rfl, rfl⟩, .inr ⟨_, rfl, rfl⟩, trivial⟩) ?_
  refine do_err (cmd 2 4) 32 (by decide) (fun H K hj hK => execute_adv (cmd 2 4) rfl hj (by decide) (by decide) (fun h => absurd h (by decide)) (fun _ => hK)) hj (fun H hj => ?_)
  simp only [go_sem]
  refine ⟨⟨rfl, rfl⟩, ?_⟩
  refine fcalls_gd (args' := [.op j 0 0, .agg (encCommand (cmd 4 0))]) (by unfold ungd ungd; exact ⟨.inr ⟨_, rfl, rfl⟩, .inr ⟨_, rfl, rfl⟩, trivial⟩) ?_
  refine do_err (cmd 4 0) 9 (by decide) (fun H K hj hK => execute_prove (cmd 4 0) rfl hj hK) hj (fun H hj => ?_)
  simp only [go_sem]
  exact .refl _
end Go.Proofs.YtjgecalocibkjaaGreatDoor.Di
end

section
set_option linter.unusedSimpArgs false
set_option linter.unusedVariables false
namespace Go.Proofs.YtjgecalocibkjaaGreatDoor.Di
open Go.Aw Go.Aw.D Go.Proofs Ty
set_option maxRecDepth 100000
end Go.Proofs.YtjgecalocibkjaaGreatDoor.Di
end

section
set_option linter.unusedSimpArgs false
set_option linter.unusedVariables false
namespace Go.Proofs.YtjgecalocibkjaaGreatDoor.Di
open Go.Aw Go.Aw.D Go.Proofs Ty
set_option maxRecDepth 100000
theorem pairs0_c (n : Int) (w : ByteArray) (g : Nat) : PC Tryz.prog 47 [int n, str w, .sl [], .v (.func (.func g) #[] #[])] (.sl []) := by
  refine PC.body (c := Tryz.f47.body.getD .skip) (fun _ => false) mixed Tryz.func47 rfl (by kernel_rfl) ?_
  unfold Tryz.f47
  simp only [Option.getD_some]
  simp only [go_sem]
  refine acond_i (fun hb => by cases hb) (fun hb => ?_)
  simp only [go_sem]
  refine ⟨fun ρ _ => ρ 9 = .sl [] ∧ ρ 26 = int 0 ∧ ρ 27 = int 0, fun _ _ => 0, ⟨rfl, rfl, rfl⟩, ?_⟩
  rintro ρ H ⟨h9, h26, h27⟩
  simp only [go_sem, h9, h26, h27]
  refine acond_i (fun hb => by cases hb) (fun hb => ?_)
  simp only [go_sem, h9]
  exact .refl _
theorem rules0_c (n : Int) : PC Tryz.prog 24 [int n, .sl [], .sl []] (.sl []) := by
  refine PC.body (c := Tryz.f24.body.getD .skip) (fun _ => false) mixed Tryz.func24 rfl (by kernel_rfl) ?_
  unfold Tryz.f24
  simp only [Option.getD_some]
  simp only [go_sem]
  refine PC.use (pairs0_c n _ _) ?_
  simp only [go_sem]
  refine PC.use (pairs0_c n _ _) ?_
  simp only [go_sem]
  refine wapp_none rfl (.inr ⟨_, rfl⟩) (.inl rfl) ?_
  simp only [go_sem]
  exact .refl _
theorem order0_c (x : Network) (d t : Int) : PC Tryz.prog 22 [.agg (encNetwork x), int d, int t, .sl []] (.sl []) := by
  refine PC.body (c := Tryz.f22.body.getD .skip) (fun _ => false) mixed Tryz.func22 rfl (by kernel_rfl) ?_
  unfold Tryz.f22
  simp only [Option.getD_some]
  simp only [go_sem]
  refine acond_i (fun hb => by cases hb) (fun hb => ?_)
  simp only [go_sem]
  refine ⟨fun ρ _ => ρ 9 = .sl [] ∧ ρ 21 = int 0 ∧ ρ 22 = int 0, fun _ _ => 0, ⟨rfl, rfl, rfl⟩, ?_⟩
  rintro ρ H ⟨h9, h26, h27⟩
  simp only [go_sem, h9, h26, h27]
  refine acond_i (fun hb => by cases hb) (fun hb => ?_)
  simp only [go_sem, h9]
  exact .refl _
theorem dims0_c (l : List VType) : PC Tryz.prog 23 [.sl (l.map encVType)] (int ((l.head?.map fun t => (t.cap.length : Int)).getD 0)) := by
  refine PC.body (c := Tryz.f23.body.getD .skip) (fun _ => false) mixed Tryz.func23 rfl (by kernel_rfl) ?_
  unfold Tryz.f23
  simp only [Option.getD_some]
  simp only [go_sem]
  cases l with
  | nil =>
    refine acond_i (fun hb => ?_) (fun hb => by cases hb)
    simp only [go_sem]
    exact .refl _
  | cons t r =>
    refine acond_i (fun hb => by simp at hb; omega) (fun hb => ?_)
    simp only [go_sem]
    exact ⟨by omega, .refl _⟩
end Go.Proofs.YtjgecalocibkjaaGreatDoor.Di
end

section
set_option linter.unusedSimpArgs false
set_option linter.unusedVariables false
namespace Go.Proofs.YtjgecalocibkjaaGreatDoor.Di
open Go.Aw Go.Aw.D Go.Proofs Ty
set_option maxRecDepth 100000
theorem digit_c (c : Int) : PC Tryz.prog 69 [.v (.int .u8 c)] (boo (decide (c ≥ 48) && decide (c ≤ 57))) := by
  refine PC.body (c := Tryz.f69.body.getD .skip) (fun _ => false) mixed Tryz.func69 rfl (by kernel_rfl) ?_
  unfold Tryz.f69
  simp only [Option.getD_some]
  simp only [go_sem]
  exact .refl _
theorem letter_c (c : Int) : PC Tryz.prog 70 [.v (.int .u8 c)] (boo (decide (c ≥ 97) && decide (c ≤ 122) || (decide (c ≥ 65) && decide (c ≤ 90)) || c == 95)) := by
  refine PC.body (c := Tryz.f70.body.getD .skip) (fun _ => false) mixed Tryz.func70 rfl (by kernel_rfl) ?_
  unfold Tryz.f70
  simp only [Option.getD_some]
  simp only [go_sem]
  exact .refl _
theorem nameHub_c : PC Tryz.prog 41 [str ⟨#[72, 117, 98]⟩] (boo true) := by
  refine PC.body (c := Tryz.f41.body.getD .skip) (fun _ => false) mixed Tryz.func41 rfl (by kernel_rfl) ?_
  unfold Tryz.f41
  simp only [Option.getD_some]
  simp only [go_sem]
  refine ⟨fun _ => by decide, _, fun _ => (digit_c _).q rfl, ?_⟩
  simp only [go_sem]
  refine acond_i (fun hb => absurd hb (by decide +kernel)) (fun hb => ?_)
  simp only [go_sem]
  refine ⟨fun ρ _ => ∃ k : Nat, k ≤ 3 ∧ ρ 0 = str ⟨#[72, 117, 98]⟩ ∧ ρ 17 = int 3 ∧ ρ 18 = int k, fun ρ _ => 3 - natOf (ρ 18), ⟨0, by omega, rfl, rfl, rfl⟩, ?_⟩
  rintro ρ H ⟨k, hk, h0, h17, h18⟩
  simp only [go_sem, h0, h17, h18]
  refine acond_i (fun hb => ?_) (fun hb => ?_)
  · have hlt : k < 3 := by simp at hb; omega
    obtain rfl | rfl | rfl : k = 0 ∨ k = 1 ∨ k = 2 := by omega
    all_goals
      simp only [go_sem, h0, h17, h18]
      refine ⟨by decide, PC.use (letter_c _) ?_⟩
      simp only [go_sem, h0, h17, h18]
      refine ⟨fun _ => by decide, _, fun _ => (digit_c _).q rfl, ?_⟩
      simp only [go_sem, h0, h17, h18]
      refine acond_i (fun hb => absurd hb (by decide)) (fun hb => ?_)
      simp only [go_sem, h0, h17, h18]
      refine ⟨⟨_, hlt, rfl⟩, by decide⟩
  · simp only [go_sem]
    exact .refl _
theorem nameA_c : PC Tryz.prog 41 [str ⟨#[97]⟩] (boo true) := by
  refine PC.body (c := Tryz.f41.body.getD .skip) (fun _ => false) mixed Tryz.func41 rfl (by kernel_rfl) ?_
  unfold Tryz.f41
  simp only [Option.getD_some]
  simp only [go_sem]
  refine ⟨fun _ => by decide, _, fun _ => (digit_c _).q rfl, ?_⟩
  simp only [go_sem]
  refine acond_i (fun hb => absurd hb (by decide +kernel)) (fun hb => ?_)
  simp only [go_sem]
  refine ⟨fun ρ _ => ∃ k : Nat, k ≤ 1 ∧ ρ 0 = str ⟨#[97]⟩ ∧ ρ 17 = int 1 ∧ ρ 18 = int k, fun ρ _ => 1 - natOf (ρ 18), ⟨0, by omega, rfl, rfl, rfl⟩, ?_⟩
  rintro ρ H ⟨k, hk, h0, h17, h18⟩
  simp only [go_sem, h0, h17, h18]
  refine acond_i (fun hb => ?_) (fun hb => ?_)
  · have hlt : k < 1 := by simp at hb; omega
    obtain rfl : k = 0 := by omega
    all_goals
      simp only [go_sem, h0, h17, h18]
      refine ⟨by decide, PC.use (letter_c _) ?_⟩
      simp only [go_sem, h0, h17, h18]
      refine ⟨fun _ => by decide, _, fun _ => (digit_c _).q rfl, ?_⟩
      simp only [go_sem, h0, h17, h18]
      refine acond_i (fun hb => absurd hb (by decide)) (fun hb => ?_)
      simp only [go_sem, h0, h17, h18]
      refine ⟨⟨_, hlt, rfl⟩, by decide⟩
  · simp only [go_sem]
    exact .refl _
theorem dec0_c : PC Tryz.prog 40 [int 0] (str ⟨#[48]⟩) := by
  have h1 : PC Tryz.prog 197 [int 0] (str ⟨#[48]⟩) := by
    refine PC.body (c := Tryz.f197.body.getD .skip) (fun _ => false) mixed Tryz.func197 rfl (by kernel_rfl) ?_
    unfold Tryz.f197
    simp only [Option.getD_some]
    simp only [go_sem]
    refine acond_i (fun hb => ?_) (fun hb => by cases hb)
    simp only [go_sem]
    exact ⟨by decide, .refl _⟩
  have h2 : PC Tryz.prog 149 [int 0, int 10] (str ⟨#[48]⟩) := by
    refine PC.body (c := Tryz.f149.body.getD .skip) (fun _ => false) mixed Tryz.func149 rfl (by kernel_rfl) ?_
    unfold Tryz.f149
    simp only [Option.getD_some]
    simp only [go_sem]
    refine acond_i (fun _ => ?_) (fun hb => by simp at hb)
    simp only [go_sem]
    refine acond_i (fun hb => ?_) (fun hb => by simp at hb)
    simp only [go_sem]
    refine PC.use h1 ?_
    simp only [go_sem]
    exact .refl _
  have h3 : PC Tryz.prog 107 [int 0] (str ⟨#[48]⟩) := by
    refine PC.body (c := Tryz.f107.body.getD .skip) (fun _ => false) mixed Tryz.func107 rfl (by kernel_rfl) ?_
    unfold Tryz.f107
    simp only [Option.getD_some]
    simp only [go_sem]
    refine PC.use h2 ?_
    simp only [go_sem]
    exact .refl _
  have h4 : PC Tryz.prog 68 [int 0] (str ⟨#[48]⟩) := by
    refine PC.body (c := Tryz.f68.body.getD .skip) (fun _ => false) mixed Tryz.func68 rfl (by kernel_rfl) ?_
    unfold Tryz.f68
    simp only [Option.getD_some]
    simp only [go_sem]
    refine PC.use h3 ?_
    simp only [go_sem]
    exact .refl _
  refine PC.body (c := Tryz.f40.body.getD .skip) (fun _ => false) mixed Tryz.func40 rfl (by kernel_rfl) ?_
  unfold Tryz.f40
  simp only [Option.getD_some]
  simp only [go_sem]
  refine PC.use h4 ?_
  simp only [go_sem]
  exact .refl _
end Go.Proofs.YtjgecalocibkjaaGreatDoor.Di
end

section
set_option linter.unusedSimpArgs false
set_option linter.unusedVariables false
namespace Go.Proofs.YtjgecalocibkjaaGreatDoor.Di
open Go.Aw Go.Aw.D Go.Proofs Ty
set_option maxRecDepth 100000
theorem netHub_c : PC Tryz.prog 20 [.agg (encNetwork exI.net)] (.sl []) := by
  refine PC.body (c := Tryz.f20.body.getD .skip) (fun _ => false) mixed Tryz.func20 rfl (by kernel_rfl) ?_
  unfold Tryz.f20
  simp only [Option.getD_some]
  simp only [go_sem]
  refine acond_i (fun hb => by cases hb) (fun hb => ?_)
  simp only [go_sem]
  refine anew_i fun m hm => ?_
  simp only [go_sem]
  have Rm : updH noRows m (some ⟨0, 2, []⟩) m = some ⟨0, 2, []⟩ := updH_same _ _ _
  generalize updH noRows m (some ⟨0, 2, []⟩) = H0 at *
  refine ⟨fun ρ H => ∃ k : Nat, k ≤ 1 ∧ (k = 0 → H m = some ⟨0, 2, []⟩) ∧ ρ 1 = .rp (encNetwork exI.net) 0 ∧ ρ 3 = .sl [] ∧ ρ 4 = .om m ∧ ρ 23 = .sl [[str ⟨#[72, 117, 98]⟩]] ∧ ρ 24 = int 1 ∧ ρ 25 = int k, fun ρ _ => 1 - natOf (ρ 25), ⟨0, by omega, fun _ => Rm, rfl, rfl, rfl, rfl, rfl, rfl⟩, ?_⟩
  rintro ρ H ⟨k, hk, Rm, h1, h3, h4, h23, h24, h25⟩
  simp only [go_sem, h1, h3, h4, h23, h24, h25]
  refine acond_i (fun hb => ?_) (fun hb => ?_)
  · have hlt : k < 1 := by simp at hb; omega
    obtain rfl : k = 0 := by omega
    have Rm := Rm rfl
    simp only [go_sem, h1, h3, h4, h23, h24, h25]
    refine ⟨by decide, PC.use dec0_c ?_⟩
    simp only [go_sem, h1, h3, h4, h23, h24, h25]
    refine ⟨by decide, PC.use nameHub_c ?_⟩
    simp only [go_sem, h1, h3, h4, h23, h24, h25]
    refine acond_i (fun hb => by cases hb) (fun hb => ?_)
    simp only [go_sem, h1, h3, h4, h23, h24, h25]
    refine alookup_i (z := boo false) Rm ma87 (by kernel_rfl) rfl (by kernel_rfl) ?_
    simp only [go_sem, mget]
    refine acond_i (fun hb => by cases hb) (fun hb => ?_)
    simp only [go_sem, h1, h3, h4, h23, h24, h25]
    refine wmapU_i Rm ma87 (by kernel_rfl) rfl ?_
    simp only [go_sem, h1, h3, h4, h23, h24, h25]
    exact ⟨⟨1, Nat.le_refl 1, fun h => absurd h (by decide), rfl⟩, by decide⟩
  · clear Rm h23 h24 h25
    simp only [go_sem, h1, h3, h4]
    refine acond_i (fun hb => by cases hb) (fun hb => ?_)
    simp only [go_sem, h1, h3, h4]
    refine anew_i fun m2 hm2 => ?_
    simp only [go_sem, h1, h3, h4]
    refine ⟨fun ρ _ => ρ 3 = .sl [] ∧ ρ 65 = int 0 ∧ ρ 66 = int 0, fun _ _ => 0, ⟨by simp only [go_sem, h3], rfl, rfl⟩, ?_⟩
    rintro ρ H ⟨h3, h65, h66⟩
    simp only [go_sem, h3, h65, h66]
    refine acond_i (fun hb => by cases hb) (fun hb => ?_)
    simp only [go_sem, h3]
    exact .refl _
theorem netNo_c : PC Tryz.prog 20 [.agg (encNetwork noI.net)] (.sl []) := by
  refine PC.body (c := Tryz.f20.body.getD .skip) (fun _ => false) mixed Tryz.func20 rfl (by kernel_rfl) ?_
  unfold Tryz.f20
  simp only [Option.getD_some]
  simp only [go_sem]
  refine acond_i (fun hb => by cases hb) (fun hb => ?_)
  simp only [go_sem]
  refine anew_i fun m hm => ?_
  simp only [go_sem]
  refine ⟨fun ρ H => ρ 1 = .rp (encNetwork noI.net) 0 ∧ ρ 3 = .sl [] ∧ ρ 4 = .om m ∧ ρ 24 = int 0 ∧ ρ 25 = int 0, fun ρ _ => 0, ⟨rfl, rfl, rfl, rfl, rfl⟩, ?_⟩
  rintro ρ H ⟨h1, h3, h4, h24, h25⟩
  simp only [go_sem, h1, h3, h4, h24, h25]
  refine acond_i (fun hb => by cases hb) (fun hb => ?_)
  · clear h24 h25
    simp only [go_sem, h1, h3, h4]
    refine acond_i (fun hb => by cases hb) (fun hb => ?_)
    simp only [go_sem, h1, h3, h4]
    refine anew_i fun m2 hm2 => ?_
    simp only [go_sem, h1, h3, h4]
    refine ⟨fun ρ _ => ρ 3 = .sl [] ∧ ρ 65 = int 0 ∧ ρ 66 = int 0, fun _ _ => 0, ⟨by simp only [go_sem, h3], rfl, rfl⟩, ?_⟩
    rintro ρ H ⟨h3, h65, h66⟩
    simp only [go_sem, h3, h65, h66]
    refine acond_i (fun hb => by cases hb) (fun hb => ?_)
    simp only [go_sem, h3]
    exact .refl _
end Go.Proofs.YtjgecalocibkjaaGreatDoor.Di
end

section
set_option linter.unusedSimpArgs false
set_option linter.unusedVariables false
namespace Go.Proofs.YtjgecalocibkjaaGreatDoor.Di
open Go.Aw Go.Aw.D Go.Proofs Ty
set_option maxRecDepth 100000
theorem within_c (a b c : Int) : PC Tryz.prog 44 [int a, int b, int c] (boo (decide (a ≥ b) && decide (a ≤ c))) := by
  refine PC.body (c := Tryz.f44.body.getD .skip) (fun _ => false) mixed Tryz.func44 rfl (by kernel_rfl) ?_
  unfold Tryz.f44
  simp only [Option.getD_some]
  simp only [go_sem]
  exact .refl _
theorem cap1_c : PC Tryz.prog 112 [int 5] (boo false) := by
  refine PC.body (c := Tryz.f112.body.getD .skip) (fun _ => false) mixed Tryz.func112 rfl (by kernel_rfl) ?_
  unfold Tryz.f112
  simp only [Option.getD_some]
  simp only [go_sem]
  refine PC.use (within_c _ _ _) ?_
  simp only [go_sem]
  exact .refl _
theorem add_c (e : Int) (a : AV) {H0 : Heap} {K : AV → Heap → Prop} (hK : ∀ r, K r H0) : FCalls Tryz.prog 74 [boo true, int e, a] H0 K := by
  refine FCalls.body (c := Tryz.f74.body.getD .skip) (fun _ => false) mixed Tryz.func74 rfl (by kernel_rfl) ?_
  unfold Tryz.f74
  simp only [Option.getD_some]
  simp only [go_sem]
  refine acond_i (fun hb => by cases hb) (fun hb => ?_)
  simp only [go_sem]
  exact hK _
theorem index0_c (f : Nat) (a : AV) {H0 : Heap} {K : AV → Heap → Prop} (hK : K (int (-1)) H0) : FCalls Tryz.prog 110 [.sl [], .fn f [a]] H0 K := by
  refine FCalls.body (c := Tryz.f110.body.getD .skip) (fun _ => false) mixed Tryz.func110 rfl (by kernel_rfl) ?_
  unfold Tryz.f110
  simp only [Option.getD_some]
  simp only [go_sem]
  refine ⟨fun ρ H => ρ 7 = int 0 ∧ ρ 8 = int 0 ∧ H = H0, fun _ _ => 0, ⟨rfl, rfl, rfl⟩, ?_⟩
  rintro ρ H ⟨h7, h8, rfl⟩
  simp only [go_sem, h7, h8]
  refine acond_i (fun hb => by cases hb) (fun hb => ?_)
  simp only [go_sem]
  exact hK
theorem contains0_c (f : Nat) (a : AV) {H0 : Heap} {K : AV → Heap → Prop} (hK : K (boo false) H0) : FCalls Tryz.prog 75 [.sl [], .fn f [a]] H0 K := by
  refine FCalls.body (c := Tryz.f75.body.getD .skip) (fun _ => false) mixed Tryz.func75 rfl (by kernel_rfl) ?_
  unfold Tryz.f75
  simp only [Option.getD_some]
  simp only [go_sem]
  refine index0_c f a ?_
  simp only [go_sem]
  exact hK
theorem index1_c : PC Tryz.prog 150 [.sl [[int 5]], .v (.func (.func 112) #[] #[])] (int (-1)) := by
  refine PC.body (c := Tryz.f150.body.getD .skip) (fun _ => false) mixed Tryz.func150 rfl (by kernel_rfl) ?_
  unfold Tryz.f150
  simp only [Option.getD_some]
  simp only [go_sem]
  refine ⟨fun ρ H => ∃ k : Nat, k ≤ 1 ∧ ρ 0 = .sl [[int 5]] ∧ ρ 1 = .v (.func (.func 112) #[] #[]) ∧ ρ 7 = int 1 ∧ ρ 8 = int k, fun ρ _ => 1 - natOf (ρ 8), ⟨0, by omega, rfl, rfl, rfl, rfl⟩, ?_⟩
  rintro ρ H ⟨k, hk, h0, h1, h7, h8⟩
  simp only [go_sem, h0, h1, h7, h8]
  refine acond_i (fun hb => ?_) (fun hb => ?_)
  · obtain rfl : k = 0 := by simp at hb; omega
    simp only [go_sem, h0, h1, h7, h8]
    refine ⟨by decide, PC.use cap1_c ?_⟩
    simp only [go_sem, h0, h1, h7, h8]
    refine acond_i (fun hb => by cases hb) (fun hb => ?_)
    simp only [go_sem, h0, h1, h7, h8]
    exact ⟨⟨1, Nat.le_refl 1, rfl⟩, by decide⟩
  · simp only [go_sem]
    exact .refl _
theorem contains1_c : PC Tryz.prog 111 [.sl [[int 5]], .v (.func (.func 112) #[] #[])] (boo false) := by
  refine PC.body (c := Tryz.f111.body.getD .skip) (fun _ => false) mixed Tryz.func111 rfl (by kernel_rfl) ?_
  unfold Tryz.f111
  simp only [Option.getD_some]
  simp only [go_sem]
  refine PC.use index1_c ?_
  simp only [go_sem]
  exact .refl _
theorem capacity_c : PC Tryz.prog 77 [.sl [[int 5]], .sl [[int 5]]] (boo true) := by
  refine PC.body (c := Tryz.f77.body.getD .skip) (fun _ => false) mixed Tryz.func77 rfl (by kernel_rfl) ?_
  unfold Tryz.f77
  simp only [Option.getD_some]
  simp only [go_sem]
  refine PC.use (within_c _ _ _) ?_
  simp only [go_sem]
  refine acond_i (fun hb => absurd hb (by decide)) (fun hb => ?_)
  simp only [go_sem]
  refine PC.use contains1_c ?_
  simp only [go_sem]
  exact .refl _
end Go.Proofs.YtjgecalocibkjaaGreatDoor.Di
end

section
set_option linter.unusedSimpArgs false
set_option linter.unusedVariables false
namespace Go.Proofs.YtjgecalocibkjaaGreatDoor.Di
open Go.Aw Go.Aw.D Go.Proofs Ty
set_option maxRecDepth 100000
theorem pin_back {l : List Nat} {H Hr Hm : Heap} (h1 : ∀ k, k ∈ l → Hm k = H k) (h2 : ∀ k, k ∉ l → Hm k = Hr k) (h3 : ∀ k, k ∉ l → Hr k = H k) : Hm = H := funext fun k => by
  by_cases h : k ∈ l
  · exact h1 k h
  · rw [h2 k h, h3 k h]
def exT : List AV := [str ⟨#[97]⟩, int 1, int 0, int 0, .sl [[int 5]], int 0, int 0, int 0, int 100, int 50, int 0, int 0, int 0, int 0]
theorem errors_c : PC Tryz.prog 45 [.agg (encNetwork exI.net), .sl [exT], int 0] (.sl []) := by
  refine PC.body (c := Tryz.f45.body.getD .skip) (fun _ => false) mixed Tryz.func45 rfl (by kernel_rfl) ?_
  unfold Tryz.f45
  simp only [Option.getD_some]
  simp only [go_sem]
  refine anew_i fun j hj => ?_
  simp only [go_sem]
  refine ⟨by decide, by decide, ?_⟩
  refine anew_i fun i hi => ?_
  have Rj : updH noRows j (some ⟨75, 1, [[.sl []]]⟩) j = some ⟨75, 1, [[.sl []]]⟩ := updH_same _ _ _
  generalize updH noRows j (some ⟨75, 1, [[.sl []]]⟩) = G at *
  have hne := ne_new Rj hi
  simp only [go_sem]
  refine wputE_n (updH_same _ _ _) (by simp only [go_sem]; decide) ?_
  rw [updH_twice]
  generalize hP : updH G i _ = HP
  have Ri : HP i = some ⟨43, 14, [[str ⟨#[97]⟩, int 1, int 0, int 0, .sl [[int 5]], int 0, int 0, int 0, int 100, int 50, int 0, int 0, int 0, int 0]]⟩ := by rw [← hP, updH_same]; rfl
  have Rj : HP j = some ⟨75, 1, [[.sl []]]⟩ := by rw [← hP, updH_ne _ _ _ _ hne]; exact Rj
  clear hP
  simp only [go_sem, Ri]
  refine PC.use nameA_c ?_
  simp only [go_sem]
  refine add_c 5 _ fun _ => ?_
  simp only [go_sem]
  refine ⟨by decide, contains0_c _ _ ?_⟩
  simp only [go_sem]
  refine add_c 6 _ fun _ => ?_
  simp only [go_sem, Ri]
  refine PC.use (within_c _ _ _) ?_
  simp only [go_sem]
  refine add_c 22 _ fun _ => ?_
  simp only [go_sem, Ri]
  refine PC.use (within_c _ _ _) ?_
  simp only [go_sem, Ri]
  refine ⟨_, fun _ => (within_c _ _ _).q rfl, ?_⟩
  simp only [go_sem]
  refine add_c 11 _ fun _ => ?_
  simp only [go_sem]
  refine adraw_p [i] [(0, true), (1, true), (2, true), (3, true), (4, true), (5, true), (6, true), (7, false), (8, false)] (by simp [Ri]) (by kernel_rfl) fun Hp Hr hp1 hr1 hp2 hr2 => ?_
  have Rp := (hp1 i (by simp)).trans Ri
  simp only [go_sem, Rp]
  refine ⟨⟨by decide, rfl⟩, by decide, ?_⟩
  simp only [go_sem, exT]
  refine PC.use capacity_c ?_
  simp only [go_sem]
  refine add_c 17 _ fun _ => ?_
  simp only [go_sem]
  refine pinEnd_i fun _ Hm hm1 hm2 => ?_
  obtain rfl : Hm = HP := pin_back hm1 hm2 hr1
  simp only [go_sem, Ri]
  refine PC.use (within_c _ _ _) ?_
  simp only [go_sem]
  refine add_c 18 _ fun _ => ?_
  simp only [go_sem, Ri]
  refine PC.use (within_c _ _ _) ?_
  simp only [go_sem, Ri]
  refine add_c 15 _ fun _ => ?_
  simp only [go_sem, Ri]
  refine PC.use (within_c _ _ _) ?_
  simp only [go_sem, Ri]
  refine ⟨_, fun _ => (within_c _ _ _).q rfl, ?_⟩
  simp only [go_sem]
  refine add_c 16 _ fun _ => ?_
  simp only [go_sem, Ri]
  refine PC.use (within_c _ _ _) ?_
  simp only [go_sem, Ri]
  refine ⟨_, fun _ => (within_c _ _ _).q rfl, ?_⟩
  simp only [go_sem, Ri]
  refine ⟨_, fun _ => (within_c _ _ _).q rfl, ?_⟩
  simp only [go_sem, Ri]
  refine ⟨_, fun _ => (within_c _ _ _).q rfl, ?_⟩
  simp only [go_sem]
  refine add_c 2 _ fun _ => ?_
  simp only [go_sem, Rj]
  exact .refl _
theorem fleet_c : PC Tryz.prog 21 [.agg (encNetwork exI.net), .sl (exI.types.map encVType)] (.sl []) := by
  refine PC.body (c := Tryz.f21.body.getD .skip) (fun _ => false) mixed Tryz.func21 rfl (by kernel_rfl) ?_
  unfold Tryz.f21
  simp only [Option.getD_some]
  simp only [go_sem]
  refine PC.use (within_c _ _ _) ?_
  simp only [go_sem]
  refine acond_i (fun hb => absurd hb (by decide)) (fun hb => ?_)
  simp only [go_sem]
  refine ⟨fun ρ _ => ∃ k : Nat, k ≤ 1 ∧ ρ 1 = .sl [exT] ∧ ρ 2 = .rp (encNetwork exI.net) 0 ∧ ρ 5 = .sl [] ∧ ρ 18 = int 1 ∧ ρ 19 = int k, fun ρ _ => 1 - natOf (ρ 19), ⟨0, by omega, rfl, rfl, rfl, rfl, rfl⟩, ?_⟩
  rintro ρ H ⟨k, hk, h1, h2, h5, h18, h19⟩
  simp only [go_sem, h1, h2, h5, h18, h19]
  refine acond_i (fun hb => ?_) (fun hb => ?_)
  · obtain rfl : k = 0 := by simp at hb; omega
    simp only [go_sem, h1, h2, h5, h18, h19]
    refine PC.use errors_c ?_
    simp only [go_sem, h1, h2, h5, h18, h19]
    refine ⟨fun ρ _ => ρ 1 = .sl [exT] ∧ ρ 2 = .rp (encNetwork exI.net) 0 ∧ ρ 5 = .sl [] ∧ ρ 18 = int 1 ∧ ρ 19 = int ((0 : Nat) : Int) ∧ ρ 26 = int 0 ∧ ρ 27 = int 0, fun _ _ => 0, ⟨by simp only [go_sem, h1], by simp only [go_sem, h2], by simp only [go_sem, h5], by simp only [go_sem, h18], by simp only [go_sem, h19], rfl, rfl⟩, ?_⟩
    clear h1 h2 h5 h18 h19
    rintro ρ H ⟨h1, h2, h5, h18, h19, h26, h27⟩
    simp only [go_sem, h1, h2, h5, h18, h19, h26, h27]
    refine acond_i (fun hb => by cases hb) (fun hb => ?_)
    simp only [go_sem, h1, h2, h5, h18, h19]
    exact ⟨⟨1, Nat.le_refl 1, rfl⟩, by decide⟩
  · simp only [go_sem, h5]
    exact .refl _
theorem fleetNo_c : PC Tryz.prog 21 [.agg (encNetwork noI.net), .sl (noI.types.map encVType)] (.sl [encFault ⟨4, ⟨#[]⟩⟩]) := by
  refine PC.body (c := Tryz.f21.body.getD .skip) (fun t => t == 5) mixed Tryz.func21 rfl (by kernel_rfl) ?_
  unfold Tryz.f21
  simp only [Option.getD_some]
  simp only [go_sem]
  refine anew_i fun j hj => ?_
  simp only [go_sem]
  refine PC.use (within_c _ _ _) ?_
  simp only [go_sem]
  have Rj : updH noRows j (some ⟨39, 2, []⟩) j = some ⟨39, 2, []⟩ := updH_same _ _ _
  generalize updH noRows j (some ⟨39, 2, []⟩) = G at *
  refine acond_i (fun hb => ?_) (fun hb => absurd hb (by decide))
  simp only [go_sem]
  refine wappE_i Rj ⟨rfl, rfl⟩ (by simp only [go_sem]) (by simp only [List.length_nil, List.length_cons]; omega) (fun i hi => ?_)
  generalize hP : updH (updH G j none) i _ = HP
  have Ri : HP i = some ⟨39, 2, [encFault ⟨4, ⟨#[]⟩⟩]⟩ := by rw [← hP, updH_same]; rfl
  clear hP
  simp only [go_sem]
  refine ⟨fun ρ H => ρ 5 = .os i ∧ H i = some ⟨39, 2, [encFault ⟨4, ⟨#[]⟩⟩]⟩ ∧ ρ 18 = int 0 ∧ ρ 19 = int 0, fun _ _ => 0, ⟨by simp only [go_sem], Ri, rfl, rfl⟩, ?_⟩
  clear Ri
  rintro ρ H ⟨h5, Ri, h18, h19⟩
  simp only [go_sem, h5, h18, h19]
  refine acond_i (fun hb => by cases hb) (fun hb => ?_)
  simp only [go_sem, h5]
  exact .row _ _ _ Ri (ConvE.refl _)
end Go.Proofs.YtjgecalocibkjaaGreatDoor.Di
end
