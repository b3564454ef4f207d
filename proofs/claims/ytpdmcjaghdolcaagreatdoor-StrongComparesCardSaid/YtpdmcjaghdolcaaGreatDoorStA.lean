/- strong.{compare, limits, Less, Choose}, lorryref36.{Order, above, Less}, lorrylaw36.{examples, StrongCompares, StrongOrder} -/
import Derived.Test.YtpdmcjaghdolcaaGreatDoorStP
import Derived.Test.YtpdmcjaghdolcaaGreatDoorTools
set_option linter.unusedSimpArgs false
set_option linter.unusedVariables false
namespace Go.Proofs.YtpdmcjaghdolcaaGreatDoor.St
open Go.Aw Go.Aw.D Go.Proofs Ty
set_option maxRecDepth 100000
theorem convI {H : Heap} {k : IntKind} {a b : Int} (h : a = b) : Conv H (.v (.int k a)) (.v (.int k b)) := h ▸ .refl _
theorem convB {H : Heap} {a b : Bool} (h : a = b) : Conv H (.v (.bool a)) (.v (.bool b)) := h ▸ .refl _
theorem keepN {H : Heap} {i j : Nat} {r : Row} {a b : Option Row} (hi : H i = some r) (hj : H j = none) : updH (updH H j a) j b i = some r := by
  have h1 := ne_new hi hj
  rw [updH_ne _ _ _ _ h1, updH_ne _ _ _ _ h1, hi]
theorem keepS {H : Heap} {i j : Nat} {r : Row} {b : Option Row} (hi : H i = some r) (h1 : i ≠ j) : updH H j b i = some r := by rw [updH_ne _ _ _ _ h1, hi]
abbrev limRow (l : Lim) : Row := ⟨30, 2, [encLim l]⟩
abbrev zRow : Row := ⟨30, 2, [[boo false, int 0]]⟩
theorem encLim_len (l : Lim) : (encLim l).length = 2 := (rfl)
theorem encLim_all (l : Lim) : (encLim l).take 2 = encLim l := (rfl)
attribute [go_sem] encLim_len encLim_all

theorem compare_c (x y : Lim) : PC Tryz.prog 9 [.agg (encLim x), .agg (encLim y)] (int (cmp x y)) := by
  simp only [encLim]
  refine PC.body (c := Tryz.f9.body.getD .skip) (fun _ => false) mixed Tryz.func9 rfl (by kernel_rfl) ?_
  unfold Tryz.f9
  simp only [Option.getD_some]
  simp only [go_sem]
  refine acond_i (fun h1 => ?_) (fun h1 => ?_)
  · simp only [go_sem]
    exact convI (by unfold cmp cmpL; rw [if_pos h1])
  simp only [go_sem]
  refine acond_i (fun h2 => ?_) (fun h2 => ?_)
  · simp only [go_sem]
    exact convI (by unfold cmp cmpL; rw [if_neg (by rw [h1]; simp), if_pos h2])
  simp only [go_sem]
  refine acond_i (fun h3 => ?_) (fun h3 => ?_)
  · simp only [go_sem]
    exact convI (by unfold cmp cmpL; rw [if_neg (by rw [h1]; simp), if_neg (by rw [h2]; simp), if_pos h3])
  simp only [go_sem]
  refine acond_i (fun h4 => ?_) (fun h4 => ?_)
  · simp only [go_sem]
    exact convI (by unfold cmp cmpL; rw [if_neg (by rw [h1]; simp), if_neg (by rw [h2]; simp), if_neg (by rw [h3]; simp), if_pos (of_decide_eq_true h4)])
  simp only [go_sem]
  refine acond_i (fun h5 => ?_) (fun h5 => ?_)
  · simp only [go_sem]
    exact convI (by unfold cmp cmpL; rw [if_neg (by rw [h1]; simp), if_neg (by rw [h2]; simp), if_neg (by rw [h3]; simp), if_neg (of_decide_eq_false h4), if_pos (of_decide_eq_true h5)])
  · simp only [go_sem]
    exact convI (by unfold cmp cmpL; rw [if_neg (by rw [h1]; simp), if_neg (by rw [h2]; simp), if_neg (by rw [h3]; simp), if_neg (of_decide_eq_false h4), if_neg (of_decide_eq_false h5)])
abbrev la (w : Weight) : Lim := ⟨w.noneYes, w.yes⟩
abbrev lb (w : Weight) : Lim := ⟨w.noneNo, w.no⟩
theorem adraw_join {P : Program} {C : CallP} {PC : FuncId → List AV → Heap → AV → Prop} {mt : Nat → Bool} {ops : Array Oper} {K : Env → Heap → Prop} {m : Nat} {ρ : Env} {H : Heap} (J : Env → Heap → Prop) (h1 : ∀ ρ H, J ρ H → K ρ H)
    (h2 : ∀ K' : Env → Heap → Prop, (∀ ρ H, J ρ H → K' ρ H) → adraw P C PC mt ops K' m ρ H) : adraw P C PC mt ops K m ρ H := h2 K h1
theorem limits_c (w : Weight) : PC Tryz.prog 8 [.agg (encWeight w)] (.tup [.agg (encLim (lo w)), .agg (encLim (hi w))]) := by
  refine PC.body (c := Tryz.f8.body.getD .skip) (fun _ => false) mixed Tryz.func8 rfl (by kernel_rfl) ?_
  unfold Tryz.f8
  simp only [Option.getD_some]
  simp only [go_sem]
  refine anew_i fun j2 hj => ?_
  have R2 := updH_same noRows j2 (some zRow)
  simp only [go_sem]
  refine anew_i fun j3 hk => ?_
  have n23 := ne_new R2 hk
  have R3 := updH_same (updH noRows j2 (some zRow)) j3 (some zRow)
  have R2 := keep_new (r' := zRow) R2 hk
  generalize updH (updH noRows j2 _) j3 _ = H0 at R2 R3 ⊢
  clear hj hk
  simp only [go_sem]
  refine adraw_join (fun ρ' H' => ρ' 2 = .op j2 0 0 ∧ ρ' 3 = .op j3 0 0 ∧ H' j2 = some zRow ∧ H' j3 = some zRow ∧ ∃ j4 j5, ρ' 4 = .op j4 0 0 ∧ ρ' 5 = .op j5 0 0 ∧ H' j4 = some (limRow (la w)) ∧ H' j5 = some (limRow (lb w)) ∧ j4 ≠ j5 ∧ j2 ≠ j4 ∧ j2 ≠ j5 ∧ j3 ≠ j4 ∧ j3 ≠ j5) ?_ fun K hK => ?_
  · clear R2 R3
    rintro ρ H ⟨h2, h3, R2, R3, j4, j5, h4, h5, R4, R5, n45, n24, n25, n34, n35⟩
    simp only [go_sem, h4, h5, R4, R5]
    refine PC.use (compare_c (la w) (lb w)) ?_
    simp only [go_sem]
    refine acond_join (fun ρ' H' => ρ' 2 = .op j2 0 0 ∧ ρ' 3 = .op j3 0 0 ∧ ρ' 4 = .op j4 0 0 ∧ ρ' 5 = .op j5 0 0 ∧ H' j2 = some zRow ∧ H' j3 = some zRow ∧ H' j4 = some (limRow (lo w)) ∧ H' j5 = some (limRow (hi w))) ?_ fun K hK => acond_i (fun hb => ?_) (fun hb => ?_)
    · clear h2 h3 h4 h5 R2 R3 R4 R5
      rintro ρ H ⟨h2, h3, h4, h5, R2, R3, R4, R5⟩
      simp only [go_sem]
      refine adraw_p [j4, j5] [(0, true), (1, true), (2, false), (3, false)] (by simp [R4, R5]) (by kernel_rfl) fun Hp Hr hp hr _ hr0 => ?_
      have P4 := (hp j4 (by simp)).trans R4
      have P5 := (hp j5 (by simp)).trans R5
      have m2 : j2 ∉ [j4, j5] := by simp [n24, n25]
      have m3 : j3 ∉ [j4, j5] := by simp [n34, n35]
      have S2 := (hr j2 m2).trans R2
      have S3 := (hr j3 m3).trans R3
      simp only [go_sem, h2, h3, h4, h5, P4, P5]
      refine wputE_n S2 (by simp [encLim]) ?_
      simp only [go_sem, h3]
      refine wputE_n (keepS S3 n23.symm) (by simp [encLim]) ?_
      simp only [go_sem]
      refine pinEnd_i fun hd Hm hm1 hm2 => ?_
      have T2 : Hm j2 = some (limRow (lo w)) := by rw [hm2 j2 m2, updH_ne _ _ _ _ n23, updH_same]
      have T3 : Hm j3 = some (limRow (hi w)) := by rw [hm2 j3 m3, updH_same]
      simp only [go_sem, h2, h3, T2, T3]
      exact .refl _
    · simp only [go_sem, h4, h5, R4, R5]
      refine wputE_n R4 (by simp [encLim]) ?_
      simp only [go_sem, h5]
      refine wputE_n (keepS R5 n45.symm) (by simp [encLim]) ?_
      simp only [go_sem]
      refine hK _ _ ⟨by simp only [go_sem, h2], by simp only [go_sem, h3], by simp only [go_sem, h4], by simp only [go_sem, h5], keepS (keepS R2 n24) n25, keepS (keepS R3 n34) n35, ?_, ?_⟩
      · rw [updH_ne _ _ _ _ n45, updH_same, lo, if_pos (show swapB w = true from hb)]; rfl
      · rw [updH_same, hi, if_pos (show swapB w = true from hb)]; rfl
    · simp only [go_sem]
      refine hK _ _ ⟨by simp only [go_sem, h2], by simp only [go_sem, h3], by simp only [go_sem, h4], by simp only [go_sem, h5], R2, R3, ?_, ?_⟩
      · rw [lo, if_neg (by rw [show swapB w = false from hb]; simp)]; exact R4
      · rw [hi, if_neg (by rw [show swapB w = false from hb]; simp)]; exact R5
  refine adraw_t [] (.q 0 (.q 1 (.q 2 (.q 3 (.q 4 (.q 5 (.q 6 (.q 7 (.q 8 (.q 9 (.a2 10 (.a1 11 (.a1 12 (.a1 13 .nil))) 11 (.a1 10 (.a1 12 (.a1 13 .nil)))))))))))))) (by simp) (by kernel_rfl) fun Hp Hr _ hq _ _ => ?_
  have S2 := (hq j2 (by simp)).trans R2
  have S3 := (hq j3 (by simp)).trans R3
  simp only [go_sem]
  refine amixt_2i ?_ ?_
  · simp only [go_sem]
    refine anew_i fun j4 h4 => ?_
    simp only [go_sem]
    refine anew_i fun j5 h5 => ?_
    have a2 := ne_new S2 h4
    have a3 := ne_new S3 h4
    have b2 := ne_new (keep_new (r' := zRow) S2 h4) h5
    have b3 := ne_new (keep_new (r' := zRow) S3 h4) h5
    have n45 := ne_new (updH_same _ _ _) h5
    have S4 := keep_new (r' := zRow) (updH_same Hr j4 (some zRow)) h5
    have S2 := keep_new (r' := zRow) (keep_new (r' := zRow) S2 h4) h5
    have S3 := keep_new (r' := zRow) (keep_new (r' := zRow) S3 h4) h5
    have S5 := updH_same (updH Hr j4 (some zRow)) j5 (some zRow)
    generalize updH (updH Hr j4 _) j5 _ = G at S2 S3 S4 S5 ⊢
    simp only [go_sem]
    refine wputE_n S4 (by simp) ?_
    simp only [go_sem]
    refine wputE_n (keepS S5 n45.symm) (by simp) ?_
    simp only [go_sem]
    refine pinEnd_i fun _ Hm _ hm => hK _ _ ⟨by simp only [go_sem], by simp only [go_sem], ?_, ?_, j4, j5, by simp only [go_sem], by simp only [go_sem], ?_, ?_, n45, a2, b2, a3, b3⟩
    · rw [hm j2 (by simp)]; exact keepS (keepS S2 a2) b2
    · rw [hm j3 (by simp)]; exact keepS (keepS S3 a3) b3
    · rw [hm j4 (by simp), updH_ne _ _ _ _ n45, updH_same]; rfl
    · rw [hm j5 (by simp), updH_same]; rfl
  · simp only [go_sem]
    refine anew_i fun j5 h5 => ?_
    simp only [go_sem]
    refine anew_i fun j4 h4 => ?_
    have b2 := ne_new S2 h5
    have b3 := ne_new S3 h5
    have a2 := ne_new (keep_new (r' := zRow) S2 h5) h4
    have a3 := ne_new (keep_new (r' := zRow) S3 h5) h4
    have n45 := (ne_new (updH_same _ _ _) h4).symm
    have S5 := keep_new (r' := zRow) (updH_same Hr j5 (some zRow)) h4
    have S2 := keep_new (r' := zRow) (keep_new (r' := zRow) S2 h5) h4
    have S3 := keep_new (r' := zRow) (keep_new (r' := zRow) S3 h5) h4
    have S4 := updH_same (updH Hr j5 (some zRow)) j4 (some zRow)
    generalize updH (updH Hr j5 _) j4 _ = G at S2 S3 S4 S5 ⊢
    simp only [go_sem]
    refine wputE_n S4 (by simp) ?_
    simp only [go_sem]
    refine wputE_n (keepS S5 n45.symm) (by simp) ?_
    simp only [go_sem]
    refine pinEnd_i fun _ Hm _ hm => hK _ _ ⟨by simp only [go_sem], by simp only [go_sem], ?_, ?_, j4, j5, by simp only [go_sem], by simp only [go_sem], ?_, ?_, n45, a2, b2, a3, b3⟩
    · rw [hm j2 (by simp)]; exact keepS (keepS S2 a2) b2
    · rw [hm j3 (by simp)]; exact keepS (keepS S3 a3) b3
    · rw [hm j4 (by simp), updH_ne _ _ _ _ n45, updH_same]; rfl
    · rw [hm j5 (by simp), updH_same]; rfl
theorem less_c (a b : Weight) : PC Tryz.prog 5 [.agg (encWeight a), .agg (encWeight b)] (boo (lessW a b)) := by
  refine PC.body (c := Tryz.f5.body.getD .skip) (fun _ => false) mixed Tryz.func5 rfl (by kernel_rfl) ?_
  unfold Tryz.f5
  simp only [Option.getD_some]
  simp only [go_sem]
  refine PC.use (limits_c a) ?_
  simp only [go_sem]
  refine anew_i fun j5 hj => ?_
  have R5 := updH_same noRows j5 (some zRow)
  simp only [go_sem]
  refine anew_i fun j6 hk => ?_
  have n56 := ne_new R5 hk
  simp only [go_sem]
  refine wputE_n (keep_new R5 hk) (by simp [encLim]) ?_
  simp only [go_sem]
  refine wputE_n (keepS (updH_same _ _ _) n56.symm) (by simp [encLim]) ?_
  generalize hG : updH (updH (updH (updH noRows j5 _) j6 _) j5 _) j6 _ = H0
  have R5 : H0 j5 = some (limRow (lo a)) := by rw [← hG, updH_ne _ _ _ _ n56, updH_same]
  have R6 : H0 j6 = some (limRow (hi a)) := by rw [← hG, updH_same]; rfl
  clear hG hj hk
  simp only [go_sem]
  refine PC.use (limits_c b) ?_
  simp only [go_sem]
  refine anew_i fun j7 hj => ?_
  simp only [go_sem]
  refine anew_i fun j8 hk => ?_
  have n78 := ne_new (updH_same _ _ _) hk
  simp only [go_sem]
  refine wputE_n (keep_new (updH_same _ _ _) hk) (by simp [encLim]) ?_
  simp only [go_sem]
  refine wputE_n (keepS (updH_same _ _ _) n78.symm) (by simp [encLim]) ?_
  have old : ∀ i row, H0 i = some row → ∀ x y z t, updH (updH (updH (updH H0 j7 (some x)) j8 y) j7 z) j8 t i = some row := fun i row h x y z t => by
    have a1 := ne_new h hj
    have a2 : i ≠ j8 := fun e => by
      have := keep_new (r' := zRow) h hj
      exact absurd e (ne_new this hk)
    exact keepS (keepS (keepS (keepS h a1) a2) a1) a2
  generalize hG : updH (updH (updH (updH H0 j7 _) j8 _) j7 _) j8 _ = H1
  have R5 : H1 j5 = some (limRow (lo a)) := by rw [← hG]; exact old _ _ R5 _ _ _ _
  have R6 : H1 j6 = some (limRow (hi a)) := by rw [← hG]; exact old _ _ R6 _ _ _ _
  have R7 : H1 j7 = some (limRow (lo b)) := by rw [← hG, updH_ne _ _ _ _ n78, updH_same]
  have R8 : H1 j8 = some (limRow (hi b)) := by rw [← hG, updH_same]; rfl
  clear hG hj hk old
  simp only [go_sem, R5, R7]
  refine PC.use (compare_c (lo a) (lo b)) ?_
  simp only [go_sem]
  refine acond_i (fun h1 => ?_) (fun h1 => ?_)
  · simp only [go_sem]
    exact convB (by unfold lessW; rw [if_pos h1])
  simp only [go_sem, R6, R8]
  refine PC.use (compare_c (hi a) (hi b)) ?_
  simp only [go_sem]
  exact convB (by unfold lessW; rw [if_neg (by rw [h1]; simp)])
theorem order36_c (w : Weight) : PC Tryz.prog 10 [.agg (encWeight w)] (.tup [int (loR w).n, boo (loR w).missing, int (hiR w).n, boo (hiR w).missing]) := by
  refine PC.body (c := Tryz.f10.body.getD .skip) (fun _ => false) mixed Tryz.func10 rfl (by kernel_rfl) ?_
  unfold Tryz.f10
  simp only [Option.getD_some]
  simp only [go_sem]
  refine acond_i (fun h1 => ?_) (fun h1 => ?_)
  · simp only [go_sem]
    refine adraw_q (by rfl) (by kernel_rfl) ?_
    simp only [go_sem]
    rw [loR, hiR, if_pos (show swapR w = true from h1), if_pos (show swapR w = true from h1)]
    exact .refl _
  · simp only [go_sem]
    refine adraw_q (by rfl) (by kernel_rfl) ?_
    simp only [go_sem]
    rw [loR, hiR, if_neg (by rw [show swapR w = false from h1]; simp), if_neg (by rw [show swapR w = false from h1]; simp)]
    exact .refl _
theorem above36_c (x y : Lim) : PC Tryz.prog 11 [int x.n, boo x.missing, int y.n, boo y.missing] (int (aboveR x y)) := by
  refine PC.body (c := Tryz.f11.body.getD .skip) (fun _ => false) mixed Tryz.func11 rfl (by kernel_rfl) ?_
  unfold Tryz.f11
  simp only [Option.getD_some]
  simp only [go_sem]
  refine acond_i (fun h1 => ?_) (fun h1 => ?_)
  · simp only [go_sem]
    exact convI (by unfold aboveR; rw [if_pos (show (x.missing && y.missing || !x.missing && !y.missing && x.n == y.n) = true from h1)])
  simp only [go_sem]
  refine acond_i (fun h2 => ?_) (fun h2 => ?_)
  · simp only [go_sem]
    exact convI (by unfold aboveR; rw [if_neg (by rw [show (x.missing && y.missing || !x.missing && !y.missing && x.n == y.n) = false from h1]; simp), if_pos h2])
  · simp only [go_sem]
    exact convI (by unfold aboveR; rw [if_neg (by rw [show (x.missing && y.missing || !x.missing && !y.missing && x.n == y.n) = false from h1]; simp), if_neg (by rw [h2]; simp)])
theorem less36_c (a b : Weight) : PC Tryz.prog 6 [.agg (encWeight a), .agg (encWeight b)] (boo (lessR a b)) := by
  refine PC.body (c := Tryz.f6.body.getD .skip) (fun _ => false) mixed Tryz.func6 rfl (by kernel_rfl) ?_
  unfold Tryz.f6
  simp only [Option.getD_some]
  simp only [go_sem]
  refine PC.use (order36_c a) ?_
  simp only [go_sem]
  refine PC.use (order36_c b) ?_
  simp only [go_sem]
  refine PC.use (above36_c (loR a) (loR b)) ?_
  simp only [go_sem]
  refine ⟨_, fun _ => (above36_c (hiR a) (hiR b)).q rfl, ?_⟩
  simp only [go_sem]
  exact .refl _
end Go.Proofs.YtpdmcjaghdolcaaGreatDoor.St
