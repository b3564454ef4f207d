/- strong.Choose on no decisions, lorrylaw36.{examples, StrongCompares, StrongOrder} -/
import Derived.Test.YtpdmcjaghdolcaaGreatDoorStA
set_option linter.unusedSimpArgs false
set_option linter.unusedVariables false
namespace Go.Proofs.YtpdmcjaghdolcaaGreatDoor.St
open Go.Aw Go.Aw.D Go.Proofs Ty
set_option maxRecDepth 100000
theorem choose0_c (x : Instance) : PC Tryz.prog 12 [.agg (encInstance x), .sl [], .sl [], .sl []] (.tup [.agg [int 0, int 0, int 0, int 0], int 7]) := by
  refine PC.body (c := Tryz.f12.body.getD .skip) (fun _ => false) mixed Tryz.func12 rfl (by kernel_rfl) ?_
  unfold Tryz.f12
  simp only [Option.getD_some]
  simp only [go_sem]
  refine anew_i fun j8 hj => ?_
  simp only [go_sem]
  refine acond_i (fun _ => ?_) (fun hb => by simp at hb)
  simp only [go_sem]
  refine wputE_n (updH_same _ _ _) (by simp) ?_
  simp only [go_sem]
  exact .refl _
def wA : Weight := ⟨0, 6, true, false⟩
def wB : Weight := ⟨6, 8, false, false⟩
def wC : Weight := ⟨7, 6, false, false⟩
def wD : Weight := ⟨5, 9, false, false⟩
abbrev wRow (w : Weight) : Row := ⟨23, 4, [encWeight w]⟩
def exS (b : UInt8) : ByteArray := ⟨#[b]⟩
def exT : VType := ⟨exS 118, 2, 0, 0, [5], 0, 0, 0, 100, 100, 0, 0, 0, 0⟩
def exX : Instance := ⟨⟨[exS 65], []⟩, [exT], [], [], []⟩
abbrev zW : Row := ⟨23, 4, [[int 0, int 0, boo false, boo false]]⟩
theorem examples_c : PC Tryz.prog 7 [] (boo true) := by
  refine PC.body (c := Tryz.f7.body.getD .skip) (fun _ => false) mixed Tryz.func7 rfl (by kernel_rfl) ?_
  unfold Tryz.f7
  simp only [Option.getD_some]
  simp only [go_sem]
  refine anew_i fun j1 hj => ?_
  have R1 := updH_same noRows j1 (some zW)
  generalize updH noRows j1 _ = H1 at R1 ⊢
  clear hj
  simp only [go_sem]
  refine anew_i fun j2 hj => ?_
  have n12 := ne_new R1 hj
  have R2 := updH_same H1 j2 (some zW)
  have R1 := keep_new (r' := zW) R1 hj
  generalize updH H1 j2 _ = H2 at R1 R2 ⊢
  clear hj
  simp only [go_sem]
  refine anew_i fun j3 hj => ?_
  have n13 := ne_new R1 hj
  have n23 := ne_new R2 hj
  have R3 := updH_same H2 j3 (some zW)
  have R1 := keep_new (r' := zW) R1 hj
  have R2 := keep_new (r' := zW) R2 hj
  generalize updH H2 j3 _ = H3 at R1 R2 R3 ⊢
  clear hj
  simp only [go_sem]
  refine anew_i fun j4 hj => ?_
  have n14 := ne_new R1 hj
  have n24 := ne_new R2 hj
  have n34 := ne_new R3 hj
  have R4 := updH_same H3 j4 (some zW)
  have R1 := keep_new (r' := zW) R1 hj
  have R2 := keep_new (r' := zW) R2 hj
  have R3 := keep_new (r' := zW) R3 hj
  generalize updH H3 j4 _ = H4 at R1 R2 R3 R4 ⊢
  clear hj
  simp only [go_sem]
  refine wputE_n R1 (by simp) ?_
  simp only [go_sem]
  refine wputE_n (keepS R2 n12.symm) (by simp) ?_
  simp only [go_sem]
  refine wputE_n (keepS (keepS R3 n13.symm) n23.symm) (by simp) ?_
  simp only [go_sem]
  refine wputE_n (keepS (keepS (keepS R4 n14.symm) n24.symm) n34.symm) (by simp) ?_
  generalize hG : updH (updH (updH (updH H4 j1 _) j2 _) j3 _) j4 _ = H5
  have S1 : H5 j1 = some (wRow wA) := by rw [← hG, updH_ne _ _ _ _ n14, updH_ne _ _ _ _ n13, updH_ne _ _ _ _ n12, updH_same]; rfl
  have S2 : H5 j2 = some (wRow wB) := by rw [← hG, updH_ne _ _ _ _ n24, updH_ne _ _ _ _ n23, updH_same]; rfl
  have S3 : H5 j3 = some (wRow wC) := by rw [← hG, updH_ne _ _ _ _ n34, updH_same]; rfl
  have S4 : H5 j4 = some (wRow wD) := by rw [← hG, updH_same]; rfl
  clear hG R1 R2 R3 R4 n12 n13 n14 n23 n24 n34
  simp only [go_sem]
  refine anew_i fun j5 hj => ?_
  simp only [go_sem]
  refine wputE_n (updH_same _ _ _) (by simp) ?_
  have old : ∀ i row, H5 i = some row → ∀ a b, updH (updH H5 j5 a) j5 b i = some row := fun i row h a b => keepN h hj
  generalize hG : updH (updH H5 j5 _) j5 _ = H6
  have R5 : H6 j5 = some ⟨45, 6, [[.sl [[.v (.string (exS 65))]], .sl [], .sl [], .sl [], .sl [], .sl []]]⟩ := by rw [← hG, updH_same]; rfl
  have n1 := ne_new S1 hj
  have n2 := ne_new S2 hj
  have n3 := ne_new S3 hj
  have n4 := ne_new S4 hj
  have S1 : H6 j1 = some (wRow wA) := by rw [← hG]; exact old _ _ S1 _ _
  have S2 : H6 j2 = some (wRow wB) := by rw [← hG]; exact old _ _ S2 _ _
  have S3 : H6 j3 = some (wRow wC) := by rw [← hG]; exact old _ _ S3 _ _
  have S4 : H6 j4 = some (wRow wD) := by rw [← hG]; exact old _ _ S4 _ _
  clear hG old hj
  simp only [go_sem]
  refine wputE_1 so41 R5 ⟨by simp, rfl, by simp⟩ ?_
  generalize hG : updH H6 j5 _ = H7
  have R5' : H7 j5 = some ⟨45, 6, [encInstance exX]⟩ := by rw [← hG, updH_same]; rfl
  have S1 : H7 j1 = some (wRow wA) := by rw [← hG]; exact keepS S1 n1
  have S2 : H7 j2 = some (wRow wB) := by rw [← hG]; exact keepS S2 n2
  have S3 : H7 j3 = some (wRow wC) := by rw [← hG]; exact keepS S3 n3
  have S4 : H7 j4 = some (wRow wD) := by rw [← hG]; exact keepS S4 n4
  clear hG R5
  simp only [go_sem, R5']
  refine PC.use (choose0_c exX) ?_
  simp only [go_sem]
  refine anew_i fun j6 hj => ?_
  simp only [go_sem]
  refine wputE_n (updH_same _ _ _) (by simp) ?_
  generalize hG : updH (updH H7 j6 _) j6 _ = H8
  have S1 : H8 j1 = some (wRow wA) := by rw [← hG]; exact keepN S1 hj
  have S2 : H8 j2 = some (wRow wB) := by rw [← hG]; exact keepN S2 hj
  have S3 : H8 j3 = some (wRow wC) := by rw [← hG]; exact keepN S3 hj
  have S4 : H8 j4 = some (wRow wD) := by rw [← hG]; exact keepN S4 hj
  clear hG hj R5'
  simp only [go_sem, S1, S2]
  refine ⟨_, fun _ => (less_c wA wB).q rfl, ?_⟩
  simp only [go_sem, S2, S3]
  refine ⟨_, fun _ => (less_c wB wC).q rfl, ?_⟩
  simp only [go_sem, S3, S4]
  refine ⟨_, fun _ => (less_c wC wD).q rfl, ?_⟩
  simp only [go_sem, S2, S1]
  refine ⟨_, fun _ => (less_c wB wA).q rfl, ?_⟩
  simp only [go_sem, S1]
  refine ⟨_, fun _ => (less_c wA wA).q rfl, ?_⟩
  simp only [go_sem, S1, S4]
  refine ⟨_, fun _ => (less_c wA wD).q rfl, ?_⟩
  simp only [go_sem, S4, S3]
  refine ⟨_, fun _ => (less_c wD wC).q rfl, ?_⟩
  simp only [go_sem]
  exact convB (by decide)
theorem compares_c (a b : Weight) : PC Tryz.prog 3 [.agg (encWeight a), .agg (encWeight b)] (boo true) := by
  refine PC.body (c := Tryz.f3.body.getD .skip) (fun _ => false) mixed Tryz.func3 rfl (by kernel_rfl) ?_
  unfold Tryz.f3
  simp only [Option.getD_some]
  simp only [go_sem]
  refine anew_i fun j5 hj => ?_
  simp only [go_sem]
  refine wputE_n (updH_same _ _ _) (by simp) ?_
  generalize hG : updH (updH noRows j5 _) j5 _ = H1
  have R5 : H1 j5 = some ⟨24, 4, [encWeight a]⟩ := by rw [← hG, updH_same]; rfl
  clear hG hj
  simp only [go_sem]
  refine anew_i fun j6 hj => ?_
  simp only [go_sem]
  refine wputE_n (updH_same _ _ _) (by simp) ?_
  generalize hG : updH (updH H1 j6 _) j6 _ = H2
  have R6 : H2 j6 = some ⟨24, 4, [encWeight b]⟩ := by rw [← hG, updH_same]; rfl
  have R5 : H2 j5 = some ⟨24, 4, [encWeight a]⟩ := by rw [← hG]; exact keepN R5 hj
  clear hG hj
  simp only [go_sem]
  refine adraw_q (by rfl) (by kernel_rfl) ?_
  simp only [go_sem, R5, R6]
  refine ⟨_, (less_c a b).q rfl, ?_⟩
  simp only [go_sem, R5, R6]
  refine ⟨_, (less36_c a b).q rfl, ?_⟩
  simp only [go_sem]
  refine ⟨_, fun _ => examples_c.q rfl, ?_⟩
  simp only [go_sem]
  exact convB (by rw [less_same]; simp)
theorem orders_c (a b c : Weight) : PC Tryz.prog 4 [.agg (encWeight a), .agg (encWeight b), .agg (encWeight c)] (boo true) := by
  refine PC.body (c := Tryz.f4.body.getD .skip) (fun _ => false) mixed Tryz.func4 rfl (by kernel_rfl) ?_
  unfold Tryz.f4
  simp only [Option.getD_some]
  simp only [go_sem]
  refine adraw_m [(0, true), (1, true), (2, true), (3, true), (4, true), (5, true), (6, true), (7, true), (8, true), (9, true), (10, true), (11, true), (12, true), (13, true), (14, true), (15, true), (16, true), (17, true), (18, false), (19, false), (20, false), (21, false), (22, false), (23, false)] (by kernel_rfl) ?_
  simp only [go_sem]
  refine ⟨_, (less_c a b).q rfl, ?_⟩
  simp only [go_sem]
  refine ⟨_, (less_c b a).q rfl, ?_⟩
  simp only [go_sem]
  refine ⟨_, (less_c b c).q rfl, ?_⟩
  simp only [go_sem]
  refine ⟨_, (less_c c b).q rfl, ?_⟩
  simp only [go_sem]
  refine ⟨_, (less_c a c).q rfl, ?_⟩
  simp only [go_sem]
  refine ⟨_, (less_c c a).q rfl, ?_⟩
  simp only [go_sem]
  refine PC.use (less_c a a) ?_
  simp only [go_sem]
  refine acond_i (fun hb => ?_) (fun _ => ?_)
  · exfalso
    rw [less_irr] at hb
    cases h1 : lessW a b with
    | false => rw [h1] at hb; simp at hb
    | true =>
      rw [h1, less_asym h1] at hb
      cases h2 : lessW b c with
      | false => rw [h2] at hb; simp at hb
      | true => rw [h2, less_trans h1 h2] at hb; simp at hb
  simp only [go_sem]
  refine acond_i (fun hb => ?_) (fun _ => ?_)
  · exfalso
    cases h1 : lessW a b with
    | true => rw [h1] at hb; simp at hb
    | false =>
      cases h2 : lessW b a with
      | true => rw [h2] at hb; simp at hb
      | false =>
        obtain ⟨e1, e2⟩ := less_weak h1 h2 c
        rw [e1, e2] at hb
        simp at hb
  simp only [go_sem]
  refine anew_i fun j13 hj => ?_
  simp only [go_sem]
  refine wputE_n (updH_same _ _ _) (by simp) ?_
  generalize hG : updH (updH noRows j13 _) j13 _ = H1
  have R : H1 j13 = some (wRow (turned a)) := by rw [← hG, updH_same]; rfl
  clear hG hj
  obtain ⟨t1, t2⟩ := turned_same a
  simp only [go_sem, R]
  refine PC.use (less_c a (turned a)) ?_
  simp only [go_sem, R]
  refine ⟨_, fun _ => (less_c (turned a) a).q rfl, ?_⟩
  simp only [go_sem]
  refine ⟨_, fun _ => examples_c.q rfl, ?_⟩
  simp only [go_sem]
  exact convB (by rw [t1, t2]; rfl)
end Go.Proofs.YtpdmcjaghdolcaaGreatDoor.St
