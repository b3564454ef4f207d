/- decide: the examples of the laws. -/
import Derived.Test.YtjlbikpgjejkjaaDecF
import Derived.Test.YtjlbikpgjejkjaaRefL
set_option linter.unusedSimpArgs false
set_option linter.unusedVariables false
namespace Go.Proofs.Ytjlbikpgjejkjaa.Dec
open Go.Aw Go.Aw.D Go.Proofs Ty
set_option maxRecDepth 100000

theorem NC.pc {f : FuncId} {args : List AV} {r : Row} (h : NC Try.prog f args r .os) : PC Try.prog f args (.sl r.es) :=
  RC.conv (RC.mono h fun x H' ⟨k, hx, hk⟩ => hx ▸ .row k r r.es hk (ConvE.refl _))
def rightR (x : Instance) (l : List Decision) : Bool := decide ((l.length : Int) ≤ 40) && (((checkR x).length : Int) == 0) && (chkR x l == 0)
theorem right_c (x : Instance) (l : List Decision) (hx : InB x) (hl : l.length ≤ 1048576) : PC Try.prog 31 [.agg (encInstance x), .sl (l.map encDecision)] (boo (rightR x l)) := by
  refine PC.body (c := Try.f31.body.getD .skip) (fun _ => false) mixed Try.func31 rfl (by kernel_rfl) ?_
  unfold Try.f31
  simp only [Option.getD_some]
  simp only [go_sem]
  refine ⟨_, fun _ => (NC.pc (check_c x hx)).qn, ?_⟩
  simp only [go_sem]
  refine ⟨_, fun _ => (chk29_c x l hl).q rfl, ?_⟩
  simp only [go_sem]
  exact .refl _
def exS (b : UInt8) : ByteArray := ⟨#[b]⟩
def exStop : Stop := ⟨0, 0, 50, 0⟩
def exOrder (s : ByteArray) (i : Int) : Order := ⟨s, [1], exStop, exStop, 0, 3 * i - 1, 1, -1, -1, false⟩
def exT : VType := ⟨exS 118, 2, 0, 0, [5], 0, 0, 0, 100, 100, 0, 0, 0, 0⟩
def exOs : List Order := [exOrder (exS 111) 0, exOrder (exS 112) 1, exOrder (exS 113) 2]
def exX (os : List Order) : Instance := ⟨⟨[exS 65], []⟩, [exT], os, [], []⟩
def exD : List Decision := [⟨1, 0, 1, 0⟩]
def exP : Plan := ⟨[⟨0, 0, [], [⟨0, false⟩, ⟨1, true⟩]⟩, ⟨0, 0, [], [⟨2, false⟩]⟩], []⟩
def exB : List Decision := [⟨1, 0, 1, 0⟩, ⟨2, 1, 0, 0⟩]
theorem e1 : PC Try.prog 26 [.agg (encInstance (exX exOs)), .sl (exD.map encDecision)] (int 0) := chk_c (exX exOs) exD (by decide)
theorem e2 : PC Try.prog 26 [.agg (encInstance (exX exOs)), .sl ([⟨9, 0, 0, 0⟩].map encDecision)] (int 8) := chk_c (exX exOs) [⟨9, 0, 0, 0⟩] (by decide)
theorem e3 : PC Try.prog 26 [.agg (encInstance (exX exOs)), .sl ([⟨5, 3, 0, 0⟩].map encDecision)] (int 2) := chk_c (exX exOs) [⟨5, 3, 0, 0⟩] (by decide)
theorem e4 : PC Try.prog 29 [.agg (encDecision ⟨3, 0, 0, 2⟩)] (.agg (encDecision ⟨4, 0, 0, 3⟩)) := opp_c ⟨3, 0, 0, 2⟩
def exC (s : Int) : Column := ⟨0, s, 0, ⟨0, 0, [], []⟩⟩
theorem boo_eq {f : FuncId} {args : List AV} {b b' : Bool} (h : PC Try.prog f args (boo b)) (e : b = b') : PC Try.prog f args (boo b') := e ▸ h
theorem e5 : PC Try.prog 32 [.sl (exD.map encDecision), .agg (encColumn (exC 2))] (boo false) := boo_eq (Allows_c exD (exC 2) (by decide)) (by decide)
theorem e6 : PC Try.prog 32 [.sl (exD.map encDecision), .agg (encColumn (exC 7))] (boo true) := boo_eq (Allows_c exD (exC 7) (by decide)) (by decide)
theorem e7 : PC Try.prog 32 [.sl (exD.map encDecision), .agg (encColumn (exC 4))] (boo true) := boo_eq (Allows_c exD (exC 4) (by decide)) (by decide)
theorem e8 : PC Try.prog 35 [.agg (encInstance (exX exOs)), .sl (exD.map encDecision), .agg (encPlan exP)] (boo true) := boo_eq (Holds_c (exX exOs) exD exP (by decide) (by decide) (by decide) (by decide)) (by decide)
theorem e9 : PC Try.prog 35 [.agg (encInstance (exX exOs)), .sl ([⟨3, 0, 0, 1⟩].map encDecision), .agg (encPlan exP)] (boo false) := boo_eq (Holds_c (exX exOs) [⟨3, 0, 0, 1⟩] exP (by decide) (by decide) (by decide) (by decide)) (by decide)
theorem e10 : PC Try.prog 37 [.agg (encInstance (exX exOs)), .sl (exB.map encDecision)] (boo true) := boo_eq (Clash_c (exX exOs) exB (by decide) (by decide)) (by decide)
theorem e11 : PC Try.prog 37 [.agg (encInstance (exX exOs)), .sl (exD.map encDecision)] (boo false) := boo_eq (Clash_c (exX exOs) exD (by decide) (by decide)) (by decide)
theorem examples_c : PC Try.prog 28 [] (boo true) := by
  refine PC.body (c := Try.f28.body.getD .skip) (fun t => t == 9) mixed Try.func28 rfl (by kernel_rfl) ?_
  unfold Try.f28
  simp only [Option.getD_some]
  simp only [go_sem]
  refine anew_i fun q0 _ => ?_
  generalize updH noRows q0 _ = H0
  refine anew_i fun q1 _ => ?_
  generalize updH H0 q1 _ = H1
  refine anew_i fun jt ht => ?_
  generalize updH H1 jt _ = H2
  refine anew_i fun jo ho => ?_
  have O := updH_same H2 jo (some (⟨75, 16, []⟩ : Row))
  generalize updH H2 jo (some (⟨75, 16, []⟩ : Row)) = H3 at O ⊢
  refine anew_i fun ja ha => ?_
  have A := updH_same H3 ja (some (⟨135, 2, []⟩ : Row))
  have O := keep_new (r' := (⟨135, 2, []⟩ : Row)) O ha
  generalize updH H3 ja (some (⟨135, 2, []⟩ : Row)) = H4 at O A ⊢
  refine anew_i fun jb hb => ?_
  have B := updH_same H4 jb (some (⟨135, 2, []⟩ : Row))
  have O := keep_new (r' := (⟨135, 2, []⟩ : Row)) O hb
  have A := keep_new (r' := (⟨135, 2, []⟩ : Row)) A hb
  generalize updH H4 jb (some (⟨135, 2, []⟩ : Row)) = H5 at O A B ⊢
  refine anew_i fun j hj => ?_
  have noj : jo ≠ j := ne_new O hj
  have naj : ja ≠ j := ne_new A hj
  have nbj : jb ≠ j := ne_new B hj
  simp only [go_sem]
  refine wputE_n (updH_same _ _ _) (by simp) ?_
  simp only [go_sem]
  refine wputE_1 so26 (updH_same _ _ _) (by simp) ?_
  simp only [go_sem]
  generalize hX : updH (updH (updH H5 j _) j _) j _ = H6
  have XJ : H6 j = some ⟨30, 6, [[.sl [encStr (exS 65)], .sl [], .sl [encVType exT], .os jo, .os ja, .os jb]]⟩ := by rw [← hX, updH_same]; rfl
  have O : H6 jo = some ⟨75, 16, (exOs.take 0).map encOrder⟩ := by rw [← hX, updH_ne _ _ _ _ noj, updH_ne _ _ _ _ noj, updH_ne _ _ _ _ noj]; exact O
  have A : H6 ja = some ⟨135, 2, []⟩ := by rw [← hX, updH_ne _ _ _ _ naj, updH_ne _ _ _ _ naj, updH_ne _ _ _ _ naj]; exact A
  have B : H6 jb = some ⟨135, 2, []⟩ := by rw [← hX, updH_ne _ _ _ _ nbj, updH_ne _ _ _ _ nbj, updH_ne _ _ _ _ nbj]; exact B
  have noa : jo ≠ ja := fun e => by subst e; rw [O] at A; simp at A
  have nob : jo ≠ jb := fun e => by subst e; rw [O] at B; simp at B
  clear hX hj hb ha ho ht
  refine ⟨fun ρ H => ∃ k : Nat, k ≤ 3 ∧ ρ 1 = .op j 0 0 ∧ ρ 14 = .sl [encStr (exS 111), encStr (exS 112), encStr (exS 113)] ∧ ρ 15 = int 3 ∧ ρ 16 = int k ∧ ∃ jo, jo ≠ j ∧ jo ≠ ja ∧ jo ≠ jb ∧ H j = some ⟨30, 6, [[.sl [encStr (exS 65)], .sl [], .sl [encVType exT], .os jo, .os ja, .os jb]]⟩ ∧ H jo = some ⟨75, 16, (exOs.take k).map encOrder⟩ ∧ H ja = some ⟨135, 2, []⟩ ∧ H jb = some ⟨135, 2, []⟩, fun ρ _ => 3 - natOf (ρ 16), ⟨0, by omega, rfl, rfl, rfl, rfl, jo, noj, noa, nob, XJ, O, A, B⟩, ?_⟩
  clear XJ O A B noj noa nob
  rintro ρ H ⟨k, hk, h1, h14, h15, h16, jo, noj, noa, nob, XJ, O, A, B⟩
  simp only [go_sem, h1, h14, h15, h16]
  refine acond_i (fun hlt => ?_) (fun hge => ?_)
  · have hlt : k < 3 := by simp at hlt; omega
    obtain rfl | rfl | rfl : k = 0 ∨ k = 1 ∨ k = 2 := by omega
    all_goals
      simp only [go_sem, h1, h14, h15, h16, XJ, encStr]
      refine ⟨by decide, ?_⟩
      refine wappE_i O ⟨rfl, rfl⟩ (by simp only [go_sem]) (by simp [exOs]) (fun j' hj' => ?_)
      have njj' : j' ≠ j := (ne_new XJ hj').symm
      have nja : j' ≠ ja := (ne_new A hj').symm
      have njb : j' ≠ jb := (ne_new B hj').symm
      have XJ' := fun r' => keep_app (r' := r') XJ noj hj'
      have A' := fun r' => keep_app (r' := r') A noa hj'
      have B' := fun r' => keep_app (r' := r') B nob hj'
      simp only [go_sem, h1, h14, h15, h16, XJ']
      refine wputE_1 so27 (XJ' _) (by simp) ?_
      simp only [go_sem, h1, h14, h15, h16]
      refine ⟨⟨_, ?_, rfl, rfl, j', njj', nja, njb, rfl, by rw [updH_ne _ _ _ _ njj', updH_same]; rfl, by rw [updH_ne _ _ _ _ naj]; exact A' _, by rw [updH_ne _ _ _ _ nbj]; exact B' _⟩, ?_⟩
      · decide
      · simp only [natOf_int]; decide
  · have hge : k = 3 := by simp at hge; omega
    subst hge
    simp only [go_sem, h1, XJ]
    refine anew_i fun j5 hj5 => ?_
    have n5 : j ≠ j5 := ne_new XJ hj5
    simp only [go_sem, h1]
    refine wputE_n (updH_same _ _ _) (by simp) ?_
    simp only [go_sem, h1]
    generalize hX : updH (updH H j5 _) j5 _ = H6
    have P5 : H6 j5 = some ⟨34, 2, [encPlan exP]⟩ := by rw [← hX, updH_same]; rfl
    have XJ : H6 j = some ⟨30, 6, [[.sl [encStr (exS 65)], .sl [], .sl [encVType exT], .os jo, .os ja, .os jb]]⟩ := by rw [← hX, updH_ne _ _ _ _ n5, updH_ne _ _ _ _ n5]; exact XJ
    have O : H6 jo = some ⟨75, 16, exOs.map encOrder⟩ := by rw [← hX, updH_ne _ _ _ _ (ne_new O hj5), updH_ne _ _ _ _ (ne_new O hj5)]; exact O
    have A : H6 ja = some ⟨135, 2, []⟩ := by rw [← hX, updH_ne _ _ _ _ (ne_new A hj5), updH_ne _ _ _ _ (ne_new A hj5)]; exact A
    have B : H6 jb = some ⟨135, 2, []⟩ := by rw [← hX, updH_ne _ _ _ _ (ne_new B hj5), updH_ne _ _ _ _ (ne_new B hj5)]; exact B
    have CX : Conv H6 (.agg [.sl [encStr (exS 65)], .sl [], .sl [encVType exT], .os jo, .os ja, .os jb]) (.agg (encInstance (exX exOs))) :=
      .agg _ _ (.cons _ _ _ _ (.refl _) (.cons _ _ _ _ (.refl _) (.cons _ _ _ _ (.refl _) (.cons _ _ _ _ (.row _ _ _ O (ConvE.refl _)) (.cons _ _ _ _ (.row _ _ _ A (ConvE.refl _)) (.cons _ _ _ _ (.row _ _ _ B (ConvE.refl _)) .nil))))))
    clear hX
    simp only [go_sem, h1, XJ, P5]
    refine QCalls.use ⟨_, .cons _ _ _ _ CX (ConvL.refl _), e1, rfl⟩ ?_
    simp only [go_sem, h1, XJ, P5]
    refine ⟨_, fun _ => .inl ⟨_, .cons _ _ _ _ CX (ConvL.refl _), e2, rfl⟩, ?_⟩
    simp only [go_sem, h1, XJ, P5]
    refine ⟨_, fun _ => .inl ⟨_, .cons _ _ _ _ CX (ConvL.refl _), e3, rfl⟩, ?_⟩
    simp only [go_sem, h1, XJ, P5]
    refine ⟨_, fun _ => e4.q rfl, ?_⟩
    simp only [go_sem, h1, XJ, P5]
    rw [show eqCells [0, 0, 0, 0] (encDecision ⟨4, 0, 0, 3⟩) [int 4, int 0, int 0, int 3] = some true from rfl]
    simp only [go_sem, h1, XJ, P5]
    refine ⟨_, fun _ => e5.q rfl, ?_⟩
    simp only [go_sem, h1, XJ, P5]
    refine ⟨_, fun _ => e6.q rfl, ?_⟩
    simp only [go_sem, h1, XJ, P5]
    refine ⟨_, fun _ => e7.q rfl, ?_⟩
    simp only [go_sem, h1, XJ, P5]
    refine ⟨_, fun _ => .inl ⟨_, .cons _ _ _ _ CX (ConvL.refl _), e8, rfl⟩, ?_⟩
    simp only [go_sem, h1, XJ, P5]
    refine ⟨_, fun _ => .inl ⟨_, .cons _ _ _ _ CX (ConvL.refl _), e9, rfl⟩, ?_⟩
    simp only [go_sem, h1, XJ, P5]
    refine ⟨_, fun _ => .inl ⟨_, .cons _ _ _ _ CX (ConvL.refl _), e10, rfl⟩, ?_⟩
    simp only [go_sem, h1, XJ, P5]
    refine ⟨_, fun _ => .inl ⟨_, .cons _ _ _ _ CX (ConvL.refl _), e11, rfl⟩, ?_⟩
    simp only [go_sem, h1, XJ, P5]
    exact .refl _
end Go.Proofs.Ytjlbikpgjejkjaa.Dec
