/- Texts joined by a program: CuL, CuM. -/
import Derived.Test.YtbcfajfngdmgnaaGreatDoorZd24
import Derived.Test.YtbcfajfngdmgnaaGreatDoorZd26
import Derived.Test.YtbcfajfngdmgnaaGreatDoorZd30

section
set_option linter.unusedSimpArgs false
set_option linter.unusedVariables false
namespace Go.Proofs.YtbcfajfngdmgnaaGreatDoor.Nu
open Go.Aw Go.Aw.D Go.Proofs Ty Go.Nu Go.So Go.Sb
set_option maxRecDepth 100000
abbrev hlf : ByteArray := ⟨#[49, 47, 50]⟩
def exCol (s : Int) : Column := ⟨0, s, 0, ⟨0, 0, [], []⟩⟩
theorem ex_broken : brokenP ⟨1, 7, 1⟩ [exCol 3, exCol 6, exCol 5] [hlf, hlf, hlf] = (hlf, 0) := by decide +kernel
def exType : VType := ⟨⟨#[118]⟩, 1, 0, 0, [5], 0, 0, 0, 9, 9, 0, 0, 0, 0⟩
def exOrder (s : ByteArray) : Order := ⟨s, [1], ⟨-1, 0, 0, 0⟩, ⟨0, 0, 9, 0⟩, 0, 0, 1, -1, -1, false⟩
def exNames : List ByteArray := [⟨#[111]⟩, ⟨#[112]⟩, ⟨#[113]⟩]
def exInst : Instance := ⟨⟨[⟨#[97]⟩], []⟩, [exType], exNames.map exOrder, [], []⟩
theorem ex_find : findP exInst 1 [exCol 3, exCol 6, exCol 5] [hlf, hlf, hlf] = ([⟨1, 7, 1⟩], 0) := by decide +kernel
theorem ex_loads : LoadsOk exInst 1 where
  dims := by decide
  orders := by decide
  types := by decide
  load := by
    intro o ho
    simp [exInst, exNames, exOrder] at ho
    rcases ho with rfl | rfl | rfl <;> simp
  cap := by
    intro t ht
    simp [exInst, exType] at ht
    subst ht
    simp
abbrev insRow (o r t : Nat) : Row := ⟨42, 6, [[.sl [[str ⟨#[97]⟩]], .sl [], .sl [encVType exType], .os o, .os r, .os t]]⟩
abbrev ordRow (l : List Order) : Row := ⟨96, 16, l.map encOrder⟩
abbrev noPairs : Row := ⟨247, 2, []⟩
theorem awake28_c : PC Tryz.prog 14 [] (boo true) := by
  refine PC.body (c := Tryz.f14.body.getD .skip) (fun t => t == 14) mixed Tryz.func14 rfl (by kernel_rfl) ?_
  unfold Tryz.f14
  simp only [Option.getD_some]
  simp only [go_sem]
  refine anew_i fun a _ => ?_
  generalize updH noRows a _ = Ha
  refine anew_i fun b _ => ?_
  generalize updH Ha b _ = Hb
  refine anew_i fun c _ => ?_
  generalize updH Hb c _ = Hc
  refine anew_i fun o ho => ?_
  have Ro : updH Hc o (some (⟨96, 16, []⟩ : Row)) o = some (ordRow []) := updH_same _ _ _
  generalize updH Hc o _ = H1 at Ro ⊢
  refine anew_i fun r hr => ?_
  have nor : o ≠ r := ne_new Ro hr
  have Ro := keep_new (r' := noPairs) Ro hr
  have Rr := updH_same H1 r (some noPairs)
  generalize updH H1 r _ = H2 at Ro Rr ⊢
  refine anew_i fun t ht => ?_
  have nto : o ≠ t := ne_new Ro ht
  have nrt : r ≠ t := ne_new Rr ht
  have Ro := keep_new (r' := noPairs) Ro ht
  have Rr := keep_new (r' := noPairs) Rr ht
  have Rt := updH_same H2 t (some noPairs)
  generalize updH H2 t _ = H3 at Ro Rr Rt ⊢
  refine anew_i fun i hi => ?_
  have noi : o ≠ i := ne_new Ro hi
  have nri : r ≠ i := ne_new Rr hi
  have nti : t ≠ i := ne_new Rt hi
  simp only [go_sem]
  refine wputE_n (updH_same _ _ _) (by simp) ?_
  generalize hG : updH (updH H3 i _) i _ = H4
  have Ro4 : H4 o = some (ordRow []) := by rw [← hG, updH_ne _ _ _ _ noi, updH_ne _ _ _ _ noi]; exact Ro
  have Rr4 : H4 r = some noPairs := by rw [← hG, updH_ne _ _ _ _ nri, updH_ne _ _ _ _ nri]; exact Rr
  have Rt4 : H4 t = some noPairs := by rw [← hG, updH_ne _ _ _ _ nti, updH_ne _ _ _ _ nti]; exact Rt
  have Ri4 : H4 i = some (insRow o r t) := by rw [← hG, updH_same]; rfl
  clear hG Ro Rr Rt hi
  simp only [go_sem]
  have en : exNames.map Go.Aw.D.encStr = [[str ⟨#[111]⟩], [str ⟨#[112]⟩], [str ⟨#[113]⟩]] := rfl
  have el : exNames.length = 3 := rfl
  refine ⟨fun ρ H => ∃ (k : Nat) (o : Nat), k ≤ exNames.length ∧ ρ 1 = .op i 0 0 ∧ ρ 15 = .sl (exNames.map Go.Aw.D.encStr) ∧ ρ 16 = int (exNames.length : Nat) ∧ ρ 17 = int k ∧ H i = some (insRow o r t) ∧ H o = some (ordRow ((exNames.take k).map exOrder)) ∧ H r = some noPairs ∧ H t = some noPairs ∧ o ≠ i ∧ o ≠ r ∧ o ≠ t, fun ρ _ => exNames.length - natOf (ρ 17), ⟨0, o, Nat.zero_le _, by simp only [go_sem, en, el], by simp only [go_sem, en, el], by simp only [go_sem, List.length_map, en, el], (by simp only [go_sem, en, el]; rfl), Ri4, Ro4, Rr4, Rt4, noi, nor, nto⟩, ?_⟩
  rintro ρ H ⟨k, o, hk, e1, e15, e16, e17, Ri, Ro, Rr, Rt, noi, nor, nto⟩
  simp only [go_sem, e1, e15, e16, e17]
  refine acond_i (fun hlt => ?_) (fun hge => ?_)
  · have hlt := ltB hlt
    obtain ⟨s, hs⟩ := getIn hlt
    have b1 := inB hlt
    have hk3 : k < 3 := hlt
    simp only [go_sem, e1, e15, e16, e17, getD_map hs, b1, Ri]
    refine wappE_i Ro ⟨rfl, rfl⟩ ⟨rfl, trivial⟩ (by simp only [List.length_map, List.length_take, List.length_cons, List.length_nil]; omega) (fun j' hj' => ?_)
    have nji : i ≠ j' := ne_new Ri hj'
    have njr : r ≠ j' := ne_new Rr hj'
    have njt : t ≠ j' := ne_new Rt hj'
    have Ri2 := keep_app (r' := (⟨96, 16, ((exNames.take k).map exOrder).map encOrder ++ [encOrder (exOrder s)]⟩ : Row)) Ri noi hj'
    have Rr2 := keep_app (r' := (⟨96, 16, ((exNames.take k).map exOrder).map encOrder ++ [encOrder (exOrder s)]⟩ : Row)) Rr nor hj'
    have Rt2 := keep_app (r' := (⟨96, 16, ((exNames.take k).map exOrder).map encOrder ++ [encOrder (exOrder s)]⟩ : Row)) Rt nto hj'
    have Rj2 : updH (updH H o none) j' (some (⟨96, 16, ((exNames.take k).map exOrder).map encOrder ++ [encOrder (exOrder s)]⟩ : Row)) j' = some (ordRow ((exNames.take (k + 1)).map exOrder)) := by
      rw [take_succ hs, List.map_append]
      exact row_appG rfl
    simp only [go_sem, e1, e15, e16, e17]
    refine wputE_1 so39 Ri2 ⟨by simp, rfl, by simp⟩ ?_
    generalize hP : updH (updH (updH H o none) j' _) i _ = HP
    simp only [go_sem, e1, e15, e16, e17, wrapS (show k ≤ 4611686018427387904 by omega)]
    refine ⟨⟨k + 1, j', hlt, rfl, ?_, ?_, ?_, ?_, nji.symm, njr.symm, njt.symm⟩, by simp only [natOf_int]; omega⟩
    · rw [← hP, updH_same]; rfl
    · rw [← hP, updH_ne _ _ _ _ nji.symm]; exact Rj2
    · rw [← hP, updH_ne _ _ _ _ nri]; exact Rr2
    · rw [← hP, updH_ne _ _ _ _ nti]; exact Rt2
  have hge := geB hk hge
  subst hge
  rw [List.take_length] at Ro
  simp only [go_sem, e1, e15, e16, e17, Ri]
  have hcols : ColsOk [exCol 3, exCol 6, exCol 5] [hlf, hlf, hlf] := ⟨by simp [exCol], by decide, by decide, by simp [hlf]; decide⟩
  have hf := find_c exInst 1 [exCol 3, exCol 6, exCol 5] [hlf, hlf, hlf] ex_loads (by simp [exInst]) (by decide) hcols
  have hbk := broken_a hcols (c := ⟨1, 7, 1⟩) (by unfold okCut; simp)
  rw [ex_find] at hf
  rw [ex_broken] at hbk
  refine PC.useF [o, r, t] (args' := [.agg (encInstance exInst), .sl ([exCol 3, exCol 6, exCol 5].map encColumn), .sl ([hlf, hlf, hlf].map Go.Aw.D.encStr)]) (.cons _ _ _ _ (.agg _ _ (.cons _ _ _ _ (.refl _) (.cons _ _ _ _ (.refl _) (.cons _ _ _ _ (.refl _) (.cons _ _ _ _ (.row _ _ _ (by simp; exact Ro) (ConvE.refl _)) (.cons _ _ _ _ (.row _ _ _ (by simp; exact Rr) (ConvE.refl _)) (.cons _ _ _ _ (.row _ _ _ (by simp; exact Rt) (ConvE.refl _)) .nil))))))) (.cons _ _ _ _ (.refl _) (.cons _ _ _ _ (.refl _) .nil))) hf ?_
  simp only [go_sem]
  refine PC.use hbk ?_
  simp only [go_sem]
  refine ⟨fun _ => by omega, ?_⟩
  exact cB (a := true) rfl
/-! ### lorrylaw28.few, CutBreaks -/
end Go.Proofs.YtbcfajfngdmgnaaGreatDoor.Nu
end

section
set_option linter.unusedSimpArgs false
set_option linter.unusedVariables false
namespace Go.Proofs.YtbcfajfngdmgnaaGreatDoor.Nu
open Go.Aw Go.Aw.D Go.Proofs Ty Go.Nu Go.So Go.Sb
set_option maxRecDepth 100000
theorem capR_of {l : List Int} {d : Int} (h : capR l d = true) : 1 ≤ (l.length : Int) ∧ (l.length : Int) ≤ 3 ∧ (l.length : Int) = d ∧ ∀ n ∈ l, 0 ≤ n ∧ n ≤ 1000 := by
  unfold capR at h
  split at h
  · cases h
  · next h1 =>
    simp only [Bool.or_eq_true, not_or, Bool.not_eq_true, Bool.not_eq_false', bne_eq_false_iff_eq] at h1
    have e := inR_iff.1 h1.1
    exact ⟨e.1, e.2, h1.2, fun n hn => inR_iff.1 (List.all_eq_true.1 h n hn)⟩
theorem rightL_of {l : List Int} {d : Int} (h : rightL l d = true) : (l.length : Int) = d ∧ ∀ n ∈ l, 0 ≤ n ∧ n ≤ 1000 := by
  unfold rightL at h
  split at h
  · next h1 =>
    refine ⟨h1, fun n hn => ?_⟩
    have := List.all_eq_true.1 h n hn
    simp at this
    omega
  · cases h
theorem loadsOk_of {x : Instance} (h : Acc x) : LoadsOk x (dimsR x.types).toNat ∧ x.types ≠ [] := by
  have hne : x.types ≠ [] := by
    intro h0
    have := h.types
    rw [h0] at this
    simp at this
  obtain ⟨t, r, ht⟩ := List.exists_cons_of_ne_nil hne
  have hd : dimsR x.types = t.cap.length := by rw [ht]; rfl
  have ht1 := capR_of (h.type t (by rw [ht]; exact List.mem_cons_self)).cap
  have e : ((dimsR x.types).toNat : Int) = dimsR x.types := by omega
  refine ⟨⟨by omega, by have := h.orders; omega, by have := h.types; omega, fun o ho => ?_, fun t ht => ?_⟩, hne⟩
  · have := rightL_of (h.order o ho).load
    exact ⟨by omega, this.2⟩
  · have := capR_of (h.type t ht).cap
    exact ⟨by omega, this.2.2.2⟩
theorem coefA_c (c : Cut) (sn : Nat) (h : 0 ≤ c.set) (hcs : c.set < 9223372036854775808) (hsl : sn < 2 ^ 63) : PC Tryz.prog 30 [.agg (encCut c), int sn] (int (coefP c.kind (c.set.toNat &&& sn))) := by
  obtain ⟨k, s, n⟩ := c
  obtain ⟨m, rfl⟩ := Int.eq_ofNat_of_zero_le h
  have hcs : (m : Int) < 9223372036854775808 := hcs
  exact coef_c k n m sn (by omega) hsl
theorem coefB_c (c : Cut) (sn : Nat) (h : 0 ≤ c.set) (hcs : c.set < 9223372036854775808) (hsl : sn < 2 ^ 63) : PC Tryz.prog 31 [.agg (encCut c), int sn] (int (coefP c.kind (c.set.toNat &&& sn))) := by
  obtain ⟨k, s, n⟩ := c
  obtain ⟨m, rfl⟩ := Int.eq_ofNat_of_zero_le h
  have hcs : (m : Int) < 9223372036854775808 := hcs
  exact coef28_c k n m sn (by omega) hsl
theorem cutChecks_c (x : Instance) (c : Cut) (set : Int) (hx : InB x) (hset : set < 9223372036854775808) (hcs : c.set < 9223372036854775808) :
    PC Tryz.prog 6 [.agg (encInstance x), .agg (encCut c), int set] (boo true) := by
  refine PC.body (c := Tryz.f6.body.getD .skip) (fun _ => false) mixed Tryz.func6 rfl (by kernel_rfl) ?_
  unfold Tryz.f6
  simp only [Option.getD_some]
  simp only [go_sem]
  refine PC.use (NC.pc (check_c x hx)) ?_
  simp only [go_sem, List.length_map]
  refine acond_i (fun hb => ?_) (fun hb => ?_)
  · simp only [go_sem]
    refine PC.use awake28_c ?_
    simp only [go_sem]
    exact .refl _
  have hb' : (checkR x).length = 0 ∧ 0 ≤ set := by simp at hb; exact ⟨by simp [hb.1], hb.2⟩
  have hacc := acc_of (List.eq_nil_of_length_eq_zero hb'.1)
  obtain ⟨hlo, hne⟩ := loadsOk_of hacc
  generalize (dimsR x.types).toNat = d at hlo
  obtain ⟨sn, hsn⟩ := Int.eq_ofNat_of_zero_le hb'.2
  have hsl : sn < 2 ^ 63 := by omega
  subst hsn
  have hc1 : 0 ≤ c.set → PC Tryz.prog 30 [.agg (encCut c), int sn] (int (coefP c.kind (c.set.toNat &&& sn))) := fun h => coefA_c c sn h hcs hsl
  have hc2 : 0 ≤ c.set → PC Tryz.prog 31 [.agg (encCut c), int sn] (int (coefP c.kind (c.set.toNat &&& sn))) := fun h => coefB_c c sn h hcs hsl
  have hR : (!(rightC x d c == rightC x d c)) = false := by simp
  simp only [go_sem]
  refine adraw_q (by rfl) (by kernel_rfl) ?_
  simp only [go_sem]
  refine ⟨_, (rightC_c x d c hlo hne).q rfl, ?_⟩
  simp only [go_sem]
  refine ⟨_, (right28_c x d c hlo hne hcs).q rfl, ?_⟩
  simp only [go_sem]
  refine ⟨_, fun _ => (tripsA_c x d sn hlo hne).q rfl, ?_⟩
  simp only [go_sem]
  refine ⟨_, fun _ => (trips28_c x d sn hlo hne hset).q rfl, ?_⟩
  simp only [go_sem]
  refine ⟨_, fun _ => (tripsA_c x d c.set hlo hne).q rfl, ?_⟩
  simp only [go_sem]
  refine ⟨_, fun _ => (trips28_c x d c.set hlo hne hcs).q rfl, ?_⟩
  simp only [go_sem]
  refine acond_i (fun hb => ?_) (fun hb => ?_)
  · simp at hb
  simp only [go_sem]
  refine PC.use (row_c c) ?_
  simp only [go_sem]
  refine PC.use (row28_c c) ?_
  simp only [go_sem]
  refine adraw_q (by rfl) (by kernel_rfl) ?_
  simp only [go_sem]
  refine ⟨int (coefP c.kind (c.set.toNat &&& sn)), fun hg => (hc1 (by simpa using hg.2)).q rfl, ?_⟩
  simp only [go_sem]
  refine ⟨int (coefP c.kind (c.set.toNat &&& sn)), fun hg => (hc2 (by simpa using hg.2)).q rfl, ?_⟩
  simp only [go_sem]
  refine ⟨_, fun _ => awake28_c.q rfl, ?_⟩
  simp only [go_sem]
  exact cB (by simp)
end Go.Proofs.YtbcfajfngdmgnaaGreatDoor.Nu
end
