/- Texts joined by a program: CuL, CuM, CuN, CuP, CuQ. -/
import Derived.Test.YtbcfajfngdmgnaaGreatDoorZg18
import Derived.Test.YtbcfajfngdmgnaaGreatDoorZg28
import Derived.Test.YtbcfajfngdmgnaaGreatDoorZg30
import Derived.Test.YtbcfajfngdmgnaaGreatDoorZg34

section
set_option linter.unusedSimpArgs false
set_option linter.unusedVariables false
namespace Go.Proofs.YtbcfajfngdmgnaaGreatDoor.Nu
open Go.Aw Go.Aw.D Go.Proofs Ty Go.Nu Go.So Go.Sb
set_option maxRecDepth 100000
abbrev hlf : ByteArray := ⟨#[49, 47, 50]⟩
def exCol (s : Int) : Column := ⟨0, s, 0, ⟨0, 0, [], []⟩⟩
theorem ex_broken : brokenP ⟨1, 7, 1⟩ [exCol 3, exCol 6, exCol 5] [hlf, hlf, hlf] = (hlf, 0) := by decide +kernel
def exType : VType := ⟨⟨#[118]⟩, 1, 0, 0, [5], 0, 0, 0, 9, 9, 0, 0, 0, 0⟩
def exOrder (s : ByteArray) : Order := ⟨s, [1], ⟨-1, 0, 0, 0⟩, ⟨0, 0, 9, 0⟩, 0, 0, 1, -1, -1, false⟩
def exNames : List ByteArray := [⟨#[111]⟩, ⟨#[112]⟩, ⟨#[113]⟩]
def exInst : Instance := ⟨⟨[⟨#[97]⟩], []⟩, [exType], exNames.map exOrder, [], []⟩
theorem ex_find : findP exInst 1 [exCol 3, exCol 6, exCol 5] [hlf, hlf, hlf] = ([⟨1, 7, 1⟩], 0) := by decide +kernel
theorem ex_loads : LoadsOk exInst 1 where
  dims := by decide
  orders := by decide
  types := by decide
  load := by
    intro o ho
    simp [exInst, exNames, exOrder] at ho
    rcases ho with rfl | rfl | rfl <;> simp
  cap := by
    intro t ht
    simp [exInst, exType] at ht
    subst ht
    simp
abbrev insRow (o r t : Nat) : Row := ⟨42, 6, [[.sl [[str ⟨#[97]⟩]], .sl [], .sl [encVType exType], .os o, .os r, .os t]]⟩
abbrev ordRow (l : List Order) : Row := ⟨96, 16, l.map encOrder⟩
abbrev noPairs : Row := ⟨247, 2, []⟩
theorem awake28_c : PC Tryz.prog 14 [] (boo true) := by
  refine PC.body (c := Tryz.f14.body.getD .skip) (fun t => t == 14) mixed Tryz.func14 rfl (by kernel_rfl) ?_
  unfold Tryz.f14
  simp only [Option.getD_some]
  simp only [go_sem]
  refine anew_i fun a _ => ?_
  generalize updH noRows a _ = Ha
  refine anew_i fun b _ => ?_
  generalize updH Ha b _ = Hb
  refine anew_i fun c _ => ?_
  generalize updH Hb c _ = Hc
  refine anew_i fun o ho => ?_
  have Ro : updH Hc o (some (⟨96, 16, []⟩ : Row)) o = some (ordRow []) := updH_same _ _ _
  generalize updH Hc o _ = H1 at Ro ⊢
  refine anew_i fun r hr => ?_
  have nor : o ≠ r := ne_new Ro hr
  have Ro := keep_new (r' := noPairs) Ro hr
  have Rr := updH_same H1 r (some noPairs)
  generalize updH H1 r _ = H2 at Ro Rr ⊢
  refine anew_i fun t ht => ?_
  have nto : o ≠ t := ne_new Ro ht
  have nrt : r ≠ t := ne_new Rr ht
  have Ro := keep_new (r' := noPairs) Ro ht
  have Rr := keep_new (r' := noPairs) Rr ht
  have Rt := updH_same H2 t (some noPairs)
  generalize updH H2 t _ = H3 at Ro Rr Rt ⊢
  refine anew_i fun i hi => ?_
  have noi : o ≠ i := ne_new Ro hi
  have nri : r ≠ i := ne_new Rr hi
  have nti : t ≠ i := ne_new Rt hi
  simp only [go_sem]
  refine wputE_n (updH_same _ _ _) (by simp) ?_
  generalize hG : updH (updH H3 i _) i _ = H4
  have Ro4 : H4 o = some (ordRow []) := by rw [← hG, updH_ne _ _ _ _ noi, updH_ne _ _ _ _ noi]; exact Ro
  have Rr4 : H4 r = some noPairs := by rw [← hG, updH_ne _ _ _ _ nri, updH_ne _ _ _ _ nri]; exact Rr
  have Rt4 : H4 t = some noPairs := by rw [← hG, updH_ne _ _ _ _ nti, updH_ne _ _ _ _ nti]; exact Rt
  have Ri4 : H4 i = some (insRow o r t) := by rw [← hG, updH_same]; rfl
  clear hG Ro Rr Rt hi
  simp only [go_sem]
  have en : exNames.map Go.Aw.D.encStr = [[str ⟨#[111]⟩], [str ⟨#[112]⟩], [str ⟨#[113]⟩]] := rfl
  have el : exNames.length = 3 := rfl
  refine ⟨fun ρ H => ∃ (k : Nat) (o : Nat), k ≤ exNames.length ∧ ρ 1 = .op i 0 0 ∧ ρ 15 = .sl (exNames.map Go.Aw.D.encStr) ∧ ρ 16 = int (exNames.length : Nat) ∧ ρ 17 = int k ∧ H i = some (insRow o r t) ∧ H o = some (ordRow ((exNames.take k).map exOrder)) ∧ H r = some noPairs ∧ H t = some noPairs ∧ o ≠ i ∧ o ≠ r ∧ o ≠ t, fun ρ _ => exNames.length - natOf (ρ 17), ⟨0, o, Nat.zero_le _, by simp only [go_sem, en, el], by simp only [go_sem, en, el], by simp only [go_sem, List.length_map, en, el], (by simp only [go_sem, en, el]; rfl), Ri4, Ro4, Rr4, Rt4, noi, nor, nto⟩, ?_⟩
  rintro ρ H ⟨k, o, hk, e1, e15, e16, e17, Ri, Ro, Rr, Rt, noi, nor, nto⟩
  simp only [go_sem, e1, e15, e16, e17]
  refine acond_i (fun hlt => ?_) (fun hge => ?_)
  · have hlt := ltB hlt
    obtain ⟨s, hs⟩ := getIn hlt
    have b1 := inB hlt
    have hk3 : k < 3 := hlt
    simp only [go_sem, e1, e15, e16, e17, getD_map hs, b1, Ri]
    refine wappE_i Ro ⟨rfl, rfl⟩ ⟨rfl, trivial⟩ (by simp only [List.length_map, List.length_take, List.length_cons, List.length_nil]; omega) (fun j' hj' => ?_)
    have nji : i ≠ j' := ne_new Ri hj'
    have njr : r ≠ j' := ne_new Rr hj'
    have njt : t ≠ j' := ne_new Rt hj'
    have Ri2 := keep_app (r' := (⟨96, 16, ((exNames.take k).map exOrder).map encOrder ++ [encOrder (exOrder s)]⟩ : Row)) Ri noi hj'
    have Rr2 := keep_app (r' := (⟨96, 16, ((exNames.take k).map exOrder).map encOrder ++ [encOrder (exOrder s)]⟩ : Row)) Rr nor hj'
    have Rt2 := keep_app (r' := (⟨96, 16, ((exNames.take k).map exOrder).map encOrder ++ [encOrder (exOrder s)]⟩ : Row)) Rt nto hj'
    have Rj2 : updH (updH H o none) j' (some (⟨96, 16, ((exNames.take k).map exOrder).map encOrder ++ [encOrder (exOrder s)]⟩ : Row)) j' = some (ordRow ((exNames.take (k + 1)).map exOrder)) := by
      rw [take_succ hs, List.map_append]
      exact row_appG rfl
    simp only [go_sem, e1, e15, e16, e17]
    refine wputE_1 so39 Ri2 ⟨by simp, rfl, by simp⟩ ?_
    generalize hP : updH (updH (updH H o none) j' _) i _ = HP
    simp only [go_sem, e1, e15, e16, e17, wrapS (show k ≤ 4611686018427387904 by omega)]
    refine ⟨⟨k + 1, j', hlt, rfl, ?_, ?_, ?_, ?_, nji.symm, njr.symm, njt.symm⟩, by simp only [natOf_int]; omega⟩
    · rw [← hP, updH_same]; rfl
    · rw [← hP, updH_ne _ _ _ _ nji.symm]; exact Rj2
    · rw [← hP, updH_ne _ _ _ _ nri]; exact Rr2
    · rw [← hP, updH_ne _ _ _ _ nti]; exact Rt2
  have hge := geB hk hge
  subst hge
  rw [List.take_length] at Ro
  simp only [go_sem, e1, e15, e16, e17, Ri]
  have hcols : ColsOk [exCol 3, exCol 6, exCol 5] [hlf, hlf, hlf] := ⟨by simp [exCol], by decide, by decide, by simp [hlf]; decide⟩
  have hf := find_c exInst 1 [exCol 3, exCol 6, exCol 5] [hlf, hlf, hlf] ex_loads (by simp [exInst]) (by decide) hcols
  have hbk := broken_a hcols (c := ⟨1, 7, 1⟩) (by unfold okCut; simp)
  rw [ex_find] at hf
  rw [ex_broken] at hbk
  refine PC.useF [o, r, t] (args' := [.agg (encInstance exInst), .sl ([exCol 3, exCol 6, exCol 5].map encColumn), .sl ([hlf, hlf, hlf].map Go.Aw.D.encStr)]) (.cons _ _ _ _ (.agg _ _ (.cons _ _ _ _ (.refl _) (.cons _ _ _ _ (.refl _) (.cons _ _ _ _ (.refl _) (.cons _ _ _ _ (.row _ _ _ (by simp; exact Ro) (ConvE.refl _)) (.cons _ _ _ _ (.row _ _ _ (by simp; exact Rr) (ConvE.refl _)) (.cons _ _ _ _ (.row _ _ _ (by simp; exact Rt) (ConvE.refl _)) .nil))))))) (.cons _ _ _ _ (.refl _) (.cons _ _ _ _ (.refl _) .nil))) hf ?_
  simp only [go_sem]
  refine PC.use hbk ?_
  simp only [go_sem]
  refine ⟨fun _ => by omega, ?_⟩
  exact cB (a := true) rfl
def few28 (cols : List Column) (rates : List ByteArray) : Bool :=
  !(decide ((cols.length : Int) > 40) || decide ((rates.length : Int) > 60)) && !rates.any (fun s => decide ((s.size : Int) > 12)) && !cols.any fun c => decide (c.set < 0)
theorem few28_c (cols : List Column) (rates : List ByteArray) (hl : cols.length ≤ 1048576) (hr : rates.length ≤ 1048576) : PC Tryz.prog 13 [.sl (cols.map encColumn), .sl (rates.map Go.Aw.D.encStr)] (boo (few28 cols rates)) := by
  refine PC.body (c := Tryz.f13.body.getD .skip) (fun _ => false) mixed Tryz.func13 rfl (by kernel_rfl) ?_
  unfold Tryz.f13
  simp only [Option.getD_some]
  simp only [go_sem]
  refine acond_i (fun hb => ?_) (fun hb => ?_)
  · simp only [go_sem]
    refine cB ?_
    unfold few28
    rw [hb]; rfl
  unfold few28
  rw [hb]
  simp only [go_sem]
  refine ⟨fun ρ H => ∃ (k : Nat), k ≤ rates.length ∧ ρ 0 = .sl (cols.map encColumn) ∧ ρ 1 = .sl (rates.map Go.Aw.D.encStr) ∧ ρ 5 = int k ∧ ∀ s ∈ rates.take k, decide ((s.size : Int) > 12) = false, fun ρ _ => rates.length - natOf (ρ 5), ⟨0, Nat.zero_le _, by simp only [go_sem], by simp only [go_sem], (by simp only [go_sem]; rfl), by simp⟩, ?_⟩
  rintro ρ H ⟨k, hk, e0, e1, e5, hz⟩
  simp only [go_sem, e0, e1, e5]
  refine acond_i (fun hlt => ?_) (fun hge => ?_)
  · have hlt := ltB hlt
    obtain ⟨s, hs⟩ := getIn hlt
    have b1 := inB hlt
    simp only [go_sem, e0, e1, e5, getD_map hs, b1]
    refine acond_i (fun hd => ?_) (fun hd => ?_)
    · simp only [go_sem]
      refine cB ?_
      rw [any_yes hs hd]; rfl
    · simp only [go_sem, e0, e1, e5, wrapS (show k ≤ 4611686018427387904 by omega)]
      exact ⟨⟨k + 1, hlt, rfl, take_all' (p := fun s : ByteArray => decide ((s.size : Int) > 12) = false) hs hd hz⟩, by simp only [natOf_int]; omega⟩
  have hge := geB hk hge
  subst hge
  rw [List.take_length] at hz
  rw [any_none hz]
  simp only [go_sem, e0, e1, e5]
  refine ⟨fun ρ H => ∃ (k : Nat), k ≤ cols.length ∧ ρ 0 = .sl (cols.map encColumn) ∧ ρ 6 = int k ∧ ∀ c ∈ cols.take k, decide (c.set < 0) = false, fun ρ _ => cols.length - natOf (ρ 6), ⟨0, Nat.zero_le _, by simp only [go_sem, e0, e1, e5], (by simp only [go_sem, e0, e1, e5]; rfl), by simp⟩, ?_⟩
  rintro ρ H ⟨k, hk, e0, e6, hy⟩
  simp only [go_sem, e0, e6]
  refine acond_i (fun hlt => ?_) (fun hge => ?_)
  · have hlt := ltB hlt
    obtain ⟨c, hc⟩ := getIn hlt
    have b1 := inB hlt
    simp only [go_sem, e0, e6, getD_map hc, b1]
    refine acond_i (fun hd => ?_) (fun hd => ?_)
    · simp only [go_sem]
      refine cB ?_
      rw [any_yes hc hd]; rfl
    · simp only [go_sem, e0, e6, wrapS (show k ≤ 4611686018427387904 by omega)]
      exact ⟨⟨k + 1, hlt, rfl, take_all' (p := fun c : Column => decide (c.set < 0) = false) hc hd hy⟩, by simp only [natOf_int]; omega⟩
  · have hge := geB hk hge
    subst hge
    rw [List.take_length] at hy
    simp only [go_sem, e0, e6]
    refine cB ?_
    rw [any_none hy]; rfl
theorem few_cols {cols : List Column} {rates : List ByteArray} (h : few28 cols rates = true) (hs : ∀ c ∈ cols, c.set ≤ 9223372036854775807) : ColsOk cols rates ∧ cols.length ≤ 40 ∧ rates.length ≤ 60 ∧ ∀ s ∈ rates, s.size ≤ 12 := by
  unfold few28 at h
  simp only [Bool.and_eq_true, Bool.not_eq_true', Bool.or_eq_false_iff, decide_eq_false_iff_not, List.any_eq_false, decide_eq_true_eq] at h
  obtain ⟨⟨⟨h1, h2⟩, h3⟩, h4⟩ := h
  have h5 : ∀ s ∈ rates, s.size ≤ 12 := fun s hs => by have := h3 s hs; omega
  exact ⟨⟨fun c hc => ⟨by have := h4 c hc; omega, hs c hc⟩, by omega, by omega, fun s hs => by have := h5 s hs; omega⟩, by omega, by omega, h5⟩
end Go.Proofs.YtbcfajfngdmgnaaGreatDoor.Nu
end

section
set_option linter.unusedSimpArgs false
set_option linter.unusedVariables false
namespace Go.Proofs.YtbcfajfngdmgnaaGreatDoor.Nu
open Go.Aw Go.Aw.D Go.Proofs Ty Go.Nu Go.So Go.Sb
set_option maxRecDepth 100000
theorem capR_of {l : List Int} {d : Int} (h : capR l d = true) : 1 ≤ (l.length : Int) ∧ (l.length : Int) ≤ 3 ∧ (l.length : Int) = d ∧ ∀ n ∈ l, 0 ≤ n ∧ n ≤ 1000 := by
  unfold capR at h
  split at h
  · cases h
  · next h1 =>
    simp only [Bool.or_eq_true, not_or, Bool.not_eq_true, Bool.not_eq_false', bne_eq_false_iff_eq] at h1
    have e := inR_iff.1 h1.1
    exact ⟨e.1, e.2, h1.2, fun n hn => inR_iff.1 (List.all_eq_true.1 h n hn)⟩
theorem rightL_of {l : List Int} {d : Int} (h : rightL l d = true) : (l.length : Int) = d ∧ ∀ n ∈ l, 0 ≤ n ∧ n ≤ 1000 := by
  unfold rightL at h
  split at h
  · next h1 =>
    refine ⟨h1, fun n hn => ?_⟩
    have := List.all_eq_true.1 h n hn
    simp at this
    omega
  · cases h
theorem loadsOk_of {x : Instance} (h : Acc x) : LoadsOk x (dimsR x.types).toNat ∧ x.types ≠ [] := by
  have hne : x.types ≠ [] := by
    intro h0
    have := h.types
    rw [h0] at this
    simp at this
  obtain ⟨t, r, ht⟩ := List.exists_cons_of_ne_nil hne
  have hd : dimsR x.types = t.cap.length := by rw [ht]; rfl
  have ht1 := capR_of (h.type t (by rw [ht]; exact List.mem_cons_self)).cap
  have e : ((dimsR x.types).toNat : Int) = dimsR x.types := by omega
  refine ⟨⟨by omega, by have := h.orders; omega, by have := h.types; omega, fun o ho => ?_, fun t ht => ?_⟩, hne⟩
  · have := rightL_of (h.order o ho).load
    exact ⟨by omega, this.2⟩
  · have := capR_of (h.type t ht).cap
    exact ⟨by omega, this.2.2.2⟩
end Go.Proofs.YtbcfajfngdmgnaaGreatDoor.Nu
end

section
set_option linter.unusedSimpArgs false
set_option linter.unusedVariables false
namespace Go.Proofs.YtbcfajfngdmgnaaGreatDoor.Nu
open Go.Aw Go.Aw.D Go.Proofs Ty Go.Nu Go.So Go.Sb
set_option maxRecDepth 100000
def offL (l : List Order) (ms : List Int) : Bool := ms.any fun i => (orderAt l i).off
def thrB (x : Instance) (s : Nat) : Bool := ((memS (s : Int)).length : Int) == 3 && !offL x.orders (memS (s : Int))
def candS (x : Instance) (d : Nat) (s : Nat) : List Cut := (if thrB x s = true then [threeC s] else []) ++ (coverC x d s).toList
def candL (x : Instance) (d : Nat) : Nat → List Cut
  | 0 => []
  | k + 1 => candL x d k ++ candS x d (k + 1)
def candP (x : Instance) (d : Nat) : List Cut := candL x d (2 ^ x.orders.length - 1)
theorem candS_len (x : Instance) (d s : Nat) : (candS x d s).length ≤ 2 := by
  unfold candS
  rw [List.length_append]
  have : ((coverC x d s).toList).length ≤ 1 := by cases coverC x d s <;> simp
  split <;> simp only [List.length_cons, List.length_nil] <;> omega
theorem candL_len (x : Instance) (d : Nat) : ∀ k, (candL x d k).length ≤ 2 * k
  | 0 => by simp [candL]
  | k + 1 => by
    have := candL_len x d k
    have := candS_len x d (k + 1)
    rw [candL, List.length_append]
    omega
theorem candidates_c (x : Instance) (d : Nat) (h : LoadsOk x d) (ht : x.types ≠ []) (hx : x.orders.length ≤ 10) : PC Tryz.prog 76 [.agg (encInstance x)] (.sl ((candP x d).map encCut)) := by
  have hpow : 2 ^ x.orders.length ≤ 2 ^ 10 := Nat.pow_le_pow_right (by decide) hx
  have hp0 : 0 < 2 ^ x.orders.length := Nat.pow_pos (by decide)
  unfold candP
  refine PC.body (c := Tryz.f76.body.getD .skip) (fun t => t == 3) mixed Tryz.func76 rfl (by kernel_rfl) ?_
  unfold Tryz.f76
  simp only [Option.getD_some]
  simp only [go_sem]
  refine anew_i fun j hj => ?_
  simp only [go_sem]
  refine ⟨fun ρ H => ∃ (k : Nat), k ≤ x.orders.length ∧ ρ 1 = .rp (encInstance x) 0 ∧ ρ 5 = int k ∧ ρ 3 = .os j ∧ H j = some (cutRow []) ∧ ρ 4 = int (2 ^ k : Nat), fun ρ _ => x.orders.length - natOf (ρ 5), ⟨0, Nat.zero_le _, by simp only [go_sem], (by simp only [go_sem]; rfl), by simp only [go_sem], updH_same _ _ _, by simp only [go_sem]; rfl⟩, ?_⟩
  rintro ρ H ⟨k, hk, e1, e5, e3, R, e4⟩
  simp only [go_sem, e1, e5, e3, e4]
  refine acond_i (fun hlt => ?_) (fun hge => ?_)
  · have hlt := ltB (by simpa using hlt)
    have hk2 : 2 ^ k ≤ 2 ^ 10 := Nat.pow_le_pow_right (by decide) (by omega)
    have hk3 : 2 * (2 ^ k) = 2 ^ (k + 1) := by rw [Nat.pow_succ]; omega
    have hw : IntKind.i64.wrap (2 * ((2 ^ k : Nat) : Int)) = ((2 ^ (k + 1) : Nat) : Int) := by rw [wrap_in (by omega)]; omega
    simp only [go_sem, e1, e5, e3, e4, wrapS (show k ≤ 4611686018427387904 by omega), hw]
    exact ⟨⟨k + 1, hlt, rfl, R, rfl⟩, by simp only [natOf_int]; omega⟩
  have hge := geB hk (by simpa using hge)
  subst hge
  simp only [go_sem, e1, e5, e3, e4]
  generalize hP : 2 ^ x.orders.length = P at *
  refine ⟨fun ρ H => ∃ m j, m + 1 ≤ P ∧ ρ 1 = .rp (encInstance x) 0 ∧ ρ 3 = .os j ∧ ρ 4 = int (P : Nat) ∧ ρ 6 = int ((m + 1 : Nat) : Int) ∧ H j = some (cutRow (candL x d m)), fun ρ _ => P - natOf (ρ 6), ⟨0, j, by omega, by simp only [go_sem, e1], by simp only [go_sem, e3], by simp only [go_sem, e4], by simp only [go_sem]; rfl, R⟩, ?_⟩
  clear e1 e5 e3 e4 R hj hge
  clear j
  rintro ρ H ⟨m, j, hm, e1, e3, e4, e6, R⟩
  have hcl := candL_len x d m
  simp only [go_sem, e1, e3, e4, e6]
  refine acond_i (fun hlt => ?_) (fun hge => ?_)
  · have hlt : m + 1 < P := by simp at hlt; omega
    have hS : candL x d (m + 1) = candL x d m ++ candS x d (m + 1) := rfl
    generalize hs : m + 1 = s at *
    have hsn : s < 2 ^ x.orders.length := by omega
    have hin := memS_in (s := s) hsn (by omega)
    have hml := memU_len (s : Int) 63
    change (memS (s : Int)).length ≤ 63 at hml
    simp only [go_sem, e1, e3, e4, e6]
    refine PC.use (members5_c s (by omega)) ?_
    simp only [go_sem, e1, e3, e4, e6]
    unfold candS thrB at hS
    generalize hM : memS (s : Int) = M at *
    refine ⟨fun ρ H => ∃ (k : Nat), k ≤ M.length ∧ ρ 1 = .rp (encInstance x) 0 ∧ ρ 4 = int (P : Nat) ∧ ρ 6 = int (s : Nat) ∧ ρ 7 = .sl (M.map encInt) ∧ ρ 9 = int k ∧ ρ 3 = .os j ∧ H j = some (cutRow (candL x d m)) ∧ ρ 8 = boo (offL x.orders (M.take k)), fun ρ _ => M.length - natOf (ρ 9), ⟨0, Nat.zero_le _, by simp only [go_sem, e1, e3, e4, e6], by simp only [go_sem, e1, e3, e4, e6], by simp only [go_sem, e1, e3, e4, e6], by simp only [go_sem, e1, e3, e4, e6], (by simp only [go_sem, e1, e3, e4, e6]; rfl), by simp only [go_sem, e1, e3, e4, e6], R, by simp only [go_sem]; rfl⟩, ?_⟩
    rintro ρ H ⟨k, hk, e1, e4, e6, e7, e9, e3, R, e8⟩
    simp only [go_sem, e1, e4, e6, e7, e9, e3, e8]
    refine acond_i (fun hlt => ?_) (fun hge => ?_)
    · have hlt := ltB (by simpa using hlt)
      obtain ⟨i, hi⟩ := getIn hlt
      have b1 := inB hlt
      have him := hin i (List.mem_of_getElem? hi)
      obtain ⟨n, rfl⟩ := Int.eq_ofNat_of_zero_le him.1
      obtain ⟨o, ho⟩ := getIn (show n < x.orders.length by omega)
      have b2 := inB (show n < x.orders.length by omega)
      simp only [go_sem, e1, e4, e6, e7, e9, e3, e8, getD_map hi, b1]
      refine adraw_q (by rfl) (by kernel_rfl) ?_
      simp only [go_sem, e1, e4, e6, e7, e9, e3, e8, getD_map hi, b1, getD_map ho, b2, wrapS (show k ≤ 4611686018427387904 by omega)]
      refine ⟨⟨k + 1, hlt, rfl, R, ?_⟩, by simp only [natOf_int]; omega⟩
      unfold offL
      rw [take_succ hi, List.any_append, List.any_cons, List.any_nil, orderAt_get ho, Bool.or_false]
    have hge := geB hk (by simpa using hge)
    subst hge
    rw [List.take_length] at e8
    simp only [go_sem, e1, e4, e6, e7, e9, e3, e8]
    clear hin hml
    generalize hA : (if ((M.length : Int) == 3 && !offL x.orders M) = true then [threeC s] else []) = A at hS
    have hAl : A.length ≤ 1 := by rw [← hA]; split <;> simp
    refine acond_join (fun ρ' H' => ρ' 1 = .rp (encInstance x) 0 ∧ ρ' 4 = int (P : Nat) ∧ ρ' 6 = int (s : Nat) ∧ ∃ j', ρ' 3 = .os j' ∧ H' j' = some (cutRow (candL x d m ++ A))) ?_ fun K hK => acond_i (fun hb => ?_) (fun hb => ?_)
    rotate_left
    · simp only [go_sem, e1, e3, e4, e6]
      refine wappE_i R ⟨rfl, rfl⟩ ⟨rfl, trivial⟩ (by simp only [List.length_map, List.length_cons, List.length_nil]; omega) (fun j' hj' => ?_)
      simp only [go_sem]
      refine hK _ _ ⟨by simp only [go_sem, e1, e3, e4, e6], by simp only [go_sem, e1, e3, e4, e6], by simp only [go_sem, e1, e3, e4, e6], j', by simp only [go_sem], ?_⟩
      rw [← hA, if_pos hb]
      exact row_appG rfl
    · simp only [go_sem]
      refine hK _ _ ⟨by simp only [go_sem, e1, e3, e4, e6], by simp only [go_sem, e1, e3, e4, e6], by simp only [go_sem, e1, e3, e4, e6], j, by simp only [go_sem, e1, e3, e4, e6], ?_⟩
      rw [← hA, if_neg (by rw [hb]; simp), List.append_nil]
      exact R
    clear e1 e4 e6 e3 e8 R
    rintro ρ H ⟨e1, e4, e6, j, e3, R⟩
    simp only [go_sem, e1, e3, e4, e6]
    refine PC.use (trips28_c x d s h ht (by omega)) ?_
    simp only [go_sem, e1, e3, e4, e6]
    refine acond_i (fun hb => ?_) (fun hb => ?_)
    · have hc : coverC x d s = some ⟨2, s, tripsP x d s⟩ := if_pos (by simpa using hb)
      simp only [go_sem, e1, e3, e4, e6]
      refine wappE_i R ⟨rfl, rfl⟩ ⟨rfl, trivial⟩ (by simp only [List.length_map, List.length_append, List.length_cons, List.length_nil]; omega) (fun j' hj' => ?_)
      simp only [go_sem, e1, e3, e4, e6, wrapS (show s ≤ 4611686018427387904 by omega)]
      refine ⟨⟨s, j', by omega, rfl, rfl, ?_⟩, by simp only [natOf_int]; omega⟩
      rw [hS, hc, ← List.append_assoc]
      exact row_appG rfl
    · have hc : coverC x d s = none := if_neg (by simpa using hb)
      simp only [go_sem, e1, e3, e4, e6, wrapS (show s ≤ 4611686018427387904 by omega)]
      refine ⟨⟨s, j, by omega, rfl, rfl, ?_⟩, by simp only [natOf_int]; omega⟩
      rw [hS, hc]
      simpa using R
  · have hge : m + 1 = P := by simp at hge; omega
    have : P - 1 = m := by omega
    simp only [go_sem, e1, e3, e4, e6]
    rw [this]
    exact .row _ _ _ R (ConvE.refl _)
end Go.Proofs.YtbcfajfngdmgnaaGreatDoor.Nu
end

section
set_option linter.unusedSimpArgs false
set_option linter.unusedVariables false
namespace Go.Proofs.YtbcfajfngdmgnaaGreatDoor.Nu
open Go.Aw Go.Aw.D Go.Proofs Ty Go.Nu Go.So Go.Sb
set_option maxRecDepth 100000
theorem cover_set {x : Instance} {d s : Nat} {c : Cut} (h : coverC x d s = some c) : c.set = (s : Int) ∧ c.kind = 2 := by
  unfold coverC at h
  split at h
  · cases h; exact ⟨rfl, rfl⟩
  · cases h
theorem candS_mem {x : Instance} {d s : Nat} {c : Cut} : c ∈ candS x d s ↔ (thrB x s = true ∧ c = threeC s) ∨ coverC x d s = some c := by
  unfold candS
  rw [List.mem_append, Option.mem_toList]
  refine or_congr ?_ Iff.rfl
  split
  · next h => simp [h]
  · next h => simp [h]
theorem candS_set {x : Instance} {d s : Nat} {c : Cut} (h : c ∈ candS x d s) : c.set = (s : Int) := by
  rcases candS_mem.1 h with ⟨_, rfl⟩ | h
  · rfl
  · exact (cover_set h).1
theorem candL_mem {x : Instance} {d : Nat} {c : Cut} : ∀ {k : Nat}, c ∈ candL x d k ↔ ∃ s, 1 ≤ s ∧ s ≤ k ∧ c ∈ candS x d s
  | 0 => by simp [candL]; intro s h1 h2; omega
  | k + 1 => by
    rw [candL, List.mem_append, candL_mem]
    constructor
    · rintro (⟨s, h1, h2, h3⟩ | h)
      · exact ⟨s, h1, by omega, h3⟩
      · exact ⟨k + 1, by omega, Nat.le_refl _, h⟩
    · rintro ⟨s, h1, h2, h3⟩
      rcases Nat.lt_or_ge k s with h | h
      · have : s = k + 1 := by omega
        subst this; exact .inr h3
      · exact .inl ⟨s, h1, h, h3⟩
theorem candS_nodup (x : Instance) (d s : Nat) : (candS x d s).Nodup := by
  unfold candS
  refine List.nodup_append.2 ⟨by split <;> simp, by cases coverC x d s <;> simp, ?_⟩
  intro a ha b hb
  have hb := Option.mem_toList.1 hb
  split at ha
  · rw [List.mem_singleton.1 ha]
    intro e
    have := (cover_set hb).2
    rw [← e] at this
    simp [threeC] at this
  · cases ha
theorem candL_nodup (x : Instance) (d : Nat) : ∀ k, (candL x d k).Nodup
  | 0 => List.nodup_nil
  | k + 1 => by
    rw [candL]
    refine List.nodup_append.2 ⟨candL_nodup x d k, candS_nodup x d _, ?_⟩
    rintro a ha b hb rfl
    obtain ⟨s, _, h2, h3⟩ := candL_mem.1 ha
    have e1 := candS_set h3
    have e2 := candS_set hb
    omega
theorem pop_wide {k n : Nat} (h : n < 2 ^ k) : ∀ w, pop (k + w) n = pop k n
  | 0 => rfl
  | w + 1 => by
    rw [← Nat.add_assoc, pop_more (Nat.lt_of_lt_of_le h (Nat.pow_le_pow_right (by decide) (Nat.le_add_right k w))), pop_wide h w]
theorem subsL_mem {m s : Nat} (hm : m < 2 ^ 63) : s ∈ subsL m ↔ s &&& m = s := by
  have hm' : m < 2 ^ 64 := by omega
  unfold subsL
  rw [List.mem_map]
  constructor
  · rintro ⟨i, _, rfl⟩; exact dep_and 64 m i
  · intro h
    obtain ⟨i, hi, rfl⟩ := dep_all 64 m s hm' h
    exact ⟨i, List.mem_range.2 hi, rfl⟩
theorem threeL_mem {m s : Nat} (hm : m < 2 ^ 10) : s ∈ threeL m ↔ s &&& m = s ∧ pop 64 s = 3 := by
  have hm' : m < 2 ^ 64 := by omega
  have hp : pop 64 m ≤ 10 := pop_bound hm 64
  have h10 : 2 ^ pop 64 m ≤ 2 ^ 10 := Nat.pow_le_pow_right (by decide) hp
  have hw : ∀ i, i < 2 ^ pop 64 m → pop 64 i = pop 10 i := fun i hi => pop_wide (k := 10) (by omega) 54
  unfold threeL
  rw [List.mem_map]
  constructor
  · rintro ⟨i, hi, rfl⟩
    obtain ⟨h1, h2⟩ := List.mem_filter.1 hi
    have h1 := List.mem_range.1 h1
    refine ⟨dep_and 64 m i, ?_⟩
    rw [pop_dep 64 m i h1, hw i h1]
    simpa using h2
  · rintro ⟨h, h3⟩
    obtain ⟨i, hi, rfl⟩ := dep_all 64 m s hm' h
    refine ⟨i, List.mem_filter.2 ⟨List.mem_range.2 hi, ?_⟩, rfl⟩
    rw [pop_dep 64 m i hi, hw i hi] at h3
    simpa using h3
theorem map_nodup {α β : Type} {f : α → β} {l : List α} (h : l.Nodup) (hf : ∀ a ∈ l, ∀ b ∈ l, f a = f b → a = b) : (l.map f).Nodup := by
  rw [List.Nodup, List.pairwise_map]
  exact h.imp_of_mem fun ha hb hne e => hne (hf _ ha _ hb e)
theorem subsL_nodup (m : Nat) : (subsL m).Nodup := map_nodup List.nodup_range fun a ha b hb => dep_inj (List.mem_range.1 ha) (List.mem_range.1 hb)
theorem threeL_nodup (m : Nat) : (threeL m).Nodup := map_nodup (List.nodup_range.filter _) fun a ha b hb => dep_inj (List.mem_range.1 (List.mem_filter.1 ha).1) (List.mem_range.1 (List.mem_filter.1 hb).1)
theorem possP_nodup (x : Instance) (d : Nat) : (possP x d).Nodup := by
  unfold possP
  refine List.nodup_append.2 ⟨map_nodup (threeL_nodup _) fun a _ b _ h => ?_, ?_, ?_⟩
  · have := congrArg Cut.set h
    simp only [threeC] at this
    omega
  · rw [List.Nodup, List.pairwise_filterMap]
    refine (subsL_nodup (mustO x)).imp fun hne c hc c' hc' e => hne ?_
    have e1 := (cover_set hc).1
    have e2 := (cover_set hc').1
    rw [e] at e1
    omega
  · rintro a ha b hb rfl
    obtain ⟨s, _, rfl⟩ := List.mem_map.1 ha
    obtain ⟨t, _, ht⟩ := List.mem_filterMap.1 hb
    have := (cover_set ht).2
    simp [threeC] at this
theorem sub_bits {a b : Nat} : a &&& b = a ↔ ∀ j, a.testBit j = true → b.testBit j = true := by
  constructor
  · intro h j hj
    rw [← h, Nat.testBit_and, Bool.and_eq_true] at hj
    exact hj.2
  · intro h
    apply Nat.eq_of_testBit_eq
    intro j
    rw [Nat.testBit_and]
    cases hj : a.testBit j with
    | false => rfl
    | true => rw [h j hj]; rfl
theorem off_same {x : Instance} {s : Nat} (hx : x.orders.length ≤ 10) (hs : s < 2 ^ x.orders.length) : offL x.orders (memS (s : Int)) = false ↔ s &&& allO x = s := by
  have hp : 2 ^ x.orders.length ≤ 2 ^ 10 := Nat.pow_le_pow_right (by decide) hx
  have hin : ∀ j, s.testBit j = true → j < x.orders.length := fun j hj => by
    rcases Nat.lt_or_ge j x.orders.length with h1 | h1
    · exact h1
    · rw [Nat.testBit_lt_two_pow (Nat.lt_of_lt_of_le hs (Nat.pow_le_pow_right (by decide) h1))] at hj; cases hj
  rw [sub_bits]
  unfold offL allO suchN
  rw [List.any_eq_false]
  constructor
  · intro h j hj
    have hlt := hin j hj
    obtain ⟨o, ho⟩ := getIn hlt
    have := h (j : Int) (memS_iff.2 ⟨j, by omega, hj, rfl⟩)
    rw [orderAt_get ho] at this
    rw [bitsN_test, suchB_at ho, decide_eq_true hlt]
    simpa using this
  · intro h i hi
    obtain ⟨j, _, hj, rfl⟩ := memS_iff.1 hi
    have hlt := hin j hj
    obtain ⟨o, ho⟩ := getIn hlt
    have := h j hj
    rw [bitsN_test, suchB_at ho, decide_eq_true hlt] at this
    rw [orderAt_get ho]
    simpa using this
theorem cover_in {x : Instance} {d s : Nat} {c : Cut} (h : coverC x d s = some c) : 1 ≤ s ∧ s < 2 ^ x.orders.length ∧ s &&& mustO x = s := by
  unfold coverC at h
  split at h
  · next h1 =>
    unfold tripsP at h1
    split at h1
    · cases h1
    · next h2 =>
      unfold stays at h2
      simp only [Bool.or_eq_true, not_or, Bool.not_eq_true, Bool.not_eq_false', decide_eq_false_iff_not, decide_eq_true_eq, Bool.not_eq_true'] at h2
      obtain ⟨⟨h3, h4⟩, h5⟩ := h2
      rw [exist_nat] at h4
      rw [Int.toNat_natCast] at h5
      exact ⟨by omega, by simpa using h4, by simpa using h5⟩
  · cases h
theorem and_lt {a b n : Nat} (h : a &&& b = a) (hb : b < 2 ^ n) : a < 2 ^ n := by rw [← h]; exact Nat.and_lt_two_pow a hb
theorem cand_perm (x : Instance) (d : Nat) (hx : x.orders.length ≤ 10) : (candP x d).Perm (possP x d) := by
  have hp : 2 ^ x.orders.length ≤ 2 ^ 10 := Nat.pow_le_pow_right (by decide) hx
  have ha := allO_lt x
  have hm := mustO_lt x
  refine (List.perm_ext_iff_of_nodup (candL_nodup x d _) (possP_nodup x d)).2 fun c => ?_
  show c ∈ candL x d (2 ^ x.orders.length - 1) ↔ _
  rw [candL_mem]
  unfold possP
  rw [List.mem_append, List.mem_map, List.mem_filterMap]
  have hthr : ∀ s, s < 2 ^ x.orders.length → (thrB x s = true ↔ s ∈ threeL (allO x)) := by
    intro s hs
    rw [threeL_mem (by omega)]
    unfold thrB
    rw [Bool.and_eq_true, beq_iff_eq, memS_pop (by omega), Bool.not_eq_true', off_same hx hs]
    constructor
    · rintro ⟨h1, h2⟩; exact ⟨h2, by omega⟩
    · rintro ⟨h1, h2⟩; exact ⟨by omega, h1⟩
  constructor
  · rintro ⟨s, h1, h2, h3⟩
    have hs : s < 2 ^ x.orders.length := by omega
    rcases candS_mem.1 h3 with ⟨h4, rfl⟩ | h4
    · exact .inl ⟨s, (hthr s hs).1 h4, rfl⟩
    · exact .inr ⟨s, (subsL_mem (by omega)).2 (cover_in h4).2.2, h4⟩
  · rintro (⟨s, h1, rfl⟩ | ⟨s, h1, h2⟩)
    · have h3 := (threeL_mem (by omega)).1 h1
      have hs := and_lt h3.1 ha
      refine ⟨s, ?_, by omega, candS_mem.2 (.inl ⟨(hthr s hs).2 h1, rfl⟩)⟩
      rcases Nat.eq_zero_or_pos s with rfl | h0
      · have h3 := h3.2
        have : pop 64 0 = 0 := by decide
        omega
      · exact h0
    · obtain ⟨h3, h4, _⟩ := cover_in h2
      exact ⟨s, h3, by omega, candS_mem.2 (.inr h2)⟩
end Go.Proofs.YtbcfajfngdmgnaaGreatDoor.Nu
end

section
set_option linter.unusedSimpArgs false
set_option linter.unusedVariables false
namespace Go.Nu
open Go Go.Lib
theorem add_bound (x y : Rat) : (x+y).den ≤ x.den*y.den ∧ (x+y).num.natAbs ≤ (x.num*y.den + y.num*x.den).natAbs := by
  rw [Rat.add_def, Rat.normalize_eq]
  refine ⟨Nat.div_le_self _ _, ?_⟩
  exact Int.natAbs_ediv_le_natAbs _ _
theorem mul_bound (x y : Rat) : (x*y).den ≤ x.den*y.den ∧ (x*y).num.natAbs ≤ (x.num*y.num).natAbs := by
  rw [Rat.mul_def, Rat.normalize_eq]
  refine ⟨Nat.div_le_self _ _, ?_⟩
  exact Int.natAbs_ediv_le_natAbs _ _
structure Bd (E k : Nat) (x : Rat) : Prop where
  den : x.den ≤ E ^ k
  num : x.num.natAbs ≤ k * E ^ k
theorem bd_sum {E k : Nat} {x y : Rat} (hx : Bd E k x) (hd : y.den ≤ E) (hn : y.num.natAbs ≤ E) :
    Bd E (k + 1) (x + y) ∧ (x.num * y.den).natAbs ≤ (k + 1) * E ^ (k + 1) ∧ (y.num * x.den).natAbs ≤ (k + 1) * E ^ (k + 1) ∧ (x.num * y.den + y.num * x.den).natAbs ≤ (k + 1) * E ^ (k + 1) ∧ x.den * y.den ≤ E ^ (k + 1) := by
  have h1 : x.num.natAbs * y.den ≤ (k * E ^ k) * E := Nat.mul_le_mul hx.num hd
  have h2 : y.num.natAbs * x.den ≤ E * E ^ k := Nat.mul_le_mul hn hx.den
  have h3 : x.den * y.den ≤ E ^ k * E := Nat.mul_le_mul hx.den hd
  have e1 : (x.num * y.den).natAbs = x.num.natAbs * y.den := by rw [Int.natAbs_mul, Int.natAbs_natCast]
  have e2 : (y.num * x.den).natAbs = y.num.natAbs * x.den := by rw [Int.natAbs_mul, Int.natAbs_natCast]
  have e3 : (k + 1) * E ^ (k + 1) = (k * E ^ k) * E + E * E ^ k := by rw [Nat.pow_succ, Nat.add_mul, Nat.one_mul, Nat.mul_assoc, Nat.mul_comm E]
  have e4 : (x.num * y.den + y.num * x.den).natAbs ≤ (x.num * y.den).natAbs + (y.num * x.den).natAbs := Int.natAbs_add_le _ _
  obtain ⟨b1, b2⟩ := add_bound x y
  refine ⟨⟨?_, ?_⟩, ?_, ?_, ?_, ?_⟩
  · rw [Nat.pow_succ]; omega
  · omega
  · omega
  · omega
  · omega
  · rw [Nat.pow_succ]; exact h3
theorem zed_dec_le (m : Int) : (dec m.natAbs).size ≤ (zed m).size := by
  rw [← digZ_zed]
  unfold digZ
  split
  · rw [← bl_size, bl_mk, List.length_drop, bl_size]; omega
  · exact Nat.le_refl _
theorem short_bound {s : ByteArray} {k : Nat} (hk : 1 ≤ k) (h : rightR s = true) (hs : s.size ≤ k) : (valR s).den ≤ 10 ^ k ∧ (valR s).num.natAbs ≤ 10 ^ k := by
  obtain ⟨x, rfl, _⟩ := right_parts h
  rw [valR_ratS]
  have h0 : 1 ≤ 10 ^ k := Nat.pow_pos (by decide)
  have hz := zed_dec_le x.num
  have key : ∀ n : Nat, (dec n).size ≤ k → n ≤ 10 ^ k := fun n hn => by
    rw [size_dec] at hn
    exact Nat.le_of_lt ((dec_len_le hk).1 hn)
  unfold ratS at hs
  split at hs
  · next h1 => exact ⟨by omega, key _ (by omega)⟩
  · rw [ByteArray.size_append, ByteArray.size_append] at hs
    exact ⟨key _ (by omega), key _ (by omega)⟩
theorem zed_rat (c : Int) : zed c = ratS (c : Rat) := by
  unfold ratS
  rw [if_pos (Rat.den_intCast c), Rat.num_intCast]
def E12 : Nat := 10 ^ 12
theorem small_lt {n : Nat} (h : n ≤ 41 * E12 ^ 41) : n < maxN := by
  refine lt_max (k := 500) (Nat.lt_of_le_of_lt h ?_) (by omega)
  decide +kernel
theorem kE_mono {k m : Nat} (h : k ≤ m) : k * E12 ^ k ≤ m * E12 ^ m := Nat.mul_le_mul h (Nat.pow_le_pow_right (by decide) h)
theorem E_le {k : Nat} (h : k ≤ 41) : E12 ^ k ≤ 41 * E12 ^ 41 := by
  have := Nat.pow_le_pow_right (n := E12) (by decide) h
  omega
theorem big_no {n : Int} (h : n.natAbs < maxN) : bigI n = false := by unfold bigI; simp [h]
theorem sum_ok {k : Nat} {x y : Rat} (hk : k ≤ 40) (hx : Bd E12 k x) (hd : y.den ≤ E12) (hn : y.num.natAbs ≤ E12) : sumR x y = (ratS (x + y), 0) ∧ Bd E12 (k + 1) (x + y) := by
  obtain ⟨h1, h2, h3, h4, h5⟩ := bd_sum hx hd hn
  have hm := kE_mono (show k + 1 ≤ 41 by omega)
  have hE := E_le (show k + 1 ≤ 41 by omega)
  refine ⟨?_, h1⟩
  unfold sumR
  rw [big_no (small_lt (Nat.le_trans h2 hm)), big_no (small_lt (Nat.le_trans h3 hm)), big_no (small_lt (Nat.le_trans h4 hm))]
  rw [big_no (n := (x.den : Int) * y.den) (small_lt (by rw [← Int.natCast_mul, Int.natAbs_natCast]; exact Nat.le_trans h5 hE))]
  rfl
theorem zed_right {c : Int} (h : c.natAbs < maxN) : rightR (zed c) = true := by
  rw [zed_rat]
  exact rightR_ratS ⟨by rw [Rat.num_intCast]; exact h, by rw [Rat.den_intCast]; exact lt_max (k := 1) (by decide) (by decide)⟩
theorem mul_ok {c : Int} {s : ByteArray} (hc : c = 0 ∨ c = 1) (hr : rightR s = true) (hs : s.size ≤ 12) : ∃ y : Rat, mulR (zed c) s = (ratS y, 0) ∧ y.den ≤ E12 ∧ y.num.natAbs ≤ E12 := by
  obtain ⟨h1, h2⟩ := short_bound (by decide) hr hs
  have hz : rightR (zed c) = true := zed_right (by rcases hc with rfl | rfl <;> exact lt_max (k := 1) (by decide) (by decide))
  have hc1 : c.natAbs ≤ 1 := by omega
  have hv : valR (zed c) = (c : Rat) := by rw [zed_rat, valR_ratS]
  have hmul : ((c : Rat).num * (valR s).num).natAbs ≤ E12 := by
    rw [Rat.num_intCast, Int.natAbs_mul]
    exact Nat.le_trans (Nat.mul_le_mul hc1 h2) (by rw [Nat.one_mul]; exact Nat.le_refl _)
  have hden : (c : Rat).den * (valR s).den ≤ E12 := by rw [Rat.den_intCast, Nat.one_mul]; exact h1
  obtain ⟨b1, b2⟩ := mul_bound (c : Rat) (valR s)
  have hE : E12 ≤ 41 * E12 ^ 41 := by have := E_le (show 1 ≤ 41 by omega); rwa [Nat.pow_one] at this
  refine ⟨(c : Rat) * valR s, ?_, by omega, by omega⟩
  unfold mulR
  rw [hz, hr, hv]
  unfold prodR
  rw [if_pos (show (true && true) = true from rfl), big_no (small_lt (Nat.le_trans hmul hE)), big_no (n := ((c : Rat).den : Int) * (valR s).den) (small_lt (by rw [← Int.natCast_mul, Int.natAbs_natCast]; exact Nat.le_trans hden hE))]
  rfl
theorem bd_small {k : Nat} {x : Rat} (hk : k ≤ 41) (h : Bd E12 k x) : SmallR x := ⟨small_lt (Nat.le_trans h.num (kE_mono hk)), small_lt (Nat.le_trans h.den (E_le hk))⟩
theorem timesF_ok : ∀ (l : List (Int × ByteArray)) (k : Nat) (x : Rat), k + l.length ≤ 40 → Bd E12 k x → (∀ p ∈ l, (p.1 = 0 ∨ p.1 = 1) ∧ rightR p.2 = true ∧ p.2.size ≤ 12) → ∃ z : Rat, timesF l (ratS x) = (ratS z, 0) ∧ Bd E12 (k + l.length) z
  | [], k, x, _, hx, _ => ⟨x, rfl, by simpa using hx⟩
  | p :: l, k, x, hk, hx, hl => by
    rw [List.length_cons] at hk
    obtain ⟨h1, h2, h3⟩ := hl p (List.mem_cons_self ..)
    obtain ⟨y, ey, d1, d2⟩ := mul_ok h1 h2 h3
    obtain ⟨es, hb⟩ := sum_ok (show k ≤ 40 by omega) hx d1 d2
    have hy : rightR (ratS y) = true := by
      have h4 : (mulR (zed p.1) p.2).2 = 0 := congrArg Prod.snd ey
      have h5 := mulR_small h4
      have h6 : (mulR (zed p.1) p.2).1 = ratS y := congrArg Prod.fst ey
      rwa [h6] at h5
    have hxr : rightR (ratS x) = true := rightR_ratS (bd_small (by omega) hx)
    have ea : addR (ratS x) (ratS y) = (ratS (x + y), 0) := by
      unfold addR
      rw [hxr, hy, if_pos (show (true && true) = true from rfl), valR_ratS, valR_ratS]
      exact es
    obtain ⟨z, ez, hz⟩ := timesF_ok l (k + 1) (x + y) (by omega) hb fun q hq => hl q (List.mem_cons_of_mem _ hq)
    refine ⟨z, ?_, ?_⟩
    · rw [timesF, ey]
      simp only [ne_eq, not_true_eq_false, if_false, ea]
      exact ez
    · rw [List.length_cons, show k + (l.length + 1) = k + 1 + l.length by omega]; exact hz
end Go.Nu
end
