/- Texts joined by a program: CuL, Read, Bridge, CuR. -/
import Derived.Test.YtbcfajfngdmgnaaGreatDoorRows
import Derived.Carry
import Derived.OpenShut
import Derived.JoinedCond
import Derived.WalkKit
import Derived.ProofKit
import Derived.WideKeyArgs
import Derived.Lib.LaidIn
import Derived.MakeChecks
import Derived.Stop.LaidErr
import Derived.Test.YtbcfajfngdmgnaaGreatDoorZc14
import Derived.Test.YtbcfajfngdmgnaaGreatDoorZc29

section
set_option linter.unusedSimpArgs false
set_option linter.unusedVariables false
namespace Go.Proofs.YtbcfajfngdmgnaaGreatDoor.Nu
open Go.Aw Go.Aw.D Go.Proofs Ty Go.Nu Go.So Go.Sb
set_option maxRecDepth 100000
abbrev hlf : ByteArray := ⟨#[49, 47, 50]⟩
def exCol (s : Int) : Column := ⟨0, s, 0, ⟨0, 0, [], []⟩⟩
theorem ex_broken : brokenP ⟨1, 7, 1⟩ [exCol 3, exCol 6, exCol 5] [hlf, hlf, hlf] = (hlf, 0) := by decide +kernel
def exType : VType := ⟨⟨#[118]⟩, 1, 0, 0, [5], 0, 0, 0, 9, 9, 0, 0, 0, 0⟩
def exOrder (s : ByteArray) : Order := ⟨s, [1], ⟨-1, 0, 0, 0⟩, ⟨0, 0, 9, 0⟩, 0, 0, 1, -1, -1, false⟩
def exNames : List ByteArray := [⟨#[111]⟩, ⟨#[112]⟩, ⟨#[113]⟩]
def exInst : Instance := ⟨⟨[⟨#[97]⟩], []⟩, [exType], exNames.map exOrder, [], []⟩
theorem ex_find : findP exInst 1 [exCol 3, exCol 6, exCol 5] [hlf, hlf, hlf] = ([⟨1, 7, 1⟩], 0) := by decide +kernel
theorem ex_loads : LoadsOk exInst 1 where
  dims := by decide
  orders := by decide
  types := by decide
  load := by
    intro o ho
    simp [exInst, exNames, exOrder] at ho
    rcases ho with rfl | rfl | rfl <;> simp
  cap := by
    intro t ht
    simp [exInst, exType] at ht
    subst ht
    simp
abbrev insRow (o r t : Nat) : Row := ⟨42, 6, [[.sl [[str ⟨#[97]⟩]], .sl [], .sl [encVType exType], .os o, .os r, .os t]]⟩
abbrev ordRow (l : List Order) : Row := ⟨96, 16, l.map encOrder⟩
abbrev noPairs : Row := ⟨247, 2, []⟩
theorem awake28_c : PC Tryz.prog 14 [] (boo true) := by
  refine PC.body (c := Tryz.f14.body.getD .skip) (fun t => t == 14) mixed Tryz.func14 rfl (by kernel_rfl) ?_
  unfold Tryz.f14
  simp only [Option.getD_some]
  simp only [go_sem]
  refine anew_i fun a _ => ?_
  generalize updH noRows a _ = Ha
  refine anew_i fun b _ => ?_
  generalize updH Ha b _ = Hb
  refine anew_i fun c _ => ?_
  generalize updH Hb c _ = Hc
  refine anew_i fun o ho => ?_
  have Ro : updH Hc o (some (⟨96, 16, []⟩ : Row)) o = some (ordRow []) := updH_same _ _ _
  generalize updH Hc o _ = H1 at Ro ⊢
  refine anew_i fun r hr => ?_
  have nor : o ≠ r := ne_new Ro hr
  have Ro := keep_new (r' := noPairs) Ro hr
  have Rr := updH_same H1 r (some noPairs)
  generalize updH H1 r _ = H2 at Ro Rr ⊢
  refine anew_i fun t ht => ?_
  have nto : o ≠ t := ne_new Ro ht
  have nrt : r ≠ t := ne_new Rr ht
  have Ro := keep_new (r' := noPairs) Ro ht
  have Rr := keep_new (r' := noPairs) Rr ht
  have Rt := updH_same H2 t (some noPairs)
  generalize updH H2 t _ = H3 at Ro Rr Rt ⊢
  refine anew_i fun i hi => ?_
  have noi : o ≠ i := ne_new Ro hi
  have nri : r ≠ i := ne_new Rr hi
  have nti : t ≠ i := ne_new Rt hi
  simp only [go_sem]
  refine wputE_n (updH_same _ _ _) (by simp) ?_
  generalize hG : updH (updH H3 i _) i _ = H4
  have Ro4 : H4 o = some (ordRow []) := by rw [← hG, updH_ne _ _ _ _ noi, updH_ne _ _ _ _ noi]; exact Ro
  have Rr4 : H4 r = some noPairs := by rw [← hG, updH_ne _ _ _ _ nri, updH_ne _ _ _ _ nri]; exact Rr
  have Rt4 : H4 t = some noPairs := by rw [← hG, updH_ne _ _ _ _ nti, updH_ne _ _ _ _ nti]; exact Rt
  have Ri4 : H4 i = some (insRow o r t) := by rw [← hG, updH_same]; rfl
  clear hG Ro Rr Rt hi
  simp only [go_sem]
  have en : exNames.map Go.Aw.D.encStr = [[str ⟨#[111]⟩], [str ⟨#[112]⟩], [str ⟨#[113]⟩]] := rfl
  have el : exNames.length = 3 := rfl
  refine ⟨fun ρ H => ∃ (k : Nat) (o : Nat), k ≤ exNames.length ∧ ρ 1 = .op i 0 0 ∧ ρ 15 = .sl (exNames.map Go.Aw.D.encStr) ∧ ρ 16 = int (exNames.length : Nat) ∧ ρ 17 = int k ∧ H i = some (insRow o r t) ∧ H o = some (ordRow ((exNames.take k).map exOrder)) ∧ H r = some noPairs ∧ H t = some noPairs ∧ o ≠ i ∧ o ≠ r ∧ o ≠ t, fun ρ _ => exNames.length - natOf (ρ 17), ⟨0, o, Nat.zero_le _, by simp only [go_sem, en, el], by simp only [go_sem, en, el], by simp only [go_sem, List.length_map, en, el], (by simp only [go_sem, en, el]; rfl), Ri4, Ro4, Rr4, Rt4, noi, nor, nto⟩, ?_⟩
  rintro ρ H ⟨k, o, hk, e1, e15, e16, e17, Ri, Ro, Rr, Rt, noi, nor, nto⟩
  simp only [go_sem, e1, e15, e16, e17]
  refine acond_i (fun hlt => ?_) (fun hge => ?_)
  · have hlt := ltB hlt
    obtain ⟨s, hs⟩ := getIn hlt
    have b1 := inB hlt
    have hk3 : k < 3 := hlt
    simp only [go_sem, e1, e15, e16, e17, getD_map hs, b1, Ri]
    refine wappE_i Ro ⟨rfl, rfl⟩ ⟨rfl, trivial⟩ (by simp only [List.length_map, List.length_take, List.length_cons, List.length_nil]; omega) (fun j' hj' => ?_)
    have nji : i ≠ j' := ne_new Ri hj'
    have njr : r ≠ j' := ne_new Rr hj'
    have njt : t ≠ j' := ne_new Rt hj'
    have Ri2 := keep_app (r' := (⟨96, 16, ((exNames.take k).map exOrder).map encOrder ++ [encOrder (exOrder s)]⟩ : Row)) Ri noi hj'
    have Rr2 := keep_app (r' := (⟨96, 16, ((exNames.take k).map exOrder).map encOrder ++ [encOrder (exOrder s)]⟩ : Row)) Rr nor hj'
    have Rt2 := keep_app (r' := (⟨96, 16, ((exNames.take k).map exOrder).map encOrder ++ [encOrder (exOrder s)]⟩ : Row)) Rt nto hj'
    have Rj2 : updH (updH H o none) j' (some (⟨96, 16, ((exNames.take k).map exOrder).map encOrder ++ [encOrder (exOrder s)]⟩ : Row)) j' = some (ordRow ((exNames.take (k + 1)).map exOrder)) := by
      rw [take_succ hs, List.map_append]
      exact row_appG rfl
    simp only [go_sem, e1, e15, e16, e17]
    refine wputE_1 so39 Ri2 ⟨by simp, rfl, by simp⟩ ?_
    generalize hP : updH (updH (updH H o none) j' _) i _ = HP
    simp only [go_sem, e1, e15, e16, e17, wrapS (show k ≤ 4611686018427387904 by omega)]
    refine ⟨⟨k + 1, j', hlt, rfl, ?_, ?_, ?_, ?_, nji.symm, njr.symm, njt.symm⟩, by simp only [natOf_int]; omega⟩
    · rw [← hP, updH_same]; rfl
    · rw [← hP, updH_ne _ _ _ _ nji.symm]; exact Rj2
    · rw [← hP, updH_ne _ _ _ _ nri]; exact Rr2
    · rw [← hP, updH_ne _ _ _ _ nti]; exact Rt2
  have hge := geB hk hge
  subst hge
  rw [List.take_length] at Ro
  simp only [go_sem, e1, e15, e16, e17, Ri]
  have hcols : ColsOk [exCol 3, exCol 6, exCol 5] [hlf, hlf, hlf] := ⟨by simp [exCol], by decide, by decide, by simp [hlf]; decide⟩
  have hf := find_c exInst 1 [exCol 3, exCol 6, exCol 5] [hlf, hlf, hlf] ex_loads (by simp [exInst]) (by decide) hcols
  have hbk := broken_a hcols (c := ⟨1, 7, 1⟩) (by unfold okCut; simp)
  rw [ex_find] at hf
  rw [ex_broken] at hbk
  refine PC.useF [o, r, t] (args' := [.agg (encInstance exInst), .sl ([exCol 3, exCol 6, exCol 5].map encColumn), .sl ([hlf, hlf, hlf].map Go.Aw.D.encStr)]) (.cons _ _ _ _ (.agg _ _ (.cons _ _ _ _ (.refl _) (.cons _ _ _ _ (.refl _) (.cons _ _ _ _ (.refl _) (.cons _ _ _ _ (.row _ _ _ (by simp; exact Ro) (ConvE.refl _)) (.cons _ _ _ _ (.row _ _ _ (by simp; exact Rr) (ConvE.refl _)) (.cons _ _ _ _ (.row _ _ _ (by simp; exact Rt) (ConvE.refl _)) .nil))))))) (.cons _ _ _ _ (.refl _) (.cons _ _ _ _ (.refl _) .nil))) hf ?_
  simp only [go_sem]
  refine PC.use hbk ?_
  simp only [go_sem]
  refine ⟨fun _ => by omega, ?_⟩
  exact cB (a := true) rfl
/-! ### lorrylaw28.few, CutBreaks -/
def few28 (cols : List Column) (rates : List ByteArray) : Bool :=
  !(decide ((cols.length : Int) > 40) || decide ((rates.length : Int) > 60)) && !rates.any (fun s => decide ((s.size : Int) > 12)) && !cols.any fun c => decide (c.set < 0)
theorem few28_c (cols : List Column) (rates : List ByteArray) (hl : cols.length ≤ 1048576) (hr : rates.length ≤ 1048576) : PC Tryz.prog 13 [.sl (cols.map encColumn), .sl (rates.map Go.Aw.D.encStr)] (boo (few28 cols rates)) := by
  refine PC.body (c := Tryz.f13.body.getD .skip) (fun _ => false) mixed Tryz.func13 rfl (by kernel_rfl) ?_
  unfold Tryz.f13
  simp only [Option.getD_some]
  simp only [go_sem]
  refine acond_i (fun hb => ?_) (fun hb => ?_)
  · simp only [go_sem]
    refine cB ?_
    unfold few28
    rw [hb]; rfl
  unfold few28
  rw [hb]
  simp only [go_sem]
  refine ⟨fun ρ H => ∃ (k : Nat), k ≤ rates.length ∧ ρ 0 = .sl (cols.map encColumn) ∧ ρ 1 = .sl (rates.map Go.Aw.D.encStr) ∧ ρ 5 = int k ∧ ∀ s ∈ rates.take k, decide ((s.size : Int) > 12) = false, fun ρ _ => rates.length - natOf (ρ 5), ⟨0, Nat.zero_le _, by simp only [go_sem], by simp only [go_sem], (by simp only [go_sem]; rfl), by simp⟩, ?_⟩
  rintro ρ H ⟨k, hk, e0, e1, e5, hz⟩
  simp only [go_sem, e0, e1, e5]
  refine acond_i (fun hlt => ?_) (fun hge => ?_)
  · have hlt := ltB hlt
    obtain ⟨s, hs⟩ := getIn hlt
    have b1 := inB hlt
    simp only [go_sem, e0, e1, e5, getD_map hs, b1]
    refine acond_i (fun hd => ?_) (fun hd => ?_)
    · simp only [go_sem]
      refine cB ?_
      rw [any_yes hs hd]; rfl
    · simp only [go_sem, e0, e1, e5, wrapS (show k ≤ 4611686018427387904 by omega)]
      exact ⟨⟨k + 1, hlt, rfl, take_all' (p := fun s : ByteArray => decide ((s.size : Int) > 12) = false) hs hd hz⟩, by simp only [natOf_int]; omega⟩
  have hge := geB hk hge
  subst hge
  rw [List.take_length] at hz
  rw [any_none hz]
  simp only [go_sem, e0, e1, e5]
  refine ⟨fun ρ H => ∃ (k : Nat), k ≤ cols.length ∧ ρ 0 = .sl (cols.map encColumn) ∧ ρ 6 = int k ∧ ∀ c ∈ cols.take k, decide (c.set < 0) = false, fun ρ _ => cols.length - natOf (ρ 6), ⟨0, Nat.zero_le _, by simp only [go_sem, e0, e1, e5], (by simp only [go_sem, e0, e1, e5]; rfl), by simp⟩, ?_⟩
  rintro ρ H ⟨k, hk, e0, e6, hy⟩
  simp only [go_sem, e0, e6]
  refine acond_i (fun hlt => ?_) (fun hge => ?_)
  · have hlt := ltB hlt
    obtain ⟨c, hc⟩ := getIn hlt
    have b1 := inB hlt
    simp only [go_sem, e0, e6, getD_map hc, b1]
    refine acond_i (fun hd => ?_) (fun hd => ?_)
    · simp only [go_sem]
      refine cB ?_
      rw [any_yes hc hd]; rfl
    · simp only [go_sem, e0, e6, wrapS (show k ≤ 4611686018427387904 by omega)]
      exact ⟨⟨k + 1, hlt, rfl, take_all' (p := fun c : Column => decide (c.set < 0) = false) hc hd hy⟩, by simp only [natOf_int]; omega⟩
  · have hge := geB hk hge
    subst hge
    rw [List.take_length] at hy
    simp only [go_sem, e0, e6]
    refine cB ?_
    rw [any_none hy]; rfl
theorem few_cols {cols : List Column} {rates : List ByteArray} (h : few28 cols rates = true) (hs : ∀ c ∈ cols, c.set ≤ 9223372036854775807) : ColsOk cols rates ∧ cols.length ≤ 40 ∧ rates.length ≤ 60 ∧ ∀ s ∈ rates, s.size ≤ 12 := by
  unfold few28 at h
  simp only [Bool.and_eq_true, Bool.not_eq_true', Bool.or_eq_false_iff, decide_eq_false_iff_not, List.any_eq_false, decide_eq_true_eq] at h
  obtain ⟨⟨⟨h1, h2⟩, h3⟩, h4⟩ := h
  have h5 : ∀ s ∈ rates, s.size ≤ 12 := fun s hs => by have := h3 s hs; omega
  exact ⟨⟨fun c hc => ⟨by have := h4 c hc; omega, hs c hc⟩, by omega, by omega, fun s hs => by have := h5 s hs; omega⟩, by omega, by omega, h5⟩
theorem sign_ge {c : Cut} {cols : List Column} {rates : List ByteArray} (h : (brokenP c cols rates).2 = 0) : signR (brokenP c cols rates).1 ≥ 0 := by
  unfold brokenP at h ⊢
  split at h
  · cases h
  · next h1 =>
    rw [if_neg h1]
    split at h
    · next h2 => exact absurd h h2
    · next h2 =>
      rw [if_neg h2]
      split at h
      · next h3 => exact absurd h h3
      · next h3 =>
        rw [if_neg h3]
        split
        · have : signR (dec 0) = 0 := by decide +kernel
          rw [this]; exact Int.le_refl 0
        · next h4 => show signR _ ≥ 0
                     simp only at h4 ⊢
                     omega
theorem cutBreaks_c (c : Cut) (cols : List Column) (rates : List ByteArray) (hl : cols.length ≤ 1048576) (hr : rates.length ≤ 1048576) (hs : ∀ c ∈ cols, c.set ≤ 9223372036854775807) (hcs : c.set ≤ 9223372036854775807) :
    PC Tryz.prog 3 [.agg (encCut c), .sl (cols.map encColumn), .sl (rates.map Go.Aw.D.encStr)] (boo true) := by
  refine PC.body (c := Tryz.f3.body.getD .skip) (fun _ => false) mixed Tryz.func3 rfl (by kernel_rfl) ?_
  unfold Tryz.f3
  simp only [Option.getD_some]
  simp only [go_sem]
  refine PC.use (few28_c cols rates hl hr) ?_
  simp only [go_sem]
  refine acond_i (fun hb => ?_) (fun hb => ?_)
  · simp only [go_sem]
    refine PC.use awake28_c ?_
    simp only [go_sem]
    exact .refl _
  have hb' : few28 cols rates = true ∧ 0 ≤ c.set ∧ -1048576 ≤ c.n ∧ c.n ≤ 1048576 := by simp at hb; exact ⟨hb.1.1.1, by omega, by omega, by omega⟩
  obtain ⟨hco, _⟩ := few_cols hb'.1 hs
  have hok : okCut c := ⟨hb'.2.1, hcs, by omega, by omega⟩
  have hbr : (brokenP c cols rates).2 = 0 → rightR (brokenP c cols rates).1 = true := broken_right
  have hsg := sign_ge (c := c) (cols := cols) (rates := rates)
  simp only [go_sem]
  refine PC.use (broken_a hco hok) ?_
  simp only [go_sem]
  refine PC.use (broken28_c c cols rates hok hco.set hco.cl hco.rl hco.rs) ?_
  simp only [go_sem]
  generalize brokenP c cols rates = B at *
  refine ⟨int (signR B.1), fun hg => ?_, ?_⟩
  · simp at hg
    have := right_size' (hbr hg)
    exact (sign4_c B.1 (by omega)).q rfl
  simp only [go_sem]
  refine ⟨_, fun _ => awake28_c.q rfl, ?_⟩
  simp only [go_sem]
  refine cB ?_
  by_cases h : B.2 = 0
  · have := hsg h
    simp [h]; omega
  · simp [h]
end Go.Proofs.YtbcfajfngdmgnaaGreatDoor.Nu
end

section
set_option linter.unusedSimpArgs false
set_option linter.unusedVariables false
namespace Go.Aw.D
open Go.Aw Go.RowKit
set_option maxRecDepth 100000
def Sw (w : World) : Sg := ⟨fun k => k < w.heap.size, fun k => k < w.heap.size, fun _ => .slice none 0 0, fun _ => 1, 0⟩
/-- the tables lie in the world as the program's text lays them -/
def TabsIn (w : World) : Prop := ∀ t ∈ tabL, varCells w t.1 = some t.2
theorem varCells_lt {w : World} {g : Nat} {cs : Array Value} (h : varCells w g = some cs) : g < w.heap.size := by
  unfold varCells at h
  split at h
  · rename_i h1; exact (Array.getElem?_eq_some_iff.1 h1).1
  · cases h
theorem Sw_st (w : World) (ht : TabsIn w) : St (Sw w) w noRows := ⟨fun _ h => h, fun _ h => h, fun k r hk => by simp [noRows] at hk, fun k r hk => by simp [noRows] at hk, fun k k' r r' hk => by simp [noRows] at hk, fun t h => ⟨varCells_lt (ht t h), ht t h⟩⟩
def bInt (_ : Nat) (x : Int) : Prop := -9223372036854775808 ≤ x ∧ x ≤ 9223372036854775807
def bBool (_ : Nat) (_ : Bool) : Prop := True
def bStr (n : Nat) (s : ByteArray) : Prop := s.size ≤ n
def bL {α : Type} (b : Nat → α → Prop) (n : Nat) (l : List α) : Prop := l.length ≤ n ∧ ∀ x ∈ l, b n x
/-- what is read of type t is a value of α, in cells -/
def Rd {H : Type} (e : TypeId × Value → H) (B : DataW H → Nat) (P : Program) (w : World) (t : TypeId) {α : Type} (enc : α → List AV) (b : Nat → α → Prop) : Prop :=
  ∀ fuel cs y, DataW.trod e P w 0 (fun _ => true) true fuel t cs = some y → ∃ x : α, (repL (Sw w) w (enc x) cs ∧ ∀ u ∈ cs, u.oneCell' = true) ∧ ∀ n, B y.1 ≤ n → b n x
section
variable {H : Type} {e : TypeId × Value → H} {P : Program} {w : World} {t : TypeId}
abbrev BK (H : Type) : DataW H → Nat := Go.Proofs.YtbcfajfngdmgnaaGreatDoor.Rows.uptoBulk
theorem rd_int (ht : P.underlying t = some (.int .i64)) : Rd e (BK H) P w t encInt bInt := by
  intro fuel cs y h
  obtain ⟨n, rfl, _, hw⟩ := DataW.trod_int ht h
  refine ⟨n, ⟨by simp only [encInt, repL]; exact ⟨_, _, rfl, by simp only [rep], rfl⟩, by simp [Value.oneCell']⟩, fun _ _ => bounds_i64 hw⟩
theorem rd_bool (ht : P.underlying t = some .bool) : Rd e (BK H) P w t encBool bBool := by
  intro fuel cs y h
  obtain ⟨n, rfl, _⟩ := DataW.trod_bool ht h
  refine ⟨n, ⟨by simp only [encBool, repL]; exact ⟨_, _, rfl, by simp only [rep], rfl⟩, by simp [Value.oneCell']⟩, fun _ _ => trivial⟩
theorem rd_str (ht : P.underlying t = some .string) : Rd e (BK H) P w t encStr bStr := by
  intro fuel cs y h
  obtain ⟨s, rfl, rfl, _⟩ := DataW.trod_string ht h
  refine ⟨s, ⟨by simp only [encStr, repL]; exact ⟨_, _, rfl, by simp only [rep], rfl⟩, by simp [Value.oneCell']⟩, fun n hn => ?_⟩
  simp only [BK, Go.Proofs.YtbcfajfngdmgnaaGreatDoor.Rows.uptoBulk, Array.length_toList] at hn
  have : s.size = s.data.size := rfl
  simp only [bStr]; omega
theorem bulk_part {d : DataW H} {l : List (DataW H)} (h : d ∈ l) : BK H d ≤ Go.Proofs.YtbcfajfngdmgnaaGreatDoor.Rows.uptoBulkAll l := by
  induction l with
  | nil => cases h
  | cons x r ih =>
    simp only [Go.Proofs.YtbcfajfngdmgnaaGreatDoor.Rows.uptoBulkAll]
    cases List.mem_cons.1 h with
    | inl e => subst e; simp only [BK]; omega
    | inr e => have := ih e; omega
theorem bulk_one (d : DataW H) : 1 ≤ BK H d := by
  cases d with
  | lit l => cases l <;> simp [BK, Go.Proofs.YtbcfajfngdmgnaaGreatDoor.Rows.uptoBulk]
  | nil => simp [BK, Go.Proofs.YtbcfajfngdmgnaaGreatDoor.Rows.uptoBulk]
  | ptr d => simp [BK, Go.Proofs.YtbcfajfngdmgnaaGreatDoor.Rows.uptoBulk]
  | slice elems spare => simp [BK, Go.Proofs.YtbcfajfngdmgnaaGreatDoor.Rows.uptoBulk]
  | agg parts => simp [BK, Go.Proofs.YtbcfajfngdmgnaaGreatDoor.Rows.uptoBulk]
  | iface t d => simp [BK, Go.Proofs.YtbcfajfngdmgnaaGreatDoor.Rows.uptoBulk]
  | map entries => simp [BK, Go.Proofs.YtbcfajfngdmgnaaGreatDoor.Rows.uptoBulk]
  | held h => simp [BK, Go.Proofs.YtbcfajfngdmgnaaGreatDoor.Rows.uptoBulk]
theorem bulk_length (l : List (DataW H)) : l.length ≤ Go.Proofs.YtbcfajfngdmgnaaGreatDoor.Rows.uptoBulkAll l := by
  induction l with
  | nil => simp [Go.Proofs.YtbcfajfngdmgnaaGreatDoor.Rows.uptoBulkAll]
  | cons x r ih => have := bulk_one x; simp only [Go.Proofs.YtbcfajfngdmgnaaGreatDoor.Rows.uptoBulkAll, List.length_cons, BK] at *; omega
theorem choose_list {α : Type} (n : Nat) (p : Nat → α → Prop) (h : ∀ i, i < n → ∃ x, p i x) : ∃ l : List α, l.length = n ∧ ∀ i x, l[i]? = some x → p i x := by
  induction n with
  | zero => exact ⟨[], rfl, by simp⟩
  | succ n ih =>
    obtain ⟨l, hl, hp⟩ := ih fun i hi => h i (by omega)
    obtain ⟨x, hx⟩ := h n (by omega)
    refine ⟨l ++ [x], by simp [hl], fun i y hy => ?_⟩
    rcases Nat.lt_or_ge i n with hi | hi
    · rw [List.getElem?_append_left (by omega)] at hy; exact hp i y hy
    · rw [List.getElem?_append_right (by omega)] at hy
      have : i - l.length = 0 := by
        rcases Nat.eq_zero_or_pos (i - l.length) with h0 | h0
        · exact h0
        · rw [List.getElem?_eq_none (by simp; omega)] at hy; simp at hy
      rw [this] at hy
      have hi' : i = n := by omega
      subst hi'
      simp at hy; subst hy; exact hx
theorem elsAt_of_get {S : Sg} {b sz : Nat} {α : Type} {enc : α → List AV} (hlen : ∀ x, (enc x).length = sz) : ∀ (l : List α) (o : Nat), (∀ i x, l[i]? = some x → cellsAt S w b (o + i * sz) (enc x)) → elsAt S w b sz o (l.map enc)
  | [], _, _ => by simp [elsAt]
  | x :: r, o, h => by
    simp only [List.map_cons, elsAt]
    refine ⟨hlen x, by simpa using h 0 x rfl, elsAt_of_get hlen r (o + sz) fun i y hy => ?_⟩
    have := h (i + 1) y (by simpa using hy)
    rwa [show o + (i + 1) * sz = o + sz + i * sz by rw [Nat.add_mul]; omega] at this
theorem cells_get {a : Addr} {n : Nat} {cs : List Value} (h : w.cells? 0 a n = some cs) : cs.length = n ∧ ∀ j, j < n → w.cell? (a.add j) = cs[j]? := by
  unfold World.cells? at h
  rw [if_pos (Nat.zero_le _)] at h
  have hl := mapM_some_length h
  exact ⟨by simpa using hl, fun j hj => mapM_some_get h j j (by simp [hj])⟩
theorem rd_slice {α : Type} {enc : α → List AV} {b : Nat → α → Prop} {et : TypeId} {sz : Nat} (ht : P.underlying t = some (.slice et)) (hc : P.cellsOf et = sz) (hpos : 0 < sz) (hlen : ∀ x, (enc x).length = sz) (hr : Rd e (BK H) P w et enc b) :
    Rd e (BK H) P w t (fun l : List α => [.sl (l.map enc)]) (bL b) := by
  intro fuel cs y h
  rcases DataW.trod_slice ht h with ⟨rfl, rfl⟩ | ⟨a, len, cap, elems, rest, n, rfl, rfl, rfl, _, hlc, hcap, hel, hget, hsp, _⟩
  · refine ⟨[], ⟨?_, by simp [Value.oneCell']⟩, fun n _ => ⟨by simp, by simp⟩⟩
    simp only [repL, rep, List.map_nil]
    exact ⟨_, _, rfl, ⟨none, 0, 0, rfl, rfl, Nat.le_refl _, Nat.zero_le _, by simp⟩, rfl⟩
  · have hp : ∀ i, i < len → ∃ x : α, ∃ z cs', elems[i]? = some z ∧ w.cells? 0 (a.add (i * sz)) sz = some cs' ∧ (repL (Sw w) w (enc x) cs' ∧ ∀ u ∈ cs', u.oneCell' = true) ∧ ∀ n, BK H z.1 ≤ n → b n x := fun i hi => by
      have hg := hget i hi
      rw [List.getElem?_eq_getElem (by omega), hc, Option.bind_eq_some_iff] at hg
      obtain ⟨cs', h1, h2⟩ := hg
      obtain ⟨x, hx, hb⟩ := hr _ _ _ h2
      exact ⟨x, _, cs', List.getElem?_eq_getElem (by omega), h1, hx, hb⟩
    obtain ⟨l, hl, hpl⟩ := choose_list len _ hp
    refine ⟨l, ⟨?_, by simp [Value.oneCell']⟩, fun m hm => ⟨?_, fun x hx => ?_⟩⟩
    · simp only [repL]
      refine ⟨_, _, rfl, ?_, rfl⟩
      simp only [rep]
      refine ⟨some a, len, cap, rfl, by simp [hl], hlc, hcap, ?_⟩
      rcases Nat.eq_zero_or_pos len with h0 | h0
      · left; rw [List.eq_nil_of_length_eq_zero (hl.trans h0)]; rfl
      · right
        have h00 := hp 0 h0
        obtain ⟨_, _, cs0, _, hc0, _⟩ := h00
        have q := (cells_get hc0).2 0 hpos
        have hlen0 := (cells_get hc0).1
        rw [List.getElem?_eq_getElem (by omega)] at q
        simp only [Nat.zero_mul, Addr.add, if_true] at q
        have hspot : a.spot = none ∧ a.block < w.heap.size := by
          unfold World.cell? at q
          split at q
          · rename_i c _ _ hb
            split at q
            · simp at q
            · rename_i hs
              refine ⟨by simpa using hs, ?_⟩
              rcases Nat.lt_or_ge a.block w.heap.size with h | h
              · exact h
              · rw [Array.getElem?_eq_none h] at hb; simp at hb
          · simp at q
        obtain ⟨ab, ao, asp⟩ := a
        obtain ⟨hs, hlt⟩ := hspot
        simp only at hs hlt
        subst hs
        refine ⟨ab, ao, sz, rfl, hlt, hpos, elsAt_of_get hlen l ao fun i x hx => ?_⟩
        obtain ⟨z, cs', _, hcs, ⟨h1, h2⟩, _⟩ := hpl i x hx
        refine cellsAt_of_repL _ cs' _ h1 h2 fun j u hj => ?_
        obtain ⟨e1, e2⟩ := cells_get hcs
        have hj' : j < sz := by
          rcases Nat.lt_or_ge j sz with h | h
          · exact h
          · rw [List.getElem?_eq_none (by omega)] at hj; simp at hj
        have := e2 j hj'
        rw [hj, Addr.add_lit, Addr.add_lit] at this
        exact this
    · rw [hl, ← hel]
      have h1 := bulk_length (elems.map (·.1))
      simp only [BK, Go.Proofs.YtbcfajfngdmgnaaGreatDoor.Rows.uptoBulk, List.length_map] at hm h1
      omega
    · obtain ⟨i, hi⟩ := List.mem_iff_getElem?.1 hx
      obtain ⟨z, cs', hz, _, _, hb⟩ := hpl i x hi
      refine hb m ?_
      have h1 := bulk_part (List.mem_map_of_mem (f := (·.1)) (List.mem_of_getElem? hz))
      simp only [BK, Go.Proofs.YtbcfajfngdmgnaaGreatDoor.Rows.uptoBulk] at hm h1 ⊢
      omega
theorem fld {fuel o m : Nat} {cs : List Value} {z : DataW H × List MemPlace} (hc : P.cellsOf t = m) (h : DataW.trod e P w 0 (fun _ => true) true fuel t ((cs.drop o).take (P.cellsOf t)) = some z) : DataW.trod e P w 0 (fun _ => true) true fuel t ((cs.drop o).take m) = some z := hc ▸ h
theorem repL_step {S : Sg} {a b : List AV} {cs : List Value} {o m : Nat} (h : repL S w a ((cs.drop o).take m)) (h' : repL S w b (cs.drop (o + m))) : repL S w (a ++ b) (cs.drop o) := by
  have := repL_append a b _ _ h h'
  rwa [← List.drop_drop, List.take_append_drop] at this
theorem repL_end {S : Sg} {cs : List Value} {o : Nat} (h : cs.length = o) : repL S w [] (cs.drop o) := by
  rw [List.drop_eq_nil_of_le (by omega)]; simp [repL]
theorem one_step {cs : List Value} {o m : Nat} (h : ∀ u ∈ (cs.drop o).take m, u.oneCell' = true) (h' : ∀ u ∈ cs.drop (o + m), u.oneCell' = true) : ∀ u ∈ cs.drop o, u.oneCell' = true := by
  intro u hu
  rw [← List.take_append_drop m (cs.drop o), List.drop_drop] at hu
  rcases List.mem_append.1 hu with hu | hu
  · exact h u hu
  · exact h' u hu
theorem one_end {cs : List Value} {o : Nat} (h : cs.length = o) : ∀ u ∈ cs.drop o, u.oneCell' = true := by
  rw [List.drop_eq_nil_of_le (by omega)]; simp
theorem bulk_field {xs : List (DataW H × List MemPlace)} {i : Nat} {z : DataW H × List MemPlace} (hz : xs[i]? = some z) {n : Nat} (h : BK H (.agg (xs.map (·.1))) ≤ n) : BK H z.1 ≤ n := by
  have h1 := bulk_part (List.mem_map_of_mem (f := (·.1)) (List.mem_of_getElem? hz))
  simp only [BK, Go.Proofs.YtbcfajfngdmgnaaGreatDoor.Rows.uptoBulk] at h h1 ⊢
  omega
theorem get_some {α : Type} {xs : List α} {n i : Nat} (h : xs.length = n) (hi : i < n) : ∃ z, xs[i]? = some z := ⟨xs[i], List.getElem?_eq_getElem (by omega)⟩
end
section
open Go.Proofs Go.Proofs.YtbcfajfngdmgnaaGreatDoor
variable {H : Type} {e : TypeId × Value → H} {w : World}
theorem rd_LBool : Rd e (BK H) Tryz.prog w 54 (fun l : List Bool => [.sl (l.map encBool)]) (bL bBool) := rd_slice (sz := 1) Tryz.underlying54 (by kernel_rfl) (by omega) (fun _ => rfl) (rd_bool Tryz.underlying4)
def bVisit (n : Nat) (x : Visit) : Prop := bInt n x.order ∧ bBool n x.drop
theorem rd_Visit : Rd e (BK H) Tryz.prog w 59 encVisit bVisit := by
  intro fuel cs y h
  obtain ⟨xs, n, rfl, rfl, hl, hxl, hf⟩ := DataW.trod_struct Tryz.underlying59 h
  have hxl : xs.length = 2 := hxl
  have hl : cs.length = 2 := hl.trans (by kernel_rfl)
  obtain ⟨z0, hz0⟩ := get_some hxl (show 0 < 2 by omega)
  obtain ⟨x0, ⟨r0, o0⟩, b0⟩ := (rd_int Tryz.underlying3 : Rd e (BK H) Tryz.prog w 3 _ _) n ((cs.drop 0).take 1) z0 (fld (t := 3) (o := 0) (m := 1) (by kernel_rfl) ((hf 0 _ rfl).trans hz0))
  obtain ⟨z1, hz1⟩ := get_some hxl (show 1 < 2 by omega)
  obtain ⟨x1, ⟨r1, o1⟩, b1⟩ := (rd_bool Tryz.underlying4 : Rd e (BK H) Tryz.prog w 4 _ _) n ((cs.drop 1).take 1) z1 (fld (t := 4) (o := 1) (m := 1) (by kernel_rfl) ((hf 1 _ rfl).trans hz1))
  refine ⟨⟨x0, x1⟩, ⟨?_, ?_⟩, fun m hm => ⟨b0 m (bulk_field hz0 hm), b1 m (bulk_field hz1 hm)⟩⟩
  · have := repL_step (o := 0) (m := 1) r0 (repL_step (o := 1) (m := 1) r1 (repL_end (by omega)))
    rw [List.drop_zero] at this; exact this
  · have := one_step (o := 0) (m := 1) o0 (one_step (o := 1) (m := 1) o1 (one_end (by omega)))
    rw [List.drop_zero] at this; exact this
theorem rd_LVisit : Rd e (BK H) Tryz.prog w 55 (fun l : List Visit => [.sl (l.map encVisit)]) (bL bVisit) := rd_slice (sz := 2) Tryz.underlying55 (by kernel_rfl) (by omega) (fun _ => rfl) (rd_Visit)
def bRoute (n : Nat) (x : Route) : Prop := bInt n x.type ∧ bInt n x.start ∧ (bL bBool) n x.rests ∧ (bL bVisit) n x.visits
theorem rd_Route : Rd e (BK H) Tryz.prog w 57 encRoute bRoute := by
  intro fuel cs y h
  obtain ⟨xs, n, rfl, rfl, hl, hxl, hf⟩ := DataW.trod_struct Tryz.underlying57 h
  have hxl : xs.length = 4 := hxl
  have hl : cs.length = 4 := hl.trans (by kernel_rfl)
  obtain ⟨z0, hz0⟩ := get_some hxl (show 0 < 4 by omega)
  obtain ⟨x0, ⟨r0, o0⟩, b0⟩ := (rd_int Tryz.underlying3 : Rd e (BK H) Tryz.prog w 3 _ _) n ((cs.drop 0).take 1) z0 (fld (t := 3) (o := 0) (m := 1) (by kernel_rfl) ((hf 0 _ rfl).trans hz0))
  obtain ⟨z1, hz1⟩ := get_some hxl (show 1 < 4 by omega)
  obtain ⟨x1, ⟨r1, o1⟩, b1⟩ := (rd_int Tryz.underlying3 : Rd e (BK H) Tryz.prog w 3 _ _) n ((cs.drop 1).take 1) z1 (fld (t := 3) (o := 1) (m := 1) (by kernel_rfl) ((hf 1 _ rfl).trans hz1))
  obtain ⟨z2, hz2⟩ := get_some hxl (show 2 < 4 by omega)
  obtain ⟨x2, ⟨r2, o2⟩, b2⟩ := (rd_LBool : Rd e (BK H) Tryz.prog w 54 _ _) n ((cs.drop 2).take 1) z2 (fld (t := 54) (o := 2) (m := 1) (by kernel_rfl) ((hf 2 _ rfl).trans hz2))
  obtain ⟨z3, hz3⟩ := get_some hxl (show 3 < 4 by omega)
  obtain ⟨x3, ⟨r3, o3⟩, b3⟩ := (rd_LVisit : Rd e (BK H) Tryz.prog w 55 _ _) n ((cs.drop 3).take 1) z3 (fld (t := 55) (o := 3) (m := 1) (by kernel_rfl) ((hf 3 _ rfl).trans hz3))
  refine ⟨⟨x0, x1, x2, x3⟩, ⟨?_, ?_⟩, fun m hm => ⟨b0 m (bulk_field hz0 hm), b1 m (bulk_field hz1 hm), b2 m (bulk_field hz2 hm), b3 m (bulk_field hz3 hm)⟩⟩
  · have := repL_step (o := 0) (m := 1) r0 (repL_step (o := 1) (m := 1) r1 (repL_step (o := 2) (m := 1) r2 (repL_step (o := 3) (m := 1) r3 (repL_end (by omega)))))
    rw [List.drop_zero] at this; exact this
  · have := one_step (o := 0) (m := 1) o0 (one_step (o := 1) (m := 1) o1 (one_step (o := 2) (m := 1) o2 (one_step (o := 3) (m := 1) o3 (one_end (by omega)))))
    rw [List.drop_zero] at this; exact this
def bCut (n : Nat) (x : Cut) : Prop := bInt n x.kind ∧ bInt n x.set ∧ bInt n x.n
theorem rd_Cut : Rd e (BK H) Tryz.prog w 23 encCut bCut := by
  intro fuel cs y h
  obtain ⟨xs, n, rfl, rfl, hl, hxl, hf⟩ := DataW.trod_struct Tryz.underlying23 h
  have hxl : xs.length = 3 := hxl
  have hl : cs.length = 3 := hl.trans (by kernel_rfl)
  obtain ⟨z0, hz0⟩ := get_some hxl (show 0 < 3 by omega)
  obtain ⟨x0, ⟨r0, o0⟩, b0⟩ := (rd_int Tryz.underlying3 : Rd e (BK H) Tryz.prog w 3 _ _) n ((cs.drop 0).take 1) z0 (fld (t := 3) (o := 0) (m := 1) (by kernel_rfl) ((hf 0 _ rfl).trans hz0))
  obtain ⟨z1, hz1⟩ := get_some hxl (show 1 < 3 by omega)
  obtain ⟨x1, ⟨r1, o1⟩, b1⟩ := (rd_int Tryz.underlying3 : Rd e (BK H) Tryz.prog w 3 _ _) n ((cs.drop 1).take 1) z1 (fld (t := 3) (o := 1) (m := 1) (by kernel_rfl) ((hf 1 _ rfl).trans hz1))
  obtain ⟨z2, hz2⟩ := get_some hxl (show 2 < 3 by omega)
  obtain ⟨x2, ⟨r2, o2⟩, b2⟩ := (rd_int Tryz.underlying3 : Rd e (BK H) Tryz.prog w 3 _ _) n ((cs.drop 2).take 1) z2 (fld (t := 3) (o := 2) (m := 1) (by kernel_rfl) ((hf 2 _ rfl).trans hz2))
  refine ⟨⟨x0, x1, x2⟩, ⟨?_, ?_⟩, fun m hm => ⟨b0 m (bulk_field hz0 hm), b1 m (bulk_field hz1 hm), b2 m (bulk_field hz2 hm)⟩⟩
  · have := repL_step (o := 0) (m := 1) r0 (repL_step (o := 1) (m := 1) r1 (repL_step (o := 2) (m := 1) r2 (repL_end (by omega))))
    rw [List.drop_zero] at this; exact this
  · have := one_step (o := 0) (m := 1) o0 (one_step (o := 1) (m := 1) o1 (one_step (o := 2) (m := 1) o2 (one_end (by omega))))
    rw [List.drop_zero] at this; exact this
def bColumn (n : Nat) (x : Column) : Prop := bInt n x.type ∧ bInt n x.set ∧ bInt n x.price ∧ bRoute n x.route
theorem rd_Column : Rd e (BK H) Tryz.prog w 63 encColumn bColumn := by
  intro fuel cs y h
  obtain ⟨xs, n, rfl, rfl, hl, hxl, hf⟩ := DataW.trod_struct Tryz.underlying63 h
  have hxl : xs.length = 4 := hxl
  have hl : cs.length = 7 := hl.trans (by kernel_rfl)
  obtain ⟨z0, hz0⟩ := get_some hxl (show 0 < 4 by omega)
  obtain ⟨x0, ⟨r0, o0⟩, b0⟩ := (rd_int Tryz.underlying3 : Rd e (BK H) Tryz.prog w 3 _ _) n ((cs.drop 0).take 1) z0 (fld (t := 3) (o := 0) (m := 1) (by kernel_rfl) ((hf 0 _ rfl).trans hz0))
  obtain ⟨z1, hz1⟩ := get_some hxl (show 1 < 4 by omega)
  obtain ⟨x1, ⟨r1, o1⟩, b1⟩ := (rd_int Tryz.underlying3 : Rd e (BK H) Tryz.prog w 3 _ _) n ((cs.drop 1).take 1) z1 (fld (t := 3) (o := 1) (m := 1) (by kernel_rfl) ((hf 1 _ rfl).trans hz1))
  obtain ⟨z2, hz2⟩ := get_some hxl (show 2 < 4 by omega)
  obtain ⟨x2, ⟨r2, o2⟩, b2⟩ := (rd_int Tryz.underlying3 : Rd e (BK H) Tryz.prog w 3 _ _) n ((cs.drop 2).take 1) z2 (fld (t := 3) (o := 2) (m := 1) (by kernel_rfl) ((hf 2 _ rfl).trans hz2))
  obtain ⟨z3, hz3⟩ := get_some hxl (show 3 < 4 by omega)
  obtain ⟨x3, ⟨r3, o3⟩, b3⟩ := (rd_Route : Rd e (BK H) Tryz.prog w 57 _ _) n ((cs.drop 3).take 4) z3 (fld (t := 57) (o := 3) (m := 4) (by kernel_rfl) ((hf 3 _ rfl).trans hz3))
  refine ⟨⟨x0, x1, x2, x3⟩, ⟨?_, ?_⟩, fun m hm => ⟨b0 m (bulk_field hz0 hm), b1 m (bulk_field hz1 hm), b2 m (bulk_field hz2 hm), b3 m (bulk_field hz3 hm)⟩⟩
  · have := repL_step (o := 0) (m := 1) r0 (repL_step (o := 1) (m := 1) r1 (repL_step (o := 2) (m := 1) r2 (repL_step (o := 3) (m := 4) r3 (repL_end (by omega)))))
    rw [List.drop_zero] at this; exact this
  · have := one_step (o := 0) (m := 1) o0 (one_step (o := 1) (m := 1) o1 (one_step (o := 2) (m := 1) o2 (one_step (o := 3) (m := 4) o3 (one_end (by omega)))))
    rw [List.drop_zero] at this; exact this
theorem rd_LColumn : Rd e (BK H) Tryz.prog w 24 (fun l : List Column => [.sl (l.map encColumn)]) (bL bColumn) := rd_slice (sz := 7) Tryz.underlying24 (by kernel_rfl) (by omega) (fun _ => rfl) (rd_Column)
end
end Go.Aw.D
end

section
set_option linter.unusedSimpArgs false
set_option linter.unusedVariables false
namespace Go.Proofs.YtbcfajfngdmgnaaGreatDoor
open Go.Aw Go.Aw.D Go.Proofs Go.RowKit Go.ChangeShapes Go.WideShapes Go.ChangeAt
section
variable {H : Type} {e : TypeId × Value → H} {P : Program} {W W' : World}
theorem calls_of_PC {f : FuncId} {args : List AV} {vals : List Value} (h : PC P f args (.v (.bool true))) (ht : TabsIn W) (ha : repL (Sw W) W args vals) :
    Calls P f vals.toArray W fun en W' => en = .returned (.bool true) ∧ Below W.heap.size W W' :=
  (h (Sw W) W vals (Sw_st W ht) (fun _ h => h) ha).mono fun en W' ⟨v, r, H', S', he, hr, _, hv, hg, _⟩ => by
    subst hr
    simp only [rep] at hv
    subst hv
    exact ⟨he, hg.os, hg.tape, hg.output, hg.size, hg.same⟩
theorem trodAll_keep (hl : laidOutB P = true) (hb : Below W.heap.size W W') : ∀ {ts : List TypeId} {vs : List Value} {ds : List (DataW H)} {ps : List MemPlace}, (∀ t ∈ ts, P.readableRec t = true ∧ t < P.types.size) →
    DataW.TrodAll e P W 0 (fun _ => true) true ts vs ds ps → (∀ x ∈ ps, x.block < W.heap.size) → ∀ sp : Nat → Bool, (∀ x ∈ ps, sp x.block = true) → DataW.TrodAll e P W' 0 sp true ts vs ds ps
  | [], [], [], _, _, h, _, _, _ => h
  | t :: ts, v :: vs, d :: ds, ps, ht, ⟨p, q, h1, h2, he⟩, hlt, sp, hs => by
    subst he
    have h0 := ht t (by simp)
    exact ⟨p, q, WideElems.Trod_stays hl h0.1 h0.2 h1 (fun x hx => hb.same (hlt x (by simp [hx]))) (fun x hx => hs x (by simp [hx])),
      trodAll_keep hl hb (fun t ht' => ht t (by simp [ht'])) h2 (fun x hx => hlt x (by simp [hx])) sp (fun x hx => hs x (by simp [hx])), rfl⟩
/-- an argument that is a struct -/
theorem arg_struct {t : TypeId} {fs : Array Field} {α : Type} {enc : α → List AV} {b : Nat → α → Prop} {r : Reach} {b0 : Nat} {v : Value} {d : DataW H} {ps : List MemPlace} (ht : P.underlying t = some (.struct fs))
    (hr : Rd e (BK H) P W t enc b) (hval : Value.okWide P W r b0 t v) (hd : DataW.Trod e P W 0 (fun _ => true) true t v d ps) : ∃ x : α, rep (Sw W) W (.agg (enc x)) v ∧ ∀ n, BK H d ≤ n → b n x := by
  obtain ⟨cs, rfl, _⟩ := okWide_struct ht hval
  obtain ⟨fuel, h⟩ := hd
  obtain ⟨x, ⟨h1, h2⟩, h3⟩ := hr fuel _ _ h
  refine ⟨x, ?_, h3⟩
  simp only [rep]
  exact ⟨cs.toList, by simp, h1, h2⟩
theorem arg_slice {t et : TypeId} {α : Type} {enc : α → List AV} {b : Nat → List α → Prop} {r : Reach} {b0 : Nat} {v : Value} {d : DataW H} {ps : List MemPlace} (ht : P.underlying t = some (.slice et))
    (hr : Rd e (BK H) P W t (fun l : List α => [.sl (l.map enc)]) b) (hval : Value.okWide P W r b0 t v) (hd : DataW.Trod e P W 0 (fun _ => true) true t v d ps) : ∃ x : List α, rep (Sw W) W (.sl (x.map enc)) v ∧ ∀ n, BK H d ≤ n → b n x := by
  obtain ⟨a, len, cap, rfl⟩ := okWide_slice ht hval
  obtain ⟨fuel, h⟩ := hd
  obtain ⟨x, ⟨h1, h2⟩, h3⟩ := hr fuel _ _ h
  refine ⟨x, ?_, h3⟩
  simp only [repL] at h1
  obtain ⟨u, tl, h4, h5, rfl⟩ := h1
  have : Value.cells (.slice a len cap) = #[.slice a len cap] := rfl
  rw [this] at h4
  simp at h4
  subst h4
  exact h5
/-- what is asked of the call behind the walk: nothing that was there has turned -/
theorem post_true {fn : Func} {s : ChangeSpec} {args : Array Value} {ds gs : List (DataW H)} {before : List MemPlace} (hl : laidOutB P = true) (hts : ∀ t ∈ fn.params.toList, P.readableRec t = true ∧ t < P.types.size)
    (hvars : s.vars = []) {tb : TypeId} (hbt : P.underlying tb = some .bool) (hrt : fn.resultTypes = #[tb]) (hW : DataW.Whole e P fn.params.toList s.vars false W args.toList ds gs before)
    (hres : (s.fn H (ds ++ gs)).results = [.lit (.bool true)]) (hargs : (s.fn H (ds ++ gs)).args = ds) (hvs : (s.fn H (ds ++ gs)).vars = []) (hb : Below W.heap.size W W') :
    s.post e P fn false true false false W args (.bool true) W' := by
  have hlt := hW.lt
  have hW' := hW
  obtain ⟨p, q, hA, hV, rfl, hfz, hnd⟩ := hW
  rw [hvars] at hV
  obtain ⟨rfl, rfl⟩ := trodVars_none hV
  have hk : W.keptBut W' (· ∈ p ++ []) := hb.frame _
  have hold : ∀ x ∈ p ++ [], (fun b => decide (b < W.heap.size)) x.block = true := fun x hx => by simpa using hlt x hx
  have r1 : ∀ (b : Nat) (sp : Nat → Bool) (hd : Bool), DataW.TrodAll e P W' b sp hd fn.resultTypes.toList ((Value.bool true).resultList fn.resultTypes.size) (s.fn H (ds ++ [])).results [] := fun b sp hd => by
    rw [hrt, hres]
    exact trodAll_cons_mk (shut_bool hbt _) trodAll_mk0
  have r2 : ∀ sp : Nat → Bool, (∀ x ∈ p ++ [], sp x.block = true) → DataW.TrodAll e P W' 0 sp true fn.params.toList args.toList (s.fn H (ds ++ [])).args p := fun sp hsp => by
    rw [hargs]
    exact trodAll_keep hl hb hts hA (fun x hx => hlt x (by simp [hx])) sp (fun x hx => hsp x (by simp [hx]))
  have r3 : ∀ sp : Nat → Bool, DataW.TrodVars e P W' sp s.vars (s.fn H (ds ++ [])).vars [] := fun sp => by
    rw [hvars, hvs]; simp [DataW.TrodVars]
  refine ⟨ds, [], p ++ [], [], p, [], hW', r1 _ _ _, r2 _ hold, r3 _, World.keptBut_mono (fun x hx => ⟨hx, .inr (by simpa using hx)⟩) hk, fun _ => ?_⟩
  refine ⟨?_, _, _, ([] ++ p) ++ [], ⟨[] ++ p, [], trodAll_append (r2 _ (fun _ _ => rfl)) (r1 _ _ _), r3 _, rfl, ?_, ?_⟩, ?_⟩
  · exact ok_one hrt rfl (okWide_bool_mk hbt _)
  · intro b off hp
    have hp' : MemPlace.cell b off ∈ p ++ [] := by simpa using hp
    rw [hb.frozen (hlt _ hp')]
    exact hfz b off hp'
  · intro ha; simp at ha
  · intro x hx _
    simpa using hx
end
end Go.Proofs.YtbcfajfngdmgnaaGreatDoor
end

section
set_option linter.unusedSimpArgs false
set_option linter.unusedVariables false
namespace Go.Aw.D
open Go.Aw Go.RowKit Go.Proofs Go.Proofs.YtbcfajfngdmgnaaGreatDoor Go.WideShapes Go.ChangeShapes
set_option maxRecDepth 100000
section
variable {H : Type} {e : TypeId × Value → H} {w : World}
theorem rd_LRat : Rd e (BK H) Tryz.prog w 25 (fun l : List ByteArray => [.sl (l.map encStr)]) (bL bStr) := rd_slice (sz := 1) Tryz.underlying25 (by kernel_rfl) (by omega) (fun _ => rfl) (rd_str Tryz.underlying28)
end
/-- the list of tables that every row of this seat names -/
def rowLaid : List (String × DataW Unit) := [("math/bits.deBruijn32tab", Go.Proofs.YtbcfajfngdmgnaaGreatDoor.Rows.laid_math_bits_deBruijn32tab), ("math/bits.deBruijn64tab", Go.Proofs.YtbcfajfngdmgnaaGreatDoor.Rows.laid_math_bits_deBruijn64tab), ("internal/strconv.uint64pow10", Go.Proofs.YtbcfajfngdmgnaaGreatDoor.Rows.laid_internal_strconv_uint64pow10)]
theorem laid_bru : (Go.Proofs.YtbcfajfngdmgnaaGreatDoor.Rows.laid_math_bits_deBruijn64tab : DataW Unit) = Lib.tabData .u8 (Lib.deBruijn64tab.map fun z : Nat => (z : Int)) := by kernel_rfl
theorem laid_pow : (Go.Proofs.YtbcfajfngdmgnaaGreatDoor.Rows.laid_internal_strconv_uint64pow10 : DataW Unit) = Lib.tabData .u64 Lib.pow10Tab := by kernel_rfl
theorem tabsIn_of {W : World} (h : laidMetH Tryz.prog rowLaid W) : TabsIn W := by
  have h0 : laidMet Tryz.prog rowLaid W := (Go.MakeChecks.laidMetH_plain Tryz.prog rowLaid W (by kernel_rfl)) ▸ h
  have h1 := laidMet.tail h0
  have h2 := laidMet.tail h1
  rw [laid_bru] at h1
  rw [laid_pow] at h2
  have b := Lib.tabIs_of_head (g := 3) (by kernel_rfl) (by kernel_rfl) (t := 352) (e := 5) (n := 64) Tryz.underlying352 Tryz.underlying5 (by kernel_rfl) (by kernel_rfl) h1
  have p := Lib.tabIs_of_head (g := 1) (by kernel_rfl) (by kernel_rfl) (t := 337) (e := 317) (n := 20) Tryz.underlying337 Tryz.underlying317 (by kernel_rfl) (by kernel_rfl) h2
  unfold Lib.TabIs World.var? at b p
  rw [show Tryz.prog.globalNamed "math/bits.deBruijn64tab" = some 3 by kernel_rfl] at b
  rw [show Tryz.prog.globalNamed "internal/strconv.uint64pow10" = some 1 by kernel_rfl] at p
  intro t ht
  simp only [tabL, List.mem_cons, List.not_mem_nil, or_false] at ht
  rcases ht with rfl | rfl
  · exact p
  · have : bruTab = ((Lib.deBruijn64tab.map fun z : Nat => (z : Int)).map fun z => Value.int .u8 z).toArray := by simp [bruTab]
    rw [this]
    exact b
end Go.Aw.D
end
