/- Texts joined by a program: CuR, SaidMD. -/
import Derived.Lib.LaidIn
import Derived.MakeChecks
import Derived.Stop.LaidErr
import Derived.Test.YtbcfajfngdmgnaaGreatDoorCards
import Derived.Test.YtbcfajfngdmgnaaGreatDoorTie
import Derived.Deep.DeepHandedRow
import Derived.Deep.DeepWitnessRowRef
import Derived.SevenTiedAt
import Derived.Test.YtbcfajfngdmgnaaGreatDoorZn28

section
set_option linter.unusedSimpArgs false
set_option linter.unusedVariables false
namespace Go.Aw.D
open Go.Aw Go.RowKit Go.Proofs Go.Proofs.YtbcfajfngdmgnaaGreatDoor Go.WideShapes Go.ChangeShapes
set_option maxRecDepth 100000
section
variable {H : Type} {e : TypeId × Value → H} {w : World}
theorem rd_LRat : Rd e (BK H) Tryz.prog w 25 (fun l : List ByteArray => [.sl (l.map encStr)]) (bL bStr) := rd_slice (sz := 1) Tryz.underlying25 (by kernel_rfl) (by omega) (fun _ => rfl) (rd_str Tryz.underlying28)
end
def rowLaid : List (String × DataW Unit) := [("math/bits.deBruijn32tab", Go.Proofs.YtbcfajfngdmgnaaGreatDoor.Rows.laid_math_bits_deBruijn32tab), ("math/bits.deBruijn64tab", Go.Proofs.YtbcfajfngdmgnaaGreatDoor.Rows.laid_math_bits_deBruijn64tab), ("internal/strconv.uint64pow10", Go.Proofs.YtbcfajfngdmgnaaGreatDoor.Rows.laid_internal_strconv_uint64pow10)]
theorem laid_bru : (Go.Proofs.YtbcfajfngdmgnaaGreatDoor.Rows.laid_math_bits_deBruijn64tab : DataW Unit) = Lib.tabData .u8 (Lib.deBruijn64tab.map fun z : Nat => (z : Int)) := by kernel_rfl
theorem laid_pow : (Go.Proofs.YtbcfajfngdmgnaaGreatDoor.Rows.laid_internal_strconv_uint64pow10 : DataW Unit) = Lib.tabData .u64 Lib.pow10Tab := by kernel_rfl
theorem tabsIn_of {W : World} (h : laidMetH Tryz.prog rowLaid W) : TabsIn W := by
  have h0 : laidMet Tryz.prog rowLaid W := (Go.MakeChecks.laidMetH_plain Tryz.prog rowLaid W (by kernel_rfl)) ▸ h
  have h1 := laidMet.tail h0
  have h2 := laidMet.tail h1
  rw [laid_bru] at h1
  rw [laid_pow] at h2
  have b := Lib.tabIs_of_head (g := 3) (by kernel_rfl) (by kernel_rfl) (t := 352) (e := 5) (n := 64) Tryz.underlying352 Tryz.underlying5 (by kernel_rfl) (by kernel_rfl) h1
  have p := Lib.tabIs_of_head (g := 1) (by kernel_rfl) (by kernel_rfl) (t := 337) (e := 317) (n := 20) Tryz.underlying337 Tryz.underlying317 (by kernel_rfl) (by kernel_rfl) h2
  unfold Lib.TabIs World.var? at b p
  rw [show Tryz.prog.globalNamed "math/bits.deBruijn64tab" = some 3 by kernel_rfl] at b
  rw [show Tryz.prog.globalNamed "internal/strconv.uint64pow10" = some 1 by kernel_rfl] at p
  intro t ht
  simp only [tabL, List.mem_cons, List.not_mem_nil, or_false] at ht
  rcases ht with rfl | rfl
  · exact p
  · have : bruTab = ((Lib.deBruijn64tab.map fun z : Nat => (z : Int)).map fun z => Value.int .u8 z).toArray := by simp [bruTab]
    rw [this]
    exact b
end Go.Aw.D
end

section
set_option linter.unusedSimpArgs false
set_option linter.unusedVariables false
namespace Go.Proofs.YtbcfajfngdmgnaaGreatDoor.masterBounds
open Go.Aw Go.Aw.D Go.Proofs Go.RowKit Go.ChangeShapes Go.WideShapes Go.ChangeAt
set_option maxRecDepth 100000
def Holds : Prop := ∀ (x0 : Go.Aw.D.Ask) (x1 : List ByteArray), bAsk 1048576 x0 → (bL bStr) 1048576 x1 → PC Tryz.prog 12 [.agg (encAsk x0), .sl (x1.map Go.Aw.D.encStr)] (.v (.bool true))
theorem own : ownKnob Tryz.prog.godebug = none := by kernel_rfl
theorem laid : laidOutB Tryz.prog = true := by kernel_rfl
theorem readAsk : Tryz.prog.readableRec 73 = true ∧ 73 < Tryz.prog.types.size := ⟨by kernel_rfl, by decide +kernel⟩
theorem readLRat : Tryz.prog.readableRec 25 = true ∧ 25 < Tryz.prog.types.size := ⟨by kernel_rfl, by decide +kernel⟩
theorem contract (hh : Holds) (H : Type) (enc : TypeId × Value → H) (W : World) (base : Nat) (args : Array Value) (ds gs : List (DataW H)) (before : List MemPlace)
    (hval : ∀ (j : Nat) t v, Tryz.f12.params[j]? = some t → args[j]? = some v → Value.okWide Tryz.prog W .any base t v)
    (hW : DataW.Whole enc Tryz.prog Tryz.f12.params.toList Rows.masterBoundsSpec.vars false W args.toList ds gs before) (hk : Rows.uptoSmall H (ds ++ gs) = true) (ht : TabsIn W) :
    Calls Tryz.prog 12 args W fun e W' => ∃ v, e = .returned v ∧ Rows.masterBoundsSpec.post enc Tryz.prog Tryz.f12 false true false false W args v W' := by
  have hW' := hW
  obtain ⟨p, q, hA0, hV, rfl, hfz, hnd⟩ := hW
  have hA : DataW.TrodAll enc Tryz.prog W 0 (fun _ => true) true [73, 25] args.toList ds p := hA0
  obtain ⟨v0, v1, d0, d1, p0, p1, rfl, rfl, rfl, h0, h1⟩ := trodAll_two hA
  obtain ⟨rfl, rfl⟩ := trodVars_none hV
  clear hA0
  simp only [List.append_nil] at hW' hk
  have hb : Rows.uptoBulkAll [d0, d1] ≤ 1048576 := of_decide_eq_true hk
  simp only [Rows.uptoBulkAll] at hb
  obtain ⟨x0, r0, b0⟩ := arg_struct Tryz.underlying73 rd_Ask (hval 0 73 v0 rfl rfl) h0
  obtain ⟨x1, r1, b1⟩ := arg_slice Tryz.underlying25 rd_LRat (hval 1 25 v1 rfl rfl) h1
  refine (calls_of_PC (vals := [v0, v1]) (hh x0 x1 (b0 _ (by simp only [BK]; omega)) (b1 _ (by simp only [BK]; omega))) ht (by simp only [repL]; exact ⟨_, _, rfl, r0, ⟨_, _, rfl, r1, rfl⟩⟩)).mono fun e W' ⟨he, hg⟩ => ?_
  subst he
  exact ⟨_, rfl, post_true laid (by
    intro t ht
    have ht : t ∈ [73, 25] := ht
    simp only [List.mem_cons, List.not_mem_nil, or_false] at ht
    rcases ht with rfl | rfl
    · exact readAsk
    · exact readLRat
    ) rfl Tryz.underlying4 rfl (gs := []) (by simpa using hW') rfl rfl rfl hg⟩
def cellsOf : DataW Unit → Array Value
  | .agg l => (l.map fun d => match d with | .lit (.int k n) => Value.int k n | _ => undef).toArray
  | _ => #[]
noncomputable def laidWorld (os : Os) : World :=
  let w0 := World.holding Tryz.prog os ⟨#[], #[], []⟩
  let put (h : Array Obj) (g : Nat) (cs : Array Value) : Array Obj := h.modify g fun
    | .cells _ t frozen => .cells cs t frozen
    | o => o
  let h1 := put w0.heap 2 (cellsOf Rows.laid_math_bits_deBruijn32tab)
  let h2 := put h1 3 (cellsOf Rows.laid_math_bits_deBruijn64tab)
  let h3 := put h2 1 (cellsOf Rows.laid_internal_strconv_uint64pow10)
  { w0 with heap := h3 }
theorem laid_met (os : Os) : laidMet Tryz.prog Rows.masterBoundsUptoRow.laid ((laidWorld os).forCall (fun _ _ => 0) ⟨#[], #[.agg #[.slice none 0 0, .slice none 0 0, .slice none 0 0, .slice none 0 0, .slice none 0 0, .slice none 0 0, .slice none 0 0, .slice none 0 0, .slice none 0 0], .slice none 0 0], []⟩).memory :=
  laidMet_of_run' 8 (by kernel_rfl) (by kernel_rfl)
theorem reads (os : Os) {H : Type} (enc : TypeId × Value → H) : ∃ places, DataW.whole enc Tryz.prog ((laidWorld os).forCall (fun _ _ => 0) ⟨#[], #[.agg #[.slice none 0 0, .slice none 0 0, .slice none 0 0, .slice none 0 0, .slice none 0 0, .slice none 0 0, .slice none 0 0, .slice none 0 0, .slice none 0 0], .slice none 0 0], []⟩).memory Tryz.f12.params.toList Rows.masterBoundsSpec.vars false (#[.agg #[.slice none 0 0, .slice none 0 0, .slice none 0 0, .slice none 0 0, .slice none 0 0, .slice none 0 0, .slice none 0 0, .slice none 0 0, .slice none 0 0], .slice none 0 0] : Array Value).toList 8 = some ([.agg [.agg [.agg [.nil, .nil], .nil, .nil, .nil, .nil], .nil, .nil, .nil], .nil], [], places) :=
  ⟨[], by kernel_rfl⟩
theorem lifted (hh : Holds) (os : Os) (started : os.Started) (H : Type) (enc : TypeId × Value → H) (F : Stop.Interp) :
    ReturnsInHanded {} Tryz.checked os 12 .any ((Rows.OpenSpec.upto Rows.masterBoundsSpec).preRow enc Tryz.prog Tryz.f12 Rows.masterBoundsUptoRow.domain false Rows.masterBoundsUptoRow.laid) (((Rows.OpenSpec.upto Rows.masterBoundsSpec).at F).post enc Tryz.prog Tryz.f12 false true false false) := by
  obtain ⟨places, hx⟩ := reads os enc
  refine returnsInHanded_of_row (C := Tryz.checked) (s := Rows.OpenSpec.upto Rows.masterBoundsSpec) own started (by kernel_rfl) Tryz.func12
    (witness_row_atRef (enc := enc) (C := Tryz.checked) false (laidWorld os) #[.agg #[.slice none 0 0, .slice none 0 0, .slice none 0 0, .slice none 0 0, .slice none 0 0, .slice none 0 0, .slice none 0 0, .slice none 0 0, .slice none 0 0], .slice none 0 0] rfl (by kernel_rfl) (by kernel_rfl) (by kernel_rfl)
      (OpenSpec.preRow_of_cond 8 hx (by kernel_rfl) (fun k hk => by cases hk; kernel_rfl) (by kernel_rfl) (laid_met os))) ?_
  intro W base args ds gs before hval hW _ hk _ hlaid _ _
  exact contract hh H enc W base args ds gs before hval hW (hk _ rfl) (tabsIn_of hlaid)
theorem and_mk {a b : Bool} (h1 : a = true) (h2 : b = true) : (a && b) = true := by rw [h1, h2]; rfl
set_option maxHeartbeats 4000000 in
theorem closed : joinedFacts Tryz.prog 12 Tryz.f12 (Rows.OpenSpec.upto Rows.masterBoundsSpec).bare Rows.masterBoundsUptoRow = true := by
  unfold joinedFacts
  repeat' (first | with_reducible refine and_mk ?_ ?_ | (as_aux_lemma => kernel_rfl))
set_option maxHeartbeats 4000000 in
theorem over (hh : Holds) : Rows.MasterBoundsUptoSaid :=
  OpenClaim.holds_of_cond 12 Tryz.f12 rfl rfl rfl rfl rfl rfl rfl ⟨rfl, rfl, rfl, rfl, rfl⟩ rfl rfl rfl rfl rfl (by as_aux_lemma => kernel_rfl) Tryz.func12 closed
    (of_decide_eq_true (by as_aux_lemma => kernel_rfl)) (by unfold Func.isWrapper; first | (rw [if_pos (by decide +kernel)]; kernel_rfl) | (rw [if_neg (by decide +kernel)]; exact ⟨rfl, rfl⟩))
    (fun os started H enc _ F => by rw [OpenClaim.pre_eq_preRow]; exact lifted hh os started H enc F)
set_option maxHeartbeats 4000000 in
theorem card (hh : Holds) : Rows.MasterBoundsUptoCardSaid :=
  Claim7.holds_tied_plain_at .later [] _ _ _ _ (over hh) (fun _ h => by cases h) (by as_aux_lemma => kernel_rfl) (fun _ h => by cases h) masterBoundsUpto_row_tie rfl ⟨rfl, rfl⟩ (by as_aux_lemma => kernel_rfl) rfl
    (fun f fn hf hfn => by
      obtain rfl : f = 12 := Option.some.inj ((show Tryz.prog.funcNamed "lorry/lorrylaw30.MasterBounds" = some 12 by as_aux_lemma => kernel_rfl).symm.trans hf) |>.symm
      obtain rfl : fn = Tryz.f12 := (Option.some.inj (Tryz.func12.symm.trans hfn)).symm
      refine ⟨by as_aux_lemma => kernel_rfl, fun j t ht => ?_⟩
      have ht : (#[73, 25] : Array TypeId)[j]? = some t := ht
      have hm := Array.mem_of_getElem? ht
      simp only [Array.mem_def, List.mem_cons, List.not_mem_nil, or_false, or_self] at hm
      rcases hm with rfl | rfl
      · exact (show Tryz.prog.wantsStandIn 73 = false by as_aux_lemma => kernel_rfl)
      · exact (show Tryz.prog.wantsStandIn 25 = false by as_aux_lemma => kernel_rfl)) (by as_aux_lemma => kernel_rfl)
end Go.Proofs.YtbcfajfngdmgnaaGreatDoor.masterBounds
end
