/- StrongOrder: whatever the input the law returns true and changes no argument. Conditions: none; the listed package variables read as the program's text lays them (the card ties them). -/
import Derived.Test.YtpdmcjaghdolcaaGreatDoorCards
import Derived.Test.YtpdmcjaghdolcaaGreatDoorTie
import Derived.Test.YtpdmcjaghdolcaaGreatDoorBridge
import Derived.Test.YtpdmcjaghdolcaaGreatDoorStB
import Derived.Deep.DeepHandedRow
import Derived.Deep.DeepWitnessRowRef
import Derived.Lib.LaidIn
import Derived.SevenTiedAt
set_option linter.unusedSimpArgs false
set_option linter.unusedVariables false
namespace Go.Proofs.YtpdmcjaghdolcaaGreatDoor.strongOrder
open Go.Aw Go.Aw.D Go.Proofs Go.RowKit Go.ChangeShapes Go.WideShapes Go.ChangeAt
set_option maxRecDepth 100000
def Holds : Prop := ∀ (x0 : Weight) (x1 : Weight) (x2 : Weight), PC Tryz.prog 4 [.agg (encWeight x0), .agg (encWeight x1), .agg (encWeight x2)] (.v (.bool true))
theorem own : ownKnob Tryz.prog.godebug = none := by kernel_rfl
theorem laidOut : laidOutB Tryz.prog = true := by kernel_rfl
theorem readWeight : Tryz.prog.readableRec 23 = true ∧ 23 < Tryz.prog.types.size := ⟨by kernel_rfl, by decide +kernel⟩
theorem contract (hh : Holds) (H : Type) (enc : TypeId × Value → H) (W : World) (base : Nat) (args : Array Value) (ds gs : List (DataW H)) (before : List MemPlace)
    (hval : ∀ (j : Nat) t v, Tryz.f4.params[j]? = some t → args[j]? = some v → Value.okWide Tryz.prog W .any base t v)
    (hW : DataW.Whole enc Tryz.prog Tryz.f4.params.toList Rows.strongOrderSpec.vars false W args.toList ds gs before) :
    Calls Tryz.prog 4 args W fun e W' => ∃ v, e = .returned v ∧ Rows.strongOrderSpec.post enc Tryz.prog Tryz.f4 false true false false W args v W' := by
  have hW' := hW
  obtain ⟨p, q, hA0, hV, rfl, hfz, hnd⟩ := hW
  have hA : DataW.TrodAll enc Tryz.prog W 0 (fun _ => true) true [23, 23, 23] args.toList ds p := hA0
  obtain ⟨v0, v1, v2, d0, d1, d2, p0, p1, p2, rfl, rfl, rfl, h0, h1, h2⟩ := trodAll_three hA
  obtain ⟨rfl, rfl⟩ := trodVars_none hV
  clear hA0
  simp only [List.append_nil] at hW'
  obtain ⟨x0, r0, b0⟩ := arg_struct Tryz.underlying23 rd_Weight (hval 0 23 v0 rfl rfl) h0
  obtain ⟨x1, r1, b1⟩ := arg_struct Tryz.underlying23 rd_Weight (hval 1 23 v1 rfl rfl) h1
  obtain ⟨x2, r2, b2⟩ := arg_struct Tryz.underlying23 rd_Weight (hval 2 23 v2 rfl rfl) h2
  refine (calls_of_PC (vals := [v0, v1, v2]) (hh x0 x1 x2) (by simp only [repL]; exact ⟨_, _, rfl, r0, ⟨_, _, rfl, r1, ⟨_, _, rfl, r2, rfl⟩⟩⟩)).mono fun e W' ⟨he, hg⟩ => ?_
  subst he
  exact ⟨_, rfl, post_true laidOut (by
    intro t ht
    have ht : t ∈ [23, 23, 23] := ht
    simp only [List.mem_cons, List.not_mem_nil, or_false] at ht
    rcases ht with rfl | rfl | rfl
    · exact readWeight
    · exact readWeight
    · exact readWeight
    ) rfl Tryz.underlying4 rfl (gs := []) (by simpa using hW') rfl rfl rfl hg⟩

/-- the cells of a listed table; the letters of a listed error -/
def cellsOf : DataW Unit → Array Value
  | .agg l => (l.map fun d => match d with | .lit (.int k n) => Value.int k n | _ => undef).toArray
  | _ => #[]
def lettersOf : DataW Unit → ByteArray
  | .iface _ (.ptr (.agg [.lit (.string b)])) => ⟨b.toArray⟩
  | _ => ⟨#[]⟩
/-- THE WITNESS: the settled world with two blocks more (the two errors' structs), the five variables holding what their initialisers lay. -/
noncomputable def laidWorld (os : Os) : World :=
  let N := (World.settled Tryz.prog os).heap.size
  let w0 := World.holding Tryz.prog os ⟨#[.cells #[.string (lettersOf Rows.laid_strconv_ErrRange)] 292, .cells #[.string (lettersOf Rows.laid_strconv_ErrSyntax)] 292], #[], []⟩
  let put (h : Array Obj) (g : Nat) (cs : Array Value) : Array Obj := h.modify g fun
    | .cells _ t frozen => .cells cs t frozen
    | o => o
  let h1 := put w0.heap 1 #[.iface 290 (.pointer (some ⟨N, 0, none⟩))]
  let h2 := put h1 0 #[.iface 290 (.pointer (some ⟨N + 1, 0, none⟩))]
  let h3 := put h2 3 (cellsOf Rows.laid_internal_strconv_uint64pow10)
  let h4 := put h3 4 (cellsOf Rows.laid_math_bits_deBruijn32tab)
  let h5 := put h4 5 (cellsOf Rows.laid_math_bits_deBruijn64tab)
  { w0 with heap := h5 }
theorem laid_met (os : Os) : laidMet Tryz.prog Rows.strongOrderRow.laid ((laidWorld os).forCall (fun _ _ => 0) ⟨#[], #[.agg #[.int .i64 0, .int .i64 0, .bool false, .bool false], .agg #[.int .i64 0, .int .i64 0, .bool false, .bool false], .agg #[.int .i64 0, .int .i64 0, .bool false, .bool false]], []⟩).memory :=
  laidMet_of_run' 8 (by kernel_rfl) (by kernel_rfl)
theorem reads (os : Os) {H : Type} (enc : TypeId × Value → H) : ∃ places, DataW.whole enc Tryz.prog ((laidWorld os).forCall (fun _ _ => 0) ⟨#[], #[.agg #[.int .i64 0, .int .i64 0, .bool false, .bool false], .agg #[.int .i64 0, .int .i64 0, .bool false, .bool false], .agg #[.int .i64 0, .int .i64 0, .bool false, .bool false]], []⟩).memory Tryz.f4.params.toList Rows.strongOrderSpec.vars false (#[.agg #[.int .i64 0, .int .i64 0, .bool false, .bool false], .agg #[.int .i64 0, .int .i64 0, .bool false, .bool false], .agg #[.int .i64 0, .int .i64 0, .bool false, .bool false]] : Array Value).toList 8 = some ([.agg [.lit (.int .i64 0), .lit (.int .i64 0), .lit (.bool false), .lit (.bool false)], .agg [.lit (.int .i64 0), .lit (.int .i64 0), .lit (.bool false), .lit (.bool false)], .agg [.lit (.int .i64 0), .lit (.int .i64 0), .lit (.bool false), .lit (.bool false)]], [], places) :=
  ⟨[], by kernel_rfl⟩
theorem lifted (hh : Holds) (os : Os) (started : os.Started) (H : Type) (enc : TypeId × Value → H) (F : Stop.Interp) :
    ReturnsInHanded {} Tryz.checked os 4 .any ((OpenSpec.ofChange Rows.strongOrderSpec).preRow enc Tryz.prog Tryz.f4 Rows.strongOrderRow.domain false Rows.strongOrderRow.laid) (((OpenSpec.ofChange Rows.strongOrderSpec).at F).post enc Tryz.prog Tryz.f4 false true false false) := by
  obtain ⟨places, hx⟩ := reads os enc
  refine returnsInHanded_of_row (C := Tryz.checked) (s := OpenSpec.ofChange Rows.strongOrderSpec) own started (by kernel_rfl) Tryz.func4
    (witness_row_atRef (enc := enc) (C := Tryz.checked) false (laidWorld os) #[.agg #[.int .i64 0, .int .i64 0, .bool false, .bool false], .agg #[.int .i64 0, .int .i64 0, .bool false, .bool false], .agg #[.int .i64 0, .int .i64 0, .bool false, .bool false]] rfl (by kernel_rfl) (by kernel_rfl) (by kernel_rfl)
      (OpenSpec.preRow_of_cond 8 hx (by kernel_rfl) (fun k hk => by cases hk) (by kernel_rfl) (laid_met os))) ?_
  intro W base args ds gs before hval hW _ _ _ hL _ _
  exact contract hh H enc W base args ds gs before hval hW
theorem said (hh : Holds) : Rows.StrongOrderSaid :=
  OpenClaim.holds_of_cond 4 Tryz.f4 rfl rfl rfl rfl rfl rfl rfl ⟨rfl, rfl, rfl, rfl, rfl⟩ rfl rfl rfl rfl rfl (by kernel_rfl) Tryz.func4 (by kernel_rfl)
    (of_decide_eq_true (by kernel_rfl)) (by unfold Func.isWrapper; first | (rw [if_pos (by decide +kernel)]; kernel_rfl) | (rw [if_neg (by decide +kernel)]; exact ⟨rfl, rfl⟩))
    (fun os started H enc _ F => by rw [OpenClaim.pre_eq_preRow]; exact lifted hh os started H enc F)
theorem card (hh : Holds) : Rows.StrongOrderCardSaid :=
  Claim7.holds_tied_plain_at .later [] _ _ _ _ (said hh) (fun _ h => by cases h) (by kernel_rfl) (fun _ h => by cases h) strongOrder_row_tie rfl ⟨rfl, rfl⟩ (by kernel_rfl) rfl
    (fun f fn hf hfn => by
      obtain rfl : f = 4 := Option.some.inj ((show Tryz.prog.funcNamed "lorry/lorrylaw36.StrongOrder" = some 4 by kernel_rfl).symm.trans hf) |>.symm
      obtain rfl : fn = Tryz.f4 := (Option.some.inj (Tryz.func4.symm.trans hfn)).symm
      refine ⟨by kernel_rfl, fun j t ht => ?_⟩
      have ht : (#[23, 23, 23] : Array TypeId)[j]? = some t := ht
      have hm := Array.mem_of_getElem? ht
      simp only [Array.mem_def, List.mem_cons, List.not_mem_nil, or_false, or_self] at hm
      subst hm
      exact (show Tryz.prog.wantsStandIn 23 = false by kernel_rfl)) (by kernel_rfl)
end Go.Proofs.YtpdmcjaghdolcaaGreatDoor.strongOrder
namespace Go.Proofs.YtpdmcjaghdolcaaGreatDoor
theorem strongOrder_holds : Rows.StrongOrderCardSaid := strongOrder.card St.orders_c
#print axioms strongOrder_holds
end Go.Proofs.YtpdmcjaghdolcaaGreatDoor
