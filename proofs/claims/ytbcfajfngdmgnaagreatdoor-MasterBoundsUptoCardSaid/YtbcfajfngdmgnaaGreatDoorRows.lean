/-
  NARROWER THAN 'FOR EVERY INPUT', by the rows' own cells (each row's printed sentence says how): CutBreaks: laid · CutFinds: laid · CutHolds: laid · CutChecks: laid · MasterBuilds: laid · MasterCounts: laid · MasterReduces: laid · MasterPlans: laid · MasterServes: laid · MasterBounds: laid.
  DERIVED. THE GIVEN ROWS OF THIS SEAT. 10 by the template 'for every input the law returns true; each argument reads behind the call as it read before'; 0 by the template 'total and deterministic' (their statements: YtbcfajfngdmgnaaGreatDoorTotals.lean).
  GIVEN WITH THE SEED: the statements are not yours to turn. If you find one false, say at which input.
  Laid BY PROGRAM, IN A SANDBOX (cutbox-rows.mjs): the forced cells as the released guide's own fill.sh prints them over the translation c5e3a9b6cb2ed9e6… (all of the seat's roots in one cut). By AI agents, Wed Nov 11 2026. No macro, syntax, notation, axiom, sorry.
-/
import Derived.Test.YtbcfajfngdmgnaaGreatDoorChecked
import GoSem.Claim
import GoSem.ClaimJoined
import GoSem.ClaimMapViews
import Derived.JoinedTies
import Derived.KernelRfl
namespace Go.Proofs.YtbcfajfngdmgnaaGreatDoor
/- THE CELL 'sum', in the pinned program and in every row, IS THE sha256 OF THE DUMP (.gsa) THAT YtbcfajfngdmgnaaGreatDoorProg.lean LOADS. Nothing in Lean hashes anything: it is a label: what it is worth is what the hold of that sum in a sandbox is worth. -/
noncomputable def Tryz.pinned : Pinned := { name := "ytbcfajfngdmgnaagreatdoor", sum := "c5e3a9b6cb2ed9e6bfad29daf38263226116e292db0fb1447efba202716f4eb1", checked := Tryz.checked }
namespace Rows
def none {H : Type} : Left H := { results := [], args := [] }

/- WHAT THE LISTED PACKAGE-LEVEL VARIABLES READ AS WHEN THE CALL BEGINS. Each datum BY PROGRAM (the guide's laid-datum.mjs) off the statement by which the dump's own 'gosem.cut.vars' lays the variable. In a bare row this is a premise. The card (YtbcfajfngdmgnaaGreatDoorCards.lean) ties it to the program's text. -/
def laid_math_bits_deBruijn32tab {H : Type} : DataW H := .agg [.lit (.int .u8 0), .lit (.int .u8 1), .lit (.int .u8 28), .lit (.int .u8 2), .lit (.int .u8 29), .lit (.int .u8 14), .lit (.int .u8 24), .lit (.int .u8 3), .lit (.int .u8 30), .lit (.int .u8 22), .lit (.int .u8 20), .lit (.int .u8 15), .lit (.int .u8 25), .lit (.int .u8 17), .lit (.int .u8 4), .lit (.int .u8 8), .lit (.int .u8 31), .lit (.int .u8 27), .lit (.int .u8 13), .lit (.int .u8 23), .lit (.int .u8 21), .lit (.int .u8 19), .lit (.int .u8 16), .lit (.int .u8 7), .lit (.int .u8 26), .lit (.int .u8 12), .lit (.int .u8 18), .lit (.int .u8 6), .lit (.int .u8 11), .lit (.int .u8 5), .lit (.int .u8 10), .lit (.int .u8 9)]
def laid_math_bits_deBruijn64tab {H : Type} : DataW H := .agg [.lit (.int .u8 0), .lit (.int .u8 1), .lit (.int .u8 56), .lit (.int .u8 2), .lit (.int .u8 57), .lit (.int .u8 49), .lit (.int .u8 28), .lit (.int .u8 3), .lit (.int .u8 61), .lit (.int .u8 58), .lit (.int .u8 42), .lit (.int .u8 50), .lit (.int .u8 38), .lit (.int .u8 29), .lit (.int .u8 17), .lit (.int .u8 4), .lit (.int .u8 62), .lit (.int .u8 47), .lit (.int .u8 59), .lit (.int .u8 36), .lit (.int .u8 45), .lit (.int .u8 43), .lit (.int .u8 51), .lit (.int .u8 22), .lit (.int .u8 53), .lit (.int .u8 39), .lit (.int .u8 33), .lit (.int .u8 30), .lit (.int .u8 24), .lit (.int .u8 18), .lit (.int .u8 12), .lit (.int .u8 5), .lit (.int .u8 63), .lit (.int .u8 55), .lit (.int .u8 48), .lit (.int .u8 27), .lit (.int .u8 60), .lit (.int .u8 41), .lit (.int .u8 37), .lit (.int .u8 16), .lit (.int .u8 46), .lit (.int .u8 35), .lit (.int .u8 44), .lit (.int .u8 21), .lit (.int .u8 52), .lit (.int .u8 32), .lit (.int .u8 23), .lit (.int .u8 11), .lit (.int .u8 54), .lit (.int .u8 26), .lit (.int .u8 40), .lit (.int .u8 15), .lit (.int .u8 34), .lit (.int .u8 20), .lit (.int .u8 31), .lit (.int .u8 10), .lit (.int .u8 25), .lit (.int .u8 14), .lit (.int .u8 19), .lit (.int .u8 9), .lit (.int .u8 13), .lit (.int .u8 8), .lit (.int .u8 7), .lit (.int .u8 6)]
def laid_internal_strconv_uint64pow10 {H : Type} : DataW H := .agg [.lit (.int .u64 1), .lit (.int .u64 10), .lit (.int .u64 100), .lit (.int .u64 1000), .lit (.int .u64 10000), .lit (.int .u64 100000), .lit (.int .u64 1000000), .lit (.int .u64 10000000), .lit (.int .u64 100000000), .lit (.int .u64 1000000000), .lit (.int .u64 10000000000), .lit (.int .u64 100000000000), .lit (.int .u64 1000000000000), .lit (.int .u64 10000000000000), .lit (.int .u64 100000000000000), .lit (.int .u64 1000000000000000), .lit (.int .u64 10000000000000000), .lit (.int .u64 100000000000000000), .lit (.int .u64 1000000000000000000), .lit (.int .u64 10000000000000000000)]

/-- 'lorrylaw28.CutBreaks': WHATEVER THE INPUT: true; the input reads as it did. -/
def cutBreaksSpec : ChangeSpec := { name := "cutBreaks", fn := fun _ => fun
  | [d1, d2, d3] => { results := [.lit (.bool true)], args := [d1, d2, d3] }
  | _ => none }
def cutBreaksRow : OpenClaim := { program := "ytbcfajfngdmgnaagreatdoor", sum := "c5e3a9b6cb2ed9e6bfad29daf38263226116e292db0fb1447efba202716f4eb1", func := "lorry/lorrylaw28.CutBreaks", spec := "cutBreaks", inPlace := ["internal/bytealg.IndexByteString", "internal/bytealg.IndexString", "internal/abi.NoEscape", "internal/bytealg.MakeNoZero", "internal/bytealg.abigen_runtime_cmpstring"], unfollowed := true, recurses := true, named := ["internal/bytealg.MaxLen", "internal/strconv.uint64pow10", "math/bits.deBruijn32tab", "math/bits.deBruijn64tab"], apart := false, laid := [("math/bits.deBruijn32tab", laid_math_bits_deBruijn32tab), ("math/bits.deBruijn64tab", laid_math_bits_deBruijn64tab), ("internal/strconv.uint64pow10", laid_internal_strconv_uint64pow10)] }
def CutBreaksSaid : Prop := cutBreaksRow.holds Tryz.pinned (OpenSpec.ofChange cutBreaksSpec)

/-- ITS FALSE NEIGHBOUR: 'it returns false'. Refute it at one input. -/
def cutBreaksWrong : ChangeSpec := { name := "cutBreaks", fn := fun _ => fun
  | [d1, d2, d3] => { results := [.lit (.bool false)], args := [d1, d2, d3] }
  | _ => none }
def CutBreaksWrongFalsely : Prop := cutBreaksRow.holds Tryz.pinned (OpenSpec.ofChange cutBreaksWrong)

/-- 'lorrylaw28.CutFinds': WHATEVER THE INPUT: true; the input reads as it did. -/
def cutFindsSpec : ChangeSpec := { name := "cutFinds", fn := fun _ => fun
  | [d1, d2, d3] => { results := [.lit (.bool true)], args := [d1, d2, d3] }
  | _ => none }
def cutFindsRow : OpenClaim := { program := "ytbcfajfngdmgnaagreatdoor", sum := "c5e3a9b6cb2ed9e6bfad29daf38263226116e292db0fb1447efba202716f4eb1", func := "lorry/lorrylaw28.CutFinds", spec := "cutFinds", inPlace := ["internal/bytealg.IndexByteString", "internal/bytealg.IndexString", "internal/abi.NoEscape", "internal/bytealg.MakeNoZero", "internal/bytealg.abigen_runtime_cmpstring"], unfollowed := true, recurses := true, named := ["internal/bytealg.MaxLen", "internal/strconv.uint64pow10", "math/bits.deBruijn32tab", "math/bits.deBruijn64tab"], apart := false, laid := [("math/bits.deBruijn32tab", laid_math_bits_deBruijn32tab), ("math/bits.deBruijn64tab", laid_math_bits_deBruijn64tab), ("internal/strconv.uint64pow10", laid_internal_strconv_uint64pow10)] }
def CutFindsSaid : Prop := cutFindsRow.holds Tryz.pinned (OpenSpec.ofChange cutFindsSpec)

/-- ITS FALSE NEIGHBOUR: 'it returns false'. Refute it at one input. -/
def cutFindsWrong : ChangeSpec := { name := "cutFinds", fn := fun _ => fun
  | [d1, d2, d3] => { results := [.lit (.bool false)], args := [d1, d2, d3] }
  | _ => none }
def CutFindsWrongFalsely : Prop := cutFindsRow.holds Tryz.pinned (OpenSpec.ofChange cutFindsWrong)

/-- 'lorrylaw28.CutHolds': WHATEVER THE INPUT: true; the input reads as it did. -/
def cutHoldsSpec : ChangeSpec := { name := "cutHolds", fn := fun _ => fun
  | [d1, d2, d3] => { results := [.lit (.bool true)], args := [d1, d2, d3] }
  | _ => none }
def cutHoldsRow : OpenClaim := { program := "ytbcfajfngdmgnaagreatdoor", sum := "c5e3a9b6cb2ed9e6bfad29daf38263226116e292db0fb1447efba202716f4eb1", func := "lorry/lorrylaw28.CutHolds", spec := "cutHolds", inPlace := ["internal/bytealg.IndexByteString", "internal/bytealg.IndexString", "internal/abi.NoEscape", "internal/bytealg.MakeNoZero", "internal/bytealg.abigen_runtime_cmpstring"], unfollowed := true, recurses := true, named := ["internal/bytealg.MaxLen", "internal/strconv.uint64pow10", "math/bits.deBruijn32tab", "math/bits.deBruijn64tab"], apart := false, laid := [("math/bits.deBruijn32tab", laid_math_bits_deBruijn32tab), ("math/bits.deBruijn64tab", laid_math_bits_deBruijn64tab), ("internal/strconv.uint64pow10", laid_internal_strconv_uint64pow10)] }
def CutHoldsSaid : Prop := cutHoldsRow.holds Tryz.pinned (OpenSpec.ofChange cutHoldsSpec)

/-- ITS FALSE NEIGHBOUR: 'it returns false'. Refute it at one input. -/
def cutHoldsWrong : ChangeSpec := { name := "cutHolds", fn := fun _ => fun
  | [d1, d2, d3] => { results := [.lit (.bool false)], args := [d1, d2, d3] }
  | _ => none }
def CutHoldsWrongFalsely : Prop := cutHoldsRow.holds Tryz.pinned (OpenSpec.ofChange cutHoldsWrong)

/-- 'lorrylaw28.CutChecks': WHATEVER THE INPUT: true; the input reads as it did. -/
def cutChecksSpec : ChangeSpec := { name := "cutChecks", fn := fun _ => fun
  | [d1, d2, d3] => { results := [.lit (.bool true)], args := [d1, d2, d3] }
  | _ => none }
def cutChecksRow : OpenClaim := { program := "ytbcfajfngdmgnaagreatdoor", sum := "c5e3a9b6cb2ed9e6bfad29daf38263226116e292db0fb1447efba202716f4eb1", func := "lorry/lorrylaw28.CutChecks", spec := "cutChecks", inPlace := ["internal/bytealg.IndexByteString", "internal/bytealg.IndexString", "internal/abi.NoEscape", "internal/bytealg.MakeNoZero", "internal/bytealg.abigen_runtime_cmpstring"], unfollowed := true, recurses := true, named := ["internal/bytealg.MaxLen", "internal/strconv.uint64pow10", "math/bits.deBruijn32tab", "math/bits.deBruijn64tab"], apart := false, laid := [("math/bits.deBruijn32tab", laid_math_bits_deBruijn32tab), ("math/bits.deBruijn64tab", laid_math_bits_deBruijn64tab), ("internal/strconv.uint64pow10", laid_internal_strconv_uint64pow10)] }
def CutChecksSaid : Prop := cutChecksRow.holds Tryz.pinned (OpenSpec.ofChange cutChecksSpec)

/-- ITS FALSE NEIGHBOUR: 'it returns false'. Refute it at one input. -/
def cutChecksWrong : ChangeSpec := { name := "cutChecks", fn := fun _ => fun
  | [d1, d2, d3] => { results := [.lit (.bool false)], args := [d1, d2, d3] }
  | _ => none }
def CutChecksWrongFalsely : Prop := cutChecksRow.holds Tryz.pinned (OpenSpec.ofChange cutChecksWrong)

/-- 'lorrylaw30.MasterBuilds': WHATEVER THE INPUT: true; the input reads as it did. -/
def masterBuildsSpec : ChangeSpec := { name := "masterBuilds", fn := fun _ => fun
  | [d] => { results := [.lit (.bool true)], args := [d] }
  | _ => none }
def masterBuildsRow : OpenClaim := { program := "ytbcfajfngdmgnaagreatdoor", sum := "c5e3a9b6cb2ed9e6bfad29daf38263226116e292db0fb1447efba202716f4eb1", func := "lorry/lorrylaw30.MasterBuilds", spec := "masterBuilds", inPlace := ["internal/bytealg.IndexByteString", "internal/bytealg.IndexString", "internal/abi.NoEscape", "internal/bytealg.MakeNoZero", "internal/bytealg.abigen_runtime_cmpstring"], unfollowed := true, recurses := true, named := ["internal/bytealg.MaxLen", "internal/strconv.uint64pow10", "math/bits.deBruijn32tab", "math/bits.deBruijn64tab"], apart := false, laid := [("math/bits.deBruijn32tab", laid_math_bits_deBruijn32tab), ("math/bits.deBruijn64tab", laid_math_bits_deBruijn64tab), ("internal/strconv.uint64pow10", laid_internal_strconv_uint64pow10)] }
def MasterBuildsSaid : Prop := masterBuildsRow.holds Tryz.pinned (OpenSpec.ofChange masterBuildsSpec)

/-- ITS FALSE NEIGHBOUR: 'it returns false'. Refute it at one input. -/
def masterBuildsWrong : ChangeSpec := { name := "masterBuilds", fn := fun _ => fun
  | [d] => { results := [.lit (.bool false)], args := [d] }
  | _ => none }
def MasterBuildsWrongFalsely : Prop := masterBuildsRow.holds Tryz.pinned (OpenSpec.ofChange masterBuildsWrong)

/-- 'lorrylaw30.MasterCounts': WHATEVER THE INPUT: true; the input reads as it did. -/
def masterCountsSpec : ChangeSpec := { name := "masterCounts", fn := fun _ => fun
  | [d] => { results := [.lit (.bool true)], args := [d] }
  | _ => none }
def masterCountsRow : OpenClaim := { program := "ytbcfajfngdmgnaagreatdoor", sum := "c5e3a9b6cb2ed9e6bfad29daf38263226116e292db0fb1447efba202716f4eb1", func := "lorry/lorrylaw30.MasterCounts", spec := "masterCounts", inPlace := ["internal/bytealg.IndexByteString", "internal/bytealg.IndexString", "internal/abi.NoEscape", "internal/bytealg.MakeNoZero", "internal/bytealg.abigen_runtime_cmpstring"], unfollowed := true, recurses := true, named := ["internal/bytealg.MaxLen", "internal/strconv.uint64pow10", "math/bits.deBruijn32tab", "math/bits.deBruijn64tab"], apart := false, laid := [("math/bits.deBruijn32tab", laid_math_bits_deBruijn32tab), ("math/bits.deBruijn64tab", laid_math_bits_deBruijn64tab), ("internal/strconv.uint64pow10", laid_internal_strconv_uint64pow10)] }
def MasterCountsSaid : Prop := masterCountsRow.holds Tryz.pinned (OpenSpec.ofChange masterCountsSpec)

/-- ITS FALSE NEIGHBOUR: 'it returns false'. Refute it at one input. -/
def masterCountsWrong : ChangeSpec := { name := "masterCounts", fn := fun _ => fun
  | [d] => { results := [.lit (.bool false)], args := [d] }
  | _ => none }
def MasterCountsWrongFalsely : Prop := masterCountsRow.holds Tryz.pinned (OpenSpec.ofChange masterCountsWrong)

/-- 'lorrylaw30.MasterReduces': WHATEVER THE INPUT: true; the input reads as it did. -/
def masterReducesSpec : ChangeSpec := { name := "masterReduces", fn := fun _ => fun
  | [d1, d2, d3] => { results := [.lit (.bool true)], args := [d1, d2, d3] }
  | _ => none }
def masterReducesRow : OpenClaim := { program := "ytbcfajfngdmgnaagreatdoor", sum := "c5e3a9b6cb2ed9e6bfad29daf38263226116e292db0fb1447efba202716f4eb1", func := "lorry/lorrylaw30.MasterReduces", spec := "masterReduces", inPlace := ["internal/bytealg.IndexByteString", "internal/bytealg.IndexString", "internal/abi.NoEscape", "internal/bytealg.MakeNoZero", "internal/bytealg.abigen_runtime_cmpstring"], unfollowed := true, recurses := true, named := ["internal/bytealg.MaxLen", "internal/strconv.uint64pow10", "math/bits.deBruijn32tab", "math/bits.deBruijn64tab"], apart := false, laid := [("math/bits.deBruijn32tab", laid_math_bits_deBruijn32tab), ("math/bits.deBruijn64tab", laid_math_bits_deBruijn64tab), ("internal/strconv.uint64pow10", laid_internal_strconv_uint64pow10)] }
def MasterReducesSaid : Prop := masterReducesRow.holds Tryz.pinned (OpenSpec.ofChange masterReducesSpec)

/-- ITS FALSE NEIGHBOUR: 'it returns false'. Refute it at one input. -/
def masterReducesWrong : ChangeSpec := { name := "masterReduces", fn := fun _ => fun
  | [d1, d2, d3] => { results := [.lit (.bool false)], args := [d1, d2, d3] }
  | _ => none }
def MasterReducesWrongFalsely : Prop := masterReducesRow.holds Tryz.pinned (OpenSpec.ofChange masterReducesWrong)

/-- 'lorrylaw30.MasterPlans': WHATEVER THE INPUT: true; the input reads as it did. -/
def masterPlansSpec : ChangeSpec := { name := "masterPlans", fn := fun _ => fun
  | [d1, d2] => { results := [.lit (.bool true)], args := [d1, d2] }
  | _ => none }
def masterPlansRow : OpenClaim := { program := "ytbcfajfngdmgnaagreatdoor", sum := "c5e3a9b6cb2ed9e6bfad29daf38263226116e292db0fb1447efba202716f4eb1", func := "lorry/lorrylaw30.MasterPlans", spec := "masterPlans", inPlace := ["internal/bytealg.IndexByteString", "internal/bytealg.IndexString", "internal/abi.NoEscape", "internal/bytealg.MakeNoZero", "internal/bytealg.abigen_runtime_cmpstring"], unfollowed := true, recurses := true, named := ["internal/bytealg.MaxLen", "internal/strconv.uint64pow10", "math/bits.deBruijn32tab", "math/bits.deBruijn64tab"], apart := false, laid := [("math/bits.deBruijn32tab", laid_math_bits_deBruijn32tab), ("math/bits.deBruijn64tab", laid_math_bits_deBruijn64tab), ("internal/strconv.uint64pow10", laid_internal_strconv_uint64pow10)] }
def MasterPlansSaid : Prop := masterPlansRow.holds Tryz.pinned (OpenSpec.ofChange masterPlansSpec)

/-- ITS FALSE NEIGHBOUR: 'it returns false'. Refute it at one input. -/
def masterPlansWrong : ChangeSpec := { name := "masterPlans", fn := fun _ => fun
  | [d1, d2] => { results := [.lit (.bool false)], args := [d1, d2] }
  | _ => none }
def MasterPlansWrongFalsely : Prop := masterPlansRow.holds Tryz.pinned (OpenSpec.ofChange masterPlansWrong)

/-- 'lorrylaw30.MasterServes': WHATEVER THE INPUT: true; the input reads as it did. -/
def masterServesSpec : ChangeSpec := { name := "masterServes", fn := fun _ => fun
  | [d1, d2] => { results := [.lit (.bool true)], args := [d1, d2] }
  | _ => none }
def masterServesRow : OpenClaim := { program := "ytbcfajfngdmgnaagreatdoor", sum := "c5e3a9b6cb2ed9e6bfad29daf38263226116e292db0fb1447efba202716f4eb1", func := "lorry/lorrylaw30.MasterServes", spec := "masterServes", inPlace := ["internal/bytealg.IndexByteString", "internal/bytealg.IndexString", "internal/abi.NoEscape", "internal/bytealg.MakeNoZero", "internal/bytealg.abigen_runtime_cmpstring"], unfollowed := true, recurses := true, named := ["internal/bytealg.MaxLen", "internal/strconv.uint64pow10", "math/bits.deBruijn32tab", "math/bits.deBruijn64tab"], apart := false, laid := [("math/bits.deBruijn32tab", laid_math_bits_deBruijn32tab), ("math/bits.deBruijn64tab", laid_math_bits_deBruijn64tab), ("internal/strconv.uint64pow10", laid_internal_strconv_uint64pow10)] }
def MasterServesSaid : Prop := masterServesRow.holds Tryz.pinned (OpenSpec.ofChange masterServesSpec)

/-- ITS FALSE NEIGHBOUR: 'it returns false'. Refute it at one input. -/
def masterServesWrong : ChangeSpec := { name := "masterServes", fn := fun _ => fun
  | [d1, d2] => { results := [.lit (.bool false)], args := [d1, d2] }
  | _ => none }
def MasterServesWrongFalsely : Prop := masterServesRow.holds Tryz.pinned (OpenSpec.ofChange masterServesWrong)

/-- 'lorrylaw30.MasterBounds': WHATEVER THE INPUT: true; the input reads as it did. -/
def masterBoundsSpec : ChangeSpec := { name := "masterBounds", fn := fun _ => fun
  | [d1, d2] => { results := [.lit (.bool true)], args := [d1, d2] }
  | _ => none }
def masterBoundsRow : OpenClaim := { program := "ytbcfajfngdmgnaagreatdoor", sum := "c5e3a9b6cb2ed9e6bfad29daf38263226116e292db0fb1447efba202716f4eb1", func := "lorry/lorrylaw30.MasterBounds", spec := "masterBounds", inPlace := ["internal/bytealg.IndexByteString", "internal/bytealg.IndexString", "internal/abi.NoEscape", "internal/bytealg.MakeNoZero", "internal/bytealg.abigen_runtime_cmpstring"], unfollowed := true, recurses := true, named := ["internal/bytealg.MaxLen", "internal/strconv.uint64pow10", "math/bits.deBruijn32tab", "math/bits.deBruijn64tab"], apart := false, laid := [("math/bits.deBruijn32tab", laid_math_bits_deBruijn32tab), ("math/bits.deBruijn64tab", laid_math_bits_deBruijn64tab), ("internal/strconv.uint64pow10", laid_internal_strconv_uint64pow10)] }
def MasterBoundsSaid : Prop := masterBoundsRow.holds Tryz.pinned (OpenSpec.ofChange masterBoundsSpec)

/-- ITS FALSE NEIGHBOUR: 'it returns false'. Refute it at one input. -/
def masterBoundsWrong : ChangeSpec := { name := "masterBounds", fn := fun _ => fun
  | [d1, d2] => { results := [.lit (.bool false)], args := [d1, d2] }
  | _ => none }
def MasterBoundsWrongFalsely : Prop := masterBoundsRow.holds Tryz.pinned (OpenSpec.ofChange masterBoundsWrong)

/- THE SECOND FORM. 'bulk': how many values and letters a reading holds, each counted each time it is reached (what is shared counts as often as it is met; a slice's spare places count too). A statement '..UptoSaid' is the law's where the arguments, and the package variables that the reading takes, are together of bulk at most 1048576: NARROWER than '..Said'. Prove '..Said' where nothing that the law and all that it calls make is longer than what came in: it says more and counts as full. Else prove '..UptoSaid'. A law counts once. -/
mutual
def uptoBulk {H : Type} : DataW H → Nat
  | .lit (.string bytes) => bytes.length + 1
  | .lit _ => 1
  | .nil => 1
  | .ptr d => uptoBulk d + 1
  | .slice elems spare => uptoBulkAll elems + uptoBulkAll spare + 1
  | .agg parts => uptoBulkAll parts + 1
  | .iface _ d => uptoBulk d + 1
  | .map entries => uptoBulkEntries entries + 1
  | .held _ => 1
def uptoBulkAll {H : Type} : List (DataW H) → Nat
  | [] => 0
  | d :: r => uptoBulk d + uptoBulkAll r
def uptoBulkEntries {H : Type} : List (Lit × DataW H) → Nat
  | [] => 0
  | x :: r => uptoBulkEntry x + uptoBulkEntries r
def uptoBulkEntry {H : Type} : Lit × DataW H → Nat
  | (.string bytes, d) => bytes.length + uptoBulk d + 1
  | (_, d) => uptoBulk d + 1
 end
def uptoSmall : (H : Type) → List (DataW H) → Bool := fun _ ds => decide (uptoBulkAll ds ≤ 1048576)
def OpenSpec.upto (s : _root_.Go.ChangeSpec) : _root_.Go.OpenSpec := { _root_.Go.OpenSpec.ofChange s with cond := some uptoSmall }

/-- 'lorrylaw28.CutBreaks', WHERE WHAT IT READS IS OF BULK AT MOST 1048576: true; the input reads as it did. -/
def cutBreaksUptoRow : OpenClaim := { program := "ytbcfajfngdmgnaagreatdoor", sum := "c5e3a9b6cb2ed9e6bfad29daf38263226116e292db0fb1447efba202716f4eb1", func := "lorry/lorrylaw28.CutBreaks", spec := "cutBreaks", inPlace := ["internal/bytealg.IndexByteString", "internal/bytealg.IndexString", "internal/abi.NoEscape", "internal/bytealg.MakeNoZero", "internal/bytealg.abigen_runtime_cmpstring"], unfollowed := true, recurses := true, named := ["internal/bytealg.MaxLen", "internal/strconv.uint64pow10", "math/bits.deBruijn32tab", "math/bits.deBruijn64tab"], apart := false, laid := [("math/bits.deBruijn32tab", laid_math_bits_deBruijn32tab), ("math/bits.deBruijn64tab", laid_math_bits_deBruijn64tab), ("internal/strconv.uint64pow10", laid_internal_strconv_uint64pow10)], narrowed := true }
def CutBreaksUptoSaid : Prop := cutBreaksUptoRow.holds Tryz.pinned (OpenSpec.upto cutBreaksSpec)

/-- 'lorrylaw28.CutFinds', WHERE WHAT IT READS IS OF BULK AT MOST 1048576: true; the input reads as it did. -/
def cutFindsUptoRow : OpenClaim := { program := "ytbcfajfngdmgnaagreatdoor", sum := "c5e3a9b6cb2ed9e6bfad29daf38263226116e292db0fb1447efba202716f4eb1", func := "lorry/lorrylaw28.CutFinds", spec := "cutFinds", inPlace := ["internal/bytealg.IndexByteString", "internal/bytealg.IndexString", "internal/abi.NoEscape", "internal/bytealg.MakeNoZero", "internal/bytealg.abigen_runtime_cmpstring"], unfollowed := true, recurses := true, named := ["internal/bytealg.MaxLen", "internal/strconv.uint64pow10", "math/bits.deBruijn32tab", "math/bits.deBruijn64tab"], apart := false, laid := [("math/bits.deBruijn32tab", laid_math_bits_deBruijn32tab), ("math/bits.deBruijn64tab", laid_math_bits_deBruijn64tab), ("internal/strconv.uint64pow10", laid_internal_strconv_uint64pow10)], narrowed := true }
def CutFindsUptoSaid : Prop := cutFindsUptoRow.holds Tryz.pinned (OpenSpec.upto cutFindsSpec)

/-- 'lorrylaw28.CutHolds', WHERE WHAT IT READS IS OF BULK AT MOST 1048576: true; the input reads as it did. -/
def cutHoldsUptoRow : OpenClaim := { program := "ytbcfajfngdmgnaagreatdoor", sum := "c5e3a9b6cb2ed9e6bfad29daf38263226116e292db0fb1447efba202716f4eb1", func := "lorry/lorrylaw28.CutHolds", spec := "cutHolds", inPlace := ["internal/bytealg.IndexByteString", "internal/bytealg.IndexString", "internal/abi.NoEscape", "internal/bytealg.MakeNoZero", "internal/bytealg.abigen_runtime_cmpstring"], unfollowed := true, recurses := true, named := ["internal/bytealg.MaxLen", "internal/strconv.uint64pow10", "math/bits.deBruijn32tab", "math/bits.deBruijn64tab"], apart := false, laid := [("math/bits.deBruijn32tab", laid_math_bits_deBruijn32tab), ("math/bits.deBruijn64tab", laid_math_bits_deBruijn64tab), ("internal/strconv.uint64pow10", laid_internal_strconv_uint64pow10)], narrowed := true }
def CutHoldsUptoSaid : Prop := cutHoldsUptoRow.holds Tryz.pinned (OpenSpec.upto cutHoldsSpec)

/-- 'lorrylaw28.CutChecks', WHERE WHAT IT READS IS OF BULK AT MOST 1048576: true; the input reads as it did. -/
def cutChecksUptoRow : OpenClaim := { program := "ytbcfajfngdmgnaagreatdoor", sum := "c5e3a9b6cb2ed9e6bfad29daf38263226116e292db0fb1447efba202716f4eb1", func := "lorry/lorrylaw28.CutChecks", spec := "cutChecks", inPlace := ["internal/bytealg.IndexByteString", "internal/bytealg.IndexString", "internal/abi.NoEscape", "internal/bytealg.MakeNoZero", "internal/bytealg.abigen_runtime_cmpstring"], unfollowed := true, recurses := true, named := ["internal/bytealg.MaxLen", "internal/strconv.uint64pow10", "math/bits.deBruijn32tab", "math/bits.deBruijn64tab"], apart := false, laid := [("math/bits.deBruijn32tab", laid_math_bits_deBruijn32tab), ("math/bits.deBruijn64tab", laid_math_bits_deBruijn64tab), ("internal/strconv.uint64pow10", laid_internal_strconv_uint64pow10)], narrowed := true }
def CutChecksUptoSaid : Prop := cutChecksUptoRow.holds Tryz.pinned (OpenSpec.upto cutChecksSpec)

/-- 'lorrylaw30.MasterBuilds', WHERE WHAT IT READS IS OF BULK AT MOST 1048576: true; the input reads as it did. -/
def masterBuildsUptoRow : OpenClaim := { program := "ytbcfajfngdmgnaagreatdoor", sum := "c5e3a9b6cb2ed9e6bfad29daf38263226116e292db0fb1447efba202716f4eb1", func := "lorry/lorrylaw30.MasterBuilds", spec := "masterBuilds", inPlace := ["internal/bytealg.IndexByteString", "internal/bytealg.IndexString", "internal/abi.NoEscape", "internal/bytealg.MakeNoZero", "internal/bytealg.abigen_runtime_cmpstring"], unfollowed := true, recurses := true, named := ["internal/bytealg.MaxLen", "internal/strconv.uint64pow10", "math/bits.deBruijn32tab", "math/bits.deBruijn64tab"], apart := false, laid := [("math/bits.deBruijn32tab", laid_math_bits_deBruijn32tab), ("math/bits.deBruijn64tab", laid_math_bits_deBruijn64tab), ("internal/strconv.uint64pow10", laid_internal_strconv_uint64pow10)], narrowed := true }
def MasterBuildsUptoSaid : Prop := masterBuildsUptoRow.holds Tryz.pinned (OpenSpec.upto masterBuildsSpec)

/-- 'lorrylaw30.MasterCounts', WHERE WHAT IT READS IS OF BULK AT MOST 1048576: true; the input reads as it did. -/
def masterCountsUptoRow : OpenClaim := { program := "ytbcfajfngdmgnaagreatdoor", sum := "c5e3a9b6cb2ed9e6bfad29daf38263226116e292db0fb1447efba202716f4eb1", func := "lorry/lorrylaw30.MasterCounts", spec := "masterCounts", inPlace := ["internal/bytealg.IndexByteString", "internal/bytealg.IndexString", "internal/abi.NoEscape", "internal/bytealg.MakeNoZero", "internal/bytealg.abigen_runtime_cmpstring"], unfollowed := true, recurses := true, named := ["internal/bytealg.MaxLen", "internal/strconv.uint64pow10", "math/bits.deBruijn32tab", "math/bits.deBruijn64tab"], apart := false, laid := [("math/bits.deBruijn32tab", laid_math_bits_deBruijn32tab), ("math/bits.deBruijn64tab", laid_math_bits_deBruijn64tab), ("internal/strconv.uint64pow10", laid_internal_strconv_uint64pow10)], narrowed := true }
def MasterCountsUptoSaid : Prop := masterCountsUptoRow.holds Tryz.pinned (OpenSpec.upto masterCountsSpec)

/-- 'lorrylaw30.MasterReduces', WHERE WHAT IT READS IS OF BULK AT MOST 1048576: true; the input reads as it did. -/
def masterReducesUptoRow : OpenClaim := { program := "ytbcfajfngdmgnaagreatdoor", sum := "c5e3a9b6cb2ed9e6bfad29daf38263226116e292db0fb1447efba202716f4eb1", func := "lorry/lorrylaw30.MasterReduces", spec := "masterReduces", inPlace := ["internal/bytealg.IndexByteString", "internal/bytealg.IndexString", "internal/abi.NoEscape", "internal/bytealg.MakeNoZero", "internal/bytealg.abigen_runtime_cmpstring"], unfollowed := true, recurses := true, named := ["internal/bytealg.MaxLen", "internal/strconv.uint64pow10", "math/bits.deBruijn32tab", "math/bits.deBruijn64tab"], apart := false, laid := [("math/bits.deBruijn32tab", laid_math_bits_deBruijn32tab), ("math/bits.deBruijn64tab", laid_math_bits_deBruijn64tab), ("internal/strconv.uint64pow10", laid_internal_strconv_uint64pow10)], narrowed := true }
def MasterReducesUptoSaid : Prop := masterReducesUptoRow.holds Tryz.pinned (OpenSpec.upto masterReducesSpec)

/-- 'lorrylaw30.MasterPlans', WHERE WHAT IT READS IS OF BULK AT MOST 1048576: true; the input reads as it did. -/
def masterPlansUptoRow : OpenClaim := { program := "ytbcfajfngdmgnaagreatdoor", sum := "c5e3a9b6cb2ed9e6bfad29daf38263226116e292db0fb1447efba202716f4eb1", func := "lorry/lorrylaw30.MasterPlans", spec := "masterPlans", inPlace := ["internal/bytealg.IndexByteString", "internal/bytealg.IndexString", "internal/abi.NoEscape", "internal/bytealg.MakeNoZero", "internal/bytealg.abigen_runtime_cmpstring"], unfollowed := true, recurses := true, named := ["internal/bytealg.MaxLen", "internal/strconv.uint64pow10", "math/bits.deBruijn32tab", "math/bits.deBruijn64tab"], apart := false, laid := [("math/bits.deBruijn32tab", laid_math_bits_deBruijn32tab), ("math/bits.deBruijn64tab", laid_math_bits_deBruijn64tab), ("internal/strconv.uint64pow10", laid_internal_strconv_uint64pow10)], narrowed := true }
def MasterPlansUptoSaid : Prop := masterPlansUptoRow.holds Tryz.pinned (OpenSpec.upto masterPlansSpec)

/-- 'lorrylaw30.MasterServes', WHERE WHAT IT READS IS OF BULK AT MOST 1048576: true; the input reads as it did. -/
def masterServesUptoRow : OpenClaim := { program := "ytbcfajfngdmgnaagreatdoor", sum := "c5e3a9b6cb2ed9e6bfad29daf38263226116e292db0fb1447efba202716f4eb1", func := "lorry/lorrylaw30.MasterServes", spec := "masterServes", inPlace := ["internal/bytealg.IndexByteString", "internal/bytealg.IndexString", "internal/abi.NoEscape", "internal/bytealg.MakeNoZero", "internal/bytealg.abigen_runtime_cmpstring"], unfollowed := true, recurses := true, named := ["internal/bytealg.MaxLen", "internal/strconv.uint64pow10", "math/bits.deBruijn32tab", "math/bits.deBruijn64tab"], apart := false, laid := [("math/bits.deBruijn32tab", laid_math_bits_deBruijn32tab), ("math/bits.deBruijn64tab", laid_math_bits_deBruijn64tab), ("internal/strconv.uint64pow10", laid_internal_strconv_uint64pow10)], narrowed := true }
def MasterServesUptoSaid : Prop := masterServesUptoRow.holds Tryz.pinned (OpenSpec.upto masterServesSpec)

/-- 'lorrylaw30.MasterBounds', WHERE WHAT IT READS IS OF BULK AT MOST 1048576: true; the input reads as it did. -/
def masterBoundsUptoRow : OpenClaim := { program := "ytbcfajfngdmgnaagreatdoor", sum := "c5e3a9b6cb2ed9e6bfad29daf38263226116e292db0fb1447efba202716f4eb1", func := "lorry/lorrylaw30.MasterBounds", spec := "masterBounds", inPlace := ["internal/bytealg.IndexByteString", "internal/bytealg.IndexString", "internal/abi.NoEscape", "internal/bytealg.MakeNoZero", "internal/bytealg.abigen_runtime_cmpstring"], unfollowed := true, recurses := true, named := ["internal/bytealg.MaxLen", "internal/strconv.uint64pow10", "math/bits.deBruijn32tab", "math/bits.deBruijn64tab"], apart := false, laid := [("math/bits.deBruijn32tab", laid_math_bits_deBruijn32tab), ("math/bits.deBruijn64tab", laid_math_bits_deBruijn64tab), ("internal/strconv.uint64pow10", laid_internal_strconv_uint64pow10)], narrowed := true }
def MasterBoundsUptoSaid : Prop := masterBoundsUptoRow.holds Tryz.pinned (OpenSpec.upto masterBoundsSpec)

end Rows
end Go.Proofs.YtbcfajfngdmgnaaGreatDoor
