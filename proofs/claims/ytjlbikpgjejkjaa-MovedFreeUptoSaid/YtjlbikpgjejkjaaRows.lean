/-
  No cell of these rows narrows 'for every input' (looked for: loops, veiled, ifaces, maps, wideKeys, modest, calm, conditions, laid).
  DERIVED. THE GIVEN ROWS OF THIS SEAT. 9 by the template 'for every input the law returns true; each argument reads behind the call as it read before'; 0 by the template 'total and deterministic' (their statements: YtjlbikpgjejkjaaTotals.lean).
  GIVEN WITH THE SEED: the statements are not yours to turn. If you find one false, say at which input.
  Laid BY PROGRAM, IN A SANDBOX (cutbox-rows.mjs): the forced cells as the released guide's own fill.sh prints them over the translation f11f8962a9f862b5… (all of the seat's roots in one cut). By AI agents, Wed Nov 11 2026. No macro, syntax, notation, axiom, sorry.
-/
import Derived.Test.YtjlbikpgjejkjaaChecked
import GoSem.Claim
import GoSem.ClaimJoined
import GoSem.ClaimMapViews
import Derived.JoinedTies
import Derived.KernelRfl
namespace Go.Proofs.Ytjlbikpgjejkjaa
/- THE CELL 'sum', in the pinned program and in every row, IS THE sha256 OF THE DUMP (.gsa) THAT YtjlbikpgjejkjaaProg.lean LOADS. Nothing in Lean hashes anything: it is a label: what it is worth is what the hold of that sum in a sandbox is worth. -/
noncomputable def Try.pinned : Pinned := { name := "ytjlbikpgjejkjaa", sum := "f11f8962a9f862b5b7e0b69b18c62bc544590b830b16e7cdd41980a23be2042c", checked := Try.checked }
namespace Rows
def none {H : Type} : Left H := { results := [], args := [] }

/-- 'lorrylaw46.MovedCounts': WHATEVER THE INPUT: true; the input reads as it did. -/
def movedCountsSpec : ChangeSpec := { name := "movedCounts", fn := fun _ => fun
  | [d1, d2] => { results := [.lit (.bool true)], args := [d1, d2] }
  | _ => none }
def movedCountsRow : OpenClaim := { program := "ytjlbikpgjejkjaa", sum := "f11f8962a9f862b5b7e0b69b18c62bc544590b830b16e7cdd41980a23be2042c", func := "lorry/lorrylaw46.MovedCounts", spec := "movedCounts", apart := false }
def MovedCountsSaid : Prop := movedCountsRow.holds Try.pinned (OpenSpec.ofChange movedCountsSpec)

/-- ITS FALSE NEIGHBOUR: 'it returns false'. Refute it at one input. -/
def movedCountsWrong : ChangeSpec := { name := "movedCounts", fn := fun _ => fun
  | [d1, d2] => { results := [.lit (.bool false)], args := [d1, d2] }
  | _ => none }
def MovedCountsWrongFalsely : Prop := movedCountsRow.holds Try.pinned (OpenSpec.ofChange movedCountsWrong)

/-- 'lorrylaw46.MovedTells': WHATEVER THE INPUT: true; the input reads as it did. -/
def movedTellsSpec : ChangeSpec := { name := "movedTells", fn := fun _ => fun
  | [d1, d2] => { results := [.lit (.bool true)], args := [d1, d2] }
  | _ => none }
def movedTellsRow : OpenClaim := { program := "ytjlbikpgjejkjaa", sum := "f11f8962a9f862b5b7e0b69b18c62bc544590b830b16e7cdd41980a23be2042c", func := "lorry/lorrylaw46.MovedTells", spec := "movedTells", unfollowed := true, recurses := true, apart := false }
def MovedTellsSaid : Prop := movedTellsRow.holds Try.pinned (OpenSpec.ofChange movedTellsSpec)

/-- ITS FALSE NEIGHBOUR: 'it returns false'. Refute it at one input. -/
def movedTellsWrong : ChangeSpec := { name := "movedTells", fn := fun _ => fun
  | [d1, d2] => { results := [.lit (.bool false)], args := [d1, d2] }
  | _ => none }
def MovedTellsWrongFalsely : Prop := movedTellsRow.holds Try.pinned (OpenSpec.ofChange movedTellsWrong)

/-- 'lorrylaw46.MovedFree': WHATEVER THE INPUT: true; the input reads as it did. -/
def movedFreeSpec : ChangeSpec := { name := "movedFree", fn := fun _ => fun
  | [d1, d2] => { results := [.lit (.bool true)], args := [d1, d2] }
  | _ => none }
def movedFreeRow : OpenClaim := { program := "ytjlbikpgjejkjaa", sum := "f11f8962a9f862b5b7e0b69b18c62bc544590b830b16e7cdd41980a23be2042c", func := "lorry/lorrylaw46.MovedFree", spec := "movedFree", unfollowed := true, recurses := true, apart := false }
def MovedFreeSaid : Prop := movedFreeRow.holds Try.pinned (OpenSpec.ofChange movedFreeSpec)

/-- ITS FALSE NEIGHBOUR: 'it returns false'. Refute it at one input. -/
def movedFreeWrong : ChangeSpec := { name := "movedFree", fn := fun _ => fun
  | [d1, d2] => { results := [.lit (.bool false)], args := [d1, d2] }
  | _ => none }
def MovedFreeWrongFalsely : Prop := movedFreeRow.holds Try.pinned (OpenSpec.ofChange movedFreeWrong)

/-- 'lorrylaw29.DecideChecks': WHATEVER THE INPUT: true; the input reads as it did. -/
def decideChecksSpec : ChangeSpec := { name := "decideChecks", fn := fun _ => fun
  | [d1, d2, d3] => { results := [.lit (.bool true)], args := [d1, d2, d3] }
  | _ => none }
def decideChecksRow : OpenClaim := { program := "ytjlbikpgjejkjaa", sum := "f11f8962a9f862b5b7e0b69b18c62bc544590b830b16e7cdd41980a23be2042c", func := "lorry/lorrylaw29.DecideChecks", spec := "decideChecks", unfollowed := true, recurses := true, apart := false }
def DecideChecksSaid : Prop := decideChecksRow.holds Try.pinned (OpenSpec.ofChange decideChecksSpec)

/-- ITS FALSE NEIGHBOUR: 'it returns false'. Refute it at one input. -/
def decideChecksWrong : ChangeSpec := { name := "decideChecks", fn := fun _ => fun
  | [d1, d2, d3] => { results := [.lit (.bool false)], args := [d1, d2, d3] }
  | _ => none }
def DecideChecksWrongFalsely : Prop := decideChecksRow.holds Try.pinned (OpenSpec.ofChange decideChecksWrong)

/-- 'lorrylaw29.DecideAllows': WHATEVER THE INPUT: true; the input reads as it did. -/
def decideAllowsSpec : ChangeSpec := { name := "decideAllows", fn := fun _ => fun
  | [d1, d2, d3] => { results := [.lit (.bool true)], args := [d1, d2, d3] }
  | _ => none }
def decideAllowsRow : OpenClaim := { program := "ytjlbikpgjejkjaa", sum := "f11f8962a9f862b5b7e0b69b18c62bc544590b830b16e7cdd41980a23be2042c", func := "lorry/lorrylaw29.DecideAllows", spec := "decideAllows", unfollowed := true, recurses := true, apart := false }
def DecideAllowsSaid : Prop := decideAllowsRow.holds Try.pinned (OpenSpec.ofChange decideAllowsSpec)

/-- ITS FALSE NEIGHBOUR: 'it returns false'. Refute it at one input. -/
def decideAllowsWrong : ChangeSpec := { name := "decideAllows", fn := fun _ => fun
  | [d1, d2, d3] => { results := [.lit (.bool false)], args := [d1, d2, d3] }
  | _ => none }
def DecideAllowsWrongFalsely : Prop := decideAllowsRow.holds Try.pinned (OpenSpec.ofChange decideAllowsWrong)

/-- 'lorrylaw29.DecideHolds': WHATEVER THE INPUT: true; the input reads as it did. -/
def decideHoldsSpec : ChangeSpec := { name := "decideHolds", fn := fun _ => fun
  | [d1, d2, d3] => { results := [.lit (.bool true)], args := [d1, d2, d3] }
  | _ => none }
def decideHoldsRow : OpenClaim := { program := "ytjlbikpgjejkjaa", sum := "f11f8962a9f862b5b7e0b69b18c62bc544590b830b16e7cdd41980a23be2042c", func := "lorry/lorrylaw29.DecideHolds", spec := "decideHolds", unfollowed := true, recurses := true, apart := false }
def DecideHoldsSaid : Prop := decideHoldsRow.holds Try.pinned (OpenSpec.ofChange decideHoldsSpec)

/-- ITS FALSE NEIGHBOUR: 'it returns false'. Refute it at one input. -/
def decideHoldsWrong : ChangeSpec := { name := "decideHolds", fn := fun _ => fun
  | [d1, d2, d3] => { results := [.lit (.bool false)], args := [d1, d2, d3] }
  | _ => none }
def DecideHoldsWrongFalsely : Prop := decideHoldsRow.holds Try.pinned (OpenSpec.ofChange decideHoldsWrong)

/-- 'lorrylaw29.DecideOpposes': WHATEVER THE INPUT: true; the input reads as it did. -/
def decideOpposesSpec : ChangeSpec := { name := "decideOpposes", fn := fun _ => fun
  | [d1, d2, d3] => { results := [.lit (.bool true)], args := [d1, d2, d3] }
  | _ => none }
def decideOpposesRow : OpenClaim := { program := "ytjlbikpgjejkjaa", sum := "f11f8962a9f862b5b7e0b69b18c62bc544590b830b16e7cdd41980a23be2042c", func := "lorry/lorrylaw29.DecideOpposes", spec := "decideOpposes", unfollowed := true, recurses := true, apart := false }
def DecideOpposesSaid : Prop := decideOpposesRow.holds Try.pinned (OpenSpec.ofChange decideOpposesSpec)

/-- ITS FALSE NEIGHBOUR: 'it returns false'. Refute it at one input. -/
def decideOpposesWrong : ChangeSpec := { name := "decideOpposes", fn := fun _ => fun
  | [d1, d2, d3] => { results := [.lit (.bool false)], args := [d1, d2, d3] }
  | _ => none }
def DecideOpposesWrongFalsely : Prop := decideOpposesRow.holds Try.pinned (OpenSpec.ofChange decideOpposesWrong)

/-- 'lorrylaw29.DecideClashes': WHATEVER THE INPUT: true; the input reads as it did. -/
def decideClashesSpec : ChangeSpec := { name := "decideClashes", fn := fun _ => fun
  | [d1, d2, d3] => { results := [.lit (.bool true)], args := [d1, d2, d3] }
  | _ => none }
def decideClashesRow : OpenClaim := { program := "ytjlbikpgjejkjaa", sum := "f11f8962a9f862b5b7e0b69b18c62bc544590b830b16e7cdd41980a23be2042c", func := "lorry/lorrylaw29.DecideClashes", spec := "decideClashes", unfollowed := true, recurses := true, apart := false }
def DecideClashesSaid : Prop := decideClashesRow.holds Try.pinned (OpenSpec.ofChange decideClashesSpec)

/-- ITS FALSE NEIGHBOUR: 'it returns false'. Refute it at one input. -/
def decideClashesWrong : ChangeSpec := { name := "decideClashes", fn := fun _ => fun
  | [d1, d2, d3] => { results := [.lit (.bool false)], args := [d1, d2, d3] }
  | _ => none }
def DecideClashesWrongFalsely : Prop := decideClashesRow.holds Try.pinned (OpenSpec.ofChange decideClashesWrong)

/-- 'lorrylaw29.DecideRoutes': WHATEVER THE INPUT: true; the input reads as it did. -/
def decideRoutesSpec : ChangeSpec := { name := "decideRoutes", fn := fun _ => fun
  | [d1, d2, d3] => { results := [.lit (.bool true)], args := [d1, d2, d3] }
  | _ => none }
def decideRoutesRow : OpenClaim := { program := "ytjlbikpgjejkjaa", sum := "f11f8962a9f862b5b7e0b69b18c62bc544590b830b16e7cdd41980a23be2042c", func := "lorry/lorrylaw29.DecideRoutes", spec := "decideRoutes", unfollowed := true, recurses := true, apart := false }
def DecideRoutesSaid : Prop := decideRoutesRow.holds Try.pinned (OpenSpec.ofChange decideRoutesSpec)

/-- ITS FALSE NEIGHBOUR: 'it returns false'. Refute it at one input. -/
def decideRoutesWrong : ChangeSpec := { name := "decideRoutes", fn := fun _ => fun
  | [d1, d2, d3] => { results := [.lit (.bool false)], args := [d1, d2, d3] }
  | _ => none }
def DecideRoutesWrongFalsely : Prop := decideRoutesRow.holds Try.pinned (OpenSpec.ofChange decideRoutesWrong)

/- THE SECOND FORM. 'bulk': how many values and letters a reading holds, each counted each time it is reached (what is shared counts as often as it is met; a slice's spare places count too). A statement '..UptoSaid' is the law's where the arguments, and the package variables that the reading takes, are together of bulk at most 1048576: NARROWER than '..Said'. Prove '..Said' where nothing that the law and all that it calls make is longer than what came in: it says more and counts as full. Else prove '..UptoSaid'. A law counts once. -/
mutual
def uptoBulk {H : Type} : DataW H → Nat
  | .lit (.string bytes) => bytes.length + 1
  | .lit _ => 1
  | .nil => 1
  | .ptr d => uptoBulk d + 1
  | .slice elems spare => uptoBulkAll elems + uptoBulkAll spare + 1
  | .agg parts => uptoBulkAll parts + 1
  | .iface _ d => uptoBulk d + 1
  | .map entries => uptoBulkEntries entries + 1
  | .held _ => 1
def uptoBulkAll {H : Type} : List (DataW H) → Nat
  | [] => 0
  | d :: r => uptoBulk d + uptoBulkAll r
def uptoBulkEntries {H : Type} : List (Lit × DataW H) → Nat
  | [] => 0
  | x :: r => uptoBulkEntry x + uptoBulkEntries r
def uptoBulkEntry {H : Type} : Lit × DataW H → Nat
  | (.string bytes, d) => bytes.length + uptoBulk d + 1
  | (_, d) => uptoBulk d + 1
 end
def uptoSmall : (H : Type) → List (DataW H) → Bool := fun _ ds => decide (uptoBulkAll ds ≤ 1048576)
def OpenSpec.upto (s : _root_.Go.ChangeSpec) : _root_.Go.OpenSpec := { _root_.Go.OpenSpec.ofChange s with cond := some uptoSmall }

/-- 'lorrylaw46.MovedCounts', WHERE WHAT IT READS IS OF BULK AT MOST 1048576: true; the input reads as it did. -/
def movedCountsUptoRow : OpenClaim := { program := "ytjlbikpgjejkjaa", sum := "f11f8962a9f862b5b7e0b69b18c62bc544590b830b16e7cdd41980a23be2042c", func := "lorry/lorrylaw46.MovedCounts", spec := "movedCounts", apart := false, narrowed := true }
def MovedCountsUptoSaid : Prop := movedCountsUptoRow.holds Try.pinned (OpenSpec.upto movedCountsSpec)

/-- 'lorrylaw46.MovedTells', WHERE WHAT IT READS IS OF BULK AT MOST 1048576: true; the input reads as it did. -/
def movedTellsUptoRow : OpenClaim := { program := "ytjlbikpgjejkjaa", sum := "f11f8962a9f862b5b7e0b69b18c62bc544590b830b16e7cdd41980a23be2042c", func := "lorry/lorrylaw46.MovedTells", spec := "movedTells", unfollowed := true, recurses := true, apart := false, narrowed := true }
def MovedTellsUptoSaid : Prop := movedTellsUptoRow.holds Try.pinned (OpenSpec.upto movedTellsSpec)

/-- 'lorrylaw46.MovedFree', WHERE WHAT IT READS IS OF BULK AT MOST 1048576: true; the input reads as it did. -/
def movedFreeUptoRow : OpenClaim := { program := "ytjlbikpgjejkjaa", sum := "f11f8962a9f862b5b7e0b69b18c62bc544590b830b16e7cdd41980a23be2042c", func := "lorry/lorrylaw46.MovedFree", spec := "movedFree", unfollowed := true, recurses := true, apart := false, narrowed := true }
def MovedFreeUptoSaid : Prop := movedFreeUptoRow.holds Try.pinned (OpenSpec.upto movedFreeSpec)

/-- 'lorrylaw29.DecideChecks', WHERE WHAT IT READS IS OF BULK AT MOST 1048576: true; the input reads as it did. -/
def decideChecksUptoRow : OpenClaim := { program := "ytjlbikpgjejkjaa", sum := "f11f8962a9f862b5b7e0b69b18c62bc544590b830b16e7cdd41980a23be2042c", func := "lorry/lorrylaw29.DecideChecks", spec := "decideChecks", unfollowed := true, recurses := true, apart := false, narrowed := true }
def DecideChecksUptoSaid : Prop := decideChecksUptoRow.holds Try.pinned (OpenSpec.upto decideChecksSpec)

/-- 'lorrylaw29.DecideAllows', WHERE WHAT IT READS IS OF BULK AT MOST 1048576: true; the input reads as it did. -/
def decideAllowsUptoRow : OpenClaim := { program := "ytjlbikpgjejkjaa", sum := "f11f8962a9f862b5b7e0b69b18c62bc544590b830b16e7cdd41980a23be2042c", func := "lorry/lorrylaw29.DecideAllows", spec := "decideAllows", unfollowed := true, recurses := true, apart := false, narrowed := true }
def DecideAllowsUptoSaid : Prop := decideAllowsUptoRow.holds Try.pinned (OpenSpec.upto decideAllowsSpec)

/-- 'lorrylaw29.DecideHolds', WHERE WHAT IT READS IS OF BULK AT MOST 1048576: true; the input reads as it did. -/
def decideHoldsUptoRow : OpenClaim := { program := "ytjlbikpgjejkjaa", sum := "f11f8962a9f862b5b7e0b69b18c62bc544590b830b16e7cdd41980a23be2042c", func := "lorry/lorrylaw29.DecideHolds", spec := "decideHolds", unfollowed := true, recurses := true, apart := false, narrowed := true }
def DecideHoldsUptoSaid : Prop := decideHoldsUptoRow.holds Try.pinned (OpenSpec.upto decideHoldsSpec)

/-- 'lorrylaw29.DecideOpposes', WHERE WHAT IT READS IS OF BULK AT MOST 1048576: true; the input reads as it did. -/
def decideOpposesUptoRow : OpenClaim := { program := "ytjlbikpgjejkjaa", sum := "f11f8962a9f862b5b7e0b69b18c62bc544590b830b16e7cdd41980a23be2042c", func := "lorry/lorrylaw29.DecideOpposes", spec := "decideOpposes", unfollowed := true, recurses := true, apart := false, narrowed := true }
def DecideOpposesUptoSaid : Prop := decideOpposesUptoRow.holds Try.pinned (OpenSpec.upto decideOpposesSpec)

/-- 'lorrylaw29.DecideClashes', WHERE WHAT IT READS IS OF BULK AT MOST 1048576: true; the input reads as it did. -/
def decideClashesUptoRow : OpenClaim := { program := "ytjlbikpgjejkjaa", sum := "f11f8962a9f862b5b7e0b69b18c62bc544590b830b16e7cdd41980a23be2042c", func := "lorry/lorrylaw29.DecideClashes", spec := "decideClashes", unfollowed := true, recurses := true, apart := false, narrowed := true }
def DecideClashesUptoSaid : Prop := decideClashesUptoRow.holds Try.pinned (OpenSpec.upto decideClashesSpec)

/-- 'lorrylaw29.DecideRoutes', WHERE WHAT IT READS IS OF BULK AT MOST 1048576: true; the input reads as it did. -/
def decideRoutesUptoRow : OpenClaim := { program := "ytjlbikpgjejkjaa", sum := "f11f8962a9f862b5b7e0b69b18c62bc544590b830b16e7cdd41980a23be2042c", func := "lorry/lorrylaw29.DecideRoutes", spec := "decideRoutes", unfollowed := true, recurses := true, apart := false, narrowed := true }
def DecideRoutesUptoSaid : Prop := decideRoutesUptoRow.holds Try.pinned (OpenSpec.upto decideRoutesSpec)

end Rows
end Go.Proofs.Ytjlbikpgjejkjaa
