/-
  DERIVED. GIVEN WITH THE SEED: THE CARDS: each row of YtkfhgjihlbilpaaGreatDoorRows.lean that lists a variable, with what it lists TIED to the program's text (the seventh form; the later family's looks); each row that meets fmt, with fmt's text TOLD by the authors' own Lean function (tested against real Go, not proved from fmt's source: count such statements apart). THE CARD IS WHAT COUNTS. Prove the row's statement (the work); the ties are given (YtkfhgjihlbilpaaGreatDoorTie.lean); close each card by the builder's one call (the guide's Derived/Test/ToyasCard.lean, 'card_holds'). Laid BY PROGRAM, IN A SANDBOX (cutbox-door.mjs). By AI agents, Wed Nov 11 2026. No macro, syntax, notation, axiom, sorry.
-/
import Derived.Test.YtkfhgjihlbilpaaGreatDoorRows
import GoSem.ClaimSeven
namespace Go.Proofs.YtkfhgjihlbilpaaGreatDoor
namespace Rows

/-- THE TIED CARD OF 'lorrylaw38.VerifyLeaves'. -/
def verifyLeavesCard : Claim7 := { stood := { row := verifyLeavesRow, standIns := [], harness := (true, "e1a986e18a6dec88bd6f7e78e4ea25198115f344c70d22a8f7f689069e8a3ec0"), looks := false }, kinds := [], alts := [], laidByText := true, laidKinds := [.data, .data, .data], laidTests := true, laidLooks := .later }
def VerifyLeavesCardSaid : Prop := Claim7.holds Tryz.pinned (.plain (OpenSpec.ofChange verifyLeavesSpec)) verifyLeavesCard

/-- THE SECOND FORM's CARD OF 'lorrylaw38.VerifyLeaves'. -/
def verifyLeavesUptoCard : Claim7 := { stood := { row := verifyLeavesUptoRow, standIns := [], harness := (true, "e1a986e18a6dec88bd6f7e78e4ea25198115f344c70d22a8f7f689069e8a3ec0"), looks := false }, kinds := [], alts := [], laidByText := true, laidKinds := [.data, .data, .data], laidTests := true, laidLooks := .later }
def VerifyLeavesUptoCardSaid : Prop := Claim7.holds Tryz.pinned (.plain (OpenSpec.upto verifyLeavesSpec)) verifyLeavesUptoCard
end Rows
end Go.Proofs.YtkfhgjihlbilpaaGreatDoor
