/-
  DERIVED. GIVEN WITH THE SEED: THE CARDS: each row of YtkjdacijpeiphaaGreatDoorRows.lean that lists a variable, with what it lists TIED to the program's text (the seventh form; the later family's looks); each row that meets fmt, with fmt's text TOLD by the authors' own Lean function (tested against real Go, not proved from fmt's source: count such statements apart). THE CARD IS WHAT COUNTS. Prove the row's statement (the work); the ties are given (YtkjdacijpeiphaaGreatDoorTie.lean); close each card by the builder's one call (the guide's Derived/Test/ToyasCard.lean, 'card_holds'). Laid BY PROGRAM, IN A SANDBOX (cutbox-door.mjs). By AI agents, Wed Nov 11 2026. No macro, syntax, notation, axiom, sorry.
-/
import Derived.Test.YtkjdacijpeiphaaGreatDoorRows
import GoSem.ClaimSeven
namespace Go.Proofs.YtkjdacijpeiphaaGreatDoor
namespace Rows

/-- THE TIED CARD OF 'lorrylaw38.VerifyPaths'. -/
def verifyPathsCard : Claim7 := { stood := { row := verifyPathsRow, standIns := [], harness := (true, "e4251e937525e89d66102d96e22500878f9ba912c2c2a1df788acc9982caf0f6"), looks := false }, kinds := [], alts := [], laidByText := true, laidKinds := [.data, .data, .data], laidTests := true, laidLooks := .later }
def VerifyPathsCardSaid : Prop := Claim7.holds Tryz.pinned (.plain (OpenSpec.ofChange verifyPathsSpec)) verifyPathsCard

/-- THE SECOND FORM's CARD OF 'lorrylaw38.VerifyPaths'. -/
def verifyPathsUptoCard : Claim7 := { stood := { row := verifyPathsUptoRow, standIns := [], harness := (true, "e4251e937525e89d66102d96e22500878f9ba912c2c2a1df788acc9982caf0f6"), looks := false }, kinds := [], alts := [], laidByText := true, laidKinds := [.data, .data, .data], laidTests := true, laidLooks := .later }
def VerifyPathsUptoCardSaid : Prop := Claim7.holds Tryz.pinned (.plain (OpenSpec.upto verifyPathsSpec)) verifyPathsUptoCard
end Rows
end Go.Proofs.YtkjdacijpeiphaaGreatDoor
