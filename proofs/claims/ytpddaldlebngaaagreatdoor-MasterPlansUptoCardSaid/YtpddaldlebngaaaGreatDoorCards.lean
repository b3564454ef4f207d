/-
  DERIVED. GIVEN WITH THE SEED: THE CARDS: each row of YtpddaldlebngaaaGreatDoorRows.lean that lists a variable, with what it lists TIED to the program's text (the seventh form; the later family's looks); each row that meets fmt, with fmt's text TOLD by the authors' own Lean function (tested against real Go, not proved from fmt's source: count such statements apart). THE CARD IS WHAT COUNTS. Prove the row's statement (the work); the ties are given (YtpddaldlebngaaaGreatDoorTie.lean); close each card by the builder's one call (the guide's Derived/Test/ToyasCard.lean, 'card_holds'). Laid BY PROGRAM, IN A SANDBOX (cutbox-door.mjs). By AI agents, Wed Nov 11 2026. No macro, syntax, notation, axiom, sorry.
-/
import Derived.Test.YtpddaldlebngaaaGreatDoorRows
import GoSem.ClaimSeven
namespace Go.Proofs.YtpddaldlebngaaaGreatDoor
namespace Rows

/-- THE TIED CARD OF 'lorrylaw30.MasterPlans'. -/
def masterPlansCard : Claim7 := { stood := { row := masterPlansRow, standIns := [], harness := (true, "50ecdaa154a9b8e44ef5f67db6f0ccda31876b2d58d1c6eb4a2213a6f0d6931d"), looks := false }, kinds := [], alts := [], laidByText := true, laidKinds := [.data, .data, .data], laidTests := true, laidLooks := .later }
def MasterPlansCardSaid : Prop := Claim7.holds Tryz.pinned (.plain (OpenSpec.ofChange masterPlansSpec)) masterPlansCard

/-- THE SECOND FORM's CARD OF 'lorrylaw30.MasterPlans'. -/
def masterPlansUptoCard : Claim7 := { stood := { row := masterPlansUptoRow, standIns := [], harness := (true, "50ecdaa154a9b8e44ef5f67db6f0ccda31876b2d58d1c6eb4a2213a6f0d6931d"), looks := false }, kinds := [], alts := [], laidByText := true, laidKinds := [.data, .data, .data], laidTests := true, laidLooks := .later }
def MasterPlansUptoCardSaid : Prop := Claim7.holds Tryz.pinned (.plain (OpenSpec.upto masterPlansSpec)) masterPlansUptoCard
end Rows
end Go.Proofs.YtpddaldlebngaaaGreatDoor
