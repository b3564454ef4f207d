/-
  DERIVED. GIVEN WITH THE SEED: THE CARDS: each row of YtjgecalocibkjaaGreatDoorRows.lean that lists a variable, with what it lists TIED to the program's text (the seventh form; the later family's looks); each row that meets fmt, with fmt's text TOLD by the authors' own Lean function (tested against real Go, not proved from fmt's source: count such statements apart). THE CARD IS WHAT COUNTS. Prove the row's statement (the work); the ties are given (YtjgecalocibkjaaGreatDoorTie.lean); close each card by the builder's one call (the guide's Derived/Test/ToyasCard.lean, 'card_holds'). Laid BY PROGRAM, IN A SANDBOX (cutbox-door.mjs). By AI agents, Wed Nov 11 2026. No macro, syntax, notation, axiom, sorry.
-/
import Derived.Test.YtjgecalocibkjaaGreatDoorRows
import GoSem.ClaimSeven
namespace Go.Proofs.YtjgecalocibkjaaGreatDoor
namespace Rows

/-- THE TIED CARD OF 'lorrylaw53.DispatchNews'. -/
def dispatchNewsCard : Claim7 := { stood := { row := dispatchNewsRow, standIns := [], harness := (true, "8dd40b4ac7428dc277c96325727a71da1b3e9520a6cbe3b33efb08f76cf406fa"), looks := true }, kinds := [], alts := [], laidByText := true, laidKinds := [.data, .data, .data, .sentinel, .sentinel], laidTests := true, laidLooks := .later }
def DispatchNewsCardSaid : Prop := Claim7.holds Tryz.pinned (.plain (OpenSpec.ofChange dispatchNewsSpec)) dispatchNewsCard

/-- THE SECOND FORM's CARD OF 'lorrylaw53.DispatchNews'. -/
def dispatchNewsUptoCard : Claim7 := { stood := { row := dispatchNewsUptoRow, standIns := [], harness := (true, "8dd40b4ac7428dc277c96325727a71da1b3e9520a6cbe3b33efb08f76cf406fa"), looks := true }, kinds := [], alts := [], laidByText := true, laidKinds := [.data, .data, .data, .sentinel, .sentinel], laidTests := true, laidLooks := .later }
def DispatchNewsUptoCardSaid : Prop := Claim7.holds Tryz.pinned (.plain (OpenSpec.upto dispatchNewsSpec)) dispatchNewsUptoCard
end Rows
end Go.Proofs.YtjgecalocibkjaaGreatDoor
