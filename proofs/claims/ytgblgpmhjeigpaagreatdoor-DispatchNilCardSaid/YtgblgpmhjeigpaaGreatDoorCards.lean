/-
  DERIVED. GIVEN WITH THE SEED: THE CARDS: each row of YtgblgpmhjeigpaaGreatDoorRows.lean that lists a variable, with what it lists TIED to the program's text (the seventh form; the later family's looks); each row that meets fmt, with fmt's text TOLD by the authors' own Lean function (tested against real Go, not proved from fmt's source: count such statements apart). THE CARD IS WHAT COUNTS. Prove the row's statement (the work); the ties are given (YtgblgpmhjeigpaaGreatDoorTie.lean); close each card by the builder's one call (the guide's Derived/Test/ToyasCard.lean, 'card_holds'). Laid BY PROGRAM, IN A SANDBOX (cutbox-door.mjs). By AI agents, Wed Nov 11 2026. No macro, syntax, notation, axiom, sorry.
-/
import Derived.Test.YtgblgpmhjeigpaaGreatDoorRows
import GoSem.ClaimSeven
namespace Go.Proofs.YtgblgpmhjeigpaaGreatDoor
namespace Rows

/-- THE TIED CARD OF 'lorrylaw53.DispatchNil'. -/
def dispatchNilCard : Claim7 := { stood := { row := dispatchNilRow, standIns := [], harness := (true, "76e60de889ecd807e13d3f0f1a643cc10f21aec824e970905912d8f08a823a43"), looks := true }, kinds := [], alts := [], laidByText := true, laidKinds := [.data, .data, .data, .sentinel, .sentinel], laidTests := true, laidLooks := .later }
def DispatchNilCardSaid : Prop := Claim7.holds Tryz.pinned (.plain (OpenSpec.ofChange dispatchNilSpec)) dispatchNilCard

/-- THE SECOND FORM's CARD OF 'lorrylaw53.DispatchNil'. -/
def dispatchNilUptoCard : Claim7 := { stood := { row := dispatchNilUptoRow, standIns := [], harness := (true, "76e60de889ecd807e13d3f0f1a643cc10f21aec824e970905912d8f08a823a43"), looks := true }, kinds := [], alts := [], laidByText := true, laidKinds := [.data, .data, .data, .sentinel, .sentinel], laidTests := true, laidLooks := .later }
def DispatchNilUptoCardSaid : Prop := Claim7.holds Tryz.pinned (.plain (OpenSpec.upto dispatchNilSpec)) dispatchNilUptoCard
end Rows
end Go.Proofs.YtgblgpmhjeigpaaGreatDoor
