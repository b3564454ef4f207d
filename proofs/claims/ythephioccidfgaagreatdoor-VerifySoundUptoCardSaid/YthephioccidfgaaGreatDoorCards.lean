/-
  DERIVED. GIVEN WITH THE SEED: THE CARDS: each row of YthephioccidfgaaGreatDoorRows.lean that lists a variable, with what it lists TIED to the program's text (the seventh form; the later family's looks); each row that meets fmt, with fmt's text TOLD by the authors' own Lean function (tested against real Go, not proved from fmt's source: count such statements apart). THE CARD IS WHAT COUNTS. Prove the row's statement (the work); the ties are given (YthephioccidfgaaGreatDoorTie.lean); close each card by the builder's one call (the guide's Derived/Test/ToyasCard.lean, 'card_holds'). Laid BY PROGRAM, IN A SANDBOX (cutbox-door.mjs). By AI agents, Wed Nov 11 2026. No macro, syntax, notation, axiom, sorry.
-/
import Derived.Test.YthephioccidfgaaGreatDoorRows
import GoSem.ClaimSeven
namespace Go.Proofs.YthephioccidfgaaGreatDoor
namespace Rows

/-- THE TIED CARD OF 'lorrylaw38.VerifySound'. -/
def verifySoundCard : Claim7 := { stood := { row := verifySoundRow, standIns := [], harness := (true, "0db9fdd78fa937dc02e7eb0d48e85b83f4178da55ffd9038b304a150518ff291"), looks := false }, kinds := [], alts := [], laidByText := true, laidKinds := [.data, .data, .data], laidTests := true, laidLooks := .later }
def VerifySoundCardSaid : Prop := Claim7.holds Tryz.pinned (.plain (OpenSpec.ofChange verifySoundSpec)) verifySoundCard

/-- THE SECOND FORM's CARD OF 'lorrylaw38.VerifySound'. -/
def verifySoundUptoCard : Claim7 := { stood := { row := verifySoundUptoRow, standIns := [], harness := (true, "0db9fdd78fa937dc02e7eb0d48e85b83f4178da55ffd9038b304a150518ff291"), looks := false }, kinds := [], alts := [], laidByText := true, laidKinds := [.data, .data, .data], laidTests := true, laidLooks := .later }
def VerifySoundUptoCardSaid : Prop := Claim7.holds Tryz.pinned (.plain (OpenSpec.upto verifySoundSpec)) verifySoundUptoCard
end Rows
end Go.Proofs.YthephioccidfgaaGreatDoor
