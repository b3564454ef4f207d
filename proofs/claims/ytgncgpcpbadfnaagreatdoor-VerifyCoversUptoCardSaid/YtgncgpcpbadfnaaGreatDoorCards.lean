/-
  DERIVED. GIVEN WITH THE SEED: THE CARDS: each row of YtgncgpcpbadfnaaGreatDoorRows.lean that lists a variable, with what it lists TIED to the program's text (the seventh form; the later family's looks); each row that meets fmt, with fmt's text TOLD by the authors' own Lean function (tested against real Go, not proved from fmt's source: count such statements apart). THE CARD IS WHAT COUNTS. Prove the row's statement (the work); the ties are given (YtgncgpcpbadfnaaGreatDoorTie.lean); close each card by the builder's one call (the guide's Derived/Test/ToyasCard.lean, 'card_holds'). Laid BY PROGRAM, IN A SANDBOX (cutbox-door.mjs). By AI agents, Wed Nov 11 2026. No macro, syntax, notation, axiom, sorry.
-/
import Derived.Test.YtgncgpcpbadfnaaGreatDoorRows
import GoSem.ClaimSeven
namespace Go.Proofs.YtgncgpcpbadfnaaGreatDoor
namespace Rows

/-- THE TIED CARD OF 'lorrylaw38.VerifySound'. -/
def verifySoundCard : Claim7 := { stood := { row := verifySoundRow, standIns := [], harness := (true, "5226bb772c963b43563045eda0232b0eb7b8cba5003918d8a4217bc86efdae64"), looks := false }, kinds := [], alts := [], laidByText := true, laidKinds := [.data, .data, .data], laidTests := true, laidLooks := .later }
def VerifySoundCardSaid : Prop := Claim7.holds Tryz.pinned (.plain (OpenSpec.ofChange verifySoundSpec)) verifySoundCard

/-- THE TIED CARD OF 'lorrylaw38.VerifyCovers'. -/
def verifyCoversCard : Claim7 := { stood := { row := verifyCoversRow, standIns := [], harness := (true, "5226bb772c963b43563045eda0232b0eb7b8cba5003918d8a4217bc86efdae64"), looks := false }, kinds := [], alts := [], laidByText := true, laidKinds := [.data, .data, .data], laidTests := true, laidLooks := .later }
def VerifyCoversCardSaid : Prop := Claim7.holds Tryz.pinned (.plain (OpenSpec.ofChange verifyCoversSpec)) verifyCoversCard

/-- THE SECOND FORM's CARD OF 'lorrylaw38.VerifySound'. -/
def verifySoundUptoCard : Claim7 := { stood := { row := verifySoundUptoRow, standIns := [], harness := (true, "5226bb772c963b43563045eda0232b0eb7b8cba5003918d8a4217bc86efdae64"), looks := false }, kinds := [], alts := [], laidByText := true, laidKinds := [.data, .data, .data], laidTests := true, laidLooks := .later }
def VerifySoundUptoCardSaid : Prop := Claim7.holds Tryz.pinned (.plain (OpenSpec.upto verifySoundSpec)) verifySoundUptoCard

/-- THE SECOND FORM's CARD OF 'lorrylaw38.VerifyCovers'. -/
def verifyCoversUptoCard : Claim7 := { stood := { row := verifyCoversUptoRow, standIns := [], harness := (true, "5226bb772c963b43563045eda0232b0eb7b8cba5003918d8a4217bc86efdae64"), looks := false }, kinds := [], alts := [], laidByText := true, laidKinds := [.data, .data, .data], laidTests := true, laidLooks := .later }
def VerifyCoversUptoCardSaid : Prop := Claim7.holds Tryz.pinned (.plain (OpenSpec.upto verifyCoversSpec)) verifyCoversUptoCard
end Rows
end Go.Proofs.YtgncgpcpbadfnaaGreatDoor
