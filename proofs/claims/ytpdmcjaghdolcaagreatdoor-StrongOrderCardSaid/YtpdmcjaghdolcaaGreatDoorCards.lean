/-
  DERIVED. GIVEN WITH THE SEED: THE CARDS: each row of YtpdmcjaghdolcaaGreatDoorRows.lean that lists a variable, with what it lists TIED to the program's text (the seventh form; the later family's looks); each row that meets fmt, with fmt's text TOLD by the authors' own Lean function (tested against real Go, not proved from fmt's source: count such statements apart). THE CARD IS WHAT COUNTS. Prove the row's statement (the work); the ties are given (YtpdmcjaghdolcaaGreatDoorTie.lean); close each card by the builder's one call (the guide's Derived/Test/ToyasCard.lean, 'card_holds'). Laid BY PROGRAM, IN A SANDBOX (cutbox-door.mjs). By AI agents, Wed Nov 11 2026. No macro, syntax, notation, axiom, sorry.
-/
import Derived.Test.YtpdmcjaghdolcaaGreatDoorRows
import GoSem.ClaimSeven
namespace Go.Proofs.YtpdmcjaghdolcaaGreatDoor
namespace Rows

/-- THE TIED CARD OF 'lorrylaw36.StrongCompares'. -/
def strongComparesCard : Claim7 := { stood := { row := strongComparesRow, standIns := [], harness := (true, "ef5ceb79017f1593ec846790d9d5c942f09696a6c1834d01f8fb7e0d19a2d962"), looks := true }, kinds := [], alts := [], laidByText := true, laidKinds := [.data, .data, .data, .sentinel, .sentinel], laidTests := true, laidLooks := .later }
def StrongComparesCardSaid : Prop := Claim7.holds Tryz.pinned (.plain (OpenSpec.ofChange strongComparesSpec)) strongComparesCard

/-- THE TIED CARD OF 'lorrylaw36.StrongOrder'. -/
def strongOrderCard : Claim7 := { stood := { row := strongOrderRow, standIns := [], harness := (true, "ef5ceb79017f1593ec846790d9d5c942f09696a6c1834d01f8fb7e0d19a2d962"), looks := true }, kinds := [], alts := [], laidByText := true, laidKinds := [.data, .data, .data, .sentinel, .sentinel], laidTests := true, laidLooks := .later }
def StrongOrderCardSaid : Prop := Claim7.holds Tryz.pinned (.plain (OpenSpec.ofChange strongOrderSpec)) strongOrderCard

/-- THE SECOND FORM's CARD OF 'lorrylaw36.StrongCompares'. -/
def strongComparesUptoCard : Claim7 := { stood := { row := strongComparesUptoRow, standIns := [], harness := (true, "ef5ceb79017f1593ec846790d9d5c942f09696a6c1834d01f8fb7e0d19a2d962"), looks := true }, kinds := [], alts := [], laidByText := true, laidKinds := [.data, .data, .data, .sentinel, .sentinel], laidTests := true, laidLooks := .later }
def StrongComparesUptoCardSaid : Prop := Claim7.holds Tryz.pinned (.plain (OpenSpec.upto strongComparesSpec)) strongComparesUptoCard

/-- THE SECOND FORM's CARD OF 'lorrylaw36.StrongOrder'. -/
def strongOrderUptoCard : Claim7 := { stood := { row := strongOrderUptoRow, standIns := [], harness := (true, "ef5ceb79017f1593ec846790d9d5c942f09696a6c1834d01f8fb7e0d19a2d962"), looks := true }, kinds := [], alts := [], laidByText := true, laidKinds := [.data, .data, .data, .sentinel, .sentinel], laidTests := true, laidLooks := .later }
def StrongOrderUptoCardSaid : Prop := Claim7.holds Tryz.pinned (.plain (OpenSpec.upto strongOrderSpec)) strongOrderUptoCard
end Rows
end Go.Proofs.YtpdmcjaghdolcaaGreatDoor
