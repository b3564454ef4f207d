/-
  DERIVED. GIVEN WITH THE SEED: THE CARDS: each row of YtpagaknmdfgfkaaGreatDoorRows.lean that lists a variable, with what it lists TIED to the program's text (the seventh form; the later family's looks); each row that meets fmt, with fmt's text TOLD by the authors' own Lean function (tested against real Go, not proved from fmt's source: count such statements apart). THE CARD IS WHAT COUNTS. Prove the row's statement (the work); the ties are given (YtpagaknmdfgfkaaGreatDoorTie.lean); close each card by the builder's one call (the guide's Derived/Test/ToyasCard.lean, 'card_holds'). Laid BY PROGRAM, IN A SANDBOX (cutbox-door.mjs). By AI agents, Wed Nov 11 2026. No macro, syntax, notation, axiom, sorry.
-/
import Derived.Test.YtpagaknmdfgfkaaGreatDoorRows
import GoSem.ClaimSeven
namespace Go.Proofs.YtpagaknmdfgfkaaGreatDoor
namespace Rows

/-- THE TIED CARD OF 'lorrylaw33.PricingBest'. -/
def pricingBestCard : Claim7 := { stood := { row := pricingBestRow, standIns := [], harness := (true, "dbe931b9ee960e90a1929cff0c7708eefcde8e7c7e3f997bcd1daf03ec457b6c"), looks := false }, kinds := [], alts := [], laidByText := true, laidKinds := [.data, .data, .data], laidTests := true, laidLooks := .later }
def PricingBestCardSaid : Prop := Claim7.holds Tryz.pinned (.plain (OpenSpec.ofChange pricingBestSpec)) pricingBestCard

/-- THE TIED CARD OF 'lorrylaw33.PricingNegative'. -/
def pricingNegativeCard : Claim7 := { stood := { row := pricingNegativeRow, standIns := [], harness := (true, "dbe931b9ee960e90a1929cff0c7708eefcde8e7c7e3f997bcd1daf03ec457b6c"), looks := false }, kinds := [], alts := [], laidByText := true, laidKinds := [.data, .data, .data], laidTests := true, laidLooks := .later }
def PricingNegativeCardSaid : Prop := Claim7.holds Tryz.pinned (.plain (OpenSpec.ofChange pricingNegativeSpec)) pricingNegativeCard

/-- THE SECOND FORM's CARD OF 'lorrylaw33.PricingBest'. -/
def pricingBestUptoCard : Claim7 := { stood := { row := pricingBestUptoRow, standIns := [], harness := (true, "dbe931b9ee960e90a1929cff0c7708eefcde8e7c7e3f997bcd1daf03ec457b6c"), looks := false }, kinds := [], alts := [], laidByText := true, laidKinds := [.data, .data, .data], laidTests := true, laidLooks := .later }
def PricingBestUptoCardSaid : Prop := Claim7.holds Tryz.pinned (.plain (OpenSpec.upto pricingBestSpec)) pricingBestUptoCard

/-- THE SECOND FORM's CARD OF 'lorrylaw33.PricingNegative'. -/
def pricingNegativeUptoCard : Claim7 := { stood := { row := pricingNegativeUptoRow, standIns := [], harness := (true, "dbe931b9ee960e90a1929cff0c7708eefcde8e7c7e3f997bcd1daf03ec457b6c"), looks := false }, kinds := [], alts := [], laidByText := true, laidKinds := [.data, .data, .data], laidTests := true, laidLooks := .later }
def PricingNegativeUptoCardSaid : Prop := Claim7.holds Tryz.pinned (.plain (OpenSpec.upto pricingNegativeSpec)) pricingNegativeUptoCard
end Rows
end Go.Proofs.YtpagaknmdfgfkaaGreatDoor
