/-
  DERIVED. GIVEN WITH THE SEED: THE CARDS: each row of YtohmomanmikphaaGreatDoorRows.lean that lists a variable, with what it lists TIED to the program's text (the seventh form; the later family's looks); each row that meets fmt, with fmt's text TOLD by the authors' own Lean function (tested against real Go, not proved from fmt's source: count such statements apart). THE CARD IS WHAT COUNTS. Prove the row's statement (the work); the ties are given (YtohmomanmikphaaGreatDoorTie.lean); close each card by the builder's one call (the guide's Derived/Test/ToyasCard.lean, 'card_holds'). Laid BY PROGRAM, IN A SANDBOX (cutbox-door.mjs). By AI agents, Wed Nov 11 2026. No macro, syntax, notation, axiom, sorry.
-/
import Derived.Test.YtohmomanmikphaaGreatDoorRows
import GoSem.ClaimSeven
namespace Go.Proofs.YtohmomanmikphaaGreatDoor
namespace Rows

/-- THE TIED CARD OF 'lorrylaw33.PricingBest'. -/
def pricingBestCard : Claim7 := { stood := { row := pricingBestRow, standIns := [], harness := (true, "929f1f76da38d4e40742710f5716e565d620cfce81c9d69bb142499624998106"), looks := false }, kinds := [], alts := [], laidByText := true, laidKinds := [.data, .data, .data], laidTests := true, laidLooks := .later }
def PricingBestCardSaid : Prop := Claim7.holds Tryz.pinned (.plain (OpenSpec.ofChange pricingBestSpec)) pricingBestCard

/-- THE TIED CARD OF 'lorrylaw33.PricingNegative'. -/
def pricingNegativeCard : Claim7 := { stood := { row := pricingNegativeRow, standIns := [], harness := (true, "929f1f76da38d4e40742710f5716e565d620cfce81c9d69bb142499624998106"), looks := false }, kinds := [], alts := [], laidByText := true, laidKinds := [.data, .data, .data], laidTests := true, laidLooks := .later }
def PricingNegativeCardSaid : Prop := Claim7.holds Tryz.pinned (.plain (OpenSpec.ofChange pricingNegativeSpec)) pricingNegativeCard

/-- THE TIED CARD OF 'lorrylaw33.PricingAllowed'. -/
def pricingAllowedCard : Claim7 := { stood := { row := pricingAllowedRow, standIns := [], harness := (true, "929f1f76da38d4e40742710f5716e565d620cfce81c9d69bb142499624998106"), looks := false }, kinds := [], alts := [], laidByText := true, laidKinds := [.data, .data, .data], laidTests := true, laidLooks := .later }
def PricingAllowedCardSaid : Prop := Claim7.holds Tryz.pinned (.plain (OpenSpec.ofChange pricingAllowedSpec)) pricingAllowedCard

/-- THE TIED CARD OF 'lorrylaw33.PricingLeast'. -/
def pricingLeastCard : Claim7 := { stood := { row := pricingLeastRow, standIns := [], harness := (true, "929f1f76da38d4e40742710f5716e565d620cfce81c9d69bb142499624998106"), looks := false }, kinds := [], alts := [], laidByText := true, laidKinds := [.data, .data, .data], laidTests := true, laidLooks := .later }
def PricingLeastCardSaid : Prop := Claim7.holds Tryz.pinned (.plain (OpenSpec.ofChange pricingLeastSpec)) pricingLeastCard

/-- THE TIED CARD OF 'lorrylaw33.PricingFewer'. -/
def pricingFewerCard : Claim7 := { stood := { row := pricingFewerRow, standIns := [], harness := (true, "929f1f76da38d4e40742710f5716e565d620cfce81c9d69bb142499624998106"), looks := false }, kinds := [], alts := [], laidByText := true, laidKinds := [.data, .data, .data], laidTests := true, laidLooks := .later }
def PricingFewerCardSaid : Prop := Claim7.holds Tryz.pinned (.plain (OpenSpec.ofChange pricingFewerSpec)) pricingFewerCard

/-- THE SECOND FORM's CARD OF 'lorrylaw33.PricingBest'. -/
def pricingBestUptoCard : Claim7 := { stood := { row := pricingBestUptoRow, standIns := [], harness := (true, "929f1f76da38d4e40742710f5716e565d620cfce81c9d69bb142499624998106"), looks := false }, kinds := [], alts := [], laidByText := true, laidKinds := [.data, .data, .data], laidTests := true, laidLooks := .later }
def PricingBestUptoCardSaid : Prop := Claim7.holds Tryz.pinned (.plain (OpenSpec.upto pricingBestSpec)) pricingBestUptoCard

/-- THE SECOND FORM's CARD OF 'lorrylaw33.PricingNegative'. -/
def pricingNegativeUptoCard : Claim7 := { stood := { row := pricingNegativeUptoRow, standIns := [], harness := (true, "929f1f76da38d4e40742710f5716e565d620cfce81c9d69bb142499624998106"), looks := false }, kinds := [], alts := [], laidByText := true, laidKinds := [.data, .data, .data], laidTests := true, laidLooks := .later }
def PricingNegativeUptoCardSaid : Prop := Claim7.holds Tryz.pinned (.plain (OpenSpec.upto pricingNegativeSpec)) pricingNegativeUptoCard

/-- THE SECOND FORM's CARD OF 'lorrylaw33.PricingAllowed'. -/
def pricingAllowedUptoCard : Claim7 := { stood := { row := pricingAllowedUptoRow, standIns := [], harness := (true, "929f1f76da38d4e40742710f5716e565d620cfce81c9d69bb142499624998106"), looks := false }, kinds := [], alts := [], laidByText := true, laidKinds := [.data, .data, .data], laidTests := true, laidLooks := .later }
def PricingAllowedUptoCardSaid : Prop := Claim7.holds Tryz.pinned (.plain (OpenSpec.upto pricingAllowedSpec)) pricingAllowedUptoCard

/-- THE SECOND FORM's CARD OF 'lorrylaw33.PricingLeast'. -/
def pricingLeastUptoCard : Claim7 := { stood := { row := pricingLeastUptoRow, standIns := [], harness := (true, "929f1f76da38d4e40742710f5716e565d620cfce81c9d69bb142499624998106"), looks := false }, kinds := [], alts := [], laidByText := true, laidKinds := [.data, .data, .data], laidTests := true, laidLooks := .later }
def PricingLeastUptoCardSaid : Prop := Claim7.holds Tryz.pinned (.plain (OpenSpec.upto pricingLeastSpec)) pricingLeastUptoCard

/-- THE SECOND FORM's CARD OF 'lorrylaw33.PricingFewer'. -/
def pricingFewerUptoCard : Claim7 := { stood := { row := pricingFewerUptoRow, standIns := [], harness := (true, "929f1f76da38d4e40742710f5716e565d620cfce81c9d69bb142499624998106"), looks := false }, kinds := [], alts := [], laidByText := true, laidKinds := [.data, .data, .data], laidTests := true, laidLooks := .later }
def PricingFewerUptoCardSaid : Prop := Claim7.holds Tryz.pinned (.plain (OpenSpec.upto pricingFewerSpec)) pricingFewerUptoCard
end Rows
end Go.Proofs.YtohmomanmikphaaGreatDoor
