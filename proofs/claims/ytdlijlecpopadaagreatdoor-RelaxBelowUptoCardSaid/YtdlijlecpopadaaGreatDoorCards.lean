/-
  DERIVED. GIVEN WITH THE SEED: THE CARDS: each row of YtdlijlecpopadaaGreatDoorRows.lean that lists a variable, with what it lists TIED to the program's text (the seventh form; the later family's looks); each row that meets fmt, with fmt's text TOLD by the authors' own Lean function (tested against real Go, not proved from fmt's source: count such statements apart). THE CARD IS WHAT COUNTS. Prove the row's statement (the work); the ties are given (YtdlijlecpopadaaGreatDoorTie.lean); close each card by the builder's one call (the guide's Derived/Test/ToyasCard.lean, 'card_holds'). Laid BY PROGRAM, IN A SANDBOX (cutbox-door.mjs). By AI agents, Wed Nov 11 2026. No macro, syntax, notation, axiom, sorry.
-/
import Derived.Test.YtdlijlecpopadaaGreatDoorRows
import GoSem.ClaimSeven
namespace Go.Proofs.YtdlijlecpopadaaGreatDoor
namespace Rows

/-- THE TIED CARD OF 'lorrylaw32.RelaxMemories'. -/
def relaxMemoriesCard : Claim7 := { stood := { row := relaxMemoriesRow, standIns := [], harness := (true, "0aa52dce38de119aa1515a54b96aee4b580b4bb1a33ab58d738eacddabc0ec1d"), looks := false }, kinds := [], alts := [], laidByText := true, laidKinds := [.data, .data, .data], laidTests := true, laidLooks := .later }
def RelaxMemoriesCardSaid : Prop := Claim7.holds Tryz.pinned (.plain (OpenSpec.ofChange relaxMemoriesSpec)) relaxMemoriesCard

/-- THE TIED CARD OF 'lorrylaw32.RelaxBounds'. -/
def relaxBoundsCard : Claim7 := { stood := { row := relaxBoundsRow, standIns := [], harness := (true, "0aa52dce38de119aa1515a54b96aee4b580b4bb1a33ab58d738eacddabc0ec1d"), looks := false }, kinds := [], alts := [], laidByText := true, laidKinds := [.data, .data, .data], laidTests := true, laidLooks := .later }
def RelaxBoundsCardSaid : Prop := Claim7.holds Tryz.pinned (.plain (OpenSpec.ofChange relaxBoundsSpec)) relaxBoundsCard

/-- THE TIED CARD OF 'lorrylaw32.RelaxCounts'. -/
def relaxCountsCard : Claim7 := { stood := { row := relaxCountsRow, standIns := [], harness := (true, "0aa52dce38de119aa1515a54b96aee4b580b4bb1a33ab58d738eacddabc0ec1d"), looks := false }, kinds := [], alts := [], laidByText := true, laidKinds := [.data, .data, .data], laidTests := true, laidLooks := .later }
def RelaxCountsCardSaid : Prop := Claim7.holds Tryz.pinned (.plain (OpenSpec.ofChange relaxCountsSpec)) relaxCountsCard

/-- THE TIED CARD OF 'lorrylaw32.RelaxLonger'. -/
def relaxLongerCard : Claim7 := { stood := { row := relaxLongerRow, standIns := [], harness := (true, "0aa52dce38de119aa1515a54b96aee4b580b4bb1a33ab58d738eacddabc0ec1d"), looks := false }, kinds := [], alts := [], laidByText := true, laidKinds := [.data, .data, .data], laidTests := true, laidLooks := .later }
def RelaxLongerCardSaid : Prop := Claim7.holds Tryz.pinned (.plain (OpenSpec.ofChange relaxLongerSpec)) relaxLongerCard

/-- THE TIED CARD OF 'lorrylaw32.RelaxDuals'. -/
def relaxDualsCard : Claim7 := { stood := { row := relaxDualsRow, standIns := [], harness := (true, "0aa52dce38de119aa1515a54b96aee4b580b4bb1a33ab58d738eacddabc0ec1d"), looks := false }, kinds := [], alts := [], laidByText := true, laidKinds := [.data, .data, .data], laidTests := true, laidLooks := .later }
def RelaxDualsCardSaid : Prop := Claim7.holds Tryz.pinned (.plain (OpenSpec.ofChange relaxDualsSpec)) relaxDualsCard

/-- THE TIED CARD OF 'lorrylaw32.RelaxBelow'. -/
def relaxBelowCard : Claim7 := { stood := { row := relaxBelowRow, standIns := [], harness := (true, "0aa52dce38de119aa1515a54b96aee4b580b4bb1a33ab58d738eacddabc0ec1d"), looks := false }, kinds := [], alts := [], laidByText := true, laidKinds := [.data, .data, .data], laidTests := true, laidLooks := .later }
def RelaxBelowCardSaid : Prop := Claim7.holds Tryz.pinned (.plain (OpenSpec.ofChange relaxBelowSpec)) relaxBelowCard

/-- THE SECOND FORM's CARD OF 'lorrylaw32.RelaxMemories'. -/
def relaxMemoriesUptoCard : Claim7 := { stood := { row := relaxMemoriesUptoRow, standIns := [], harness := (true, "0aa52dce38de119aa1515a54b96aee4b580b4bb1a33ab58d738eacddabc0ec1d"), looks := false }, kinds := [], alts := [], laidByText := true, laidKinds := [.data, .data, .data], laidTests := true, laidLooks := .later }
def RelaxMemoriesUptoCardSaid : Prop := Claim7.holds Tryz.pinned (.plain (OpenSpec.upto relaxMemoriesSpec)) relaxMemoriesUptoCard

/-- THE SECOND FORM's CARD OF 'lorrylaw32.RelaxBounds'. -/
def relaxBoundsUptoCard : Claim7 := { stood := { row := relaxBoundsUptoRow, standIns := [], harness := (true, "0aa52dce38de119aa1515a54b96aee4b580b4bb1a33ab58d738eacddabc0ec1d"), looks := false }, kinds := [], alts := [], laidByText := true, laidKinds := [.data, .data, .data], laidTests := true, laidLooks := .later }
def RelaxBoundsUptoCardSaid : Prop := Claim7.holds Tryz.pinned (.plain (OpenSpec.upto relaxBoundsSpec)) relaxBoundsUptoCard

/-- THE SECOND FORM's CARD OF 'lorrylaw32.RelaxCounts'. -/
def relaxCountsUptoCard : Claim7 := { stood := { row := relaxCountsUptoRow, standIns := [], harness := (true, "0aa52dce38de119aa1515a54b96aee4b580b4bb1a33ab58d738eacddabc0ec1d"), looks := false }, kinds := [], alts := [], laidByText := true, laidKinds := [.data, .data, .data], laidTests := true, laidLooks := .later }
def RelaxCountsUptoCardSaid : Prop := Claim7.holds Tryz.pinned (.plain (OpenSpec.upto relaxCountsSpec)) relaxCountsUptoCard

/-- THE SECOND FORM's CARD OF 'lorrylaw32.RelaxLonger'. -/
def relaxLongerUptoCard : Claim7 := { stood := { row := relaxLongerUptoRow, standIns := [], harness := (true, "0aa52dce38de119aa1515a54b96aee4b580b4bb1a33ab58d738eacddabc0ec1d"), looks := false }, kinds := [], alts := [], laidByText := true, laidKinds := [.data, .data, .data], laidTests := true, laidLooks := .later }
def RelaxLongerUptoCardSaid : Prop := Claim7.holds Tryz.pinned (.plain (OpenSpec.upto relaxLongerSpec)) relaxLongerUptoCard

/-- THE SECOND FORM's CARD OF 'lorrylaw32.RelaxDuals'. -/
def relaxDualsUptoCard : Claim7 := { stood := { row := relaxDualsUptoRow, standIns := [], harness := (true, "0aa52dce38de119aa1515a54b96aee4b580b4bb1a33ab58d738eacddabc0ec1d"), looks := false }, kinds := [], alts := [], laidByText := true, laidKinds := [.data, .data, .data], laidTests := true, laidLooks := .later }
def RelaxDualsUptoCardSaid : Prop := Claim7.holds Tryz.pinned (.plain (OpenSpec.upto relaxDualsSpec)) relaxDualsUptoCard

/-- THE SECOND FORM's CARD OF 'lorrylaw32.RelaxBelow'. -/
def relaxBelowUptoCard : Claim7 := { stood := { row := relaxBelowUptoRow, standIns := [], harness := (true, "0aa52dce38de119aa1515a54b96aee4b580b4bb1a33ab58d738eacddabc0ec1d"), looks := false }, kinds := [], alts := [], laidByText := true, laidKinds := [.data, .data, .data], laidTests := true, laidLooks := .later }
def RelaxBelowUptoCardSaid : Prop := Claim7.holds Tryz.pinned (.plain (OpenSpec.upto relaxBelowSpec)) relaxBelowUptoCard
end Rows
end Go.Proofs.YtdlijlecpopadaaGreatDoor
