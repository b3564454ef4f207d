/-
  DERIVED. GIVEN WITH THE SEED: THE CARDS: each row of YtbcfajfngdmgnaaGreatDoorRows.lean that lists a variable, with what it lists TIED to the program's text (the seventh form; the later family's looks); each row that meets fmt, with fmt's text TOLD by the authors' own Lean function (tested against real Go, not proved from fmt's source: count such statements apart). THE CARD IS WHAT COUNTS. Prove the row's statement (the work); the ties are given (YtbcfajfngdmgnaaGreatDoorTie.lean); close each card by the builder's one call (the guide's Derived/Test/ToyasCard.lean, 'card_holds'). Laid BY PROGRAM, IN A SANDBOX (cutbox-door.mjs). By AI agents, Wed Nov 11 2026. No macro, syntax, notation, axiom, sorry.
-/
import Derived.Test.YtbcfajfngdmgnaaGreatDoorRows
import GoSem.ClaimSeven
namespace Go.Proofs.YtbcfajfngdmgnaaGreatDoor
namespace Rows

/-- THE TIED CARD OF 'lorrylaw28.CutBreaks'. -/
def cutBreaksCard : Claim7 := { stood := { row := cutBreaksRow, standIns := [], harness := (true, "ce3584e9e057fcdb4188120a7cb908f6bcd1e029162e8e781be98aa798f429a1"), looks := false }, kinds := [], alts := [], laidByText := true, laidKinds := [.data, .data, .data], laidTests := true, laidLooks := .later }
def CutBreaksCardSaid : Prop := Claim7.holds Tryz.pinned (.plain (OpenSpec.ofChange cutBreaksSpec)) cutBreaksCard

/-- THE TIED CARD OF 'lorrylaw28.CutFinds'. -/
def cutFindsCard : Claim7 := { stood := { row := cutFindsRow, standIns := [], harness := (true, "ce3584e9e057fcdb4188120a7cb908f6bcd1e029162e8e781be98aa798f429a1"), looks := false }, kinds := [], alts := [], laidByText := true, laidKinds := [.data, .data, .data], laidTests := true, laidLooks := .later }
def CutFindsCardSaid : Prop := Claim7.holds Tryz.pinned (.plain (OpenSpec.ofChange cutFindsSpec)) cutFindsCard

/-- THE TIED CARD OF 'lorrylaw28.CutHolds'. -/
def cutHoldsCard : Claim7 := { stood := { row := cutHoldsRow, standIns := [], harness := (true, "ce3584e9e057fcdb4188120a7cb908f6bcd1e029162e8e781be98aa798f429a1"), looks := false }, kinds := [], alts := [], laidByText := true, laidKinds := [.data, .data, .data], laidTests := true, laidLooks := .later }
def CutHoldsCardSaid : Prop := Claim7.holds Tryz.pinned (.plain (OpenSpec.ofChange cutHoldsSpec)) cutHoldsCard

/-- THE TIED CARD OF 'lorrylaw28.CutChecks'. -/
def cutChecksCard : Claim7 := { stood := { row := cutChecksRow, standIns := [], harness := (true, "ce3584e9e057fcdb4188120a7cb908f6bcd1e029162e8e781be98aa798f429a1"), looks := false }, kinds := [], alts := [], laidByText := true, laidKinds := [.data, .data, .data], laidTests := true, laidLooks := .later }
def CutChecksCardSaid : Prop := Claim7.holds Tryz.pinned (.plain (OpenSpec.ofChange cutChecksSpec)) cutChecksCard

/-- THE TIED CARD OF 'lorrylaw30.MasterBuilds'. -/
def masterBuildsCard : Claim7 := { stood := { row := masterBuildsRow, standIns := [], harness := (true, "ce3584e9e057fcdb4188120a7cb908f6bcd1e029162e8e781be98aa798f429a1"), looks := false }, kinds := [], alts := [], laidByText := true, laidKinds := [.data, .data, .data], laidTests := true, laidLooks := .later }
def MasterBuildsCardSaid : Prop := Claim7.holds Tryz.pinned (.plain (OpenSpec.ofChange masterBuildsSpec)) masterBuildsCard

/-- THE TIED CARD OF 'lorrylaw30.MasterCounts'. -/
def masterCountsCard : Claim7 := { stood := { row := masterCountsRow, standIns := [], harness := (true, "ce3584e9e057fcdb4188120a7cb908f6bcd1e029162e8e781be98aa798f429a1"), looks := false }, kinds := [], alts := [], laidByText := true, laidKinds := [.data, .data, .data], laidTests := true, laidLooks := .later }
def MasterCountsCardSaid : Prop := Claim7.holds Tryz.pinned (.plain (OpenSpec.ofChange masterCountsSpec)) masterCountsCard

/-- THE TIED CARD OF 'lorrylaw30.MasterReduces'. -/
def masterReducesCard : Claim7 := { stood := { row := masterReducesRow, standIns := [], harness := (true, "ce3584e9e057fcdb4188120a7cb908f6bcd1e029162e8e781be98aa798f429a1"), looks := false }, kinds := [], alts := [], laidByText := true, laidKinds := [.data, .data, .data], laidTests := true, laidLooks := .later }
def MasterReducesCardSaid : Prop := Claim7.holds Tryz.pinned (.plain (OpenSpec.ofChange masterReducesSpec)) masterReducesCard

/-- THE TIED CARD OF 'lorrylaw30.MasterPlans'. -/
def masterPlansCard : Claim7 := { stood := { row := masterPlansRow, standIns := [], harness := (true, "ce3584e9e057fcdb4188120a7cb908f6bcd1e029162e8e781be98aa798f429a1"), looks := false }, kinds := [], alts := [], laidByText := true, laidKinds := [.data, .data, .data], laidTests := true, laidLooks := .later }
def MasterPlansCardSaid : Prop := Claim7.holds Tryz.pinned (.plain (OpenSpec.ofChange masterPlansSpec)) masterPlansCard

/-- THE TIED CARD OF 'lorrylaw30.MasterServes'. -/
def masterServesCard : Claim7 := { stood := { row := masterServesRow, standIns := [], harness := (true, "ce3584e9e057fcdb4188120a7cb908f6bcd1e029162e8e781be98aa798f429a1"), looks := false }, kinds := [], alts := [], laidByText := true, laidKinds := [.data, .data, .data], laidTests := true, laidLooks := .later }
def MasterServesCardSaid : Prop := Claim7.holds Tryz.pinned (.plain (OpenSpec.ofChange masterServesSpec)) masterServesCard

/-- THE TIED CARD OF 'lorrylaw30.MasterBounds'. -/
def masterBoundsCard : Claim7 := { stood := { row := masterBoundsRow, standIns := [], harness := (true, "ce3584e9e057fcdb4188120a7cb908f6bcd1e029162e8e781be98aa798f429a1"), looks := false }, kinds := [], alts := [], laidByText := true, laidKinds := [.data, .data, .data], laidTests := true, laidLooks := .later }
def MasterBoundsCardSaid : Prop := Claim7.holds Tryz.pinned (.plain (OpenSpec.ofChange masterBoundsSpec)) masterBoundsCard

/-- THE SECOND FORM's CARD OF 'lorrylaw28.CutBreaks'. -/
def cutBreaksUptoCard : Claim7 := { stood := { row := cutBreaksUptoRow, standIns := [], harness := (true, "ce3584e9e057fcdb4188120a7cb908f6bcd1e029162e8e781be98aa798f429a1"), looks := false }, kinds := [], alts := [], laidByText := true, laidKinds := [.data, .data, .data], laidTests := true, laidLooks := .later }
def CutBreaksUptoCardSaid : Prop := Claim7.holds Tryz.pinned (.plain (OpenSpec.upto cutBreaksSpec)) cutBreaksUptoCard

/-- THE SECOND FORM's CARD OF 'lorrylaw28.CutFinds'. -/
def cutFindsUptoCard : Claim7 := { stood := { row := cutFindsUptoRow, standIns := [], harness := (true, "ce3584e9e057fcdb4188120a7cb908f6bcd1e029162e8e781be98aa798f429a1"), looks := false }, kinds := [], alts := [], laidByText := true, laidKinds := [.data, .data, .data], laidTests := true, laidLooks := .later }
def CutFindsUptoCardSaid : Prop := Claim7.holds Tryz.pinned (.plain (OpenSpec.upto cutFindsSpec)) cutFindsUptoCard

/-- THE SECOND FORM's CARD OF 'lorrylaw28.CutHolds'. -/
def cutHoldsUptoCard : Claim7 := { stood := { row := cutHoldsUptoRow, standIns := [], harness := (true, "ce3584e9e057fcdb4188120a7cb908f6bcd1e029162e8e781be98aa798f429a1"), looks := false }, kinds := [], alts := [], laidByText := true, laidKinds := [.data, .data, .data], laidTests := true, laidLooks := .later }
def CutHoldsUptoCardSaid : Prop := Claim7.holds Tryz.pinned (.plain (OpenSpec.upto cutHoldsSpec)) cutHoldsUptoCard

/-- THE SECOND FORM's CARD OF 'lorrylaw28.CutChecks'. -/
def cutChecksUptoCard : Claim7 := { stood := { row := cutChecksUptoRow, standIns := [], harness := (true, "ce3584e9e057fcdb4188120a7cb908f6bcd1e029162e8e781be98aa798f429a1"), looks := false }, kinds := [], alts := [], laidByText := true, laidKinds := [.data, .data, .data], laidTests := true, laidLooks := .later }
def CutChecksUptoCardSaid : Prop := Claim7.holds Tryz.pinned (.plain (OpenSpec.upto cutChecksSpec)) cutChecksUptoCard

/-- THE SECOND FORM's CARD OF 'lorrylaw30.MasterBuilds'. -/
def masterBuildsUptoCard : Claim7 := { stood := { row := masterBuildsUptoRow, standIns := [], harness := (true, "ce3584e9e057fcdb4188120a7cb908f6bcd1e029162e8e781be98aa798f429a1"), looks := false }, kinds := [], alts := [], laidByText := true, laidKinds := [.data, .data, .data], laidTests := true, laidLooks := .later }
def MasterBuildsUptoCardSaid : Prop := Claim7.holds Tryz.pinned (.plain (OpenSpec.upto masterBuildsSpec)) masterBuildsUptoCard

/-- THE SECOND FORM's CARD OF 'lorrylaw30.MasterCounts'. -/
def masterCountsUptoCard : Claim7 := { stood := { row := masterCountsUptoRow, standIns := [], harness := (true, "ce3584e9e057fcdb4188120a7cb908f6bcd1e029162e8e781be98aa798f429a1"), looks := false }, kinds := [], alts := [], laidByText := true, laidKinds := [.data, .data, .data], laidTests := true, laidLooks := .later }
def MasterCountsUptoCardSaid : Prop := Claim7.holds Tryz.pinned (.plain (OpenSpec.upto masterCountsSpec)) masterCountsUptoCard

/-- THE SECOND FORM's CARD OF 'lorrylaw30.MasterReduces'. -/
def masterReducesUptoCard : Claim7 := { stood := { row := masterReducesUptoRow, standIns := [], harness := (true, "ce3584e9e057fcdb4188120a7cb908f6bcd1e029162e8e781be98aa798f429a1"), looks := false }, kinds := [], alts := [], laidByText := true, laidKinds := [.data, .data, .data], laidTests := true, laidLooks := .later }
def MasterReducesUptoCardSaid : Prop := Claim7.holds Tryz.pinned (.plain (OpenSpec.upto masterReducesSpec)) masterReducesUptoCard

/-- THE SECOND FORM's CARD OF 'lorrylaw30.MasterPlans'. -/
def masterPlansUptoCard : Claim7 := { stood := { row := masterPlansUptoRow, standIns := [], harness := (true, "ce3584e9e057fcdb4188120a7cb908f6bcd1e029162e8e781be98aa798f429a1"), looks := false }, kinds := [], alts := [], laidByText := true, laidKinds := [.data, .data, .data], laidTests := true, laidLooks := .later }
def MasterPlansUptoCardSaid : Prop := Claim7.holds Tryz.pinned (.plain (OpenSpec.upto masterPlansSpec)) masterPlansUptoCard

/-- THE SECOND FORM's CARD OF 'lorrylaw30.MasterServes'. -/
def masterServesUptoCard : Claim7 := { stood := { row := masterServesUptoRow, standIns := [], harness := (true, "ce3584e9e057fcdb4188120a7cb908f6bcd1e029162e8e781be98aa798f429a1"), looks := false }, kinds := [], alts := [], laidByText := true, laidKinds := [.data, .data, .data], laidTests := true, laidLooks := .later }
def MasterServesUptoCardSaid : Prop := Claim7.holds Tryz.pinned (.plain (OpenSpec.upto masterServesSpec)) masterServesUptoCard

/-- THE SECOND FORM's CARD OF 'lorrylaw30.MasterBounds'. -/
def masterBoundsUptoCard : Claim7 := { stood := { row := masterBoundsUptoRow, standIns := [], harness := (true, "ce3584e9e057fcdb4188120a7cb908f6bcd1e029162e8e781be98aa798f429a1"), looks := false }, kinds := [], alts := [], laidByText := true, laidKinds := [.data, .data, .data], laidTests := true, laidLooks := .later }
def MasterBoundsUptoCardSaid : Prop := Claim7.holds Tryz.pinned (.plain (OpenSpec.upto masterBoundsSpec)) masterBoundsUptoCard
end Rows
end Go.Proofs.YtbcfajfngdmgnaaGreatDoor
