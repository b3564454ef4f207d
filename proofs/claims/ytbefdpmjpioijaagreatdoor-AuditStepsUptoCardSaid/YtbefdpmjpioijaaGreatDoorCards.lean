/-
  DERIVED. GIVEN WITH THE SEED: THE CARDS: each row of YtbefdpmjpioijaaGreatDoorRows.lean that lists a variable, with what it lists TIED to the program's text (the seventh form; the later family's looks); each row that meets fmt, with fmt's text TOLD by the authors' own Lean function (tested against real Go, not proved from fmt's source: count such statements apart). THE CARD IS WHAT COUNTS. Prove the row's statement (the work); the ties are given (YtbefdpmjpioijaaGreatDoorTie.lean); close each card by the builder's one call (the guide's Derived/Test/ToyasCard.lean, 'card_holds'). Laid BY PROGRAM, IN A SANDBOX (cutbox-door.mjs). By AI agents, Wed Nov 11 2026. No macro, syntax, notation, axiom, sorry.
-/
import Derived.Test.YtbefdpmjpioijaaGreatDoorRows
import GoSem.ClaimSeven
namespace Go.Proofs.YtbefdpmjpioijaaGreatDoor
namespace Rows

/-- THE TIED CARD OF 'lorrylaw55.AuditPlans'. -/
def auditPlansCard : Claim7 := { stood := { row := auditPlansRow, standIns := [], harness := (true, "288f0d18deddf5625dfc4e73f1659d957658ecc9fd197228124dea8d0b94395a"), looks := false }, kinds := [], alts := [], laidByText := true, laidKinds := [.data, .data, .data], laidTests := true, laidLooks := .later }
def AuditPlansCardSaid : Prop := Claim7.holds Tryz.pinned (.plain (OpenSpec.ofChange auditPlansSpec)) auditPlansCard

/-- THE TIED CARD OF 'lorrylaw55.AuditSteps'. -/
def auditStepsCard : Claim7 := { stood := { row := auditStepsRow, standIns := [], harness := (true, "288f0d18deddf5625dfc4e73f1659d957658ecc9fd197228124dea8d0b94395a"), looks := false }, kinds := [], alts := [], laidByText := true, laidKinds := [.data, .data, .data], laidTests := true, laidLooks := .later }
def AuditStepsCardSaid : Prop := Claim7.holds Tryz.pinned (.plain (OpenSpec.ofChange auditStepsSpec)) auditStepsCard

/-- THE SECOND FORM's CARD OF 'lorrylaw55.AuditPlans'. -/
def auditPlansUptoCard : Claim7 := { stood := { row := auditPlansUptoRow, standIns := [], harness := (true, "288f0d18deddf5625dfc4e73f1659d957658ecc9fd197228124dea8d0b94395a"), looks := false }, kinds := [], alts := [], laidByText := true, laidKinds := [.data, .data, .data], laidTests := true, laidLooks := .later }
def AuditPlansUptoCardSaid : Prop := Claim7.holds Tryz.pinned (.plain (OpenSpec.upto auditPlansSpec)) auditPlansUptoCard

/-- THE SECOND FORM's CARD OF 'lorrylaw55.AuditSteps'. -/
def auditStepsUptoCard : Claim7 := { stood := { row := auditStepsUptoRow, standIns := [], harness := (true, "288f0d18deddf5625dfc4e73f1659d957658ecc9fd197228124dea8d0b94395a"), looks := false }, kinds := [], alts := [], laidByText := true, laidKinds := [.data, .data, .data], laidTests := true, laidLooks := .later }
def AuditStepsUptoCardSaid : Prop := Claim7.holds Tryz.pinned (.plain (OpenSpec.upto auditStepsSpec)) auditStepsUptoCard
end Rows
end Go.Proofs.YtbefdpmjpioijaaGreatDoor
