/- AuditSteps: for every input whose bulk is at most 1048576 the law returns true and changes no argument: audit.Steps finds the steps that the chapter's reference finds. Conditions: none beside the given statement's own bound; the listed package variables read as the program's text lays them (the card ties them). -/
import Derived.Test.YtbefdpmjpioijaaGreatDoorAvB
import Derived.Test.YtbefdpmjpioijaaGreatDoorSaidAS
namespace Go.Proofs.YtbefdpmjpioijaaGreatDoor
theorem auditSteps_holds : Rows.AuditStepsUptoCardSaid := auditSteps.card fun l hl => Sq.audit55s_c l fun s hs => Mv.inB_of (hl.2 s hs).1
#print axioms auditSteps_holds
end Go.Proofs.YtbefdpmjpioijaaGreatDoor
