/- AuditPlans: for every input whose bulk is at most 1048576 the law returns true and changes no argument: audit.Plan finds what the chapter's reference finds, and nothing exactly if the reference accepts the plan. Conditions: none beside the given statement's own bound; the listed package variables read as the program's text lays them (the card ties them). -/
import Derived.Test.YtbefdpmjpioijaaGreatDoorAuT
import Derived.Test.YtbefdpmjpioijaaGreatDoorSaidAP
namespace Go.Proofs.YtbefdpmjpioijaaGreatDoor
theorem auditPlans_holds : Rows.AuditPlansUptoCardSaid := auditPlans.card fun x p hx _ => Sq.audit55_c x p (Mv.inB_of hx)
#print axioms auditPlans_holds
end Go.Proofs.YtbefdpmjpioijaaGreatDoor
