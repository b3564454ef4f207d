/- DecideRoutes: for every input whose bulk is at most 1048576 the law returns true and changes no argument: decisions that a plan fulfils allow the columns of its routes. Conditions: none beside the given statement's own bound. -/
import Derived.Test.YtjlbikpgjejkjaaLawE
import Derived.Test.YtjlbikpgjejkjaaSaidDR
namespace Go.Proofs.Ytjlbikpgjejkjaa
theorem decideRoutes_holds : Rows.DecideRoutesUptoSaid := decideRoutes.over Dec.routesLaw_c
#print axioms decideRoutes_holds
end Go.Proofs.Ytjlbikpgjejkjaa
