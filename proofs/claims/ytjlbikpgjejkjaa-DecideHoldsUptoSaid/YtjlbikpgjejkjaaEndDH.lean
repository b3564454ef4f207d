/- DecideHolds: for every input whose bulk is at most 1048576 the law returns true and changes no argument: decide.Holds and decide.Clash answer as the reference does. Conditions: none beside the given statement's own bound. -/
import Derived.Test.YtjlbikpgjejkjaaLawC
import Derived.Test.YtjlbikpgjejkjaaSaidDH
namespace Go.Proofs.Ytjlbikpgjejkjaa
theorem decideHolds_holds : Rows.DecideHoldsUptoSaid := decideHolds.over Dec.holdsLaw_c
#print axioms decideHolds_holds
end Go.Proofs.Ytjlbikpgjejkjaa
