/- DecideOpposes: for every input whose bulk is at most 1048576 the law returns true and changes no argument: a plan in which no order is on two routes fulfils a decision or its opposite, and the opposite of the opposite is the decision. Conditions: none beside the given statement's own bound. -/
import Derived.Test.YtjlbikpgjejkjaaLawD
import Derived.Test.YtjlbikpgjejkjaaSaidDO
namespace Go.Proofs.Ytjlbikpgjejkjaa
theorem decideOpposes_holds : Rows.DecideOpposesUptoSaid := decideOpposes.over Dec.opposesLaw_c
#print axioms decideOpposes_holds
end Go.Proofs.Ytjlbikpgjejkjaa
