/- DecideAllows: for every input whose bulk is at most 1048576 the law returns true and changes no argument: decide.Allows answers as the reference does. Conditions: none beside the given statement's own bound. -/
import Derived.Test.YtjlbikpgjejkjaaLawC
import Derived.Test.YtjlbikpgjejkjaaSaidDA
namespace Go.Proofs.Ytjlbikpgjejkjaa
theorem decideAllows_holds : Rows.DecideAllowsUptoSaid := decideAllows.over Dec.allowsLaw_c
#print axioms decideAllows_holds
end Go.Proofs.Ytjlbikpgjejkjaa
