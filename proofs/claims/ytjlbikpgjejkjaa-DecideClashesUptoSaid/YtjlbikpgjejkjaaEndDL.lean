/- DecideClashes: for every input whose bulk is at most 1048576 the law returns true and changes no argument: no plan that serves what must be served and keeps the counts fulfils decisions that clash. Conditions: none beside the given statement's own bound. -/
import Derived.Test.YtjlbikpgjejkjaaLawF
import Derived.Test.YtjlbikpgjejkjaaSaidDL
namespace Go.Proofs.Ytjlbikpgjejkjaa
theorem decideClashes_holds : Rows.DecideClashesUptoSaid := decideClashes.over Dec.clashesLaw_c
#print axioms decideClashes_holds
end Go.Proofs.Ytjlbikpgjejkjaa
