/- DecideChecks: for every instance, decisions and decision whose bulk is at most 1048576 the law returns true and changes no argument: decide.Check and decide.Opposite answer as the reference does. Conditions: none beside the given statement's own bound. -/
import Derived.Test.YtjlbikpgjejkjaaLawA
import Derived.Test.YtjlbikpgjejkjaaSaidDC
namespace Go.Proofs.Ytjlbikpgjejkjaa
theorem decideChecks_holds : Rows.DecideChecksUptoSaid := decideChecks.over Dec.checks_c
#print axioms decideChecks_holds
end Go.Proofs.Ytjlbikpgjejkjaa
