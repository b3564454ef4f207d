/- MovedCounts: for every input whose bulk is at most 1048576 the law returns true and changes no argument: how many orders two plans serve by different types does not depend on the order, and two differences together are at least the third. Conditions: none beside the given statement's own bound. -/
import Derived.Test.YtjlbikpgjejkjaaMvD
import Derived.Test.YtjlbikpgjejkjaaSaidMC
namespace Go.Proofs.Ytjlbikpgjejkjaa
theorem movedCounts_holds : Rows.MovedCountsUptoSaid := movedCounts.over Mv.countsLaw_c
#print axioms movedCounts_holds
end Go.Proofs.Ytjlbikpgjejkjaa
