/- MovedTells: for every input whose bulk is at most 1048576 the law returns true and changes no argument: which types serve which orders in a plan, and the instances that keep it. Conditions: none beside the given statement's own bound. -/
import Derived.Test.YtjlbikpgjejkjaaMvH
import Derived.Test.YtjlbikpgjejkjaaSaidMT
namespace Go.Proofs.Ytjlbikpgjejkjaa
theorem movedTells_holds : Rows.MovedTellsUptoSaid := movedTells.over Mv.tellsLaw_c
#print axioms movedTells_holds
end Go.Proofs.Ytjlbikpgjejkjaa
