/- MovedFree: for every input whose bulk is at most 1048576 the law returns true and changes no argument: the score of a valid plan has Moved 0 in the instance that With returns for it, and Moved and Other 0 in the instance of the next day. Conditions: none beside the given statement's own bound. -/
import Derived.Test.YtjlbikpgjejkjaaMfA
import Derived.Test.YtjlbikpgjejkjaaSaidMF
namespace Go.Proofs.Ytjlbikpgjejkjaa
theorem movedFree_holds : Rows.MovedFreeUptoSaid := movedFree.over Sq.freeLaw_c
#print axioms movedFree_holds
end Go.Proofs.Ytjlbikpgjejkjaa
