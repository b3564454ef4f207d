/- Texts joined by a program: TtD. -/
import Derived.ClosedOfChecked
import Derived.JoinedOf
import Derived.Test.YtmidcjlidploaaaGreatDoorSb35

namespace Go.Proofs.YtmidcjlidploaaaGreatDoor
open Go Go.Proofs
set_option maxRecDepth 100000
set_option maxHeartbeats 4000000
theorem ownInPlace : (Rows.scriptBackUptoRow.inPlace == Tryz.prog.inPlace 3) = true := by
  unfold Program.inPlace; rw [ownClos]; as_aux_lemma => kernel_rfl
theorem ownUnf : Tryz.prog.unfollowed 3 = true := by
  unfold Program.unfollowed; rw [ownClos]; as_aux_lemma => kernel_rfl
theorem ownUnfollowed : (Rows.scriptBackUptoRow.unfollowed == Tryz.prog.unfollowed 3) = true := by rw [ownUnf]; rfl
theorem ownRecurses : (Rows.scriptBackUptoRow.recurses == Tryz.prog.recurses 3) = true := by
  unfold Program.recurses; rw [ownUnf]; rfl
theorem ownNamed : (Rows.scriptBackUptoRow.named == Tryz.prog.varsNamed 3) = true := by
  unfold Program.varsNamed; rw [ownClos]; as_aux_lemma => kernel_rfl
theorem ownSpec : Go.ClosedOfChecked.AllSpec Tryz.prog := Go.ClosedOfChecked.allSpec_of Tryz.checked.wellFormed (by as_aux_lemma => kernel_rfl)
theorem ownLaid : laidOutB Tryz.prog = true := Go.ClosedOfChecked.laidOutB_of ownSpec (by as_aux_lemma => kernel_rfl)
theorem ownMaps : mapsRowed Tryz.prog = true := Go.ClosedOfChecked.mapsRowed_of ownSpec
end Go.Proofs.YtmidcjlidploaaaGreatDoor
