import Derived.ClosedOfChecked
import Derived.JoinedOf
import Derived.Test.YthbiheckeoknlaaGreatDoorPp16
set_option linter.unusedSimpArgs false
set_option linter.unusedVariables false
set_option linter.defProp false
set_option maxRecDepth 100000
namespace Go.Proofs.YthbiheckeoknlaaGreatDoor
open Go.Proofs.Tryz
open Go Go.Proofs
set_option maxHeartbeats 4000000
theorem JH:(Rows.scriptParsesUptoRow.inPlace == prog.inPlace 3)=true:=by unfold Program.inPlace;rw[Ew];as_aux_lemma=>kernel_rfl
theorem OT:prog.unfollowed 3=true:=by unfold Program.unfollowed;rw[Ew];as_aux_lemma=>kernel_rfl
theorem B7:(Rows.scriptParsesUptoRow.unfollowed == prog.unfollowed 3)=true:=by rw[OT];rfl
theorem HC:(Rows.scriptParsesUptoRow.recurses == prog.recurses 3)=true:=by unfold Program.recurses;rw[OT];rfl
theorem OV:(Rows.scriptParsesUptoRow.named == prog.varsNamed 3)=true:=by unfold Program.varsNamed;rw[Ew];as_aux_lemma=>kernel_rfl
theorem LF:Go.ClosedOfChecked.AllSpec prog:=Go.ClosedOfChecked.allSpec_of Tryz.checked.wellFormed (by as_aux_lemma=>kernel_rfl)
theorem Ln:laidOutB prog=true:=Go.ClosedOfChecked.laidOutB_of LF (by as_aux_lemma=>kernel_rfl)
theorem Qi:mapsRowed prog=true:=Go.ClosedOfChecked.mapsRowed_of LF
end Go.Proofs.YthbiheckeoknlaaGreatDoor
