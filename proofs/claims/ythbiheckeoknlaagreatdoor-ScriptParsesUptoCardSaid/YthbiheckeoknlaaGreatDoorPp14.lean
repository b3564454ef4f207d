import Derived.Test.YthbiheckeoknlaaGreatDoorRows
import Derived.LaidByTextLater
import Derived.SevenTiedAt
namespace Go.Proofs.YthbiheckeoknlaaGreatDoor
open Go.Proofs.Tryz
open Go
theorem He:Tryz.pinned.checked.prog.headLifts.contains "ownunsafe" = false:=by kernel_rfl
set_option maxHeartbeats 4000000 in
theorem R6:prog.laidByTextLater [("strconv.ErrSyntax",Rows.laid_strconv_ErrSyntax),("strconv.ErrRange",Rows.laid_strconv_ErrRange),("internal/strconv.uint64pow10",Rows.laid_internal_strconv_uint64pow10),("math/bits.deBruijn32tab",Rows.laid_math_bits_deBruijn32tab),("math/bits.deBruijn64tab",Rows.laid_math_bits_deBruijn64tab),("unicode/utf8.acceptRanges",Rows.laid_unicode_utf8_acceptRanges)] [.sentinel,.sentinel,.data,.data,.data,.data] true:=
  Program.laidByTextLater_by_run 400 8 (by as_aux_lemma=>kernel_rfl) (by as_aux_lemma=>kernel_rfl) (by as_aux_lemma=>kernel_rfl) (by as_aux_lemma=>kernel_rfl) (by as_aux_lemma=>kernel_rfl) (by as_aux_lemma=>kernel_rfl) (fun _ _=>by as_aux_lemma=>kernel_rfl) (fun _ _=>by as_aux_lemma=>kernel_rfl) (fun _ _=>by as_aux_lemma=>kernel_rfl)
end Go.Proofs.YthbiheckeoknlaaGreatDoor
