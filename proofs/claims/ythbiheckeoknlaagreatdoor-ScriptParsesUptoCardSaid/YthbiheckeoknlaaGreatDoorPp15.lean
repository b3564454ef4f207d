import Derived.Test.YthbiheckeoknlaaGreatDoorPp14
namespace Go.Proofs.YthbiheckeoknlaaGreatDoor
open Go
theorem Sd:Tryz.pinned.checked.prog.pinnedFits "unicode/utf8.first" = true:=by kernel_rfl
set_option maxHeartbeats 4000000 in
theorem Rg:Tryz.pinned.checked.prog.listedFits [("strconv.ErrSyntax",Rows.laid_strconv_ErrSyntax),("strconv.ErrRange",Rows.laid_strconv_ErrRange),("internal/strconv.uint64pow10",Rows.laid_internal_strconv_uint64pow10),("math/bits.deBruijn32tab",Rows.laid_math_bits_deBruijn32tab),("math/bits.deBruijn64tab",Rows.laid_math_bits_deBruijn64tab),("unicode/utf8.first",Rows.laid_unicode_utf8_first),("unicode/utf8.acceptRanges",Rows.laid_unicode_utf8_acceptRanges)]=true:=by
  unfold Program.listedFits
  rw[He]
  as_aux_lemma=>kernel_rfl
set_option maxHeartbeats 4000000 in
theorem Mh:Rows.scriptParsesUptoRow.laidByTextAt .later Tryz.pinned [.sentinel,.sentinel,.data,.data,.data,.pinned,.data] true:=
  OpenClaim.laidByTextAt_pinned rfl rfl R6 rfl rfl rfl rfl (fun y hy _e=>by
    simp only[Rows.scriptParsesUptoRow,List.zip_cons_cons,List.zip_nil_right,List.mem_cons,List.mem_nil_iff,or_false]at hy
    rcases hy with rfl|rfl|rfl|rfl|rfl|rfl|rfl
    · cases _e
    · cases _e
    · cases _e
    · cases _e
    · cases _e
    · exact⟨Sd,by kernel_rfl⟩
    · cases _e) Rg
end Go.Proofs.YthbiheckeoknlaaGreatDoor
