/- Texts joined by a program: CuR. -/
import Derived.Lib.LaidIn
import Derived.MakeChecks
import Derived.Stop.LaidErr
import Derived.Test.YtjgecalocibkjaaGreatDoorDw18

set_option linter.unusedSimpArgs false
set_option linter.unusedVariables false
namespace Go.Aw.D
open Go.Aw Go.RowKit Go.Proofs Go.Proofs.YtjgecalocibkjaaGreatDoor Go.WideShapes Go.ChangeShapes
set_option maxRecDepth 100000
def rowLaid : List (String × DataW Unit) := [("internal/strconv.uint64pow10", Go.Proofs.YtjgecalocibkjaaGreatDoor.Rows.laid_internal_strconv_uint64pow10), ("math/bits.deBruijn32tab", Go.Proofs.YtjgecalocibkjaaGreatDoor.Rows.laid_math_bits_deBruijn32tab), ("math/bits.deBruijn64tab", Go.Proofs.YtjgecalocibkjaaGreatDoor.Rows.laid_math_bits_deBruijn64tab), ("strconv.ErrSyntax", Go.Proofs.YtjgecalocibkjaaGreatDoor.Rows.laid_strconv_ErrSyntax), ("strconv.ErrRange", Go.Proofs.YtjgecalocibkjaaGreatDoor.Rows.laid_strconv_ErrRange)]
theorem laid_bru : (Go.Proofs.YtjgecalocibkjaaGreatDoor.Rows.laid_math_bits_deBruijn64tab : DataW Unit) = Lib.tabData .u8 (Lib.deBruijn64tab.map fun z : Nat => (z : Int)) := by kernel_rfl
theorem laid_pow : (Go.Proofs.YtjgecalocibkjaaGreatDoor.Rows.laid_internal_strconv_uint64pow10 : DataW Unit) = Lib.tabData .u64 Lib.pow10Tab := by kernel_rfl
theorem tabsIn_of {W : World} (h : laidMetH Tryz.prog rowLaid W) : TabsIn W := by
  have h0 : laidMet Tryz.prog rowLaid W := (Go.MakeChecks.laidMetH_plain Tryz.prog rowLaid W (by kernel_rfl)) ▸ h
  have h1 := laidMet.tail h0
  have h2 := laidMet.tail h1
  rw [rowLaid, laid_pow] at h0
  rw [laid_bru] at h2
  have b := Lib.tabIs_of_head (g := 2) (by kernel_rfl) (by kernel_rfl) (t := 408) (e := 5) (n := 64) Tryz.underlying408 Tryz.underlying5 (by kernel_rfl) (by kernel_rfl) h2
  have p := Lib.tabIs_of_head (g := 0) (by kernel_rfl) (by kernel_rfl) (t := 396) (e := 297) (n := 20) Tryz.underlying396 Tryz.underlying297 (by kernel_rfl) (by kernel_rfl) h0
  unfold Lib.TabIs World.var? at b p
  rw [show Tryz.prog.globalNamed "math/bits.deBruijn64tab" = some 2 by kernel_rfl] at b
  rw [show Tryz.prog.globalNamed "internal/strconv.uint64pow10" = some 0 by kernel_rfl] at p
  intro t ht
  simp only [tabL, List.mem_cons, List.not_mem_nil, or_false] at ht
  rcases ht with rfl | rfl
  · exact p
  · have : bruTab = ((Lib.deBruijn64tab.map fun z : Nat => (z : Int)).map fun z => Value.int .u8 z).toArray := by simp [bruTab]
    rw [this]
    exact b
end Go.Aw.D
