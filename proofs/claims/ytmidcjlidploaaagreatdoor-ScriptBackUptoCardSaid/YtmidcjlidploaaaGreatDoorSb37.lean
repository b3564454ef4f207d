/- Texts joined by a program: ScR. -/
import Derived.Lib.LaidIn
import Derived.MakeChecks
import Derived.Stop.LaidErr
import Derived.Shelf.Vars
import Derived.Test.YtmidcjlidploaaaGreatDoorSb18

set_option linter.unusedSimpArgs false
set_option linter.unusedVariables false
namespace Go.Aw.D
open Go.Aw Go.RowKit Go.Proofs Go.Proofs.YtmidcjlidploaaaGreatDoor Go.WideShapes Go.ChangeShapes
set_option maxRecDepth 100000
def rowLaid : List (String × DataW Unit) := [("strconv.ErrSyntax", Go.Proofs.YtmidcjlidploaaaGreatDoor.Rows.laid_strconv_ErrSyntax), ("strconv.ErrRange", Go.Proofs.YtmidcjlidploaaaGreatDoor.Rows.laid_strconv_ErrRange), ("internal/strconv.uint64pow10", Go.Proofs.YtmidcjlidploaaaGreatDoor.Rows.laid_internal_strconv_uint64pow10), ("math/bits.deBruijn32tab", Go.Proofs.YtmidcjlidploaaaGreatDoor.Rows.laid_math_bits_deBruijn32tab), ("math/bits.deBruijn64tab", Go.Proofs.YtmidcjlidploaaaGreatDoor.Rows.laid_math_bits_deBruijn64tab), ("unicode/utf8.first", Go.Proofs.YtmidcjlidploaaaGreatDoor.Rows.laid_unicode_utf8_first), ("unicode/utf8.acceptRanges", Go.Proofs.YtmidcjlidploaaaGreatDoor.Rows.laid_unicode_utf8_acceptRanges)]
theorem laid_bru : (Go.Proofs.YtmidcjlidploaaaGreatDoor.Rows.laid_math_bits_deBruijn64tab : DataW Unit) = Lib.tabData .u8 (Lib.deBruijn64tab.map fun z : Nat => (z : Int)) := by kernel_rfl
theorem laid_pow : (Go.Proofs.YtmidcjlidploaaaGreatDoor.Rows.laid_internal_strconv_uint64pow10 : DataW Unit) = Lib.tabData .u64 Lib.pow10Tab := by kernel_rfl
theorem numIn {W : World} (hsh : W.ShapedOpen Tryz.prog) : isNum (varCells W 0) := by
  have h0 : ((begin Tryz.prog (fun _ _ => 0) default).world.heap[(0 : Nat)]?).bind Obj.row? = some (#[.int .i64 0], 3) := by kernel_rfl
  have hg : (0 : Nat) < Tryz.prog.globals.size := by decide +kernel
  obtain ⟨m, hm⟩ := cell_of_shapedOpen_int hsh hg h0 rfl (by kernel_rfl) (by kernel_rfl) Tryz.underlying3
  obtain ⟨cs, hh, hs, _⟩ := hsh.1 _ _ _ hg h0
  have hs1 : cs.size = 1 := hs
  refine ⟨m, ?_⟩
  simp only [World.cell?, hh] at hm
  unfold varCells
  rw [hh]
  have h2 : cs[0]? = some (.int .i64 m) := by simpa using hm
  have hcs : cs = #[.int .i64 m] := by
    refine Array.ext hs1 fun i hi1 hi2 => ?_
    have hi : i = 0 := by omega
    subst hi
    have := (Array.getElem?_eq_some_iff.1 h2).2
    simpa using this
  show some cs = _
  rw [hcs]
theorem tabsIn_of {W : World} (h : laidMetH Tryz.prog rowLaid W) (hsh : W.ShapedOpen Tryz.prog) : TabsIn W := by
  have h0 : laidMet Tryz.prog rowLaid W := (Go.MakeChecks.laidMetH_plain Tryz.prog rowLaid W (by kernel_rfl)) ▸ h
  have h1 := laidMet.tail (laidMet.tail h0)
  have h2 := laidMet.tail (laidMet.tail h1)
  rw [laid_pow] at h1
  rw [laid_bru] at h2
  have b := Lib.tabIs_of_head (g := 7) (by kernel_rfl) (by kernel_rfl) (t := 419) (e := 5) (n := 64) Tryz.underlying419 Tryz.underlying5 (by kernel_rfl) (by kernel_rfl) h2
  have p := Lib.tabIs_of_head (g := 3) (by kernel_rfl) (by kernel_rfl) (t := 286) (e := 239) (n := 20) Tryz.underlying286 Tryz.underlying239 (by kernel_rfl) (by kernel_rfl) h1
  unfold Lib.TabIs World.var? at b p
  rw [show Tryz.prog.globalNamed "math/bits.deBruijn64tab" = some 7 by kernel_rfl] at b
  rw [show Tryz.prog.globalNamed "internal/strconv.uint64pow10" = some 3 by kernel_rfl] at p
  intro t ht
  simp only [tabL, List.mem_cons, List.not_mem_nil, or_false] at ht
  rcases ht with rfl | rfl | rfl
  · exact p
  · show _ = some bruTab
    have : bruTab = ((Lib.deBruijn64tab.map fun z : Nat => (z : Int)).map fun z => Value.int .u8 z).toArray := by simp [bruTab]
    rw [this]
    exact b
  · exact numIn hsh
end Go.Aw.D
