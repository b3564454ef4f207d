/- Closed facts on the types and functions of this seat, written by a program out of the translation. -/
import Derived.Test.YtpdmcjaghdolcaaGreatDoorAwEnd
import Derived.Test.YtpdmcjaghdolcaaGreatDoorChecked
import Derived.KernelRfl
set_option linter.unusedSimpArgs false
namespace Go.Proofs.YtpdmcjaghdolcaaGreatDoor.Ty
open Go.Aw Go.Proofs
theorem of_size1 {P : Program} {t : TypeId} (h : (P.info? t).map (·.size) = some 1) : ∃ i, P.info? t = some i ∧ i.size = 1 := by
  cases hi : P.info? t with
  | none => simp [hi] at h
  | some i => exact ⟨i, rfl, by simpa [hi] using h⟩
theorem mixed : Tryz.prog.follows .mixedOrders = true := by kernel_rfl
theorem bo4 : isBoolT Tryz.prog 4 = true := by kernel_rfl
theorem fo23_0 : fieldOff Tryz.prog 23 0 = some (0, none) := by kernel_rfl
theorem fo23_1 : fieldOff Tryz.prog 23 1 = some (1, none) := by kernel_rfl
theorem fo23_2 : fieldOff Tryz.prog 23 2 = some (2, none) := by kernel_rfl
theorem fo23_3 : fieldOff Tryz.prog 23 3 = some (3, none) := by kernel_rfl
theorem fo24_0 : fieldOff Tryz.prog 24 0 = some (0, none) := by kernel_rfl
theorem fo24_1 : fieldOff Tryz.prog 24 1 = some (1, none) := by kernel_rfl
theorem fo24_2 : fieldOff Tryz.prog 24 2 = some (2, none) := by kernel_rfl
theorem fo24_3 : fieldOff Tryz.prog 24 3 = some (3, none) := by kernel_rfl
theorem fo30_0 : fieldOff Tryz.prog 30 0 = some (0, none) := by kernel_rfl
theorem fo30_1 : fieldOff Tryz.prog 30 1 = some (1, none) := by kernel_rfl
theorem fo45_1 : fieldOff Tryz.prog 45 1 = some (2, none) := by kernel_rfl
theorem el37 : elemT Tryz.prog 37 = some (9, 1, 16) := by kernel_rfl
theorem sl37 : isSliceT Tryz.prog 37 = true := by kernel_rfl
theorem el41 : elemT Tryz.prog 41 = some (48, 14, 136) := by kernel_rfl
theorem sl41 : isSliceT Tryz.prog 41 = true := by kernel_rfl
theorem el46 : elemT Tryz.prog 46 = some (3, 1, 8) := by kernel_rfl
theorem sl46 : isSliceT Tryz.prog 46 = true := by kernel_rfl
theorem el55 : elemT Tryz.prog 55 = some (50, 4, 32) := by kernel_rfl
theorem sl55 : isSliceT Tryz.prog 55 = true := by kernel_rfl
theorem ld3 : ldT Tryz.prog 3 = some none := by kernel_rfl
theorem ld4 : ldT Tryz.prog 4 = some none := by kernel_rfl
theorem ld23 : ldT Tryz.prog 23 = some (some 4) := by kernel_rfl
theorem ld24 : ldT Tryz.prog 24 = some (some 4) := by kernel_rfl
theorem ld30 : ldT Tryz.prog 30 = some (some 2) := by kernel_rfl
theorem ld41 : ldT Tryz.prog 41 = some none := by kernel_rfl
theorem ld45 : ldT Tryz.prog 45 = some (some 6) := by kernel_rfl
theorem ld50 : ldT Tryz.prog 50 = some (some 4) := by kernel_rfl
theorem pa23 : partsT Tryz.prog 23 = some [(0, 1), (1, 1), (2, 1), (3, 1)] := by kernel_rfl
theorem pa24 : partsT Tryz.prog 24 = some [(0, 1), (1, 1), (2, 1), (3, 1)] := by kernel_rfl
theorem pa30 : partsT Tryz.prog 30 = some [(0, 1), (1, 1)] := by kernel_rfl
theorem pa40 : partsT Tryz.prog 40 = some [(0, 1), (1, 1)] := by kernel_rfl
theorem pa45 : partsT Tryz.prog 45 = some [(0, 2), (2, 1), (3, 1), (4, 1), (5, 1)] := by kernel_rfl
theorem pa48 : partsT Tryz.prog 48 = some [(0, 1), (1, 1), (2, 1), (3, 1), (4, 1), (5, 1), (6, 1), (7, 1), (8, 1), (9, 1), (10, 1), (11, 1), (12, 1), (13, 1)] := by kernel_rfl
theorem pa50 : partsT Tryz.prog 50 = some [(0, 1), (1, 1), (2, 1), (3, 1)] := by kernel_rfl
theorem so41 : ∃ i, Tryz.prog.info? 41 = some i ∧ i.size = 1 := of_size1 (by kernel_rfl)
theorem ze23 : zeroT Tryz.prog 23 = some [.v (.int .i64 0), .v (.int .i64 0), .v (.bool false), .v (.bool false)] := by kernel_rfl
theorem ze24 : zeroT Tryz.prog 24 = some [.v (.int .i64 0), .v (.int .i64 0), .v (.bool false), .v (.bool false)] := by kernel_rfl
theorem ze30 : zeroT Tryz.prog 30 = some [.v (.bool false), .v (.int .i64 0)] := by kernel_rfl
theorem ni40 : nilsT Tryz.prog 40 = some [(0, 9, 1), (1, 321, 6)] := by kernel_rfl
theorem ze40 : zeroT Tryz.prog 40 = some [.sl [], .sl []] := by kernel_rfl
theorem ni45 : nilsT Tryz.prog 45 = some [(0, 9, 1), (1, 321, 6), (2, 48, 14), (3, 214, 16), (4, 256, 2), (5, 256, 2)] := by kernel_rfl
theorem ze45 : zeroT Tryz.prog 45 = some [.sl [], .sl [], .sl [], .sl [], .sl [], .sl []] := by kernel_rfl
theorem ni48 : nilsT Tryz.prog 48 = some [(4, 3, 1)] := by kernel_rfl
theorem ze48 : zeroT Tryz.prog 48 = some [.v (.string ByteArray.empty), .v (.int .i64 0), .v (.int .i64 0), .v (.int .i64 0), .sl [], .v (.int .i64 0), .v (.int .i64 0), .v (.int .i64 0), .v (.int .i64 0), .v (.int .i64 0), .v (.int .i64 0), .v (.int .i64 0), .v (.int .i64 0), .v (.int .i64 0)] := by kernel_rfl
theorem ze50 : zeroT Tryz.prog 50 = some [.v (.int .i64 0), .v (.int .i64 0), .v (.int .i64 0), .v (.int .i64 0)] := by kernel_rfl
theorem co2 : callOk Tryz.prog 2 = true := by kernel_rfl
theorem co3 : callOk Tryz.prog 3 = true := by kernel_rfl
theorem co4 : callOk Tryz.prog 4 = true := by kernel_rfl
theorem co5 : callOk Tryz.prog 5 = true := by kernel_rfl
theorem co6 : callOk Tryz.prog 6 = true := by kernel_rfl
theorem co7 : callOk Tryz.prog 7 = true := by kernel_rfl
theorem co8 : callOk Tryz.prog 8 = true := by kernel_rfl
theorem co9 : callOk Tryz.prog 9 = true := by kernel_rfl
theorem co10 : callOk Tryz.prog 10 = true := by kernel_rfl
theorem co11 : callOk Tryz.prog 11 = true := by kernel_rfl
theorem co12 : callOk Tryz.prog 12 = true := by kernel_rfl
attribute [go_sem] bo4 fo23_0 fo23_1 fo23_2 fo23_3 fo24_0 fo24_1 fo24_2 fo24_3 fo30_0 fo30_1 fo45_1 el37 sl37 el41 sl41 el46 sl46 el55 sl55 ld3 ld4 ld23 ld24 ld30 ld41 ld45 ld50 pa23 pa24 pa30 pa40 pa45 pa48 pa50 so41 ze23 ze24 ze30 ni40 ze40 ni45 ze45 ni48 ze48 ze50 co2 co3 co4 co5 co6 co7 co8 co9 co10 co11 co12
end Go.Proofs.YtpdmcjaghdolcaaGreatDoor.Ty
