/- Closed facts on the types and functions of this seat, written by a program out of the translation. -/
import Derived.Test.YtjlbikpgjejkjaaAwEnd
import Derived.Test.YtjlbikpgjejkjaaChecked
import Derived.KernelRfl
set_option linter.unusedSimpArgs false
namespace Go.Proofs.Ytjlbikpgjejkjaa.Ty
open Go.Aw Go.Proofs
theorem of_size1 {P : Program} {t : TypeId} (h : (P.info? t).map (·.size) = some 1) : ∃ i, P.info? t = some i ∧ i.size = 1 := by
  cases hi : P.info? t with
  | none => simp [hi] at h
  | some i => exact ⟨i, rfl, by simpa [hi] using h⟩
theorem mixed : Try.prog.follows .mixedOrders = true := by kernel_rfl
theorem it3 : intT Try.prog 3 = some .i64 := by kernel_rfl
theorem it5 : intT Try.prog 5 = some .u8 := by kernel_rfl
theorem st9 : isStringT Try.prog 9 = true := by kernel_rfl
theorem it81 : intT Try.prog 81 = some .u64 := by kernel_rfl
theorem by148 : bytesT Try.prog 148 = true := by kernel_rfl
theorem it150 : intT Try.prog 150 = some .u32 := by kernel_rfl
theorem it153 : intT Try.prog 153 = some .u64 := by kernel_rfl
theorem bo4 : isBoolT Try.prog 4 = true := by kernel_rfl
theorem fl57 : flatT Try.prog 57 = some [0, 0, 0, 0] := by kernel_rfl
theorem fl73 : flatT Try.prog 73 = some [0, 0, 0, 0] := by kernel_rfl
theorem fl80 : flatT Try.prog 80 = some [0, 2] := by kernel_rfl
theorem fl135 : flatT Try.prog 135 = some [0, 0] := by kernel_rfl
theorem fl145 : flatT Try.prog 145 = some [0, 0] := by kernel_rfl
theorem fo25_0 : fieldOff Try.prog 25 0 = some (0, none) := by kernel_rfl
theorem fo25_1 : fieldOff Try.prog 25 1 = some (1, none) := by kernel_rfl
theorem fo30_0 : fieldOff Try.prog 30 0 = some (0, some 2) := by kernel_rfl
theorem fo30_1 : fieldOff Try.prog 30 1 = some (2, none) := by kernel_rfl
theorem fo30_2 : fieldOff Try.prog 30 2 = some (3, none) := by kernel_rfl
theorem fo30_3 : fieldOff Try.prog 30 3 = some (4, none) := by kernel_rfl
theorem fo30_4 : fieldOff Try.prog 30 4 = some (5, none) := by kernel_rfl
theorem fo34_0 : fieldOff Try.prog 34 0 = some (0, none) := by kernel_rfl
theorem fo34_1 : fieldOff Try.prog 34 1 = some (1, none) := by kernel_rfl
theorem fo52_0 : fieldOff Try.prog 52 0 = some (0, none) := by kernel_rfl
theorem fo52_1 : fieldOff Try.prog 52 1 = some (1, none) := by kernel_rfl
theorem fo52_2 : fieldOff Try.prog 52 2 = some (2, none) := by kernel_rfl
theorem fo52_3 : fieldOff Try.prog 52 3 = some (3, none) := by kernel_rfl
theorem fo57_0 : fieldOff Try.prog 57 0 = some (0, none) := by kernel_rfl
theorem fo57_1 : fieldOff Try.prog 57 1 = some (1, none) := by kernel_rfl
theorem fo57_2 : fieldOff Try.prog 57 2 = some (2, none) := by kernel_rfl
theorem fo57_3 : fieldOff Try.prog 57 3 = some (3, none) := by kernel_rfl
theorem fo64_0 : fieldOff Try.prog 64 0 = some (0, none) := by kernel_rfl
theorem fo64_1 : fieldOff Try.prog 64 1 = some (1, none) := by kernel_rfl
theorem fo64_2 : fieldOff Try.prog 64 2 = some (2, none) := by kernel_rfl
theorem fo64_3 : fieldOff Try.prog 64 3 = some (3, none) := by kernel_rfl
theorem fo66_1 : fieldOff Try.prog 66 1 = some (1, none) := by kernel_rfl
theorem fo73_0 : fieldOff Try.prog 73 0 = some (0, none) := by kernel_rfl
theorem fo73_1 : fieldOff Try.prog 73 1 = some (1, none) := by kernel_rfl
theorem fo73_2 : fieldOff Try.prog 73 2 = some (2, none) := by kernel_rfl
theorem fo73_3 : fieldOff Try.prog 73 3 = some (3, none) := by kernel_rfl
theorem fo75_0 : fieldOff Try.prog 75 0 = some (0, none) := by kernel_rfl
theorem fo75_1 : fieldOff Try.prog 75 1 = some (1, none) := by kernel_rfl
theorem fo75_2 : fieldOff Try.prog 75 2 = some (2, some 4) := by kernel_rfl
theorem fo75_3 : fieldOff Try.prog 75 3 = some (6, some 4) := by kernel_rfl
theorem fo75_4 : fieldOff Try.prog 75 4 = some (10, none) := by kernel_rfl
theorem fo75_5 : fieldOff Try.prog 75 5 = some (11, none) := by kernel_rfl
theorem fo75_6 : fieldOff Try.prog 75 6 = some (12, none) := by kernel_rfl
theorem fo75_7 : fieldOff Try.prog 75 7 = some (13, none) := by kernel_rfl
theorem fo75_8 : fieldOff Try.prog 75 8 = some (14, none) := by kernel_rfl
theorem fo75_9 : fieldOff Try.prog 75 9 = some (15, none) := by kernel_rfl
theorem fo78_0 : fieldOff Try.prog 78 0 = some (0, none) := by kernel_rfl
theorem fo78_1 : fieldOff Try.prog 78 1 = some (1, none) := by kernel_rfl
theorem fo78_2 : fieldOff Try.prog 78 2 = some (2, none) := by kernel_rfl
theorem fo78_3 : fieldOff Try.prog 78 3 = some (3, none) := by kernel_rfl
theorem fo78_4 : fieldOff Try.prog 78 4 = some (4, none) := by kernel_rfl
theorem fo78_5 : fieldOff Try.prog 78 5 = some (5, none) := by kernel_rfl
theorem fo78_6 : fieldOff Try.prog 78 6 = some (6, none) := by kernel_rfl
theorem fo78_7 : fieldOff Try.prog 78 7 = some (7, none) := by kernel_rfl
theorem fo78_8 : fieldOff Try.prog 78 8 = some (8, none) := by kernel_rfl
theorem fo78_9 : fieldOff Try.prog 78 9 = some (9, none) := by kernel_rfl
theorem fo78_10 : fieldOff Try.prog 78 10 = some (10, none) := by kernel_rfl
theorem fo78_11 : fieldOff Try.prog 78 11 = some (11, none) := by kernel_rfl
theorem fo78_12 : fieldOff Try.prog 78 12 = some (12, none) := by kernel_rfl
theorem fo78_13 : fieldOff Try.prog 78 13 = some (13, none) := by kernel_rfl
theorem fo80_0 : fieldOff Try.prog 80 0 = some (0, none) := by kernel_rfl
theorem fo80_1 : fieldOff Try.prog 80 1 = some (1, none) := by kernel_rfl
theorem fo102_2 : fieldOff Try.prog 102 2 = some (2, none) := by kernel_rfl
theorem fo102_3 : fieldOff Try.prog 102 3 = some (3, none) := by kernel_rfl
theorem fo102_4 : fieldOff Try.prog 102 4 = some (4, none) := by kernel_rfl
theorem fo119_0 : fieldOff Try.prog 119 0 = some (0, none) := by kernel_rfl
theorem fo119_1 : fieldOff Try.prog 119 1 = some (1, none) := by kernel_rfl
theorem fo132_0 : fieldOff Try.prog 132 0 = some (0, none) := by kernel_rfl
theorem fo132_1 : fieldOff Try.prog 132 1 = some (1, none) := by kernel_rfl
theorem fo132_2 : fieldOff Try.prog 132 2 = some (2, none) := by kernel_rfl
theorem fo132_3 : fieldOff Try.prog 132 3 = some (3, none) := by kernel_rfl
theorem fo132_4 : fieldOff Try.prog 132 4 = some (4, none) := by kernel_rfl
theorem fo132_5 : fieldOff Try.prog 132 5 = some (5, none) := by kernel_rfl
theorem fo145_0 : fieldOff Try.prog 145 0 = some (0, none) := by kernel_rfl
theorem fo145_1 : fieldOff Try.prog 145 1 = some (1, none) := by kernel_rfl
theorem fo178_0 : fieldOff Try.prog 178 0 = some (0, none) := by kernel_rfl
theorem fo178_1 : fieldOff Try.prog 178 1 = some (1, none) := by kernel_rfl
theorem fo178_2 : fieldOff Try.prog 178 2 = some (2, none) := by kernel_rfl
theorem fo178_3 : fieldOff Try.prog 178 3 = some (3, none) := by kernel_rfl
theorem fo183_1 : fieldOff Try.prog 183 1 = some (1, none) := by kernel_rfl
theorem fo183_2 : fieldOff Try.prog 183 2 = some (2, none) := by kernel_rfl
theorem el22 : elemT Try.prog 22 = some (9, 1, 16) := by kernel_rfl
theorem sl22 : isSliceT Try.prog 22 = true := by kernel_rfl
theorem el23 : elemT Try.prog 23 = some (132, 6, 80) := by kernel_rfl
theorem sl23 : isSliceT Try.prog 23 = true := by kernel_rfl
theorem el26 : elemT Try.prog 26 = some (78, 14, 136) := by kernel_rfl
theorem sl26 : isSliceT Try.prog 26 = true := by kernel_rfl
theorem el27 : elemT Try.prog 27 = some (75, 16, 152) := by kernel_rfl
theorem sl27 : isSliceT Try.prog 27 = true := by kernel_rfl
theorem el28 : elemT Try.prog 28 = some (135, 2, 16) := by kernel_rfl
theorem sl28 : isSliceT Try.prog 28 = true := by kernel_rfl
theorem el31 : elemT Try.prog 31 = some (64, 4, 64) := by kernel_rfl
theorem sl31 : isSliceT Try.prog 31 = true := by kernel_rfl
theorem el32 : elemT Try.prog 32 = some (3, 1, 8) := by kernel_rfl
theorem sl32 : isSliceT Try.prog 32 = true := by kernel_rfl
theorem ar35 : arrT Try.prog 35 = some (3, 2, some 2) := by kernel_rfl
theorem el36 : elemT Try.prog 36 = some (119, 2, 24) := by kernel_rfl
theorem sl36 : isSliceT Try.prog 36 = true := by kernel_rfl
theorem el55 : elemT Try.prog 55 = some (57, 4, 32) := by kernel_rfl
theorem sl55 : isSliceT Try.prog 55 = true := by kernel_rfl
theorem el61 : elemT Try.prog 61 = some (4, 1, 1) := by kernel_rfl
theorem sl61 : isSliceT Try.prog 61 = true := by kernel_rfl
theorem el62 : elemT Try.prog 62 = some (80, 2, 16) := by kernel_rfl
theorem sl62 : isSliceT Try.prog 62 = true := by kernel_rfl
theorem el100 : elemT Try.prog 100 = some (183, 4, 32) := by kernel_rfl
theorem sl100 : isSliceT Try.prog 100 = true := by kernel_rfl
theorem el122 : elemT Try.prog 122 = some (40, 1, 8) := by kernel_rfl
theorem sl122 : isSliceT Try.prog 122 = true := by kernel_rfl
theorem el130 : elemT Try.prog 130 = some (145, 2, 16) := by kernel_rfl
theorem sl130 : isSliceT Try.prog 130 = true := by kernel_rfl
theorem ar135 : arrT Try.prog 135 = some (2, 1, none) := by kernel_rfl
theorem el148 : elemT Try.prog 148 = some (5, 1, 1) := by kernel_rfl
theorem sl148 : isSliceT Try.prog 148 = true := by kernel_rfl
theorem el159 : elemT Try.prog 159 = some (32, 1, 24) := by kernel_rfl
theorem sl159 : isSliceT Try.prog 159 = true := by kernel_rfl
theorem ld3 : ldT Try.prog 3 = some none := by kernel_rfl
theorem ld4 : ldT Try.prog 4 = some none := by kernel_rfl
theorem ld9 : ldT Try.prog 9 = some none := by kernel_rfl
theorem ld22 : ldT Try.prog 22 = some none := by kernel_rfl
theorem ld23 : ldT Try.prog 23 = some none := by kernel_rfl
theorem ld25 : ldT Try.prog 25 = some (some 2) := by kernel_rfl
theorem ld26 : ldT Try.prog 26 = some none := by kernel_rfl
theorem ld27 : ldT Try.prog 27 = some none := by kernel_rfl
theorem ld28 : ldT Try.prog 28 = some none := by kernel_rfl
theorem ld30 : ldT Try.prog 30 = some (some 6) := by kernel_rfl
theorem ld31 : ldT Try.prog 31 = some none := by kernel_rfl
theorem ld32 : ldT Try.prog 32 = some none := by kernel_rfl
theorem ld34 : ldT Try.prog 34 = some (some 2) := by kernel_rfl
theorem ld40 : ldT Try.prog 40 = some none := by kernel_rfl
theorem ld52 : ldT Try.prog 52 = some (some 4) := by kernel_rfl
theorem ld57 : ldT Try.prog 57 = some (some 4) := by kernel_rfl
theorem ld61 : ldT Try.prog 61 = some none := by kernel_rfl
theorem ld62 : ldT Try.prog 62 = some none := by kernel_rfl
theorem ld64 : ldT Try.prog 64 = some (some 4) := by kernel_rfl
theorem ld66 : ldT Try.prog 66 = some (some 7) := by kernel_rfl
theorem ld73 : ldT Try.prog 73 = some (some 4) := by kernel_rfl
theorem ld75 : ldT Try.prog 75 = some (some 16) := by kernel_rfl
theorem ld78 : ldT Try.prog 78 = some (some 14) := by kernel_rfl
theorem ld80 : ldT Try.prog 80 = some (some 2) := by kernel_rfl
theorem ld100 : ldT Try.prog 100 = some none := by kernel_rfl
theorem ld102 : ldT Try.prog 102 = some (some 5) := by kernel_rfl
theorem ld130 : ldT Try.prog 130 = some none := by kernel_rfl
theorem ld132 : ldT Try.prog 132 = some (some 6) := by kernel_rfl
theorem ld135 : ldT Try.prog 135 = some (some 2) := by kernel_rfl
theorem ld145 : ldT Try.prog 145 = some (some 2) := by kernel_rfl
theorem ld178 : ldT Try.prog 178 = some (some 4) := by kernel_rfl
theorem ld183 : ldT Try.prog 183 = some (some 4) := by kernel_rfl
theorem pa25 : partsT Try.prog 25 = some [(0, 1), (1, 1)] := by kernel_rfl
theorem pa30 : partsT Try.prog 30 = some [(0, 2), (2, 1), (3, 1), (4, 1), (5, 1)] := by kernel_rfl
theorem pa34 : partsT Try.prog 34 = some [(0, 1), (1, 1)] := by kernel_rfl
theorem pa52 : partsT Try.prog 52 = some [(0, 1), (1, 1), (2, 1), (3, 1)] := by kernel_rfl
theorem pa57 : partsT Try.prog 57 = some [(0, 1), (1, 1), (2, 1), (3, 1)] := by kernel_rfl
theorem pa64 : partsT Try.prog 64 = some [(0, 1), (1, 1), (2, 1), (3, 1)] := by kernel_rfl
theorem pa66 : partsT Try.prog 66 = some [(0, 1), (1, 1), (2, 1), (3, 4)] := by kernel_rfl
theorem pa73 : partsT Try.prog 73 = some [(0, 1), (1, 1), (2, 1), (3, 1)] := by kernel_rfl
theorem pa75 : partsT Try.prog 75 = some [(0, 1), (1, 1), (2, 4), (6, 4), (10, 1), (11, 1), (12, 1), (13, 1), (14, 1), (15, 1)] := by kernel_rfl
theorem pa78 : partsT Try.prog 78 = some [(0, 1), (1, 1), (2, 1), (3, 1), (4, 1), (5, 1), (6, 1), (7, 1), (8, 1), (9, 1), (10, 1), (11, 1), (12, 1), (13, 1)] := by kernel_rfl
theorem pa80 : partsT Try.prog 80 = some [(0, 1), (1, 1)] := by kernel_rfl
theorem pa102 : partsT Try.prog 102 = some [(0, 1), (1, 1), (2, 1), (3, 1), (4, 1)] := by kernel_rfl
theorem pa119 : partsT Try.prog 119 = some [(0, 1), (1, 1)] := by kernel_rfl
theorem pa132 : partsT Try.prog 132 = some [(0, 1), (1, 1), (2, 1), (3, 1), (4, 1), (5, 1)] := by kernel_rfl
theorem pa178 : partsT Try.prog 178 = some [(0, 1), (1, 1), (2, 1), (3, 1)] := by kernel_rfl
theorem pa183 : partsT Try.prog 183 = some [(0, 1), (1, 1), (2, 1), (3, 1)] := by kernel_rfl
theorem so3 : ∃ i, Try.prog.info? 3 = some i ∧ i.size = 1 := of_size1 (by kernel_rfl)
theorem so4 : ∃ i, Try.prog.info? 4 = some i ∧ i.size = 1 := of_size1 (by kernel_rfl)
theorem so9 : ∃ i, Try.prog.info? 9 = some i ∧ i.size = 1 := of_size1 (by kernel_rfl)
theorem so26 : ∃ i, Try.prog.info? 26 = some i ∧ i.size = 1 := of_size1 (by kernel_rfl)
theorem so27 : ∃ i, Try.prog.info? 27 = some i ∧ i.size = 1 := of_size1 (by kernel_rfl)
theorem so100 : ∃ i, Try.prog.info? 100 = some i ∧ i.size = 1 := of_size1 (by kernel_rfl)
theorem ze3 : zeroT Try.prog 3 = some [.v (.int .i64 0)] := by kernel_rfl
theorem ze4 : zeroT Try.prog 4 = some [.v (.bool false)] := by kernel_rfl
theorem ni25 : nilsT Try.prog 25 = some [(0, 9, 1), (1, 132, 6)] := by kernel_rfl
theorem ze25 : zeroT Try.prog 25 = some [.sl [], .sl []] := by kernel_rfl
theorem ni30 : nilsT Try.prog 30 = some [(0, 9, 1), (1, 132, 6), (2, 78, 14), (3, 75, 16), (4, 135, 2), (5, 135, 2)] := by kernel_rfl
theorem ze30 : zeroT Try.prog 30 = some [.sl [], .sl [], .sl [], .sl [], .sl [], .sl []] := by kernel_rfl
theorem ni34 : nilsT Try.prog 34 = some [(0, 64, 4), (1, 3, 1)] := by kernel_rfl
theorem ze34 : zeroT Try.prog 34 = some [.sl [], .sl []] := by kernel_rfl
theorem ni35 : nilsT Try.prog 35 = some [(0, 64, 4), (1, 3, 1), (2, 64, 4), (3, 3, 1), (4, 64, 4), (5, 3, 1)] := by kernel_rfl
theorem ze35 : zeroT Try.prog 35 = some [.sl [], .sl [], .sl [], .sl [], .sl [], .sl []] := by kernel_rfl
theorem ze52 : zeroT Try.prog 52 = some [.v (.int .i64 0), .v (.int .i64 0), .v (.int .i64 0), .v (.int .i64 0)] := by kernel_rfl
theorem ze57 : zeroT Try.prog 57 = some [.v (.int .i64 0), .v (.int .i64 0), .v (.int .i64 0), .v (.int .i64 0)] := by kernel_rfl
theorem ni64 : nilsT Try.prog 64 = some [(2, 4, 1), (3, 80, 2)] := by kernel_rfl
theorem ze64 : zeroT Try.prog 64 = some [.v (.int .i64 0), .v (.int .i64 0), .sl [], .sl []] := by kernel_rfl
theorem ni66 : nilsT Try.prog 66 = some [(5, 4, 1), (6, 80, 2)] := by kernel_rfl
theorem ze66 : zeroT Try.prog 66 = some [.v (.int .i64 0), .v (.int .i64 0), .v (.int .i64 0), .v (.int .i64 0), .v (.int .i64 0), .sl [], .sl []] := by kernel_rfl
theorem ze73 : zeroT Try.prog 73 = some [.v (.int .i64 0), .v (.int .i64 0), .v (.int .i64 0), .v (.int .i64 0)] := by kernel_rfl
theorem ni75 : nilsT Try.prog 75 = some [(1, 3, 1)] := by kernel_rfl
theorem ze75 : zeroT Try.prog 75 = some [.v (.string ByteArray.empty), .sl [], .v (.int .i64 0), .v (.int .i64 0), .v (.int .i64 0), .v (.int .i64 0), .v (.int .i64 0), .v (.int .i64 0), .v (.int .i64 0), .v (.int .i64 0), .v (.int .i64 0), .v (.int .i64 0), .v (.int .i64 0), .v (.int .i64 0), .v (.int .i64 0), .v (.bool false)] := by kernel_rfl
theorem ni78 : nilsT Try.prog 78 = some [(4, 3, 1)] := by kernel_rfl
theorem ze78 : zeroT Try.prog 78 = some [.v (.string ByteArray.empty), .v (.int .i64 0), .v (.int .i64 0), .v (.int .i64 0), .sl [], .v (.int .i64 0), .v (.int .i64 0), .v (.int .i64 0), .v (.int .i64 0), .v (.int .i64 0), .v (.int .i64 0), .v (.int .i64 0), .v (.int .i64 0), .v (.int .i64 0)] := by kernel_rfl
theorem ze80 : zeroT Try.prog 80 = some [.v (.int .i64 0), .v (.bool false)] := by kernel_rfl
theorem ni102 : nilsT Try.prog 102 = some [(2, 183, 4)] := by kernel_rfl
theorem ze102 : zeroT Try.prog 102 = some [.v (.bool false), .v (.int .i64 0), .sl [], .v (.int .i64 0), .v (.int .i64 0)] := by kernel_rfl
theorem ze119 : zeroT Try.prog 119 = some [.v (.int .i64 0), .v (.string ByteArray.empty)] := by kernel_rfl
theorem ni132 : nilsT Try.prog 132 = some [(4, 145, 2), (5, 145, 2)] := by kernel_rfl
theorem ze132 : zeroT Try.prog 132 = some [.v (.int .i64 0), .v (.int .i64 0), .v (.int .i64 0), .v (.int .i64 0), .sl [], .sl []] := by kernel_rfl
theorem ze145 : zeroT Try.prog 145 = some [.v (.int .i64 0), .v (.int .i64 0)] := by kernel_rfl
theorem ze178 : zeroT Try.prog 178 = some [.v (.int .i64 0), .v (.int .i64 0), .v (.int .i64 0), .v (.int .i64 0)] := by kernel_rfl
theorem ze183 : zeroT Try.prog 183 = some [.v (.int .i64 0), .v (.int .i64 0), .v (.int .i64 0), .v (.bool false)] := by kernel_rfl
theorem co2 : callOk Try.prog 2 = true := by kernel_rfl
theorem co3 : callOk Try.prog 3 = true := by kernel_rfl
theorem co4 : callOk Try.prog 4 = true := by kernel_rfl
theorem co5 : callOk Try.prog 5 = true := by kernel_rfl
theorem co6 : callOk Try.prog 6 = true := by kernel_rfl
theorem co7 : callOk Try.prog 7 = true := by kernel_rfl
theorem co8 : callOk Try.prog 8 = true := by kernel_rfl
theorem co9 : callOk Try.prog 9 = true := by kernel_rfl
theorem co10 : callOk Try.prog 10 = true := by kernel_rfl
theorem co11 : callOk Try.prog 11 = true := by kernel_rfl
theorem co12 : callOk Try.prog 12 = true := by kernel_rfl
theorem co13 : callOk Try.prog 13 = true := by kernel_rfl
theorem co14 : callOk Try.prog 14 = true := by kernel_rfl
theorem co15 : callOk Try.prog 15 = true := by kernel_rfl
theorem co16 : callOk Try.prog 16 = true := by kernel_rfl
theorem co17 : callOk Try.prog 17 = true := by kernel_rfl
theorem co18 : callOk Try.prog 18 = true := by kernel_rfl
theorem co19 : callOk Try.prog 19 = true := by kernel_rfl
theorem co20 : callOk Try.prog 20 = true := by kernel_rfl
theorem co21 : callOk Try.prog 21 = true := by kernel_rfl
theorem co22 : callOk Try.prog 22 = true := by kernel_rfl
theorem co23 : callOk Try.prog 23 = true := by kernel_rfl
theorem co24 : callOk Try.prog 24 = true := by kernel_rfl
theorem co25 : callOk Try.prog 25 = true := by kernel_rfl
theorem co26 : callOk Try.prog 26 = true := by kernel_rfl
theorem co27 : callOk Try.prog 27 = true := by kernel_rfl
theorem co28 : callOk Try.prog 28 = true := by kernel_rfl
theorem co29 : callOk Try.prog 29 = true := by kernel_rfl
theorem co30 : callOk Try.prog 30 = true := by kernel_rfl
theorem co31 : callOk Try.prog 31 = true := by kernel_rfl
theorem co32 : callOk Try.prog 32 = true := by kernel_rfl
theorem co33 : callOk Try.prog 33 = true := by kernel_rfl
theorem co34 : callOk Try.prog 34 = true := by kernel_rfl
theorem co35 : callOk Try.prog 35 = true := by kernel_rfl
theorem co36 : callOk Try.prog 36 = true := by kernel_rfl
theorem co37 : callOk Try.prog 37 = true := by kernel_rfl
theorem co38 : callOk Try.prog 38 = true := by kernel_rfl
theorem co39 : callOk Try.prog 39 = true := by kernel_rfl
theorem co40 : callOk Try.prog 40 = true := by kernel_rfl
theorem co41 : callOk Try.prog 41 = true := by kernel_rfl
theorem co42 : callOk Try.prog 42 = true := by kernel_rfl
theorem co43 : callOk Try.prog 43 = true := by kernel_rfl
theorem co44 : callOk Try.prog 44 = true := by kernel_rfl
theorem co45 : callOk Try.prog 45 = true := by kernel_rfl
theorem co46 : callOk Try.prog 46 = true := by kernel_rfl
theorem co47 : callOk Try.prog 47 = true := by kernel_rfl
theorem co48 : callOk Try.prog 48 = true := by kernel_rfl
theorem co49 : callOk Try.prog 49 = true := by kernel_rfl
theorem co50 : callOk Try.prog 50 = true := by kernel_rfl
theorem co51 : callOk Try.prog 51 = true := by kernel_rfl
theorem co52 : callOk Try.prog 52 = true := by kernel_rfl
theorem co53 : callOk Try.prog 53 = true := by kernel_rfl
theorem co54 : callOk Try.prog 54 = true := by kernel_rfl
theorem co55 : callOk Try.prog 55 = true := by kernel_rfl
theorem co56 : callOk Try.prog 56 = true := by kernel_rfl
theorem co57 : callOk Try.prog 57 = true := by kernel_rfl
theorem co58 : callOk Try.prog 58 = true := by kernel_rfl
theorem co59 : callOk Try.prog 59 = true := by kernel_rfl
theorem co60 : callOk Try.prog 60 = true := by kernel_rfl
theorem co61 : callOk Try.prog 61 = true := by kernel_rfl
theorem co62 : callOk Try.prog 62 = true := by kernel_rfl
theorem co63 : callOk Try.prog 63 = true := by kernel_rfl
theorem co64 : callOk Try.prog 64 = true := by kernel_rfl
theorem co65 : callOk Try.prog 65 = true := by kernel_rfl
theorem co66 : callOk Try.prog 66 = true := by kernel_rfl
theorem co67 : callOk Try.prog 67 = true := by kernel_rfl
theorem co68 : callOk Try.prog 68 = true := by kernel_rfl
theorem co69 : callOk Try.prog 69 = true := by kernel_rfl
theorem co70 : callOk Try.prog 70 = true := by kernel_rfl
theorem co71 : callOk Try.prog 71 = true := by kernel_rfl
theorem co72 : callOk Try.prog 72 = true := by kernel_rfl
theorem co73 : callOk Try.prog 73 = true := by kernel_rfl
theorem co74 : callOk Try.prog 74 = true := by kernel_rfl
theorem co75 : callOk Try.prog 75 = true := by kernel_rfl
theorem co76 : callOk Try.prog 76 = true := by kernel_rfl
theorem co77 : callOk Try.prog 77 = true := by kernel_rfl
theorem co78 : callOk Try.prog 78 = true := by kernel_rfl
theorem co79 : callOk Try.prog 79 = true := by kernel_rfl
theorem co80 : callOk Try.prog 80 = true := by kernel_rfl
theorem co81 : callOk Try.prog 81 = true := by kernel_rfl
theorem co82 : callOk Try.prog 82 = true := by kernel_rfl
theorem co83 : callOk Try.prog 83 = true := by kernel_rfl
theorem co84 : callOk Try.prog 84 = true := by kernel_rfl
theorem co85 : callOk Try.prog 85 = true := by kernel_rfl
theorem co86 : callOk Try.prog 86 = true := by kernel_rfl
theorem co87 : callOk Try.prog 87 = true := by kernel_rfl
theorem co88 : callOk Try.prog 88 = true := by kernel_rfl
theorem co89 : callOk Try.prog 89 = true := by kernel_rfl
theorem co90 : callOk Try.prog 90 = true := by kernel_rfl
theorem co91 : callOk Try.prog 91 = true := by kernel_rfl
theorem co92 : callOk Try.prog 92 = true := by kernel_rfl
theorem co93 : callOk Try.prog 93 = true := by kernel_rfl
theorem co94 : callOk Try.prog 94 = true := by kernel_rfl
theorem co95 : callOk Try.prog 95 = true := by kernel_rfl
theorem co96 : callOk Try.prog 96 = true := by kernel_rfl
theorem co97 : callOk Try.prog 97 = true := by kernel_rfl
theorem co98 : callOk Try.prog 98 = true := by kernel_rfl
theorem co99 : callOk Try.prog 99 = true := by kernel_rfl
theorem co100 : callOk Try.prog 100 = true := by kernel_rfl
theorem co101 : callOk Try.prog 101 = true := by kernel_rfl
theorem co102 : callOk Try.prog 102 = true := by kernel_rfl
theorem co103 : callOk Try.prog 103 = true := by kernel_rfl
theorem co104 : callOk Try.prog 104 = true := by kernel_rfl
theorem co105 : callOk Try.prog 105 = true := by kernel_rfl
theorem co106 : callOk Try.prog 106 = true := by kernel_rfl
theorem co107 : callOk Try.prog 107 = true := by kernel_rfl
theorem co108 : callOk Try.prog 108 = true := by kernel_rfl
theorem co109 : callOk Try.prog 109 = true := by kernel_rfl
theorem co110 : callOk Try.prog 110 = true := by kernel_rfl
theorem co111 : callOk Try.prog 111 = true := by kernel_rfl
theorem co112 : callOk Try.prog 112 = true := by kernel_rfl
theorem co113 : callOk Try.prog 113 = true := by kernel_rfl
theorem co114 : callOk Try.prog 114 = true := by kernel_rfl
theorem co115 : callOk Try.prog 115 = true := by kernel_rfl
theorem co116 : callOk Try.prog 116 = true := by kernel_rfl
theorem co117 : callOk Try.prog 117 = true := by kernel_rfl
theorem co118 : callOk Try.prog 118 = true := by kernel_rfl
theorem co119 : callOk Try.prog 119 = true := by kernel_rfl
theorem co120 : callOk Try.prog 120 = true := by kernel_rfl
theorem co121 : callOk Try.prog 121 = true := by kernel_rfl
theorem co122 : callOk Try.prog 122 = true := by kernel_rfl
theorem co123 : callOk Try.prog 123 = true := by kernel_rfl
theorem co124 : callOk Try.prog 124 = true := by kernel_rfl
theorem co125 : callOk Try.prog 125 = true := by kernel_rfl
theorem co126 : callOk Try.prog 126 = true := by kernel_rfl
theorem co127 : callOk Try.prog 127 = true := by kernel_rfl
theorem co128 : callOk Try.prog 128 = true := by kernel_rfl
theorem co129 : callOk Try.prog 129 = true := by kernel_rfl
theorem co130 : callOk Try.prog 130 = true := by kernel_rfl
theorem co131 : callOk Try.prog 131 = true := by kernel_rfl
theorem co132 : callOk Try.prog 132 = true := by kernel_rfl
theorem co133 : callOk Try.prog 133 = true := by kernel_rfl
theorem co134 : callOk Try.prog 134 = true := by kernel_rfl
attribute [go_sem] it3 it5 st9 it81 by148 it150 it153 bo4 fl57 fl73 fl80 fl135 fl145 fo25_0 fo25_1 fo30_0 fo30_1 fo30_2 fo30_3 fo30_4 fo34_0 fo34_1 fo52_0 fo52_1 fo52_2 fo52_3 fo57_0 fo57_1 fo57_2 fo57_3 fo64_0 fo64_1 fo64_2 fo64_3 fo66_1 fo73_0 fo73_1 fo73_2 fo73_3 fo75_0 fo75_1 fo75_2 fo75_3 fo75_4 fo75_5 fo75_6 fo75_7 fo75_8 fo75_9 fo78_0 fo78_1 fo78_2 fo78_3 fo78_4 fo78_5 fo78_6 fo78_7 fo78_8 fo78_9 fo78_10 fo78_11 fo78_12 fo78_13 fo80_0 fo80_1 fo102_2 fo102_3 fo102_4 fo119_0 fo119_1 fo132_0 fo132_1 fo132_2 fo132_3 fo132_4 fo132_5 fo145_0 fo145_1 fo178_0 fo178_1 fo178_2 fo178_3 fo183_1 fo183_2 el22 sl22 el23 sl23 el26 sl26 el27 sl27 el28 sl28 el31 sl31 el32 sl32 ar35 el36 sl36 el55 sl55 el61 sl61 el62 sl62 el100 sl100 el122 sl122 el130 sl130 ar135 el148 sl148 el159 sl159 ld3 ld4 ld9 ld22 ld23 ld25 ld26 ld27 ld28 ld30 ld31 ld32 ld34 ld40 ld52 ld57 ld61 ld62 ld64 ld66 ld73 ld75 ld78 ld80 ld100 ld102 ld130 ld132 ld135 ld145 ld178 ld183 pa25 pa30 pa34 pa52 pa57 pa64 pa66 pa73 pa75 pa78 pa80 pa102 pa119 pa132 pa178 pa183 so3 so4 so9 so26 so27 so100 ze3 ze4 ni25 ze25 ni30 ze30 ni34 ze34 ni35 ze35 ze52 ze57 ni64 ze64 ni66 ze66 ze73 ni75 ze75 ni78 ze78 ze80 ni102 ze102 ze119 ni132 ze132 ze145 ze178 ze183 co2 co3 co4 co5 co6 co7 co8 co9 co10 co11 co12 co13 co14 co15 co16 co17 co18 co19 co20 co21 co22 co23 co24 co25 co26 co27 co28 co29 co30 co31 co32 co33 co34 co35 co36 co37 co38 co39 co40 co41 co42 co43 co44 co45 co46 co47 co48 co49 co50 co51 co52 co53 co54 co55 co56 co57 co58 co59 co60 co61 co62 co63 co64 co65 co66 co67 co68 co69 co70 co71 co72 co73 co74 co75 co76 co77 co78 co79 co80 co81 co82 co83 co84 co85 co86 co87 co88 co89 co90 co91 co92 co93 co94 co95 co96 co97 co98 co99 co100 co101 co102 co103 co104 co105 co106 co107 co108 co109 co110 co111 co112 co113 co114 co115 co116 co117 co118 co119 co120 co121 co122 co123 co124 co125 co126 co127 co128 co129 co130 co131 co132 co133 co134
end Go.Proofs.Ytjlbikpgjejkjaa.Ty
