/- Texts joined by a program: Types. -/
import Derived.Test.YtdlijlecpopadaaGreatDoorChecked
import Derived.KernelRfl
import Derived.Test.YtdlijlecpopadaaGreatDoorZx11

set_option linter.unusedSimpArgs false
namespace Go.Proofs.YtdlijlecpopadaaGreatDoor.Ty
open Go.Aw Go.Proofs
theorem of_size1 {P : Program} {t : TypeId} (h : (P.info? t).map (·.size) = some 1) : ∃ i, P.info? t = some i ∧ i.size = 1 := by
  cases hi : P.info? t with
  | none => simp [hi] at h
  | some i => exact ⟨i, rfl, by simpa [hi] using h⟩
theorem mixed : Tryz.prog.follows .mixedOrders = true := by kernel_rfl
theorem it3 : intT Tryz.prog 3 = some .i64 := by kernel_rfl
theorem it5 : intT Tryz.prog 5 = some .u8 := by kernel_rfl
theorem st9 : isStringT Tryz.prog 9 = true := by kernel_rfl
theorem it40 : intT Tryz.prog 40 = some .u64 := by kernel_rfl
theorem by206 : bytesT Tryz.prog 206 = true := by kernel_rfl
theorem bo4 : isBoolT Tryz.prog 4 = true := by kernel_rfl
theorem fl285 : flatT Tryz.prog 285 = some [0, 0, 0] := by kernel_rfl
theorem fo25_0 : fieldOff Tryz.prog 25 0 = some (0, none) := by kernel_rfl
theorem fo25_1 : fieldOff Tryz.prog 25 1 = some (1, none) := by kernel_rfl
theorem fo30_0 : fieldOff Tryz.prog 30 0 = some (0, some 2) := by kernel_rfl
theorem fo30_1 : fieldOff Tryz.prog 30 1 = some (2, none) := by kernel_rfl
theorem fo30_2 : fieldOff Tryz.prog 30 2 = some (3, none) := by kernel_rfl
theorem fo30_3 : fieldOff Tryz.prog 30 3 = some (4, none) := by kernel_rfl
theorem fo30_4 : fieldOff Tryz.prog 30 4 = some (5, none) := by kernel_rfl
theorem fo87_0 : fieldOff Tryz.prog 87 0 = some (0, none) := by kernel_rfl
theorem fo87_1 : fieldOff Tryz.prog 87 1 = some (1, none) := by kernel_rfl
theorem fo87_2 : fieldOff Tryz.prog 87 2 = some (2, none) := by kernel_rfl
theorem fo87_3 : fieldOff Tryz.prog 87 3 = some (3, none) := by kernel_rfl
theorem fo87_4 : fieldOff Tryz.prog 87 4 = some (4, none) := by kernel_rfl
theorem fo87_5 : fieldOff Tryz.prog 87 5 = some (5, none) := by kernel_rfl
theorem fo87_6 : fieldOff Tryz.prog 87 6 = some (6, none) := by kernel_rfl
theorem fo87_7 : fieldOff Tryz.prog 87 7 = some (7, none) := by kernel_rfl
theorem fo87_8 : fieldOff Tryz.prog 87 8 = some (8, none) := by kernel_rfl
theorem fo87_9 : fieldOff Tryz.prog 87 9 = some (9, none) := by kernel_rfl
theorem fo87_10 : fieldOff Tryz.prog 87 10 = some (10, none) := by kernel_rfl
theorem fo87_11 : fieldOff Tryz.prog 87 11 = some (11, none) := by kernel_rfl
theorem fo87_12 : fieldOff Tryz.prog 87 12 = some (12, none) := by kernel_rfl
theorem fo87_13 : fieldOff Tryz.prog 87 13 = some (13, none) := by kernel_rfl
theorem fo89_0 : fieldOff Tryz.prog 89 0 = some (0, some 6) := by kernel_rfl
theorem fo89_1 : fieldOff Tryz.prog 89 1 = some (6, none) := by kernel_rfl
theorem fo89_2 : fieldOff Tryz.prog 89 2 = some (7, some 14) := by kernel_rfl
theorem fo89_3 : fieldOff Tryz.prog 89 3 = some (21, none) := by kernel_rfl
theorem fo89_4 : fieldOff Tryz.prog 89 4 = some (22, none) := by kernel_rfl
theorem fo89_5 : fieldOff Tryz.prog 89 5 = some (23, none) := by kernel_rfl
theorem fo94_0 : fieldOff Tryz.prog 94 0 = some (0, none) := by kernel_rfl
theorem fo94_1 : fieldOff Tryz.prog 94 1 = some (1, none) := by kernel_rfl
theorem fo94_2 : fieldOff Tryz.prog 94 2 = some (2, none) := by kernel_rfl
theorem fo94_3 : fieldOff Tryz.prog 94 3 = some (3, none) := by kernel_rfl
theorem fo94_4 : fieldOff Tryz.prog 94 4 = some (4, none) := by kernel_rfl
theorem fo94_5 : fieldOff Tryz.prog 94 5 = some (5, none) := by kernel_rfl
theorem fo94_6 : fieldOff Tryz.prog 94 6 = some (6, none) := by kernel_rfl
theorem fo97_0 : fieldOff Tryz.prog 97 0 = some (0, none) := by kernel_rfl
theorem fo97_1 : fieldOff Tryz.prog 97 1 = some (1, none) := by kernel_rfl
theorem fo128_0 : fieldOff Tryz.prog 128 0 = some (0, none) := by kernel_rfl
theorem fo128_1 : fieldOff Tryz.prog 128 1 = some (1, none) := by kernel_rfl
theorem fo136_0 : fieldOff Tryz.prog 136 0 = some (0, none) := by kernel_rfl
theorem fo136_1 : fieldOff Tryz.prog 136 1 = some (1, none) := by kernel_rfl
theorem fo139_0 : fieldOff Tryz.prog 139 0 = some (0, none) := by kernel_rfl
theorem fo139_1 : fieldOff Tryz.prog 139 1 = some (1, none) := by kernel_rfl
theorem fo139_2 : fieldOff Tryz.prog 139 2 = some (2, none) := by kernel_rfl
theorem fo139_3 : fieldOff Tryz.prog 139 3 = some (3, none) := by kernel_rfl
theorem fo139_4 : fieldOff Tryz.prog 139 4 = some (4, none) := by kernel_rfl
theorem fo139_5 : fieldOff Tryz.prog 139 5 = some (5, none) := by kernel_rfl
theorem fo141_0 : fieldOff Tryz.prog 141 0 = some (0, none) := by kernel_rfl
theorem fo141_1 : fieldOff Tryz.prog 141 1 = some (1, none) := by kernel_rfl
theorem fo141_2 : fieldOff Tryz.prog 141 2 = some (2, none) := by kernel_rfl
theorem fo141_3 : fieldOff Tryz.prog 141 3 = some (3, none) := by kernel_rfl
theorem fo143_0 : fieldOff Tryz.prog 143 0 = some (0, none) := by kernel_rfl
theorem fo143_1 : fieldOff Tryz.prog 143 1 = some (1, none) := by kernel_rfl
theorem fo143_2 : fieldOff Tryz.prog 143 2 = some (2, some 4) := by kernel_rfl
theorem fo143_3 : fieldOff Tryz.prog 143 3 = some (6, some 4) := by kernel_rfl
theorem fo143_4 : fieldOff Tryz.prog 143 4 = some (10, none) := by kernel_rfl
theorem fo143_5 : fieldOff Tryz.prog 143 5 = some (11, none) := by kernel_rfl
theorem fo143_6 : fieldOff Tryz.prog 143 6 = some (12, none) := by kernel_rfl
theorem fo143_7 : fieldOff Tryz.prog 143 7 = some (13, none) := by kernel_rfl
theorem fo143_8 : fieldOff Tryz.prog 143 8 = some (14, none) := by kernel_rfl
theorem fo143_9 : fieldOff Tryz.prog 143 9 = some (15, none) := by kernel_rfl
theorem fo157_0 : fieldOff Tryz.prog 157 0 = some (0, none) := by kernel_rfl
theorem fo157_1 : fieldOff Tryz.prog 157 1 = some (1, none) := by kernel_rfl
theorem fo183_0 : fieldOff Tryz.prog 183 0 = some (0, none) := by kernel_rfl
theorem fo183_1 : fieldOff Tryz.prog 183 1 = some (1, none) := by kernel_rfl
theorem el22 : elemT Tryz.prog 22 = some (9, 1, 16) := by kernel_rfl
theorem sl22 : isSliceT Tryz.prog 22 = true := by kernel_rfl
theorem el23 : elemT Tryz.prog 23 = some (139, 6, 80) := by kernel_rfl
theorem sl23 : isSliceT Tryz.prog 23 = true := by kernel_rfl
theorem el26 : elemT Tryz.prog 26 = some (87, 14, 136) := by kernel_rfl
theorem sl26 : isSliceT Tryz.prog 26 = true := by kernel_rfl
theorem el27 : elemT Tryz.prog 27 = some (143, 16, 152) := by kernel_rfl
theorem sl27 : isSliceT Tryz.prog 27 = true := by kernel_rfl
theorem el28 : elemT Tryz.prog 28 = some (192, 2, 16) := by kernel_rfl
theorem sl28 : isSliceT Tryz.prog 28 = true := by kernel_rfl
theorem el31 : elemT Tryz.prog 31 = some (3, 1, 8) := by kernel_rfl
theorem sl31 : isSliceT Tryz.prog 31 = true := by kernel_rfl
theorem el32 : elemT Tryz.prog 32 = some (128, 2, 24) := by kernel_rfl
theorem sl32 : isSliceT Tryz.prog 32 = true := by kernel_rfl
theorem el43 : elemT Tryz.prog 43 = some (46, 1, 16) := by kernel_rfl
theorem sl43 : isSliceT Tryz.prog 43 = true := by kernel_rfl
theorem el61 : elemT Tryz.prog 61 = some (4, 1, 1) := by kernel_rfl
theorem sl61 : isSliceT Tryz.prog 61 = true := by kernel_rfl
theorem el62 : elemT Tryz.prog 62 = some (97, 2, 16) := by kernel_rfl
theorem sl62 : isSliceT Tryz.prog 62 = true := by kernel_rfl
theorem el91 : elemT Tryz.prog 91 = some (94, 7, 96) := by kernel_rfl
theorem sl91 : isSliceT Tryz.prog 91 = true := by kernel_rfl
theorem el92 : elemT Tryz.prog 92 = some (157, 2, 16) := by kernel_rfl
theorem sl92 : isSliceT Tryz.prog 92 = true := by kernel_rfl
theorem sl125 : isSliceT Tryz.prog 125 = true := by kernel_rfl
theorem el131 : elemT Tryz.prog 131 = some (35, 1, 8) := by kernel_rfl
theorem sl131 : isSliceT Tryz.prog 131 = true := by kernel_rfl
theorem el137 : elemT Tryz.prog 137 = some (136, 2, 16) := by kernel_rfl
theorem sl137 : isSliceT Tryz.prog 137 = true := by kernel_rfl
theorem sl172 : isSliceT Tryz.prog 172 = true := by kernel_rfl
theorem el179 : elemT Tryz.prog 179 = some (183, 2, 24) := by kernel_rfl
theorem sl179 : isSliceT Tryz.prog 179 = true := by kernel_rfl
theorem ar189 : arrT Tryz.prog 189 = some (2, 1, none) := by kernel_rfl
theorem ar192 : arrT Tryz.prog 192 = some (2, 1, none) := by kernel_rfl
theorem el206 : elemT Tryz.prog 206 = some (5, 1, 1) := by kernel_rfl
theorem sl206 : isSliceT Tryz.prog 206 = true := by kernel_rfl
theorem el212 : elemT Tryz.prog 212 = some (3, 1, 8) := by kernel_rfl
theorem sl212 : isSliceT Tryz.prog 212 = true := by kernel_rfl
theorem el234 : elemT Tryz.prog 234 = some (189, 2, 32) := by kernel_rfl
theorem sl234 : isSliceT Tryz.prog 234 = true := by kernel_rfl
theorem sl236 : isSliceT Tryz.prog 236 = true := by kernel_rfl
theorem sl273 : isSliceT Tryz.prog 273 = true := by kernel_rfl
theorem ar277 : arrT Tryz.prog 277 = some (4, 1, none) := by kernel_rfl
theorem ar289 : arrT Tryz.prog 289 = some (4, 1, none) := by kernel_rfl
theorem ar298 : arrT Tryz.prog 298 = some (24, 1, none) := by kernel_rfl
theorem sl310 : isSliceT Tryz.prog 310 = true := by kernel_rfl
theorem sl315 : isSliceT Tryz.prog 315 = true := by kernel_rfl
theorem sl323 : isSliceT Tryz.prog 323 = true := by kernel_rfl
theorem ar341 : arrT Tryz.prog 341 = some (20, 1, none) := by kernel_rfl
theorem ar342 : arrT Tryz.prog 342 = some (65, 1, none) := by kernel_rfl
theorem ar367 : arrT Tryz.prog 367 = some (32, 1, none) := by kernel_rfl
theorem ar368 : arrT Tryz.prog 368 = some (64, 1, none) := by kernel_rfl
theorem ld3 : ldT Tryz.prog 3 = some none := by kernel_rfl
theorem ld4 : ldT Tryz.prog 4 = some none := by kernel_rfl
theorem ld9 : ldT Tryz.prog 9 = some none := by kernel_rfl
theorem ld22 : ldT Tryz.prog 22 = some none := by kernel_rfl
theorem ld23 : ldT Tryz.prog 23 = some none := by kernel_rfl
theorem ld25 : ldT Tryz.prog 25 = some (some 2) := by kernel_rfl
theorem ld26 : ldT Tryz.prog 26 = some none := by kernel_rfl
theorem ld27 : ldT Tryz.prog 27 = some none := by kernel_rfl
theorem ld28 : ldT Tryz.prog 28 = some none := by kernel_rfl
theorem ld30 : ldT Tryz.prog 30 = some (some 6) := by kernel_rfl
theorem ld31 : ldT Tryz.prog 31 = some none := by kernel_rfl
theorem ld35 : ldT Tryz.prog 35 = some none := by kernel_rfl
theorem ld43 : ldT Tryz.prog 43 = some none := by kernel_rfl
theorem ld46 : ldT Tryz.prog 46 = some none := by kernel_rfl
theorem ld87 : ldT Tryz.prog 87 = some (some 14) := by kernel_rfl
theorem ld92 : ldT Tryz.prog 92 = some none := by kernel_rfl
theorem ld94 : ldT Tryz.prog 94 = some (some 7) := by kernel_rfl
theorem ld97 : ldT Tryz.prog 97 = some (some 2) := by kernel_rfl
theorem ld136 : ldT Tryz.prog 136 = some (some 2) := by kernel_rfl
theorem ld137 : ldT Tryz.prog 137 = some none := by kernel_rfl
theorem ld139 : ldT Tryz.prog 139 = some (some 6) := by kernel_rfl
theorem ld141 : ldT Tryz.prog 141 = some (some 4) := by kernel_rfl
theorem ld143 : ldT Tryz.prog 143 = some (some 16) := by kernel_rfl
theorem ld157 : ldT Tryz.prog 157 = some (some 2) := by kernel_rfl
theorem ld183 : ldT Tryz.prog 183 = some (some 2) := by kernel_rfl
theorem ld189 : ldT Tryz.prog 189 = some (some 2) := by kernel_rfl
theorem ld285 : ldT Tryz.prog 285 = some (some 3) := by kernel_rfl
theorem kk3 : kindT Tryz.prog 3 = some 0 := by kernel_rfl
theorem pa25 : partsT Tryz.prog 25 = some [(0, 1), (1, 1)] := by kernel_rfl
theorem pa30 : partsT Tryz.prog 30 = some [(0, 2), (2, 1), (3, 1), (4, 1), (5, 1)] := by kernel_rfl
theorem pa87 : partsT Tryz.prog 87 = some [(0, 1), (1, 1), (2, 1), (3, 1), (4, 1), (5, 1), (6, 1), (7, 1), (8, 1), (9, 1), (10, 1), (11, 1), (12, 1), (13, 1)] := by kernel_rfl
theorem pa89 : partsT Tryz.prog 89 = some [(0, 6), (6, 1), (7, 14), (21, 1), (22, 1), (23, 1)] := by kernel_rfl
theorem pa94 : partsT Tryz.prog 94 = some [(0, 1), (1, 1), (2, 1), (3, 1), (4, 1), (5, 1), (6, 1)] := by kernel_rfl
theorem pa97 : partsT Tryz.prog 97 = some [(0, 1), (1, 1)] := by kernel_rfl
theorem pa128 : partsT Tryz.prog 128 = some [(0, 1), (1, 1)] := by kernel_rfl
theorem pa136 : partsT Tryz.prog 136 = some [(0, 1), (1, 1)] := by kernel_rfl
theorem pa139 : partsT Tryz.prog 139 = some [(0, 1), (1, 1), (2, 1), (3, 1), (4, 1), (5, 1)] := by kernel_rfl
theorem pa141 : partsT Tryz.prog 141 = some [(0, 1), (1, 1), (2, 1), (3, 1)] := by kernel_rfl
theorem pa143 : partsT Tryz.prog 143 = some [(0, 1), (1, 1), (2, 4), (6, 4), (10, 1), (11, 1), (12, 1), (13, 1), (14, 1), (15, 1)] := by kernel_rfl
theorem pa157 : partsT Tryz.prog 157 = some [(0, 1), (1, 1)] := by kernel_rfl
theorem pa183 : partsT Tryz.prog 183 = some [(0, 1), (1, 1)] := by kernel_rfl
theorem pa189 : partsT Tryz.prog 189 = some [(0, 1), (1, 1)] := by kernel_rfl
theorem pa285 : partsT Tryz.prog 285 = some [(0, 1), (1, 1), (2, 1)] := by kernel_rfl
theorem so3 : ∃ i, Tryz.prog.info? 3 = some i ∧ i.size = 1 := of_size1 (by kernel_rfl)
theorem so23 : ∃ i, Tryz.prog.info? 23 = some i ∧ i.size = 1 := of_size1 (by kernel_rfl)
theorem so26 : ∃ i, Tryz.prog.info? 26 = some i ∧ i.size = 1 := of_size1 (by kernel_rfl)
theorem so27 : ∃ i, Tryz.prog.info? 27 = some i ∧ i.size = 1 := of_size1 (by kernel_rfl)
theorem so31 : ∃ i, Tryz.prog.info? 31 = some i ∧ i.size = 1 := of_size1 (by kernel_rfl)
theorem so43 : ∃ i, Tryz.prog.info? 43 = some i ∧ i.size = 1 := of_size1 (by kernel_rfl)
theorem so46 : ∃ i, Tryz.prog.info? 46 = some i ∧ i.size = 1 := of_size1 (by kernel_rfl)
theorem so92 : ∃ i, Tryz.prog.info? 92 = some i ∧ i.size = 1 := of_size1 (by kernel_rfl)
theorem ze3 : zeroT Tryz.prog 3 = some [.v (.int .i64 0)] := by kernel_rfl
theorem ze9 : zeroT Tryz.prog 9 = some [.v (.string ByteArray.empty)] := by kernel_rfl
theorem ni25 : nilsT Tryz.prog 25 = some [(0, 9, 1), (1, 139, 6)] := by kernel_rfl
theorem ze25 : zeroT Tryz.prog 25 = some [.sl [], .sl []] := by kernel_rfl
theorem ni30 : nilsT Tryz.prog 30 = some [(0, 9, 1), (1, 139, 6), (2, 87, 14), (3, 143, 16), (4, 192, 2), (5, 192, 2)] := by kernel_rfl
theorem ze30 : zeroT Tryz.prog 30 = some [.sl [], .sl [], .sl [], .sl [], .sl [], .sl []] := by kernel_rfl
theorem ze87 : zeroT Tryz.prog 87 = some [.v (.string ByteArray.empty), .v (.int .i64 0), .v (.int .i64 0), .v (.int .i64 0), .sl [], .v (.int .i64 0), .v (.int .i64 0), .v (.int .i64 0), .v (.int .i64 0), .v (.int .i64 0), .v (.int .i64 0), .v (.int .i64 0), .v (.int .i64 0), .v (.int .i64 0)] := by kernel_rfl
theorem ni89 : nilsT Tryz.prog 89 = some [(0, 9, 1), (1, 139, 6), (2, 87, 14), (3, 143, 16), (4, 192, 2), (5, 192, 2), (11, 3, 1), (21, 3, 1), (22, 46, 1)] := by kernel_rfl
theorem ze89 : zeroT Tryz.prog 89 = some [.sl [], .sl [], .sl [], .sl [], .sl [], .sl [], .v (.int .i64 0), .v (.string ByteArray.empty), .v (.int .i64 0), .v (.int .i64 0), .v (.int .i64 0), .sl [], .v (.int .i64 0), .v (.int .i64 0), .v (.int .i64 0), .v (.int .i64 0), .v (.int .i64 0), .v (.int .i64 0), .v (.int .i64 0), .v (.int .i64 0), .v (.int .i64 0), .sl [], .sl [], .v (.int .i64 0)] := by kernel_rfl
theorem ze94 : zeroT Tryz.prog 94 = some [.v (.int .i64 0), .v (.int .i64 0), .v (.int .i64 0), .v (.int .i64 0), .sl [], .sl [], .v (.string ByteArray.empty)] := by kernel_rfl
theorem ze97 : zeroT Tryz.prog 97 = some [.v (.int .i64 0), .v (.bool false)] := by kernel_rfl
theorem ze128 : zeroT Tryz.prog 128 = some [.v (.int .i64 0), .v (.string ByteArray.empty)] := by kernel_rfl
theorem ze136 : zeroT Tryz.prog 136 = some [.v (.int .i64 0), .v (.int .i64 0)] := by kernel_rfl
theorem ze139 : zeroT Tryz.prog 139 = some [.v (.int .i64 0), .v (.int .i64 0), .v (.int .i64 0), .v (.int .i64 0), .sl [], .sl []] := by kernel_rfl
theorem ze141 : zeroT Tryz.prog 141 = some [.v (.int .i64 0), .v (.int .i64 0), .v (.int .i64 0), .v (.int .i64 0)] := by kernel_rfl
theorem ze143 : zeroT Tryz.prog 143 = some [.v (.string ByteArray.empty), .sl [], .v (.int .i64 0), .v (.int .i64 0), .v (.int .i64 0), .v (.int .i64 0), .v (.int .i64 0), .v (.int .i64 0), .v (.int .i64 0), .v (.int .i64 0), .v (.int .i64 0), .v (.int .i64 0), .v (.int .i64 0), .v (.int .i64 0), .v (.int .i64 0), .v (.bool false)] := by kernel_rfl
theorem ze157 : zeroT Tryz.prog 157 = some [.v (.int .i64 0), .v (.int .i64 0)] := by kernel_rfl
theorem ze183 : zeroT Tryz.prog 183 = some [.v (.bool false), .v (.string ByteArray.empty)] := by kernel_rfl
theorem ze189 : zeroT Tryz.prog 189 = some [.v (.string ByteArray.empty), .v (.string ByteArray.empty)] := by kernel_rfl
theorem ze285 : zeroT Tryz.prog 285 = some [.v (.int .i64 0), .v (.int .i64 0), .v (.int .i64 0)] := by kernel_rfl
theorem co2 : callOk Tryz.prog 2 = true := by kernel_rfl
theorem co3 : callOk Tryz.prog 3 = true := by kernel_rfl
theorem co4 : callOk Tryz.prog 4 = true := by kernel_rfl
theorem co5 : callOk Tryz.prog 5 = true := by kernel_rfl
theorem co6 : callOk Tryz.prog 6 = true := by kernel_rfl
theorem co7 : callOk Tryz.prog 7 = true := by kernel_rfl
theorem co8 : callOk Tryz.prog 8 = true := by kernel_rfl
theorem co9 : callOk Tryz.prog 9 = true := by kernel_rfl
theorem co10 : callOk Tryz.prog 10 = true := by kernel_rfl
theorem co11 : callOk Tryz.prog 11 = true := by kernel_rfl
theorem co12 : callOk Tryz.prog 12 = true := by kernel_rfl
theorem co13 : callOk Tryz.prog 13 = true := by kernel_rfl
theorem co14 : callOk Tryz.prog 14 = true := by kernel_rfl
theorem co15 : callOk Tryz.prog 15 = true := by kernel_rfl
theorem co16 : callOk Tryz.prog 16 = true := by kernel_rfl
theorem co17 : callOk Tryz.prog 17 = true := by kernel_rfl
theorem co18 : callOk Tryz.prog 18 = true := by kernel_rfl
theorem co19 : callOk Tryz.prog 19 = true := by kernel_rfl
theorem co20 : callOk Tryz.prog 20 = true := by kernel_rfl
theorem co21 : callOk Tryz.prog 21 = true := by kernel_rfl
theorem co22 : callOk Tryz.prog 22 = true := by kernel_rfl
theorem co23 : callOk Tryz.prog 23 = true := by kernel_rfl
theorem co24 : callOk Tryz.prog 24 = true := by kernel_rfl
theorem co25 : callOk Tryz.prog 25 = true := by kernel_rfl
theorem co26 : callOk Tryz.prog 26 = true := by kernel_rfl
theorem co27 : callOk Tryz.prog 27 = true := by kernel_rfl
theorem co28 : callOk Tryz.prog 28 = true := by kernel_rfl
theorem co29 : callOk Tryz.prog 29 = true := by kernel_rfl
theorem co30 : callOk Tryz.prog 30 = true := by kernel_rfl
theorem co31 : callOk Tryz.prog 31 = true := by kernel_rfl
theorem co32 : callOk Tryz.prog 32 = true := by kernel_rfl
theorem co33 : callOk Tryz.prog 33 = true := by kernel_rfl
theorem co34 : callOk Tryz.prog 34 = true := by kernel_rfl
theorem co35 : callOk Tryz.prog 35 = true := by kernel_rfl
theorem co36 : callOk Tryz.prog 36 = true := by kernel_rfl
theorem co37 : callOk Tryz.prog 37 = true := by kernel_rfl
theorem co38 : callOk Tryz.prog 38 = true := by kernel_rfl
theorem co39 : callOk Tryz.prog 39 = true := by kernel_rfl
theorem co40 : callOk Tryz.prog 40 = true := by kernel_rfl
theorem co41 : callOk Tryz.prog 41 = true := by kernel_rfl
theorem co42 : callOk Tryz.prog 42 = true := by kernel_rfl
theorem co43 : callOk Tryz.prog 43 = true := by kernel_rfl
theorem co44 : callOk Tryz.prog 44 = true := by kernel_rfl
theorem co45 : callOk Tryz.prog 45 = true := by kernel_rfl
theorem co46 : callOk Tryz.prog 46 = true := by kernel_rfl
theorem co47 : callOk Tryz.prog 47 = true := by kernel_rfl
theorem co48 : callOk Tryz.prog 48 = true := by kernel_rfl
theorem co49 : callOk Tryz.prog 49 = true := by kernel_rfl
theorem co50 : callOk Tryz.prog 50 = true := by kernel_rfl
theorem co51 : callOk Tryz.prog 51 = true := by kernel_rfl
theorem co52 : callOk Tryz.prog 52 = true := by kernel_rfl
theorem co53 : callOk Tryz.prog 53 = true := by kernel_rfl
theorem co54 : callOk Tryz.prog 54 = true := by kernel_rfl
theorem co55 : callOk Tryz.prog 55 = true := by kernel_rfl
theorem co56 : callOk Tryz.prog 56 = true := by kernel_rfl
theorem co57 : callOk Tryz.prog 57 = true := by kernel_rfl
theorem co58 : callOk Tryz.prog 58 = true := by kernel_rfl
theorem co59 : callOk Tryz.prog 59 = true := by kernel_rfl
theorem co60 : callOk Tryz.prog 60 = true := by kernel_rfl
theorem co61 : callOk Tryz.prog 61 = true := by kernel_rfl
theorem co62 : callOk Tryz.prog 62 = true := by kernel_rfl
theorem co63 : callOk Tryz.prog 63 = true := by kernel_rfl
theorem co64 : callOk Tryz.prog 64 = true := by kernel_rfl
theorem co65 : callOk Tryz.prog 65 = true := by kernel_rfl
theorem co66 : callOk Tryz.prog 66 = true := by kernel_rfl
theorem co67 : callOk Tryz.prog 67 = true := by kernel_rfl
theorem co68 : callOk Tryz.prog 68 = true := by kernel_rfl
theorem co69 : callOk Tryz.prog 69 = true := by kernel_rfl
theorem co70 : callOk Tryz.prog 70 = true := by kernel_rfl
theorem co71 : callOk Tryz.prog 71 = true := by kernel_rfl
theorem co72 : callOk Tryz.prog 72 = true := by kernel_rfl
theorem co73 : callOk Tryz.prog 73 = true := by kernel_rfl
theorem co74 : callOk Tryz.prog 74 = true := by kernel_rfl
theorem co75 : callOk Tryz.prog 75 = true := by kernel_rfl
theorem co76 : callOk Tryz.prog 76 = true := by kernel_rfl
theorem co77 : callOk Tryz.prog 77 = true := by kernel_rfl
theorem co78 : callOk Tryz.prog 78 = true := by kernel_rfl
theorem co79 : callOk Tryz.prog 79 = true := by kernel_rfl
theorem co80 : callOk Tryz.prog 80 = true := by kernel_rfl
theorem co81 : callOk Tryz.prog 81 = true := by kernel_rfl
theorem co82 : callOk Tryz.prog 82 = true := by kernel_rfl
theorem co83 : callOk Tryz.prog 83 = true := by kernel_rfl
theorem co84 : callOk Tryz.prog 84 = true := by kernel_rfl
theorem co85 : callOk Tryz.prog 85 = true := by kernel_rfl
theorem co86 : callOk Tryz.prog 86 = true := by kernel_rfl
theorem co87 : callOk Tryz.prog 87 = true := by kernel_rfl
theorem co88 : callOk Tryz.prog 88 = true := by kernel_rfl
theorem co89 : callOk Tryz.prog 89 = true := by kernel_rfl
theorem co90 : callOk Tryz.prog 90 = true := by kernel_rfl
theorem co91 : callOk Tryz.prog 91 = true := by kernel_rfl
theorem co92 : callOk Tryz.prog 92 = true := by kernel_rfl
theorem co93 : callOk Tryz.prog 93 = true := by kernel_rfl
theorem co94 : callOk Tryz.prog 94 = true := by kernel_rfl
theorem co95 : callOk Tryz.prog 95 = true := by kernel_rfl
theorem co96 : callOk Tryz.prog 96 = true := by kernel_rfl
theorem co97 : callOk Tryz.prog 97 = true := by kernel_rfl
theorem co98 : callOk Tryz.prog 98 = true := by kernel_rfl
theorem co99 : callOk Tryz.prog 99 = true := by kernel_rfl
theorem co100 : callOk Tryz.prog 100 = true := by kernel_rfl
theorem co101 : callOk Tryz.prog 101 = true := by kernel_rfl
theorem co102 : callOk Tryz.prog 102 = true := by kernel_rfl
theorem co103 : callOk Tryz.prog 103 = true := by kernel_rfl
theorem co104 : callOk Tryz.prog 104 = true := by kernel_rfl
theorem co105 : callOk Tryz.prog 105 = true := by kernel_rfl
theorem co106 : callOk Tryz.prog 106 = true := by kernel_rfl
theorem co107 : callOk Tryz.prog 107 = true := by kernel_rfl
theorem co108 : callOk Tryz.prog 108 = true := by kernel_rfl
theorem co109 : callOk Tryz.prog 109 = true := by kernel_rfl
theorem co110 : callOk Tryz.prog 110 = true := by kernel_rfl
theorem co111 : callOk Tryz.prog 111 = true := by kernel_rfl
theorem co112 : callOk Tryz.prog 112 = true := by kernel_rfl
theorem co113 : callOk Tryz.prog 113 = true := by kernel_rfl
theorem co114 : callOk Tryz.prog 114 = true := by kernel_rfl
theorem co115 : callOk Tryz.prog 115 = true := by kernel_rfl
theorem co116 : callOk Tryz.prog 116 = true := by kernel_rfl
theorem co117 : callOk Tryz.prog 117 = true := by kernel_rfl
theorem co118 : callOk Tryz.prog 118 = true := by kernel_rfl
theorem co119 : callOk Tryz.prog 119 = true := by kernel_rfl
theorem co120 : callOk Tryz.prog 120 = true := by kernel_rfl
theorem co121 : callOk Tryz.prog 121 = true := by kernel_rfl
theorem co122 : callOk Tryz.prog 122 = true := by kernel_rfl
theorem co123 : callOk Tryz.prog 123 = true := by kernel_rfl
theorem co124 : callOk Tryz.prog 124 = true := by kernel_rfl
theorem co125 : callOk Tryz.prog 125 = true := by kernel_rfl
theorem co126 : callOk Tryz.prog 126 = true := by kernel_rfl
theorem co127 : callOk Tryz.prog 127 = true := by kernel_rfl
theorem co128 : callOk Tryz.prog 128 = true := by kernel_rfl
theorem co129 : callOk Tryz.prog 129 = true := by kernel_rfl
theorem co130 : callOk Tryz.prog 130 = true := by kernel_rfl
theorem co131 : callOk Tryz.prog 131 = true := by kernel_rfl
theorem co132 : callOk Tryz.prog 132 = true := by kernel_rfl
theorem co133 : callOk Tryz.prog 133 = true := by kernel_rfl
theorem co134 : callOk Tryz.prog 134 = true := by kernel_rfl
theorem co135 : callOk Tryz.prog 135 = true := by kernel_rfl
theorem co136 : callOk Tryz.prog 136 = true := by kernel_rfl
theorem co137 : callOk Tryz.prog 137 = true := by kernel_rfl
theorem co138 : callOk Tryz.prog 138 = true := by kernel_rfl
theorem co139 : callOk Tryz.prog 139 = true := by kernel_rfl
theorem co140 : callOk Tryz.prog 140 = true := by kernel_rfl
theorem co141 : callOk Tryz.prog 141 = true := by kernel_rfl
theorem co142 : callOk Tryz.prog 142 = true := by kernel_rfl
theorem co143 : callOk Tryz.prog 143 = true := by kernel_rfl
theorem co144 : callOk Tryz.prog 144 = true := by kernel_rfl
theorem co145 : callOk Tryz.prog 145 = true := by kernel_rfl
theorem co146 : callOk Tryz.prog 146 = true := by kernel_rfl
theorem co147 : callOk Tryz.prog 147 = true := by kernel_rfl
theorem co148 : callOk Tryz.prog 148 = true := by kernel_rfl
theorem co149 : callOk Tryz.prog 149 = true := by kernel_rfl
theorem co150 : callOk Tryz.prog 150 = true := by kernel_rfl
theorem co151 : callOk Tryz.prog 151 = true := by kernel_rfl
theorem co152 : callOk Tryz.prog 152 = true := by kernel_rfl
theorem co153 : callOk Tryz.prog 153 = true := by kernel_rfl
theorem co154 : callOk Tryz.prog 154 = true := by kernel_rfl
theorem co155 : callOk Tryz.prog 155 = true := by kernel_rfl
theorem co156 : callOk Tryz.prog 156 = true := by kernel_rfl
theorem co157 : callOk Tryz.prog 157 = true := by kernel_rfl
theorem co158 : callOk Tryz.prog 158 = true := by kernel_rfl
theorem co159 : callOk Tryz.prog 159 = true := by kernel_rfl
theorem co160 : callOk Tryz.prog 160 = true := by kernel_rfl
theorem co161 : callOk Tryz.prog 161 = true := by kernel_rfl
theorem co162 : callOk Tryz.prog 162 = true := by kernel_rfl
theorem co163 : callOk Tryz.prog 163 = true := by kernel_rfl
theorem co164 : callOk Tryz.prog 164 = true := by kernel_rfl
theorem co165 : callOk Tryz.prog 165 = true := by kernel_rfl
theorem co166 : callOk Tryz.prog 166 = true := by kernel_rfl
theorem co167 : callOk Tryz.prog 167 = true := by kernel_rfl
theorem co168 : callOk Tryz.prog 168 = true := by kernel_rfl
theorem co169 : callOk Tryz.prog 169 = true := by kernel_rfl
theorem co170 : callOk Tryz.prog 170 = true := by kernel_rfl
theorem co171 : callOk Tryz.prog 171 = true := by kernel_rfl
theorem co172 : callOk Tryz.prog 172 = true := by kernel_rfl
theorem co173 : callOk Tryz.prog 173 = true := by kernel_rfl
theorem co174 : callOk Tryz.prog 174 = true := by kernel_rfl
theorem co175 : callOk Tryz.prog 175 = true := by kernel_rfl
theorem co176 : callOk Tryz.prog 176 = true := by kernel_rfl
theorem co177 : callOk Tryz.prog 177 = true := by kernel_rfl
theorem co178 : callOk Tryz.prog 178 = true := by kernel_rfl
theorem co179 : callOk Tryz.prog 179 = true := by kernel_rfl
theorem co180 : callOk Tryz.prog 180 = true := by kernel_rfl
theorem co181 : callOk Tryz.prog 181 = true := by kernel_rfl
theorem co182 : callOk Tryz.prog 182 = true := by kernel_rfl
theorem co183 : callOk Tryz.prog 183 = true := by kernel_rfl
theorem co184 : callOk Tryz.prog 184 = true := by kernel_rfl
theorem co185 : callOk Tryz.prog 185 = true := by kernel_rfl
theorem co186 : callOk Tryz.prog 186 = true := by kernel_rfl
theorem co187 : callOk Tryz.prog 187 = true := by kernel_rfl
theorem co188 : callOk Tryz.prog 188 = true := by kernel_rfl
theorem co189 : callOk Tryz.prog 189 = true := by kernel_rfl
theorem co190 : callOk Tryz.prog 190 = true := by kernel_rfl
theorem co191 : callOk Tryz.prog 191 = true := by kernel_rfl
theorem co192 : callOk Tryz.prog 192 = true := by kernel_rfl
theorem co193 : callOk Tryz.prog 193 = true := by kernel_rfl
theorem co194 : callOk Tryz.prog 194 = true := by kernel_rfl
theorem co195 : callOk Tryz.prog 195 = true := by kernel_rfl
theorem co196 : callOk Tryz.prog 196 = true := by kernel_rfl
theorem co197 : callOk Tryz.prog 197 = true := by kernel_rfl
theorem co198 : callOk Tryz.prog 198 = true := by kernel_rfl
theorem co199 : callOk Tryz.prog 199 = true := by kernel_rfl
theorem co200 : callOk Tryz.prog 200 = true := by kernel_rfl
theorem co201 : callOk Tryz.prog 201 = true := by kernel_rfl
theorem co202 : callOk Tryz.prog 202 = true := by kernel_rfl
theorem co203 : callOk Tryz.prog 203 = true := by kernel_rfl
theorem co204 : callOk Tryz.prog 204 = true := by kernel_rfl
theorem co205 : callOk Tryz.prog 205 = true := by kernel_rfl
theorem co206 : callOk Tryz.prog 206 = true := by kernel_rfl
theorem co207 : callOk Tryz.prog 207 = true := by kernel_rfl
theorem co208 : callOk Tryz.prog 208 = true := by kernel_rfl
theorem co209 : callOk Tryz.prog 209 = true := by kernel_rfl
theorem co210 : callOk Tryz.prog 210 = true := by kernel_rfl
theorem co211 : callOk Tryz.prog 211 = true := by kernel_rfl
theorem co212 : callOk Tryz.prog 212 = true := by kernel_rfl
theorem co213 : callOk Tryz.prog 213 = true := by kernel_rfl
theorem co214 : callOk Tryz.prog 214 = true := by kernel_rfl
theorem co215 : callOk Tryz.prog 215 = true := by kernel_rfl
theorem co216 : callOk Tryz.prog 216 = true := by kernel_rfl
theorem co217 : callOk Tryz.prog 217 = true := by kernel_rfl
theorem co218 : callOk Tryz.prog 218 = true := by kernel_rfl
theorem co219 : callOk Tryz.prog 219 = true := by kernel_rfl
theorem co220 : callOk Tryz.prog 220 = true := by kernel_rfl
theorem co221 : callOk Tryz.prog 221 = true := by kernel_rfl
theorem co222 : callOk Tryz.prog 222 = true := by kernel_rfl
theorem co223 : callOk Tryz.prog 223 = true := by kernel_rfl
theorem co224 : callOk Tryz.prog 224 = true := by kernel_rfl
theorem co225 : callOk Tryz.prog 225 = true := by kernel_rfl
theorem co226 : callOk Tryz.prog 226 = true := by kernel_rfl
theorem co227 : callOk Tryz.prog 227 = true := by kernel_rfl
theorem co229 : callOk Tryz.prog 229 = true := by kernel_rfl
theorem co230 : callOk Tryz.prog 230 = true := by kernel_rfl
theorem co231 : callOk Tryz.prog 231 = true := by kernel_rfl
theorem co232 : callOk Tryz.prog 232 = true := by kernel_rfl
theorem co233 : callOk Tryz.prog 233 = true := by kernel_rfl
theorem co234 : callOk Tryz.prog 234 = true := by kernel_rfl
theorem co235 : callOk Tryz.prog 235 = true := by kernel_rfl
theorem co236 : callOk Tryz.prog 236 = true := by kernel_rfl
theorem co237 : callOk Tryz.prog 237 = true := by kernel_rfl
theorem co238 : callOk Tryz.prog 238 = true := by kernel_rfl
theorem co239 : callOk Tryz.prog 239 = true := by kernel_rfl
theorem co240 : callOk Tryz.prog 240 = true := by kernel_rfl
theorem co241 : callOk Tryz.prog 241 = true := by kernel_rfl
theorem co242 : callOk Tryz.prog 242 = true := by kernel_rfl
theorem co243 : callOk Tryz.prog 243 = true := by kernel_rfl
theorem co245 : callOk Tryz.prog 245 = true := by kernel_rfl
theorem co246 : callOk Tryz.prog 246 = true := by kernel_rfl
theorem co247 : callOk Tryz.prog 247 = true := by kernel_rfl
theorem co248 : callOk Tryz.prog 248 = true := by kernel_rfl
theorem co249 : callOk Tryz.prog 249 = true := by kernel_rfl
theorem co250 : callOk Tryz.prog 250 = true := by kernel_rfl
theorem co251 : callOk Tryz.prog 251 = true := by kernel_rfl
theorem co252 : callOk Tryz.prog 252 = true := by kernel_rfl
theorem co253 : callOk Tryz.prog 253 = true := by kernel_rfl
theorem co254 : callOk Tryz.prog 254 = true := by kernel_rfl
theorem co255 : callOk Tryz.prog 255 = true := by kernel_rfl
theorem co256 : callOk Tryz.prog 256 = true := by kernel_rfl
theorem co257 : callOk Tryz.prog 257 = true := by kernel_rfl
theorem co258 : callOk Tryz.prog 258 = true := by kernel_rfl
theorem co259 : callOk Tryz.prog 259 = true := by kernel_rfl
theorem co260 : callOk Tryz.prog 260 = true := by kernel_rfl
theorem co261 : callOk Tryz.prog 261 = true := by kernel_rfl
theorem co262 : callOk Tryz.prog 262 = true := by kernel_rfl
theorem co263 : callOk Tryz.prog 263 = true := by kernel_rfl
theorem co264 : callOk Tryz.prog 264 = true := by kernel_rfl
theorem co265 : callOk Tryz.prog 265 = true := by kernel_rfl
theorem co266 : callOk Tryz.prog 266 = true := by kernel_rfl
theorem co268 : callOk Tryz.prog 268 = true := by kernel_rfl
theorem co269 : callOk Tryz.prog 269 = true := by kernel_rfl
theorem co270 : callOk Tryz.prog 270 = true := by kernel_rfl
theorem co271 : callOk Tryz.prog 271 = true := by kernel_rfl
theorem co272 : callOk Tryz.prog 272 = true := by kernel_rfl
theorem co273 : callOk Tryz.prog 273 = true := by kernel_rfl
theorem co274 : callOk Tryz.prog 274 = true := by kernel_rfl
theorem co275 : callOk Tryz.prog 275 = true := by kernel_rfl
theorem co276 : callOk Tryz.prog 276 = true := by kernel_rfl
theorem co277 : callOk Tryz.prog 277 = true := by kernel_rfl
theorem co278 : callOk Tryz.prog 278 = true := by kernel_rfl
theorem co279 : callOk Tryz.prog 279 = true := by kernel_rfl
theorem co280 : callOk Tryz.prog 280 = true := by kernel_rfl
theorem co282 : callOk Tryz.prog 282 = true := by kernel_rfl
theorem co283 : callOk Tryz.prog 283 = true := by kernel_rfl
theorem co284 : callOk Tryz.prog 284 = true := by kernel_rfl
theorem co285 : callOk Tryz.prog 285 = true := by kernel_rfl
theorem co286 : callOk Tryz.prog 286 = true := by kernel_rfl
theorem co287 : callOk Tryz.prog 287 = true := by kernel_rfl
theorem co288 : callOk Tryz.prog 288 = true := by kernel_rfl
theorem co289 : callOk Tryz.prog 289 = true := by kernel_rfl
theorem co290 : callOk Tryz.prog 290 = true := by kernel_rfl
theorem co291 : callOk Tryz.prog 291 = true := by kernel_rfl
theorem co292 : callOk Tryz.prog 292 = true := by kernel_rfl
theorem co293 : callOk Tryz.prog 293 = true := by kernel_rfl
theorem co294 : callOk Tryz.prog 294 = true := by kernel_rfl
theorem co295 : callOk Tryz.prog 295 = true := by kernel_rfl
theorem co296 : callOk Tryz.prog 296 = true := by kernel_rfl
theorem co297 : callOk Tryz.prog 297 = true := by kernel_rfl
theorem co298 : callOk Tryz.prog 298 = true := by kernel_rfl
theorem co299 : callOk Tryz.prog 299 = true := by kernel_rfl
theorem co300 : callOk Tryz.prog 300 = true := by kernel_rfl
theorem co301 : callOk Tryz.prog 301 = true := by kernel_rfl
theorem co302 : callOk Tryz.prog 302 = true := by kernel_rfl
theorem co303 : callOk Tryz.prog 303 = true := by kernel_rfl
theorem co304 : callOk Tryz.prog 304 = true := by kernel_rfl
theorem co305 : callOk Tryz.prog 305 = true := by kernel_rfl
theorem co306 : callOk Tryz.prog 306 = true := by kernel_rfl
theorem co307 : callOk Tryz.prog 307 = true := by kernel_rfl
theorem co308 : callOk Tryz.prog 308 = true := by kernel_rfl
theorem co309 : callOk Tryz.prog 309 = true := by kernel_rfl
theorem co310 : callOk Tryz.prog 310 = true := by kernel_rfl
theorem co311 : callOk Tryz.prog 311 = true := by kernel_rfl
theorem co312 : callOk Tryz.prog 312 = true := by kernel_rfl
theorem co313 : callOk Tryz.prog 313 = true := by kernel_rfl
theorem co314 : callOk Tryz.prog 314 = true := by kernel_rfl
theorem co316 : callOk Tryz.prog 316 = true := by kernel_rfl
theorem co317 : callOk Tryz.prog 317 = true := by kernel_rfl
theorem co318 : callOk Tryz.prog 318 = true := by kernel_rfl
theorem co319 : callOk Tryz.prog 319 = true := by kernel_rfl
theorem co320 : callOk Tryz.prog 320 = true := by kernel_rfl
theorem co321 : callOk Tryz.prog 321 = true := by kernel_rfl
theorem co345 : callOk Tryz.prog 345 = true := by kernel_rfl
attribute [go_sem] it3 it5 st9 it40 by206 bo4 fl285 fo25_0 fo25_1 fo30_0 fo30_1 fo30_2 fo30_3 fo30_4 fo87_0 fo87_1 fo87_2 fo87_3 fo87_4 fo87_5 fo87_6 fo87_7 fo87_8 fo87_9 fo87_10 fo87_11 fo87_12 fo87_13 fo89_0 fo89_1 fo89_2 fo89_3 fo89_4 fo89_5 fo94_0 fo94_1 fo94_2 fo94_3 fo94_4 fo94_5 fo94_6 fo97_0 fo97_1 fo128_0 fo128_1 fo136_0 fo136_1 fo139_0 fo139_1 fo139_2 fo139_3 fo139_4 fo139_5 fo141_0 fo141_1 fo141_2 fo141_3 fo143_0 fo143_1 fo143_2 fo143_3 fo143_4 fo143_5 fo143_6 fo143_7 fo143_8 fo143_9 fo157_0 fo157_1 fo183_0 fo183_1 el22 sl22 el23 sl23 el26 sl26 el27 sl27 el28 sl28 el31 sl31 el32 sl32 el43 sl43 el61 sl61 el62 sl62 el91 sl91 el92 sl92 sl125 el131 sl131 el137 sl137 sl172 el179 sl179 ar189 ar192 el206 sl206 el212 sl212 el234 sl234 sl236 sl273 ar277 ar289 ar298 sl310 sl315 sl323 ar341 ar342 ar367 ar368 ld3 ld4 ld9 ld22 ld23 ld25 ld26 ld27 ld28 ld30 ld31 ld35 ld43 ld46 ld87 ld92 ld94 ld97 ld136 ld137 ld139 ld141 ld143 ld157 ld183 ld189 ld285 kk3 pa25 pa30 pa87 pa89 pa94 pa97 pa128 pa136 pa139 pa141 pa143 pa157 pa183 pa189 pa285 so3 so23 so26 so27 so31 so43 so46 so92 ze3 ze9 ni25 ze25 ni30 ze30 ze87 ni89 ze89 ze94 ze97 ze128 ze136 ze139 ze141 ze143 ze157 ze183 ze189 ze285 co2 co3 co4 co5 co6 co7 co8 co9 co10 co11 co12 co13 co14 co15 co16 co17 co18 co19 co20 co21 co22 co23 co24 co25 co26 co27 co28 co29 co30 co31 co32 co33 co34 co35 co36 co37 co38 co39 co40 co41 co42 co43 co44 co45 co46 co47 co48 co49 co50 co51 co52 co53 co54 co55 co56 co57 co58 co59 co60 co61 co62 co63 co64 co65 co66 co67 co68 co69 co70 co71 co72 co73 co74 co75 co76 co77 co78 co79 co80 co81 co82 co83 co84 co85 co86 co87 co88 co89 co90 co91 co92 co93 co94 co95 co96 co97 co98 co99 co100 co101 co102 co103 co104 co105 co106 co107 co108 co109 co110 co111 co112 co113 co114 co115 co116 co117 co118 co119 co120 co121 co122 co123 co124 co125 co126 co127 co128 co129 co130 co131 co132 co133 co134 co135 co136 co137 co138 co139 co140 co141 co142 co143 co144 co145 co146 co147 co148 co149 co150 co151 co152 co153 co154 co155 co156 co157 co158 co159 co160 co161 co162 co163 co164 co165 co166 co167 co168 co169 co170 co171 co172 co173 co174 co175 co176 co177 co178 co179 co180 co181 co182 co183 co184 co185 co186 co187 co188 co189 co190 co191 co192 co193 co194 co195 co196 co197 co198 co199 co200 co201 co202 co203 co204 co205 co206 co207 co208 co209 co210 co211 co212 co213 co214 co215 co216 co217 co218 co219 co220 co221 co222 co223 co224 co225 co226 co227 co229 co230 co231 co232 co233 co234 co235 co236 co237 co238 co239 co240 co241 co242 co243 co245 co246 co247 co248 co249 co250 co251 co252 co253 co254 co255 co256 co257 co258 co259 co260 co261 co262 co263 co264 co265 co266 co268 co269 co270 co271 co272 co273 co274 co275 co276 co277 co278 co279 co280 co282 co283 co284 co285 co286 co287 co288 co289 co290 co291 co292 co293 co294 co295 co296 co297 co298 co299 co300 co301 co302 co303 co304 co305 co306 co307 co308 co309 co310 co311 co312 co313 co314 co316 co317 co318 co319 co320 co321 co345
end Go.Proofs.YtdlijlecpopadaaGreatDoor.Ty
