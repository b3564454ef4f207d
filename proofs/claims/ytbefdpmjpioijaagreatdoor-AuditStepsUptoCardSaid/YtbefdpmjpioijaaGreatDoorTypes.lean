/- Closed facts on the types and functions of this seat, written by a program out of the translation. -/
import Derived.Test.YtbefdpmjpioijaaGreatDoorAwEnd
import Derived.Test.YtbefdpmjpioijaaGreatDoorChecked
import Derived.KernelRfl
set_option linter.unusedSimpArgs false
namespace Go.Proofs.YtbefdpmjpioijaaGreatDoor.Ty
open Go.Aw Go.Proofs
theorem of_size1 {P : Program} {t : TypeId} (h : (P.info? t).map (·.size) = some 1) : ∃ i, P.info? t = some i ∧ i.size = 1 := by
  cases hi : P.info? t with
  | none => simp [hi] at h
  | some i => exact ⟨i, rfl, by simpa [hi] using h⟩
theorem mixed : Tryz.prog.follows .mixedOrders = true := by kernel_rfl
theorem it2 : intT Tryz.prog 2 = some .i64 := by kernel_rfl
theorem it3 : intT Tryz.prog 3 = some .i64 := by kernel_rfl
theorem it5 : intT Tryz.prog 5 = some .u8 := by kernel_rfl
theorem st9 : isStringT Tryz.prog 9 = true := by kernel_rfl
theorem by110 : bytesT Tryz.prog 110 = true := by kernel_rfl
theorem it160 : intT Tryz.prog 160 = some .u64 := by kernel_rfl
theorem it190 : intT Tryz.prog 190 = some .u64 := by kernel_rfl
theorem it213 : intT Tryz.prog 213 = some .u32 := by kernel_rfl
theorem bo4 : isBoolT Tryz.prog 4 = true := by kernel_rfl
theorem fl64 : flatT Tryz.prog 64 = some [0, 1] := by kernel_rfl
theorem fl95 : flatT Tryz.prog 95 = some [0, 2] := by kernel_rfl
theorem fl225 : flatT Tryz.prog 225 = some [0, 0, 0] := by kernel_rfl
theorem fo25_0 : fieldOff Tryz.prog 25 0 = some (0, none) := by kernel_rfl
theorem fo25_1 : fieldOff Tryz.prog 25 1 = some (1, none) := by kernel_rfl
theorem fo30_0 : fieldOff Tryz.prog 30 0 = some (0, some 2) := by kernel_rfl
theorem fo30_1 : fieldOff Tryz.prog 30 1 = some (2, none) := by kernel_rfl
theorem fo30_2 : fieldOff Tryz.prog 30 2 = some (3, none) := by kernel_rfl
theorem fo30_3 : fieldOff Tryz.prog 30 3 = some (4, none) := by kernel_rfl
theorem fo30_4 : fieldOff Tryz.prog 30 4 = some (5, none) := by kernel_rfl
theorem fo34_0 : fieldOff Tryz.prog 34 0 = some (0, none) := by kernel_rfl
theorem fo34_1 : fieldOff Tryz.prog 34 1 = some (1, none) := by kernel_rfl
theorem fo47_0 : fieldOff Tryz.prog 47 0 = some (0, some 6) := by kernel_rfl
theorem fo47_1 : fieldOff Tryz.prog 47 1 = some (6, some 2) := by kernel_rfl
theorem fo47_2 : fieldOff Tryz.prog 47 2 = some (8, none) := by kernel_rfl
theorem fo48_0 : fieldOff Tryz.prog 48 0 = some (0, some 6) := by kernel_rfl
theorem fo48_1 : fieldOff Tryz.prog 48 1 = some (6, some 2) := by kernel_rfl
theorem fo48_2 : fieldOff Tryz.prog 48 2 = some (8, none) := by kernel_rfl
theorem fo56_0 : fieldOff Tryz.prog 56 0 = some (0, none) := by kernel_rfl
theorem fo56_1 : fieldOff Tryz.prog 56 1 = some (1, none) := by kernel_rfl
theorem fo56_2 : fieldOff Tryz.prog 56 2 = some (2, none) := by kernel_rfl
theorem fo56_3 : fieldOff Tryz.prog 56 3 = some (3, none) := by kernel_rfl
theorem fo58_0 : fieldOff Tryz.prog 58 0 = some (0, none) := by kernel_rfl
theorem fo58_1 : fieldOff Tryz.prog 58 1 = some (1, none) := by kernel_rfl
theorem fo58_2 : fieldOff Tryz.prog 58 2 = some (2, none) := by kernel_rfl
theorem fo58_3 : fieldOff Tryz.prog 58 3 = some (3, none) := by kernel_rfl
theorem fo58_4 : fieldOff Tryz.prog 58 4 = some (4, none) := by kernel_rfl
theorem fo58_5 : fieldOff Tryz.prog 58 5 = some (5, none) := by kernel_rfl
theorem fo58_6 : fieldOff Tryz.prog 58 6 = some (6, none) := by kernel_rfl
theorem fo58_7 : fieldOff Tryz.prog 58 7 = some (7, none) := by kernel_rfl
theorem fo58_8 : fieldOff Tryz.prog 58 8 = some (8, none) := by kernel_rfl
theorem fo58_9 : fieldOff Tryz.prog 58 9 = some (9, none) := by kernel_rfl
theorem fo58_10 : fieldOff Tryz.prog 58 10 = some (10, none) := by kernel_rfl
theorem fo58_11 : fieldOff Tryz.prog 58 11 = some (11, none) := by kernel_rfl
theorem fo58_12 : fieldOff Tryz.prog 58 12 = some (12, none) := by kernel_rfl
theorem fo58_13 : fieldOff Tryz.prog 58 13 = some (13, none) := by kernel_rfl
theorem fo60_0 : fieldOff Tryz.prog 60 0 = some (0, none) := by kernel_rfl
theorem fo60_1 : fieldOff Tryz.prog 60 1 = some (1, none) := by kernel_rfl
theorem fo60_2 : fieldOff Tryz.prog 60 2 = some (2, none) := by kernel_rfl
theorem fo60_3 : fieldOff Tryz.prog 60 3 = some (3, none) := by kernel_rfl
theorem fo62_0 : fieldOff Tryz.prog 62 0 = some (0, none) := by kernel_rfl
theorem fo62_1 : fieldOff Tryz.prog 62 1 = some (1, none) := by kernel_rfl
theorem fo62_2 : fieldOff Tryz.prog 62 2 = some (2, some 4) := by kernel_rfl
theorem fo62_3 : fieldOff Tryz.prog 62 3 = some (6, some 4) := by kernel_rfl
theorem fo62_4 : fieldOff Tryz.prog 62 4 = some (10, none) := by kernel_rfl
theorem fo62_5 : fieldOff Tryz.prog 62 5 = some (11, none) := by kernel_rfl
theorem fo62_6 : fieldOff Tryz.prog 62 6 = some (12, none) := by kernel_rfl
theorem fo62_7 : fieldOff Tryz.prog 62 7 = some (13, none) := by kernel_rfl
theorem fo62_8 : fieldOff Tryz.prog 62 8 = some (14, none) := by kernel_rfl
theorem fo62_9 : fieldOff Tryz.prog 62 9 = some (15, none) := by kernel_rfl
theorem fo64_0 : fieldOff Tryz.prog 64 0 = some (0, none) := by kernel_rfl
theorem fo64_1 : fieldOff Tryz.prog 64 1 = some (1, none) := by kernel_rfl
theorem fo89_0 : fieldOff Tryz.prog 89 0 = some (0, none) := by kernel_rfl
theorem fo89_1 : fieldOff Tryz.prog 89 1 = some (1, none) := by kernel_rfl
theorem fo89_2 : fieldOff Tryz.prog 89 2 = some (2, none) := by kernel_rfl
theorem fo89_3 : fieldOff Tryz.prog 89 3 = some (3, none) := by kernel_rfl
theorem fo89_4 : fieldOff Tryz.prog 89 4 = some (4, none) := by kernel_rfl
theorem fo91_1 : fieldOff Tryz.prog 91 1 = some (1, none) := by kernel_rfl
theorem fo91_2 : fieldOff Tryz.prog 91 2 = some (2, none) := by kernel_rfl
theorem fo95_0 : fieldOff Tryz.prog 95 0 = some (0, none) := by kernel_rfl
theorem fo95_1 : fieldOff Tryz.prog 95 1 = some (1, none) := by kernel_rfl
theorem fo122_0 : fieldOff Tryz.prog 122 0 = some (0, none) := by kernel_rfl
theorem fo122_1 : fieldOff Tryz.prog 122 1 = some (1, none) := by kernel_rfl
theorem fo122_2 : fieldOff Tryz.prog 122 2 = some (2, none) := by kernel_rfl
theorem fo122_3 : fieldOff Tryz.prog 122 3 = some (3, none) := by kernel_rfl
theorem fo122_4 : fieldOff Tryz.prog 122 4 = some (4, none) := by kernel_rfl
theorem fo122_5 : fieldOff Tryz.prog 122 5 = some (5, none) := by kernel_rfl
theorem fo125_0 : fieldOff Tryz.prog 125 0 = some (0, none) := by kernel_rfl
theorem fo125_1 : fieldOff Tryz.prog 125 1 = some (1, none) := by kernel_rfl
theorem fo144_0 : fieldOff Tryz.prog 144 0 = some (0, some 6) := by kernel_rfl
theorem fo144_1 : fieldOff Tryz.prog 144 1 = some (6, some 14) := by kernel_rfl
theorem fo144_2 : fieldOff Tryz.prog 144 2 = some (20, some 4) := by kernel_rfl
theorem fo144_3 : fieldOff Tryz.prog 144 3 = some (24, none) := by kernel_rfl
theorem fo148_0 : fieldOff Tryz.prog 148 0 = some (0, none) := by kernel_rfl
theorem fo148_1 : fieldOff Tryz.prog 148 1 = some (1, none) := by kernel_rfl
theorem fo148_2 : fieldOff Tryz.prog 148 2 = some (2, some 5) := by kernel_rfl
theorem fo164_1 : fieldOff Tryz.prog 164 1 = some (1, none) := by kernel_rfl
theorem fo164_2 : fieldOff Tryz.prog 164 2 = some (2, none) := by kernel_rfl
theorem fo164_3 : fieldOff Tryz.prog 164 3 = some (3, none) := by kernel_rfl
theorem fo207_0 : fieldOff Tryz.prog 207 0 = some (0, none) := by kernel_rfl
theorem fo207_1 : fieldOff Tryz.prog 207 1 = some (1, none) := by kernel_rfl
theorem fo207_2 : fieldOff Tryz.prog 207 2 = some (2, none) := by kernel_rfl
theorem fo207_3 : fieldOff Tryz.prog 207 3 = some (3, none) := by kernel_rfl
theorem el22 : elemT Tryz.prog 22 = some (9, 1, 16) := by kernel_rfl
theorem sl22 : isSliceT Tryz.prog 22 = true := by kernel_rfl
theorem el23 : elemT Tryz.prog 23 = some (122, 6, 80) := by kernel_rfl
theorem sl23 : isSliceT Tryz.prog 23 = true := by kernel_rfl
theorem el26 : elemT Tryz.prog 26 = some (58, 14, 136) := by kernel_rfl
theorem sl26 : isSliceT Tryz.prog 26 = true := by kernel_rfl
theorem el27 : elemT Tryz.prog 27 = some (62, 16, 152) := by kernel_rfl
theorem sl27 : isSliceT Tryz.prog 27 = true := by kernel_rfl
theorem el28 : elemT Tryz.prog 28 = some (129, 2, 16) := by kernel_rfl
theorem sl28 : isSliceT Tryz.prog 28 = true := by kernel_rfl
theorem el31 : elemT Tryz.prog 31 = some (56, 4, 64) := by kernel_rfl
theorem sl31 : isSliceT Tryz.prog 31 = true := by kernel_rfl
theorem el32 : elemT Tryz.prog 32 = some (3, 1, 8) := by kernel_rfl
theorem sl32 : isSliceT Tryz.prog 32 = true := by kernel_rfl
theorem el38 : elemT Tryz.prog 38 = some (64, 2, 24) := by kernel_rfl
theorem sl38 : isSliceT Tryz.prog 38 = true := by kernel_rfl
theorem el44 : elemT Tryz.prog 44 = some (47, 9, 200) := by kernel_rfl
theorem sl44 : isSliceT Tryz.prog 44 = true := by kernel_rfl
theorem el45 : elemT Tryz.prog 45 = some (48, 9, 200) := by kernel_rfl
theorem sl45 : isSliceT Tryz.prog 45 = true := by kernel_rfl
theorem el53 : elemT Tryz.prog 53 = some (4, 1, 1) := by kernel_rfl
theorem sl53 : isSliceT Tryz.prog 53 = true := by kernel_rfl
theorem el54 : elemT Tryz.prog 54 = some (95, 2, 16) := by kernel_rfl
theorem sl54 : isSliceT Tryz.prog 54 = true := by kernel_rfl
theorem el65 : elemT Tryz.prog 65 = some (64, 2, 24) := by kernel_rfl
theorem sl65 : isSliceT Tryz.prog 65 = true := by kernel_rfl
theorem el71 : elemT Tryz.prog 71 = some (41, 1, 8) := by kernel_rfl
theorem sl71 : isSliceT Tryz.prog 71 = true := by kernel_rfl
theorem el87 : elemT Tryz.prog 87 = some (164, 4, 32) := by kernel_rfl
theorem sl87 : isSliceT Tryz.prog 87 = true := by kernel_rfl
theorem el105 : elemT Tryz.prog 105 = some (67, 1, 8) := by kernel_rfl
theorem sl105 : isSliceT Tryz.prog 105 = true := by kernel_rfl
theorem el110 : elemT Tryz.prog 110 = some (5, 1, 1) := by kernel_rfl
theorem sl110 : isSliceT Tryz.prog 110 = true := by kernel_rfl
theorem el120 : elemT Tryz.prog 120 = some (125, 2, 16) := by kernel_rfl
theorem sl120 : isSliceT Tryz.prog 120 = true := by kernel_rfl
theorem ar129 : arrT Tryz.prog 129 = some (2, 1, none) := by kernel_rfl
theorem el136 : elemT Tryz.prog 136 = some (32, 1, 24) := by kernel_rfl
theorem sl136 : isSliceT Tryz.prog 136 = true := by kernel_rfl
theorem el142 : elemT Tryz.prog 142 = some (60, 4, 32) := by kernel_rfl
theorem sl142 : isSliceT Tryz.prog 142 = true := by kernel_rfl
theorem el150 : elemT Tryz.prog 150 = some (148, 7, 72) := by kernel_rfl
theorem sl150 : isSliceT Tryz.prog 150 = true := by kernel_rfl
theorem ar189 : arrT Tryz.prog 189 = some (24, 1, none) := by kernel_rfl
theorem ar212 : arrT Tryz.prog 212 = some (20, 1, none) := by kernel_rfl
theorem ar214 : arrT Tryz.prog 214 = some (65, 1, none) := by kernel_rfl
theorem ar228 : arrT Tryz.prog 228 = some (32, 1, none) := by kernel_rfl
theorem ar229 : arrT Tryz.prog 229 = some (64, 1, none) := by kernel_rfl
theorem ld3 : ldT Tryz.prog 3 = some none := by kernel_rfl
theorem ld4 : ldT Tryz.prog 4 = some none := by kernel_rfl
theorem ld5 : ldT Tryz.prog 5 = some none := by kernel_rfl
theorem ld9 : ldT Tryz.prog 9 = some none := by kernel_rfl
theorem ld22 : ldT Tryz.prog 22 = some none := by kernel_rfl
theorem ld23 : ldT Tryz.prog 23 = some none := by kernel_rfl
theorem ld25 : ldT Tryz.prog 25 = some (some 2) := by kernel_rfl
theorem ld26 : ldT Tryz.prog 26 = some none := by kernel_rfl
theorem ld27 : ldT Tryz.prog 27 = some none := by kernel_rfl
theorem ld28 : ldT Tryz.prog 28 = some none := by kernel_rfl
theorem ld30 : ldT Tryz.prog 30 = some (some 6) := by kernel_rfl
theorem ld31 : ldT Tryz.prog 31 = some none := by kernel_rfl
theorem ld32 : ldT Tryz.prog 32 = some none := by kernel_rfl
theorem ld34 : ldT Tryz.prog 34 = some (some 2) := by kernel_rfl
theorem ld41 : ldT Tryz.prog 41 = some none := by kernel_rfl
theorem ld47 : ldT Tryz.prog 47 = some (some 9) := by kernel_rfl
theorem ld48 : ldT Tryz.prog 48 = some (some 9) := by kernel_rfl
theorem ld53 : ldT Tryz.prog 53 = some none := by kernel_rfl
theorem ld54 : ldT Tryz.prog 54 = some none := by kernel_rfl
theorem ld56 : ldT Tryz.prog 56 = some (some 4) := by kernel_rfl
theorem ld58 : ldT Tryz.prog 58 = some (some 14) := by kernel_rfl
theorem ld60 : ldT Tryz.prog 60 = some (some 4) := by kernel_rfl
theorem ld62 : ldT Tryz.prog 62 = some (some 16) := by kernel_rfl
theorem ld64 : ldT Tryz.prog 64 = some (some 2) := by kernel_rfl
theorem ld65 : ldT Tryz.prog 65 = some none := by kernel_rfl
theorem ld67 : ldT Tryz.prog 67 = some none := by kernel_rfl
theorem ld87 : ldT Tryz.prog 87 = some none := by kernel_rfl
theorem ld89 : ldT Tryz.prog 89 = some (some 5) := by kernel_rfl
theorem ld91 : ldT Tryz.prog 91 = some (some 4) := by kernel_rfl
theorem ld95 : ldT Tryz.prog 95 = some (some 2) := by kernel_rfl
theorem ld120 : ldT Tryz.prog 120 = some none := by kernel_rfl
theorem ld122 : ldT Tryz.prog 122 = some (some 6) := by kernel_rfl
theorem ld125 : ldT Tryz.prog 125 = some (some 2) := by kernel_rfl
theorem ld129 : ldT Tryz.prog 129 = some (some 2) := by kernel_rfl
theorem ld142 : ldT Tryz.prog 142 = some none := by kernel_rfl
theorem ld144 : ldT Tryz.prog 144 = some (some 25) := by kernel_rfl
theorem ld148 : ldT Tryz.prog 148 = some (some 7) := by kernel_rfl
theorem ld164 : ldT Tryz.prog 164 = some (some 4) := by kernel_rfl
theorem ld190 : ldT Tryz.prog 190 = some none := by kernel_rfl
theorem ld207 : ldT Tryz.prog 207 = some (some 4) := by kernel_rfl
theorem ld212 : ldT Tryz.prog 212 = some (some 20) := by kernel_rfl
theorem ld225 : ldT Tryz.prog 225 = some (some 3) := by kernel_rfl
theorem ld228 : ldT Tryz.prog 228 = some (some 32) := by kernel_rfl
theorem ld229 : ldT Tryz.prog 229 = some (some 64) := by kernel_rfl
theorem ma153 : mapT Tryz.prog 153 = some (3, 3) := by kernel_rfl
theorem kk3 : kindT Tryz.prog 3 = some 0 := by kernel_rfl
theorem zv3 : zeroE Tryz.prog 3 = some (.v (.int .i64 0)) := by kernel_rfl
theorem pa25 : partsT Tryz.prog 25 = some [(0, 1), (1, 1)] := by kernel_rfl
theorem pa30 : partsT Tryz.prog 30 = some [(0, 2), (2, 1), (3, 1), (4, 1), (5, 1)] := by kernel_rfl
theorem pa34 : partsT Tryz.prog 34 = some [(0, 1), (1, 1)] := by kernel_rfl
theorem pa56 : partsT Tryz.prog 56 = some [(0, 1), (1, 1), (2, 1), (3, 1)] := by kernel_rfl
theorem pa58 : partsT Tryz.prog 58 = some [(0, 1), (1, 1), (2, 1), (3, 1), (4, 1), (5, 1), (6, 1), (7, 1), (8, 1), (9, 1), (10, 1), (11, 1), (12, 1), (13, 1)] := by kernel_rfl
theorem pa60 : partsT Tryz.prog 60 = some [(0, 1), (1, 1), (2, 1), (3, 1)] := by kernel_rfl
theorem pa62 : partsT Tryz.prog 62 = some [(0, 1), (1, 1), (2, 4), (6, 4), (10, 1), (11, 1), (12, 1), (13, 1), (14, 1), (15, 1)] := by kernel_rfl
theorem pa64 : partsT Tryz.prog 64 = some [(0, 1), (1, 1)] := by kernel_rfl
theorem pa89 : partsT Tryz.prog 89 = some [(0, 1), (1, 1), (2, 1), (3, 1), (4, 1)] := by kernel_rfl
theorem pa91 : partsT Tryz.prog 91 = some [(0, 1), (1, 1), (2, 1), (3, 1)] := by kernel_rfl
theorem pa95 : partsT Tryz.prog 95 = some [(0, 1), (1, 1)] := by kernel_rfl
theorem pa122 : partsT Tryz.prog 122 = some [(0, 1), (1, 1), (2, 1), (3, 1), (4, 1), (5, 1)] := by kernel_rfl
theorem pa144 : partsT Tryz.prog 144 = some [(0, 6), (6, 14), (20, 4), (24, 1)] := by kernel_rfl
theorem pa148 : partsT Tryz.prog 148 = some [(0, 1), (1, 1), (2, 5)] := by kernel_rfl
theorem pa164 : partsT Tryz.prog 164 = some [(0, 1), (1, 1), (2, 1), (3, 1)] := by kernel_rfl
theorem pa207 : partsT Tryz.prog 207 = some [(0, 1), (1, 1), (2, 1), (3, 1)] := by kernel_rfl
theorem pa212 : partsT Tryz.prog 212 = some [(0, 1), (1, 1), (2, 1), (3, 1), (4, 1), (5, 1), (6, 1), (7, 1), (8, 1), (9, 1), (10, 1), (11, 1), (12, 1), (13, 1), (14, 1), (15, 1), (16, 1), (17, 1), (18, 1), (19, 1)] := by kernel_rfl
theorem pa225 : partsT Tryz.prog 225 = some [(0, 1), (1, 1), (2, 1)] := by kernel_rfl
theorem pa228 : partsT Tryz.prog 228 = some [(0, 1), (1, 1), (2, 1), (3, 1), (4, 1), (5, 1), (6, 1), (7, 1), (8, 1), (9, 1), (10, 1), (11, 1), (12, 1), (13, 1), (14, 1), (15, 1), (16, 1), (17, 1), (18, 1), (19, 1), (20, 1), (21, 1), (22, 1), (23, 1), (24, 1), (25, 1), (26, 1), (27, 1), (28, 1), (29, 1), (30, 1), (31, 1)] := by kernel_rfl
theorem pa229 : partsT Tryz.prog 229 = some [(0, 1), (1, 1), (2, 1), (3, 1), (4, 1), (5, 1), (6, 1), (7, 1), (8, 1), (9, 1), (10, 1), (11, 1), (12, 1), (13, 1), (14, 1), (15, 1), (16, 1), (17, 1), (18, 1), (19, 1), (20, 1), (21, 1), (22, 1), (23, 1), (24, 1), (25, 1), (26, 1), (27, 1), (28, 1), (29, 1), (30, 1), (31, 1), (32, 1), (33, 1), (34, 1), (35, 1), (36, 1), (37, 1), (38, 1), (39, 1), (40, 1), (41, 1), (42, 1), (43, 1), (44, 1), (45, 1), (46, 1), (47, 1), (48, 1), (49, 1), (50, 1), (51, 1), (52, 1), (53, 1), (54, 1), (55, 1), (56, 1), (57, 1), (58, 1), (59, 1), (60, 1), (61, 1), (62, 1), (63, 1)] := by kernel_rfl
theorem so3 : ∃ i, Tryz.prog.info? 3 = some i ∧ i.size = 1 := of_size1 (by kernel_rfl)
theorem so4 : ∃ i, Tryz.prog.info? 4 = some i ∧ i.size = 1 := of_size1 (by kernel_rfl)
theorem so5 : ∃ i, Tryz.prog.info? 5 = some i ∧ i.size = 1 := of_size1 (by kernel_rfl)
theorem so27 : ∃ i, Tryz.prog.info? 27 = some i ∧ i.size = 1 := of_size1 (by kernel_rfl)
theorem so53 : ∃ i, Tryz.prog.info? 53 = some i ∧ i.size = 1 := of_size1 (by kernel_rfl)
theorem so54 : ∃ i, Tryz.prog.info? 54 = some i ∧ i.size = 1 := of_size1 (by kernel_rfl)
theorem so65 : ∃ i, Tryz.prog.info? 65 = some i ∧ i.size = 1 := of_size1 (by kernel_rfl)
theorem so87 : ∃ i, Tryz.prog.info? 87 = some i ∧ i.size = 1 := of_size1 (by kernel_rfl)
theorem so142 : ∃ i, Tryz.prog.info? 142 = some i ∧ i.size = 1 := of_size1 (by kernel_rfl)
theorem ze3 : zeroT Tryz.prog 3 = some [.v (.int .i64 0)] := by kernel_rfl
theorem ze4 : zeroT Tryz.prog 4 = some [.v (.bool false)] := by kernel_rfl
theorem ni25 : nilsT Tryz.prog 25 = some [(0, 9, 1), (1, 122, 6)] := by kernel_rfl
theorem ze25 : zeroT Tryz.prog 25 = some [.sl [], .sl []] := by kernel_rfl
theorem ni30 : nilsT Tryz.prog 30 = some [(0, 9, 1), (1, 122, 6), (2, 58, 14), (3, 62, 16), (4, 129, 2), (5, 129, 2)] := by kernel_rfl
theorem ze30 : zeroT Tryz.prog 30 = some [.sl [], .sl [], .sl [], .sl [], .sl [], .sl []] := by kernel_rfl
theorem ni34 : nilsT Tryz.prog 34 = some [(0, 56, 4), (1, 3, 1)] := by kernel_rfl
theorem ze34 : zeroT Tryz.prog 34 = some [.sl [], .sl []] := by kernel_rfl
theorem ni47 : nilsT Tryz.prog 47 = some [(0, 9, 1), (1, 122, 6), (2, 58, 14), (3, 62, 16), (4, 129, 2), (5, 129, 2), (6, 56, 4), (7, 3, 1)] := by kernel_rfl
theorem ze47 : zeroT Tryz.prog 47 = some [.sl [], .sl [], .sl [], .sl [], .sl [], .sl [], .sl [], .sl [], .v (.int .i64 0)] := by kernel_rfl
theorem ni48 : nilsT Tryz.prog 48 = some [(0, 9, 1), (1, 122, 6), (2, 58, 14), (3, 62, 16), (4, 129, 2), (5, 129, 2), (6, 56, 4), (7, 3, 1)] := by kernel_rfl
theorem ze48 : zeroT Tryz.prog 48 = some [.sl [], .sl [], .sl [], .sl [], .sl [], .sl [], .sl [], .sl [], .v (.int .i64 0)] := by kernel_rfl
theorem ni56 : nilsT Tryz.prog 56 = some [(2, 4, 1), (3, 95, 2)] := by kernel_rfl
theorem ze56 : zeroT Tryz.prog 56 = some [.v (.int .i64 0), .v (.int .i64 0), .sl [], .sl []] := by kernel_rfl
theorem ni58 : nilsT Tryz.prog 58 = some [(4, 3, 1)] := by kernel_rfl
theorem ze58 : zeroT Tryz.prog 58 = some [.v (.string ByteArray.empty), .v (.int .i64 0), .v (.int .i64 0), .v (.int .i64 0), .sl [], .v (.int .i64 0), .v (.int .i64 0), .v (.int .i64 0), .v (.int .i64 0), .v (.int .i64 0), .v (.int .i64 0), .v (.int .i64 0), .v (.int .i64 0), .v (.int .i64 0)] := by kernel_rfl
theorem ze60 : zeroT Tryz.prog 60 = some [.v (.int .i64 0), .v (.int .i64 0), .v (.int .i64 0), .v (.int .i64 0)] := by kernel_rfl
theorem ni62 : nilsT Tryz.prog 62 = some [(1, 3, 1)] := by kernel_rfl
theorem ze62 : zeroT Tryz.prog 62 = some [.v (.string ByteArray.empty), .sl [], .v (.int .i64 0), .v (.int .i64 0), .v (.int .i64 0), .v (.int .i64 0), .v (.int .i64 0), .v (.int .i64 0), .v (.int .i64 0), .v (.int .i64 0), .v (.int .i64 0), .v (.int .i64 0), .v (.int .i64 0), .v (.int .i64 0), .v (.int .i64 0), .v (.bool false)] := by kernel_rfl
theorem ze64 : zeroT Tryz.prog 64 = some [.v (.int .i64 0), .v (.string ByteArray.empty)] := by kernel_rfl
theorem ni65 : nilsT Tryz.prog 65 = some [(0, 64, 2)] := by kernel_rfl
theorem ze65 : zeroT Tryz.prog 65 = some [.sl []] := by kernel_rfl
theorem ni89 : nilsT Tryz.prog 89 = some [(2, 164, 4)] := by kernel_rfl
theorem ze89 : zeroT Tryz.prog 89 = some [.v (.bool false), .v (.int .i64 0), .sl [], .v (.int .i64 0), .v (.int .i64 0)] := by kernel_rfl
theorem ze91 : zeroT Tryz.prog 91 = some [.v (.int .i64 0), .v (.int .i64 0), .v (.int .i64 0), .v (.int .i64 0)] := by kernel_rfl
theorem ze95 : zeroT Tryz.prog 95 = some [.v (.int .i64 0), .v (.bool false)] := by kernel_rfl
theorem ni122 : nilsT Tryz.prog 122 = some [(4, 125, 2), (5, 125, 2)] := by kernel_rfl
theorem ze122 : zeroT Tryz.prog 122 = some [.v (.int .i64 0), .v (.int .i64 0), .v (.int .i64 0), .v (.int .i64 0), .sl [], .sl []] := by kernel_rfl
theorem ze125 : zeroT Tryz.prog 125 = some [.v (.int .i64 0), .v (.int .i64 0)] := by kernel_rfl
theorem ze129 : zeroT Tryz.prog 129 = some [.v (.int .i64 0), .v (.int .i64 0)] := by kernel_rfl
theorem ni144 : nilsT Tryz.prog 144 = some [(0, 9, 1), (1, 122, 6), (2, 58, 14), (3, 62, 16), (4, 129, 2), (5, 129, 2), (10, 3, 1), (22, 4, 1), (23, 95, 2), (24, 60, 4)] := by kernel_rfl
theorem ze144 : zeroT Tryz.prog 144 = some [.sl [], .sl [], .sl [], .sl [], .sl [], .sl [], .v (.string ByteArray.empty), .v (.int .i64 0), .v (.int .i64 0), .v (.int .i64 0), .sl [], .v (.int .i64 0), .v (.int .i64 0), .v (.int .i64 0), .v (.int .i64 0), .v (.int .i64 0), .v (.int .i64 0), .v (.int .i64 0), .v (.int .i64 0), .v (.int .i64 0), .v (.int .i64 0), .v (.int .i64 0), .sl [], .sl [], .sl []] := by kernel_rfl
theorem ni148 : nilsT Tryz.prog 148 = some [(4, 164, 4)] := by kernel_rfl
theorem ze148 : zeroT Tryz.prog 148 = some [.v (.int .i64 0), .v (.int .i64 0), .v (.bool false), .v (.int .i64 0), .sl [], .v (.int .i64 0), .v (.int .i64 0)] := by kernel_rfl
theorem ze164 : zeroT Tryz.prog 164 = some [.v (.int .i64 0), .v (.int .i64 0), .v (.int .i64 0), .v (.bool false)] := by kernel_rfl
theorem ze189 : zeroT Tryz.prog 189 = some [.v (.int .u8 0), .v (.int .u8 0), .v (.int .u8 0), .v (.int .u8 0), .v (.int .u8 0), .v (.int .u8 0), .v (.int .u8 0), .v (.int .u8 0), .v (.int .u8 0), .v (.int .u8 0), .v (.int .u8 0), .v (.int .u8 0), .v (.int .u8 0), .v (.int .u8 0), .v (.int .u8 0), .v (.int .u8 0), .v (.int .u8 0), .v (.int .u8 0), .v (.int .u8 0), .v (.int .u8 0), .v (.int .u8 0), .v (.int .u8 0), .v (.int .u8 0), .v (.int .u8 0)] := by kernel_rfl
theorem ze207 : zeroT Tryz.prog 207 = some [.v (.int .i64 0), .v (.int .i64 0), .v (.int .i64 0), .v (.int .i64 0)] := by kernel_rfl
theorem ze212 : zeroT Tryz.prog 212 = some [.v (.int .u64 0), .v (.int .u64 0), .v (.int .u64 0), .v (.int .u64 0), .v (.int .u64 0), .v (.int .u64 0), .v (.int .u64 0), .v (.int .u64 0), .v (.int .u64 0), .v (.int .u64 0), .v (.int .u64 0), .v (.int .u64 0), .v (.int .u64 0), .v (.int .u64 0), .v (.int .u64 0), .v (.int .u64 0), .v (.int .u64 0), .v (.int .u64 0), .v (.int .u64 0), .v (.int .u64 0)] := by kernel_rfl
theorem ze214 : zeroT Tryz.prog 214 = some [.v (.int .u8 0), .v (.int .u8 0), .v (.int .u8 0), .v (.int .u8 0), .v (.int .u8 0), .v (.int .u8 0), .v (.int .u8 0), .v (.int .u8 0), .v (.int .u8 0), .v (.int .u8 0), .v (.int .u8 0), .v (.int .u8 0), .v (.int .u8 0), .v (.int .u8 0), .v (.int .u8 0), .v (.int .u8 0), .v (.int .u8 0), .v (.int .u8 0), .v (.int .u8 0), .v (.int .u8 0), .v (.int .u8 0), .v (.int .u8 0), .v (.int .u8 0), .v (.int .u8 0), .v (.int .u8 0), .v (.int .u8 0), .v (.int .u8 0), .v (.int .u8 0), .v (.int .u8 0), .v (.int .u8 0), .v (.int .u8 0), .v (.int .u8 0), .v (.int .u8 0), .v (.int .u8 0), .v (.int .u8 0), .v (.int .u8 0), .v (.int .u8 0), .v (.int .u8 0), .v (.int .u8 0), .v (.int .u8 0), .v (.int .u8 0), .v (.int .u8 0), .v (.int .u8 0), .v (.int .u8 0), .v (.int .u8 0), .v (.int .u8 0), .v (.int .u8 0), .v (.int .u8 0), .v (.int .u8 0), .v (.int .u8 0), .v (.int .u8 0), .v (.int .u8 0), .v (.int .u8 0), .v (.int .u8 0), .v (.int .u8 0), .v (.int .u8 0), .v (.int .u8 0), .v (.int .u8 0), .v (.int .u8 0), .v (.int .u8 0), .v (.int .u8 0), .v (.int .u8 0), .v (.int .u8 0), .v (.int .u8 0), .v (.int .u8 0)] := by kernel_rfl
theorem ze225 : zeroT Tryz.prog 225 = some [.v (.int .i64 0), .v (.int .i64 0), .v (.int .i64 0)] := by kernel_rfl
theorem ze228 : zeroT Tryz.prog 228 = some [.v (.int .u8 0), .v (.int .u8 0), .v (.int .u8 0), .v (.int .u8 0), .v (.int .u8 0), .v (.int .u8 0), .v (.int .u8 0), .v (.int .u8 0), .v (.int .u8 0), .v (.int .u8 0), .v (.int .u8 0), .v (.int .u8 0), .v (.int .u8 0), .v (.int .u8 0), .v (.int .u8 0), .v (.int .u8 0), .v (.int .u8 0), .v (.int .u8 0), .v (.int .u8 0), .v (.int .u8 0), .v (.int .u8 0), .v (.int .u8 0), .v (.int .u8 0), .v (.int .u8 0), .v (.int .u8 0), .v (.int .u8 0), .v (.int .u8 0), .v (.int .u8 0), .v (.int .u8 0), .v (.int .u8 0), .v (.int .u8 0), .v (.int .u8 0)] := by kernel_rfl
theorem ze229 : zeroT Tryz.prog 229 = some [.v (.int .u8 0), .v (.int .u8 0), .v (.int .u8 0), .v (.int .u8 0), .v (.int .u8 0), .v (.int .u8 0), .v (.int .u8 0), .v (.int .u8 0), .v (.int .u8 0), .v (.int .u8 0), .v (.int .u8 0), .v (.int .u8 0), .v (.int .u8 0), .v (.int .u8 0), .v (.int .u8 0), .v (.int .u8 0), .v (.int .u8 0), .v (.int .u8 0), .v (.int .u8 0), .v (.int .u8 0), .v (.int .u8 0), .v (.int .u8 0), .v (.int .u8 0), .v (.int .u8 0), .v (.int .u8 0), .v (.int .u8 0), .v (.int .u8 0), .v (.int .u8 0), .v (.int .u8 0), .v (.int .u8 0), .v (.int .u8 0), .v (.int .u8 0), .v (.int .u8 0), .v (.int .u8 0), .v (.int .u8 0), .v (.int .u8 0), .v (.int .u8 0), .v (.int .u8 0), .v (.int .u8 0), .v (.int .u8 0), .v (.int .u8 0), .v (.int .u8 0), .v (.int .u8 0), .v (.int .u8 0), .v (.int .u8 0), .v (.int .u8 0), .v (.int .u8 0), .v (.int .u8 0), .v (.int .u8 0), .v (.int .u8 0), .v (.int .u8 0), .v (.int .u8 0), .v (.int .u8 0), .v (.int .u8 0), .v (.int .u8 0), .v (.int .u8 0), .v (.int .u8 0), .v (.int .u8 0), .v (.int .u8 0), .v (.int .u8 0), .v (.int .u8 0), .v (.int .u8 0), .v (.int .u8 0), .v (.int .u8 0)] := by kernel_rfl
theorem co2 : callOk Tryz.prog 2 = true := by kernel_rfl
theorem co3 : callOk Tryz.prog 3 = true := by kernel_rfl
theorem co4 : callOk Tryz.prog 4 = true := by kernel_rfl
theorem co5 : callOk Tryz.prog 5 = true := by kernel_rfl
theorem co6 : callOk Tryz.prog 6 = true := by kernel_rfl
theorem co7 : callOk Tryz.prog 7 = true := by kernel_rfl
theorem co8 : callOk Tryz.prog 8 = true := by kernel_rfl
theorem co9 : callOk Tryz.prog 9 = true := by kernel_rfl
theorem co10 : callOk Tryz.prog 10 = true := by kernel_rfl
theorem co11 : callOk Tryz.prog 11 = true := by kernel_rfl
theorem co12 : callOk Tryz.prog 12 = true := by kernel_rfl
theorem co13 : callOk Tryz.prog 13 = true := by kernel_rfl
theorem co14 : callOk Tryz.prog 14 = true := by kernel_rfl
theorem co15 : callOk Tryz.prog 15 = true := by kernel_rfl
theorem co16 : callOk Tryz.prog 16 = true := by kernel_rfl
theorem co17 : callOk Tryz.prog 17 = true := by kernel_rfl
theorem co18 : callOk Tryz.prog 18 = true := by kernel_rfl
theorem co19 : callOk Tryz.prog 19 = true := by kernel_rfl
theorem co20 : callOk Tryz.prog 20 = true := by kernel_rfl
theorem co21 : callOk Tryz.prog 21 = true := by kernel_rfl
theorem co22 : callOk Tryz.prog 22 = true := by kernel_rfl
theorem co23 : callOk Tryz.prog 23 = true := by kernel_rfl
theorem co24 : callOk Tryz.prog 24 = true := by kernel_rfl
theorem co25 : callOk Tryz.prog 25 = true := by kernel_rfl
theorem co26 : callOk Tryz.prog 26 = true := by kernel_rfl
theorem co27 : callOk Tryz.prog 27 = true := by kernel_rfl
theorem co28 : callOk Tryz.prog 28 = true := by kernel_rfl
theorem co29 : callOk Tryz.prog 29 = true := by kernel_rfl
theorem co30 : callOk Tryz.prog 30 = true := by kernel_rfl
theorem co31 : callOk Tryz.prog 31 = true := by kernel_rfl
theorem co32 : callOk Tryz.prog 32 = true := by kernel_rfl
theorem co33 : callOk Tryz.prog 33 = true := by kernel_rfl
theorem co34 : callOk Tryz.prog 34 = true := by kernel_rfl
theorem co35 : callOk Tryz.prog 35 = true := by kernel_rfl
theorem co36 : callOk Tryz.prog 36 = true := by kernel_rfl
theorem co37 : callOk Tryz.prog 37 = true := by kernel_rfl
theorem co38 : callOk Tryz.prog 38 = true := by kernel_rfl
theorem co39 : callOk Tryz.prog 39 = true := by kernel_rfl
theorem co40 : callOk Tryz.prog 40 = true := by kernel_rfl
theorem co41 : callOk Tryz.prog 41 = true := by kernel_rfl
theorem co42 : callOk Tryz.prog 42 = true := by kernel_rfl
theorem co43 : callOk Tryz.prog 43 = true := by kernel_rfl
theorem co44 : callOk Tryz.prog 44 = true := by kernel_rfl
theorem co45 : callOk Tryz.prog 45 = true := by kernel_rfl
theorem co46 : callOk Tryz.prog 46 = true := by kernel_rfl
theorem co47 : callOk Tryz.prog 47 = true := by kernel_rfl
theorem co48 : callOk Tryz.prog 48 = true := by kernel_rfl
theorem co49 : callOk Tryz.prog 49 = true := by kernel_rfl
theorem co50 : callOk Tryz.prog 50 = true := by kernel_rfl
theorem co51 : callOk Tryz.prog 51 = true := by kernel_rfl
theorem co52 : callOk Tryz.prog 52 = true := by kernel_rfl
theorem co53 : callOk Tryz.prog 53 = true := by kernel_rfl
theorem co54 : callOk Tryz.prog 54 = true := by kernel_rfl
theorem co55 : callOk Tryz.prog 55 = true := by kernel_rfl
theorem co56 : callOk Tryz.prog 56 = true := by kernel_rfl
theorem co57 : callOk Tryz.prog 57 = true := by kernel_rfl
theorem co58 : callOk Tryz.prog 58 = true := by kernel_rfl
theorem co59 : callOk Tryz.prog 59 = true := by kernel_rfl
theorem co60 : callOk Tryz.prog 60 = true := by kernel_rfl
theorem co61 : callOk Tryz.prog 61 = true := by kernel_rfl
theorem co62 : callOk Tryz.prog 62 = true := by kernel_rfl
theorem co63 : callOk Tryz.prog 63 = true := by kernel_rfl
theorem co64 : callOk Tryz.prog 64 = true := by kernel_rfl
theorem co65 : callOk Tryz.prog 65 = true := by kernel_rfl
theorem co66 : callOk Tryz.prog 66 = true := by kernel_rfl
theorem co67 : callOk Tryz.prog 67 = true := by kernel_rfl
theorem co68 : callOk Tryz.prog 68 = true := by kernel_rfl
theorem co69 : callOk Tryz.prog 69 = true := by kernel_rfl
theorem co70 : callOk Tryz.prog 70 = true := by kernel_rfl
theorem co71 : callOk Tryz.prog 71 = true := by kernel_rfl
theorem co72 : callOk Tryz.prog 72 = true := by kernel_rfl
theorem co73 : callOk Tryz.prog 73 = true := by kernel_rfl
theorem co74 : callOk Tryz.prog 74 = true := by kernel_rfl
theorem co75 : callOk Tryz.prog 75 = true := by kernel_rfl
theorem co76 : callOk Tryz.prog 76 = true := by kernel_rfl
theorem co77 : callOk Tryz.prog 77 = true := by kernel_rfl
theorem co78 : callOk Tryz.prog 78 = true := by kernel_rfl
theorem co79 : callOk Tryz.prog 79 = true := by kernel_rfl
theorem co80 : callOk Tryz.prog 80 = true := by kernel_rfl
theorem co81 : callOk Tryz.prog 81 = true := by kernel_rfl
theorem co82 : callOk Tryz.prog 82 = true := by kernel_rfl
theorem co83 : callOk Tryz.prog 83 = true := by kernel_rfl
theorem co84 : callOk Tryz.prog 84 = true := by kernel_rfl
theorem co85 : callOk Tryz.prog 85 = true := by kernel_rfl
theorem co86 : callOk Tryz.prog 86 = true := by kernel_rfl
theorem co87 : callOk Tryz.prog 87 = true := by kernel_rfl
theorem co88 : callOk Tryz.prog 88 = true := by kernel_rfl
theorem co89 : callOk Tryz.prog 89 = true := by kernel_rfl
theorem co90 : callOk Tryz.prog 90 = true := by kernel_rfl
theorem co91 : callOk Tryz.prog 91 = true := by kernel_rfl
theorem co92 : callOk Tryz.prog 92 = true := by kernel_rfl
theorem co93 : callOk Tryz.prog 93 = true := by kernel_rfl
theorem co94 : callOk Tryz.prog 94 = true := by kernel_rfl
theorem co95 : callOk Tryz.prog 95 = true := by kernel_rfl
theorem co96 : callOk Tryz.prog 96 = true := by kernel_rfl
theorem co97 : callOk Tryz.prog 97 = true := by kernel_rfl
theorem co98 : callOk Tryz.prog 98 = true := by kernel_rfl
theorem co99 : callOk Tryz.prog 99 = true := by kernel_rfl
theorem co100 : callOk Tryz.prog 100 = true := by kernel_rfl
theorem co101 : callOk Tryz.prog 101 = true := by kernel_rfl
theorem co102 : callOk Tryz.prog 102 = true := by kernel_rfl
theorem co103 : callOk Tryz.prog 103 = true := by kernel_rfl
theorem co104 : callOk Tryz.prog 104 = true := by kernel_rfl
theorem co105 : callOk Tryz.prog 105 = true := by kernel_rfl
theorem co106 : callOk Tryz.prog 106 = true := by kernel_rfl
theorem co107 : callOk Tryz.prog 107 = true := by kernel_rfl
theorem co108 : callOk Tryz.prog 108 = true := by kernel_rfl
theorem co109 : callOk Tryz.prog 109 = true := by kernel_rfl
theorem co110 : callOk Tryz.prog 110 = true := by kernel_rfl
theorem co111 : callOk Tryz.prog 111 = true := by kernel_rfl
theorem co112 : callOk Tryz.prog 112 = true := by kernel_rfl
theorem co113 : callOk Tryz.prog 113 = true := by kernel_rfl
theorem co114 : callOk Tryz.prog 114 = true := by kernel_rfl
theorem co115 : callOk Tryz.prog 115 = true := by kernel_rfl
theorem co116 : callOk Tryz.prog 116 = true := by kernel_rfl
theorem co117 : callOk Tryz.prog 117 = true := by kernel_rfl
theorem co118 : callOk Tryz.prog 118 = true := by kernel_rfl
theorem co119 : callOk Tryz.prog 119 = true := by kernel_rfl
theorem co120 : callOk Tryz.prog 120 = true := by kernel_rfl
theorem co121 : callOk Tryz.prog 121 = true := by kernel_rfl
theorem co122 : callOk Tryz.prog 122 = true := by kernel_rfl
theorem co123 : callOk Tryz.prog 123 = true := by kernel_rfl
theorem co124 : callOk Tryz.prog 124 = true := by kernel_rfl
theorem co125 : callOk Tryz.prog 125 = true := by kernel_rfl
theorem co126 : callOk Tryz.prog 126 = true := by kernel_rfl
theorem co127 : callOk Tryz.prog 127 = true := by kernel_rfl
theorem co128 : callOk Tryz.prog 128 = true := by kernel_rfl
theorem co129 : callOk Tryz.prog 129 = true := by kernel_rfl
theorem co130 : callOk Tryz.prog 130 = true := by kernel_rfl
theorem co131 : callOk Tryz.prog 131 = true := by kernel_rfl
theorem co132 : callOk Tryz.prog 132 = true := by kernel_rfl
theorem co133 : callOk Tryz.prog 133 = true := by kernel_rfl
theorem co134 : callOk Tryz.prog 134 = true := by kernel_rfl
theorem co135 : callOk Tryz.prog 135 = true := by kernel_rfl
theorem co136 : callOk Tryz.prog 136 = true := by kernel_rfl
theorem co137 : callOk Tryz.prog 137 = true := by kernel_rfl
theorem co138 : callOk Tryz.prog 138 = true := by kernel_rfl
theorem co139 : callOk Tryz.prog 139 = true := by kernel_rfl
theorem co140 : callOk Tryz.prog 140 = true := by kernel_rfl
theorem co141 : callOk Tryz.prog 141 = true := by kernel_rfl
theorem co142 : callOk Tryz.prog 142 = true := by kernel_rfl
theorem co143 : callOk Tryz.prog 143 = true := by kernel_rfl
theorem co144 : callOk Tryz.prog 144 = true := by kernel_rfl
theorem co145 : callOk Tryz.prog 145 = true := by kernel_rfl
theorem co146 : callOk Tryz.prog 146 = true := by kernel_rfl
theorem co147 : callOk Tryz.prog 147 = true := by kernel_rfl
theorem co148 : callOk Tryz.prog 148 = true := by kernel_rfl
theorem co149 : callOk Tryz.prog 149 = true := by kernel_rfl
theorem co150 : callOk Tryz.prog 150 = true := by kernel_rfl
theorem co151 : callOk Tryz.prog 151 = true := by kernel_rfl
theorem co152 : callOk Tryz.prog 152 = true := by kernel_rfl
theorem co153 : callOk Tryz.prog 153 = true := by kernel_rfl
theorem co154 : callOk Tryz.prog 154 = true := by kernel_rfl
theorem co155 : callOk Tryz.prog 155 = true := by kernel_rfl
theorem co156 : callOk Tryz.prog 156 = true := by kernel_rfl
theorem co157 : callOk Tryz.prog 157 = true := by kernel_rfl
theorem co158 : callOk Tryz.prog 158 = true := by kernel_rfl
theorem co159 : callOk Tryz.prog 159 = true := by kernel_rfl
theorem co160 : callOk Tryz.prog 160 = true := by kernel_rfl
theorem co161 : callOk Tryz.prog 161 = true := by kernel_rfl
theorem co162 : callOk Tryz.prog 162 = true := by kernel_rfl
theorem co163 : callOk Tryz.prog 163 = true := by kernel_rfl
theorem co164 : callOk Tryz.prog 164 = true := by kernel_rfl
theorem co165 : callOk Tryz.prog 165 = true := by kernel_rfl
theorem co166 : callOk Tryz.prog 166 = true := by kernel_rfl
theorem co167 : callOk Tryz.prog 167 = true := by kernel_rfl
theorem co168 : callOk Tryz.prog 168 = true := by kernel_rfl
theorem co169 : callOk Tryz.prog 169 = true := by kernel_rfl
theorem co170 : callOk Tryz.prog 170 = true := by kernel_rfl
theorem co171 : callOk Tryz.prog 171 = true := by kernel_rfl
theorem co172 : callOk Tryz.prog 172 = true := by kernel_rfl
theorem co173 : callOk Tryz.prog 173 = true := by kernel_rfl
theorem co174 : callOk Tryz.prog 174 = true := by kernel_rfl
theorem co175 : callOk Tryz.prog 175 = true := by kernel_rfl
theorem co176 : callOk Tryz.prog 176 = true := by kernel_rfl
theorem co177 : callOk Tryz.prog 177 = true := by kernel_rfl
theorem co178 : callOk Tryz.prog 178 = true := by kernel_rfl
theorem co179 : callOk Tryz.prog 179 = true := by kernel_rfl
theorem co180 : callOk Tryz.prog 180 = true := by kernel_rfl
theorem co181 : callOk Tryz.prog 181 = true := by kernel_rfl
theorem co182 : callOk Tryz.prog 182 = true := by kernel_rfl
theorem co205 : callOk Tryz.prog 205 = true := by kernel_rfl
attribute [go_sem] it2 it3 it5 st9 by110 it160 it190 it213 bo4 fl64 fl95 fl225 fo25_0 fo25_1 fo30_0 fo30_1 fo30_2 fo30_3 fo30_4 fo34_0 fo34_1 fo47_0 fo47_1 fo47_2 fo48_0 fo48_1 fo48_2 fo56_0 fo56_1 fo56_2 fo56_3 fo58_0 fo58_1 fo58_2 fo58_3 fo58_4 fo58_5 fo58_6 fo58_7 fo58_8 fo58_9 fo58_10 fo58_11 fo58_12 fo58_13 fo60_0 fo60_1 fo60_2 fo60_3 fo62_0 fo62_1 fo62_2 fo62_3 fo62_4 fo62_5 fo62_6 fo62_7 fo62_8 fo62_9 fo64_0 fo64_1 fo89_0 fo89_1 fo89_2 fo89_3 fo89_4 fo91_1 fo91_2 fo95_0 fo95_1 fo122_0 fo122_1 fo122_2 fo122_3 fo122_4 fo122_5 fo125_0 fo125_1 fo144_0 fo144_1 fo144_2 fo144_3 fo148_0 fo148_1 fo148_2 fo164_1 fo164_2 fo164_3 fo207_0 fo207_1 fo207_2 fo207_3 el22 sl22 el23 sl23 el26 sl26 el27 sl27 el28 sl28 el31 sl31 el32 sl32 el38 sl38 el44 sl44 el45 sl45 el53 sl53 el54 sl54 el65 sl65 el71 sl71 el87 sl87 el105 sl105 el110 sl110 el120 sl120 ar129 el136 sl136 el142 sl142 el150 sl150 ar189 ar212 ar214 ar228 ar229 ld3 ld4 ld5 ld9 ld22 ld23 ld25 ld26 ld27 ld28 ld30 ld31 ld32 ld34 ld41 ld47 ld48 ld53 ld54 ld56 ld58 ld60 ld62 ld64 ld65 ld67 ld87 ld89 ld91 ld95 ld120 ld122 ld125 ld129 ld142 ld144 ld148 ld164 ld190 ld207 ld212 ld225 ld228 ld229 ma153 kk3 zv3 pa25 pa30 pa34 pa56 pa58 pa60 pa62 pa64 pa89 pa91 pa95 pa122 pa144 pa148 pa164 pa207 pa212 pa225 pa228 pa229 so3 so4 so5 so27 so53 so54 so65 so87 so142 ze3 ze4 ni25 ze25 ni30 ze30 ni34 ze34 ni47 ze47 ni48 ze48 ni56 ze56 ni58 ze58 ze60 ni62 ze62 ze64 ni65 ze65 ni89 ze89 ze91 ze95 ni122 ze122 ze125 ze129 ni144 ze144 ni148 ze148 ze164 ze189 ze207 ze212 ze214 ze225 ze228 ze229 co2 co3 co4 co5 co6 co7 co8 co9 co10 co11 co12 co13 co14 co15 co16 co17 co18 co19 co20 co21 co22 co23 co24 co25 co26 co27 co28 co29 co30 co31 co32 co33 co34 co35 co36 co37 co38 co39 co40 co41 co42 co43 co44 co45 co46 co47 co48 co49 co50 co51 co52 co53 co54 co55 co56 co57 co58 co59 co60 co61 co62 co63 co64 co65 co66 co67 co68 co69 co70 co71 co72 co73 co74 co75 co76 co77 co78 co79 co80 co81 co82 co83 co84 co85 co86 co87 co88 co89 co90 co91 co92 co93 co94 co95 co96 co97 co98 co99 co100 co101 co102 co103 co104 co105 co106 co107 co108 co109 co110 co111 co112 co113 co114 co115 co116 co117 co118 co119 co120 co121 co122 co123 co124 co125 co126 co127 co128 co129 co130 co131 co132 co133 co134 co135 co136 co137 co138 co139 co140 co141 co142 co143 co144 co145 co146 co147 co148 co149 co150 co151 co152 co153 co154 co155 co156 co157 co158 co159 co160 co161 co162 co163 co164 co165 co166 co167 co168 co169 co170 co171 co172 co173 co174 co175 co176 co177 co178 co179 co180 co181 co182 co205
end Go.Proofs.YtbefdpmjpioijaaGreatDoor.Ty
