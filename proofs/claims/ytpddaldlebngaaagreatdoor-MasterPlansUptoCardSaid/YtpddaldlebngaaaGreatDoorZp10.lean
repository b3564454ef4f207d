/- Texts joined by a program: Types. -/
import Derived.Test.YtpddaldlebngaaaGreatDoorChecked
import Derived.KernelRfl
import Derived.Test.YtpddaldlebngaaaGreatDoorZp09

set_option linter.unusedSimpArgs false
namespace Go.Proofs.YtpddaldlebngaaaGreatDoor.Ty
open Go.Aw Go.Proofs
theorem of_size1 {P:Program} {t:TypeId} (h:(P.info? t).map (·.size)=some 1):∃ i,P.info? t=some i∧i.size=1:=by
  cases hi:P.info? t with
  | none=>simp [hi] at h
  | some i=>exact ⟨i,rfl,by simpa [hi] using h⟩
theorem mixed:Tryz.prog.follows .mixedOrders=true:=by kernel_rfl
theorem it3:intT Tryz.prog 3=some .i64:=by kernel_rfl
theorem it5:intT Tryz.prog 5=some .u8:=by kernel_rfl
theorem st9:isStringT Tryz.prog 9=true:=by kernel_rfl
theorem by165:bytesT Tryz.prog 165=true:=by kernel_rfl
theorem it196:intT Tryz.prog 196=some .u64:=by kernel_rfl
theorem bo4:isBoolT Tryz.prog 4=true:=by kernel_rfl
theorem fl74:flatT Tryz.prog 74=some [0,2]:=by kernel_rfl
theorem fo25_0:fieldOff Tryz.prog 25 0=some (0,none):=by kernel_rfl
theorem fo25_1:fieldOff Tryz.prog 25 1=some (1,none):=by kernel_rfl
theorem fo30_0:fieldOff Tryz.prog 30 0=some (0,some 2):=by kernel_rfl
theorem fo30_1:fieldOff Tryz.prog 30 1=some (2,none):=by kernel_rfl
theorem fo30_2:fieldOff Tryz.prog 30 2=some (3,none):=by kernel_rfl
theorem fo30_3:fieldOff Tryz.prog 30 3=some (4,none):=by kernel_rfl
theorem fo30_4:fieldOff Tryz.prog 30 4=some (5,none):=by kernel_rfl
theorem fo35_0:fieldOff Tryz.prog 35 0=some (0,some 6):=by kernel_rfl
theorem fo35_1:fieldOff Tryz.prog 35 1=some (6,none):=by kernel_rfl
theorem fo35_2:fieldOff Tryz.prog 35 2=some (7,none):=by kernel_rfl
theorem fo35_3:fieldOff Tryz.prog 35 3=some (8,none):=by kernel_rfl
theorem fo43_0:fieldOff Tryz.prog 43 0=some (0,none):=by kernel_rfl
theorem fo43_1:fieldOff Tryz.prog 43 1=some (1,none):=by kernel_rfl
theorem fo55_0:fieldOff Tryz.prog 55 0=some (0,none):=by kernel_rfl
theorem fo55_3:fieldOff Tryz.prog 55 3=some (3,none):=by kernel_rfl
theorem fo57_0:fieldOff Tryz.prog 57 0=some (0,none):=by kernel_rfl
theorem fo57_1:fieldOff Tryz.prog 57 1=some (1,none):=by kernel_rfl
theorem fo57_2:fieldOff Tryz.prog 57 2=some (2,none):=by kernel_rfl
theorem fo57_3:fieldOff Tryz.prog 57 3=some (3,some 4):=by kernel_rfl
theorem fo62_0:fieldOff Tryz.prog 62 0=some (0,none):=by kernel_rfl
theorem fo62_1:fieldOff Tryz.prog 62 1=some (1,none):=by kernel_rfl
theorem fo68_0:fieldOff Tryz.prog 68 0=some (0,none):=by kernel_rfl
theorem fo68_1:fieldOff Tryz.prog 68 1=some (1,none):=by kernel_rfl
theorem fo68_2:fieldOff Tryz.prog 68 2=some (2,none):=by kernel_rfl
theorem fo82_0:fieldOff Tryz.prog 82 0=some (0,none):=by kernel_rfl
theorem fo82_1:fieldOff Tryz.prog 82 1=some (1,none):=by kernel_rfl
theorem fo82_2:fieldOff Tryz.prog 82 2=some (2,none):=by kernel_rfl
theorem fo82_3:fieldOff Tryz.prog 82 3=some (3,none):=by kernel_rfl
theorem fo84_0:fieldOff Tryz.prog 84 0=some (0,none):=by kernel_rfl
theorem fo84_1:fieldOff Tryz.prog 84 1=some (1,none):=by kernel_rfl
theorem fo84_2:fieldOff Tryz.prog 84 2=some (2,some 4):=by kernel_rfl
theorem fo84_3:fieldOff Tryz.prog 84 3=some (6,some 4):=by kernel_rfl
theorem fo84_4:fieldOff Tryz.prog 84 4=some (10,none):=by kernel_rfl
theorem fo84_5:fieldOff Tryz.prog 84 5=some (11,none):=by kernel_rfl
theorem fo84_6:fieldOff Tryz.prog 84 6=some (12,none):=by kernel_rfl
theorem fo84_7:fieldOff Tryz.prog 84 7=some (13,none):=by kernel_rfl
theorem fo84_8:fieldOff Tryz.prog 84 8=some (14,none):=by kernel_rfl
theorem fo84_9:fieldOff Tryz.prog 84 9=some (15,none):=by kernel_rfl
theorem fo86_0:fieldOff Tryz.prog 86 0=some (0,none):=by kernel_rfl
theorem fo86_1:fieldOff Tryz.prog 86 1=some (1,none):=by kernel_rfl
theorem fo86_2:fieldOff Tryz.prog 86 2=some (2,none):=by kernel_rfl
theorem fo86_3:fieldOff Tryz.prog 86 3=some (3,none):=by kernel_rfl
theorem fo86_4:fieldOff Tryz.prog 86 4=some (4,none):=by kernel_rfl
theorem fo86_5:fieldOff Tryz.prog 86 5=some (5,none):=by kernel_rfl
theorem fo86_6:fieldOff Tryz.prog 86 6=some (6,none):=by kernel_rfl
theorem fo86_7:fieldOff Tryz.prog 86 7=some (7,none):=by kernel_rfl
theorem fo86_8:fieldOff Tryz.prog 86 8=some (8,none):=by kernel_rfl
theorem fo86_9:fieldOff Tryz.prog 86 9=some (9,none):=by kernel_rfl
theorem fo86_10:fieldOff Tryz.prog 86 10=some (10,none):=by kernel_rfl
theorem fo86_11:fieldOff Tryz.prog 86 11=some (11,none):=by kernel_rfl
theorem fo86_12:fieldOff Tryz.prog 86 12=some (12,none):=by kernel_rfl
theorem fo86_13:fieldOff Tryz.prog 86 13=some (13,none):=by kernel_rfl
theorem fo95_0:fieldOff Tryz.prog 95 0=some (0,none):=by kernel_rfl
theorem fo95_1:fieldOff Tryz.prog 95 1=some (1,none):=by kernel_rfl
theorem fo95_2:fieldOff Tryz.prog 95 2=some (2,none):=by kernel_rfl
theorem fo95_3:fieldOff Tryz.prog 95 3=some (3,none):=by kernel_rfl
theorem fo110_0:fieldOff Tryz.prog 110 0=some (0,none):=by kernel_rfl
theorem fo110_1:fieldOff Tryz.prog 110 1=some (1,none):=by kernel_rfl
theorem fo110_2:fieldOff Tryz.prog 110 2=some (2,none):=by kernel_rfl
theorem fo110_3:fieldOff Tryz.prog 110 3=some (3,none):=by kernel_rfl
theorem fo116_0:fieldOff Tryz.prog 116 0=some (0,none):=by kernel_rfl
theorem fo116_1:fieldOff Tryz.prog 116 1=some (1,none):=by kernel_rfl
theorem fo126_0:fieldOff Tryz.prog 126 0=some (0,none):=by kernel_rfl
theorem fo126_1:fieldOff Tryz.prog 126 1=some (1,none):=by kernel_rfl
theorem fo126_2:fieldOff Tryz.prog 126 2=some (2,none):=by kernel_rfl
theorem fo158_0:fieldOff Tryz.prog 158 0=some (0,none):=by kernel_rfl
theorem fo158_1:fieldOff Tryz.prog 158 1=some (1,none):=by kernel_rfl
theorem fo158_2:fieldOff Tryz.prog 158 2=some (2,none):=by kernel_rfl
theorem fo158_3:fieldOff Tryz.prog 158 3=some (3,none):=by kernel_rfl
theorem fo158_4:fieldOff Tryz.prog 158 4=some (4,none):=by kernel_rfl
theorem fo158_5:fieldOff Tryz.prog 158 5=some (5,none):=by kernel_rfl
theorem fo161_0:fieldOff Tryz.prog 161 0=some (0,none):=by kernel_rfl
theorem fo161_1:fieldOff Tryz.prog 161 1=some (1,none):=by kernel_rfl
theorem fo183_0:fieldOff Tryz.prog 183 0=some (0,none):=by kernel_rfl
theorem fo183_1:fieldOff Tryz.prog 183 1=some (1,none):=by kernel_rfl
theorem el22:elemT Tryz.prog 22=some (9,1,16):=by kernel_rfl
theorem sl22:isSliceT Tryz.prog 22=true:=by kernel_rfl
theorem el23:elemT Tryz.prog 23=some (158,6,80):=by kernel_rfl
theorem sl23:isSliceT Tryz.prog 23=true:=by kernel_rfl
theorem el26:elemT Tryz.prog 26=some (86,14,136):=by kernel_rfl
theorem sl26:isSliceT Tryz.prog 26=true:=by kernel_rfl
theorem el27:elemT Tryz.prog 27=some (84,16,152):=by kernel_rfl
theorem sl27:isSliceT Tryz.prog 27=true:=by kernel_rfl
theorem el28:elemT Tryz.prog 28=some (167,2,16):=by kernel_rfl
theorem sl28:isSliceT Tryz.prog 28=true:=by kernel_rfl
theorem el31:elemT Tryz.prog 31=some (57,7,88):=by kernel_rfl
theorem sl31:isSliceT Tryz.prog 31=true:=by kernel_rfl
theorem el32:elemT Tryz.prog 32=some (126,3,24):=by kernel_rfl
theorem sl32:isSliceT Tryz.prog 32=true:=by kernel_rfl
theorem el33:elemT Tryz.prog 33=some (110,4,32):=by kernel_rfl
theorem sl33:isSliceT Tryz.prog 33=true:=by kernel_rfl
theorem el36:elemT Tryz.prog 36=some (58,1,16):=by kernel_rfl
theorem sl36:isSliceT Tryz.prog 36=true:=by kernel_rfl
theorem el40:elemT Tryz.prog 40=some (55,4,64):=by kernel_rfl
theorem sl40:isSliceT Tryz.prog 40=true:=by kernel_rfl
theorem el41:elemT Tryz.prog 41=some (3,1,8):=by kernel_rfl
theorem sl41:isSliceT Tryz.prog 41=true:=by kernel_rfl
theorem el50:elemT Tryz.prog 50=some (116,2,24):=by kernel_rfl
theorem sl50:isSliceT Tryz.prog 50=true:=by kernel_rfl
theorem el53:elemT Tryz.prog 53=some (74,2,16):=by kernel_rfl
theorem sl53:isSliceT Tryz.prog 53=true:=by kernel_rfl
theorem st58:isStringT Tryz.prog 58=true:=by kernel_rfl
theorem el60:elemT Tryz.prog 60=some (68,3,40):=by kernel_rfl
theorem sl60:isSliceT Tryz.prog 60=true:=by kernel_rfl
theorem el119:elemT Tryz.prog 119=some (44,1,8):=by kernel_rfl
theorem sl119:isSliceT Tryz.prog 119=true:=by kernel_rfl
theorem ar135:arrT Tryz.prog 135=some (4,1,none):=by kernel_rfl
theorem ar152:arrT Tryz.prog 152=some (4,1,none):=by kernel_rfl
theorem el156:elemT Tryz.prog 156=some (161,2,16):=by kernel_rfl
theorem sl156:isSliceT Tryz.prog 156=true:=by kernel_rfl
theorem el165:elemT Tryz.prog 165=some (5,1,1):=by kernel_rfl
theorem sl165:isSliceT Tryz.prog 165=true:=by kernel_rfl
theorem ar167:arrT Tryz.prog 167=some (2,1,none):=by kernel_rfl
theorem ar176:arrT Tryz.prog 176=some (2,1,none):=by kernel_rfl
theorem el178:elemT Tryz.prog 178=some (183,2,24):=by kernel_rfl
theorem sl178:isSliceT Tryz.prog 178=true:=by kernel_rfl
theorem el188:elemT Tryz.prog 188=some (3,1,8):=by kernel_rfl
theorem sl188:isSliceT Tryz.prog 188=true:=by kernel_rfl
theorem el205:elemT Tryz.prog 205=some (176,2,32):=by kernel_rfl
theorem sl205:isSliceT Tryz.prog 205=true:=by kernel_rfl
theorem el241:elemT Tryz.prog 241=some (41,1,24):=by kernel_rfl
theorem sl241:isSliceT Tryz.prog 241=true:=by kernel_rfl
theorem ar247:arrT Tryz.prog 247=some (24,1,none):=by kernel_rfl
theorem ar262:arrT Tryz.prog 262=some (20,1,none):=by kernel_rfl
theorem ar263:arrT Tryz.prog 263=some (65,1,none):=by kernel_rfl
theorem ar272:arrT Tryz.prog 272=some (32,1,none):=by kernel_rfl
theorem ar273:arrT Tryz.prog 273=some (64,1,none):=by kernel_rfl
theorem ld3:ldT Tryz.prog 3=some none:=by kernel_rfl
theorem ld4:ldT Tryz.prog 4=some none:=by kernel_rfl
theorem ld9:ldT Tryz.prog 9=some none:=by kernel_rfl
theorem ld22:ldT Tryz.prog 22=some none:=by kernel_rfl
theorem ld23:ldT Tryz.prog 23=some none:=by kernel_rfl
theorem ld25:ldT Tryz.prog 25=some (some 2):=by kernel_rfl
theorem ld26:ldT Tryz.prog 26=some none:=by kernel_rfl
theorem ld27:ldT Tryz.prog 27=some none:=by kernel_rfl
theorem ld28:ldT Tryz.prog 28=some none:=by kernel_rfl
theorem ld30:ldT Tryz.prog 30=some (some 6):=by kernel_rfl
theorem ld31:ldT Tryz.prog 31=some none:=by kernel_rfl
theorem ld32:ldT Tryz.prog 32=some none:=by kernel_rfl
theorem ld33:ldT Tryz.prog 33=some none:=by kernel_rfl
theorem ld35:ldT Tryz.prog 35=some (some 9):=by kernel_rfl
theorem ld40:ldT Tryz.prog 40=some none:=by kernel_rfl
theorem ld41:ldT Tryz.prog 41=some none:=by kernel_rfl
theorem ld43:ldT Tryz.prog 43=some (some 2):=by kernel_rfl
theorem ld44:ldT Tryz.prog 44=some none:=by kernel_rfl
theorem ld53:ldT Tryz.prog 53=some none:=by kernel_rfl
theorem ld55:ldT Tryz.prog 55=some (some 4):=by kernel_rfl
theorem ld57:ldT Tryz.prog 57=some (some 7):=by kernel_rfl
theorem ld58:ldT Tryz.prog 58=some none:=by kernel_rfl
theorem ld60:ldT Tryz.prog 60=some none:=by kernel_rfl
theorem ld62:ldT Tryz.prog 62=some (some 2):=by kernel_rfl
theorem ld68:ldT Tryz.prog 68=some (some 3):=by kernel_rfl
theorem ld74:ldT Tryz.prog 74=some (some 2):=by kernel_rfl
theorem ld82:ldT Tryz.prog 82=some (some 4):=by kernel_rfl
theorem ld84:ldT Tryz.prog 84=some (some 16):=by kernel_rfl
theorem ld86:ldT Tryz.prog 86=some (some 14):=by kernel_rfl
theorem ld95:ldT Tryz.prog 95=some (some 4):=by kernel_rfl
theorem ld110:ldT Tryz.prog 110=some (some 4):=by kernel_rfl
theorem ld126:ldT Tryz.prog 126=some (some 3):=by kernel_rfl
theorem ld135:ldT Tryz.prog 135=some (some 4):=by kernel_rfl
theorem ld152:ldT Tryz.prog 152=some (some 4):=by kernel_rfl
theorem ld156:ldT Tryz.prog 156=some none:=by kernel_rfl
theorem ld158:ldT Tryz.prog 158=some (some 6):=by kernel_rfl
theorem ld161:ldT Tryz.prog 161=some (some 2):=by kernel_rfl
theorem ld176:ldT Tryz.prog 176=some (some 2):=by kernel_rfl
theorem ld183:ldT Tryz.prog 183=some (some 2):=by kernel_rfl
theorem ld226:ldT Tryz.prog 226=some none:=by kernel_rfl
theorem ma108:mapT Tryz.prog 108=some (3,3):=by kernel_rfl
theorem kk3:kindT Tryz.prog 3=some 0:=by kernel_rfl
theorem zv3:zeroE Tryz.prog 3=some (.v (.int .i64 0)):=by kernel_rfl
theorem pa25:partsT Tryz.prog 25=some [(0,1),(1,1)]:=by kernel_rfl
theorem pa30:partsT Tryz.prog 30=some [(0,2),(2,1),(3,1),(4,1),(5,1)]:=by kernel_rfl
theorem pa35:partsT Tryz.prog 35=some [(0,6),(6,1),(7,1),(8,1)]:=by kernel_rfl
theorem pa43:partsT Tryz.prog 43=some [(0,1),(1,1)]:=by kernel_rfl
theorem pa55:partsT Tryz.prog 55=some [(0,1),(1,1),(2,1),(3,1)]:=by kernel_rfl
theorem pa57:partsT Tryz.prog 57=some [(0,1),(1,1),(2,1),(3,4)]:=by kernel_rfl
theorem pa62:partsT Tryz.prog 62=some [(0,1),(1,1)]:=by kernel_rfl
theorem pa68:partsT Tryz.prog 68=some [(0,1),(1,1),(2,1)]:=by kernel_rfl
theorem pa74:partsT Tryz.prog 74=some [(0,1),(1,1)]:=by kernel_rfl
theorem pa82:partsT Tryz.prog 82=some [(0,1),(1,1),(2,1),(3,1)]:=by kernel_rfl
theorem pa84:partsT Tryz.prog 84=some [(0,1),(1,1),(2,4),(6,4),(10,1),(11,1),(12,1),(13,1),(14,1),(15,1)]:=by kernel_rfl
theorem pa86:partsT Tryz.prog 86=some [(0,1),(1,1),(2,1),(3,1),(4,1),(5,1),(6,1),(7,1),(8,1),(9,1),(10,1),(11,1),(12,1),(13,1)]:=by kernel_rfl
theorem pa95:partsT Tryz.prog 95=some [(0,1),(1,1),(2,1),(3,1)]:=by kernel_rfl
theorem pa116:partsT Tryz.prog 116=some [(0,1),(1,1)]:=by kernel_rfl
theorem pa135:partsT Tryz.prog 135=some [(0,1),(1,1),(2,1),(3,1)]:=by kernel_rfl
theorem pa152:partsT Tryz.prog 152=some [(0,1),(1,1),(2,1),(3,1)]:=by kernel_rfl
theorem pa176:partsT Tryz.prog 176=some [(0,1),(1,1)]:=by kernel_rfl
theorem pa183:partsT Tryz.prog 183=some [(0,1),(1,1)]:=by kernel_rfl
theorem so3:∃ i,Tryz.prog.info? 3=some i∧i.size=1:=of_size1 (by kernel_rfl)
theorem so40:∃ i,Tryz.prog.info? 40=some i∧i.size=1:=of_size1 (by kernel_rfl)
theorem so41:∃ i,Tryz.prog.info? 41=some i∧i.size=1:=of_size1 (by kernel_rfl)
theorem so60:∃ i,Tryz.prog.info? 60=some i∧i.size=1:=of_size1 (by kernel_rfl)
theorem ze3:zeroT Tryz.prog 3=some [.v (.int .i64 0)]:=by kernel_rfl
theorem ze9:zeroT Tryz.prog 9=some [.v (.string ByteArray.empty)]:=by kernel_rfl
theorem ze25:zeroT Tryz.prog 25=some [.sl [],.sl []]:=by kernel_rfl
theorem ze30:zeroT Tryz.prog 30=some [.sl [],.sl [],.sl [],.sl [],.sl [],.sl []]:=by kernel_rfl
theorem ze35:zeroT Tryz.prog 35=some [.sl [],.sl [],.sl [],.sl [],.sl [],.sl [],.sl [],.sl [],.sl []]:=by kernel_rfl
theorem ni43:nilsT Tryz.prog 43=some [(0,55,4),(1,3,1)]:=by kernel_rfl
theorem ze43:zeroT Tryz.prog 43=some [.sl [],.sl []]:=by kernel_rfl
theorem ze55:zeroT Tryz.prog 55=some [.v (.int .i64 0),.v (.int .i64 0),.sl [],.sl []]:=by kernel_rfl
theorem ze57:zeroT Tryz.prog 57=some [.v (.int .i64 0),.v (.int .i64 0),.v (.int .i64 0),.v (.int .i64 0),.v (.int .i64 0),.sl [],.sl []]:=by kernel_rfl
theorem ni62:nilsT Tryz.prog 62=some [(0,3,1),(1,68,3)]:=by kernel_rfl
theorem ze62:zeroT Tryz.prog 62=some [.sl [],.sl []]:=by kernel_rfl
theorem ni68:nilsT Tryz.prog 68=some [(0,3,1)]:=by kernel_rfl
theorem ze68:zeroT Tryz.prog 68=some [.sl [],.v (.int .i64 0),.v (.int .i64 0)]:=by kernel_rfl
theorem ze74:zeroT Tryz.prog 74=some [.v (.int .i64 0),.v (.bool false)]:=by kernel_rfl
theorem ze82:zeroT Tryz.prog 82=some [.v (.int .i64 0),.v (.int .i64 0),.v (.int .i64 0),.v (.int .i64 0)]:=by kernel_rfl
theorem ze84:zeroT Tryz.prog 84=some [.v (.string ByteArray.empty),.sl [],.v (.int .i64 0),.v (.int .i64 0),.v (.int .i64 0),.v (.int .i64 0),.v (.int .i64 0),.v (.int .i64 0),.v (.int .i64 0),.v (.int .i64 0),.v (.int .i64 0),.v (.int .i64 0),.v (.int .i64 0),.v (.int .i64 0),.v (.int .i64 0),.v (.bool false)]:=by kernel_rfl
theorem ze86:zeroT Tryz.prog 86=some [.v (.string ByteArray.empty),.v (.int .i64 0),.v (.int .i64 0),.v (.int .i64 0),.sl [],.v (.int .i64 0),.v (.int .i64 0),.v (.int .i64 0),.v (.int .i64 0),.v (.int .i64 0),.v (.int .i64 0),.v (.int .i64 0),.v (.int .i64 0),.v (.int .i64 0)]:=by kernel_rfl
theorem ze95:zeroT Tryz.prog 95=some [.v (.int .i64 0),.v (.int .i64 0),.v (.int .i64 0),.v (.int .i64 0)]:=by kernel_rfl
theorem ze110:zeroT Tryz.prog 110=some [.v (.int .i64 0),.v (.int .i64 0),.v (.int .i64 0),.v (.int .i64 0)]:=by kernel_rfl
theorem ze116:zeroT Tryz.prog 116=some [.v (.int .i64 0),.v (.string ByteArray.empty)]:=by kernel_rfl
theorem ze126:zeroT Tryz.prog 126=some [.v (.int .i64 0),.v (.int .i64 0),.v (.int .i64 0)]:=by kernel_rfl
theorem ze135:zeroT Tryz.prog 135=some [.v (.int .i64 0),.v (.int .i64 0),.v (.int .i64 0),.v (.int .i64 0)]:=by kernel_rfl
theorem ze152:zeroT Tryz.prog 152=some [.v (.string ByteArray.empty),.v (.string ByteArray.empty),.v (.string ByteArray.empty),.v (.string ByteArray.empty)]:=by kernel_rfl
theorem ze158:zeroT Tryz.prog 158=some [.v (.int .i64 0),.v (.int .i64 0),.v (.int .i64 0),.v (.int .i64 0),.sl [],.sl []]:=by kernel_rfl
theorem ze161:zeroT Tryz.prog 161=some [.v (.int .i64 0),.v (.int .i64 0)]:=by kernel_rfl
theorem ze176:zeroT Tryz.prog 176=some [.v (.string ByteArray.empty),.v (.string ByteArray.empty)]:=by kernel_rfl
theorem ze183:zeroT Tryz.prog 183=some [.v (.bool false),.v (.string ByteArray.empty)]:=by kernel_rfl
theorem co2:callOk Tryz.prog 2=true:=by kernel_rfl
theorem co3:callOk Tryz.prog 3=true:=by kernel_rfl
theorem co4:callOk Tryz.prog 4=true:=by kernel_rfl
theorem co5:callOk Tryz.prog 5=true:=by kernel_rfl
theorem co6:callOk Tryz.prog 6=true:=by kernel_rfl
theorem co7:callOk Tryz.prog 7=true:=by kernel_rfl
theorem co8:callOk Tryz.prog 8=true:=by kernel_rfl
theorem co9:callOk Tryz.prog 9=true:=by kernel_rfl
theorem co10:callOk Tryz.prog 10=true:=by kernel_rfl
theorem co11:callOk Tryz.prog 11=true:=by kernel_rfl
theorem co12:callOk Tryz.prog 12=true:=by kernel_rfl
theorem co13:callOk Tryz.prog 13=true:=by kernel_rfl
theorem co14:callOk Tryz.prog 14=true:=by kernel_rfl
theorem co15:callOk Tryz.prog 15=true:=by kernel_rfl
theorem co16:callOk Tryz.prog 16=true:=by kernel_rfl
theorem co17:callOk Tryz.prog 17=true:=by kernel_rfl
theorem co18:callOk Tryz.prog 18=true:=by kernel_rfl
theorem co19:callOk Tryz.prog 19=true:=by kernel_rfl
theorem co20:callOk Tryz.prog 20=true:=by kernel_rfl
theorem co21:callOk Tryz.prog 21=true:=by kernel_rfl
theorem co22:callOk Tryz.prog 22=true:=by kernel_rfl
theorem co23:callOk Tryz.prog 23=true:=by kernel_rfl
theorem co24:callOk Tryz.prog 24=true:=by kernel_rfl
theorem co25:callOk Tryz.prog 25=true:=by kernel_rfl
theorem co26:callOk Tryz.prog 26=true:=by kernel_rfl
theorem co27:callOk Tryz.prog 27=true:=by kernel_rfl
theorem co28:callOk Tryz.prog 28=true:=by kernel_rfl
theorem co29:callOk Tryz.prog 29=true:=by kernel_rfl
theorem co30:callOk Tryz.prog 30=true:=by kernel_rfl
theorem co31:callOk Tryz.prog 31=true:=by kernel_rfl
theorem co32:callOk Tryz.prog 32=true:=by kernel_rfl
theorem co33:callOk Tryz.prog 33=true:=by kernel_rfl
theorem co34:callOk Tryz.prog 34=true:=by kernel_rfl
theorem co35:callOk Tryz.prog 35=true:=by kernel_rfl
theorem co36:callOk Tryz.prog 36=true:=by kernel_rfl
theorem co37:callOk Tryz.prog 37=true:=by kernel_rfl
theorem co38:callOk Tryz.prog 38=true:=by kernel_rfl
theorem co39:callOk Tryz.prog 39=true:=by kernel_rfl
theorem co40:callOk Tryz.prog 40=true:=by kernel_rfl
theorem co41:callOk Tryz.prog 41=true:=by kernel_rfl
theorem co42:callOk Tryz.prog 42=true:=by kernel_rfl
theorem co43:callOk Tryz.prog 43=true:=by kernel_rfl
theorem co44:callOk Tryz.prog 44=true:=by kernel_rfl
theorem co45:callOk Tryz.prog 45=true:=by kernel_rfl
theorem co46:callOk Tryz.prog 46=true:=by kernel_rfl
theorem co47:callOk Tryz.prog 47=true:=by kernel_rfl
theorem co48:callOk Tryz.prog 48=true:=by kernel_rfl
theorem co49:callOk Tryz.prog 49=true:=by kernel_rfl
theorem co50:callOk Tryz.prog 50=true:=by kernel_rfl
theorem co51:callOk Tryz.prog 51=true:=by kernel_rfl
theorem co52:callOk Tryz.prog 52=true:=by kernel_rfl
theorem co53:callOk Tryz.prog 53=true:=by kernel_rfl
theorem co54:callOk Tryz.prog 54=true:=by kernel_rfl
theorem co55:callOk Tryz.prog 55=true:=by kernel_rfl
theorem co56:callOk Tryz.prog 56=true:=by kernel_rfl
theorem co57:callOk Tryz.prog 57=true:=by kernel_rfl
theorem co58:callOk Tryz.prog 58=true:=by kernel_rfl
theorem co59:callOk Tryz.prog 59=true:=by kernel_rfl
theorem co60:callOk Tryz.prog 60=true:=by kernel_rfl
theorem co61:callOk Tryz.prog 61=true:=by kernel_rfl
theorem co62:callOk Tryz.prog 62=true:=by kernel_rfl
theorem co63:callOk Tryz.prog 63=true:=by kernel_rfl
theorem co64:callOk Tryz.prog 64=true:=by kernel_rfl
theorem co65:callOk Tryz.prog 65=true:=by kernel_rfl
theorem co66:callOk Tryz.prog 66=true:=by kernel_rfl
theorem co67:callOk Tryz.prog 67=true:=by kernel_rfl
theorem co68:callOk Tryz.prog 68=true:=by kernel_rfl
theorem co69:callOk Tryz.prog 69=true:=by kernel_rfl
theorem co70:callOk Tryz.prog 70=true:=by kernel_rfl
theorem co71:callOk Tryz.prog 71=true:=by kernel_rfl
theorem co72:callOk Tryz.prog 72=true:=by kernel_rfl
theorem co73:callOk Tryz.prog 73=true:=by kernel_rfl
theorem co74:callOk Tryz.prog 74=true:=by kernel_rfl
theorem co75:callOk Tryz.prog 75=true:=by kernel_rfl
theorem co76:callOk Tryz.prog 76=true:=by kernel_rfl
theorem co77:callOk Tryz.prog 77=true:=by kernel_rfl
theorem co78:callOk Tryz.prog 78=true:=by kernel_rfl
theorem co79:callOk Tryz.prog 79=true:=by kernel_rfl
theorem co80:callOk Tryz.prog 80=true:=by kernel_rfl
theorem co81:callOk Tryz.prog 81=true:=by kernel_rfl
theorem co82:callOk Tryz.prog 82=true:=by kernel_rfl
theorem co83:callOk Tryz.prog 83=true:=by kernel_rfl
theorem co84:callOk Tryz.prog 84=true:=by kernel_rfl
theorem co85:callOk Tryz.prog 85=true:=by kernel_rfl
theorem co86:callOk Tryz.prog 86=true:=by kernel_rfl
theorem co87:callOk Tryz.prog 87=true:=by kernel_rfl
theorem co88:callOk Tryz.prog 88=true:=by kernel_rfl
theorem co89:callOk Tryz.prog 89=true:=by kernel_rfl
theorem co90:callOk Tryz.prog 90=true:=by kernel_rfl
theorem co91:callOk Tryz.prog 91=true:=by kernel_rfl
theorem co92:callOk Tryz.prog 92=true:=by kernel_rfl
theorem co93:callOk Tryz.prog 93=true:=by kernel_rfl
theorem co94:callOk Tryz.prog 94=true:=by kernel_rfl
theorem co95:callOk Tryz.prog 95=true:=by kernel_rfl
theorem co96:callOk Tryz.prog 96=true:=by kernel_rfl
theorem co97:callOk Tryz.prog 97=true:=by kernel_rfl
theorem co98:callOk Tryz.prog 98=true:=by kernel_rfl
theorem co99:callOk Tryz.prog 99=true:=by kernel_rfl
theorem co100:callOk Tryz.prog 100=true:=by kernel_rfl
theorem co101:callOk Tryz.prog 101=true:=by kernel_rfl
theorem co102:callOk Tryz.prog 102=true:=by kernel_rfl
theorem co103:callOk Tryz.prog 103=true:=by kernel_rfl
theorem co104:callOk Tryz.prog 104=true:=by kernel_rfl
theorem co105:callOk Tryz.prog 105=true:=by kernel_rfl
theorem co106:callOk Tryz.prog 106=true:=by kernel_rfl
theorem co107:callOk Tryz.prog 107=true:=by kernel_rfl
theorem co108:callOk Tryz.prog 108=true:=by kernel_rfl
theorem co109:callOk Tryz.prog 109=true:=by kernel_rfl
theorem co110:callOk Tryz.prog 110=true:=by kernel_rfl
theorem co111:callOk Tryz.prog 111=true:=by kernel_rfl
theorem co112:callOk Tryz.prog 112=true:=by kernel_rfl
theorem co113:callOk Tryz.prog 113=true:=by kernel_rfl
theorem co114:callOk Tryz.prog 114=true:=by kernel_rfl
theorem co115:callOk Tryz.prog 115=true:=by kernel_rfl
theorem co116:callOk Tryz.prog 116=true:=by kernel_rfl
theorem co117:callOk Tryz.prog 117=true:=by kernel_rfl
theorem co118:callOk Tryz.prog 118=true:=by kernel_rfl
theorem co119:callOk Tryz.prog 119=true:=by kernel_rfl
theorem co120:callOk Tryz.prog 120=true:=by kernel_rfl
theorem co121:callOk Tryz.prog 121=true:=by kernel_rfl
theorem co122:callOk Tryz.prog 122=true:=by kernel_rfl
theorem co123:callOk Tryz.prog 123=true:=by kernel_rfl
theorem co124:callOk Tryz.prog 124=true:=by kernel_rfl
theorem co125:callOk Tryz.prog 125=true:=by kernel_rfl
theorem co126:callOk Tryz.prog 126=true:=by kernel_rfl
theorem co127:callOk Tryz.prog 127=true:=by kernel_rfl
theorem co128:callOk Tryz.prog 128=true:=by kernel_rfl
theorem co129:callOk Tryz.prog 129=true:=by kernel_rfl
theorem co130:callOk Tryz.prog 130=true:=by kernel_rfl
theorem co131:callOk Tryz.prog 131=true:=by kernel_rfl
theorem co132:callOk Tryz.prog 132=true:=by kernel_rfl
theorem co133:callOk Tryz.prog 133=true:=by kernel_rfl
theorem co134:callOk Tryz.prog 134=true:=by kernel_rfl
theorem co135:callOk Tryz.prog 135=true:=by kernel_rfl
theorem co136:callOk Tryz.prog 136=true:=by kernel_rfl
theorem co137:callOk Tryz.prog 137=true:=by kernel_rfl
theorem co138:callOk Tryz.prog 138=true:=by kernel_rfl
theorem co139:callOk Tryz.prog 139=true:=by kernel_rfl
theorem co140:callOk Tryz.prog 140=true:=by kernel_rfl
theorem co141:callOk Tryz.prog 141=true:=by kernel_rfl
theorem co142:callOk Tryz.prog 142=true:=by kernel_rfl
theorem co143:callOk Tryz.prog 143=true:=by kernel_rfl
theorem co144:callOk Tryz.prog 144=true:=by kernel_rfl
theorem co145:callOk Tryz.prog 145=true:=by kernel_rfl
theorem co146:callOk Tryz.prog 146=true:=by kernel_rfl
theorem co147:callOk Tryz.prog 147=true:=by kernel_rfl
theorem co148:callOk Tryz.prog 148=true:=by kernel_rfl
theorem co149:callOk Tryz.prog 149=true:=by kernel_rfl
theorem co150:callOk Tryz.prog 150=true:=by kernel_rfl
theorem co151:callOk Tryz.prog 151=true:=by kernel_rfl
theorem co152:callOk Tryz.prog 152=true:=by kernel_rfl
theorem co153:callOk Tryz.prog 153=true:=by kernel_rfl
theorem co154:callOk Tryz.prog 154=true:=by kernel_rfl
theorem co155:callOk Tryz.prog 155=true:=by kernel_rfl
theorem co156:callOk Tryz.prog 156=true:=by kernel_rfl
theorem co157:callOk Tryz.prog 157=true:=by kernel_rfl
theorem co158:callOk Tryz.prog 158=true:=by kernel_rfl
theorem co159:callOk Tryz.prog 159=true:=by kernel_rfl
theorem co160:callOk Tryz.prog 160=true:=by kernel_rfl
theorem co161:callOk Tryz.prog 161=true:=by kernel_rfl
theorem co162:callOk Tryz.prog 162=true:=by kernel_rfl
theorem co163:callOk Tryz.prog 163=true:=by kernel_rfl
theorem co164:callOk Tryz.prog 164=true:=by kernel_rfl
theorem co165:callOk Tryz.prog 165=true:=by kernel_rfl
theorem co166:callOk Tryz.prog 166=true:=by kernel_rfl
theorem co167:callOk Tryz.prog 167=true:=by kernel_rfl
theorem co168:callOk Tryz.prog 168=true:=by kernel_rfl
theorem co169:callOk Tryz.prog 169=true:=by kernel_rfl
theorem co170:callOk Tryz.prog 170=true:=by kernel_rfl
theorem co171:callOk Tryz.prog 171=true:=by kernel_rfl
theorem co172:callOk Tryz.prog 172=true:=by kernel_rfl
theorem co173:callOk Tryz.prog 173=true:=by kernel_rfl
theorem co174:callOk Tryz.prog 174=true:=by kernel_rfl
theorem co175:callOk Tryz.prog 175=true:=by kernel_rfl
theorem co176:callOk Tryz.prog 176=true:=by kernel_rfl
theorem co177:callOk Tryz.prog 177=true:=by kernel_rfl
theorem co178:callOk Tryz.prog 178=true:=by kernel_rfl
theorem co179:callOk Tryz.prog 179=true:=by kernel_rfl
theorem co180:callOk Tryz.prog 180=true:=by kernel_rfl
theorem co181:callOk Tryz.prog 181=true:=by kernel_rfl
theorem co182:callOk Tryz.prog 182=true:=by kernel_rfl
theorem co183:callOk Tryz.prog 183=true:=by kernel_rfl
theorem co184:callOk Tryz.prog 184=true:=by kernel_rfl
theorem co185:callOk Tryz.prog 185=true:=by kernel_rfl
theorem co186:callOk Tryz.prog 186=true:=by kernel_rfl
theorem co187:callOk Tryz.prog 187=true:=by kernel_rfl
theorem co188:callOk Tryz.prog 188=true:=by kernel_rfl
theorem co189:callOk Tryz.prog 189=true:=by kernel_rfl
theorem co190:callOk Tryz.prog 190=true:=by kernel_rfl
theorem co191:callOk Tryz.prog 191=true:=by kernel_rfl
theorem co192:callOk Tryz.prog 192=true:=by kernel_rfl
theorem co193:callOk Tryz.prog 193=true:=by kernel_rfl
theorem co194:callOk Tryz.prog 194=true:=by kernel_rfl
theorem co195:callOk Tryz.prog 195=true:=by kernel_rfl
theorem co196:callOk Tryz.prog 196=true:=by kernel_rfl
theorem co197:callOk Tryz.prog 197=true:=by kernel_rfl
theorem co198:callOk Tryz.prog 198=true:=by kernel_rfl
theorem co199:callOk Tryz.prog 199=true:=by kernel_rfl
theorem co200:callOk Tryz.prog 200=true:=by kernel_rfl
theorem co201:callOk Tryz.prog 201=true:=by kernel_rfl
theorem co202:callOk Tryz.prog 202=true:=by kernel_rfl
theorem co203:callOk Tryz.prog 203=true:=by kernel_rfl
theorem co204:callOk Tryz.prog 204=true:=by kernel_rfl
theorem co205:callOk Tryz.prog 205=true:=by kernel_rfl
theorem co206:callOk Tryz.prog 206=true:=by kernel_rfl
theorem co207:callOk Tryz.prog 207=true:=by kernel_rfl
theorem co208:callOk Tryz.prog 208=true:=by kernel_rfl
theorem co209:callOk Tryz.prog 209=true:=by kernel_rfl
theorem co210:callOk Tryz.prog 210=true:=by kernel_rfl
theorem co211:callOk Tryz.prog 211=true:=by kernel_rfl
theorem co212:callOk Tryz.prog 212=true:=by kernel_rfl
theorem co213:callOk Tryz.prog 213=true:=by kernel_rfl
theorem co214:callOk Tryz.prog 214=true:=by kernel_rfl
theorem co216:callOk Tryz.prog 216=true:=by kernel_rfl
theorem co217:callOk Tryz.prog 217=true:=by kernel_rfl
theorem co218:callOk Tryz.prog 218=true:=by kernel_rfl
theorem co219:callOk Tryz.prog 219=true:=by kernel_rfl
theorem co220:callOk Tryz.prog 220=true:=by kernel_rfl
theorem co221:callOk Tryz.prog 221=true:=by kernel_rfl
theorem co222:callOk Tryz.prog 222=true:=by kernel_rfl
theorem co223:callOk Tryz.prog 223=true:=by kernel_rfl
theorem co224:callOk Tryz.prog 224=true:=by kernel_rfl
theorem co225:callOk Tryz.prog 225=true:=by kernel_rfl
theorem co226:callOk Tryz.prog 226=true:=by kernel_rfl
theorem co227:callOk Tryz.prog 227=true:=by kernel_rfl
theorem co228:callOk Tryz.prog 228=true:=by kernel_rfl
theorem co229:callOk Tryz.prog 229=true:=by kernel_rfl
theorem co230:callOk Tryz.prog 230=true:=by kernel_rfl
theorem co231:callOk Tryz.prog 231=true:=by kernel_rfl
theorem co232:callOk Tryz.prog 232=true:=by kernel_rfl
theorem co233:callOk Tryz.prog 233=true:=by kernel_rfl
theorem co234:callOk Tryz.prog 234=true:=by kernel_rfl
theorem co235:callOk Tryz.prog 235=true:=by kernel_rfl
theorem co236:callOk Tryz.prog 236=true:=by kernel_rfl
theorem co238:callOk Tryz.prog 238=true:=by kernel_rfl
theorem co239:callOk Tryz.prog 239=true:=by kernel_rfl
theorem co240:callOk Tryz.prog 240=true:=by kernel_rfl
theorem co241:callOk Tryz.prog 241=true:=by kernel_rfl
theorem co242:callOk Tryz.prog 242=true:=by kernel_rfl
theorem co243:callOk Tryz.prog 243=true:=by kernel_rfl
theorem co244:callOk Tryz.prog 244=true:=by kernel_rfl
theorem co245:callOk Tryz.prog 245=true:=by kernel_rfl
theorem co247:callOk Tryz.prog 247=true:=by kernel_rfl
theorem co248:callOk Tryz.prog 248=true:=by kernel_rfl
theorem co249:callOk Tryz.prog 249=true:=by kernel_rfl
theorem co250:callOk Tryz.prog 250=true:=by kernel_rfl
theorem co251:callOk Tryz.prog 251=true:=by kernel_rfl
theorem co253:callOk Tryz.prog 253=true:=by kernel_rfl
theorem co254:callOk Tryz.prog 254=true:=by kernel_rfl
theorem co255:callOk Tryz.prog 255=true:=by kernel_rfl
theorem co256:callOk Tryz.prog 256=true:=by kernel_rfl
theorem co257:callOk Tryz.prog 257=true:=by kernel_rfl
theorem co282:callOk Tryz.prog 282=true:=by kernel_rfl
attribute [go_sem] it3 it5 st9 by165 it196 bo4 fl74 fo25_0 fo25_1 fo30_0 fo30_1 fo30_2 fo30_3 fo30_4 fo35_0 fo35_1 fo35_2 fo35_3 fo43_0 fo43_1 fo55_0 fo55_3 fo57_0 fo57_1 fo57_2 fo57_3 fo62_0 fo62_1 fo68_0 fo68_1 fo68_2 fo82_0 fo82_1 fo82_2 fo82_3 fo84_0 fo84_1 fo84_2 fo84_3 fo84_4 fo84_5 fo84_6 fo84_7 fo84_8 fo84_9 fo86_0 fo86_1 fo86_2 fo86_3 fo86_4 fo86_5 fo86_6 fo86_7 fo86_8 fo86_9 fo86_10 fo86_11 fo86_12 fo86_13 fo95_0 fo95_1 fo95_2 fo95_3 fo110_0 fo110_1 fo110_2 fo110_3 fo116_0 fo116_1 fo126_0 fo126_1 fo126_2 fo158_0 fo158_1 fo158_2 fo158_3 fo158_4 fo158_5 fo161_0 fo161_1 fo183_0 fo183_1 el22 sl22 el23 sl23 el26 sl26 el27 sl27 el28 sl28 el31 sl31 el32 sl32 el33 sl33 el36 sl36 el40 sl40 el41 sl41 el50 sl50 el53 sl53 st58 el60 sl60 el119 sl119 ar135 ar152 el156 sl156 el165 sl165 ar167 ar176 el178 sl178 el188 sl188 el205 sl205 el241 sl241 ar247 ar262 ar263 ar272 ar273 ld3 ld4 ld9 ld22 ld23 ld25 ld26 ld27 ld28 ld30 ld31 ld32 ld33 ld35 ld40 ld41 ld43 ld44 ld53 ld55 ld57 ld58 ld60 ld62 ld68 ld74 ld82 ld84 ld86 ld95 ld110 ld126 ld135 ld152 ld156 ld158 ld161 ld176 ld183 ld226 ma108 kk3 zv3 pa25 pa30 pa35 pa43 pa55 pa57 pa62 pa68 pa74 pa82 pa84 pa86 pa95 pa116 pa135 pa152 pa176 pa183 so3 so40 so41 so60 ze3 ze9 ze25 ze30 ze35 ni43 ze43 ze55 ze57 ni62 ze62 ni68 ze68 ze74 ze82 ze84 ze86 ze95 ze110 ze116 ze126 ze135 ze152 ze158 ze161 ze176 ze183 co2 co3 co4 co5 co6 co7 co8 co9 co10 co11 co12 co13 co14 co15 co16 co17 co18 co19 co20 co21 co22 co23 co24 co25 co26 co27 co28 co29 co30 co31 co32 co33 co34 co35 co36 co37 co38 co39 co40 co41 co42 co43 co44 co45 co46 co47 co48 co49 co50 co51 co52 co53 co54 co55 co56 co57 co58 co59 co60 co61 co62 co63 co64 co65 co66 co67 co68 co69 co70 co71 co72 co73 co74 co75 co76 co77 co78 co79 co80 co81 co82 co83 co84 co85 co86 co87 co88 co89 co90 co91 co92 co93 co94 co95 co96 co97 co98 co99 co100 co101 co102 co103 co104 co105 co106 co107 co108 co109 co110 co111 co112 co113 co114 co115 co116 co117 co118 co119 co120 co121 co122 co123 co124 co125 co126 co127 co128 co129 co130 co131 co132 co133 co134 co135 co136 co137 co138 co139 co140 co141 co142 co143 co144 co145 co146 co147 co148 co149 co150 co151 co152 co153 co154 co155 co156 co157 co158 co159 co160 co161 co162 co163 co164 co165 co166 co167 co168 co169 co170 co171 co172 co173 co174 co175 co176 co177 co178 co179 co180 co181 co182 co183 co184 co185 co186 co187 co188 co189 co190 co191 co192 co193 co194 co195 co196 co197 co198 co199 co200 co201 co202 co203 co204 co205 co206 co207 co208 co209 co210 co211 co212 co213 co214 co216 co217 co218 co219 co220 co221 co222 co223 co224 co225 co226 co227 co228 co229 co230 co231 co232 co233 co234 co235 co236 co238 co239 co240 co241 co242 co243 co244 co245 co247 co248 co249 co250 co251 co253 co254 co255 co256 co257 co282
end Go.Proofs.YtpddaldlebngaaaGreatDoor.Ty
