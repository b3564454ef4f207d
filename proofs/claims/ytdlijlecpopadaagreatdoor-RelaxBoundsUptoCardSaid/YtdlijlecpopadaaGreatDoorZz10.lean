/- Texts joined by a program: Types, Data. -/
import Derived.Test.YtdlijlecpopadaaGreatDoorChecked
import Derived.KernelRfl
import Derived.Test.YtdlijlecpopadaaGreatDoorZz09

section
set_option linter.unusedSimpArgs false
namespace Go.Proofs.YtdlijlecpopadaaGreatDoor.Ty
open Go.Aw Go.Proofs
theorem mI{P:Program}{t:TypeId}(h:(P.info? t).map (·.size)=some 1):∃i,P.info? t=some i∧i.size=1:=by
 cases hi:P.info? t with
 | none=>simp[hi]at h
 | some i=>exact⟨i,rfl,by simpa[hi]using h⟩
theorem mixed:Tryz.prog.follows .mixedOrders=true:=by kernel_rfl
theorem it3:ED Tryz.prog 3=some .i64:=by kernel_rfl
theorem it5:ED Tryz.prog 5=some .u8:=by kernel_rfl
theorem st9:dS Tryz.prog 9=true:=by kernel_rfl
theorem it40:ED Tryz.prog 40=some .u64:=by kernel_rfl
theorem agR:Be Tryz.prog 206=true:=by kernel_rfl
theorem bo4:xN Tryz.prog 4=true:=by kernel_rfl
theorem agN:yO Tryz.prog 285=some [0,0,0]:=by kernel_rfl
theorem aaF:aK Tryz.prog 25 0=some (0,none):=by kernel_rfl
theorem aaY:aK Tryz.prog 25 1=some (1,none):=by kernel_rfl
theorem Z9:aK Tryz.prog 30 0=some (0,some 2):=by kernel_rfl
theorem Z8:aK Tryz.prog 30 1=some (2,none):=by kernel_rfl
theorem ZX:aK Tryz.prog 30 2=some (3,none):=by kernel_rfl
theorem abA:aK Tryz.prog 30 3=some (4,none):=by kernel_rfl
theorem Z5:aK Tryz.prog 30 4=some (5,none):=by kernel_rfl
theorem abN:aK Tryz.prog 87 0=some (0,none):=by kernel_rfl
theorem Z4:aK Tryz.prog 87 1=some (1,none):=by kernel_rfl
theorem ZL:aK Tryz.prog 87 2=some (2,none):=by kernel_rfl
theorem Zq:aK Tryz.prog 87 3=some (3,none):=by kernel_rfl
theorem aaJ:aK Tryz.prog 87 4=some (4,none):=by kernel_rfl
theorem ZC:aK Tryz.prog 87 5=some (5,none):=by kernel_rfl
theorem ZO:aK Tryz.prog 87 6=some (6,none):=by kernel_rfl
theorem Z7:aK Tryz.prog 87 7=some (7,none):=by kernel_rfl
theorem ZR:aK Tryz.prog 87 8=some (8,none):=by kernel_rfl
theorem aaW:aK Tryz.prog 87 9=some (9,none):=by kernel_rfl
theorem XW:aK Tryz.prog 87 10=some (10,none):=by kernel_rfl
theorem Xa:aK Tryz.prog 87 11=some (11,none):=by kernel_rfl
theorem WI:aK Tryz.prog 87 12=some (12,none):=by kernel_rfl
theorem YN:aK Tryz.prog 87 13=some (13,none):=by kernel_rfl
theorem ZN:aK Tryz.prog 89 0=some (0,some 6):=by kernel_rfl
theorem Zv:aK Tryz.prog 89 1=some (6,none):=by kernel_rfl
theorem Zs:aK Tryz.prog 89 2=some (7,some 14):=by kernel_rfl
theorem Z2:aK Tryz.prog 89 3=some (21,none):=by kernel_rfl
theorem Zz:aK Tryz.prog 89 4=some (22,none):=by kernel_rfl
theorem aaG:aK Tryz.prog 89 5=some (23,none):=by kernel_rfl
theorem Zt:aK Tryz.prog 94 0=some (0,none):=by kernel_rfl
theorem abK:aK Tryz.prog 94 1=some (1,none):=by kernel_rfl
theorem abB:aK Tryz.prog 94 2=some (2,none):=by kernel_rfl
theorem ZU:aK Tryz.prog 94 3=some (3,none):=by kernel_rfl
theorem abG:aK Tryz.prog 94 4=some (4,none):=by kernel_rfl
theorem aaO:aK Tryz.prog 94 5=some (5,none):=by kernel_rfl
theorem Zr:aK Tryz.prog 94 6=some (6,none):=by kernel_rfl
theorem abO:aK Tryz.prog 97 0=some (0,none):=by kernel_rfl
theorem aaI:aK Tryz.prog 97 1=some (1,none):=by kernel_rfl
theorem XZ:aK Tryz.prog 108 0=some (0,some 6):=by kernel_rfl
theorem Yh:aK Tryz.prog 108 1=some (6,some 14):=by kernel_rfl
theorem WR:aK Tryz.prog 108 2=some (20,none):=by kernel_rfl
theorem WY:aK Tryz.prog 108 3=some (21,none):=by kernel_rfl
theorem WL:aK Tryz.prog 108 4=some (22,none):=by kernel_rfl
theorem Wc:aK Tryz.prog 108 5=some (23,none):=by kernel_rfl
theorem X6:aK Tryz.prog 108 6=some (24,none):=by kernel_rfl
theorem Wb:aK Tryz.prog 108 7=some (25,none):=by kernel_rfl
theorem YT:aK Tryz.prog 108 8=some (26,none):=by kernel_rfl
theorem YM:aK Tryz.prog 108 9=some (27,none):=by kernel_rfl
theorem YR:aK Tryz.prog 128 0=some (0,none):=by kernel_rfl
theorem Yx:aK Tryz.prog 128 1=some (1,none):=by kernel_rfl
theorem WB:aK Tryz.prog 136 0=some (0,none):=by kernel_rfl
theorem X1:aK Tryz.prog 136 1=some (1,none):=by kernel_rfl
theorem WW:aK Tryz.prog 139 0=some (0,none):=by kernel_rfl
theorem X4:aK Tryz.prog 139 1=some (1,none):=by kernel_rfl
theorem V8:aK Tryz.prog 139 2=some (2,none):=by kernel_rfl
theorem Wd:aK Tryz.prog 139 3=some (3,none):=by kernel_rfl
theorem XJ:aK Tryz.prog 139 4=some (4,none):=by kernel_rfl
theorem XT:aK Tryz.prog 139 5=some (5,none):=by kernel_rfl
theorem XC:aK Tryz.prog 141 0=some (0,none):=by kernel_rfl
theorem Yw:aK Tryz.prog 141 1=some (1,none):=by kernel_rfl
theorem XV:aK Tryz.prog 141 2=some (2,none):=by kernel_rfl
theorem Yo:aK Tryz.prog 141 3=some (3,none):=by kernel_rfl
theorem XS:aK Tryz.prog 143 0=some (0,none):=by kernel_rfl
theorem V6:aK Tryz.prog 143 1=some (1,none):=by kernel_rfl
theorem Wp:aK Tryz.prog 143 2=some (2,some 4):=by kernel_rfl
theorem WD:aK Tryz.prog 143 3=some (6,some 4):=by kernel_rfl
theorem Xt:aK Tryz.prog 143 4=some (10,none):=by kernel_rfl
theorem Yz:aK Tryz.prog 143 5=some (11,none):=by kernel_rfl
theorem YI:aK Tryz.prog 143 6=some (12,none):=by kernel_rfl
theorem WF:aK Tryz.prog 143 7=some (13,none):=by kernel_rfl
theorem Yd:aK Tryz.prog 143 8=some (14,none):=by kernel_rfl
theorem Wl:aK Tryz.prog 143 9=some (15,none):=by kernel_rfl
theorem Wi:aK Tryz.prog 157 0=some (0,none):=by kernel_rfl
theorem YH:aK Tryz.prog 157 1=some (1,none):=by kernel_rfl
theorem Wo:aK Tryz.prog 175 0=some (0,none):=by kernel_rfl
theorem Yu:aK Tryz.prog 175 1=some (1,none):=by kernel_rfl
theorem Yt:aK Tryz.prog 177 0=some (0,none):=by kernel_rfl
theorem XU:aK Tryz.prog 177 1=some (1,none):=by kernel_rfl
theorem XP:aK Tryz.prog 177 2=some (2,none):=by kernel_rfl
theorem WM:aK Tryz.prog 177 3=some (3,none):=by kernel_rfl
theorem Wg:aK Tryz.prog 177 4=some (4,none):=by kernel_rfl
theorem YD:aK Tryz.prog 177 5=some (5,none):=by kernel_rfl
theorem XO:aK Tryz.prog 177 6=some (6,none):=by kernel_rfl
theorem WK:aK Tryz.prog 177 7=some (7,none):=by kernel_rfl
theorem Xe:aK Tryz.prog 177 8=some (8,none):=by kernel_rfl
theorem Xj:aK Tryz.prog 177 9=some (9,none):=by kernel_rfl
theorem YF:aK Tryz.prog 183 0=some (0,none):=by kernel_rfl
theorem Yf:aK Tryz.prog 183 1=some (1,none):=by kernel_rfl
theorem el22:cK Tryz.prog 22=some (9,1,16):=by kernel_rfl
theorem sl22:cU Tryz.prog 22=true:=by kernel_rfl
theorem el23:cK Tryz.prog 23=some (139,6,80):=by kernel_rfl
theorem sl23:cU Tryz.prog 23=true:=by kernel_rfl
theorem el26:cK Tryz.prog 26=some (87,14,136):=by kernel_rfl
theorem sl26:cU Tryz.prog 26=true:=by kernel_rfl
theorem el27:cK Tryz.prog 27=some (143,16,152):=by kernel_rfl
theorem sl27:cU Tryz.prog 27=true:=by kernel_rfl
theorem el28:cK Tryz.prog 28=some (192,2,16):=by kernel_rfl
theorem sl28:cU Tryz.prog 28=true:=by kernel_rfl
theorem el31:cK Tryz.prog 31=some (3,1,8):=by kernel_rfl
theorem sl31:cU Tryz.prog 31=true:=by kernel_rfl
theorem el32:cK Tryz.prog 32=some (128,2,24):=by kernel_rfl
theorem sl32:cU Tryz.prog 32=true:=by kernel_rfl
theorem el43:cK Tryz.prog 43=some (46,1,16):=by kernel_rfl
theorem sl43:cU Tryz.prog 43=true:=by kernel_rfl
theorem st46:dS Tryz.prog 46=true:=by kernel_rfl
theorem el61:cK Tryz.prog 61=some (4,1,1):=by kernel_rfl
theorem sl61:cU Tryz.prog 61=true:=by kernel_rfl
theorem el62:cK Tryz.prog 62=some (97,2,16):=by kernel_rfl
theorem sl62:cU Tryz.prog 62=true:=by kernel_rfl
theorem el91:cK Tryz.prog 91=some (94,7,96):=by kernel_rfl
theorem sl91:cU Tryz.prog 91=true:=by kernel_rfl
theorem aiX:cK Tryz.prog 92=some (157,2,16):=by kernel_rfl
theorem sl92:cU Tryz.prog 92=true:=by kernel_rfl
theorem aeO:cU Tryz.prog 125=true:=by kernel_rfl
theorem abV:cK Tryz.prog 131=some (35,1,8):=by kernel_rfl
theorem ajL:cU Tryz.prog 131=true:=by kernel_rfl
theorem anF:cK Tryz.prog 137=some (136,2,16):=by kernel_rfl
theorem adC:cU Tryz.prog 137=true:=by kernel_rfl
theorem aeR:cK Tryz.prog 172=some (175,2,16):=by kernel_rfl
theorem akH:cU Tryz.prog 172=true:=by kernel_rfl
theorem ajS:cK Tryz.prog 179=some (183,2,24):=by kernel_rfl
theorem agS:cU Tryz.prog 179=true:=by kernel_rfl
theorem amK:sR Tryz.prog 189=some (2,1,none):=by kernel_rfl
theorem aeV:sR Tryz.prog 192=some (2,1,none):=by kernel_rfl
theorem abR:cK Tryz.prog 206=some (5,1,1):=by kernel_rfl
theorem alB:cU Tryz.prog 206=true:=by kernel_rfl
theorem ajU:cK Tryz.prog 212=some (3,1,8):=by kernel_rfl
theorem aiK:cU Tryz.prog 212=true:=by kernel_rfl
theorem acL:cK Tryz.prog 234=some (189,2,32):=by kernel_rfl
theorem ahJ:cU Tryz.prog 234=true:=by kernel_rfl
theorem agY:cU Tryz.prog 236=true:=by kernel_rfl
theorem akS:cU Tryz.prog 273=true:=by kernel_rfl
theorem ahA:sR Tryz.prog 277=some (4,1,none):=by kernel_rfl
theorem ahD:sR Tryz.prog 289=some (4,1,none):=by kernel_rfl
theorem amM:sR Tryz.prog 298=some (24,1,none):=by kernel_rfl
theorem alP:cU Tryz.prog 310=true:=by kernel_rfl
theorem afB:cU Tryz.prog 315=true:=by kernel_rfl
theorem ajV:cU Tryz.prog 323=true:=by kernel_rfl
theorem anN:sR Tryz.prog 341=some (20,1,none):=by kernel_rfl
theorem alF:sR Tryz.prog 342=some (65,1,none):=by kernel_rfl
theorem ajR:sR Tryz.prog 367=some (32,1,none):=by kernel_rfl
theorem adW:sR Tryz.prog 368=some (64,1,none):=by kernel_rfl
theorem ld3:ldT Tryz.prog 3=some none:=by kernel_rfl
theorem ld4:ldT Tryz.prog 4=some none:=by kernel_rfl
theorem ld9:ldT Tryz.prog 9=some none:=by kernel_rfl
theorem ld22:ldT Tryz.prog 22=some none:=by kernel_rfl
theorem ld23:ldT Tryz.prog 23=some none:=by kernel_rfl
theorem ld25:ldT Tryz.prog 25=some (some 2):=by kernel_rfl
theorem ld26:ldT Tryz.prog 26=some none:=by kernel_rfl
theorem ld27:ldT Tryz.prog 27=some none:=by kernel_rfl
theorem ld28:ldT Tryz.prog 28=some none:=by kernel_rfl
theorem ld30:ldT Tryz.prog 30=some (some 6):=by kernel_rfl
theorem ld31:ldT Tryz.prog 31=some none:=by kernel_rfl
theorem ld35:ldT Tryz.prog 35=some none:=by kernel_rfl
theorem ld43:ldT Tryz.prog 43=some none:=by kernel_rfl
theorem ld46:ldT Tryz.prog 46=some none:=by kernel_rfl
theorem ld87:ldT Tryz.prog 87=some (some 14):=by kernel_rfl
theorem ld92:ldT Tryz.prog 92=some none:=by kernel_rfl
theorem ld94:ldT Tryz.prog 94=some (some 7):=by kernel_rfl
theorem ld97:ldT Tryz.prog 97=some (some 2):=by kernel_rfl
theorem alQ:ldT Tryz.prog 136=some (some 2):=by kernel_rfl
theorem acW:ldT Tryz.prog 137=some none:=by kernel_rfl
theorem amT:ldT Tryz.prog 139=some (some 6):=by kernel_rfl
theorem agU:ldT Tryz.prog 141=some (some 4):=by kernel_rfl
theorem ajE:ldT Tryz.prog 143=some (some 16):=by kernel_rfl
theorem amC:ldT Tryz.prog 157=some (some 2):=by kernel_rfl
theorem aeI:ldT Tryz.prog 172=some none:=by kernel_rfl
theorem adX:ldT Tryz.prog 175=some (some 2):=by kernel_rfl
theorem ahL:ldT Tryz.prog 177=some (some 10):=by kernel_rfl
theorem ahP:ldT Tryz.prog 183=some (some 2):=by kernel_rfl
theorem afC:ldT Tryz.prog 189=some (some 2):=by kernel_rfl
theorem acF:ldT Tryz.prog 285=some (some 3):=by kernel_rfl
theorem ahM:ldT Tryz.prog 289=some (some 4):=by kernel_rfl
theorem kk3:rO Tryz.prog 3=some 0:=by kernel_rfl
theorem pa25:fK Tryz.prog 25=some [(0,1),(1,1)]:=by kernel_rfl
theorem pa30:fK Tryz.prog 30=some [(0,2),(2,1),(3,1),(4,1),(5,1)]:=by kernel_rfl
theorem pa87:fK Tryz.prog 87=some [(0,1),(1,1),(2,1),(3,1),(4,1),(5,1),(6,1),(7,1),(8,1),(9,1),(10,1),(11,1),(12,1),(13,1)]:=by kernel_rfl
theorem pa89:fK Tryz.prog 89=some [(0,6),(6,1),(7,14),(21,1),(22,1),(23,1)]:=by kernel_rfl
theorem pa94:fK Tryz.prog 94=some [(0,1),(1,1),(2,1),(3,1),(4,1),(5,1),(6,1)]:=by kernel_rfl
theorem pa97:fK Tryz.prog 97=some [(0,1),(1,1)]:=by kernel_rfl
theorem anO:fK Tryz.prog 108=some [(0,6),(6,14),(20,1),(21,1),(22,1),(23,1),(24,1),(25,1),(26,1),(27,1)]:=by kernel_rfl
theorem ajG:fK Tryz.prog 128=some [(0,1),(1,1)]:=by kernel_rfl
theorem aiD:fK Tryz.prog 136=some [(0,1),(1,1)]:=by kernel_rfl
theorem agH:fK Tryz.prog 139=some [(0,1),(1,1),(2,1),(3,1),(4,1),(5,1)]:=by kernel_rfl
theorem akJ:fK Tryz.prog 141=some [(0,1),(1,1),(2,1),(3,1)]:=by kernel_rfl
theorem adR:fK Tryz.prog 143=some [(0,1),(1,1),(2,4),(6,4),(10,1),(11,1),(12,1),(13,1),(14,1),(15,1)]:=by kernel_rfl
theorem anU:fK Tryz.prog 157=some [(0,1),(1,1)]:=by kernel_rfl
theorem ajN:fK Tryz.prog 175=some [(0,1),(1,1)]:=by kernel_rfl
theorem amD:fK Tryz.prog 177=some [(0,1),(1,1),(2,1),(3,1),(4,1),(5,1),(6,1),(7,1),(8,1),(9,1)]:=by kernel_rfl
theorem anR:fK Tryz.prog 183=some [(0,1),(1,1)]:=by kernel_rfl
theorem akG:fK Tryz.prog 189=some [(0,1),(1,1)]:=by kernel_rfl
theorem aiO:fK Tryz.prog 285=some [(0,1),(1,1),(2,1)]:=by kernel_rfl
theorem acE:fK Tryz.prog 289=some [(0,1),(1,1),(2,1),(3,1)]:=by kernel_rfl
theorem so3:∃i,Tryz.prog.info? 3=some i∧i.size=1:=mI (by kernel_rfl)
theorem so4:∃i,Tryz.prog.info? 4=some i∧i.size=1:=mI (by kernel_rfl)
theorem aiF:∃i,Tryz.prog.info? 23=some i∧i.size=1:=mI (by kernel_rfl)
theorem agZ:∃i,Tryz.prog.info? 26=some i∧i.size=1:=mI (by kernel_rfl)
theorem acJ:∃i,Tryz.prog.info? 27=some i∧i.size=1:=mI (by kernel_rfl)
theorem RB:∃i,Tryz.prog.info? 31=some i∧i.size=1:=mI (by kernel_rfl)
theorem acY:∃i,Tryz.prog.info? 43=some i∧i.size=1:=mI (by kernel_rfl)
theorem QF:∃i,Tryz.prog.info? 46=some i∧i.size=1:=mI (by kernel_rfl)
theorem akN:∃i,Tryz.prog.info? 92=some i∧i.size=1:=mI (by kernel_rfl)
theorem Zf:∃i,Tryz.prog.info? 172=some i∧i.size=1:=mI (by kernel_rfl)
theorem ze3:eM Tryz.prog 3=some [.v (.int .i64 0)]:=by kernel_rfl
theorem ze9:eM Tryz.prog 9=some [.v (.string ByteArray.empty)]:=by kernel_rfl
theorem ni25:pL Tryz.prog 25=some [(0,9,1),(1,139,6)]:=by kernel_rfl
theorem ze25:eM Tryz.prog 25=some [.sl [],.sl []]:=by kernel_rfl
theorem ni30:pL Tryz.prog 30=some [(0,9,1),(1,139,6),(2,87,14),(3,143,16),(4,192,2),(5,192,2)]:=by kernel_rfl
theorem ze30:eM Tryz.prog 30=some [.sl [],.sl [],.sl [],.sl [],.sl [],.sl []]:=by kernel_rfl
theorem ze87:eM Tryz.prog 87=some [.v (.string ByteArray.empty),.v (.int .i64 0),.v (.int .i64 0),.v (.int .i64 0),.sl [],.v (.int .i64 0),.v (.int .i64 0),.v (.int .i64 0),.v (.int .i64 0),.v (.int .i64 0),.v (.int .i64 0),.v (.int .i64 0),.v (.int .i64 0),.v (.int .i64 0)]:=by kernel_rfl
theorem ni89:pL Tryz.prog 89=some [(0,9,1),(1,139,6),(2,87,14),(3,143,16),(4,192,2),(5,192,2),(11,3,1),(21,3,1),(22,46,1)]:=by kernel_rfl
theorem ze89:eM Tryz.prog 89=some [.sl [],.sl [],.sl [],.sl [],.sl [],.sl [],.v (.int .i64 0),.v (.string ByteArray.empty),.v (.int .i64 0),.v (.int .i64 0),.v (.int .i64 0),.sl [],.v (.int .i64 0),.v (.int .i64 0),.v (.int .i64 0),.v (.int .i64 0),.v (.int .i64 0),.v (.int .i64 0),.v (.int .i64 0),.v (.int .i64 0),.v (.int .i64 0),.sl [],.sl [],.v (.int .i64 0)]:=by kernel_rfl
theorem ze94:eM Tryz.prog 94=some [.v (.int .i64 0),.v (.int .i64 0),.v (.int .i64 0),.v (.int .i64 0),.sl [],.sl [],.v (.string ByteArray.empty)]:=by kernel_rfl
theorem ze97:eM Tryz.prog 97=some [.v (.int .i64 0),.v (.bool false)]:=by kernel_rfl
theorem adH:eM Tryz.prog 108=some [.sl [],.sl [],.sl [],.sl [],.sl [],.sl [],.v (.string ByteArray.empty),.v (.int .i64 0),.v (.int .i64 0),.v (.int .i64 0),.sl [],.v (.int .i64 0),.v (.int .i64 0),.v (.int .i64 0),.v (.int .i64 0),.v (.int .i64 0),.v (.int .i64 0),.v (.int .i64 0),.v (.int .i64 0),.v (.int .i64 0),.v (.int .i64 0),.sl [],.sl [],.v (.int .i64 0),.v (.int .i64 0),.v (.bool false),.v (.bool false),.v (.string ByteArray.empty)]:=by kernel_rfl
theorem agG:eM Tryz.prog 128=some [.v (.int .i64 0),.v (.string ByteArray.empty)]:=by kernel_rfl
theorem alW:eM Tryz.prog 136=some [.v (.int .i64 0),.v (.int .i64 0)]:=by kernel_rfl
theorem anI:eM Tryz.prog 139=some [.v (.int .i64 0),.v (.int .i64 0),.v (.int .i64 0),.v (.int .i64 0),.sl [],.sl []]:=by kernel_rfl
theorem ahK:eM Tryz.prog 141=some [.v (.int .i64 0),.v (.int .i64 0),.v (.int .i64 0),.v (.int .i64 0)]:=by kernel_rfl
theorem acX:eM Tryz.prog 143=some [.v (.string ByteArray.empty),.sl [],.v (.int .i64 0),.v (.int .i64 0),.v (.int .i64 0),.v (.int .i64 0),.v (.int .i64 0),.v (.int .i64 0),.v (.int .i64 0),.v (.int .i64 0),.v (.int .i64 0),.v (.int .i64 0),.v (.int .i64 0),.v (.int .i64 0),.v (.int .i64 0),.v (.bool false)]:=by kernel_rfl
theorem Zk:eM Tryz.prog 157=some [.v (.int .i64 0),.v (.int .i64 0)]:=by kernel_rfl
theorem afS:eM Tryz.prog 175=some [.v (.int .i64 0),.v (.int .i64 0)]:=by kernel_rfl
theorem adE:pL Tryz.prog 177=some [(3,175,2),(6,3,1)]:=by kernel_rfl
theorem alZ:eM Tryz.prog 177=some [.v (.int .i64 0),.v (.int .i64 0),.v (.int .i64 0),.sl [],.v (.int .i64 0),.v (.int .i64 0),.sl [],.v (.int .i64 0),.v (.int .i64 0),.v (.string ByteArray.empty)]:=by kernel_rfl
theorem ajH:eM Tryz.prog 183=some [.v (.bool false),.v (.string ByteArray.empty)]:=by kernel_rfl
theorem anB:eM Tryz.prog 189=some [.v (.string ByteArray.empty),.v (.string ByteArray.empty)]:=by kernel_rfl
theorem ahS:eM Tryz.prog 285=some [.v (.int .i64 0),.v (.int .i64 0),.v (.int .i64 0)]:=by kernel_rfl
theorem adN:eM Tryz.prog 289=some [.v (.string ByteArray.empty),.v (.string ByteArray.empty),.v (.string ByteArray.empty),.v (.string ByteArray.empty)]:=by kernel_rfl
theorem co2:aE Tryz.prog 2=true:=by kernel_rfl
theorem co3:aE Tryz.prog 3=true:=by kernel_rfl
theorem co4:aE Tryz.prog 4=true:=by kernel_rfl
theorem co5:aE Tryz.prog 5=true:=by kernel_rfl
theorem co6:aE Tryz.prog 6=true:=by kernel_rfl
theorem co7:aE Tryz.prog 7=true:=by kernel_rfl
theorem co8:aE Tryz.prog 8=true:=by kernel_rfl
theorem co9:aE Tryz.prog 9=true:=by kernel_rfl
theorem co10:aE Tryz.prog 10=true:=by kernel_rfl
theorem co11:aE Tryz.prog 11=true:=by kernel_rfl
theorem co12:aE Tryz.prog 12=true:=by kernel_rfl
theorem co13:aE Tryz.prog 13=true:=by kernel_rfl
theorem co14:aE Tryz.prog 14=true:=by kernel_rfl
theorem co15:aE Tryz.prog 15=true:=by kernel_rfl
theorem co16:aE Tryz.prog 16=true:=by kernel_rfl
theorem co17:aE Tryz.prog 17=true:=by kernel_rfl
theorem co18:aE Tryz.prog 18=true:=by kernel_rfl
theorem co19:aE Tryz.prog 19=true:=by kernel_rfl
theorem co20:aE Tryz.prog 20=true:=by kernel_rfl
theorem co21:aE Tryz.prog 21=true:=by kernel_rfl
theorem co22:aE Tryz.prog 22=true:=by kernel_rfl
theorem co23:aE Tryz.prog 23=true:=by kernel_rfl
theorem co24:aE Tryz.prog 24=true:=by kernel_rfl
theorem co25:aE Tryz.prog 25=true:=by kernel_rfl
theorem co26:aE Tryz.prog 26=true:=by kernel_rfl
theorem co27:aE Tryz.prog 27=true:=by kernel_rfl
theorem co28:aE Tryz.prog 28=true:=by kernel_rfl
theorem co29:aE Tryz.prog 29=true:=by kernel_rfl
theorem co30:aE Tryz.prog 30=true:=by kernel_rfl
theorem co31:aE Tryz.prog 31=true:=by kernel_rfl
theorem co32:aE Tryz.prog 32=true:=by kernel_rfl
theorem co33:aE Tryz.prog 33=true:=by kernel_rfl
theorem co34:aE Tryz.prog 34=true:=by kernel_rfl
theorem co35:aE Tryz.prog 35=true:=by kernel_rfl
theorem co36:aE Tryz.prog 36=true:=by kernel_rfl
theorem co37:aE Tryz.prog 37=true:=by kernel_rfl
theorem co38:aE Tryz.prog 38=true:=by kernel_rfl
theorem co39:aE Tryz.prog 39=true:=by kernel_rfl
theorem co40:aE Tryz.prog 40=true:=by kernel_rfl
theorem co41:aE Tryz.prog 41=true:=by kernel_rfl
theorem co42:aE Tryz.prog 42=true:=by kernel_rfl
theorem co43:aE Tryz.prog 43=true:=by kernel_rfl
theorem co44:aE Tryz.prog 44=true:=by kernel_rfl
theorem co45:aE Tryz.prog 45=true:=by kernel_rfl
theorem co46:aE Tryz.prog 46=true:=by kernel_rfl
theorem co47:aE Tryz.prog 47=true:=by kernel_rfl
theorem co48:aE Tryz.prog 48=true:=by kernel_rfl
theorem co49:aE Tryz.prog 49=true:=by kernel_rfl
theorem co50:aE Tryz.prog 50=true:=by kernel_rfl
theorem co51:aE Tryz.prog 51=true:=by kernel_rfl
theorem co52:aE Tryz.prog 52=true:=by kernel_rfl
theorem co53:aE Tryz.prog 53=true:=by kernel_rfl
theorem co54:aE Tryz.prog 54=true:=by kernel_rfl
theorem co55:aE Tryz.prog 55=true:=by kernel_rfl
theorem co56:aE Tryz.prog 56=true:=by kernel_rfl
theorem co57:aE Tryz.prog 57=true:=by kernel_rfl
theorem co58:aE Tryz.prog 58=true:=by kernel_rfl
theorem co59:aE Tryz.prog 59=true:=by kernel_rfl
theorem co60:aE Tryz.prog 60=true:=by kernel_rfl
theorem co61:aE Tryz.prog 61=true:=by kernel_rfl
theorem co62:aE Tryz.prog 62=true:=by kernel_rfl
theorem co63:aE Tryz.prog 63=true:=by kernel_rfl
theorem co64:aE Tryz.prog 64=true:=by kernel_rfl
theorem co65:aE Tryz.prog 65=true:=by kernel_rfl
theorem co66:aE Tryz.prog 66=true:=by kernel_rfl
theorem co67:aE Tryz.prog 67=true:=by kernel_rfl
theorem co68:aE Tryz.prog 68=true:=by kernel_rfl
theorem co69:aE Tryz.prog 69=true:=by kernel_rfl
theorem co70:aE Tryz.prog 70=true:=by kernel_rfl
theorem co71:aE Tryz.prog 71=true:=by kernel_rfl
theorem co72:aE Tryz.prog 72=true:=by kernel_rfl
theorem co73:aE Tryz.prog 73=true:=by kernel_rfl
theorem co74:aE Tryz.prog 74=true:=by kernel_rfl
theorem co75:aE Tryz.prog 75=true:=by kernel_rfl
theorem co76:aE Tryz.prog 76=true:=by kernel_rfl
theorem co77:aE Tryz.prog 77=true:=by kernel_rfl
theorem co78:aE Tryz.prog 78=true:=by kernel_rfl
theorem co79:aE Tryz.prog 79=true:=by kernel_rfl
theorem co80:aE Tryz.prog 80=true:=by kernel_rfl
theorem co81:aE Tryz.prog 81=true:=by kernel_rfl
theorem co82:aE Tryz.prog 82=true:=by kernel_rfl
theorem co83:aE Tryz.prog 83=true:=by kernel_rfl
theorem co84:aE Tryz.prog 84=true:=by kernel_rfl
theorem co85:aE Tryz.prog 85=true:=by kernel_rfl
theorem co86:aE Tryz.prog 86=true:=by kernel_rfl
theorem co87:aE Tryz.prog 87=true:=by kernel_rfl
theorem co88:aE Tryz.prog 88=true:=by kernel_rfl
theorem co89:aE Tryz.prog 89=true:=by kernel_rfl
theorem co90:aE Tryz.prog 90=true:=by kernel_rfl
theorem co91:aE Tryz.prog 91=true:=by kernel_rfl
theorem co92:aE Tryz.prog 92=true:=by kernel_rfl
theorem co93:aE Tryz.prog 93=true:=by kernel_rfl
theorem co94:aE Tryz.prog 94=true:=by kernel_rfl
theorem co95:aE Tryz.prog 95=true:=by kernel_rfl
theorem co96:aE Tryz.prog 96=true:=by kernel_rfl
theorem co97:aE Tryz.prog 97=true:=by kernel_rfl
theorem co98:aE Tryz.prog 98=true:=by kernel_rfl
theorem co99:aE Tryz.prog 99=true:=by kernel_rfl
theorem ajY:aE Tryz.prog 100=true:=by kernel_rfl
theorem ajW:aE Tryz.prog 101=true:=by kernel_rfl
theorem afZ:aE Tryz.prog 102=true:=by kernel_rfl
theorem aeN:aE Tryz.prog 103=true:=by kernel_rfl
theorem aeA:aE Tryz.prog 104=true:=by kernel_rfl
theorem amH:aE Tryz.prog 105=true:=by kernel_rfl
theorem afJ:aE Tryz.prog 106=true:=by kernel_rfl
theorem abX:aE Tryz.prog 107=true:=by kernel_rfl
theorem alY:aE Tryz.prog 108=true:=by kernel_rfl
theorem adK:aE Tryz.prog 109=true:=by kernel_rfl
theorem afO:aE Tryz.prog 110=true:=by kernel_rfl
theorem alA:aE Tryz.prog 111=true:=by kernel_rfl
theorem aeS:aE Tryz.prog 112=true:=by kernel_rfl
theorem aiZ:aE Tryz.prog 113=true:=by kernel_rfl
theorem alC:aE Tryz.prog 114=true:=by kernel_rfl
theorem acD:aE Tryz.prog 115=true:=by kernel_rfl
theorem amO:aE Tryz.prog 116=true:=by kernel_rfl
theorem agK:aE Tryz.prog 117=true:=by kernel_rfl
theorem aeT:aE Tryz.prog 118=true:=by kernel_rfl
theorem aiP:aE Tryz.prog 119=true:=by kernel_rfl
theorem acV:aE Tryz.prog 120=true:=by kernel_rfl
theorem ajT:aE Tryz.prog 121=true:=by kernel_rfl
theorem akK:aE Tryz.prog 122=true:=by kernel_rfl
theorem anK:aE Tryz.prog 123=true:=by kernel_rfl
theorem aiG:aE Tryz.prog 124=true:=by kernel_rfl
theorem amU:aE Tryz.prog 125=true:=by kernel_rfl
theorem aiS:aE Tryz.prog 126=true:=by kernel_rfl
theorem afW:aE Tryz.prog 127=true:=by kernel_rfl
theorem ajK:aE Tryz.prog 128=true:=by kernel_rfl
theorem ahT:aE Tryz.prog 129=true:=by kernel_rfl
theorem agV:aE Tryz.prog 130=true:=by kernel_rfl
theorem amY:aE Tryz.prog 131=true:=by kernel_rfl
theorem aeE:aE Tryz.prog 132=true:=by kernel_rfl
theorem afM:aE Tryz.prog 133=true:=by kernel_rfl
theorem acI:aE Tryz.prog 134=true:=by kernel_rfl
theorem afH:aE Tryz.prog 135=true:=by kernel_rfl
theorem aiB:aE Tryz.prog 136=true:=by kernel_rfl
theorem anW:aE Tryz.prog 137=true:=by kernel_rfl
theorem akB:aE Tryz.prog 138=true:=by kernel_rfl
theorem anT:aE Tryz.prog 139=true:=by kernel_rfl
theorem afR:aE Tryz.prog 140=true:=by kernel_rfl
theorem adQ:aE Tryz.prog 141=true:=by kernel_rfl
theorem anQ:aE Tryz.prog 142=true:=by kernel_rfl
theorem acR:aE Tryz.prog 143=true:=by kernel_rfl
theorem acN:aE Tryz.prog 144=true:=by kernel_rfl
theorem ahB:aE Tryz.prog 145=true:=by kernel_rfl
theorem amE:aE Tryz.prog 146=true:=by kernel_rfl
theorem ahG:aE Tryz.prog 147=true:=by kernel_rfl
theorem ahZ:aE Tryz.prog 148=true:=by kernel_rfl
theorem afX:aE Tryz.prog 149=true:=by kernel_rfl
theorem adZ:aE Tryz.prog 150=true:=by kernel_rfl
theorem acB:aE Tryz.prog 151=true:=by kernel_rfl
theorem ahQ:aE Tryz.prog 152=true:=by kernel_rfl
theorem ahC:aE Tryz.prog 153=true:=by kernel_rfl
theorem ahR:aE Tryz.prog 154=true:=by kernel_rfl
theorem aeH:aE Tryz.prog 155=true:=by kernel_rfl
theorem agB:aE Tryz.prog 156=true:=by kernel_rfl
theorem alI:aE Tryz.prog 157=true:=by kernel_rfl
theorem acM:aE Tryz.prog 158=true:=by kernel_rfl
theorem agO:aE Tryz.prog 159=true:=by kernel_rfl
theorem aiL:aE Tryz.prog 160=true:=by kernel_rfl
theorem ajZ:aE Tryz.prog 161=true:=by kernel_rfl
theorem adT:aE Tryz.prog 162=true:=by kernel_rfl
theorem amV:aE Tryz.prog 163=true:=by kernel_rfl
theorem amF:aE Tryz.prog 164=true:=by kernel_rfl
theorem ahN:aE Tryz.prog 165=true:=by kernel_rfl
theorem abY:aE Tryz.prog 166=true:=by kernel_rfl
theorem adG:aE Tryz.prog 167=true:=by kernel_rfl
theorem aeB:aE Tryz.prog 168=true:=by kernel_rfl
theorem akV:aE Tryz.prog 169=true:=by kernel_rfl
theorem akO:aE Tryz.prog 170=true:=by kernel_rfl
theorem acU:aE Tryz.prog 171=true:=by kernel_rfl
theorem amR:aE Tryz.prog 172=true:=by kernel_rfl
theorem adS:aE Tryz.prog 173=true:=by kernel_rfl
theorem anH:aE Tryz.prog 174=true:=by kernel_rfl
theorem abW:aE Tryz.prog 175=true:=by kernel_rfl
theorem aeF:aE Tryz.prog 176=true:=by kernel_rfl
theorem afQ:aE Tryz.prog 177=true:=by kernel_rfl
theorem adU:aE Tryz.prog 178=true:=by kernel_rfl
theorem amQ:aE Tryz.prog 179=true:=by kernel_rfl
theorem adL:aE Tryz.prog 180=true:=by kernel_rfl
theorem anY:aE Tryz.prog 181=true:=by kernel_rfl
theorem aiQ:aE Tryz.prog 182=true:=by kernel_rfl
theorem anS:aE Tryz.prog 183=true:=by kernel_rfl
theorem afP:aE Tryz.prog 184=true:=by kernel_rfl
theorem alS:aE Tryz.prog 185=true:=by kernel_rfl
theorem ahO:aE Tryz.prog 186=true:=by kernel_rfl
theorem acG:aE Tryz.prog 187=true:=by kernel_rfl
theorem aeU:aE Tryz.prog 188=true:=by kernel_rfl
theorem ahU:aE Tryz.prog 189=true:=by kernel_rfl
theorem alN:aE Tryz.prog 190=true:=by kernel_rfl
theorem anE:aE Tryz.prog 191=true:=by kernel_rfl
theorem amL:aE Tryz.prog 192=true:=by kernel_rfl
theorem amP:aE Tryz.prog 193=true:=by kernel_rfl
theorem agX:aE Tryz.prog 194=true:=by kernel_rfl
theorem akE:aE Tryz.prog 195=true:=by kernel_rfl
theorem aiW:aE Tryz.prog 196=true:=by kernel_rfl
theorem ajA:aE Tryz.prog 197=true:=by kernel_rfl
theorem aiN:aE Tryz.prog 198=true:=by kernel_rfl
theorem agP:aE Tryz.prog 199=true:=by kernel_rfl
theorem abU:aE Tryz.prog 200=true:=by kernel_rfl
theorem afN:aE Tryz.prog 201=true:=by kernel_rfl
theorem ajQ:aE Tryz.prog 202=true:=by kernel_rfl
theorem aeL:aE Tryz.prog 203=true:=by kernel_rfl
theorem akZ:aE Tryz.prog 204=true:=by kernel_rfl
theorem adJ:aE Tryz.prog 205=true:=by kernel_rfl
theorem afD:aE Tryz.prog 206=true:=by kernel_rfl
theorem amI:aE Tryz.prog 207=true:=by kernel_rfl
theorem aeX:aE Tryz.prog 208=true:=by kernel_rfl
theorem afY:aE Tryz.prog 209=true:=by kernel_rfl
theorem anP:aE Tryz.prog 210=true:=by kernel_rfl
theorem aiM:aE Tryz.prog 211=true:=by kernel_rfl
theorem aiE:aE Tryz.prog 212=true:=by kernel_rfl
theorem amN:aE Tryz.prog 213=true:=by kernel_rfl
theorem alM:aE Tryz.prog 214=true:=by kernel_rfl
theorem alE:aE Tryz.prog 215=true:=by kernel_rfl
theorem ajD:aE Tryz.prog 216=true:=by kernel_rfl
theorem anM:aE Tryz.prog 217=true:=by kernel_rfl
theorem anG:aE Tryz.prog 218=true:=by kernel_rfl
theorem adA:aE Tryz.prog 219=true:=by kernel_rfl
theorem alT:aE Tryz.prog 220=true:=by kernel_rfl
theorem aeC:aE Tryz.prog 221=true:=by kernel_rfl
theorem amG:aE Tryz.prog 222=true:=by kernel_rfl
theorem aiT:aE Tryz.prog 223=true:=by kernel_rfl
theorem agF:aE Tryz.prog 224=true:=by kernel_rfl
theorem agW:aE Tryz.prog 225=true:=by kernel_rfl
theorem akR:aE Tryz.prog 226=true:=by kernel_rfl
theorem amB:aE Tryz.prog 227=true:=by kernel_rfl
theorem anD:aE Tryz.prog 229=true:=by kernel_rfl
theorem agJ:aE Tryz.prog 230=true:=by kernel_rfl
theorem akA:aE Tryz.prog 231=true:=by kernel_rfl
theorem aeM:aE Tryz.prog 232=true:=by kernel_rfl
theorem akP:aE Tryz.prog 233=true:=by kernel_rfl
theorem aeK:aE Tryz.prog 234=true:=by kernel_rfl
theorem afI:aE Tryz.prog 235=true:=by kernel_rfl
theorem aeJ:aE Tryz.prog 236=true:=by kernel_rfl
theorem acQ:aE Tryz.prog 237=true:=by kernel_rfl
theorem alR:aE Tryz.prog 238=true:=by kernel_rfl
theorem acK:aE Tryz.prog 239=true:=by kernel_rfl
theorem alD:aE Tryz.prog 240=true:=by kernel_rfl
theorem aiY:aE Tryz.prog 241=true:=by kernel_rfl
theorem akD:aE Tryz.prog 242=true:=by kernel_rfl
theorem acT:aE Tryz.prog 243=true:=by kernel_rfl
theorem acS:aE Tryz.prog 245=true:=by kernel_rfl
theorem anJ:aE Tryz.prog 246=true:=by kernel_rfl
theorem adB:aE Tryz.prog 247=true:=by kernel_rfl
theorem agA:aE Tryz.prog 248=true:=by kernel_rfl
theorem acH:aE Tryz.prog 249=true:=by kernel_rfl
theorem ahX:aE Tryz.prog 250=true:=by kernel_rfl
theorem ajO:aE Tryz.prog 251=true:=by kernel_rfl
theorem ajP:aE Tryz.prog 252=true:=by kernel_rfl
theorem aeQ:aE Tryz.prog 253=true:=by kernel_rfl
theorem agM:aE Tryz.prog 254=true:=by kernel_rfl
theorem agC:aE Tryz.prog 255=true:=by kernel_rfl
theorem adF:aE Tryz.prog 256=true:=by kernel_rfl
theorem ahY:aE Tryz.prog 257=true:=by kernel_rfl
theorem aeP:aE Tryz.prog 258=true:=by kernel_rfl
theorem aiC:aE Tryz.prog 259=true:=by kernel_rfl
theorem adO:aE Tryz.prog 260=true:=by kernel_rfl
theorem ajB:aE Tryz.prog 261=true:=by kernel_rfl
theorem alL:aE Tryz.prog 262=true:=by kernel_rfl
theorem alK:aE Tryz.prog 263=true:=by kernel_rfl
theorem alH:aE Tryz.prog 264=true:=by kernel_rfl
theorem akL:aE Tryz.prog 265=true:=by kernel_rfl
theorem adP:aE Tryz.prog 266=true:=by kernel_rfl
theorem adM:aE Tryz.prog 268=true:=by kernel_rfl
theorem ahW:aE Tryz.prog 269=true:=by kernel_rfl
theorem anX:aE Tryz.prog 270=true:=by kernel_rfl
theorem alV:aE Tryz.prog 271=true:=by kernel_rfl
theorem agQ:aE Tryz.prog 272=true:=by kernel_rfl
theorem alU:aE Tryz.prog 273=true:=by kernel_rfl
theorem afV:aE Tryz.prog 274=true:=by kernel_rfl
theorem aiR:aE Tryz.prog 275=true:=by kernel_rfl
theorem akW:aE Tryz.prog 276=true:=by kernel_rfl
theorem amX:aE Tryz.prog 277=true:=by kernel_rfl
theorem afA:aE Tryz.prog 278=true:=by kernel_rfl
theorem acP:aE Tryz.prog 279=true:=by kernel_rfl
theorem anC:aE Tryz.prog 280=true:=by kernel_rfl
theorem amS:aE Tryz.prog 282=true:=by kernel_rfl
theorem agD:aE Tryz.prog 283=true:=by kernel_rfl
theorem abP:aE Tryz.prog 284=true:=by kernel_rfl
theorem aeW:aE Tryz.prog 285=true:=by kernel_rfl
theorem adI:aE Tryz.prog 286=true:=by kernel_rfl
theorem agE:aE Tryz.prog 287=true:=by kernel_rfl
theorem abT:aE Tryz.prog 288=true:=by kernel_rfl
theorem akT:aE Tryz.prog 289=true:=by kernel_rfl
theorem alG:aE Tryz.prog 290=true:=by kernel_rfl
theorem anL:aE Tryz.prog 291=true:=by kernel_rfl
theorem agT:aE Tryz.prog 292=true:=by kernel_rfl
theorem akF:aE Tryz.prog 293=true:=by kernel_rfl
theorem acO:aE Tryz.prog 294=true:=by kernel_rfl
theorem aiA:aE Tryz.prog 295=true:=by kernel_rfl
theorem ahH:aE Tryz.prog 296=true:=by kernel_rfl
theorem aeY:aE Tryz.prog 297=true:=by kernel_rfl
theorem amZ:aE Tryz.prog 298=true:=by kernel_rfl
theorem ajM:aE Tryz.prog 299=true:=by kernel_rfl
theorem acA:aE Tryz.prog 300=true:=by kernel_rfl
theorem aiV:aE Tryz.prog 301=true:=by kernel_rfl
theorem akU:aE Tryz.prog 302=true:=by kernel_rfl
theorem akX:aE Tryz.prog 303=true:=by kernel_rfl
theorem aiI:aE Tryz.prog 304=true:=by kernel_rfl
theorem alO:aE Tryz.prog 305=true:=by kernel_rfl
theorem akM:aE Tryz.prog 306=true:=by kernel_rfl
theorem akC:aE Tryz.prog 307=true:=by kernel_rfl
theorem agI:aE Tryz.prog 308=true:=by kernel_rfl
theorem afF:aE Tryz.prog 309=true:=by kernel_rfl
theorem agL:aE Tryz.prog 310=true:=by kernel_rfl
theorem ahV:aE Tryz.prog 311=true:=by kernel_rfl
theorem aeD:aE Tryz.prog 312=true:=by kernel_rfl
theorem aiU:aE Tryz.prog 313=true:=by kernel_rfl
theorem adY:aE Tryz.prog 314=true:=by kernel_rfl
theorem anV:aE Tryz.prog 316=true:=by kernel_rfl
theorem akQ:aE Tryz.prog 317=true:=by kernel_rfl
theorem anZ:aE Tryz.prog 318=true:=by kernel_rfl
theorem ajX:aE Tryz.prog 319=true:=by kernel_rfl
theorem anA:aE Tryz.prog 320=true:=by kernel_rfl
theorem ahE:aE Tryz.prog 321=true:=by kernel_rfl
theorem alX:aE Tryz.prog 345=true:=by kernel_rfl
attribute [go_sem] it3 it5 st9 it40 agR bo4 agN aaF aaY Z9 Z8 ZX abA Z5 abN Z4 ZL Zq aaJ ZC ZO Z7 ZR aaW XW Xa WI YN ZN Zv Zs Z2 Zz aaG Zt abK abB ZU abG aaO Zr abO aaI XZ Yh WR WY WL Wc X6 Wb YT YM YR Yx WB X1 WW X4 V8 Wd XJ XT XC Yw XV Yo XS V6 Wp WD Xt Yz YI WF Yd Wl Wi YH Wo Yu Yt XU XP WM Wg YD XO WK Xe Xj YF Yf el22 sl22 el23 sl23 el26 sl26 el27 sl27 el28 sl28 el31 sl31 el32 sl32 el43 sl43 st46 el61 sl61 el62 sl62 el91 sl91 aiX sl92 aeO abV ajL anF adC aeR akH ajS agS amK aeV abR alB ajU aiK acL ahJ agY akS ahA ahD amM alP afB ajV anN alF ajR adW ld3 ld4 ld9 ld22 ld23 ld25 ld26 ld27 ld28 ld30 ld31 ld35 ld43 ld46 ld87 ld92 ld94 ld97 alQ acW amT agU ajE amC aeI adX ahL ahP afC acF ahM kk3 pa25 pa30 pa87 pa89 pa94 pa97 anO ajG aiD agH akJ adR anU ajN amD anR akG aiO acE so3 so4 aiF agZ acJ RB acY QF akN Zf ze3 ze9 ni25 ze25 ni30 ze30 ze87 ni89 ze89 ze94 ze97 adH agG alW anI ahK acX Zk afS adE alZ ajH anB ahS adN co2 co3 co4 co5 co6 co7 co8 co9 co10 co11 co12 co13 co14 co15 co16 co17 co18 co19 co20 co21 co22 co23 co24 co25 co26 co27 co28 co29 co30 co31 co32 co33 co34 co35 co36 co37 co38 co39 co40 co41 co42 co43 co44 co45 co46 co47 co48 co49 co50 co51 co52 co53 co54 co55 co56 co57 co58 co59 co60 co61 co62 co63 co64 co65 co66 co67 co68 co69 co70 co71 co72 co73 co74 co75 co76 co77 co78 co79 co80 co81 co82 co83 co84 co85 co86 co87 co88 co89 co90 co91 co92 co93 co94 co95 co96 co97 co98 co99 ajY ajW afZ aeN aeA amH afJ abX alY adK afO alA aeS aiZ alC acD amO agK aeT aiP acV ajT akK anK aiG amU aiS afW ajK ahT agV amY aeE afM acI afH aiB anW akB anT afR adQ anQ acR acN ahB amE ahG ahZ afX adZ acB ahQ ahC ahR aeH agB alI acM agO aiL ajZ adT amV amF ahN abY adG aeB akV akO acU amR adS anH abW aeF afQ adU amQ adL anY aiQ anS afP alS ahO acG aeU ahU alN anE amL amP agX akE aiW ajA aiN agP abU afN ajQ aeL akZ adJ afD amI aeX afY anP aiM aiE amN alM alE ajD anM anG adA alT aeC amG aiT agF agW akR amB anD agJ akA aeM akP aeK afI aeJ acQ alR acK alD aiY akD acT acS anJ adB agA acH ahX ajO ajP aeQ agM agC adF ahY aeP aiC adO ajB alL alK alH akL adP adM ahW anX alV agQ alU afV aiR akW amX afA acP anC amS agD abP aeW adI agE abT akT alG anL agT akF acO aiA ahH aeY amZ ajM acA aiV akU akX aiI alO akM akC agI afF agL ahV aeD aiU adY anV akQ anZ ajX anA ahE alX
end Go.Proofs.YtdlijlecpopadaaGreatDoor.Ty
end

section
set_option linter.unusedSimpArgs false
namespace Go.Aw.D
open Go.Aw
def aO(n:Int):List AV:=[.v (.int .i64 n)]
def CN(b:Bool):List AV:=[.v (.bool b)]
def eH(s:ByteArray):List AV:=[.v (.string s)]
theorem Dl(x:Int):(aO x).length=1:=rfl
theorem UR(x:Int):(aO x).getD 0 .any=.v (.int .i64 x):=rfl
theorem Jb(x:Bool):(CN x).length=1:=rfl
theorem QW(x:Bool):(CN x).getD 0 .any=.v (.bool x):=rfl
theorem Nw(x:ByteArray):(eH x).length=1:=rfl
theorem TT(x:ByteArray):(eH x).getD 0 .any=.v (.string x):=rfl
structure Point where
 t:Int
 a:Int
 deriving DecidableEq
def bK(x:Point):List AV:=[.v (.int .i64 x.t),.v (.int .i64 x.a)]
theorem dZ(x:Point):(bK x).length=2:=rfl
theorem Oa(x:Point):(bK x).getD 0 .any=.v (.int .i64 x.t):=rfl
theorem Md(x:Point):(bK x).getD 1 .any=.v (.int .i64 x.a):=rfl
theorem Aq(x:Point):(bK x).take 2=bK x:=rfl
structure Arc where
 src:Int
 dst:Int
 profile:Int
 miles:Int
 travel:List Point
 slow:List Point
 deriving DecidableEq
def eS(x:Arc):List AV:=[.v (.int .i64 x.src),.v (.int .i64 x.dst),.v (.int .i64 x.profile),.v (.int .i64 x.miles),.sl (x.travel.map bK),.sl (x.slow.map bK)]
theorem dI(x:Arc):(eS x).length=6:=rfl
theorem VX(x:Arc):(eS x).getD 0 .any=.v (.int .i64 x.src):=rfl
theorem SB(x:Arc):(eS x).getD 1 .any=.v (.int .i64 x.dst):=rfl
theorem Sa(x:Arc):(eS x).getD 2 .any=.v (.int .i64 x.profile):=rfl
theorem Su(x:Arc):(eS x).getD 3 .any=.v (.int .i64 x.miles):=rfl
theorem S1(x:Arc):(eS x).getD 4 .any=.sl (x.travel.map bK):=rfl
theorem Sk(x:Arc):(eS x).getD 5 .any=.sl (x.slow.map bK):=rfl
theorem Mo(x:Arc):(eS x).take 6=eS x:=rfl
structure Network where
 places:List ByteArray
 arcs:List Arc
 deriving DecidableEq
def aT(x:Network):List AV:=[.sl (x.places.map eH),.sl (x.arcs.map eS)]
theorem Di(x:Network):(aT x).length=2:=rfl
theorem IW(x:Network):(aT x).getD 0 .any=.sl (x.places.map eH):=rfl
theorem Ie(x:Network):(aT x).getD 1 .any=.sl (x.arcs.map eS):=rfl
theorem C1(x:Network):(aT x).take 2=aT x:=rfl
structure VType where
 name:ByteArray
 count:Int
 src:Int
 dst:Int
 cap:List Int
 skills:Int
 profile:Int
 start:Int
 close:Int
 drive:Int
 rest:Int
 fixed:Int
 perMile:Int
 perTick:Int
 deriving DecidableEq
def bC(x:VType):List AV:=[.v (.string x.name),.v (.int .i64 x.count),.v (.int .i64 x.src),.v (.int .i64 x.dst),.sl (x.cap.map aO),.v (.int .i64 x.skills),.v (.int .i64 x.profile),.v (.int .i64 x.start),.v (.int .i64 x.close),.v (.int .i64 x.drive),.v (.int .i64 x.rest),.v (.int .i64 x.fixed),.v (.int .i64 x.perMile),.v (.int .i64 x.perTick)]
theorem zT(x:VType):(bC x).length=14:=rfl
theorem N4(x:VType):(bC x).getD 0 .any=.v (.string x.name):=rfl
theorem Oc(x:VType):(bC x).getD 1 .any=.v (.int .i64 x.count):=rfl
theorem Mg(x:VType):(bC x).getD 2 .any=.v (.int .i64 x.src):=rfl
theorem Of(x:VType):(bC x).getD 3 .any=.v (.int .i64 x.dst):=rfl
theorem Ml(x:VType):(bC x).getD 4 .any=.sl (x.cap.map aO):=rfl
theorem Nh(x:VType):(bC x).getD 5 .any=.v (.int .i64 x.skills):=rfl
theorem Mt(x:VType):(bC x).getD 6 .any=.v (.int .i64 x.profile):=rfl
theorem MY(x:VType):(bC x).getD 7 .any=.v (.int .i64 x.start):=rfl
theorem M6(x:VType):(bC x).getD 8 .any=.v (.int .i64 x.close):=rfl
theorem NF(x:VType):(bC x).getD 9 .any=.v (.int .i64 x.drive):=rfl
theorem Jn(x:VType):(bC x).getD 10 .any=.v (.int .i64 x.rest):=rfl
theorem Lo(x:VType):(bC x).getD 11 .any=.v (.int .i64 x.fixed):=rfl
theorem LT(x:VType):(bC x).getD 12 .any=.v (.int .i64 x.perMile):=rfl
theorem KQ(x:VType):(bC x).getD 13 .any=.v (.int .i64 x.perTick):=rfl
theorem Ia(x:VType):(bC x).take 14=bC x:=rfl
structure Stop where
 place:Int
 start:Int
 close:Int
 service:Int
 deriving DecidableEq
def iH(x:Stop):List AV:=[.v (.int .i64 x.place),.v (.int .i64 x.start),.v (.int .i64 x.close),.v (.int .i64 x.service)]
theorem kH(x:Stop):(iH x).length=4:=rfl
theorem QZ(x:Stop):(iH x).getD 0 .any=.v (.int .i64 x.place):=rfl
theorem PX(x:Stop):(iH x).getD 1 .any=.v (.int .i64 x.start):=rfl
theorem P2(x:Stop):(iH x).getD 2 .any=.v (.int .i64 x.close):=rfl
theorem Qb(x:Stop):(iH x).getD 3 .any=.v (.int .i64 x.service):=rfl
theorem JH(x:Stop):(iH x).take 4=iH x:=rfl
structure Order where
 name:ByteArray
 load:List Int
 pick:Stop
 drop:Stop
 skills:Int
 penalty:Int
 split:Int
 last:Int
 now:Int
 off:Bool
 deriving DecidableEq
def aV(x:Order):List AV:=[.v (.string x.name),.sl (x.load.map aO),.v (.int .i64 x.pick.place),.v (.int .i64 x.pick.start),.v (.int .i64 x.pick.close),.v (.int .i64 x.pick.service),.v (.int .i64 x.drop.place),.v (.int .i64 x.drop.start),.v (.int .i64 x.drop.close),.v (.int .i64 x.drop.service),.v (.int .i64 x.skills),.v (.int .i64 x.penalty),.v (.int .i64 x.split),.v (.int .i64 x.last),.v (.int .i64 x.now),.v (.bool x.off)]
theorem jH(x:Order):(aV x).length=16:=rfl
theorem NQ(x:Order):(aV x).getD 0 .any=.v (.string x.name):=rfl
theorem N1(x:Order):(aV x).getD 1 .any=.sl (x.load.map aO):=rfl
theorem Nn(x:Order):(aV x).getD 2 .any=.v (.int .i64 x.pick.place):=rfl
theorem Me(x:Order):(aV x).getD 3 .any=.v (.int .i64 x.pick.start):=rfl
theorem NV(x:Order):(aV x).getD 4 .any=.v (.int .i64 x.pick.close):=rfl
theorem MW(x:Order):(aV x).getD 5 .any=.v (.int .i64 x.pick.service):=rfl
theorem Og(x:Order):(aV x).getD 6 .any=.v (.int .i64 x.drop.place):=rfl
theorem Ms(x:Order):(aV x).getD 7 .any=.v (.int .i64 x.drop.start):=rfl
theorem MX(x:Order):(aV x).getD 8 .any=.v (.int .i64 x.drop.close):=rfl
theorem MB(x:Order):(aV x).getD 9 .any=.v (.int .i64 x.drop.service):=rfl
theorem Jl(x:Order):(aV x).getD 10 .any=.v (.int .i64 x.skills):=rfl
theorem Ku(x:Order):(aV x).getD 11 .any=.v (.int .i64 x.penalty):=rfl
theorem KJ(x:Order):(aV x).getD 12 .any=.v (.int .i64 x.split):=rfl
theorem Mb(x:Order):(aV x).getD 13 .any=.v (.int .i64 x.last):=rfl
theorem L9(x:Order):(aV x).getD 14 .any=.v (.int .i64 x.now):=rfl
theorem LG(x:Order):(aV x).getD 15 .any=.v (.bool x.off):=rfl
theorem HM(x:Order):(aV x).take 16=aV x:=rfl
theorem Fc(x:Order):((aV x).drop 2).take 4=iH x.pick:=rfl
theorem EX(x:Order):((aV x).drop 6).take 4=iH x.drop:=rfl
structure Pair where
 a:Int
 b:Int
 deriving DecidableEq
def gL(x:Pair):List AV:=[.v (.int .i64 x.a),.v (.int .i64 x.b)]
theorem KT(x:Pair):(gL x).length=2:=rfl
theorem Rr(x:Pair):(gL x).getD 0 .any=.v (.int .i64 x.a):=rfl
theorem QH(x:Pair):(gL x).getD 1 .any=.v (.int .i64 x.b):=rfl
theorem Lj(x:Pair):(gL x).take 2=gL x:=rfl
structure Instance where
 net:Network
 types:List VType
 orders:List Order
 apart:List Pair
 before:List Pair
 deriving DecidableEq
def aS(x:Instance):List AV:=[.sl (x.net.places.map eH),.sl (x.net.arcs.map eS),.sl (x.types.map bC),.sl (x.orders.map aV),.sl (x.apart.map gL),.sl (x.before.map gL)]
theorem vJ(x:Instance):(aS x).length=6:=rfl
theorem EO(x:Instance):(aS x).getD 0 .any=.sl (x.net.places.map eH):=rfl
theorem EQ(x:Instance):(aS x).getD 1 .any=.sl (x.net.arcs.map eS):=rfl
theorem EY(x:Instance):(aS x).getD 2 .any=.sl (x.types.map bC):=rfl
theorem E8(x:Instance):(aS x).getD 3 .any=.sl (x.orders.map aV):=rfl
theorem E0(x:Instance):(aS x).getD 4 .any=.sl (x.apart.map gL):=rfl
theorem EU(x:Instance):(aS x).getD 5 .any=.sl (x.before.map gL):=rfl
theorem CB(x:Instance):(aS x).take 6=aS x:=rfl
theorem CE(x:Instance):(aS x).take 2=aT x.net:=rfl
structure Visit where
 order:Int
 drop:Bool
 deriving DecidableEq
def bW(x:Visit):List AV:=[.v (.int .i64 x.order),.v (.bool x.drop)]
theorem qC(x:Visit):(bW x).length=2:=rfl
theorem NS(x:Visit):(bW x).getD 0 .any=.v (.int .i64 x.order):=rfl
theorem Mi(x:Visit):(bW x).getD 1 .any=.v (.bool x.drop):=rfl
theorem Io(x:Visit):(bW x).take 2=bW x:=rfl
structure Route where
 type:Int
 start:Int
 rests:List Bool
 visits:List Visit
 deriving DecidableEq
structure Plan where
 routes:List Route
 unserved:List Int
 deriving DecidableEq
structure Fault where
 err:Int
 at_:ByteArray
 deriving DecidableEq
def gH(x:Fault):List AV:=[.v (.int .i64 x.err),.v (.string x.at_)]
theorem Hs(x:Fault):(gH x).length=2:=rfl
theorem N6(x:Fault):(gH x).getD 0 .any=.v (.int .i64 x.err):=rfl
theorem Mw(x:Fault):(gH x).getD 1 .any=.v (.string x.at_):=rfl
theorem IG(x:Fault):(gH x).take 2=gH x:=rfl
structure Decision where
 kind:Int
 a:Int
 b:Int
 n:Int
 deriving DecidableEq
structure Column where
 type:Int
 set:Int
 price:Int
 route:Route
 deriving DecidableEq
structure Score where
 cost:Int
 moved:Int
 other:Int
 work:Int
 deriving DecidableEq
structure Cut where
 kind:Int
 set:Int
 n:Int
 deriving DecidableEq
structure TimeT where
 arrive:Int
 start:Int
 depart:Int
 rest:Bool
 deriving DecidableEq
structure Weight where
 yes:Int
 no:Int
 noneYes:Bool
 noneNo:Bool
 deriving DecidableEq
structure StepT where
 inst:Instance
 plan:Plan
 now:Int
 deriving DecidableEq
structure PRow where
 coef:List Int
 kind:Int
 right:Int
 deriving DecidableEq
structure PLin where
 cost:List Int
 rows:List PRow
 deriving DecidableEq
structure Ask where
 x:Instance
 l:List Column
 cuts:List Cut
 d:List Decision
 deriving DecidableEq
structure Sheet where
 rest:Bool
 depart:Int
 times:List TimeT
 stop:Int
 miles:Int
 deriving DecidableEq
attribute [go_sem] Dl UR Jb QW Nw TT dZ Oa Md Aq dI VX SB Sa Su S1 Sk Mo Di IW Ie C1 zT N4 Oc Mg Of Ml Nh Mt MY M6 NF Jn Lo LT KQ Ia kH QZ PX P2 Qb JH jH NQ N1 Nn Me NV MW Og Ms MX MB Jl Ku KJ Mb L9 LG HM Fc EX KT Rr QH Lj vJ EO EQ EY E8 E0 EU CB CE qC NS Mi Io Hs N6 Mw IG
theorem aH{α:Type}{f:α→List AV}{l:List α}{k:Nat}{x:α}(h:l[k]?=some x):(l.map f).getD k []=f x:=by simp[List.getD,h]
theorem YU{α:Type}(f:α→List AV)(l:List α):(l.map f).length=l.length:=List.length_map f
theorem xV(n:Nat):((n:Int)).toNat=n:=Int.toNat_natCast n
attribute [go_sem] YU xV
theorem aQ{n:Int}(h: -9223372036854775808≤n∧n≤9223372036854775807):IntKind.i64.wrap n=n:=IntWalk.i64_in n h
end Go.Aw.D
end
