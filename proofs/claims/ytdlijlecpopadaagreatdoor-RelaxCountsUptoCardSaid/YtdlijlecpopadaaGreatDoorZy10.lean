/- Texts joined by a program: Types, Data. -/
import Derived.Test.YtdlijlecpopadaaGreatDoorChecked
import Derived.KernelRfl
import Derived.Test.YtdlijlecpopadaaGreatDoorZy09

section
set_option linter.unusedSimpArgs false
namespace Go.Proofs.YtdlijlecpopadaaGreatDoor.Ty
open Go.Aw Go.Proofs
theorem mA{P:Program}{t:TypeId}(h:(P.info? t).map (·.size)=some 1):∃i,P.info? t=some i∧i.size=1:=by
 cases hi:P.info? t with
 | none=>simp[hi]at h
 | some i=>exact⟨i,rfl,by simpa[hi]using h⟩
theorem mixed:Tryz.prog.follows .mixedOrders=true:=by kernel_rfl
theorem it3:DI Tryz.prog 3=some .i64:=by kernel_rfl
theorem it5:DI Tryz.prog 5=some .u8:=by kernel_rfl
theorem st9:dS Tryz.prog 9=true:=by kernel_rfl
theorem it40:DI Tryz.prog 40=some .u64:=by kernel_rfl
theorem agP:A7 Tryz.prog 206=true:=by kernel_rfl
theorem bo4:xI Tryz.prog 4=true:=by kernel_rfl
theorem abG:xN Tryz.prog 285=some [0,0,0]:=by kernel_rfl
theorem YZ:aK Tryz.prog 25 0=some (0,none):=by kernel_rfl
theorem ZS:aK Tryz.prog 25 1=some (1,none):=by kernel_rfl
theorem Zw:aK Tryz.prog 30 0=some (0,some 2):=by kernel_rfl
theorem YW:aK Tryz.prog 30 1=some (2,none):=by kernel_rfl
theorem Zx:aK Tryz.prog 30 2=some (3,none):=by kernel_rfl
theorem Zl:aK Tryz.prog 30 3=some (4,none):=by kernel_rfl
theorem ZA:aK Tryz.prog 30 4=some (5,none):=by kernel_rfl
theorem YX:aK Tryz.prog 87 0=some (0,none):=by kernel_rfl
theorem Zj:aK Tryz.prog 87 1=some (1,none):=by kernel_rfl
theorem YY:aK Tryz.prog 87 2=some (2,none):=by kernel_rfl
theorem Y3:aK Tryz.prog 87 3=some (3,none):=by kernel_rfl
theorem YI:aK Tryz.prog 87 4=some (4,none):=by kernel_rfl
theorem YC:aK Tryz.prog 87 5=some (5,none):=by kernel_rfl
theorem ZK:aK Tryz.prog 87 6=some (6,none):=by kernel_rfl
theorem ZJ:aK Tryz.prog 87 7=some (7,none):=by kernel_rfl
theorem YR:aK Tryz.prog 87 8=some (8,none):=by kernel_rfl
theorem YA:aK Tryz.prog 87 9=some (9,none):=by kernel_rfl
theorem XE:aK Tryz.prog 87 10=some (10,none):=by kernel_rfl
theorem Wb:aK Tryz.prog 87 11=some (11,none):=by kernel_rfl
theorem Xy:aK Tryz.prog 87 12=some (12,none):=by kernel_rfl
theorem W8:aK Tryz.prog 87 13=some (13,none):=by kernel_rfl
theorem Zs:aK Tryz.prog 89 0=some (0,some 6):=by kernel_rfl
theorem Y1:aK Tryz.prog 89 1=some (6,none):=by kernel_rfl
theorem ZE:aK Tryz.prog 89 2=some (7,some 14):=by kernel_rfl
theorem Zk:aK Tryz.prog 89 3=some (21,none):=by kernel_rfl
theorem ZV:aK Tryz.prog 89 4=some (22,none):=by kernel_rfl
theorem Zo:aK Tryz.prog 89 5=some (23,none):=by kernel_rfl
theorem Y4:aK Tryz.prog 94 0=some (0,none):=by kernel_rfl
theorem YS:aK Tryz.prog 94 1=some (1,none):=by kernel_rfl
theorem Y0:aK Tryz.prog 94 2=some (2,none):=by kernel_rfl
theorem YU:aK Tryz.prog 94 3=some (3,none):=by kernel_rfl
theorem Zr:aK Tryz.prog 94 4=some (4,none):=by kernel_rfl
theorem ZU:aK Tryz.prog 94 5=some (5,none):=by kernel_rfl
theorem Zi:aK Tryz.prog 94 6=some (6,none):=by kernel_rfl
theorem Yv:aK Tryz.prog 97 0=some (0,none):=by kernel_rfl
theorem YT:aK Tryz.prog 97 1=some (1,none):=by kernel_rfl
theorem Xv:aK Tryz.prog 108 0=some (0,some 6):=by kernel_rfl
theorem WA:aK Tryz.prog 108 1=some (6,some 14):=by kernel_rfl
theorem Wv:aK Tryz.prog 108 2=some (20,none):=by kernel_rfl
theorem WU:aK Tryz.prog 108 3=some (21,none):=by kernel_rfl
theorem Xc:aK Tryz.prog 108 4=some (22,none):=by kernel_rfl
theorem Wq:aK Tryz.prog 108 5=some (23,none):=by kernel_rfl
theorem Ws:aK Tryz.prog 108 6=some (24,none):=by kernel_rfl
theorem V3:aK Tryz.prog 108 7=some (25,none):=by kernel_rfl
theorem Vy:aK Tryz.prog 108 8=some (26,none):=by kernel_rfl
theorem X5:aK Tryz.prog 108 9=some (27,none):=by kernel_rfl
theorem W6:aK Tryz.prog 128 0=some (0,none):=by kernel_rfl
theorem Xu:aK Tryz.prog 128 1=some (1,none):=by kernel_rfl
theorem Vt:aK Tryz.prog 136 0=some (0,none):=by kernel_rfl
theorem WC:aK Tryz.prog 136 1=some (1,none):=by kernel_rfl
theorem Wy:aK Tryz.prog 139 0=some (0,none):=by kernel_rfl
theorem VK:aK Tryz.prog 139 1=some (1,none):=by kernel_rfl
theorem WB:aK Tryz.prog 139 2=some (2,none):=by kernel_rfl
theorem V0:aK Tryz.prog 139 3=some (3,none):=by kernel_rfl
theorem W0:aK Tryz.prog 139 4=some (4,none):=by kernel_rfl
theorem Xw:aK Tryz.prog 139 5=some (5,none):=by kernel_rfl
theorem VS:aK Tryz.prog 141 0=some (0,none):=by kernel_rfl
theorem Xx:aK Tryz.prog 141 1=some (1,none):=by kernel_rfl
theorem XD:aK Tryz.prog 141 2=some (2,none):=by kernel_rfl
theorem Wh:aK Tryz.prog 141 3=some (3,none):=by kernel_rfl
theorem XC:aK Tryz.prog 143 0=some (0,none):=by kernel_rfl
theorem VI:aK Tryz.prog 143 1=some (1,none):=by kernel_rfl
theorem XU:aK Tryz.prog 143 2=some (2,some 4):=by kernel_rfl
theorem XO:aK Tryz.prog 143 3=some (6,some 4):=by kernel_rfl
theorem Xi:aK Tryz.prog 143 4=some (10,none):=by kernel_rfl
theorem WS:aK Tryz.prog 143 5=some (11,none):=by kernel_rfl
theorem Xn:aK Tryz.prog 143 6=some (12,none):=by kernel_rfl
theorem XP:aK Tryz.prog 143 7=some (13,none):=by kernel_rfl
theorem XX:aK Tryz.prog 143 8=some (14,none):=by kernel_rfl
theorem Wm:aK Tryz.prog 143 9=some (15,none):=by kernel_rfl
theorem V7:aK Tryz.prog 157 0=some (0,none):=by kernel_rfl
theorem VM:aK Tryz.prog 157 1=some (1,none):=by kernel_rfl
theorem VD:aK Tryz.prog 175 0=some (0,none):=by kernel_rfl
theorem XI:aK Tryz.prog 175 1=some (1,none):=by kernel_rfl
theorem Xp:aK Tryz.prog 177 0=some (0,none):=by kernel_rfl
theorem Wo:aK Tryz.prog 177 1=some (1,none):=by kernel_rfl
theorem Vm:aK Tryz.prog 177 2=some (2,none):=by kernel_rfl
theorem Vq:aK Tryz.prog 177 3=some (3,none):=by kernel_rfl
theorem VA:aK Tryz.prog 177 4=some (4,none):=by kernel_rfl
theorem Wn:aK Tryz.prog 177 5=some (5,none):=by kernel_rfl
theorem Xj:aK Tryz.prog 177 6=some (6,none):=by kernel_rfl
theorem Xg:aK Tryz.prog 177 7=some (7,none):=by kernel_rfl
theorem W9:aK Tryz.prog 177 8=some (8,none):=by kernel_rfl
theorem XQ:aK Tryz.prog 177 9=some (9,none):=by kernel_rfl
theorem Vp:aK Tryz.prog 183 0=some (0,none):=by kernel_rfl
theorem Xe:aK Tryz.prog 183 1=some (1,none):=by kernel_rfl
theorem el22:cG Tryz.prog 22=some (9,1,16):=by kernel_rfl
theorem sl22:cP Tryz.prog 22=true:=by kernel_rfl
theorem el23:cG Tryz.prog 23=some (139,6,80):=by kernel_rfl
theorem sl23:cP Tryz.prog 23=true:=by kernel_rfl
theorem el26:cG Tryz.prog 26=some (87,14,136):=by kernel_rfl
theorem sl26:cP Tryz.prog 26=true:=by kernel_rfl
theorem el27:cG Tryz.prog 27=some (143,16,152):=by kernel_rfl
theorem sl27:cP Tryz.prog 27=true:=by kernel_rfl
theorem el28:cG Tryz.prog 28=some (192,2,16):=by kernel_rfl
theorem sl28:cP Tryz.prog 28=true:=by kernel_rfl
theorem el31:cG Tryz.prog 31=some (3,1,8):=by kernel_rfl
theorem sl31:cP Tryz.prog 31=true:=by kernel_rfl
theorem el32:cG Tryz.prog 32=some (128,2,24):=by kernel_rfl
theorem sl32:cP Tryz.prog 32=true:=by kernel_rfl
theorem el43:cG Tryz.prog 43=some (46,1,16):=by kernel_rfl
theorem sl43:cP Tryz.prog 43=true:=by kernel_rfl
theorem st46:dS Tryz.prog 46=true:=by kernel_rfl
theorem el61:cG Tryz.prog 61=some (4,1,1):=by kernel_rfl
theorem sl61:cP Tryz.prog 61=true:=by kernel_rfl
theorem el62:cG Tryz.prog 62=some (97,2,16):=by kernel_rfl
theorem sl62:cP Tryz.prog 62=true:=by kernel_rfl
theorem el91:cG Tryz.prog 91=some (94,7,96):=by kernel_rfl
theorem sl91:cP Tryz.prog 91=true:=by kernel_rfl
theorem afA:cG Tryz.prog 92=some (157,2,16):=by kernel_rfl
theorem sl92:cP Tryz.prog 92=true:=by kernel_rfl
theorem ajP:cP Tryz.prog 125=true:=by kernel_rfl
theorem akV:cG Tryz.prog 131=some (35,1,8):=by kernel_rfl
theorem ajQ:cP Tryz.prog 131=true:=by kernel_rfl
theorem alB:cG Tryz.prog 137=some (136,2,16):=by kernel_rfl
theorem acS:cP Tryz.prog 137=true:=by kernel_rfl
theorem aaF:cG Tryz.prog 172=some (175,2,16):=by kernel_rfl
theorem akZ:cP Tryz.prog 172=true:=by kernel_rfl
theorem ajZ:cG Tryz.prog 179=some (183,2,24):=by kernel_rfl
theorem adV:cP Tryz.prog 179=true:=by kernel_rfl
theorem afG:sB Tryz.prog 189=some (2,1,none):=by kernel_rfl
theorem aaE:sB Tryz.prog 192=some (2,1,none):=by kernel_rfl
theorem Z0:cG Tryz.prog 206=some (5,1,1):=by kernel_rfl
theorem adB:cP Tryz.prog 206=true:=by kernel_rfl
theorem aeO:cG Tryz.prog 212=some (3,1,8):=by kernel_rfl
theorem alV:cP Tryz.prog 212=true:=by kernel_rfl
theorem Z1:cG Tryz.prog 234=some (189,2,32):=by kernel_rfl
theorem ajO:cP Tryz.prog 234=true:=by kernel_rfl
theorem ajI:cP Tryz.prog 236=true:=by kernel_rfl
theorem ahG:cP Tryz.prog 273=true:=by kernel_rfl
theorem ahE:sB Tryz.prog 277=some (4,1,none):=by kernel_rfl
theorem ajD:sB Tryz.prog 289=some (4,1,none):=by kernel_rfl
theorem adZ:sB Tryz.prog 298=some (24,1,none):=by kernel_rfl
theorem ahU:cP Tryz.prog 310=true:=by kernel_rfl
theorem adU:cP Tryz.prog 315=true:=by kernel_rfl
theorem ajF:cP Tryz.prog 323=true:=by kernel_rfl
theorem aeF:sB Tryz.prog 341=some (20,1,none):=by kernel_rfl
theorem aeK:sB Tryz.prog 342=some (65,1,none):=by kernel_rfl
theorem acT:sB Tryz.prog 367=some (32,1,none):=by kernel_rfl
theorem acM:sB Tryz.prog 368=some (64,1,none):=by kernel_rfl
theorem ld3:ldT Tryz.prog 3=some none:=by kernel_rfl
theorem ld4:ldT Tryz.prog 4=some none:=by kernel_rfl
theorem ld9:ldT Tryz.prog 9=some none:=by kernel_rfl
theorem ld22:ldT Tryz.prog 22=some none:=by kernel_rfl
theorem ld23:ldT Tryz.prog 23=some none:=by kernel_rfl
theorem ld25:ldT Tryz.prog 25=some (some 2):=by kernel_rfl
theorem ld26:ldT Tryz.prog 26=some none:=by kernel_rfl
theorem ld27:ldT Tryz.prog 27=some none:=by kernel_rfl
theorem ld28:ldT Tryz.prog 28=some none:=by kernel_rfl
theorem ld30:ldT Tryz.prog 30=some (some 6):=by kernel_rfl
theorem ld31:ldT Tryz.prog 31=some none:=by kernel_rfl
theorem ld35:ldT Tryz.prog 35=some none:=by kernel_rfl
theorem ld43:ldT Tryz.prog 43=some none:=by kernel_rfl
theorem ld46:ldT Tryz.prog 46=some none:=by kernel_rfl
theorem ld87:ldT Tryz.prog 87=some (some 14):=by kernel_rfl
theorem ld92:ldT Tryz.prog 92=some none:=by kernel_rfl
theorem ld94:ldT Tryz.prog 94=some (some 7):=by kernel_rfl
theorem ld97:ldT Tryz.prog 97=some (some 2):=by kernel_rfl
theorem aiH:ldT Tryz.prog 136=some (some 2):=by kernel_rfl
theorem abI:ldT Tryz.prog 137=some none:=by kernel_rfl
theorem afQ:ldT Tryz.prog 139=some (some 6):=by kernel_rfl
theorem ahX:ldT Tryz.prog 141=some (some 4):=by kernel_rfl
theorem akI:ldT Tryz.prog 143=some (some 16):=by kernel_rfl
theorem acD:ldT Tryz.prog 157=some (some 2):=by kernel_rfl
theorem acV:ldT Tryz.prog 172=some none:=by kernel_rfl
theorem afN:ldT Tryz.prog 175=some (some 2):=by kernel_rfl
theorem adL:ldT Tryz.prog 177=some (some 10):=by kernel_rfl
theorem afE:ldT Tryz.prog 183=some (some 2):=by kernel_rfl
theorem ajE:ldT Tryz.prog 189=some (some 2):=by kernel_rfl
theorem alE:ldT Tryz.prog 285=some (some 3):=by kernel_rfl
theorem Z2:ldT Tryz.prog 289=some (some 4):=by kernel_rfl
theorem kk3:rB Tryz.prog 3=some 0:=by kernel_rfl
theorem pa25:fB Tryz.prog 25=some [(0,1),(1,1)]:=by kernel_rfl
theorem pa30:fB Tryz.prog 30=some [(0,2),(2,1),(3,1),(4,1),(5,1)]:=by kernel_rfl
theorem pa87:fB Tryz.prog 87=some [(0,1),(1,1),(2,1),(3,1),(4,1),(5,1),(6,1),(7,1),(8,1),(9,1),(10,1),(11,1),(12,1),(13,1)]:=by kernel_rfl
theorem pa89:fB Tryz.prog 89=some [(0,6),(6,1),(7,14),(21,1),(22,1),(23,1)]:=by kernel_rfl
theorem pa94:fB Tryz.prog 94=some [(0,1),(1,1),(2,1),(3,1),(4,1),(5,1),(6,1)]:=by kernel_rfl
theorem pa97:fB Tryz.prog 97=some [(0,1),(1,1)]:=by kernel_rfl
theorem Z7:fB Tryz.prog 108=some [(0,6),(6,14),(20,1),(21,1),(22,1),(23,1),(24,1),(25,1),(26,1),(27,1)]:=by kernel_rfl
theorem akH:fB Tryz.prog 128=some [(0,1),(1,1)]:=by kernel_rfl
theorem abY:fB Tryz.prog 136=some [(0,1),(1,1)]:=by kernel_rfl
theorem ajY:fB Tryz.prog 139=some [(0,1),(1,1),(2,1),(3,1),(4,1),(5,1)]:=by kernel_rfl
theorem afR:fB Tryz.prog 141=some [(0,1),(1,1),(2,1),(3,1)]:=by kernel_rfl
theorem aiQ:fB Tryz.prog 143=some [(0,1),(1,1),(2,4),(6,4),(10,1),(11,1),(12,1),(13,1),(14,1),(15,1)]:=by kernel_rfl
theorem ajA:fB Tryz.prog 157=some [(0,1),(1,1)]:=by kernel_rfl
theorem adO:fB Tryz.prog 175=some [(0,1),(1,1)]:=by kernel_rfl
theorem aiE:fB Tryz.prog 177=some [(0,1),(1,1),(2,1),(3,1),(4,1),(5,1),(6,1),(7,1),(8,1),(9,1)]:=by kernel_rfl
theorem aeR:fB Tryz.prog 183=some [(0,1),(1,1)]:=by kernel_rfl
theorem agB:fB Tryz.prog 189=some [(0,1),(1,1)]:=by kernel_rfl
theorem aeI:fB Tryz.prog 285=some [(0,1),(1,1),(2,1)]:=by kernel_rfl
theorem aiA:fB Tryz.prog 289=some [(0,1),(1,1),(2,1),(3,1)]:=by kernel_rfl
theorem so3:∃i,Tryz.prog.info? 3=some i∧i.size=1:=mA (by kernel_rfl)
theorem so4:∃i,Tryz.prog.info? 4=some i∧i.size=1:=mA (by kernel_rfl)
theorem aeH:∃i,Tryz.prog.info? 23=some i∧i.size=1:=mA (by kernel_rfl)
theorem acE:∃i,Tryz.prog.info? 26=some i∧i.size=1:=mA (by kernel_rfl)
theorem aaI:∃i,Tryz.prog.info? 27=some i∧i.size=1:=mA (by kernel_rfl)
theorem Pg:∃i,Tryz.prog.info? 31=some i∧i.size=1:=mA (by kernel_rfl)
theorem agW:∃i,Tryz.prog.info? 43=some i∧i.size=1:=mA (by kernel_rfl)
theorem Qs:∃i,Tryz.prog.info? 46=some i∧i.size=1:=mA (by kernel_rfl)
theorem akM:∃i,Tryz.prog.info? 92=some i∧i.size=1:=mA (by kernel_rfl)
theorem Ym:∃i,Tryz.prog.info? 172=some i∧i.size=1:=mA (by kernel_rfl)
theorem ze3:eF Tryz.prog 3=some [.v (.int .i64 0)]:=by kernel_rfl
theorem ze9:eF Tryz.prog 9=some [.v (.string ByteArray.empty)]:=by kernel_rfl
theorem ni25:oU Tryz.prog 25=some [(0,9,1),(1,139,6)]:=by kernel_rfl
theorem ze25:eF Tryz.prog 25=some [.sl [],.sl []]:=by kernel_rfl
theorem ni30:oU Tryz.prog 30=some [(0,9,1),(1,139,6),(2,87,14),(3,143,16),(4,192,2),(5,192,2)]:=by kernel_rfl
theorem ze30:eF Tryz.prog 30=some [.sl [],.sl [],.sl [],.sl [],.sl [],.sl []]:=by kernel_rfl
theorem ze87:eF Tryz.prog 87=some [.v (.string ByteArray.empty),.v (.int .i64 0),.v (.int .i64 0),.v (.int .i64 0),.sl [],.v (.int .i64 0),.v (.int .i64 0),.v (.int .i64 0),.v (.int .i64 0),.v (.int .i64 0),.v (.int .i64 0),.v (.int .i64 0),.v (.int .i64 0),.v (.int .i64 0)]:=by kernel_rfl
theorem ni89:oU Tryz.prog 89=some [(0,9,1),(1,139,6),(2,87,14),(3,143,16),(4,192,2),(5,192,2),(11,3,1),(21,3,1),(22,46,1)]:=by kernel_rfl
theorem ze89:eF Tryz.prog 89=some [.sl [],.sl [],.sl [],.sl [],.sl [],.sl [],.v (.int .i64 0),.v (.string ByteArray.empty),.v (.int .i64 0),.v (.int .i64 0),.v (.int .i64 0),.sl [],.v (.int .i64 0),.v (.int .i64 0),.v (.int .i64 0),.v (.int .i64 0),.v (.int .i64 0),.v (.int .i64 0),.v (.int .i64 0),.v (.int .i64 0),.v (.int .i64 0),.sl [],.sl [],.v (.int .i64 0)]:=by kernel_rfl
theorem ze94:eF Tryz.prog 94=some [.v (.int .i64 0),.v (.int .i64 0),.v (.int .i64 0),.v (.int .i64 0),.sl [],.sl [],.v (.string ByteArray.empty)]:=by kernel_rfl
theorem ze97:eF Tryz.prog 97=some [.v (.int .i64 0),.v (.bool false)]:=by kernel_rfl
theorem ahC:eF Tryz.prog 108=some [.sl [],.sl [],.sl [],.sl [],.sl [],.sl [],.v (.string ByteArray.empty),.v (.int .i64 0),.v (.int .i64 0),.v (.int .i64 0),.sl [],.v (.int .i64 0),.v (.int .i64 0),.v (.int .i64 0),.v (.int .i64 0),.v (.int .i64 0),.v (.int .i64 0),.v (.int .i64 0),.v (.int .i64 0),.v (.int .i64 0),.v (.int .i64 0),.sl [],.sl [],.v (.int .i64 0),.v (.int .i64 0),.v (.bool false),.v (.bool false),.v (.string ByteArray.empty)]:=by kernel_rfl
theorem acR:eF Tryz.prog 128=some [.v (.int .i64 0),.v (.string ByteArray.empty)]:=by kernel_rfl
theorem aeD:eF Tryz.prog 136=some [.v (.int .i64 0),.v (.int .i64 0)]:=by kernel_rfl
theorem acW:eF Tryz.prog 139=some [.v (.int .i64 0),.v (.int .i64 0),.v (.int .i64 0),.v (.int .i64 0),.sl [],.sl []]:=by kernel_rfl
theorem agY:eF Tryz.prog 141=some [.v (.int .i64 0),.v (.int .i64 0),.v (.int .i64 0),.v (.int .i64 0)]:=by kernel_rfl
theorem aeQ:eF Tryz.prog 143=some [.v (.string ByteArray.empty),.sl [],.v (.int .i64 0),.v (.int .i64 0),.v (.int .i64 0),.v (.int .i64 0),.v (.int .i64 0),.v (.int .i64 0),.v (.int .i64 0),.v (.int .i64 0),.v (.int .i64 0),.v (.int .i64 0),.v (.int .i64 0),.v (.int .i64 0),.v (.int .i64 0),.v (.bool false)]:=by kernel_rfl
theorem Yg:eF Tryz.prog 157=some [.v (.int .i64 0),.v (.int .i64 0)]:=by kernel_rfl
theorem aaG:eF Tryz.prog 175=some [.v (.int .i64 0),.v (.int .i64 0)]:=by kernel_rfl
theorem alD:oU Tryz.prog 177=some [(3,175,2),(6,3,1)]:=by kernel_rfl
theorem ZX:eF Tryz.prog 177=some [.v (.int .i64 0),.v (.int .i64 0),.v (.int .i64 0),.sl [],.v (.int .i64 0),.v (.int .i64 0),.sl [],.v (.int .i64 0),.v (.int .i64 0),.v (.string ByteArray.empty)]:=by kernel_rfl
theorem adW:eF Tryz.prog 183=some [.v (.bool false),.v (.string ByteArray.empty)]:=by kernel_rfl
theorem aaT:eF Tryz.prog 189=some [.v (.string ByteArray.empty),.v (.string ByteArray.empty)]:=by kernel_rfl
theorem aiV:eF Tryz.prog 285=some [.v (.int .i64 0),.v (.int .i64 0),.v (.int .i64 0)]:=by kernel_rfl
theorem aaP:eF Tryz.prog 289=some [.v (.string ByteArray.empty),.v (.string ByteArray.empty),.v (.string ByteArray.empty),.v (.string ByteArray.empty)]:=by kernel_rfl
theorem co2:aD Tryz.prog 2=true:=by kernel_rfl
theorem co3:aD Tryz.prog 3=true:=by kernel_rfl
theorem co4:aD Tryz.prog 4=true:=by kernel_rfl
theorem co5:aD Tryz.prog 5=true:=by kernel_rfl
theorem co6:aD Tryz.prog 6=true:=by kernel_rfl
theorem co7:aD Tryz.prog 7=true:=by kernel_rfl
theorem co8:aD Tryz.prog 8=true:=by kernel_rfl
theorem co9:aD Tryz.prog 9=true:=by kernel_rfl
theorem co10:aD Tryz.prog 10=true:=by kernel_rfl
theorem co11:aD Tryz.prog 11=true:=by kernel_rfl
theorem co12:aD Tryz.prog 12=true:=by kernel_rfl
theorem co13:aD Tryz.prog 13=true:=by kernel_rfl
theorem co14:aD Tryz.prog 14=true:=by kernel_rfl
theorem co15:aD Tryz.prog 15=true:=by kernel_rfl
theorem co16:aD Tryz.prog 16=true:=by kernel_rfl
theorem co17:aD Tryz.prog 17=true:=by kernel_rfl
theorem co18:aD Tryz.prog 18=true:=by kernel_rfl
theorem co19:aD Tryz.prog 19=true:=by kernel_rfl
theorem co20:aD Tryz.prog 20=true:=by kernel_rfl
theorem co21:aD Tryz.prog 21=true:=by kernel_rfl
theorem co22:aD Tryz.prog 22=true:=by kernel_rfl
theorem co23:aD Tryz.prog 23=true:=by kernel_rfl
theorem co24:aD Tryz.prog 24=true:=by kernel_rfl
theorem co25:aD Tryz.prog 25=true:=by kernel_rfl
theorem co26:aD Tryz.prog 26=true:=by kernel_rfl
theorem co27:aD Tryz.prog 27=true:=by kernel_rfl
theorem co28:aD Tryz.prog 28=true:=by kernel_rfl
theorem co29:aD Tryz.prog 29=true:=by kernel_rfl
theorem co30:aD Tryz.prog 30=true:=by kernel_rfl
theorem co31:aD Tryz.prog 31=true:=by kernel_rfl
theorem co32:aD Tryz.prog 32=true:=by kernel_rfl
theorem co33:aD Tryz.prog 33=true:=by kernel_rfl
theorem co34:aD Tryz.prog 34=true:=by kernel_rfl
theorem co35:aD Tryz.prog 35=true:=by kernel_rfl
theorem co36:aD Tryz.prog 36=true:=by kernel_rfl
theorem co37:aD Tryz.prog 37=true:=by kernel_rfl
theorem co38:aD Tryz.prog 38=true:=by kernel_rfl
theorem co39:aD Tryz.prog 39=true:=by kernel_rfl
theorem co40:aD Tryz.prog 40=true:=by kernel_rfl
theorem co41:aD Tryz.prog 41=true:=by kernel_rfl
theorem co42:aD Tryz.prog 42=true:=by kernel_rfl
theorem co43:aD Tryz.prog 43=true:=by kernel_rfl
theorem co44:aD Tryz.prog 44=true:=by kernel_rfl
theorem co45:aD Tryz.prog 45=true:=by kernel_rfl
theorem co46:aD Tryz.prog 46=true:=by kernel_rfl
theorem co47:aD Tryz.prog 47=true:=by kernel_rfl
theorem co48:aD Tryz.prog 48=true:=by kernel_rfl
theorem co49:aD Tryz.prog 49=true:=by kernel_rfl
theorem co50:aD Tryz.prog 50=true:=by kernel_rfl
theorem co51:aD Tryz.prog 51=true:=by kernel_rfl
theorem co52:aD Tryz.prog 52=true:=by kernel_rfl
theorem co53:aD Tryz.prog 53=true:=by kernel_rfl
theorem co54:aD Tryz.prog 54=true:=by kernel_rfl
theorem co55:aD Tryz.prog 55=true:=by kernel_rfl
theorem co56:aD Tryz.prog 56=true:=by kernel_rfl
theorem co57:aD Tryz.prog 57=true:=by kernel_rfl
theorem co58:aD Tryz.prog 58=true:=by kernel_rfl
theorem co59:aD Tryz.prog 59=true:=by kernel_rfl
theorem co60:aD Tryz.prog 60=true:=by kernel_rfl
theorem co61:aD Tryz.prog 61=true:=by kernel_rfl
theorem co62:aD Tryz.prog 62=true:=by kernel_rfl
theorem co63:aD Tryz.prog 63=true:=by kernel_rfl
theorem co64:aD Tryz.prog 64=true:=by kernel_rfl
theorem co65:aD Tryz.prog 65=true:=by kernel_rfl
theorem co66:aD Tryz.prog 66=true:=by kernel_rfl
theorem co67:aD Tryz.prog 67=true:=by kernel_rfl
theorem co68:aD Tryz.prog 68=true:=by kernel_rfl
theorem co69:aD Tryz.prog 69=true:=by kernel_rfl
theorem co70:aD Tryz.prog 70=true:=by kernel_rfl
theorem co71:aD Tryz.prog 71=true:=by kernel_rfl
theorem co72:aD Tryz.prog 72=true:=by kernel_rfl
theorem co73:aD Tryz.prog 73=true:=by kernel_rfl
theorem co74:aD Tryz.prog 74=true:=by kernel_rfl
theorem co75:aD Tryz.prog 75=true:=by kernel_rfl
theorem co76:aD Tryz.prog 76=true:=by kernel_rfl
theorem co77:aD Tryz.prog 77=true:=by kernel_rfl
theorem co78:aD Tryz.prog 78=true:=by kernel_rfl
theorem co79:aD Tryz.prog 79=true:=by kernel_rfl
theorem co80:aD Tryz.prog 80=true:=by kernel_rfl
theorem co81:aD Tryz.prog 81=true:=by kernel_rfl
theorem co82:aD Tryz.prog 82=true:=by kernel_rfl
theorem co83:aD Tryz.prog 83=true:=by kernel_rfl
theorem co84:aD Tryz.prog 84=true:=by kernel_rfl
theorem co85:aD Tryz.prog 85=true:=by kernel_rfl
theorem co86:aD Tryz.prog 86=true:=by kernel_rfl
theorem co87:aD Tryz.prog 87=true:=by kernel_rfl
theorem co88:aD Tryz.prog 88=true:=by kernel_rfl
theorem co89:aD Tryz.prog 89=true:=by kernel_rfl
theorem co90:aD Tryz.prog 90=true:=by kernel_rfl
theorem co91:aD Tryz.prog 91=true:=by kernel_rfl
theorem co92:aD Tryz.prog 92=true:=by kernel_rfl
theorem co93:aD Tryz.prog 93=true:=by kernel_rfl
theorem co94:aD Tryz.prog 94=true:=by kernel_rfl
theorem co95:aD Tryz.prog 95=true:=by kernel_rfl
theorem co96:aD Tryz.prog 96=true:=by kernel_rfl
theorem co97:aD Tryz.prog 97=true:=by kernel_rfl
theorem co98:aD Tryz.prog 98=true:=by kernel_rfl
theorem co99:aD Tryz.prog 99=true:=by kernel_rfl
theorem ajH:aD Tryz.prog 100=true:=by kernel_rfl
theorem ajT:aD Tryz.prog 101=true:=by kernel_rfl
theorem aiU:aD Tryz.prog 102=true:=by kernel_rfl
theorem aeX:aD Tryz.prog 103=true:=by kernel_rfl
theorem aeM:aD Tryz.prog 104=true:=by kernel_rfl
theorem adG:aD Tryz.prog 105=true:=by kernel_rfl
theorem ahZ:aD Tryz.prog 106=true:=by kernel_rfl
theorem ahR:aD Tryz.prog 107=true:=by kernel_rfl
theorem ajN:aD Tryz.prog 108=true:=by kernel_rfl
theorem adH:aD Tryz.prog 109=true:=by kernel_rfl
theorem afI:aD Tryz.prog 110=true:=by kernel_rfl
theorem acK:aD Tryz.prog 111=true:=by kernel_rfl
theorem agH:aD Tryz.prog 112=true:=by kernel_rfl
theorem alS:aD Tryz.prog 113=true:=by kernel_rfl
theorem akE:aD Tryz.prog 114=true:=by kernel_rfl
theorem akN:aD Tryz.prog 115=true:=by kernel_rfl
theorem adT:aD Tryz.prog 116=true:=by kernel_rfl
theorem abR:aD Tryz.prog 117=true:=by kernel_rfl
theorem alN:aD Tryz.prog 118=true:=by kernel_rfl
theorem ajL:aD Tryz.prog 119=true:=by kernel_rfl
theorem ahL:aD Tryz.prog 120=true:=by kernel_rfl
theorem aeY:aD Tryz.prog 121=true:=by kernel_rfl
theorem akR:aD Tryz.prog 122=true:=by kernel_rfl
theorem aiK:aD Tryz.prog 123=true:=by kernel_rfl
theorem agE:aD Tryz.prog 124=true:=by kernel_rfl
theorem aiY:aD Tryz.prog 125=true:=by kernel_rfl
theorem aiD:aD Tryz.prog 126=true:=by kernel_rfl
theorem abT:aD Tryz.prog 127=true:=by kernel_rfl
theorem ahI:aD Tryz.prog 128=true:=by kernel_rfl
theorem ahS:aD Tryz.prog 129=true:=by kernel_rfl
theorem aeL:aD Tryz.prog 130=true:=by kernel_rfl
theorem aaJ:aD Tryz.prog 131=true:=by kernel_rfl
theorem ajB:aD Tryz.prog 132=true:=by kernel_rfl
theorem aaS:aD Tryz.prog 133=true:=by kernel_rfl
theorem aiM:aD Tryz.prog 134=true:=by kernel_rfl
theorem agL:aD Tryz.prog 135=true:=by kernel_rfl
theorem acL:aD Tryz.prog 136=true:=by kernel_rfl
theorem aiS:aD Tryz.prog 137=true:=by kernel_rfl
theorem aeG:aD Tryz.prog 138=true:=by kernel_rfl
theorem abO:aD Tryz.prog 139=true:=by kernel_rfl
theorem agC:aD Tryz.prog 140=true:=by kernel_rfl
theorem acI:aD Tryz.prog 141=true:=by kernel_rfl
theorem alH:aD Tryz.prog 142=true:=by kernel_rfl
theorem adC:aD Tryz.prog 143=true:=by kernel_rfl
theorem abX:aD Tryz.prog 144=true:=by kernel_rfl
theorem akF:aD Tryz.prog 145=true:=by kernel_rfl
theorem afH:aD Tryz.prog 146=true:=by kernel_rfl
theorem aeZ:aD Tryz.prog 147=true:=by kernel_rfl
theorem ajG:aD Tryz.prog 148=true:=by kernel_rfl
theorem ahY:aD Tryz.prog 149=true:=by kernel_rfl
theorem akU:aD Tryz.prog 150=true:=by kernel_rfl
theorem afU:aD Tryz.prog 151=true:=by kernel_rfl
theorem alA:aD Tryz.prog 152=true:=by kernel_rfl
theorem akB:aD Tryz.prog 153=true:=by kernel_rfl
theorem afM:aD Tryz.prog 154=true:=by kernel_rfl
theorem ajK:aD Tryz.prog 155=true:=by kernel_rfl
theorem adE:aD Tryz.prog 156=true:=by kernel_rfl
theorem adS:aD Tryz.prog 157=true:=by kernel_rfl
theorem alG:aD Tryz.prog 158=true:=by kernel_rfl
theorem aaD:aD Tryz.prog 159=true:=by kernel_rfl
theorem agK:aD Tryz.prog 160=true:=by kernel_rfl
theorem acC:aD Tryz.prog 161=true:=by kernel_rfl
theorem ajV:aD Tryz.prog 162=true:=by kernel_rfl
theorem agS:aD Tryz.prog 163=true:=by kernel_rfl
theorem aiN:aD Tryz.prog 164=true:=by kernel_rfl
theorem agN:aD Tryz.prog 165=true:=by kernel_rfl
theorem aiI:aD Tryz.prog 166=true:=by kernel_rfl
theorem alO:aD Tryz.prog 167=true:=by kernel_rfl
theorem ajJ:aD Tryz.prog 168=true:=by kernel_rfl
theorem aaX:aD Tryz.prog 169=true:=by kernel_rfl
theorem ajU:aD Tryz.prog 170=true:=by kernel_rfl
theorem afO:aD Tryz.prog 171=true:=by kernel_rfl
theorem acY:aD Tryz.prog 172=true:=by kernel_rfl
theorem akT:aD Tryz.prog 173=true:=by kernel_rfl
theorem aeA:aD Tryz.prog 174=true:=by kernel_rfl
theorem aaZ:aD Tryz.prog 175=true:=by kernel_rfl
theorem abV:aD Tryz.prog 176=true:=by kernel_rfl
theorem afT:aD Tryz.prog 177=true:=by kernel_rfl
theorem adJ:aD Tryz.prog 178=true:=by kernel_rfl
theorem abP:aD Tryz.prog 179=true:=by kernel_rfl
theorem afS:aD Tryz.prog 180=true:=by kernel_rfl
theorem ajC:aD Tryz.prog 181=true:=by kernel_rfl
theorem aaM:aD Tryz.prog 182=true:=by kernel_rfl
theorem aiT:aD Tryz.prog 183=true:=by kernel_rfl
theorem agQ:aD Tryz.prog 184=true:=by kernel_rfl
theorem ZY:aD Tryz.prog 185=true:=by kernel_rfl
theorem adQ:aD Tryz.prog 186=true:=by kernel_rfl
theorem akX:aD Tryz.prog 187=true:=by kernel_rfl
theorem afX:aD Tryz.prog 188=true:=by kernel_rfl
theorem adD:aD Tryz.prog 189=true:=by kernel_rfl
theorem aiJ:aD Tryz.prog 190=true:=by kernel_rfl
theorem afF:aD Tryz.prog 191=true:=by kernel_rfl
theorem acQ:aD Tryz.prog 192=true:=by kernel_rfl
theorem abZ:aD Tryz.prog 193=true:=by kernel_rfl
theorem akD:aD Tryz.prog 194=true:=by kernel_rfl
theorem agF:aD Tryz.prog 195=true:=by kernel_rfl
theorem Z3:aD Tryz.prog 196=true:=by kernel_rfl
theorem adX:aD Tryz.prog 197=true:=by kernel_rfl
theorem akW:aD Tryz.prog 198=true:=by kernel_rfl
theorem adY:aD Tryz.prog 199=true:=by kernel_rfl
theorem aiP:aD Tryz.prog 200=true:=by kernel_rfl
theorem agA:aD Tryz.prog 201=true:=by kernel_rfl
theorem afZ:aD Tryz.prog 202=true:=by kernel_rfl
theorem aiF:aD Tryz.prog 203=true:=by kernel_rfl
theorem aaC:aD Tryz.prog 204=true:=by kernel_rfl
theorem adA:aD Tryz.prog 205=true:=by kernel_rfl
theorem akC:aD Tryz.prog 206=true:=by kernel_rfl
theorem abS:aD Tryz.prog 207=true:=by kernel_rfl
theorem ahD:aD Tryz.prog 208=true:=by kernel_rfl
theorem ajX:aD Tryz.prog 209=true:=by kernel_rfl
theorem akP:aD Tryz.prog 210=true:=by kernel_rfl
theorem aiZ:aD Tryz.prog 211=true:=by kernel_rfl
theorem adR:aD Tryz.prog 212=true:=by kernel_rfl
theorem afL:aD Tryz.prog 213=true:=by kernel_rfl
theorem aiB:aD Tryz.prog 214=true:=by kernel_rfl
theorem akO:aD Tryz.prog 215=true:=by kernel_rfl
theorem adP:aD Tryz.prog 216=true:=by kernel_rfl
theorem acN:aD Tryz.prog 217=true:=by kernel_rfl
theorem acJ:aD Tryz.prog 218=true:=by kernel_rfl
theorem ajW:aD Tryz.prog 219=true:=by kernel_rfl
theorem ahW:aD Tryz.prog 220=true:=by kernel_rfl
theorem aaO:aD Tryz.prog 221=true:=by kernel_rfl
theorem alU:aD Tryz.prog 222=true:=by kernel_rfl
theorem acF:aD Tryz.prog 223=true:=by kernel_rfl
theorem aiO:aD Tryz.prog 224=true:=by kernel_rfl
theorem acB:aD Tryz.prog 225=true:=by kernel_rfl
theorem acG:aD Tryz.prog 226=true:=by kernel_rfl
theorem aaK:aD Tryz.prog 227=true:=by kernel_rfl
theorem akS:aD Tryz.prog 229=true:=by kernel_rfl
theorem akL:aD Tryz.prog 230=true:=by kernel_rfl
theorem agI:aD Tryz.prog 231=true:=by kernel_rfl
theorem aiR:aD Tryz.prog 232=true:=by kernel_rfl
theorem acP:aD Tryz.prog 233=true:=by kernel_rfl
theorem afY:aD Tryz.prog 234=true:=by kernel_rfl
theorem alQ:aD Tryz.prog 235=true:=by kernel_rfl
theorem ajS:aD Tryz.prog 236=true:=by kernel_rfl
theorem ahN:aD Tryz.prog 237=true:=by kernel_rfl
theorem agX:aD Tryz.prog 238=true:=by kernel_rfl
theorem aeC:aD Tryz.prog 239=true:=by kernel_rfl
theorem aiG:aD Tryz.prog 240=true:=by kernel_rfl
theorem alT:aD Tryz.prog 241=true:=by kernel_rfl
theorem agT:aD Tryz.prog 242=true:=by kernel_rfl
theorem alC:aD Tryz.prog 243=true:=by kernel_rfl
theorem Z8:aD Tryz.prog 245=true:=by kernel_rfl
theorem acA:aD Tryz.prog 246=true:=by kernel_rfl
theorem akG:aD Tryz.prog 247=true:=by kernel_rfl
theorem ahM:aD Tryz.prog 248=true:=by kernel_rfl
theorem Z6:aD Tryz.prog 249=true:=by kernel_rfl
theorem aeU:aD Tryz.prog 250=true:=by kernel_rfl
theorem abN:aD Tryz.prog 251=true:=by kernel_rfl
theorem adM:aD Tryz.prog 252=true:=by kernel_rfl
theorem agU:aD Tryz.prog 253=true:=by kernel_rfl
theorem alJ:aD Tryz.prog 254=true:=by kernel_rfl
theorem abQ:aD Tryz.prog 255=true:=by kernel_rfl
theorem ahT:aD Tryz.prog 256=true:=by kernel_rfl
theorem akJ:aD Tryz.prog 257=true:=by kernel_rfl
theorem aaY:aD Tryz.prog 258=true:=by kernel_rfl
theorem adI:aD Tryz.prog 259=true:=by kernel_rfl
theorem abW:aD Tryz.prog 260=true:=by kernel_rfl
theorem ajR:aD Tryz.prog 261=true:=by kernel_rfl
theorem ahK:aD Tryz.prog 262=true:=by kernel_rfl
theorem agM:aD Tryz.prog 263=true:=by kernel_rfl
theorem aaH:aD Tryz.prog 264=true:=by kernel_rfl
theorem alK:aD Tryz.prog 265=true:=by kernel_rfl
theorem aaA:aD Tryz.prog 266=true:=by kernel_rfl
theorem aaQ:aD Tryz.prog 268=true:=by kernel_rfl
theorem akK:aD Tryz.prog 269=true:=by kernel_rfl
theorem acZ:aD Tryz.prog 270=true:=by kernel_rfl
theorem abK:aD Tryz.prog 271=true:=by kernel_rfl
theorem afV:aD Tryz.prog 272=true:=by kernel_rfl
theorem ahF:aD Tryz.prog 273=true:=by kernel_rfl
theorem acH:aD Tryz.prog 274=true:=by kernel_rfl
theorem abF:aD Tryz.prog 275=true:=by kernel_rfl
theorem alF:aD Tryz.prog 276=true:=by kernel_rfl
theorem aiW:aD Tryz.prog 277=true:=by kernel_rfl
theorem ahQ:aD Tryz.prog 278=true:=by kernel_rfl
theorem afJ:aD Tryz.prog 279=true:=by kernel_rfl
theorem aeJ:aD Tryz.prog 280=true:=by kernel_rfl
theorem afP:aD Tryz.prog 282=true:=by kernel_rfl
theorem aeB:aD Tryz.prog 283=true:=by kernel_rfl
theorem agJ:aD Tryz.prog 284=true:=by kernel_rfl
theorem agV:aD Tryz.prog 285=true:=by kernel_rfl
theorem afD:aD Tryz.prog 286=true:=by kernel_rfl
theorem aeN:aD Tryz.prog 287=true:=by kernel_rfl
theorem aeW:aD Tryz.prog 288=true:=by kernel_rfl
theorem alW:aD Tryz.prog 289=true:=by kernel_rfl
theorem abD:aD Tryz.prog 290=true:=by kernel_rfl
theorem ahO:aD Tryz.prog 291=true:=by kernel_rfl
theorem aaB:aD Tryz.prog 292=true:=by kernel_rfl
theorem agZ:aD Tryz.prog 293=true:=by kernel_rfl
theorem aaN:aD Tryz.prog 294=true:=by kernel_rfl
theorem ahB:aD Tryz.prog 295=true:=by kernel_rfl
theorem abU:aD Tryz.prog 296=true:=by kernel_rfl
theorem abA:aD Tryz.prog 297=true:=by kernel_rfl
theorem afB:aD Tryz.prog 298=true:=by kernel_rfl
theorem alP:aD Tryz.prog 299=true:=by kernel_rfl
theorem afK:aD Tryz.prog 300=true:=by kernel_rfl
theorem aiC:aD Tryz.prog 301=true:=by kernel_rfl
theorem abE:aD Tryz.prog 302=true:=by kernel_rfl
theorem Z9:aD Tryz.prog 303=true:=by kernel_rfl
theorem aiX:aD Tryz.prog 304=true:=by kernel_rfl
theorem ZZ:aD Tryz.prog 305=true:=by kernel_rfl
theorem aeS:aD Tryz.prog 306=true:=by kernel_rfl
theorem aeE:aD Tryz.prog 307=true:=by kernel_rfl
theorem adN:aD Tryz.prog 308=true:=by kernel_rfl
theorem Z5:aD Tryz.prog 309=true:=by kernel_rfl
theorem adF:aD Tryz.prog 310=true:=by kernel_rfl
theorem ajM:aD Tryz.prog 311=true:=by kernel_rfl
theorem abL:aD Tryz.prog 312=true:=by kernel_rfl
theorem abM:aD Tryz.prog 313=true:=by kernel_rfl
theorem ahV:aD Tryz.prog 314=true:=by kernel_rfl
theorem ahP:aD Tryz.prog 316=true:=by kernel_rfl
theorem adK:aD Tryz.prog 317=true:=by kernel_rfl
theorem afC:aD Tryz.prog 318=true:=by kernel_rfl
theorem aaW:aD Tryz.prog 319=true:=by kernel_rfl
theorem alL:aD Tryz.prog 320=true:=by kernel_rfl
theorem alR:aD Tryz.prog 321=true:=by kernel_rfl
theorem abH:aD Tryz.prog 345=true:=by kernel_rfl
attribute [go_sem] it3 it5 st9 it40 agP bo4 abG YZ ZS Zw YW Zx Zl ZA YX Zj YY Y3 YI YC ZK ZJ YR YA XE Wb Xy W8 Zs Y1 ZE Zk ZV Zo Y4 YS Y0 YU Zr ZU Zi Yv YT Xv WA Wv WU Xc Wq Ws V3 Vy X5 W6 Xu Vt WC Wy VK WB V0 W0 Xw VS Xx XD Wh XC VI XU XO Xi WS Xn XP XX Wm V7 VM VD XI Xp Wo Vm Vq VA Wn Xj Xg W9 XQ Vp Xe el22 sl22 el23 sl23 el26 sl26 el27 sl27 el28 sl28 el31 sl31 el32 sl32 el43 sl43 st46 el61 sl61 el62 sl62 el91 sl91 afA sl92 ajP akV ajQ alB acS aaF akZ ajZ adV afG aaE Z0 adB aeO alV Z1 ajO ajI ahG ahE ajD adZ ahU adU ajF aeF aeK acT acM ld3 ld4 ld9 ld22 ld23 ld25 ld26 ld27 ld28 ld30 ld31 ld35 ld43 ld46 ld87 ld92 ld94 ld97 aiH abI afQ ahX akI acD acV afN adL afE ajE alE Z2 kk3 pa25 pa30 pa87 pa89 pa94 pa97 Z7 akH abY ajY afR aiQ ajA adO aiE aeR agB aeI aiA so3 so4 aeH acE aaI Pg agW Qs akM Ym ze3 ze9 ni25 ze25 ni30 ze30 ze87 ni89 ze89 ze94 ze97 ahC acR aeD acW agY aeQ Yg aaG alD ZX adW aaT aiV aaP co2 co3 co4 co5 co6 co7 co8 co9 co10 co11 co12 co13 co14 co15 co16 co17 co18 co19 co20 co21 co22 co23 co24 co25 co26 co27 co28 co29 co30 co31 co32 co33 co34 co35 co36 co37 co38 co39 co40 co41 co42 co43 co44 co45 co46 co47 co48 co49 co50 co51 co52 co53 co54 co55 co56 co57 co58 co59 co60 co61 co62 co63 co64 co65 co66 co67 co68 co69 co70 co71 co72 co73 co74 co75 co76 co77 co78 co79 co80 co81 co82 co83 co84 co85 co86 co87 co88 co89 co90 co91 co92 co93 co94 co95 co96 co97 co98 co99 ajH ajT aiU aeX aeM adG ahZ ahR ajN adH afI acK agH alS akE akN adT abR alN ajL ahL aeY akR aiK agE aiY aiD abT ahI ahS aeL aaJ ajB aaS aiM agL acL aiS aeG abO agC acI alH adC abX akF afH aeZ ajG ahY akU afU alA akB afM ajK adE adS alG aaD agK acC ajV agS aiN agN aiI alO ajJ aaX ajU afO acY akT aeA aaZ abV afT adJ abP afS ajC aaM aiT agQ ZY adQ akX afX adD aiJ afF acQ abZ akD agF Z3 adX akW adY aiP agA afZ aiF aaC adA akC abS ahD ajX akP aiZ adR afL aiB akO adP acN acJ ajW ahW aaO alU acF aiO acB acG aaK akS akL agI aiR acP afY alQ ajS ahN agX aeC aiG alT agT alC Z8 acA akG ahM Z6 aeU abN adM agU alJ abQ ahT akJ aaY adI abW ajR ahK agM aaH alK aaA aaQ akK acZ abK afV ahF acH abF alF aiW ahQ afJ aeJ afP aeB agJ agV afD aeN aeW alW abD ahO aaB agZ aaN ahB abU abA afB alP afK aiC abE Z9 aiX ZZ aeS aeE adN Z5 adF ajM abL abM ahV ahP adK afC aaW alL alR abH
end Go.Proofs.YtdlijlecpopadaaGreatDoor.Ty
end

section
set_option linter.unusedSimpArgs false
namespace Go.Aw.D
open Go.Aw
def aO(n:Int):List AV:=[.v (.int .i64 n)]
def Cj(b:Bool):List AV:=[.v (.bool b)]
def fL(s:ByteArray):List AV:=[.v (.string s)]
theorem CY(x:Int):(aO x).length=1:=rfl
theorem UG(x:Int):(aO x).getD 0 .any=.v (.int .i64 x):=rfl
theorem IA(x:Bool):(Cj x).length=1:=rfl
theorem Ph(x:Bool):(Cj x).getD 0 .any=.v (.bool x):=rfl
theorem Mi(x:ByteArray):(fL x).length=1:=rfl
theorem TC(x:ByteArray):(fL x).getD 0 .any=.v (.string x):=rfl
structure Point where
 t:Int
 a:Int
 deriving DecidableEq
def bJ(x:Point):List AV:=[.v (.int .i64 x.t),.v (.int .i64 x.a)]
theorem dV(x:Point):(bJ x).length=2:=rfl
theorem Mn(x:Point):(bJ x).getD 0 .any=.v (.int .i64 x.t):=rfl
theorem LO(x:Point):(bJ x).getD 1 .any=.v (.int .i64 x.a):=rfl
theorem Ab(x:Point):(bJ x).take 2=bJ x:=rfl
structure Arc where
 src:Int
 dst:Int
 profile:Int
 miles:Int
 travel:List Point
 slow:List Point
 deriving DecidableEq
def eH(x:Arc):List AV:=[.v (.int .i64 x.src),.v (.int .i64 x.dst),.v (.int .i64 x.profile),.v (.int .i64 x.miles),.sl (x.travel.map bJ),.sl (x.slow.map bJ)]
theorem dF(x:Arc):(eH x).length=6:=rfl
theorem RR(x:Arc):(eH x).getD 0 .any=.v (.int .i64 x.src):=rfl
theorem S5(x:Arc):(eH x).getD 1 .any=.v (.int .i64 x.dst):=rfl
theorem T7(x:Arc):(eH x).getD 2 .any=.v (.int .i64 x.profile):=rfl
theorem SJ(x:Arc):(eH x).getD 3 .any=.v (.int .i64 x.miles):=rfl
theorem TT(x:Arc):(eH x).getD 4 .any=.sl (x.travel.map bJ):=rfl
theorem RK(x:Arc):(eH x).getD 5 .any=.sl (x.slow.map bJ):=rfl
theorem Nq(x:Arc):(eH x).take 6=eH x:=rfl
structure Network where
 places:List ByteArray
 arcs:List Arc
 deriving DecidableEq
def aT(x:Network):List AV:=[.sl (x.places.map fL),.sl (x.arcs.map eH)]
theorem CR(x:Network):(aT x).length=2:=rfl
theorem Ig(x:Network):(aT x).getD 0 .any=.sl (x.places.map fL):=rfl
theorem HW(x:Network):(aT x).getD 1 .any=.sl (x.arcs.map eH):=rfl
theorem Dn(x:Network):(aT x).take 2=aT x:=rfl
structure VType where
 name:ByteArray
 count:Int
 src:Int
 dst:Int
 cap:List Int
 skills:Int
 profile:Int
 start:Int
 close:Int
 drive:Int
 rest:Int
 fixed:Int
 perMile:Int
 perTick:Int
 deriving DecidableEq
def bC(x:VType):List AV:=[.v (.string x.name),.v (.int .i64 x.count),.v (.int .i64 x.src),.v (.int .i64 x.dst),.sl (x.cap.map aO),.v (.int .i64 x.skills),.v (.int .i64 x.profile),.v (.int .i64 x.start),.v (.int .i64 x.close),.v (.int .i64 x.drive),.v (.int .i64 x.rest),.v (.int .i64 x.fixed),.v (.int .i64 x.perMile),.v (.int .i64 x.perTick)]
theorem zZ(x:VType):(bC x).length=14:=rfl
theorem LV(x:VType):(bC x).getD 0 .any=.v (.string x.name):=rfl
theorem Mq(x:VType):(bC x).getD 1 .any=.v (.int .i64 x.count):=rfl
theorem Nk(x:VType):(bC x).getD 2 .any=.v (.int .i64 x.src):=rfl
theorem Nw(x:VType):(bC x).getD 3 .any=.v (.int .i64 x.dst):=rfl
theorem Ng(x:VType):(bC x).getD 4 .any=.sl (x.cap.map aO):=rfl
theorem LZ(x:VType):(bC x).getD 5 .any=.v (.int .i64 x.skills):=rfl
theorem MZ(x:VType):(bC x).getD 6 .any=.v (.int .i64 x.profile):=rfl
theorem Mg(x:VType):(bC x).getD 7 .any=.v (.int .i64 x.start):=rfl
theorem Nt(x:VType):(bC x).getD 8 .any=.v (.int .i64 x.close):=rfl
theorem Mh(x:VType):(bC x).getD 9 .any=.v (.int .i64 x.drive):=rfl
theorem J6(x:VType):(bC x).getD 10 .any=.v (.int .i64 x.rest):=rfl
theorem IH(x:VType):(bC x).getD 11 .any=.v (.int .i64 x.fixed):=rfl
theorem Ku(x:VType):(bC x).getD 12 .any=.v (.int .i64 x.perMile):=rfl
theorem Ji(x:VType):(bC x).getD 13 .any=.v (.int .i64 x.perTick):=rfl
theorem Hg(x:VType):(bC x).take 14=bC x:=rfl
structure Stop where
 place:Int
 start:Int
 close:Int
 service:Int
 deriving DecidableEq
def iC(x:Stop):List AV:=[.v (.int .i64 x.place),.v (.int .i64 x.start),.v (.int .i64 x.close),.v (.int .i64 x.service)]
theorem jY(x:Stop):(iC x).length=4:=rfl
theorem Qn(x:Stop):(iC x).getD 0 .any=.v (.int .i64 x.place):=rfl
theorem PN(x:Stop):(iC x).getD 1 .any=.v (.int .i64 x.start):=rfl
theorem Po(x:Stop):(iC x).getD 2 .any=.v (.int .i64 x.close):=rfl
theorem Pf(x:Stop):(iC x).getD 3 .any=.v (.int .i64 x.service):=rfl
theorem JN(x:Stop):(iC x).take 4=iC x:=rfl
structure Order where
 name:ByteArray
 load:List Int
 pick:Stop
 drop:Stop
 skills:Int
 penalty:Int
 split:Int
 last:Int
 now:Int
 off:Bool
 deriving DecidableEq
def aV(x:Order):List AV:=[.v (.string x.name),.sl (x.load.map aO),.v (.int .i64 x.pick.place),.v (.int .i64 x.pick.start),.v (.int .i64 x.pick.close),.v (.int .i64 x.pick.service),.v (.int .i64 x.drop.place),.v (.int .i64 x.drop.start),.v (.int .i64 x.drop.close),.v (.int .i64 x.drop.service),.v (.int .i64 x.skills),.v (.int .i64 x.penalty),.v (.int .i64 x.split),.v (.int .i64 x.last),.v (.int .i64 x.now),.v (.bool x.off)]
theorem iY(x:Order):(aV x).length=16:=rfl
theorem Ms(x:Order):(aV x).getD 0 .any=.v (.string x.name):=rfl
theorem M6(x:Order):(aV x).getD 1 .any=.sl (x.load.map aO):=rfl
theorem L3(x:Order):(aV x).getD 2 .any=.v (.int .i64 x.pick.place):=rfl
theorem MB(x:Order):(aV x).getD 3 .any=.v (.int .i64 x.pick.start):=rfl
theorem ML(x:Order):(aV x).getD 4 .any=.v (.int .i64 x.pick.close):=rfl
theorem My(x:Order):(aV x).getD 5 .any=.v (.int .i64 x.pick.service):=rfl
theorem LD(x:Order):(aV x).getD 6 .any=.v (.int .i64 x.drop.place):=rfl
theorem Lx(x:Order):(aV x).getD 7 .any=.v (.int .i64 x.drop.start):=rfl
theorem Nb(x:Order):(aV x).getD 8 .any=.v (.int .i64 x.drop.close):=rfl
theorem L6(x:Order):(aV x).getD 9 .any=.v (.int .i64 x.drop.service):=rfl
theorem IG(x:Order):(aV x).getD 10 .any=.v (.int .i64 x.skills):=rfl
theorem KV(x:Order):(aV x).getD 11 .any=.v (.int .i64 x.penalty):=rfl
theorem IE(x:Order):(aV x).getD 12 .any=.v (.int .i64 x.split):=rfl
theorem Lg(x:Order):(aV x).getD 13 .any=.v (.int .i64 x.last):=rfl
theorem Jo(x:Order):(aV x).getD 14 .any=.v (.int .i64 x.now):=rfl
theorem KY(x:Order):(aV x).getD 15 .any=.v (.bool x.off):=rfl
theorem GI(x:Order):(aV x).take 16=aV x:=rfl
theorem Ei(x:Order):((aV x).drop 2).take 4=iC x.pick:=rfl
theorem Em(x:Order):((aV x).drop 6).take 4=iC x.drop:=rfl
structure Pair where
 a:Int
 b:Int
 deriving DecidableEq
def gF(x:Pair):List AV:=[.v (.int .i64 x.a),.v (.int .i64 x.b)]
theorem KH(x:Pair):(gF x).length=2:=rfl
theorem Qu(x:Pair):(gF x).getD 0 .any=.v (.int .i64 x.a):=rfl
theorem QJ(x:Pair):(gF x).getD 1 .any=.v (.int .i64 x.b):=rfl
theorem IL(x:Pair):(gF x).take 2=gF x:=rfl
structure Instance where
 net:Network
 types:List VType
 orders:List Order
 apart:List Pair
 before:List Pair
 deriving DecidableEq
def aS(x:Instance):List AV:=[.sl (x.net.places.map fL),.sl (x.net.arcs.map eH),.sl (x.types.map bC),.sl (x.orders.map aV),.sl (x.apart.map gF),.sl (x.before.map gF)]
theorem uW(x:Instance):(aS x).length=6:=rfl
theorem En(x:Instance):(aS x).getD 0 .any=.sl (x.net.places.map fL):=rfl
theorem El(x:Instance):(aS x).getD 1 .any=.sl (x.net.arcs.map eH):=rfl
theorem Ef(x:Instance):(aS x).getD 2 .any=.sl (x.types.map bC):=rfl
theorem Ez(x:Instance):(aS x).getD 3 .any=.sl (x.orders.map aV):=rfl
theorem Ev(x:Instance):(aS x).getD 4 .any=.sl (x.apart.map gF):=rfl
theorem Es(x:Instance):(aS x).getD 5 .any=.sl (x.before.map gF):=rfl
theorem Ca(x:Instance):(aS x).take 6=aS x:=rfl
theorem B6(x:Instance):(aS x).take 2=aT x.net:=rfl
structure Visit where
 order:Int
 drop:Bool
 deriving DecidableEq
def bS(x:Visit):List AV:=[.v (.int .i64 x.order),.v (.bool x.drop)]
theorem pN(x:Visit):(bS x).length=2:=rfl
theorem LJ(x:Visit):(bS x).getD 0 .any=.v (.int .i64 x.order):=rfl
theorem Ns(x:Visit):(bS x).getD 1 .any=.v (.bool x.drop):=rfl
theorem Hz(x:Visit):(bS x).take 2=bS x:=rfl
structure Route where
 type:Int
 start:Int
 rests:List Bool
 visits:List Visit
 deriving DecidableEq
structure Plan where
 routes:List Route
 unserved:List Int
 deriving DecidableEq
structure Fault where
 err:Int
 at_:ByteArray
 deriving DecidableEq
def gB(x:Fault):List AV:=[.v (.int .i64 x.err),.v (.string x.at_)]
theorem Is(x:Fault):(gB x).length=2:=rfl
theorem Np(x:Fault):(gB x).getD 0 .any=.v (.int .i64 x.err):=rfl
theorem MX(x:Fault):(gB x).getD 1 .any=.v (.string x.at_):=rfl
theorem Hy(x:Fault):(gB x).take 2=gB x:=rfl
structure Decision where
 kind:Int
 a:Int
 b:Int
 n:Int
 deriving DecidableEq
structure Column where
 type:Int
 set:Int
 price:Int
 route:Route
 deriving DecidableEq
structure Score where
 cost:Int
 moved:Int
 other:Int
 work:Int
 deriving DecidableEq
structure Cut where
 kind:Int
 set:Int
 n:Int
 deriving DecidableEq
structure TimeT where
 arrive:Int
 start:Int
 depart:Int
 rest:Bool
 deriving DecidableEq
structure Weight where
 yes:Int
 no:Int
 noneYes:Bool
 noneNo:Bool
 deriving DecidableEq
structure StepT where
 inst:Instance
 plan:Plan
 now:Int
 deriving DecidableEq
structure PRow where
 coef:List Int
 kind:Int
 right:Int
 deriving DecidableEq
structure PLin where
 cost:List Int
 rows:List PRow
 deriving DecidableEq
structure Ask where
 x:Instance
 l:List Column
 cuts:List Cut
 d:List Decision
 deriving DecidableEq
structure Sheet where
 rest:Bool
 depart:Int
 times:List TimeT
 stop:Int
 miles:Int
 deriving DecidableEq
attribute [go_sem] CY UG IA Ph Mi TC dV Mn LO Ab dF RR S5 T7 SJ TT RK Nq CR Ig HW Dn zZ LV Mq Nk Nw Ng LZ MZ Mg Nt Mh J6 IH Ku Ji Hg jY Qn PN Po Pf JN iY Ms M6 L3 MB ML My LD Lx Nb L6 IG KV IE Lg Jo KY GI Ei Em KH Qu QJ IL uW En El Ef Ez Ev Es Ca B6 pN LJ Ns Hz Is Np MX Hy
theorem aF{α:Type}{f:α→List AV}{l:List α}{k:Nat}{x:α}(h:l[k]?=some x):(l.map f).getD k []=f x:=by simp[List.getD,h]
theorem Xd{α:Type}(f:α→List AV)(l:List α):(l.map f).length=l.length:=List.length_map f
theorem wZ(n:Nat):((n:Int)).toNat=n:=Int.toNat_natCast n
attribute [go_sem] Xd wZ
theorem aQ{n:Int}(h: -9223372036854775808≤n∧n≤9223372036854775807):IntKind.i64.wrap n=n:=IntWalk.i64_in n h
end Go.Aw.D
end
