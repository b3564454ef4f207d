import Derived.Test.YtohmomanmikphaaGreatDoorChecked
import Derived.KernelRfl
import Derived.Test.YtohmomanmikphaaGreatDoorPf05
set_option linter.unusedSimpArgs false
set_option linter.unusedVariables false
set_option maxRecDepth 100000
section
namespace Go.Proofs.YtohmomanmikphaaGreatDoor.Ty
open Go.Aw Go.Proofs
theorem AY{P:Program}{t:TypeId}(h:(P.info? t).map (·.size)=some 1):∃i,P.info? t=some i/\i.size=1:=by
 cases u:P.info? t with
 | none=>simp[u]at h
 | some i=>exact⟨i,rfl,by simpa[u]using h⟩
theorem mixed:Tryz.prog.follows .mixedOrders=true:=by kernel_rfl
theorem it3:Ew Tryz.prog 3=some .i64:=by kernel_rfl
theorem it5:Ew Tryz.prog 5=some .u8:=by kernel_rfl
theorem st9:dJ Tryz.prog 9=true:=by kernel_rfl
theorem asC:Ew Tryz.prog 181=some .u64:=by kernel_rfl
theorem avT:Br Tryz.prog 192=true:=by kernel_rfl
theorem bo4:xN Tryz.prog 4=true:=by kernel_rfl
theorem atM:vG Tryz.prog 119=some [0,2]:=by kernel_rfl
theorem aoJ:vG Tryz.prog 232=some [0,0]:=by kernel_rfl
theorem akB:vG Tryz.prog 340=some [0,0,0]:=by kernel_rfl
theorem aeW:aL Tryz.prog 25 0=some (0,none):=by kernel_rfl
theorem acY:aL Tryz.prog 25 1=some (1,none):=by kernel_rfl
theorem adQ:aL Tryz.prog 30 0=some (0,some 2):=by kernel_rfl
theorem afJ:aL Tryz.prog 30 1=some (2,none):=by kernel_rfl
theorem acN:aL Tryz.prog 30 2=some (3,none):=by kernel_rfl
theorem aeR:aL Tryz.prog 30 3=some (4,none):=by kernel_rfl
theorem aeU:aL Tryz.prog 30 4=some (5,none):=by kernel_rfl
theorem aeI:aL Tryz.prog 35 0=some (0,some 6):=by kernel_rfl
theorem acT:aL Tryz.prog 35 1=some (6,none):=by kernel_rfl
theorem adK:aL Tryz.prog 35 2=some (7,none):=by kernel_rfl
theorem adW:aL Tryz.prog 35 3=some (8,none):=by kernel_rfl
theorem adG:aL Tryz.prog 41 0=some (0,none):=by kernel_rfl
theorem aeN:aL Tryz.prog 41 1=some (1,none):=by kernel_rfl
theorem aeZ:aL Tryz.prog 41 2=some (2,none):=by kernel_rfl
theorem adR:aL Tryz.prog 41 3=some (3,none):=by kernel_rfl
theorem adA:aL Tryz.prog 43 0=some (0,none):=by kernel_rfl
theorem acG:aL Tryz.prog 43 1=some (1,none):=by kernel_rfl
theorem aeP:aL Tryz.prog 43 2=some (2,none):=by kernel_rfl
theorem acW:aL Tryz.prog 43 3=some (3,some 4):=by kernel_rfl
theorem afL:aL Tryz.prog 69 0=some (0,some 7):=by kernel_rfl
theorem afE:aL Tryz.prog 69 1=some (7,none):=by kernel_rfl
theorem adI:aL Tryz.prog 95 0=some (0,none):=by kernel_rfl
theorem adN:aL Tryz.prog 95 1=some (1,none):=by kernel_rfl
theorem acD:aL Tryz.prog 95 2=some (2,none):=by kernel_rfl
theorem aeJ:aL Tryz.prog 95 3=some (3,none):=by kernel_rfl
theorem Yp:aL Tryz.prog 104 0=some (0,none):=by kernel_rfl
theorem Xu:aL Tryz.prog 104 1=some (1,none):=by kernel_rfl
theorem Zw:aL Tryz.prog 107 0=some (0,none):=by kernel_rfl
theorem ZE:aL Tryz.prog 107 1=some (1,none):=by kernel_rfl
theorem Yc:aL Tryz.prog 107 2=some (2,none):=by kernel_rfl
theorem Z0:aL Tryz.prog 107 3=some (3,none):=by kernel_rfl
theorem YK:aL Tryz.prog 107 4=some (4,none):=by kernel_rfl
theorem aaO:aL Tryz.prog 107 5=some (5,none):=by kernel_rfl
theorem XW:aL Tryz.prog 109 0=some (0,none):=by kernel_rfl
theorem Zz:aL Tryz.prog 109 1=some (1,none):=by kernel_rfl
theorem ZF:aL Tryz.prog 109 2=some (2,none):=by kernel_rfl
theorem Z4:aL Tryz.prog 109 3=some (3,none):=by kernel_rfl
theorem XL:aL Tryz.prog 111 0=some (0,none):=by kernel_rfl
theorem Xt:aL Tryz.prog 111 1=some (1,none):=by kernel_rfl
theorem Y3:aL Tryz.prog 111 2=some (2,some 4):=by kernel_rfl
theorem aaW:aL Tryz.prog 111 3=some (6,some 4):=by kernel_rfl
theorem YZ:aL Tryz.prog 111 4=some (10,none):=by kernel_rfl
theorem XA:aL Tryz.prog 111 5=some (11,none):=by kernel_rfl
theorem XC:aL Tryz.prog 111 6=some (12,none):=by kernel_rfl
theorem Zg:aL Tryz.prog 111 7=some (13,none):=by kernel_rfl
theorem Y8:aL Tryz.prog 111 8=some (14,none):=by kernel_rfl
theorem X7:aL Tryz.prog 111 9=some (15,none):=by kernel_rfl
theorem ZU:aL Tryz.prog 113 0=some (0,none):=by kernel_rfl
theorem aaR:aL Tryz.prog 113 1=some (1,none):=by kernel_rfl
theorem XD:aL Tryz.prog 113 2=some (2,none):=by kernel_rfl
theorem XJ:aL Tryz.prog 113 3=some (3,none):=by kernel_rfl
theorem Y5:aL Tryz.prog 113 4=some (4,none):=by kernel_rfl
theorem Ye:aL Tryz.prog 113 5=some (5,none):=by kernel_rfl
theorem Ym:aL Tryz.prog 113 6=some (6,none):=by kernel_rfl
theorem aaA:aL Tryz.prog 113 7=some (7,none):=by kernel_rfl
theorem X0:aL Tryz.prog 113 8=some (8,none):=by kernel_rfl
theorem Z6:aL Tryz.prog 113 9=some (9,none):=by kernel_rfl
theorem Xg:aL Tryz.prog 113 10=some (10,none):=by kernel_rfl
theorem Wq:aL Tryz.prog 113 11=some (11,none):=by kernel_rfl
theorem Ww:aL Tryz.prog 113 12=some (12,none):=by kernel_rfl
theorem Wu:aL Tryz.prog 113 13=some (13,none):=by kernel_rfl
theorem ZP:aL Tryz.prog 115 0=some (0,none):=by kernel_rfl
theorem Zk:aL Tryz.prog 115 1=some (1,none):=by kernel_rfl
theorem XH:aL Tryz.prog 115 2=some (2,none):=by kernel_rfl
theorem XU:aL Tryz.prog 119 0=some (0,none):=by kernel_rfl
theorem ZY:aL Tryz.prog 119 1=some (1,none):=by kernel_rfl
theorem ZR:aL Tryz.prog 139 0=some (0,none):=by kernel_rfl
theorem Yb:aL Tryz.prog 139 1=some (1,none):=by kernel_rfl
theorem Zi:aL Tryz.prog 170 0=some (0,some 6):=by kernel_rfl
theorem YS:aL Tryz.prog 170 1=some (6,none):=by kernel_rfl
theorem X6:aL Tryz.prog 170 2=some (7,none):=by kernel_rfl
theorem Zt:aL Tryz.prog 170 3=some (8,none):=by kernel_rfl
theorem aaP:aL Tryz.prog 170 4=some (9,some 7):=by kernel_rfl
theorem Yt:aL Tryz.prog 170 5=some (16,none):=by kernel_rfl
theorem XK:aL Tryz.prog 208 0=some (0,none):=by kernel_rfl
theorem aaQ:aL Tryz.prog 208 1=some (1,none):=by kernel_rfl
theorem Yy:aL Tryz.prog 232 0=some (0,none):=by kernel_rfl
theorem Za:aL Tryz.prog 232 1=some (1,none):=by kernel_rfl
theorem XG:aL Tryz.prog 260 0=some (0,none):=by kernel_rfl
theorem ZJ:aL Tryz.prog 260 1=some (1,none):=by kernel_rfl
theorem ZK:aL Tryz.prog 260 2=some (2,none):=by kernel_rfl
theorem ZL:aL Tryz.prog 260 3=some (3,none):=by kernel_rfl
theorem XY:aL Tryz.prog 260 4=some (4,none):=by kernel_rfl
theorem aaU:aL Tryz.prog 262 0=some (0,none):=by kernel_rfl
theorem ZZ:aL Tryz.prog 262 1=some (1,none):=by kernel_rfl
theorem aaI:aL Tryz.prog 262 2=some (2,none):=by kernel_rfl
theorem YW:aL Tryz.prog 262 3=some (3,none):=by kernel_rfl
theorem ZC:aL Tryz.prog 328 0=some (0,some 6):=by kernel_rfl
theorem Xz:aL Tryz.prog 328 1=some (6,some 14):=by kernel_rfl
theorem Yf:aL Tryz.prog 328 2=some (20,some 4):=by kernel_rfl
theorem aaG:aL Tryz.prog 328 3=some (24,none):=by kernel_rfl
theorem Y1:aL Tryz.prog 332 0=some (0,none):=by kernel_rfl
theorem aaL:aL Tryz.prog 332 1=some (1,none):=by kernel_rfl
theorem ZM:aL Tryz.prog 332 2=some (2,some 5):=by kernel_rfl
theorem YI:aL Tryz.prog 380 2=some (2,none):=by kernel_rfl
theorem Yi:aL Tryz.prog 380 3=some (3,none):=by kernel_rfl
theorem el22:bR Tryz.prog 22=some (9,1,16):=by kernel_rfl
theorem sl22:bY Tryz.prog 22=true:=by kernel_rfl
theorem el23:bR Tryz.prog 23=some (107,6,80):=by kernel_rfl
theorem sl23:bY Tryz.prog 23=true:=by kernel_rfl
theorem el26:bR Tryz.prog 26=some (113,14,136):=by kernel_rfl
theorem sl26:bY Tryz.prog 26=true:=by kernel_rfl
theorem el27:bR Tryz.prog 27=some (111,16,152):=by kernel_rfl
theorem sl27:bY Tryz.prog 27=true:=by kernel_rfl
theorem el28:bR Tryz.prog 28=some (194,2,16):=by kernel_rfl
theorem sl28:bY Tryz.prog 28=true:=by kernel_rfl
theorem el31:bR Tryz.prog 31=some (115,3,24):=by kernel_rfl
theorem sl31:bY Tryz.prog 31=true:=by kernel_rfl
theorem el32:bR Tryz.prog 32=some (95,4,32):=by kernel_rfl
theorem sl32:bY Tryz.prog 32=true:=by kernel_rfl
theorem el33:bR Tryz.prog 33=some (44,1,16):=by kernel_rfl
theorem sl33:bY Tryz.prog 33=true:=by kernel_rfl
theorem aiP:bR Tryz.prog 38=some (4,1,1):=by kernel_rfl
theorem sl38:bY Tryz.prog 38=true:=by kernel_rfl
theorem acR:bR Tryz.prog 39=some (119,2,16):=by kernel_rfl
theorem sl39:bY Tryz.prog 39=true:=by kernel_rfl
theorem st44:dJ Tryz.prog 44=true:=by kernel_rfl
theorem akZ:bR Tryz.prog 49=some (43,7,88):=by kernel_rfl
theorem sl49:bY Tryz.prog 49=true:=by kernel_rfl
theorem el60:bR Tryz.prog 60=some (139,2,24):=by kernel_rfl
theorem sl60:bY Tryz.prog 60=true:=by kernel_rfl
theorem el65:bR Tryz.prog 65=some (69,8,104):=by kernel_rfl
theorem sl65:bY Tryz.prog 65=true:=by kernel_rfl
theorem sl72:bY Tryz.prog 72=true:=by kernel_rfl
theorem el86:bR Tryz.prog 86=some (3,1,8):=by kernel_rfl
theorem sl86:bY Tryz.prog 86=true:=by kernel_rfl
theorem ar89:rM Tryz.prog 89=some (4,1,none):=by kernel_rfl
theorem ajZ:bR Tryz.prog 105=some (104,2,16):=by kernel_rfl
theorem ahL:bY Tryz.prog 105=true:=by kernel_rfl
theorem agO:bR Tryz.prog 142=some (45,1,8):=by kernel_rfl
theorem afR:bY Tryz.prog 142=true:=by kernel_rfl
theorem arC:bR Tryz.prog 150=some (200,3,40):=by kernel_rfl
theorem atG:bY Tryz.prog 150=true:=by kernel_rfl
theorem abF:bR Tryz.prog 173=some (232,2,16):=by kernel_rfl
theorem avQ:bY Tryz.prog 173=true:=by kernel_rfl
theorem agR:bR Tryz.prog 192=some (5,1,1):=by kernel_rfl
theorem atU:bY Tryz.prog 192=true:=by kernel_rfl
theorem arL:rM Tryz.prog 194=some (2,1,none):=by kernel_rfl
theorem asE:bR Tryz.prog 204=some (208,2,24):=by kernel_rfl
theorem alG:bY Tryz.prog 204=true:=by kernel_rfl
theorem apI:bR Tryz.prog 212=some (3,1,8):=by kernel_rfl
theorem aiB:bY Tryz.prog 212=true:=by kernel_rfl
theorem amY:rM Tryz.prog 247=some (2,1,none):=by kernel_rfl
theorem ajE:bR Tryz.prog 252=some (86,1,24):=by kernel_rfl
theorem aiU:bY Tryz.prog 252=true:=by kernel_rfl
theorem ajG:bR Tryz.prog 258=some (380,4,32):=by kernel_rfl
theorem akU:bY Tryz.prog 258=true:=by kernel_rfl
theorem alO:bR Tryz.prog 276=some (247,2,32):=by kernel_rfl
theorem avL:bY Tryz.prog 276=true:=by kernel_rfl
theorem arV:bR Tryz.prog 289=some (234,1,8):=by kernel_rfl
theorem aiH:bY Tryz.prog 289=true:=by kernel_rfl
theorem alV:rM Tryz.prog 293=some (4,1,none):=by kernel_rfl
theorem aqD:bR Tryz.prog 326=some (109,4,32):=by kernel_rfl
theorem ajT:bY Tryz.prog 326=true:=by kernel_rfl
theorem alN:bR Tryz.prog 334=some (332,7,72):=by kernel_rfl
theorem afV:bY Tryz.prog 334=true:=by kernel_rfl
theorem ahA:rM Tryz.prog 347=some (24,1,none):=by kernel_rfl
theorem apF:rM Tryz.prog 373=some (20,1,none):=by kernel_rfl
theorem ahI:rM Tryz.prog 374=some (65,1,none):=by kernel_rfl
theorem alH:rM Tryz.prog 393=some (32,1,none):=by kernel_rfl
theorem alB:rM Tryz.prog 394=some (64,1,none):=by kernel_rfl
theorem ld3:ldT Tryz.prog 3=some none:=by kernel_rfl
theorem ld4:ldT Tryz.prog 4=some none:=by kernel_rfl
theorem ld9:ldT Tryz.prog 9=some none:=by kernel_rfl
theorem ld22:ldT Tryz.prog 22=some none:=by kernel_rfl
theorem ld23:ldT Tryz.prog 23=some none:=by kernel_rfl
theorem ld25:ldT Tryz.prog 25=some (some 2):=by kernel_rfl
theorem ld26:ldT Tryz.prog 26=some none:=by kernel_rfl
theorem ld27:ldT Tryz.prog 27=some none:=by kernel_rfl
theorem ld28:ldT Tryz.prog 28=some none:=by kernel_rfl
theorem ld30:ldT Tryz.prog 30=some (some 6):=by kernel_rfl
theorem ld31:ldT Tryz.prog 31=some none:=by kernel_rfl
theorem ld32:ldT Tryz.prog 32=some none:=by kernel_rfl
theorem ld33:ldT Tryz.prog 33=some none:=by kernel_rfl
theorem ld35:ldT Tryz.prog 35=some (some 9):=by kernel_rfl
theorem ld38:ldT Tryz.prog 38=some none:=by kernel_rfl
theorem ld39:ldT Tryz.prog 39=some none:=by kernel_rfl
theorem ld41:ldT Tryz.prog 41=some (some 4):=by kernel_rfl
theorem ld43:ldT Tryz.prog 43=some (some 7):=by kernel_rfl
theorem ld44:ldT Tryz.prog 44=some none:=by kernel_rfl
theorem ld45:ldT Tryz.prog 45=some none:=by kernel_rfl
theorem ld69:ldT Tryz.prog 69=some (some 8):=by kernel_rfl
theorem ld86:ldT Tryz.prog 86=some none:=by kernel_rfl
theorem ld95:ldT Tryz.prog 95=some (some 4):=by kernel_rfl
theorem aqL:ldT Tryz.prog 104=some (some 2):=by kernel_rfl
theorem aiL:ldT Tryz.prog 105=some none:=by kernel_rfl
theorem apZ:ldT Tryz.prog 107=some (some 6):=by kernel_rfl
theorem alZ:ldT Tryz.prog 109=some (some 4):=by kernel_rfl
theorem ahH:ldT Tryz.prog 111=some (some 16):=by kernel_rfl
theorem agY:ldT Tryz.prog 113=some (some 14):=by kernel_rfl
theorem atJ:ldT Tryz.prog 115=some (some 3):=by kernel_rfl
theorem alA:ldT Tryz.prog 119=some (some 2):=by kernel_rfl
theorem asO:ldT Tryz.prog 194=some (some 2):=by kernel_rfl
theorem apL:ldT Tryz.prog 208=some (some 2):=by kernel_rfl
theorem afQ:ldT Tryz.prog 232=some (some 2):=by kernel_rfl
theorem ahC:ldT Tryz.prog 234=some none:=by kernel_rfl
theorem atL:ldT Tryz.prog 240=some none:=by kernel_rfl
theorem atZ:ldT Tryz.prog 247=some (some 2):=by kernel_rfl
theorem arH:ldT Tryz.prog 258=some none:=by kernel_rfl
theorem apK:ldT Tryz.prog 260=some (some 5):=by kernel_rfl
theorem agZ:ldT Tryz.prog 262=some (some 4):=by kernel_rfl
theorem anK:ldT Tryz.prog 293=some (some 4):=by kernel_rfl
theorem asD:ldT Tryz.prog 326=some none:=by kernel_rfl
theorem akD:ldT Tryz.prog 328=some (some 25):=by kernel_rfl
theorem aoW:ldT Tryz.prog 332=some (some 7):=by kernel_rfl
theorem atH:ldT Tryz.prog 340=some (some 3):=by kernel_rfl
theorem Ej:N0 Tryz.prog 244=some (3,3):=by kernel_rfl
theorem kk3:rA Tryz.prog 3=some 0:=by kernel_rfl
theorem zv3:GY Tryz.prog 3=some (.v (.int .i64 0)):=by kernel_rfl
theorem pa25:dN Tryz.prog 25=some [(0,1),(1,1)]:=by kernel_rfl
theorem pa30:dN Tryz.prog 30=some [(0,2),(2,1),(3,1),(4,1),(5,1)]:=by kernel_rfl
theorem pa41:dN Tryz.prog 41=some [(0,1),(1,1),(2,1),(3,1)]:=by kernel_rfl
theorem pa43:dN Tryz.prog 43=some [(0,1),(1,1),(2,1),(3,4)]:=by kernel_rfl
theorem pa69:dN Tryz.prog 69=some [(0,7),(7,1)]:=by kernel_rfl
theorem ajP:dN Tryz.prog 104=some [(0,1),(1,1)]:=by kernel_rfl
theorem alP:dN Tryz.prog 107=some [(0,1),(1,1),(2,1),(3,1),(4,1),(5,1)]:=by kernel_rfl
theorem aoD:dN Tryz.prog 109=some [(0,1),(1,1),(2,1),(3,1)]:=by kernel_rfl
theorem apV:dN Tryz.prog 111=some [(0,1),(1,1),(2,4),(6,4),(10,1),(11,1),(12,1),(13,1),(14,1),(15,1)]:=by kernel_rfl
theorem akR:dN Tryz.prog 113=some [(0,1),(1,1),(2,1),(3,1),(4,1),(5,1),(6,1),(7,1),(8,1),(9,1),(10,1),(11,1),(12,1),(13,1)]:=by kernel_rfl
theorem arM:dN Tryz.prog 119=some [(0,1),(1,1)]:=by kernel_rfl
theorem agN:dN Tryz.prog 139=some [(0,1),(1,1)]:=by kernel_rfl
theorem aoX:dN Tryz.prog 170=some [(0,6),(6,1),(7,1),(8,1),(9,7),(16,1)]:=by kernel_rfl
theorem auH:dN Tryz.prog 200=some [(0,1),(1,1),(2,1)]:=by kernel_rfl
theorem apE:dN Tryz.prog 208=some [(0,1),(1,1)]:=by kernel_rfl
theorem amO:dN Tryz.prog 232=some [(0,1),(1,1)]:=by kernel_rfl
theorem aiY:dN Tryz.prog 247=some [(0,1),(1,1)]:=by kernel_rfl
theorem aoI:dN Tryz.prog 260=some [(0,1),(1,1),(2,1),(3,1),(4,1)]:=by kernel_rfl
theorem ahT:dN Tryz.prog 262=some [(0,1),(1,1),(2,1),(3,1)]:=by kernel_rfl
theorem aiG:dN Tryz.prog 293=some [(0,1),(1,1),(2,1),(3,1)]:=by kernel_rfl
theorem akP:dN Tryz.prog 328=some [(0,6),(6,14),(20,4),(24,1)]:=by kernel_rfl
theorem ajI:dN Tryz.prog 332=some [(0,1),(1,1),(2,5)]:=by kernel_rfl
theorem avS:dN Tryz.prog 340=some [(0,1),(1,1),(2,1)]:=by kernel_rfl
theorem avU:dN Tryz.prog 380=some [(0,1),(1,1),(2,1),(3,1)]:=by kernel_rfl
theorem so3:∃i,Tryz.prog.info? 3=some i/\i.size=1:=AY (by kernel_rfl)
theorem so4:∃i,Tryz.prog.info? 4=some i/\i.size=1:=AY (by kernel_rfl)
theorem UR:∃i,Tryz.prog.info? 258=some i/\i.size=1:=AY (by kernel_rfl)
theorem abI:∃i,Tryz.prog.info? 326=some i/\i.size=1:=AY (by kernel_rfl)
theorem ze3:dC Tryz.prog 3=some [.v (.int .i64 0)]:=by kernel_rfl
theorem ze4:dC Tryz.prog 4=some [.v (.bool false)]:=by kernel_rfl
theorem ze9:dC Tryz.prog 9=some [.v (.string ByteArray.empty)]:=by kernel_rfl
theorem ze25:dC Tryz.prog 25=some [.sl [],.sl []]:=by kernel_rfl
theorem ze30:dC Tryz.prog 30=some [.sl [],.sl [],.sl [],.sl [],.sl [],.sl []]:=by kernel_rfl
theorem ze41:dC Tryz.prog 41=some [.v (.int .i64 0),.v (.int .i64 0),.sl [],.sl []]:=by kernel_rfl
theorem atK:dC Tryz.prog 43=some [.v (.int .i64 0),.v (.int .i64 0),.v (.int .i64 0),.v (.int .i64 0),.v (.int .i64 0),.sl [],.sl []]:=by kernel_rfl
theorem ze69:dC Tryz.prog 69=some [.v (.int .i64 0),.v (.int .i64 0),.v (.int .i64 0),.v (.int .i64 0),.v (.int .i64 0),.sl [],.sl [],.v (.string ByteArray.empty)]:=by kernel_rfl
theorem ze95:dC Tryz.prog 95=some [.v (.int .i64 0),.v (.int .i64 0),.v (.int .i64 0),.v (.int .i64 0)]:=by kernel_rfl
theorem akM:dC Tryz.prog 104=some [.v (.int .i64 0),.v (.int .i64 0)]:=by kernel_rfl
theorem aoU:dC Tryz.prog 107=some [.v (.int .i64 0),.v (.int .i64 0),.v (.int .i64 0),.v (.int .i64 0),.sl [],.sl []]:=by kernel_rfl
theorem ajD:dC Tryz.prog 109=some [.v (.int .i64 0),.v (.int .i64 0),.v (.int .i64 0),.v (.int .i64 0)]:=by kernel_rfl
theorem aoQ:dC Tryz.prog 111=some [.v (.string ByteArray.empty),.sl [],.v (.int .i64 0),.v (.int .i64 0),.v (.int .i64 0),.v (.int .i64 0),.v (.int .i64 0),.v (.int .i64 0),.v (.int .i64 0),.v (.int .i64 0),.v (.int .i64 0),.v (.int .i64 0),.v (.int .i64 0),.v (.int .i64 0),.v (.int .i64 0),.v (.bool false)]:=by kernel_rfl
theorem asL:dC Tryz.prog 113=some [.v (.string ByteArray.empty),.v (.int .i64 0),.v (.int .i64 0),.v (.int .i64 0),.sl [],.v (.int .i64 0),.v (.int .i64 0),.v (.int .i64 0),.v (.int .i64 0),.v (.int .i64 0),.v (.int .i64 0),.v (.int .i64 0),.v (.int .i64 0),.v (.int .i64 0)]:=by kernel_rfl
theorem akC:dC Tryz.prog 115=some [.v (.int .i64 0),.v (.int .i64 0),.v (.int .i64 0)]:=by kernel_rfl
theorem ahM:dC Tryz.prog 119=some [.v (.int .i64 0),.v (.bool false)]:=by kernel_rfl
theorem agV:dC Tryz.prog 139=some [.v (.int .i64 0),.v (.string ByteArray.empty)]:=by kernel_rfl
theorem ahP:dC Tryz.prog 170=some [.sl [],.sl [],.sl [],.sl [],.sl [],.sl [],.v (.int .i64 0),.v (.int .i64 0),.v (.int .i64 0),.v (.int .i64 0),.v (.int .i64 0),.v (.int .i64 0),.v (.int .i64 0),.v (.int .i64 0),.sl [],.sl [],.v (.bool false)]:=by kernel_rfl
theorem apT:dC Tryz.prog 194=some [.v (.int .i64 0),.v (.int .i64 0)]:=by kernel_rfl
theorem alD:pN Tryz.prog 200=some [(0,3,1)]:=by kernel_rfl
theorem aqO:dC Tryz.prog 200=some [.sl [],.v (.int .i64 0),.v (.int .i64 0)]:=by kernel_rfl
theorem atX:dC Tryz.prog 208=some [.v (.bool false),.v (.string ByteArray.empty)]:=by kernel_rfl
theorem asT:dC Tryz.prog 232=some [.v (.int .i64 0),.v (.int .i64 0)]:=by kernel_rfl
theorem anF:dC Tryz.prog 247=some [.v (.string ByteArray.empty),.v (.string ByteArray.empty)]:=by kernel_rfl
theorem aqN:dC Tryz.prog 260=some [.v (.bool false),.v (.int .i64 0),.sl [],.v (.int .i64 0),.v (.int .i64 0)]:=by kernel_rfl
theorem aqB:dC Tryz.prog 262=some [.v (.int .i64 0),.v (.int .i64 0),.v (.int .i64 0),.v (.int .i64 0)]:=by kernel_rfl
theorem arX:dC Tryz.prog 293=some [.v (.int .i64 0),.v (.int .i64 0),.v (.int .i64 0),.v (.int .i64 0)]:=by kernel_rfl
theorem agP:pN Tryz.prog 328=some [(0,9,1),(1,107,6),(2,113,14),(3,111,16),(4,194,2),(5,194,2),(10,3,1),(22,4,1),(23,119,2),(24,109,4)]:=by kernel_rfl
theorem anO:dC Tryz.prog 328=some [.sl [],.sl [],.sl [],.sl [],.sl [],.sl [],.v (.string ByteArray.empty),.v (.int .i64 0),.v (.int .i64 0),.v (.int .i64 0),.sl [],.v (.int .i64 0),.v (.int .i64 0),.v (.int .i64 0),.v (.int .i64 0),.v (.int .i64 0),.v (.int .i64 0),.v (.int .i64 0),.v (.int .i64 0),.v (.int .i64 0),.v (.int .i64 0),.v (.int .i64 0),.sl [],.sl [],.sl []]:=by kernel_rfl
theorem auA:dC Tryz.prog 332=some [.v (.int .i64 0),.v (.int .i64 0),.v (.bool false),.v (.int .i64 0),.sl [],.v (.int .i64 0),.v (.int .i64 0)]:=by kernel_rfl
theorem aoG:dC Tryz.prog 340=some [.v (.int .i64 0),.v (.int .i64 0),.v (.int .i64 0)]:=by kernel_rfl
theorem agK:dC Tryz.prog 380=some [.v (.int .i64 0),.v (.int .i64 0),.v (.int .i64 0),.v (.bool false)]:=by kernel_rfl
theorem co2:aC Tryz.prog 2=true:=by kernel_rfl
theorem co3:aC Tryz.prog 3=true:=by kernel_rfl
theorem co4:aC Tryz.prog 4=true:=by kernel_rfl
theorem co5:aC Tryz.prog 5=true:=by kernel_rfl
theorem co6:aC Tryz.prog 6=true:=by kernel_rfl
theorem co7:aC Tryz.prog 7=true:=by kernel_rfl
theorem co8:aC Tryz.prog 8=true:=by kernel_rfl
theorem co9:aC Tryz.prog 9=true:=by kernel_rfl
theorem co10:aC Tryz.prog 10=true:=by kernel_rfl
theorem co11:aC Tryz.prog 11=true:=by kernel_rfl
theorem co12:aC Tryz.prog 12=true:=by kernel_rfl
theorem co13:aC Tryz.prog 13=true:=by kernel_rfl
theorem co14:aC Tryz.prog 14=true:=by kernel_rfl
theorem co15:aC Tryz.prog 15=true:=by kernel_rfl
theorem co16:aC Tryz.prog 16=true:=by kernel_rfl
theorem co17:aC Tryz.prog 17=true:=by kernel_rfl
theorem co18:aC Tryz.prog 18=true:=by kernel_rfl
theorem co19:aC Tryz.prog 19=true:=by kernel_rfl
theorem co20:aC Tryz.prog 20=true:=by kernel_rfl
theorem co21:aC Tryz.prog 21=true:=by kernel_rfl
theorem co22:aC Tryz.prog 22=true:=by kernel_rfl
theorem co23:aC Tryz.prog 23=true:=by kernel_rfl
theorem co24:aC Tryz.prog 24=true:=by kernel_rfl
theorem co25:aC Tryz.prog 25=true:=by kernel_rfl
theorem co26:aC Tryz.prog 26=true:=by kernel_rfl
theorem co27:aC Tryz.prog 27=true:=by kernel_rfl
theorem co28:aC Tryz.prog 28=true:=by kernel_rfl
theorem co29:aC Tryz.prog 29=true:=by kernel_rfl
theorem co30:aC Tryz.prog 30=true:=by kernel_rfl
theorem co31:aC Tryz.prog 31=true:=by kernel_rfl
theorem co32:aC Tryz.prog 32=true:=by kernel_rfl
theorem co33:aC Tryz.prog 33=true:=by kernel_rfl
theorem co34:aC Tryz.prog 34=true:=by kernel_rfl
theorem co35:aC Tryz.prog 35=true:=by kernel_rfl
theorem co36:aC Tryz.prog 36=true:=by kernel_rfl
theorem co37:aC Tryz.prog 37=true:=by kernel_rfl
theorem co38:aC Tryz.prog 38=true:=by kernel_rfl
theorem co39:aC Tryz.prog 39=true:=by kernel_rfl
theorem co40:aC Tryz.prog 40=true:=by kernel_rfl
theorem co41:aC Tryz.prog 41=true:=by kernel_rfl
theorem co42:aC Tryz.prog 42=true:=by kernel_rfl
theorem co43:aC Tryz.prog 43=true:=by kernel_rfl
theorem co44:aC Tryz.prog 44=true:=by kernel_rfl
theorem co45:aC Tryz.prog 45=true:=by kernel_rfl
theorem co46:aC Tryz.prog 46=true:=by kernel_rfl
theorem co47:aC Tryz.prog 47=true:=by kernel_rfl
theorem co48:aC Tryz.prog 48=true:=by kernel_rfl
theorem co49:aC Tryz.prog 49=true:=by kernel_rfl
theorem co50:aC Tryz.prog 50=true:=by kernel_rfl
theorem co51:aC Tryz.prog 51=true:=by kernel_rfl
theorem co52:aC Tryz.prog 52=true:=by kernel_rfl
theorem co53:aC Tryz.prog 53=true:=by kernel_rfl
theorem co54:aC Tryz.prog 54=true:=by kernel_rfl
theorem co55:aC Tryz.prog 55=true:=by kernel_rfl
theorem co56:aC Tryz.prog 56=true:=by kernel_rfl
theorem co57:aC Tryz.prog 57=true:=by kernel_rfl
theorem co58:aC Tryz.prog 58=true:=by kernel_rfl
theorem co59:aC Tryz.prog 59=true:=by kernel_rfl
theorem co60:aC Tryz.prog 60=true:=by kernel_rfl
theorem co61:aC Tryz.prog 61=true:=by kernel_rfl
theorem co62:aC Tryz.prog 62=true:=by kernel_rfl
theorem co63:aC Tryz.prog 63=true:=by kernel_rfl
theorem co64:aC Tryz.prog 64=true:=by kernel_rfl
theorem co65:aC Tryz.prog 65=true:=by kernel_rfl
theorem co66:aC Tryz.prog 66=true:=by kernel_rfl
theorem co67:aC Tryz.prog 67=true:=by kernel_rfl
theorem co68:aC Tryz.prog 68=true:=by kernel_rfl
theorem co69:aC Tryz.prog 69=true:=by kernel_rfl
theorem co70:aC Tryz.prog 70=true:=by kernel_rfl
theorem co71:aC Tryz.prog 71=true:=by kernel_rfl
theorem co72:aC Tryz.prog 72=true:=by kernel_rfl
theorem co73:aC Tryz.prog 73=true:=by kernel_rfl
theorem co74:aC Tryz.prog 74=true:=by kernel_rfl
theorem co75:aC Tryz.prog 75=true:=by kernel_rfl
theorem co76:aC Tryz.prog 76=true:=by kernel_rfl
theorem co77:aC Tryz.prog 77=true:=by kernel_rfl
theorem co78:aC Tryz.prog 78=true:=by kernel_rfl
theorem co79:aC Tryz.prog 79=true:=by kernel_rfl
theorem co80:aC Tryz.prog 80=true:=by kernel_rfl
theorem co81:aC Tryz.prog 81=true:=by kernel_rfl
theorem co82:aC Tryz.prog 82=true:=by kernel_rfl
theorem co83:aC Tryz.prog 83=true:=by kernel_rfl
theorem co84:aC Tryz.prog 84=true:=by kernel_rfl
theorem co85:aC Tryz.prog 85=true:=by kernel_rfl
theorem co86:aC Tryz.prog 86=true:=by kernel_rfl
theorem co87:aC Tryz.prog 87=true:=by kernel_rfl
theorem co88:aC Tryz.prog 88=true:=by kernel_rfl
theorem co89:aC Tryz.prog 89=true:=by kernel_rfl
theorem co90:aC Tryz.prog 90=true:=by kernel_rfl
theorem co91:aC Tryz.prog 91=true:=by kernel_rfl
theorem co92:aC Tryz.prog 92=true:=by kernel_rfl
theorem co93:aC Tryz.prog 93=true:=by kernel_rfl
theorem co94:aC Tryz.prog 94=true:=by kernel_rfl
theorem co95:aC Tryz.prog 95=true:=by kernel_rfl
theorem co96:aC Tryz.prog 96=true:=by kernel_rfl
theorem co97:aC Tryz.prog 97=true:=by kernel_rfl
theorem co98:aC Tryz.prog 98=true:=by kernel_rfl
theorem co99:aC Tryz.prog 99=true:=by kernel_rfl
theorem anU:aC Tryz.prog 100=true:=by kernel_rfl
theorem anN:aC Tryz.prog 101=true:=by kernel_rfl
theorem arS:aC Tryz.prog 102=true:=by kernel_rfl
theorem auL:aC Tryz.prog 103=true:=by kernel_rfl
theorem apG:aC Tryz.prog 104=true:=by kernel_rfl
theorem aqQ:aC Tryz.prog 105=true:=by kernel_rfl
theorem anX:aC Tryz.prog 106=true:=by kernel_rfl
theorem ahR:aC Tryz.prog 107=true:=by kernel_rfl
theorem alQ:aC Tryz.prog 108=true:=by kernel_rfl
theorem akV:aC Tryz.prog 109=true:=by kernel_rfl
theorem aiN:aC Tryz.prog 110=true:=by kernel_rfl
theorem anL:aC Tryz.prog 111=true:=by kernel_rfl
theorem afX:aC Tryz.prog 112=true:=by kernel_rfl
theorem akA:aC Tryz.prog 113=true:=by kernel_rfl
theorem amC:aC Tryz.prog 114=true:=by kernel_rfl
theorem akN:aC Tryz.prog 115=true:=by kernel_rfl
theorem asZ:aC Tryz.prog 116=true:=by kernel_rfl
theorem anS:aC Tryz.prog 117=true:=by kernel_rfl
theorem aoM:aC Tryz.prog 118=true:=by kernel_rfl
theorem amB:aC Tryz.prog 119=true:=by kernel_rfl
theorem atN:aC Tryz.prog 120=true:=by kernel_rfl
theorem alL:aC Tryz.prog 121=true:=by kernel_rfl
theorem asA:aC Tryz.prog 122=true:=by kernel_rfl
theorem asS:aC Tryz.prog 123=true:=by kernel_rfl
theorem atE:aC Tryz.prog 124=true:=by kernel_rfl
theorem agI:aC Tryz.prog 125=true:=by kernel_rfl
theorem apA:aC Tryz.prog 126=true:=by kernel_rfl
theorem arU:aC Tryz.prog 127=true:=by kernel_rfl
theorem ajN:aC Tryz.prog 128=true:=by kernel_rfl
theorem aoP:aC Tryz.prog 129=true:=by kernel_rfl
theorem auR:aC Tryz.prog 130=true:=by kernel_rfl
theorem ahB:aC Tryz.prog 131=true:=by kernel_rfl
theorem avV:aC Tryz.prog 132=true:=by kernel_rfl
theorem ajM:aC Tryz.prog 133=true:=by kernel_rfl
theorem atC:aC Tryz.prog 134=true:=by kernel_rfl
theorem aqX:aC Tryz.prog 135=true:=by kernel_rfl
theorem auE:aC Tryz.prog 136=true:=by kernel_rfl
theorem aqC:aC Tryz.prog 137=true:=by kernel_rfl
theorem amK:aC Tryz.prog 138=true:=by kernel_rfl
theorem arO:aC Tryz.prog 139=true:=by kernel_rfl
theorem avD:aC Tryz.prog 140=true:=by kernel_rfl
theorem aoH:aC Tryz.prog 141=true:=by kernel_rfl
theorem ajK:aC Tryz.prog 142=true:=by kernel_rfl
theorem afS:aC Tryz.prog 143=true:=by kernel_rfl
theorem aiV:aC Tryz.prog 144=true:=by kernel_rfl
theorem alR:aC Tryz.prog 145=true:=by kernel_rfl
theorem agM:aC Tryz.prog 146=true:=by kernel_rfl
theorem auK:aC Tryz.prog 147=true:=by kernel_rfl
theorem akY:aC Tryz.prog 148=true:=by kernel_rfl
theorem asW:aC Tryz.prog 149=true:=by kernel_rfl
theorem alK:aC Tryz.prog 150=true:=by kernel_rfl
theorem aoS:aC Tryz.prog 151=true:=by kernel_rfl
theorem auG:aC Tryz.prog 152=true:=by kernel_rfl
theorem akW:aC Tryz.prog 153=true:=by kernel_rfl
theorem agC:aC Tryz.prog 154=true:=by kernel_rfl
theorem anQ:aC Tryz.prog 155=true:=by kernel_rfl
theorem alS:aC Tryz.prog 156=true:=by kernel_rfl
theorem asI:aC Tryz.prog 157=true:=by kernel_rfl
theorem atO:aC Tryz.prog 158=true:=by kernel_rfl
theorem aiJ:aC Tryz.prog 159=true:=by kernel_rfl
theorem ahS:aC Tryz.prog 160=true:=by kernel_rfl
theorem apQ:aC Tryz.prog 161=true:=by kernel_rfl
theorem amA:aC Tryz.prog 162=true:=by kernel_rfl
theorem agT:aC Tryz.prog 163=true:=by kernel_rfl
theorem ahQ:aC Tryz.prog 164=true:=by kernel_rfl
theorem amE:aC Tryz.prog 165=true:=by kernel_rfl
theorem apJ:aC Tryz.prog 166=true:=by kernel_rfl
theorem amH:aC Tryz.prog 167=true:=by kernel_rfl
theorem aiD:aC Tryz.prog 168=true:=by kernel_rfl
theorem aqE:aC Tryz.prog 169=true:=by kernel_rfl
theorem amL:aC Tryz.prog 170=true:=by kernel_rfl
theorem arG:aC Tryz.prog 171=true:=by kernel_rfl
theorem apS:aC Tryz.prog 172=true:=by kernel_rfl
theorem aiW:aC Tryz.prog 173=true:=by kernel_rfl
theorem arR:aC Tryz.prog 174=true:=by kernel_rfl
theorem aiK:aC Tryz.prog 175=true:=by kernel_rfl
theorem aoV:aC Tryz.prog 176=true:=by kernel_rfl
theorem apP:aC Tryz.prog 177=true:=by kernel_rfl
theorem amR:aC Tryz.prog 178=true:=by kernel_rfl
theorem anM:aC Tryz.prog 179=true:=by kernel_rfl
theorem arW:aC Tryz.prog 180=true:=by kernel_rfl
theorem auS:aC Tryz.prog 181=true:=by kernel_rfl
theorem arE:aC Tryz.prog 182=true:=by kernel_rfl
theorem ajR:aC Tryz.prog 183=true:=by kernel_rfl
theorem ajL:aC Tryz.prog 184=true:=by kernel_rfl
theorem amI:aC Tryz.prog 185=true:=by kernel_rfl
theorem aoZ:aC Tryz.prog 186=true:=by kernel_rfl
theorem ahW:aC Tryz.prog 187=true:=by kernel_rfl
theorem auO:aC Tryz.prog 188=true:=by kernel_rfl
theorem agW:aC Tryz.prog 189=true:=by kernel_rfl
theorem agD:aC Tryz.prog 190=true:=by kernel_rfl
theorem apM:aC Tryz.prog 191=true:=by kernel_rfl
theorem apN:aC Tryz.prog 192=true:=by kernel_rfl
theorem arD:aC Tryz.prog 193=true:=by kernel_rfl
theorem auQ:aC Tryz.prog 194=true:=by kernel_rfl
theorem aoE:aC Tryz.prog 195=true:=by kernel_rfl
theorem aoF:aC Tryz.prog 196=true:=by kernel_rfl
theorem asV:aC Tryz.prog 197=true:=by kernel_rfl
theorem afW:aC Tryz.prog 198=true:=by kernel_rfl
theorem aqH:aC Tryz.prog 199=true:=by kernel_rfl
theorem anD:aC Tryz.prog 200=true:=by kernel_rfl
theorem avW:aC Tryz.prog 201=true:=by kernel_rfl
theorem avB:aC Tryz.prog 202=true:=by kernel_rfl
theorem anE:aC Tryz.prog 203=true:=by kernel_rfl
theorem arT:aC Tryz.prog 204=true:=by kernel_rfl
theorem akQ:aC Tryz.prog 205=true:=by kernel_rfl
theorem anZ:aC Tryz.prog 206=true:=by kernel_rfl
theorem atY:aC Tryz.prog 207=true:=by kernel_rfl
theorem ahE:aC Tryz.prog 208=true:=by kernel_rfl
theorem aqZ:aC Tryz.prog 209=true:=by kernel_rfl
theorem ahJ:aC Tryz.prog 210=true:=by kernel_rfl
theorem auN:aC Tryz.prog 211=true:=by kernel_rfl
theorem aiT:aC Tryz.prog 212=true:=by kernel_rfl
theorem auD:aC Tryz.prog 213=true:=by kernel_rfl
theorem avI:aC Tryz.prog 214=true:=by kernel_rfl
theorem anG:aC Tryz.prog 215=true:=by kernel_rfl
theorem aqW:aC Tryz.prog 216=true:=by kernel_rfl
theorem ahN:aC Tryz.prog 217=true:=by kernel_rfl
theorem alE:aC Tryz.prog 218=true:=by kernel_rfl
theorem afY:aC Tryz.prog 219=true:=by kernel_rfl
theorem agJ:aC Tryz.prog 220=true:=by kernel_rfl
theorem asG:aC Tryz.prog 221=true:=by kernel_rfl
theorem apR:aC Tryz.prog 222=true:=by kernel_rfl
theorem amW:aC Tryz.prog 223=true:=by kernel_rfl
theorem anY:aC Tryz.prog 224=true:=by kernel_rfl
theorem apH:aC Tryz.prog 225=true:=by kernel_rfl
theorem amQ:aC Tryz.prog 226=true:=by kernel_rfl
theorem ahK:aC Tryz.prog 227=true:=by kernel_rfl
theorem asN:aC Tryz.prog 228=true:=by kernel_rfl
theorem aqV:aC Tryz.prog 229=true:=by kernel_rfl
theorem arP:aC Tryz.prog 230=true:=by kernel_rfl
theorem avN:aC Tryz.prog 231=true:=by kernel_rfl
theorem arI:aC Tryz.prog 232=true:=by kernel_rfl
theorem alY:aC Tryz.prog 233=true:=by kernel_rfl
theorem aoY:aC Tryz.prog 234=true:=by kernel_rfl
theorem apY:aC Tryz.prog 235=true:=by kernel_rfl
theorem aiR:aC Tryz.prog 236=true:=by kernel_rfl
theorem ajU:aC Tryz.prog 237=true:=by kernel_rfl
theorem apU:aC Tryz.prog 238=true:=by kernel_rfl
theorem atA:aC Tryz.prog 239=true:=by kernel_rfl
theorem aqJ:aC Tryz.prog 240=true:=by kernel_rfl
theorem avF:aC Tryz.prog 241=true:=by kernel_rfl
theorem anA:aC Tryz.prog 242=true:=by kernel_rfl
theorem auX:aC Tryz.prog 243=true:=by kernel_rfl
theorem ajA:aC Tryz.prog 244=true:=by kernel_rfl
theorem auU:aC Tryz.prog 245=true:=by kernel_rfl
theorem arN:aC Tryz.prog 246=true:=by kernel_rfl
theorem amD:aC Tryz.prog 247=true:=by kernel_rfl
theorem atI:aC Tryz.prog 248=true:=by kernel_rfl
theorem ahG:aC Tryz.prog 249=true:=by kernel_rfl
theorem asM:aC Tryz.prog 250=true:=by kernel_rfl
theorem asJ:aC Tryz.prog 251=true:=by kernel_rfl
theorem amT:aC Tryz.prog 252=true:=by kernel_rfl
theorem asH:aC Tryz.prog 253=true:=by kernel_rfl
theorem auJ:aC Tryz.prog 254=true:=by kernel_rfl
theorem alU:aC Tryz.prog 255=true:=by kernel_rfl
theorem aqP:aC Tryz.prog 256=true:=by kernel_rfl
theorem atS:aC Tryz.prog 257=true:=by kernel_rfl
theorem akE:aC Tryz.prog 258=true:=by kernel_rfl
theorem ajW:aC Tryz.prog 259=true:=by kernel_rfl
theorem auW:aC Tryz.prog 260=true:=by kernel_rfl
theorem akT:aC Tryz.prog 261=true:=by kernel_rfl
theorem amV:aC Tryz.prog 262=true:=by kernel_rfl
theorem ajV:aC Tryz.prog 263=true:=by kernel_rfl
theorem aqY:aC Tryz.prog 264=true:=by kernel_rfl
theorem aoR:aC Tryz.prog 265=true:=by kernel_rfl
theorem aiO:aC Tryz.prog 266=true:=by kernel_rfl
theorem asB:aC Tryz.prog 267=true:=by kernel_rfl
theorem auB:aC Tryz.prog 268=true:=by kernel_rfl
theorem atW:aC Tryz.prog 270=true:=by kernel_rfl
theorem aoN:aC Tryz.prog 271=true:=by kernel_rfl
theorem arY:aC Tryz.prog 272=true:=by kernel_rfl
theorem ajF:aC Tryz.prog 273=true:=by kernel_rfl
theorem alC:aC Tryz.prog 274=true:=by kernel_rfl
theorem avK:aC Tryz.prog 275=true:=by kernel_rfl
theorem aoT:aC Tryz.prog 276=true:=by kernel_rfl
theorem ajC:aC Tryz.prog 277=true:=by kernel_rfl
theorem auZ:aC Tryz.prog 278=true:=by kernel_rfl
theorem ahX:aC Tryz.prog 279=true:=by kernel_rfl
theorem aqK:aC Tryz.prog 280=true:=by kernel_rfl
theorem aoA:aC Tryz.prog 281=true:=by kernel_rfl
theorem aoO:aC Tryz.prog 282=true:=by kernel_rfl
theorem afO:aC Tryz.prog 283=true:=by kernel_rfl
theorem ajQ:aC Tryz.prog 284=true:=by kernel_rfl
theorem ahD:aC Tryz.prog 285=true:=by kernel_rfl
theorem ajX:aC Tryz.prog 286=true:=by kernel_rfl
theorem avC:aC Tryz.prog 287=true:=by kernel_rfl
theorem akI:aC Tryz.prog 288=true:=by kernel_rfl
theorem auY:aC Tryz.prog 289=true:=by kernel_rfl
theorem amJ:aC Tryz.prog 290=true:=by kernel_rfl
theorem aoK:aC Tryz.prog 291=true:=by kernel_rfl
theorem ahV:aC Tryz.prog 292=true:=by kernel_rfl
theorem anC:aC Tryz.prog 293=true:=by kernel_rfl
theorem anV:aC Tryz.prog 294=true:=by kernel_rfl
theorem asR:aC Tryz.prog 295=true:=by kernel_rfl
theorem atV:aC Tryz.prog 296=true:=by kernel_rfl
theorem akG:aC Tryz.prog 297=true:=by kernel_rfl
theorem ahF:aC Tryz.prog 298=true:=by kernel_rfl
theorem agX:aC Tryz.prog 299=true:=by kernel_rfl
theorem agS:aC Tryz.prog 300=true:=by kernel_rfl
theorem apB:aC Tryz.prog 301=true:=by kernel_rfl
theorem agH:aC Tryz.prog 302=true:=by kernel_rfl
theorem ahY:aC Tryz.prog 305=true:=by kernel_rfl
theorem akF:aC Tryz.prog 306=true:=by kernel_rfl
theorem aqS:aC Tryz.prog 307=true:=by kernel_rfl
theorem akS:aC Tryz.prog 308=true:=by kernel_rfl
theorem atT:aC Tryz.prog 309=true:=by kernel_rfl
theorem ajB:aC Tryz.prog 310=true:=by kernel_rfl
theorem ahU:aC Tryz.prog 311=true:=by kernel_rfl
theorem amS:aC Tryz.prog 312=true:=by kernel_rfl
theorem anP:aC Tryz.prog 313=true:=by kernel_rfl
theorem agG:aC Tryz.prog 314=true:=by kernel_rfl
theorem alM:aC Tryz.prog 315=true:=by kernel_rfl
theorem auI:aC Tryz.prog 316=true:=by kernel_rfl
theorem atB:aC Tryz.prog 317=true:=by kernel_rfl
theorem atF:aC Tryz.prog 318=true:=by kernel_rfl
theorem avA:aC Tryz.prog 319=true:=by kernel_rfl
theorem amU:aC Tryz.prog 320=true:=by kernel_rfl
theorem anR:aC Tryz.prog 321=true:=by kernel_rfl
theorem ajY:aC Tryz.prog 322=true:=by kernel_rfl
theorem arF:aC Tryz.prog 323=true:=by kernel_rfl
theorem avO:aC Tryz.prog 324=true:=by kernel_rfl
theorem aqI:aC Tryz.prog 325=true:=by kernel_rfl
theorem aqG:aC Tryz.prog 326=true:=by kernel_rfl
theorem agQ:aC Tryz.prog 327=true:=by kernel_rfl
theorem akJ:aC Tryz.prog 328=true:=by kernel_rfl
theorem afP:aC Tryz.prog 329=true:=by kernel_rfl
theorem akK:aC Tryz.prog 330=true:=by kernel_rfl
theorem ajS:aC Tryz.prog 331=true:=by kernel_rfl
theorem aqU:aC Tryz.prog 332=true:=by kernel_rfl
theorem anI:aC Tryz.prog 333=true:=by kernel_rfl
theorem apD:aC Tryz.prog 334=true:=by kernel_rfl
theorem aoC:aC Tryz.prog 335=true:=by kernel_rfl
theorem asP:aC Tryz.prog 336=true:=by kernel_rfl
theorem ajH:aC Tryz.prog 337=true:=by kernel_rfl
theorem asY:aC Tryz.prog 338=true:=by kernel_rfl
theorem aoB:aC Tryz.prog 339=true:=by kernel_rfl
theorem anB:aC Tryz.prog 340=true:=by kernel_rfl
theorem aiE:aC Tryz.prog 342=true:=by kernel_rfl
theorem aiA:aC Tryz.prog 343=true:=by kernel_rfl
theorem auT:aC Tryz.prog 344=true:=by kernel_rfl
theorem auF:aC Tryz.prog 345=true:=by kernel_rfl
theorem avG:aC Tryz.prog 346=true:=by kernel_rfl
theorem alF:aC Tryz.prog 347=true:=by kernel_rfl
theorem asK:aC Tryz.prog 348=true:=by kernel_rfl
theorem avR:aC Tryz.prog 349=true:=by kernel_rfl
theorem arJ:aC Tryz.prog 350=true:=by kernel_rfl
theorem ajJ:aC Tryz.prog 351=true:=by kernel_rfl
theorem anJ:aC Tryz.prog 352=true:=by kernel_rfl
theorem agB:aC Tryz.prog 353=true:=by kernel_rfl
theorem anW:aC Tryz.prog 354=true:=by kernel_rfl
theorem arA:aC Tryz.prog 355=true:=by kernel_rfl
theorem apW:aC Tryz.prog 356=true:=by kernel_rfl
theorem auC:aC Tryz.prog 357=true:=by kernel_rfl
theorem asQ:aC Tryz.prog 358=true:=by kernel_rfl
theorem avP:aC Tryz.prog 359=true:=by kernel_rfl
theorem atP:aC Tryz.prog 360=true:=by kernel_rfl
theorem ajO:aC Tryz.prog 361=true:=by kernel_rfl
theorem afZ:aC Tryz.prog 362=true:=by kernel_rfl
theorem apX:aC Tryz.prog 363=true:=by kernel_rfl
theorem asU:aC Tryz.prog 364=true:=by kernel_rfl
theorem alI:aC Tryz.prog 365=true:=by kernel_rfl
theorem arQ:aC Tryz.prog 366=true:=by kernel_rfl
theorem atQ:aC Tryz.prog 367=true:=by kernel_rfl
theorem agE:aC Tryz.prog 368=true:=by kernel_rfl
theorem aiC:aC Tryz.prog 369=true:=by kernel_rfl
theorem akO:aC Tryz.prog 371=true:=by kernel_rfl
theorem auP:aC Tryz.prog 372=true:=by kernel_rfl
theorem aiI:aC Tryz.prog 373=true:=by kernel_rfl
theorem aqR:aC Tryz.prog 374=true:=by kernel_rfl
theorem amZ:aC Tryz.prog 375=true:=by kernel_rfl
theorem avX:aC Tryz.prog 376=true:=by kernel_rfl
theorem agF:aC Tryz.prog 377=true:=by kernel_rfl
theorem auV:aC Tryz.prog 378=true:=by kernel_rfl
theorem amM:aC Tryz.prog 379=true:=by kernel_rfl
theorem avH:aC Tryz.prog 380=true:=by kernel_rfl
theorem aiF:aC Tryz.prog 381=true:=by kernel_rfl
theorem aqA:aC Tryz.prog 382=true:=by kernel_rfl
theorem amF:aC Tryz.prog 383=true:=by kernel_rfl
theorem apO:aC Tryz.prog 384=true:=by kernel_rfl
theorem avM:aC Tryz.prog 385=true:=by kernel_rfl
theorem atR:aC Tryz.prog 386=true:=by kernel_rfl
theorem amX:aC Tryz.prog 387=true:=by kernel_rfl
theorem amP:aC Tryz.prog 388=true:=by kernel_rfl
theorem asX:aC Tryz.prog 389=true:=by kernel_rfl
theorem atD:aC Tryz.prog 390=true:=by kernel_rfl
theorem alW:aC Tryz.prog 414=true:=by kernel_rfl
attribute [go_sem] it3 it5 st9 asC avT bo4 atM aoJ akB aeW acY adQ afJ acN aeR aeU aeI acT adK adW adG aeN aeZ adR adA acG aeP acW afL afE adI adN acD aeJ Yp Xu Zw ZE Yc Z0 YK aaO XW Zz ZF Z4 XL Xt Y3 aaW YZ XA XC Zg Y8 X7 ZU aaR XD XJ Y5 Ye Ym aaA X0 Z6 Xg Wq Ww Wu ZP Zk XH XU ZY ZR Yb Zi YS X6 Zt aaP Yt XK aaQ Yy Za XG ZJ ZK ZL XY aaU ZZ aaI YW ZC Xz Yf aaG Y1 aaL ZM YI Yi el22 sl22 el23 sl23 el26 sl26 el27 sl27 el28 sl28 el31 sl31 el32 sl32 el33 sl33 aiP sl38 acR sl39 st44 akZ sl49 el60 sl60 el65 sl65 sl72 el86 sl86 ar89 ajZ ahL agO afR arC atG abF avQ agR atU arL asE alG apI aiB amY ajE aiU ajG akU alO avL arV aiH alV aqD ajT alN afV ahA apF ahI alH alB ld3 ld4 ld9 ld22 ld23 ld25 ld26 ld27 ld28 ld30 ld31 ld32 ld33 ld35 ld38 ld39 ld41 ld43 ld44 ld45 ld69 ld86 ld95 aqL aiL apZ alZ ahH agY atJ alA asO apL afQ ahC atL atZ arH apK agZ anK asD akD aoW atH Ej kk3 zv3 pa25 pa30 pa41 pa43 pa69 ajP alP aoD apV akR arM agN aoX auH apE amO aiY aoI ahT aiG akP ajI avS avU so3 so4 UR abI ze3 ze4 ze9 ze25 ze30 ze41 atK ze69 ze95 akM aoU ajD aoQ asL akC ahM agV ahP apT alD aqO atX asT anF aqN aqB arX agP anO auA aoG agK co2 co3 co4 co5 co6 co7 co8 co9 co10 co11 co12 co13 co14 co15 co16 co17 co18 co19 co20 co21 co22 co23 co24 co25 co26 co27 co28 co29 co30 co31 co32 co33 co34 co35 co36 co37 co38 co39 co40 co41 co42 co43 co44 co45 co46 co47 co48 co49 co50 co51 co52 co53 co54 co55 co56 co57 co58 co59 co60 co61 co62 co63 co64 co65 co66 co67 co68 co69 co70 co71 co72 co73 co74 co75 co76 co77 co78 co79 co80 co81 co82 co83 co84 co85 co86 co87 co88 co89 co90 co91 co92 co93 co94 co95 co96 co97 co98 co99 anU anN arS auL apG aqQ anX ahR alQ akV aiN anL afX akA amC akN asZ anS aoM amB atN alL asA asS atE agI apA arU ajN aoP auR ahB avV ajM atC aqX auE aqC amK arO avD aoH ajK afS aiV alR agM auK akY asW alK aoS auG akW agC anQ alS asI atO aiJ ahS apQ amA agT ahQ amE apJ amH aiD aqE amL arG apS aiW arR aiK aoV apP amR anM arW auS arE ajR ajL amI aoZ ahW auO agW agD apM apN arD auQ aoE aoF asV afW aqH anD avW avB anE arT akQ anZ atY ahE aqZ ahJ auN aiT auD avI anG aqW ahN alE afY agJ asG apR amW anY apH amQ ahK asN aqV arP avN arI alY aoY apY aiR ajU apU atA aqJ avF anA auX ajA auU arN amD atI ahG asM asJ amT asH auJ alU aqP atS akE ajW auW akT amV ajV aqY aoR aiO asB auB atW aoN arY ajF alC avK aoT ajC auZ ahX aqK aoA aoO afO ajQ ahD ajX avC akI auY amJ aoK ahV anC anV asR atV akG ahF agX agS apB agH ahY akF aqS akS atT ajB ahU amS anP agG alM auI atB atF avA amU anR ajY arF avO aqI aqG agQ akJ afP akK ajS aqU anI apD aoC asP ajH asY aoB anB aiE aiA auT auF avG alF asK avR arJ ajJ anJ agB anW arA apW auC asQ avP atP ajO afZ apX asU alI arQ atQ agE aiC akO auP aiI aqR amZ avX agF auV amM avH aiF aqA amF apO avM atR amX amP asX atD alW
end Go.Proofs.YtohmomanmikphaaGreatDoor.Ty
end
section
namespace Go.Aw.D
open Go.Aw
def bN(n:Int):List AV:=[.v (.int .i64 n)]
def eG(b:Bool):List AV:=[.v (.bool b)]
def fJ(s:ByteArray):List AV:=[.v (.string s)]
theorem EU(x:Int):(bN x).length=1:=rfl
theorem V5(x:Int):(bN x).getD 0 .any=.v (.int .i64 x):=rfl
theorem Mz(x:Bool):(eG x).length=1:=rfl
theorem Sm(x:Bool):(eG x).getD 0 .any=.v (.bool x):=rfl
theorem M9(x:ByteArray):(fJ x).length=1:=rfl
theorem Vn(x:ByteArray):(fJ x).getD 0 .any=.v (.string x):=rfl
structure Point where
 t:Int
 a:Int
 deriving DecidableEq
def bU(x:Point):List AV:=[.v (.int .i64 x.t),.v (.int .i64 x.a)]
theorem fQ(x:Point):(bU x).length=2:=rfl
theorem Nq(x:Point):(bU x).getD 0 .any=.v (.int .i64 x.t):=rfl
theorem Oj(x:Point):(bU x).getD 1 .any=.v (.int .i64 x.a):=rfl
theorem Av(x:Point):(bU x).take 2=bU x:=rfl
structure Arc where
 src:Int
 dst:Int
 profile:Int
 miles:Int
 travel:List Point
 slow:List Point
 deriving DecidableEq
def fL(x:Arc):List AV:=[.v (.int .i64 x.src),.v (.int .i64 x.dst),.v (.int .i64 x.profile),.v (.int .i64 x.miles),.sl (x.travel.map bU),.sl (x.slow.map bU)]
theorem iH(x:Arc):(fL x).length=6:=rfl
theorem VF(x:Arc):(fL x).getD 0 .any=.v (.int .i64 x.src):=rfl
theorem Uk(x:Arc):(fL x).getD 1 .any=.v (.int .i64 x.dst):=rfl
theorem TZ(x:Arc):(fL x).getD 2 .any=.v (.int .i64 x.profile):=rfl
theorem VJ(x:Arc):(fL x).getD 3 .any=.v (.int .i64 x.miles):=rfl
theorem Xe(x:Arc):(fL x).getD 4 .any=.sl (x.travel.map bU):=rfl
theorem WT(x:Arc):(fL x).getD 5 .any=.sl (x.slow.map bU):=rfl
theorem OL(x:Arc):(fL x).take 6=fL x:=rfl
structure Network where
 places:List ByteArray
 arcs:List Arc
 deriving DecidableEq
def aU(x:Network):List AV:=[.sl (x.places.map fJ),.sl (x.arcs.map fL)]
theorem Dx(x:Network):(aU x).length=2:=rfl
theorem Ic(x:Network):(aU x).getD 0 .any=.sl (x.places.map fJ):=rfl
theorem IS(x:Network):(aU x).getD 1 .any=.sl (x.arcs.map fL):=rfl
theorem D1(x:Network):(aU x).take 2=aU x:=rfl
structure VType where
 name:ByteArray
 count:Int
 src:Int
 dst:Int
 cap:List Int
 skills:Int
 profile:Int
 start:Int
 close:Int
 drive:Int
 rest:Int
 fixed:Int
 perMile:Int
 perTick:Int
 deriving DecidableEq
def bB(x:VType):List AV:=[.v (.string x.name),.v (.int .i64 x.count),.v (.int .i64 x.src),.v (.int .i64 x.dst),.sl (x.cap.map bN),.v (.int .i64 x.skills),.v (.int .i64 x.profile),.v (.int .i64 x.start),.v (.int .i64 x.close),.v (.int .i64 x.drive),.v (.int .i64 x.rest),.v (.int .i64 x.fixed),.v (.int .i64 x.perMile),.v (.int .i64 x.perTick)]
theorem jB(x:VType):(bB x).length=14:=rfl
theorem M6(x:VType):(bB x).getD 0 .any=.v (.string x.name):=rfl
theorem M3(x:VType):(bB x).getD 1 .any=.v (.int .i64 x.count):=rfl
theorem NU(x:VType):(bB x).getD 2 .any=.v (.int .i64 x.src):=rfl
theorem OI(x:VType):(bB x).getD 3 .any=.v (.int .i64 x.dst):=rfl
theorem O6(x:VType):(bB x).getD 4 .any=.sl (x.cap.map bN):=rfl
theorem O8(x:VType):(bB x).getD 5 .any=.v (.int .i64 x.skills):=rfl
theorem Oh(x:VType):(bB x).getD 6 .any=.v (.int .i64 x.profile):=rfl
theorem MY(x:VType):(bB x).getD 7 .any=.v (.int .i64 x.start):=rfl
theorem OM(x:VType):(bB x).getD 8 .any=.v (.int .i64 x.close):=rfl
theorem N2(x:VType):(bB x).getD 9 .any=.v (.int .i64 x.drive):=rfl
theorem JX(x:VType):(bB x).getD 10 .any=.v (.int .i64 x.rest):=rfl
theorem J7(x:VType):(bB x).getD 11 .any=.v (.int .i64 x.fixed):=rfl
theorem KN(x:VType):(bB x).getD 12 .any=.v (.int .i64 x.perMile):=rfl
theorem Md(x:VType):(bB x).getD 13 .any=.v (.int .i64 x.perTick):=rfl
theorem I0(x:VType):(bB x).take 14=bB x:=rfl
structure Stop where
 place:Int
 start:Int
 close:Int
 service:Int
 deriving DecidableEq
def dR(x:Stop):List AV:=[.v (.int .i64 x.place),.v (.int .i64 x.start),.v (.int .i64 x.close),.v (.int .i64 x.service)]
theorem kF(x:Stop):(dR x).length=4:=rfl
theorem RM(x:Stop):(dR x).getD 0 .any=.v (.int .i64 x.place):=rfl
theorem RQ(x:Stop):(dR x).getD 1 .any=.v (.int .i64 x.start):=rfl
theorem RK(x:Stop):(dR x).getD 2 .any=.v (.int .i64 x.close):=rfl
theorem SS(x:Stop):(dR x).getD 3 .any=.v (.int .i64 x.service):=rfl
theorem Mt(x:Stop):(dR x).take 4=dR x:=rfl
structure Order where
 name:ByteArray
 load:List Int
 pick:Stop
 drop:Stop
 skills:Int
 penalty:Int
 split:Int
 last:Int
 now:Int
 off:Bool
 deriving DecidableEq
def bD(x:Order):List AV:=[.v (.string x.name),.sl (x.load.map bN),.v (.int .i64 x.pick.place),.v (.int .i64 x.pick.start),.v (.int .i64 x.pick.close),.v (.int .i64 x.pick.service),.v (.int .i64 x.drop.place),.v (.int .i64 x.drop.start),.v (.int .i64 x.drop.close),.v (.int .i64 x.drop.service),.v (.int .i64 x.skills),.v (.int .i64 x.penalty),.v (.int .i64 x.split),.v (.int .i64 x.last),.v (.int .i64 x.now),.v (.bool x.off)]
theorem oP(x:Order):(bD x).length=16:=rfl
theorem NI(x:Order):(bD x).getD 0 .any=.v (.string x.name):=rfl
theorem On(x:Order):(bD x).getD 1 .any=.sl (x.load.map bN):=rfl
theorem MU(x:Order):(bD x).getD 2 .any=.v (.int .i64 x.pick.place):=rfl
theorem Oa(x:Order):(bD x).getD 3 .any=.v (.int .i64 x.pick.start):=rfl
theorem MK(x:Order):(bD x).getD 4 .any=.v (.int .i64 x.pick.close):=rfl
theorem Nh(x:Order):(bD x).getD 5 .any=.v (.int .i64 x.pick.service):=rfl
theorem NG(x:Order):(bD x).getD 6 .any=.v (.int .i64 x.drop.place):=rfl
theorem NZ(x:Order):(bD x).getD 7 .any=.v (.int .i64 x.drop.start):=rfl
theorem OO(x:Order):(bD x).getD 8 .any=.v (.int .i64 x.drop.close):=rfl
theorem MV(x:Order):(bD x).getD 9 .any=.v (.int .i64 x.drop.service):=rfl
theorem JJ(x:Order):(bD x).getD 10 .any=.v (.int .i64 x.skills):=rfl
theorem Lu(x:Order):(bD x).getD 11 .any=.v (.int .i64 x.penalty):=rfl
theorem K5(x:Order):(bD x).getD 12 .any=.v (.int .i64 x.split):=rfl
theorem Lj(x:Order):(bD x).getD 13 .any=.v (.int .i64 x.last):=rfl
theorem KI(x:Order):(bD x).getD 14 .any=.v (.int .i64 x.now):=rfl
theorem J1(x:Order):(bD x).getD 15 .any=.v (.bool x.off):=rfl
theorem HF(x:Order):(bD x).take 16=bD x:=rfl
theorem Fu(x:Order):((bD x).drop 2).take 4=dR x.pick:=rfl
theorem Ff(x:Order):((bD x).drop 6).take 4=dR x.drop:=rfl
structure Pair where
 a:Int
 b:Int
 deriving DecidableEq
def bZ(x:Pair):List AV:=[.v (.int .i64 x.a),.v (.int .i64 x.b)]
theorem jY(x:Pair):(bZ x).length=2:=rfl
theorem TC(x:Pair):(bZ x).getD 0 .any=.v (.int .i64 x.a):=rfl
theorem SB(x:Pair):(bZ x).getD 1 .any=.v (.int .i64 x.b):=rfl
theorem Mh(x:Pair):(bZ x).take 2=bZ x:=rfl
structure Instance where
 net:Network
 types:List VType
 orders:List Order
 apart:List Pair
 before:List Pair
 deriving DecidableEq
def aH(x:Instance):List AV:=[.sl (x.net.places.map fJ),.sl (x.net.arcs.map fL),.sl (x.types.map bB),.sl (x.orders.map bD),.sl (x.apart.map bZ),.sl (x.before.map bZ)]
theorem C2(x:Instance):(aH x).length=6:=rfl
theorem Fm(x:Instance):(aH x).getD 0 .any=.sl (x.net.places.map fJ):=rfl
theorem FD(x:Instance):(aH x).getD 1 .any=.sl (x.net.arcs.map fL):=rfl
theorem FK(x:Instance):(aH x).getD 2 .any=.sl (x.types.map bB):=rfl
theorem Fx(x:Instance):(aH x).getD 3 .any=.sl (x.orders.map bD):=rfl
theorem Fe(x:Instance):(aH x).getD 4 .any=.sl (x.apart.map bZ):=rfl
theorem Fd(x:Instance):(aH x).getD 5 .any=.sl (x.before.map bZ):=rfl
theorem C7(x:Instance):(aH x).take 6=aH x:=rfl
theorem CZ(x:Instance):(aH x).take 2=aU x.net:=rfl
structure Visit where
 order:Int
 drop:Bool
 deriving DecidableEq
def aK(x:Visit):List AV:=[.v (.int .i64 x.order),.v (.bool x.drop)]
theorem cU(x:Visit):(aK x).length=2:=rfl
theorem MX(x:Visit):(aK x).getD 0 .any=.v (.int .i64 x.order):=rfl
theorem Nl(x:Visit):(aK x).getD 1 .any=.v (.bool x.drop):=rfl
theorem Ig(x:Visit):(aK x).take 2=aK x:=rfl
structure Route where
 type:Int
 start:Int
 rests:List Bool
 visits:List Visit
 deriving DecidableEq
def cX(x:Route):List AV:=[.v (.int .i64 x.type),.v (.int .i64 x.start),.sl (x.rests.map eG),.sl (x.visits.map aK)]
theorem uG(x:Route):(cX x).length=4:=rfl
theorem NX(x:Route):(cX x).getD 0 .any=.v (.int .i64 x.type):=rfl
theorem ME(x:Route):(cX x).getD 1 .any=.v (.int .i64 x.start):=rfl
theorem OB(x:Route):(cX x).getD 2 .any=.sl (x.rests.map eG):=rfl
theorem NM(x:Route):(cX x).getD 3 .any=.sl (x.visits.map aK):=rfl
theorem Jg(x:Route):(cX x).take 4=cX x:=rfl
structure Plan where
 routes:List Route
 unserved:List Int
 deriving DecidableEq
structure Fault where
 err:Int
 at_:ByteArray
 deriving DecidableEq
def fH(x:Fault):List AV:=[.v (.int .i64 x.err),.v (.string x.at_)]
theorem IB(x:Fault):(fH x).length=2:=rfl
theorem NB(x:Fault):(fH x).getD 0 .any=.v (.int .i64 x.err):=rfl
theorem O7(x:Fault):(fH x).getD 1 .any=.v (.string x.at_):=rfl
theorem IQ(x:Fault):(fH x).take 2=fH x:=rfl
structure Decision where
 kind:Int
 a:Int
 b:Int
 n:Int
 deriving DecidableEq
def aW(x:Decision):List AV:=[.v (.int .i64 x.kind),.v (.int .i64 x.a),.v (.int .i64 x.b),.v (.int .i64 x.n)]
theorem jK(x:Decision):(aW x).length=4:=rfl
theorem FC(x:Decision):(aW x).getD 0 .any=.v (.int .i64 x.kind):=rfl
theorem FM(x:Decision):(aW x).getD 1 .any=.v (.int .i64 x.a):=rfl
theorem Fp(x:Decision):(aW x).getD 2 .any=.v (.int .i64 x.b):=rfl
theorem Fs(x:Decision):(aW x).getD 3 .any=.v (.int .i64 x.n):=rfl
theorem CU(x:Decision):(aW x).take 4=aW x:=rfl
structure Column where
 type:Int
 set:Int
 price:Int
 route:Route
 deriving DecidableEq
def aS(x:Column):List AV:=[.v (.int .i64 x.type),.v (.int .i64 x.set),.v (.int .i64 x.price),.v (.int .i64 x.route.type),.v (.int .i64 x.route.start),.sl (x.route.rests.map eG),.sl (x.route.visits.map aK)]
theorem dI(x:Column):(aS x).length=7:=rfl
theorem LP(x:Column):(aS x).getD 0 .any=.v (.int .i64 x.type):=rfl
theorem LZ(x:Column):(aS x).getD 1 .any=.v (.int .i64 x.set):=rfl
theorem K0(x:Column):(aS x).getD 2 .any=.v (.int .i64 x.price):=rfl
theorem J6(x:Column):(aS x).getD 3 .any=.v (.int .i64 x.route.type):=rfl
theorem Kq(x:Column):(aS x).getD 4 .any=.v (.int .i64 x.route.start):=rfl
theorem Ko(x:Column):(aS x).getD 5 .any=.sl (x.route.rests.map eG):=rfl
theorem Jy(x:Column):(aS x).getD 6 .any=.sl (x.route.visits.map aK):=rfl
theorem FF(x:Column):(aS x).take 7=aS x:=rfl
theorem C5(x:Column):((aS x).drop 3).take 4=cX x.route:=rfl
structure Score where
 cost:Int
 moved:Int
 other:Int
 work:Int
 deriving DecidableEq
def eY(x:Score):List AV:=[.v (.int .i64 x.cost),.v (.int .i64 x.moved),.v (.int .i64 x.other),.v (.int .i64 x.work)]
structure Cut where
 kind:Int
 set:Int
 n:Int
 deriving DecidableEq
def dX(x:Cut):List AV:=[.v (.int .i64 x.kind),.v (.int .i64 x.set),.v (.int .i64 x.n)]
theorem uR(x:Cut):(dX x).length=3:=rfl
theorem Vr(x:Cut):(dX x).getD 0 .any=.v (.int .i64 x.kind):=rfl
theorem TR(x:Cut):(dX x).getD 1 .any=.v (.int .i64 x.set):=rfl
theorem Wo(x:Cut):(dX x).getD 2 .any=.v (.int .i64 x.n):=rfl
theorem NR(x:Cut):(dX x).take 3=dX x:=rfl
structure TimeT where
 arrive:Int
 start:Int
 depart:Int
 rest:Bool
 deriving DecidableEq
def MA(x:TimeT):List AV:=[.v (.int .i64 x.arrive),.v (.int .i64 x.start),.v (.int .i64 x.depart),.v (.bool x.rest)]
structure Weight where
 yes:Int
 no:Int
 noneYes:Bool
 noneNo:Bool
 deriving DecidableEq
structure StepT where
 inst:Instance
 plan:Plan
 now:Int
 deriving DecidableEq
structure PRow where
 coef:List Int
 kind:Int
 right:Int
 deriving DecidableEq
structure PLin where
 cost:List Int
 rows:List PRow
 deriving DecidableEq
structure Ask where
 x:Instance
 l:List Column
 cuts:List Cut
 d:List Decision
 deriving DecidableEq
structure TNode where
 leaf:Bool
 kind:Int
 cuts:List Cut
 dual:List ByteArray
 choice:Decision
 yes:Int
 no:Int
 deriving DecidableEq
structure Proof where
 noPlan:Bool
 plan:Plan
 nodes:List TNode
 deriving DecidableEq
structure Ask3 where
 x:Instance
 cuts:List Cut
 d:List Decision
 dual:List ByteArray
 deriving DecidableEq
def gJ(x:Ask3):List AV:=[.sl (x.x.net.places.map fJ),.sl (x.x.net.arcs.map fL),.sl (x.x.types.map bB),.sl (x.x.orders.map bD),.sl (x.x.apart.map bZ),.sl (x.x.before.map bZ),.sl (x.cuts.map dX),.sl (x.d.map aW),.sl (x.dual.map fJ)]
theorem La(x:Ask3):(gJ x).length=9:=rfl
theorem TF(x:Ask3):(gJ x).getD 0 .any=.sl (x.x.net.places.map fJ):=rfl
theorem TI(x:Ask3):(gJ x).getD 1 .any=.sl (x.x.net.arcs.map fL):=rfl
theorem Tx(x:Ask3):(gJ x).getD 2 .any=.sl (x.x.types.map bB):=rfl
theorem TL(x:Ask3):(gJ x).getD 3 .any=.sl (x.x.orders.map bD):=rfl
theorem RD(x:Ask3):(gJ x).getD 4 .any=.sl (x.x.apart.map bZ):=rfl
theorem Sk(x:Ask3):(gJ x).getD 5 .any=.sl (x.x.before.map bZ):=rfl
theorem RL(x:Ask3):(gJ x).getD 6 .any=.sl (x.cuts.map dX):=rfl
theorem Sj(x:Ask3):(gJ x).getD 7 .any=.sl (x.d.map aW):=rfl
theorem Sn(x:Ask3):(gJ x).getD 8 .any=.sl (x.dual.map fJ):=rfl
theorem Lf(x:Ask3):(gJ x).take 9=gJ x:=rfl
theorem Rz(x:Ask3):(gJ x).take 6=aH x.x:=rfl
structure Sheet where
 rest:Bool
 depart:Int
 times:List TimeT
 stop:Int
 miles:Int
 deriving DecidableEq
def cM(x:Sheet):List AV:=[.v (.bool x.rest),.v (.int .i64 x.depart),.sl (x.times.map MA),.v (.int .i64 x.stop),.v (.int .i64 x.miles)]
theorem Oy(x:Sheet):(cM x).getD 0 .any=.v (.bool x.rest):=rfl
theorem MF(x:Sheet):(cM x).getD 1 .any=.v (.int .i64 x.depart):=rfl
theorem MM(x:Sheet):(cM x).getD 2 .any=.sl (x.times.map MA):=rfl
attribute [go_sem] EU V5 Mz Sm M9 Vn fQ Nq Oj Av iH VF Uk TZ VJ Xe WT OL Dx Ic IS D1 jB M6 M3 NU OI O6 O8 Oh MY OM N2 JX J7 KN Md I0 kF RM RQ RK SS Mt oP NI On MU Oa MK Nh NG NZ OO MV JJ Lu K5 Lj KI J1 HF Fu Ff jY TC SB Mh C2 Fm FD FK Fx Fe Fd C7 CZ cU MX Nl Ig uG NX ME OB NM Jg IB NB O7 IQ jK FC FM Fp Fs CU dI LP LZ K0 J6 Kq Ko Jy FF C5 uR Vr TR Wo NR La TF TI Tx TL RD Sk RL Sj Sn Lf Rz Oy MF MM
theorem aE{α:Type}{f:α->List AV}{l:List α}{k:Nat}{x:α}(h:l[k]?=some x):(l.map f).getD k []=f x:=by simp[List.getD,h]
theorem ZV{α:Type}(f:α->List AV)(l:List α):(l.map f).length=l.length:=List.length_map f
theorem GS(n:Nat):((n:Int)).toNat=n:=Int.toNat_natCast n
attribute [go_sem] ZV GS
theorem bA{n:Int}(h: -9223372036854775808<=n/\n<=9223372036854775807):IntKind.i64.wrap n=n:=IntWalk.i64_in n h
end Go.Aw.D
end
section
namespace Go.Proofs.YtohmomanmikphaaGreatDoor
open Go.Aw Go.Aw.D Go.Proofs Ty
abbrev int(n:Int):AV:=.v (.int .i64 n)
abbrev str(s:ByteArray):AV:=.v (.string s)
abbrev boo(b:Bool):AV:=.v (.bool b)
theorem bQ{α:Type}{l:List α}{k:Nat}{x:α}(h:l[k]?=some x):l.take (k+1)=l.take k++[x]:=by
 rw[List.take_add_one,h];rfl
theorem aN{α:Type}{l:List α}{k:Nat}(h:k<l.length):∃x,l[k]?=some x:=⟨l[k],List.getElem?_eq_getElem h⟩
theorem inB{k n:Nat}(h:k<n):0<=(k:Int)/\(k:Int)<(n:Int):=by omega
theorem aP{k:Nat}(h:k<=4611686018427387904):IntKind.i64.wrap ((k:Int)+1)=((k+1:Nat):Int):=by rw[bA (by omega)];omega
theorem VE{k:Nat}(h:k<=4611686018427387904):(IntKind.i64.wrap ((k:Int)-1)).toNat=k-1:=by rw[bA (by omega)];omega
theorem mO{k:Nat}(h:k<=4611686018427387904):IntKind.i64.wrap ((k:Int)-1)=(k:Int)-1:=bA (by omega)
def CD(e:TypeId×Nat×Nat)(d:Option Tmp)(j:Nat)(x:AV)(ρ:Env)(H:aG)(K:Env->aG->Prop):Prop:=match H j with
 | some r => vM H x fun news => (r.e = e.1 /\ r.sz = e.2.1 /\ cP e.2.1 news /\ (r.es.length + news.length) * e.2.2 <= 140737488355328) /\
       ∀k',H k'=none->K (upd ρ d (.os k')) (aI (aI H j none) k' (some ⟨e.1,e.2.1,r.es++news⟩))
 | none=>False
theorem WK{P:Program}{d:Option Tmp}{t:TypeId}{j:Nat}{x:AV}{ρ:Env}{H:aG}{K:Env->aG->Prop}:H6 P d t (.os j) x ρ H K=bK (bR P t) (fun e=>CD e d j x ρ H K):=by
 unfold H6 rH CD;cases bR P t with
 | none=>rfl
 | some e=>obtain⟨a,b,c⟩:=e;rfl
@[congr] theorem wappE_c {e d j x x' ρ H K} (h':x=x'):CD e d j x ρ H K=CD e d j x' ρ H K:=h'▸rfl
@[congr] theorem FCalls_c {P f a a' H R} (h':a=a'):aX P f a H R=aX P f a' H R:=h'▸rfl
theorem bE{e:TypeId×Nat×Nat}{d:Option Tmp}{j:Nat}{news:List (List AV)}{ρ:Env}{H:aG}{K:Env->aG->Prop}{r:Row}(E:H j=some r)
   (h1:r.e=e.1/\r.sz=e.2.1) (I:cP e.2.1 news) (F:(r.es.length+news.length)*e.2.2<=140737488355328)
   (h:∀u,H u=none->K (upd ρ d (.os u)) (aI (aI H j none) u (some ⟨e.1,e.2.1,r.es++news⟩))):CD e d j (.sl news) ρ H K:=by
 unfold CD;simp only[E];exact⟨⟨h1.1,h1.2,I,F⟩,h⟩
theorem A5{e:TypeId×Nat×Nat}{d:Option Tmp}{j i:Nat}{r':Row}{ρ:Env}{H:aG}{K:Env->aG->Prop}{r:Row}(E:H j=some r)(I:H i=some r')
   (h1:r.e=e.1/\r.sz=e.2.1) (J:cP e.2.1 r'.es) (F:(r.es.length+r'.es.length)*e.2.2<=140737488355328)
   (h:∀u,H u=none->K (upd ρ d (.os u)) (aI (aI H j none) u (some ⟨e.1,e.2.1,r.es++r'.es⟩))):CD e d j (.os i) ρ H K:=by
 unfold CD;simp only[E,vM,I];exact⟨⟨h1.1,h1.2,J,F⟩,h⟩
theorem bM{P:Program}{C:kH}{PC:FuncId->List AV->aG->AV->Prop}{mt:Nat->Bool}{a b:Code}{x:AV}{K:Env->aG->Prop}{Q:Ex->Env->aG->Prop}{ρ:Env}{H:aG}(J:Env->aG->Prop)(h1:∀ρ H,J ρ H->K ρ H)
 (u:∀K:Env->aG->Prop,(∀ρ H,J ρ H->K ρ H)->vP x (awp P C PC mt a (Ex.seq K Q)) (awp P C PC mt b (Ex.seq K Q)) ρ H):vP x (awp P C PC mt a (Ex.seq K Q)) (awp P C PC mt b (Ex.seq K Q)) ρ H:=u K h1
theorem nJ{x:AV}{A B:Env->aG->Prop}{ρ:Env}{H:aG}(J:Env->aG->Prop)(h1:J ρ H)(u:∀ρ H,J ρ H->vP x A B ρ H):vP x A B ρ H:=u ρ H h1
theorem DO{P:Program}{C:kH}{PC:FuncId->List AV->aG->AV->Prop}{mt:Nat->Bool}{c:Code}{id:Nat}{Q:Ex->Env->aG->Prop}{ρ:Env}{H:aG}(J:Env->aG->Prop)(h1:∀ρ H,J ρ H->Q .normal ρ H)
   (u:∀Q':Ex->Env->aG->Prop,(∀ρ H,J ρ H->Q' (.exit id) ρ H)->(∀ρ H,Q .ret ρ H->Q' .ret ρ H)->Qo (awp P C PC mt c) Q' ρ H):Qo (awp P C PC mt c) (Ex.blk id Q) ρ H:=
 u (Ex.blk id Q) (fun ρ H h=>by rw[Kd];exact h1 ρ H h) (fun ρ H h=>by rw[Qs];exact h)
theorem kG{P:Program}{C:kH}{PC:FuncId->List AV->aG->AV->Prop}{mt:Nat->Bool}{a b:Code}{x:AV}{Q:Ex->Env->aG->Prop}{ρ:Env}{H:aG}(J:Env->aG->Prop)(h1:∀ρ H,J ρ H->Q .normal ρ H)
   (u:∀Q':Ex->Env->aG->Prop,(∀ρ H,J ρ H->Q' .normal ρ H)->(∀i ρ H,Q (.exit i) ρ H->Q' (.exit i) ρ H)->(∀ρ H,Q .ret ρ H->Q' .ret ρ H)->vP x (awp P C PC mt a Q') (awp P C PC mt b Q') ρ H):vP x (awp P C PC mt a Q) (awp P C PC mt b Q) ρ H:=
 u Q h1 (fun _ _ _ h=>h) (fun _ _ h=>h)
def EL(P:Program)(t:TypeId)(l:Option Nat)(d:Option Tmp)(j i f:Nat)(cs:List AV)(ρ:Env)(H:aG)(K:Env->aG->Prop):Prop:=match H j with
 | some r=>(i<r.es.length/\cs.length=l.getD 1/\f+cs.length<=r.sz/\(l=none->∃i,P.info? t=some i/\i.size=1))/\K (upd ρ d .any) (aI H j (some { r with es:=r.es.set i (mX (r.es.getD i []) f cs) }))
 | none=>False
def EE(P:Program)(t:TypeId)(l:Option Nat)(d:Option Tmp)(j i f:Nat)(cs:List AV)(ρ:Env)(H:aG)(K:Env->aG->Prop):Prop:=
 EL P t l d j i f cs ρ H K\/∃nl:List (Nat×TypeId×Nat),(∀x∈nl,cs[x.1]?=some (.v (.slice none 0 0))/\0<x.2.2)/\iR nl cs H fun cs H=>EL P t l d j i f cs ρ H K
theorem WX{P:Program}{d:Option Tmp}{t:TypeId}{j i f:Nat}{cs:List AV}{ρ:Env}{H:aG}{K:Env->aG->Prop}:Tv P d t (.op j i f) cs ρ H K=bK (ldT P t) (fun l=>EE P t l d j i f cs ρ H K):=by
 have E:∀cs H,wM P ⟨d,.move (.tmp 0),0,"",#[],none⟩ t (.op j i f) cs ρ H K=bK (ldT P t) (fun l=>EL P t l d j i f cs ρ H K):=by
   intro cs H;unfold wM EL;cases h1:H j <;> cases u:ldT P t <;> simp[bK,h1]
 unfold Tv qK EE;simp only[E];cases u:ldT P t <;> simp[bK]
theorem SP{P:Program}{t:TypeId}{m:Nat}{d:Option Tmp}{j i f:Nat}{cs:List AV}{ρ:Env}{H:aG}{K:Env->aG->Prop}{r:Row}(o:Nat)(e:TypeId)(sz:Nat)(J:cs[o]?=some (.v (.slice none 0 0))/\0<sz)(u:H j=some r)(h1:i<r.es.length/\cs.length=m/\f+cs.length<=r.sz)
   (h:∀k,H k=none->K (upd ρ d .any) (aI (aI H k (some ⟨e,sz,[]⟩)) j (some { r with es:=r.es.set i (mX (r.es.getD i []) f (cs.set o (.os k))) }))):EE P t (some m) d j i f cs ρ H K:=by
 refine .inr ⟨[(o,e,sz)],?_,fun k I=>?_⟩
 . intro x F
   simp only[List.mem_cons,List.not_mem_nil,or_false]at F;subst F;exact J
 . have E:j≠k:=fun e=>by rw[e,I]at u;cases u
   unfold iR EL;simp only[show aI H k (some (⟨e,sz,[]⟩:Row)) j=some r by rw[aI];rw[if_neg E];exact u];exact⟨⟨h1.1,by simpa using h1.2.1,by simpa using h1.2.2,by simp⟩,h k I⟩
@[congr] theorem wputE_c {P t l d j i f cs cs' ρ H K} (h':cs=cs'):EE P t l d j i f cs ρ H K=EE P t l d j i f cs' ρ H K:=h'▸rfl
theorem aJ{P:Program}{t:TypeId}{m:Nat}{d:Option Tmp}{j i f:Nat}{cs:List AV}{ρ:Env}{H:aG}{K:Env->aG->Prop}{r:Row}(u:H j=some r)(h1:i<r.es.length/\cs.length=m/\f+cs.length<=r.sz)
   (h:K (upd ρ d .any) (aI H j (some { r with es:=r.es.set i (mX (r.es.getD i []) f cs) }))):EE P t (some m) d j i f cs ρ H K:=by
 refine .inl ?_;unfold EL;simp only[u];exact⟨⟨h1.1,h1.2.1,h1.2.2,by simp⟩,h⟩
theorem eF{P:Program}{t:TypeId}{d:Option Tmp}{j i f:Nat}{cs:List AV}{ρ:Env}{H:aG}{K:Env->aG->Prop}{r:Row}(u:∃i,P.info? t=some i/\i.size=1)(E:H j=some r)(h1:i<r.es.length/\cs.length=1/\f+cs.length<=r.sz)
   (h:K (upd ρ d .any) (aI H j (some { r with es:=r.es.set i (mX (r.es.getD i []) f cs) }))):EE P t none d j i f cs ρ H K:=by
 refine .inl ?_;unfold EL;simp only[E];exact⟨⟨h1.1,h1.2.1,h1.2.2,fun _=>u⟩,h⟩
theorem adV:Int.toNat 0=0:=rfl
theorem WI{a b:Prop}:(a->b->a/\b)=True:=by simp;exact fun h1 u=>⟨h1,u⟩
attribute [go_sem ↓] WK WX
attribute [go_sem] WX List.set_cons_zero List.set_cons_succ
attribute [go_sem] Int.reduceToNat adV beq_true beq_false Bool.not_eq_true' Bool.and_eq_true WI
attribute [go_sem] WK Fg B5 PM Bool.or_true Bool.true_or Bool.false_or Bool.or_false
theorem cV{H:aG}{i j E:Nat}{r r':Row}(I:H i=some r)(F:j≠i)(u:H E=none):aI (aI H j none) E (some r') i=some r:=by
 have h1:i≠E:=fun e=>by subst e;rw[I]at u;simp at u
 rw[aD _ _ _ _ h1,aD _ _ _ _ (Ne.symm F),I]
theorem jG{H:aG}{i j:Nat}{r r':Row}(E:H i=some r)(u:H j=none):aI H j (some r') i=some r:=by
 have h1:i≠j:=fun e=>by subst e;rw[E]at u;simp at u
 rw[aD _ _ _ _ h1,E]
theorem aO{H:aG}{i j:Nat}{r:Row}(E:H i=some r)(u:H j=none):i≠j:=fun e=>by subst e;rw[E]at u;simp at u
def opt{α:Type}(b:Bool)(f:α):List α:=match b with|true=>[f]|false=>[]
theorem gK{α:Type}{b:Bool}{f:α}(h:b=true):opt b f=[f]:=by rw[h];rfl
theorem gL{α:Type}{b:Bool}{f:α}(h:b=false):opt b f=[]:=by rw[h];rfl
theorem bV{α:Type}(b:Bool)(f:α):(opt b f).length<=1:=by cases b <;> simp[opt]
theorem oA{α:Type}{e:TypeId}{sz:Nat}{enc:α->List AV}{H:aG}{k:Nat}{l l':List α}{cs:List (List AV)}(h:cs=l'.map enc):aI H k (some ⟨e,sz,l.map enc++cs⟩) k=some (⟨e,sz,(l++l').map enc⟩:Row):=by rw[aA,h,List.map_append]
theorem dZ{e:TypeId}{sz:Nat}{enc:Fault->List AV}{H:aG}{k:Nat}{l l':List Fault}{cs:List (List AV)}(h:cs=l'.map enc):aI H k (some ⟨e,sz,l.map enc++cs⟩) k=some (⟨e,sz,(l++l').map enc⟩:Row):=oA h
theorem fI{e:TypeId}{sz:Nat}{enc:Int->List AV}{H:aG}{k:Nat}{l l':List Int}{cs:List (List AV)}(h:cs=l'.map enc):aI H k (some ⟨e,sz,l.map enc++cs⟩) k=some (⟨e,sz,(l++l').map enc⟩:Row):=oA h
abbrev jS(t:VType):Row:=⟨113,14,[bB t]⟩
abbrev kA(o:Order):Row:=⟨111,16,[bD o]⟩
abbrev rL(a:Arc):Row:=⟨107,6,[fL a]⟩
abbrev jF(l:List Int):Row:=⟨45,1,l.map bN⟩
abbrev bO(l:List Fault):Row:=⟨139,2,l.map fH⟩
theorem pcb(mt:Nat->Bool){f:FuncId}{fn:Func}{args:List AV}{r:AV}(u:Tryz.prog.funcs[f]? = some fn)(h:awp Tryz.prog (aX Tryz.prog) (cZ Tryz.prog) mt (fn.body.getD .skip) (Fg Tryz.prog fn.results.toList fun x H'=>Conv H' x r) (Bg args) bT)(E:fn.body=some (fn.body.getD .skip):=by rfl)(F:yG fn (fn.body.getD .skip) args.length=true:=by kernel_rfl):PC Tryz.prog f args r:=PC.body mt mixed u E F h
theorem pcd{f:FuncId}{fn:Func}{args:List AV}{r:AV}(u:Tryz.prog.funcs[f]? = some fn)(h:awp Tryz.prog (aX Tryz.prog) (cZ Tryz.prog) (fun _=>false) (fn.body.getD .skip) (Fg Tryz.prog fn.results.toList fun x H'=>Conv H' x r) (Bg args) bT)(E:fn.body=some (fn.body.getD .skip):=by rfl)(F:yG fn (fn.body.getD .skip) args.length=true:=by kernel_rfl):PC Tryz.prog f args r:=PC.body (fun _=>false) mixed u E F h
theorem ncb(mt:Nat->Bool){f:FuncId}{fn:Func}{args:List AV}{row:Row}{u:Nat->AV}(E:Tryz.prog.funcs[f]? = some fn)(h:awp Tryz.prog (aX Tryz.prog) (cZ Tryz.prog) mt (fn.body.getD .skip) (Fg Tryz.prog fn.results.toList fun x H'=>∃k,x=u k/\H' k=some row) (Bg args) bT)(F:fn.body=some (fn.body.getD .skip):=by rfl)(I:yG fn (fn.body.getD .skip) args.length=true:=by kernel_rfl):NC Tryz.prog f args row u:=NC.body mt mixed E F I h
theorem gdS{α:Type}{a b:α}:(some a).getD b=a:=rfl
theorem Xaa:∀{α:Type} {β:Type} {L:List α} (f:α->β),List.length (List.map f L)=List.length L:=@List.length_map
theorem Xab:∀{α:Type} {L bs:List α},List.length (L++bs)=List.length L+List.length bs:=@List.length_append
theorem Xac:∀(n:Nat),0<=n:=@Nat.zero_le
theorem Xad:∀{α:Type} {a:α} {L:List α},List.length (a::L)=List.length L+1:=@List.length_cons
theorem Xae:∀{α:Type} {l:List α} {i:Nat} {a:α},l[i]?=some a->a∈l:=@List.mem_of_getElem?
theorem Xaf:∀(n:Nat),n<=n:=@Nat.le_refl
theorem Xag:∀{α:Type} {l:List α},List.take (List.length l) l=l:=@List.take_length
theorem Xah:∀{α:Type} (L:List α),L++[]=L:=@List.append_nil
theorem Xai:∀{α:Type} (L bs cs:List α),L++bs++cs=L++(bs++cs):=@List.append_assoc
theorem Xaj:∀{n m k:Nat},n<=m->m<=k->n<=k:=@Nat.le_trans
theorem Xak:∀{x y:Bool},(x||y)=false↔x=false/\y=false:=@Bool.or_eq_false_iff
theorem Xal:∀{α:Type} {i:Nat} {l:List α},List.length (List.take i l)=min i (List.length l):=@List.length_take
theorem Xam:∀{α:Type} {β:Type} {f:α->β} {l₁ l₂:List α},List.map f (l₁++l₂)=List.map f l₁++List.map f l₂:=@List.map_append
theorem Xan:∀{α:Type} {i:Nat} {l:List α},List.length l<=i->List.take i l=l:=@List.take_of_length_le
theorem Xao:∀{α:Type} {p:α->Bool} {l:List α},List.all l p=true↔∀(x:α),x∈l->p x=true:=@List.all_eq_true
theorem Xap:∀(a b:Bool),((a&&b)=true)=(a=true/\b=true):=@Bool.and_eq_true
theorem Xaq:∀{α:Type} {l:List α},List.length l=0↔l=[]:=@List.length_eq_zero_iff
theorem Xar:∀{α:Type} {β:Type} {f:α->β} {a:α} {l:List α},List.map f (a::l)=f a::List.map f l:=@List.map_cons
theorem Xas:∀{n:Nat},List.length (List.range n)=n:=@List.length_range
theorem Xat:∀{α:Type} {a b:α},a∈[b]↔a=b:=@List.mem_singleton
theorem Xau:∀{a b:Bool},a=b↔(a=true↔b=true):=@Bool.eq_iff_iff
theorem Xav:∀{n:Nat},n>0->∀{i j:Nat},i<=j->n^i<=n^j:=@Nat.pow_le_pow_right
theorem Xaw:∀(n m:Nat),n<m\/n>=m:=@Nat.lt_or_ge
theorem Xax:∀{α:Type} (L:List α),[]++L=L:=@List.nil_append
theorem Xay:(false=true)=False:=@Bool.false_eq_true
theorem Xaz:∀{m n:Nat},m∈List.range n↔m<n:=@List.mem_range
theorem Xba:∀{α:Type} {a:α} {s t:List α},a∈s++t↔a∈s\/a∈t:=@List.mem_append
theorem Xbb:∀{a b:Nat},a<b->a%b=a:=@Nat.mod_eq_of_lt
theorem Xbc:∀{α:Type} {β:Type} {f:α->β},List.map f []=[]:=@List.map_nil
theorem Xbd:∀{α:Type} {L:List α} {i:Nat} {a:α},List.length (List.set L i a)=List.length L:=@List.length_set
theorem Xbe:∀{α:Type} {p:α->Bool} {l:List α},List.any l p=true↔∃x,x∈l/\p x=true:=@List.any_eq_true
theorem Xbf:∀(n:Nat),Int.toNat ↑n=n:=@Int.toNat_natCast
theorem Xbg:∀{α:Type} {p q:List α},p++q=[]↔p=[]/\q=[]:=@List.append_eq_nil_iff
theorem Xbh:∀(n:Nat),Int.natAbs ↑n=n:=@Int.natAbs_natCast
theorem Xbi:∀{α:Type} {l:List α},List.drop 0 l=l:=@List.drop_zero
theorem Xbj:∀(b:Bool),(true&&b)=b:=@Bool.true_and
theorem Xbk:∀{n:Nat},List.range (Nat.succ n)=List.range n++[n]:=@List.range_succ
theorem Xbl:∀(a b:Bool),((a||b)=true)=(a=true\/b=true):=@Bool.or_eq_true
theorem Xbm:∀(b:Bool),((!b)=true)=(b=false):=@Bool.not_eq_true'
theorem Xbn:∀{n m k:Nat},n<m->m<=k->n<k:=@Nat.lt_of_lt_of_le
theorem Xbo:∀(n m k:Nat),n+m+k=n+(m+k):=@Nat.add_assoc
theorem Xbp:∀(n:Nat),n=0\/n>0:=@Nat.eq_zero_or_pos
theorem Xbq:∀{a:Int},a<=0->↑(Int.natAbs a)= -a:=@Int.ofNat_natAbs_of_nonpos
theorem Xbr:∀{a:Int},0<=a->↑(Int.natAbs a)=a:=@Int.natAbs_of_nonneg
theorem Xbs:∀{x y n:Nat},x<2^n->y<2^n->x ||| y<2^n:=@Nat.or_lt_two_pow
theorem Xbt:∀{α:Type} (p:α->Bool) (l:List α),List.length (List.filter p l)<=List.length l:=@List.length_filter_le
theorem Xbu:∀{α:Type} {l:List α},0<List.length l↔l≠[]:=@List.length_pos_iff
theorem Xbv:∀(b:Bool),((!b)=false)=(b=true):=@Bool.not_eq_false'
theorem Xbw:∀{α:Type} {l:List α},List.drop (List.length l) l=[]:=@List.drop_length
theorem Xbx:∀(a:Int),a<=a:=@Int.le_refl
theorem Xby:∀{a m n:Nat},1<a->m<n->a^m<a^n:=@Nat.pow_lt_pow_right
theorem Xbz:∀{α:Type} {b:α} (L:List α) {bs:List α},b∈bs->b∈L++bs:=@List.mem_append_right
theorem Xca:∀{α:Type} {a:α} {L:List α} (bs:List α),a∈L->a∈L++bs:=@List.mem_append_left
theorem Xcb:∀{α:Type} (i:Nat) (l:List α),List.take i l++List.drop i l=l:=@List.take_append_drop
theorem Xcc:∀{a b:Int},0<=a->Int.tdiv a b=a/b:=@Int.tdiv_eq_ediv_of_nonneg
theorem Xcd:(!true)=false:=@Bool.not_true
theorem Xce:∀{a b:Int},0<=a->Int.tmod a b=a%b:=@Int.tmod_eq_emod_of_nonneg
theorem Xcf:∀(a:Int) {b:Int},0<=b->Int.fdiv a b=a/b:=@Int.fdiv_eq_ediv_of_nonneg
end Go.Proofs.YtohmomanmikphaaGreatDoor
end
