import Derived.Test.YtohmomanmikphaaGreatDoorChecked
import Derived.KernelRfl
import Derived.Test.YtohmomanmikphaaGreatDoorPl05
set_option linter.unusedSimpArgs false
set_option linter.unusedVariables false
set_option maxRecDepth 100000
section
namespace Go.Proofs.YtohmomanmikphaaGreatDoor.Ty
open Go.Aw Go.Proofs
theorem Bi{P:Program}{t:TypeId}(h:(P.info? t).map (·.size)=some 1):∃i,P.info? t=some i/\i.size=1:=by
 cases u:P.info? t with
 | none=>simp[u]at h
 | some i=>exact⟨i,rfl,by simpa[u]using h⟩
theorem mixed:Tryz.prog.follows .mixedOrders=true:=by kernel_rfl
theorem it3:Fv Tryz.prog 3=some .i64:=by kernel_rfl
theorem it5:Fv Tryz.prog 5=some .u8:=by kernel_rfl
theorem st9:dY Tryz.prog 9=true:=by kernel_rfl
theorem azI:Fv Tryz.prog 181=some .u64:=by kernel_rfl
theorem apQ:CJ Tryz.prog 192=true:=by kernel_rfl
theorem bo4:zS Tryz.prog 4=true:=by kernel_rfl
theorem atE:wS Tryz.prog 119=some [0,2]:=by kernel_rfl
theorem axY:wS Tryz.prog 232=some [0,0]:=by kernel_rfl
theorem anH:wS Tryz.prog 340=some [0,0,0]:=by kernel_rfl
theorem ahS:aM Tryz.prog 25 0=some (0,none):=by kernel_rfl
theorem agK:aM Tryz.prog 25 1=some (1,none):=by kernel_rfl
theorem ahX:aM Tryz.prog 30 0=some (0,some 2):=by kernel_rfl
theorem afZ:aM Tryz.prog 30 1=some (2,none):=by kernel_rfl
theorem aiL:aM Tryz.prog 30 2=some (3,none):=by kernel_rfl
theorem agP:aM Tryz.prog 30 3=some (4,none):=by kernel_rfl
theorem agN:aM Tryz.prog 30 4=some (5,none):=by kernel_rfl
theorem agC:aM Tryz.prog 35 0=some (0,some 6):=by kernel_rfl
theorem ahQ:aM Tryz.prog 35 1=some (6,none):=by kernel_rfl
theorem aiS:aM Tryz.prog 35 2=some (7,none):=by kernel_rfl
theorem aiO:aM Tryz.prog 35 3=some (8,none):=by kernel_rfl
theorem aiW:aM Tryz.prog 41 0=some (0,none):=by kernel_rfl
theorem ajQ:aM Tryz.prog 41 1=some (1,none):=by kernel_rfl
theorem ajB:aM Tryz.prog 41 2=some (2,none):=by kernel_rfl
theorem aiH:aM Tryz.prog 41 3=some (3,none):=by kernel_rfl
theorem aiT:aM Tryz.prog 43 0=some (0,none):=by kernel_rfl
theorem aiG:aM Tryz.prog 43 1=some (1,none):=by kernel_rfl
theorem agI:aM Tryz.prog 43 2=some (2,none):=by kernel_rfl
theorem ahR:aM Tryz.prog 43 3=some (3,some 4):=by kernel_rfl
theorem ajP:aM Tryz.prog 69 0=some (0,some 7):=by kernel_rfl
theorem ahH:aM Tryz.prog 69 1=some (7,none):=by kernel_rfl
theorem aiN:aM Tryz.prog 95 0=some (0,none):=by kernel_rfl
theorem agU:aM Tryz.prog 95 1=some (1,none):=by kernel_rfl
theorem ahP:aM Tryz.prog 95 2=some (2,none):=by kernel_rfl
theorem agD:aM Tryz.prog 95 3=some (3,none):=by kernel_rfl
theorem Za:aM Tryz.prog 104 0=some (0,none):=by kernel_rfl
theorem aaH:aM Tryz.prog 104 1=some (1,none):=by kernel_rfl
theorem Zi:aM Tryz.prog 107 0=some (0,none):=by kernel_rfl
theorem abP:aM Tryz.prog 107 1=some (1,none):=by kernel_rfl
theorem acA:aM Tryz.prog 107 2=some (2,none):=by kernel_rfl
theorem aaA:aM Tryz.prog 107 3=some (3,none):=by kernel_rfl
theorem Z3:aM Tryz.prog 107 4=some (4,none):=by kernel_rfl
theorem ZC:aM Tryz.prog 107 5=some (5,none):=by kernel_rfl
theorem aeP:aM Tryz.prog 109 0=some (0,none):=by kernel_rfl
theorem aaI:aM Tryz.prog 109 1=some (1,none):=by kernel_rfl
theorem adW:aM Tryz.prog 109 2=some (2,none):=by kernel_rfl
theorem aeL:aM Tryz.prog 109 3=some (3,none):=by kernel_rfl
theorem aaZ:aM Tryz.prog 111 0=some (0,none):=by kernel_rfl
theorem adG:aM Tryz.prog 111 1=some (1,none):=by kernel_rfl
theorem Zs:aM Tryz.prog 111 2=some (2,some 4):=by kernel_rfl
theorem acN:aM Tryz.prog 111 3=some (6,some 4):=by kernel_rfl
theorem acF:aM Tryz.prog 111 4=some (10,none):=by kernel_rfl
theorem acS:aM Tryz.prog 111 5=some (11,none):=by kernel_rfl
theorem ZA:aM Tryz.prog 111 6=some (12,none):=by kernel_rfl
theorem aeN:aM Tryz.prog 111 7=some (13,none):=by kernel_rfl
theorem Zp:aM Tryz.prog 111 8=some (14,none):=by kernel_rfl
theorem aeG:aM Tryz.prog 111 9=some (15,none):=by kernel_rfl
theorem ZJ:aM Tryz.prog 113 0=some (0,none):=by kernel_rfl
theorem ZH:aM Tryz.prog 113 1=some (1,none):=by kernel_rfl
theorem Zl:aM Tryz.prog 113 2=some (2,none):=by kernel_rfl
theorem aeM:aM Tryz.prog 113 3=some (3,none):=by kernel_rfl
theorem aaE:aM Tryz.prog 113 4=some (4,none):=by kernel_rfl
theorem ZS:aM Tryz.prog 113 5=some (5,none):=by kernel_rfl
theorem acD:aM Tryz.prog 113 6=some (6,none):=by kernel_rfl
theorem aeH:aM Tryz.prog 113 7=some (7,none):=by kernel_rfl
theorem aaO:aM Tryz.prog 113 8=some (8,none):=by kernel_rfl
theorem Z5:aM Tryz.prog 113 9=some (9,none):=by kernel_rfl
theorem VV:aM Tryz.prog 113 10=some (10,none):=by kernel_rfl
theorem Yd:aM Tryz.prog 113 11=some (11,none):=by kernel_rfl
theorem WV:aM Tryz.prog 113 12=some (12,none):=by kernel_rfl
theorem Y8:aM Tryz.prog 113 13=some (13,none):=by kernel_rfl
theorem aaV:aM Tryz.prog 115 0=some (0,none):=by kernel_rfl
theorem Zj:aM Tryz.prog 115 1=some (1,none):=by kernel_rfl
theorem Zm:aM Tryz.prog 115 2=some (2,none):=by kernel_rfl
theorem ZD:aM Tryz.prog 119 0=some (0,none):=by kernel_rfl
theorem Zx:aM Tryz.prog 119 1=some (1,none):=by kernel_rfl
theorem ZP:aM Tryz.prog 139 0=some (0,none):=by kernel_rfl
theorem acJ:aM Tryz.prog 139 1=some (1,none):=by kernel_rfl
theorem aaD:aM Tryz.prog 170 0=some (0,some 6):=by kernel_rfl
theorem ZW:aM Tryz.prog 170 1=some (6,none):=by kernel_rfl
theorem adI:aM Tryz.prog 170 2=some (7,none):=by kernel_rfl
theorem Zy:aM Tryz.prog 170 3=some (8,none):=by kernel_rfl
theorem Zg:aM Tryz.prog 170 4=some (9,some 7):=by kernel_rfl
theorem adY:aM Tryz.prog 170 5=some (16,none):=by kernel_rfl
theorem Zn:aM Tryz.prog 208 0=some (0,none):=by kernel_rfl
theorem Zb:aM Tryz.prog 208 1=some (1,none):=by kernel_rfl
theorem abT:aM Tryz.prog 232 0=some (0,none):=by kernel_rfl
theorem ZM:aM Tryz.prog 232 1=some (1,none):=by kernel_rfl
theorem aaP:aM Tryz.prog 260 0=some (0,none):=by kernel_rfl
theorem acU:aM Tryz.prog 260 1=some (1,none):=by kernel_rfl
theorem abQ:aM Tryz.prog 260 2=some (2,none):=by kernel_rfl
theorem acQ:aM Tryz.prog 260 3=some (3,none):=by kernel_rfl
theorem aaY:aM Tryz.prog 260 4=some (4,none):=by kernel_rfl
theorem Z9:aM Tryz.prog 262 0=some (0,none):=by kernel_rfl
theorem abC:aM Tryz.prog 262 1=some (1,none):=by kernel_rfl
theorem acB:aM Tryz.prog 262 2=some (2,none):=by kernel_rfl
theorem abV:aM Tryz.prog 262 3=some (3,none):=by kernel_rfl
theorem adV:aM Tryz.prog 328 0=some (0,some 6):=by kernel_rfl
theorem aeJ:aM Tryz.prog 328 1=some (6,some 14):=by kernel_rfl
theorem Zq:aM Tryz.prog 328 2=some (20,some 4):=by kernel_rfl
theorem abL:aM Tryz.prog 328 3=some (24,none):=by kernel_rfl
theorem acP:aM Tryz.prog 332 0=some (0,none):=by kernel_rfl
theorem aaG:aM Tryz.prog 332 1=some (1,none):=by kernel_rfl
theorem acT:aM Tryz.prog 332 2=some (2,some 5):=by kernel_rfl
theorem acY:aM Tryz.prog 380 2=some (2,none):=by kernel_rfl
theorem acI:aM Tryz.prog 380 3=some (3,none):=by kernel_rfl
theorem el22:bW Tryz.prog 22=some (9,1,16):=by kernel_rfl
theorem sl22:cL Tryz.prog 22=true:=by kernel_rfl
theorem el23:bW Tryz.prog 23=some (107,6,80):=by kernel_rfl
theorem sl23:cL Tryz.prog 23=true:=by kernel_rfl
theorem el26:bW Tryz.prog 26=some (113,14,136):=by kernel_rfl
theorem sl26:cL Tryz.prog 26=true:=by kernel_rfl
theorem el27:bW Tryz.prog 27=some (111,16,152):=by kernel_rfl
theorem sl27:cL Tryz.prog 27=true:=by kernel_rfl
theorem el28:bW Tryz.prog 28=some (194,2,16):=by kernel_rfl
theorem sl28:cL Tryz.prog 28=true:=by kernel_rfl
theorem el31:bW Tryz.prog 31=some (115,3,24):=by kernel_rfl
theorem sl31:cL Tryz.prog 31=true:=by kernel_rfl
theorem el32:bW Tryz.prog 32=some (95,4,32):=by kernel_rfl
theorem sl32:cL Tryz.prog 32=true:=by kernel_rfl
theorem el33:bW Tryz.prog 33=some (44,1,16):=by kernel_rfl
theorem sl33:cL Tryz.prog 33=true:=by kernel_rfl
theorem awF:bW Tryz.prog 38=some (4,1,1):=by kernel_rfl
theorem sl38:cL Tryz.prog 38=true:=by kernel_rfl
theorem ahL:bW Tryz.prog 39=some (119,2,16):=by kernel_rfl
theorem sl39:cL Tryz.prog 39=true:=by kernel_rfl
theorem st44:dY Tryz.prog 44=true:=by kernel_rfl
theorem anE:bW Tryz.prog 49=some (43,7,88):=by kernel_rfl
theorem sl49:cL Tryz.prog 49=true:=by kernel_rfl
theorem el60:bW Tryz.prog 60=some (139,2,24):=by kernel_rfl
theorem sl60:cL Tryz.prog 60=true:=by kernel_rfl
theorem el65:bW Tryz.prog 65=some (69,8,104):=by kernel_rfl
theorem sl65:cL Tryz.prog 65=true:=by kernel_rfl
theorem sl72:cL Tryz.prog 72=true:=by kernel_rfl
theorem el86:bW Tryz.prog 86=some (3,1,8):=by kernel_rfl
theorem sl86:cL Tryz.prog 86=true:=by kernel_rfl
theorem ar89:tI Tryz.prog 89=some (4,1,none):=by kernel_rfl
theorem apU:bW Tryz.prog 105=some (104,2,16):=by kernel_rfl
theorem arW:cL Tryz.prog 105=true:=by kernel_rfl
theorem akC:bW Tryz.prog 142=some (45,1,8):=by kernel_rfl
theorem anP:cL Tryz.prog 142=true:=by kernel_rfl
theorem apT:bW Tryz.prog 150=some (200,3,40):=by kernel_rfl
theorem azP:cL Tryz.prog 150=true:=by kernel_rfl
theorem afQ:bW Tryz.prog 173=some (232,2,16):=by kernel_rfl
theorem apI:cL Tryz.prog 173=true:=by kernel_rfl
theorem ayC:bW Tryz.prog 192=some (5,1,1):=by kernel_rfl
theorem axC:cL Tryz.prog 192=true:=by kernel_rfl
theorem avQ:tI Tryz.prog 194=some (2,1,none):=by kernel_rfl
theorem atX:bW Tryz.prog 204=some (208,2,24):=by kernel_rfl
theorem avV:cL Tryz.prog 204=true:=by kernel_rfl
theorem arT:bW Tryz.prog 212=some (3,1,8):=by kernel_rfl
theorem alS:cL Tryz.prog 212=true:=by kernel_rfl
theorem aqJ:tI Tryz.prog 247=some (2,1,none):=by kernel_rfl
theorem anQ:bW Tryz.prog 252=some (86,1,24):=by kernel_rfl
theorem atF:cL Tryz.prog 252=true:=by kernel_rfl
theorem anY:bW Tryz.prog 258=some (380,4,32):=by kernel_rfl
theorem ayK:cL Tryz.prog 258=true:=by kernel_rfl
theorem aoG:bW Tryz.prog 276=some (247,2,32):=by kernel_rfl
theorem amP:cL Tryz.prog 276=true:=by kernel_rfl
theorem anW:bW Tryz.prog 289=some (234,1,8):=by kernel_rfl
theorem auQ:cL Tryz.prog 289=true:=by kernel_rfl
theorem amD:tI Tryz.prog 293=some (4,1,none):=by kernel_rfl
theorem apR:bW Tryz.prog 326=some (109,4,32):=by kernel_rfl
theorem awC:cL Tryz.prog 326=true:=by kernel_rfl
theorem akI:bW Tryz.prog 334=some (332,7,72):=by kernel_rfl
theorem avZ:cL Tryz.prog 334=true:=by kernel_rfl
theorem azS:tI Tryz.prog 347=some (24,1,none):=by kernel_rfl
theorem aqQ:tI Tryz.prog 373=some (20,1,none):=by kernel_rfl
theorem aoZ:tI Tryz.prog 374=some (65,1,none):=by kernel_rfl
theorem aoN:tI Tryz.prog 393=some (32,1,none):=by kernel_rfl
theorem asI:tI Tryz.prog 394=some (64,1,none):=by kernel_rfl
theorem ld3:ldT Tryz.prog 3=some none:=by kernel_rfl
theorem ld4:ldT Tryz.prog 4=some none:=by kernel_rfl
theorem ld9:ldT Tryz.prog 9=some none:=by kernel_rfl
theorem ld22:ldT Tryz.prog 22=some none:=by kernel_rfl
theorem ld23:ldT Tryz.prog 23=some none:=by kernel_rfl
theorem ld25:ldT Tryz.prog 25=some (some 2):=by kernel_rfl
theorem ld26:ldT Tryz.prog 26=some none:=by kernel_rfl
theorem ld27:ldT Tryz.prog 27=some none:=by kernel_rfl
theorem ld28:ldT Tryz.prog 28=some none:=by kernel_rfl
theorem ld30:ldT Tryz.prog 30=some (some 6):=by kernel_rfl
theorem ld31:ldT Tryz.prog 31=some none:=by kernel_rfl
theorem ld32:ldT Tryz.prog 32=some none:=by kernel_rfl
theorem ld33:ldT Tryz.prog 33=some none:=by kernel_rfl
theorem ld35:ldT Tryz.prog 35=some (some 9):=by kernel_rfl
theorem ld38:ldT Tryz.prog 38=some none:=by kernel_rfl
theorem ld39:ldT Tryz.prog 39=some none:=by kernel_rfl
theorem ld41:ldT Tryz.prog 41=some (some 4):=by kernel_rfl
theorem ld43:ldT Tryz.prog 43=some (some 7):=by kernel_rfl
theorem ld44:ldT Tryz.prog 44=some none:=by kernel_rfl
theorem ld45:ldT Tryz.prog 45=some none:=by kernel_rfl
theorem ld69:ldT Tryz.prog 69=some (some 8):=by kernel_rfl
theorem ld86:ldT Tryz.prog 86=some none:=by kernel_rfl
theorem ld89:ldT Tryz.prog 89=some (some 4):=by kernel_rfl
theorem ld95:ldT Tryz.prog 95=some (some 4):=by kernel_rfl
theorem azG:ldT Tryz.prog 104=some (some 2):=by kernel_rfl
theorem asZ:ldT Tryz.prog 105=some none:=by kernel_rfl
theorem asC:ldT Tryz.prog 107=some (some 6):=by kernel_rfl
theorem ayM:ldT Tryz.prog 109=some (some 4):=by kernel_rfl
theorem avG:ldT Tryz.prog 111=some (some 16):=by kernel_rfl
theorem anA:ldT Tryz.prog 113=some (some 14):=by kernel_rfl
theorem atL:ldT Tryz.prog 115=some (some 3):=by kernel_rfl
theorem aqC:ldT Tryz.prog 119=some (some 2):=by kernel_rfl
theorem atG:ldT Tryz.prog 194=some (some 2):=by kernel_rfl
theorem aoI:ldT Tryz.prog 208=some (some 2):=by kernel_rfl
theorem auG:ldT Tryz.prog 232=some (some 2):=by kernel_rfl
theorem atZ:ldT Tryz.prog 234=some none:=by kernel_rfl
theorem amU:ldT Tryz.prog 240=some none:=by kernel_rfl
theorem alK:ldT Tryz.prog 247=some (some 2):=by kernel_rfl
theorem ayZ:ldT Tryz.prog 258=some none:=by kernel_rfl
theorem anB:ldT Tryz.prog 260=some (some 5):=by kernel_rfl
theorem aqP:ldT Tryz.prog 262=some (some 4):=by kernel_rfl
theorem asD:ldT Tryz.prog 293=some (some 4):=by kernel_rfl
theorem akD:ldT Tryz.prog 326=some none:=by kernel_rfl
theorem asQ:ldT Tryz.prog 328=some (some 25):=by kernel_rfl
theorem alO:ldT Tryz.prog 332=some (some 7):=by kernel_rfl
theorem azU:ldT Tryz.prog 340=some (some 3):=by kernel_rfl
theorem Fh:QF Tryz.prog 244=some (3,3):=by kernel_rfl
theorem kk3:sF Tryz.prog 3=some 0:=by kernel_rfl
theorem zv3:IK Tryz.prog 3=some (.v (.int .i64 0)):=by kernel_rfl
theorem pa25:eC Tryz.prog 25=some [(0,1),(1,1)]:=by kernel_rfl
theorem pa30:eC Tryz.prog 30=some [(0,2),(2,1),(3,1),(4,1),(5,1)]:=by kernel_rfl
theorem pa41:eC Tryz.prog 41=some [(0,1),(1,1),(2,1),(3,1)]:=by kernel_rfl
theorem pa43:eC Tryz.prog 43=some [(0,1),(1,1),(2,1),(3,4)]:=by kernel_rfl
theorem pa69:eC Tryz.prog 69=some [(0,7),(7,1)]:=by kernel_rfl
theorem pa89:eC Tryz.prog 89=some [(0,1),(1,1),(2,1),(3,1)]:=by kernel_rfl
theorem ayL:eC Tryz.prog 104=some [(0,1),(1,1)]:=by kernel_rfl
theorem apV:eC Tryz.prog 107=some [(0,1),(1,1),(2,1),(3,1),(4,1),(5,1)]:=by kernel_rfl
theorem aqY:eC Tryz.prog 109=some [(0,1),(1,1),(2,1),(3,1)]:=by kernel_rfl
theorem arM:eC Tryz.prog 111=some [(0,1),(1,1),(2,4),(6,4),(10,1),(11,1),(12,1),(13,1),(14,1),(15,1)]:=by kernel_rfl
theorem ayX:eC Tryz.prog 113=some [(0,1),(1,1),(2,1),(3,1),(4,1),(5,1),(6,1),(7,1),(8,1),(9,1),(10,1),(11,1),(12,1),(13,1)]:=by kernel_rfl
theorem aqI:eC Tryz.prog 119=some [(0,1),(1,1)]:=by kernel_rfl
theorem azX:eC Tryz.prog 139=some [(0,1),(1,1)]:=by kernel_rfl
theorem ajW:eC Tryz.prog 170=some [(0,6),(6,1),(7,1),(8,1),(9,7),(16,1)]:=by kernel_rfl
theorem azK:eC Tryz.prog 200=some [(0,1),(1,1),(2,1)]:=by kernel_rfl
theorem aoV:eC Tryz.prog 208=some [(0,1),(1,1)]:=by kernel_rfl
theorem akX:eC Tryz.prog 232=some [(0,1),(1,1)]:=by kernel_rfl
theorem akS:eC Tryz.prog 247=some [(0,1),(1,1)]:=by kernel_rfl
theorem auJ:eC Tryz.prog 260=some [(0,1),(1,1),(2,1),(3,1),(4,1)]:=by kernel_rfl
theorem anJ:eC Tryz.prog 262=some [(0,1),(1,1),(2,1),(3,1)]:=by kernel_rfl
theorem alI:eC Tryz.prog 293=some [(0,1),(1,1),(2,1),(3,1)]:=by kernel_rfl
theorem avD:eC Tryz.prog 328=some [(0,6),(6,14),(20,4),(24,1)]:=by kernel_rfl
theorem akV:eC Tryz.prog 332=some [(0,1),(1,1),(2,5)]:=by kernel_rfl
theorem apA:eC Tryz.prog 340=some [(0,1),(1,1),(2,1)]:=by kernel_rfl
theorem aoC:eC Tryz.prog 380=some [(0,1),(1,1),(2,1),(3,1)]:=by kernel_rfl
theorem so3:∃i,Tryz.prog.info? 3=some i/\i.size=1:=Bi (by kernel_rfl)
theorem so4:∃i,Tryz.prog.info? 4=some i/\i.size=1:=Bi (by kernel_rfl)
theorem YF:∃i,Tryz.prog.info? 258=some i/\i.size=1:=Bi (by kernel_rfl)
theorem afP:∃i,Tryz.prog.info? 326=some i/\i.size=1:=Bi (by kernel_rfl)
theorem ze3:dO Tryz.prog 3=some [.v (.int .i64 0)]:=by kernel_rfl
theorem ze4:dO Tryz.prog 4=some [.v (.bool false)]:=by kernel_rfl
theorem ze9:dO Tryz.prog 9=some [.v (.string ByteArray.empty)]:=by kernel_rfl
theorem ze25:dO Tryz.prog 25=some [.sl [],.sl []]:=by kernel_rfl
theorem ze30:dO Tryz.prog 30=some [.sl [],.sl [],.sl [],.sl [],.sl [],.sl []]:=by kernel_rfl
theorem ze41:dO Tryz.prog 41=some [.v (.int .i64 0),.v (.int .i64 0),.sl [],.sl []]:=by kernel_rfl
theorem asE:dO Tryz.prog 43=some [.v (.int .i64 0),.v (.int .i64 0),.v (.int .i64 0),.v (.int .i64 0),.v (.int .i64 0),.sl [],.sl []]:=by kernel_rfl
theorem ze69:dO Tryz.prog 69=some [.v (.int .i64 0),.v (.int .i64 0),.v (.int .i64 0),.v (.int .i64 0),.v (.int .i64 0),.sl [],.sl [],.v (.string ByteArray.empty)]:=by kernel_rfl
theorem ze89:dO Tryz.prog 89=some [.v (.string ByteArray.empty),.v (.string ByteArray.empty),.v (.string ByteArray.empty),.v (.string ByteArray.empty)]:=by kernel_rfl
theorem ze95:dO Tryz.prog 95=some [.v (.int .i64 0),.v (.int .i64 0),.v (.int .i64 0),.v (.int .i64 0)]:=by kernel_rfl
theorem axA:dO Tryz.prog 104=some [.v (.int .i64 0),.v (.int .i64 0)]:=by kernel_rfl
theorem atU:dO Tryz.prog 107=some [.v (.int .i64 0),.v (.int .i64 0),.v (.int .i64 0),.v (.int .i64 0),.sl [],.sl []]:=by kernel_rfl
theorem aqX:dO Tryz.prog 109=some [.v (.int .i64 0),.v (.int .i64 0),.v (.int .i64 0),.v (.int .i64 0)]:=by kernel_rfl
theorem aqB:dO Tryz.prog 111=some [.v (.string ByteArray.empty),.sl [],.v (.int .i64 0),.v (.int .i64 0),.v (.int .i64 0),.v (.int .i64 0),.v (.int .i64 0),.v (.int .i64 0),.v (.int .i64 0),.v (.int .i64 0),.v (.int .i64 0),.v (.int .i64 0),.v (.int .i64 0),.v (.int .i64 0),.v (.int .i64 0),.v (.bool false)]:=by kernel_rfl
theorem ayO:dO Tryz.prog 113=some [.v (.string ByteArray.empty),.v (.int .i64 0),.v (.int .i64 0),.v (.int .i64 0),.sl [],.v (.int .i64 0),.v (.int .i64 0),.v (.int .i64 0),.v (.int .i64 0),.v (.int .i64 0),.v (.int .i64 0),.v (.int .i64 0),.v (.int .i64 0),.v (.int .i64 0)]:=by kernel_rfl
theorem alG:dO Tryz.prog 115=some [.v (.int .i64 0),.v (.int .i64 0),.v (.int .i64 0)]:=by kernel_rfl
theorem asV:dO Tryz.prog 119=some [.v (.int .i64 0),.v (.bool false)]:=by kernel_rfl
theorem avJ:dO Tryz.prog 139=some [.v (.int .i64 0),.v (.string ByteArray.empty)]:=by kernel_rfl
theorem arB:dO Tryz.prog 170=some [.sl [],.sl [],.sl [],.sl [],.sl [],.sl [],.v (.int .i64 0),.v (.int .i64 0),.v (.int .i64 0),.v (.int .i64 0),.v (.int .i64 0),.v (.int .i64 0),.v (.int .i64 0),.v (.int .i64 0),.sl [],.sl [],.v (.bool false)]:=by kernel_rfl
theorem akF:dO Tryz.prog 194=some [.v (.int .i64 0),.v (.int .i64 0)]:=by kernel_rfl
theorem akM:rE Tryz.prog 200=some [(0,3,1)]:=by kernel_rfl
theorem atP:dO Tryz.prog 200=some [.sl [],.v (.int .i64 0),.v (.int .i64 0)]:=by kernel_rfl
theorem axL:dO Tryz.prog 208=some [.v (.bool false),.v (.string ByteArray.empty)]:=by kernel_rfl
theorem axQ:dO Tryz.prog 232=some [.v (.int .i64 0),.v (.int .i64 0)]:=by kernel_rfl
theorem ayQ:dO Tryz.prog 247=some [.v (.string ByteArray.empty),.v (.string ByteArray.empty)]:=by kernel_rfl
theorem awG:dO Tryz.prog 260=some [.v (.bool false),.v (.int .i64 0),.sl [],.v (.int .i64 0),.v (.int .i64 0)]:=by kernel_rfl
theorem apX:dO Tryz.prog 262=some [.v (.int .i64 0),.v (.int .i64 0),.v (.int .i64 0),.v (.int .i64 0)]:=by kernel_rfl
theorem alX:dO Tryz.prog 293=some [.v (.int .i64 0),.v (.int .i64 0),.v (.int .i64 0),.v (.int .i64 0)]:=by kernel_rfl
theorem awU:rE Tryz.prog 328=some [(0,9,1),(1,107,6),(2,113,14),(3,111,16),(4,194,2),(5,194,2),(10,3,1),(22,4,1),(23,119,2),(24,109,4)]:=by kernel_rfl
theorem arG:dO Tryz.prog 328=some [.sl [],.sl [],.sl [],.sl [],.sl [],.sl [],.v (.string ByteArray.empty),.v (.int .i64 0),.v (.int .i64 0),.v (.int .i64 0),.sl [],.v (.int .i64 0),.v (.int .i64 0),.v (.int .i64 0),.v (.int .i64 0),.v (.int .i64 0),.v (.int .i64 0),.v (.int .i64 0),.v (.int .i64 0),.v (.int .i64 0),.v (.int .i64 0),.v (.int .i64 0),.sl [],.sl [],.sl []]:=by kernel_rfl
theorem awA:dO Tryz.prog 332=some [.v (.int .i64 0),.v (.int .i64 0),.v (.bool false),.v (.int .i64 0),.sl [],.v (.int .i64 0),.v (.int .i64 0)]:=by kernel_rfl
theorem anS:dO Tryz.prog 340=some [.v (.int .i64 0),.v (.int .i64 0),.v (.int .i64 0)]:=by kernel_rfl
theorem aoL:dO Tryz.prog 380=some [.v (.int .i64 0),.v (.int .i64 0),.v (.int .i64 0),.v (.bool false)]:=by kernel_rfl
theorem co2:aC Tryz.prog 2=true:=by kernel_rfl
theorem co3:aC Tryz.prog 3=true:=by kernel_rfl
theorem co4:aC Tryz.prog 4=true:=by kernel_rfl
theorem co5:aC Tryz.prog 5=true:=by kernel_rfl
theorem co6:aC Tryz.prog 6=true:=by kernel_rfl
theorem co7:aC Tryz.prog 7=true:=by kernel_rfl
theorem co8:aC Tryz.prog 8=true:=by kernel_rfl
theorem co9:aC Tryz.prog 9=true:=by kernel_rfl
theorem co10:aC Tryz.prog 10=true:=by kernel_rfl
theorem co11:aC Tryz.prog 11=true:=by kernel_rfl
theorem co12:aC Tryz.prog 12=true:=by kernel_rfl
theorem co13:aC Tryz.prog 13=true:=by kernel_rfl
theorem co14:aC Tryz.prog 14=true:=by kernel_rfl
theorem co15:aC Tryz.prog 15=true:=by kernel_rfl
theorem co16:aC Tryz.prog 16=true:=by kernel_rfl
theorem co17:aC Tryz.prog 17=true:=by kernel_rfl
theorem co18:aC Tryz.prog 18=true:=by kernel_rfl
theorem co19:aC Tryz.prog 19=true:=by kernel_rfl
theorem co20:aC Tryz.prog 20=true:=by kernel_rfl
theorem co21:aC Tryz.prog 21=true:=by kernel_rfl
theorem co22:aC Tryz.prog 22=true:=by kernel_rfl
theorem co23:aC Tryz.prog 23=true:=by kernel_rfl
theorem co24:aC Tryz.prog 24=true:=by kernel_rfl
theorem co25:aC Tryz.prog 25=true:=by kernel_rfl
theorem co26:aC Tryz.prog 26=true:=by kernel_rfl
theorem co27:aC Tryz.prog 27=true:=by kernel_rfl
theorem co28:aC Tryz.prog 28=true:=by kernel_rfl
theorem co29:aC Tryz.prog 29=true:=by kernel_rfl
theorem co30:aC Tryz.prog 30=true:=by kernel_rfl
theorem co31:aC Tryz.prog 31=true:=by kernel_rfl
theorem co32:aC Tryz.prog 32=true:=by kernel_rfl
theorem co33:aC Tryz.prog 33=true:=by kernel_rfl
theorem co34:aC Tryz.prog 34=true:=by kernel_rfl
theorem co35:aC Tryz.prog 35=true:=by kernel_rfl
theorem co36:aC Tryz.prog 36=true:=by kernel_rfl
theorem co37:aC Tryz.prog 37=true:=by kernel_rfl
theorem co38:aC Tryz.prog 38=true:=by kernel_rfl
theorem co39:aC Tryz.prog 39=true:=by kernel_rfl
theorem co40:aC Tryz.prog 40=true:=by kernel_rfl
theorem co41:aC Tryz.prog 41=true:=by kernel_rfl
theorem co42:aC Tryz.prog 42=true:=by kernel_rfl
theorem co43:aC Tryz.prog 43=true:=by kernel_rfl
theorem co44:aC Tryz.prog 44=true:=by kernel_rfl
theorem co45:aC Tryz.prog 45=true:=by kernel_rfl
theorem co46:aC Tryz.prog 46=true:=by kernel_rfl
theorem co47:aC Tryz.prog 47=true:=by kernel_rfl
theorem co48:aC Tryz.prog 48=true:=by kernel_rfl
theorem co49:aC Tryz.prog 49=true:=by kernel_rfl
theorem co50:aC Tryz.prog 50=true:=by kernel_rfl
theorem co51:aC Tryz.prog 51=true:=by kernel_rfl
theorem co52:aC Tryz.prog 52=true:=by kernel_rfl
theorem co53:aC Tryz.prog 53=true:=by kernel_rfl
theorem co54:aC Tryz.prog 54=true:=by kernel_rfl
theorem co55:aC Tryz.prog 55=true:=by kernel_rfl
theorem co56:aC Tryz.prog 56=true:=by kernel_rfl
theorem co57:aC Tryz.prog 57=true:=by kernel_rfl
theorem co58:aC Tryz.prog 58=true:=by kernel_rfl
theorem co59:aC Tryz.prog 59=true:=by kernel_rfl
theorem co60:aC Tryz.prog 60=true:=by kernel_rfl
theorem co61:aC Tryz.prog 61=true:=by kernel_rfl
theorem co62:aC Tryz.prog 62=true:=by kernel_rfl
theorem co63:aC Tryz.prog 63=true:=by kernel_rfl
theorem co64:aC Tryz.prog 64=true:=by kernel_rfl
theorem co65:aC Tryz.prog 65=true:=by kernel_rfl
theorem co66:aC Tryz.prog 66=true:=by kernel_rfl
theorem co67:aC Tryz.prog 67=true:=by kernel_rfl
theorem co68:aC Tryz.prog 68=true:=by kernel_rfl
theorem co69:aC Tryz.prog 69=true:=by kernel_rfl
theorem co70:aC Tryz.prog 70=true:=by kernel_rfl
theorem co71:aC Tryz.prog 71=true:=by kernel_rfl
theorem co72:aC Tryz.prog 72=true:=by kernel_rfl
theorem co73:aC Tryz.prog 73=true:=by kernel_rfl
theorem co74:aC Tryz.prog 74=true:=by kernel_rfl
theorem co75:aC Tryz.prog 75=true:=by kernel_rfl
theorem co76:aC Tryz.prog 76=true:=by kernel_rfl
theorem co77:aC Tryz.prog 77=true:=by kernel_rfl
theorem co78:aC Tryz.prog 78=true:=by kernel_rfl
theorem co79:aC Tryz.prog 79=true:=by kernel_rfl
theorem co80:aC Tryz.prog 80=true:=by kernel_rfl
theorem co81:aC Tryz.prog 81=true:=by kernel_rfl
theorem co82:aC Tryz.prog 82=true:=by kernel_rfl
theorem co83:aC Tryz.prog 83=true:=by kernel_rfl
theorem co84:aC Tryz.prog 84=true:=by kernel_rfl
theorem co85:aC Tryz.prog 85=true:=by kernel_rfl
theorem co86:aC Tryz.prog 86=true:=by kernel_rfl
theorem co87:aC Tryz.prog 87=true:=by kernel_rfl
theorem co88:aC Tryz.prog 88=true:=by kernel_rfl
theorem co89:aC Tryz.prog 89=true:=by kernel_rfl
theorem co90:aC Tryz.prog 90=true:=by kernel_rfl
theorem co91:aC Tryz.prog 91=true:=by kernel_rfl
theorem co92:aC Tryz.prog 92=true:=by kernel_rfl
theorem co93:aC Tryz.prog 93=true:=by kernel_rfl
theorem co94:aC Tryz.prog 94=true:=by kernel_rfl
theorem co95:aC Tryz.prog 95=true:=by kernel_rfl
theorem co96:aC Tryz.prog 96=true:=by kernel_rfl
theorem co97:aC Tryz.prog 97=true:=by kernel_rfl
theorem co98:aC Tryz.prog 98=true:=by kernel_rfl
theorem co99:aC Tryz.prog 99=true:=by kernel_rfl
theorem asX:aC Tryz.prog 100=true:=by kernel_rfl
theorem akZ:aC Tryz.prog 101=true:=by kernel_rfl
theorem axU:aC Tryz.prog 102=true:=by kernel_rfl
theorem asS:aC Tryz.prog 103=true:=by kernel_rfl
theorem asO:aC Tryz.prog 104=true:=by kernel_rfl
theorem auP:aC Tryz.prog 105=true:=by kernel_rfl
theorem azR:aC Tryz.prog 106=true:=by kernel_rfl
theorem arY:aC Tryz.prog 107=true:=by kernel_rfl
theorem awI:aC Tryz.prog 108=true:=by kernel_rfl
theorem auB:aC Tryz.prog 109=true:=by kernel_rfl
theorem anT:aC Tryz.prog 110=true:=by kernel_rfl
theorem aoX:aC Tryz.prog 111=true:=by kernel_rfl
theorem anD:aC Tryz.prog 112=true:=by kernel_rfl
theorem arO:aC Tryz.prog 113=true:=by kernel_rfl
theorem alD:aC Tryz.prog 114=true:=by kernel_rfl
theorem aqT:aC Tryz.prog 115=true:=by kernel_rfl
theorem anM:aC Tryz.prog 116=true:=by kernel_rfl
theorem auE:aC Tryz.prog 117=true:=by kernel_rfl
theorem axP:aC Tryz.prog 118=true:=by kernel_rfl
theorem azJ:aC Tryz.prog 119=true:=by kernel_rfl
theorem auR:aC Tryz.prog 120=true:=by kernel_rfl
theorem apK:aC Tryz.prog 121=true:=by kernel_rfl
theorem atQ:aC Tryz.prog 122=true:=by kernel_rfl
theorem akJ:aC Tryz.prog 123=true:=by kernel_rfl
theorem avO:aC Tryz.prog 124=true:=by kernel_rfl
theorem azM:aC Tryz.prog 125=true:=by kernel_rfl
theorem avK:aC Tryz.prog 126=true:=by kernel_rfl
theorem aoB:aC Tryz.prog 127=true:=by kernel_rfl
theorem atS:aC Tryz.prog 128=true:=by kernel_rfl
theorem anV:aC Tryz.prog 129=true:=by kernel_rfl
theorem aqW:aC Tryz.prog 130=true:=by kernel_rfl
theorem awY:aC Tryz.prog 131=true:=by kernel_rfl
theorem axR:aC Tryz.prog 132=true:=by kernel_rfl
theorem azQ:aC Tryz.prog 133=true:=by kernel_rfl
theorem axT:aC Tryz.prog 134=true:=by kernel_rfl
theorem atV:aC Tryz.prog 135=true:=by kernel_rfl
theorem asT:aC Tryz.prog 136=true:=by kernel_rfl
theorem apG:aC Tryz.prog 137=true:=by kernel_rfl
theorem ayU:aC Tryz.prog 138=true:=by kernel_rfl
theorem atW:aC Tryz.prog 139=true:=by kernel_rfl
theorem anG:aC Tryz.prog 140=true:=by kernel_rfl
theorem awK:aC Tryz.prog 141=true:=by kernel_rfl
theorem asP:aC Tryz.prog 142=true:=by kernel_rfl
theorem arP:aC Tryz.prog 143=true:=by kernel_rfl
theorem awD:aC Tryz.prog 144=true:=by kernel_rfl
theorem alY:aC Tryz.prog 145=true:=by kernel_rfl
theorem avY:aC Tryz.prog 146=true:=by kernel_rfl
theorem atB:aC Tryz.prog 147=true:=by kernel_rfl
theorem atM:aC Tryz.prog 148=true:=by kernel_rfl
theorem avA:aC Tryz.prog 149=true:=by kernel_rfl
theorem amM:aC Tryz.prog 150=true:=by kernel_rfl
theorem atA:aC Tryz.prog 151=true:=by kernel_rfl
theorem auO:aC Tryz.prog 152=true:=by kernel_rfl
theorem axF:aC Tryz.prog 153=true:=by kernel_rfl
theorem apF:aC Tryz.prog 154=true:=by kernel_rfl
theorem awN:aC Tryz.prog 155=true:=by kernel_rfl
theorem arJ:aC Tryz.prog 156=true:=by kernel_rfl
theorem auF:aC Tryz.prog 157=true:=by kernel_rfl
theorem apZ:aC Tryz.prog 158=true:=by kernel_rfl
theorem alL:aC Tryz.prog 159=true:=by kernel_rfl
theorem awH:aC Tryz.prog 160=true:=by kernel_rfl
theorem asY:aC Tryz.prog 161=true:=by kernel_rfl
theorem asU:aC Tryz.prog 162=true:=by kernel_rfl
theorem amE:aC Tryz.prog 163=true:=by kernel_rfl
theorem apN:aC Tryz.prog 164=true:=by kernel_rfl
theorem axJ:aC Tryz.prog 165=true:=by kernel_rfl
theorem ayW:aC Tryz.prog 166=true:=by kernel_rfl
theorem ajT:aC Tryz.prog 167=true:=by kernel_rfl
theorem anO:aC Tryz.prog 168=true:=by kernel_rfl
theorem anX:aC Tryz.prog 169=true:=by kernel_rfl
theorem auY:aC Tryz.prog 170=true:=by kernel_rfl
theorem awV:aC Tryz.prog 171=true:=by kernel_rfl
theorem anC:aC Tryz.prog 172=true:=by kernel_rfl
theorem azL:aC Tryz.prog 173=true:=by kernel_rfl
theorem akR:aC Tryz.prog 174=true:=by kernel_rfl
theorem auK:aC Tryz.prog 175=true:=by kernel_rfl
theorem apE:aC Tryz.prog 176=true:=by kernel_rfl
theorem ayR:aC Tryz.prog 177=true:=by kernel_rfl
theorem axG:aC Tryz.prog 178=true:=by kernel_rfl
theorem aqL:aC Tryz.prog 179=true:=by kernel_rfl
theorem aqG:aC Tryz.prog 180=true:=by kernel_rfl
theorem anF:aC Tryz.prog 181=true:=by kernel_rfl
theorem axB:aC Tryz.prog 182=true:=by kernel_rfl
theorem auL:aC Tryz.prog 183=true:=by kernel_rfl
theorem amY:aC Tryz.prog 184=true:=by kernel_rfl
theorem akH:aC Tryz.prog 185=true:=by kernel_rfl
theorem auI:aC Tryz.prog 186=true:=by kernel_rfl
theorem arL:aC Tryz.prog 187=true:=by kernel_rfl
theorem awM:aC Tryz.prog 188=true:=by kernel_rfl
theorem atT:aC Tryz.prog 189=true:=by kernel_rfl
theorem apO:aC Tryz.prog 190=true:=by kernel_rfl
theorem amH:aC Tryz.prog 191=true:=by kernel_rfl
theorem awS:aC Tryz.prog 192=true:=by kernel_rfl
theorem atK:aC Tryz.prog 193=true:=by kernel_rfl
theorem alN:aC Tryz.prog 194=true:=by kernel_rfl
theorem aoP:aC Tryz.prog 195=true:=by kernel_rfl
theorem aoD:aC Tryz.prog 196=true:=by kernel_rfl
theorem avW:aC Tryz.prog 197=true:=by kernel_rfl
theorem amB:aC Tryz.prog 198=true:=by kernel_rfl
theorem aoA:aC Tryz.prog 199=true:=by kernel_rfl
theorem aqZ:aC Tryz.prog 200=true:=by kernel_rfl
theorem aqV:aC Tryz.prog 201=true:=by kernel_rfl
theorem aoY:aC Tryz.prog 202=true:=by kernel_rfl
theorem awE:aC Tryz.prog 203=true:=by kernel_rfl
theorem avU:aC Tryz.prog 204=true:=by kernel_rfl
theorem axW:aC Tryz.prog 205=true:=by kernel_rfl
theorem azB:aC Tryz.prog 206=true:=by kernel_rfl
theorem axN:aC Tryz.prog 207=true:=by kernel_rfl
theorem asF:aC Tryz.prog 208=true:=by kernel_rfl
theorem axV:aC Tryz.prog 209=true:=by kernel_rfl
theorem arK:aC Tryz.prog 210=true:=by kernel_rfl
theorem ayD:aC Tryz.prog 211=true:=by kernel_rfl
theorem azN:aC Tryz.prog 212=true:=by kernel_rfl
theorem axX:aC Tryz.prog 213=true:=by kernel_rfl
theorem alF:aC Tryz.prog 214=true:=by kernel_rfl
theorem awQ:aC Tryz.prog 215=true:=by kernel_rfl
theorem amX:aC Tryz.prog 216=true:=by kernel_rfl
theorem avX:aC Tryz.prog 217=true:=by kernel_rfl
theorem awL:aC Tryz.prog 218=true:=by kernel_rfl
theorem alV:aC Tryz.prog 219=true:=by kernel_rfl
theorem alM:aC Tryz.prog 220=true:=by kernel_rfl
theorem ayJ:aC Tryz.prog 221=true:=by kernel_rfl
theorem arN:aC Tryz.prog 222=true:=by kernel_rfl
theorem amO:aC Tryz.prog 223=true:=by kernel_rfl
theorem aqO:aC Tryz.prog 224=true:=by kernel_rfl
theorem avC:aC Tryz.prog 225=true:=by kernel_rfl
theorem alC:aC Tryz.prog 226=true:=by kernel_rfl
theorem auM:aC Tryz.prog 227=true:=by kernel_rfl
theorem aqR:aC Tryz.prog 228=true:=by kernel_rfl
theorem alH:aC Tryz.prog 229=true:=by kernel_rfl
theorem ayG:aC Tryz.prog 230=true:=by kernel_rfl
theorem aqF:aC Tryz.prog 231=true:=by kernel_rfl
theorem auC:aC Tryz.prog 232=true:=by kernel_rfl
theorem axE:aC Tryz.prog 233=true:=by kernel_rfl
theorem ajY:aC Tryz.prog 234=true:=by kernel_rfl
theorem amV:aC Tryz.prog 235=true:=by kernel_rfl
theorem aqD:aC Tryz.prog 236=true:=by kernel_rfl
theorem atJ:aC Tryz.prog 237=true:=by kernel_rfl
theorem ayP:aC Tryz.prog 238=true:=by kernel_rfl
theorem ayT:aC Tryz.prog 239=true:=by kernel_rfl
theorem azF:aC Tryz.prog 240=true:=by kernel_rfl
theorem anK:aC Tryz.prog 241=true:=by kernel_rfl
theorem atI:aC Tryz.prog 242=true:=by kernel_rfl
theorem asB:aC Tryz.prog 243=true:=by kernel_rfl
theorem aqK:aC Tryz.prog 244=true:=by kernel_rfl
theorem auV:aC Tryz.prog 245=true:=by kernel_rfl
theorem ayY:aC Tryz.prog 246=true:=by kernel_rfl
theorem arH:aC Tryz.prog 247=true:=by kernel_rfl
theorem apW:aC Tryz.prog 248=true:=by kernel_rfl
theorem arD:aC Tryz.prog 249=true:=by kernel_rfl
theorem anN:aC Tryz.prog 250=true:=by kernel_rfl
theorem amC:aC Tryz.prog 251=true:=by kernel_rfl
theorem amL:aC Tryz.prog 252=true:=by kernel_rfl
theorem ayV:aC Tryz.prog 253=true:=by kernel_rfl
theorem awW:aC Tryz.prog 254=true:=by kernel_rfl
theorem atO:aC Tryz.prog 255=true:=by kernel_rfl
theorem awB:aC Tryz.prog 256=true:=by kernel_rfl
theorem aqH:aC Tryz.prog 257=true:=by kernel_rfl
theorem ayN:aC Tryz.prog 258=true:=by kernel_rfl
theorem aoJ:aC Tryz.prog 259=true:=by kernel_rfl
theorem auX:aC Tryz.prog 260=true:=by kernel_rfl
theorem axH:aC Tryz.prog 261=true:=by kernel_rfl
theorem aoM:aC Tryz.prog 262=true:=by kernel_rfl
theorem aqU:aC Tryz.prog 263=true:=by kernel_rfl
theorem atD:aC Tryz.prog 264=true:=by kernel_rfl
theorem alB:aC Tryz.prog 265=true:=by kernel_rfl
theorem alA:aC Tryz.prog 266=true:=by kernel_rfl
theorem akL:aC Tryz.prog 267=true:=by kernel_rfl
theorem arU:aC Tryz.prog 268=true:=by kernel_rfl
theorem aqM:aC Tryz.prog 270=true:=by kernel_rfl
theorem akB:aC Tryz.prog 271=true:=by kernel_rfl
theorem arQ:aC Tryz.prog 272=true:=by kernel_rfl
theorem amK:aC Tryz.prog 273=true:=by kernel_rfl
theorem arF:aC Tryz.prog 274=true:=by kernel_rfl
theorem azC:aC Tryz.prog 275=true:=by kernel_rfl
theorem apH:aC Tryz.prog 276=true:=by kernel_rfl
theorem azZ:aC Tryz.prog 277=true:=by kernel_rfl
theorem akT:aC Tryz.prog 278=true:=by kernel_rfl
theorem asH:aC Tryz.prog 279=true:=by kernel_rfl
theorem asG:aC Tryz.prog 280=true:=by kernel_rfl
theorem arI:aC Tryz.prog 281=true:=by kernel_rfl
theorem arA:aC Tryz.prog 282=true:=by kernel_rfl
theorem akU:aC Tryz.prog 283=true:=by kernel_rfl
theorem asR:aC Tryz.prog 284=true:=by kernel_rfl
theorem avB:aC Tryz.prog 285=true:=by kernel_rfl
theorem apS:aC Tryz.prog 286=true:=by kernel_rfl
theorem atR:aC Tryz.prog 287=true:=by kernel_rfl
theorem azY:aC Tryz.prog 288=true:=by kernel_rfl
theorem avL:aC Tryz.prog 289=true:=by kernel_rfl
theorem apY:aC Tryz.prog 290=true:=by kernel_rfl
theorem akP:aC Tryz.prog 291=true:=by kernel_rfl
theorem auW:aC Tryz.prog 292=true:=by kernel_rfl
theorem amJ:aC Tryz.prog 293=true:=by kernel_rfl
theorem apP:aC Tryz.prog 294=true:=by kernel_rfl
theorem amT:aC Tryz.prog 295=true:=by kernel_rfl
theorem apL:aC Tryz.prog 296=true:=by kernel_rfl
theorem asN:aC Tryz.prog 297=true:=by kernel_rfl
theorem axI:aC Tryz.prog 298=true:=by kernel_rfl
theorem amS:aC Tryz.prog 299=true:=by kernel_rfl
theorem azD:aC Tryz.prog 300=true:=by kernel_rfl
theorem aoR:aC Tryz.prog 301=true:=by kernel_rfl
theorem azO:aC Tryz.prog 302=true:=by kernel_rfl
theorem apB:aC Tryz.prog 305=true:=by kernel_rfl
theorem arR:aC Tryz.prog 306=true:=by kernel_rfl
theorem anI:aC Tryz.prog 307=true:=by kernel_rfl
theorem akN:aC Tryz.prog 308=true:=by kernel_rfl
theorem axM:aC Tryz.prog 309=true:=by kernel_rfl
theorem aoO:aC Tryz.prog 310=true:=by kernel_rfl
theorem ajU:aC Tryz.prog 311=true:=by kernel_rfl
theorem avE:aC Tryz.prog 312=true:=by kernel_rfl
theorem auZ:aC Tryz.prog 313=true:=by kernel_rfl
theorem ayA:aC Tryz.prog 314=true:=by kernel_rfl
theorem akQ:aC Tryz.prog 315=true:=by kernel_rfl
theorem ajX:aC Tryz.prog 316=true:=by kernel_rfl
theorem aqE:aC Tryz.prog 317=true:=by kernel_rfl
theorem apM:aC Tryz.prog 318=true:=by kernel_rfl
theorem alZ:aC Tryz.prog 319=true:=by kernel_rfl
theorem ayH:aC Tryz.prog 320=true:=by kernel_rfl
theorem ajV:aC Tryz.prog 321=true:=by kernel_rfl
theorem azH:aC Tryz.prog 322=true:=by kernel_rfl
theorem aoQ:aC Tryz.prog 323=true:=by kernel_rfl
theorem asJ:aC Tryz.prog 324=true:=by kernel_rfl
theorem avT:aC Tryz.prog 325=true:=by kernel_rfl
theorem ayS:aC Tryz.prog 326=true:=by kernel_rfl
theorem aoH:aC Tryz.prog 327=true:=by kernel_rfl
theorem ayF:aC Tryz.prog 328=true:=by kernel_rfl
theorem aqA:aC Tryz.prog 329=true:=by kernel_rfl
theorem anL:aC Tryz.prog 330=true:=by kernel_rfl
theorem aoE:aC Tryz.prog 331=true:=by kernel_rfl
theorem alE:aC Tryz.prog 332=true:=by kernel_rfl
theorem arV:aC Tryz.prog 333=true:=by kernel_rfl
theorem asW:aC Tryz.prog 334=true:=by kernel_rfl
theorem auH:aC Tryz.prog 335=true:=by kernel_rfl
theorem auD:aC Tryz.prog 336=true:=by kernel_rfl
theorem axD:aC Tryz.prog 337=true:=by kernel_rfl
theorem avH:aC Tryz.prog 338=true:=by kernel_rfl
theorem amF:aC Tryz.prog 339=true:=by kernel_rfl
theorem amI:aC Tryz.prog 340=true:=by kernel_rfl
theorem avI:aC Tryz.prog 342=true:=by kernel_rfl
theorem akY:aC Tryz.prog 343=true:=by kernel_rfl
theorem awR:aC Tryz.prog 344=true:=by kernel_rfl
theorem amA:aC Tryz.prog 345=true:=by kernel_rfl
theorem alQ:aC Tryz.prog 346=true:=by kernel_rfl
theorem akA:aC Tryz.prog 347=true:=by kernel_rfl
theorem atC:aC Tryz.prog 348=true:=by kernel_rfl
theorem aAa:aC Tryz.prog 349=true:=by kernel_rfl
theorem ayE:aC Tryz.prog 350=true:=by kernel_rfl
theorem ayI:aC Tryz.prog 351=true:=by kernel_rfl
theorem amQ:aC Tryz.prog 352=true:=by kernel_rfl
theorem asL:aC Tryz.prog 353=true:=by kernel_rfl
theorem axO:aC Tryz.prog 354=true:=by kernel_rfl
theorem akO:aC Tryz.prog 355=true:=by kernel_rfl
theorem amG:aC Tryz.prog 356=true:=by kernel_rfl
theorem azW:aC Tryz.prog 357=true:=by kernel_rfl
theorem azE:aC Tryz.prog 358=true:=by kernel_rfl
theorem anU:aC Tryz.prog 359=true:=by kernel_rfl
theorem apC:aC Tryz.prog 360=true:=by kernel_rfl
theorem alU:aC Tryz.prog 361=true:=by kernel_rfl
theorem akE:aC Tryz.prog 362=true:=by kernel_rfl
theorem awJ:aC Tryz.prog 363=true:=by kernel_rfl
theorem aoU:aC Tryz.prog 364=true:=by kernel_rfl
theorem auT:aC Tryz.prog 365=true:=by kernel_rfl
theorem axS:aC Tryz.prog 366=true:=by kernel_rfl
theorem awT:aC Tryz.prog 367=true:=by kernel_rfl
theorem axK:aC Tryz.prog 368=true:=by kernel_rfl
theorem atN:aC Tryz.prog 369=true:=by kernel_rfl
theorem aAb:aC Tryz.prog 371=true:=by kernel_rfl
theorem awP:aC Tryz.prog 372=true:=by kernel_rfl
theorem atY:aC Tryz.prog 373=true:=by kernel_rfl
theorem avM:aC Tryz.prog 374=true:=by kernel_rfl
theorem asK:aC Tryz.prog 375=true:=by kernel_rfl
theorem aoW:aC Tryz.prog 376=true:=by kernel_rfl
theorem amN:aC Tryz.prog 377=true:=by kernel_rfl
theorem azA:aC Tryz.prog 378=true:=by kernel_rfl
theorem aoS:aC Tryz.prog 379=true:=by kernel_rfl
theorem avP:aC Tryz.prog 380=true:=by kernel_rfl
theorem alR:aC Tryz.prog 381=true:=by kernel_rfl
theorem avS:aC Tryz.prog 382=true:=by kernel_rfl
theorem avN:aC Tryz.prog 383=true:=by kernel_rfl
theorem atH:aC Tryz.prog 384=true:=by kernel_rfl
theorem aoT:aC Tryz.prog 385=true:=by kernel_rfl
theorem amW:aC Tryz.prog 386=true:=by kernel_rfl
theorem alT:aC Tryz.prog 387=true:=by kernel_rfl
theorem arX:aC Tryz.prog 388=true:=by kernel_rfl
theorem apD:aC Tryz.prog 389=true:=by kernel_rfl
theorem asA:aC Tryz.prog 390=true:=by kernel_rfl
theorem alJ:aC Tryz.prog 414=true:=by kernel_rfl
attribute [go_sem] it3 it5 st9 azI apQ bo4 atE axY anH ahS agK ahX afZ aiL agP agN agC ahQ aiS aiO aiW ajQ ajB aiH aiT aiG agI ahR ajP ahH aiN agU ahP agD Za aaH Zi abP acA aaA Z3 ZC aeP aaI adW aeL aaZ adG Zs acN acF acS ZA aeN Zp aeG ZJ ZH Zl aeM aaE ZS acD aeH aaO Z5 VV Yd WV Y8 aaV Zj Zm ZD Zx ZP acJ aaD ZW adI Zy Zg adY Zn Zb abT ZM aaP acU abQ acQ aaY Z9 abC acB abV adV aeJ Zq abL acP aaG acT acY acI el22 sl22 el23 sl23 el26 sl26 el27 sl27 el28 sl28 el31 sl31 el32 sl32 el33 sl33 awF sl38 ahL sl39 st44 anE sl49 el60 sl60 el65 sl65 sl72 el86 sl86 ar89 apU arW akC anP apT azP afQ apI ayC axC avQ atX avV arT alS aqJ anQ atF anY ayK aoG amP anW auQ amD apR awC akI avZ azS aqQ aoZ aoN asI ld3 ld4 ld9 ld22 ld23 ld25 ld26 ld27 ld28 ld30 ld31 ld32 ld33 ld35 ld38 ld39 ld41 ld43 ld44 ld45 ld69 ld86 ld89 ld95 azG asZ asC ayM avG anA atL aqC atG aoI auG atZ amU alK ayZ anB aqP asD akD asQ alO azU Fh kk3 zv3 pa25 pa30 pa41 pa43 pa69 pa89 ayL apV aqY arM ayX aqI azX ajW azK aoV akX akS auJ anJ alI avD akV apA aoC so3 so4 YF afP ze3 ze4 ze9 ze25 ze30 ze41 asE ze69 ze89 ze95 axA atU aqX aqB ayO alG asV avJ arB akF akM atP axL axQ ayQ awG apX alX awU arG awA anS aoL co2 co3 co4 co5 co6 co7 co8 co9 co10 co11 co12 co13 co14 co15 co16 co17 co18 co19 co20 co21 co22 co23 co24 co25 co26 co27 co28 co29 co30 co31 co32 co33 co34 co35 co36 co37 co38 co39 co40 co41 co42 co43 co44 co45 co46 co47 co48 co49 co50 co51 co52 co53 co54 co55 co56 co57 co58 co59 co60 co61 co62 co63 co64 co65 co66 co67 co68 co69 co70 co71 co72 co73 co74 co75 co76 co77 co78 co79 co80 co81 co82 co83 co84 co85 co86 co87 co88 co89 co90 co91 co92 co93 co94 co95 co96 co97 co98 co99 asX akZ axU asS asO auP azR arY awI auB anT aoX anD arO alD aqT anM auE axP azJ auR apK atQ akJ avO azM avK aoB atS anV aqW awY axR azQ axT atV asT apG ayU atW anG awK asP arP awD alY avY atB atM avA amM atA auO axF apF awN arJ auF apZ alL awH asY asU amE apN axJ ayW ajT anO anX auY awV anC azL akR auK apE ayR axG aqL aqG anF axB auL amY akH auI arL awM atT apO amH awS atK alN aoP aoD avW amB aoA aqZ aqV aoY awE avU axW azB axN asF axV arK ayD azN axX alF awQ amX avX awL alV alM ayJ arN amO aqO avC alC auM aqR alH ayG aqF auC axE ajY amV aqD atJ ayP ayT azF anK atI asB aqK auV ayY arH apW arD anN amC amL ayV awW atO awB aqH ayN aoJ auX axH aoM aqU atD alB alA akL arU aqM akB arQ amK arF azC apH azZ akT asH asG arI arA akU asR avB apS atR azY avL apY akP auW amJ apP amT apL asN axI amS azD aoR azO apB arR anI akN axM aoO ajU avE auZ ayA akQ ajX aqE apM alZ ayH ajV azH aoQ asJ avT ayS aoH ayF aqA anL aoE alE arV asW auH auD axD avH amF amI avI akY awR amA alQ akA atC aAa ayE ayI amQ asL axO akO amG azW azE anU apC alU akE awJ aoU auT axS awT axK atN aAb awP atY avM asK aoW amN azA aoS avP alR avS avN atH aoT amW alT arX apD asA alJ
end Go.Proofs.YtohmomanmikphaaGreatDoor.Ty
end
section
namespace Go.Aw.D
open Go.Aw
def bJ(n:Int):List AV:=[.v (.int .i64 n)]
def eV(b:Bool):List AV:=[.v (.bool b)]
def fA(s:ByteArray):List AV:=[.v (.string s)]
theorem FV(x:Int):(bJ x).length=1:=rfl
theorem Wv(x:Int):(bJ x).getD 0 .any=.v (.int .i64 x):=rfl
theorem My(x:Bool):(eV x).length=1:=rfl
theorem Ux(x:Bool):(eV x).getD 0 .any=.v (.bool x):=rfl
theorem OT(x:ByteArray):(fA x).length=1:=rfl
theorem XO(x:ByteArray):(fA x).getD 0 .any=.v (.string x):=rfl
structure Point where
 t:Int
 a:Int
 deriving DecidableEq
def cA(x:Point):List AV:=[.v (.int .i64 x.t),.v (.int .i64 x.a)]
theorem gH(x:Point):(cA x).length=2:=rfl
theorem Pl(x:Point):(cA x).getD 0 .any=.v (.int .i64 x.t):=rfl
theorem Qx(x:Point):(cA x).getD 1 .any=.v (.int .i64 x.a):=rfl
theorem BH(x:Point):(cA x).take 2=cA x:=rfl
structure Arc where
 src:Int
 dst:Int
 profile:Int
 miles:Int
 travel:List Point
 slow:List Point
 deriving DecidableEq
def gB(x:Arc):List AV:=[.v (.int .i64 x.src),.v (.int .i64 x.dst),.v (.int .i64 x.profile),.v (.int .i64 x.miles),.sl (x.travel.map cA),.sl (x.slow.map cA)]
theorem jF(x:Arc):(gB x).length=6:=rfl
theorem XN(x:Arc):(gB x).getD 0 .any=.v (.int .i64 x.src):=rfl
theorem Vu(x:Arc):(gB x).getD 1 .any=.v (.int .i64 x.dst):=rfl
theorem XA(x:Arc):(gB x).getD 2 .any=.v (.int .i64 x.profile):=rfl
theorem YK(x:Arc):(gB x).getD 3 .any=.v (.int .i64 x.miles):=rfl
theorem Xe(x:Arc):(gB x).getD 4 .any=.sl (x.travel.map cA):=rfl
theorem Yo(x:Arc):(gB x).getD 5 .any=.sl (x.slow.map cA):=rfl
theorem PN(x:Arc):(gB x).take 6=gB x:=rfl
structure Network where
 places:List ByteArray
 arcs:List Arc
 deriving DecidableEq
def aY(x:Network):List AV:=[.sl (x.places.map fA),.sl (x.arcs.map gB)]
theorem E1(x:Network):(aY x).length=2:=rfl
theorem KB(x:Network):(aY x).getD 0 .any=.sl (x.places.map fA):=rfl
theorem Js(x:Network):(aY x).getD 1 .any=.sl (x.arcs.map gB):=rfl
theorem EK(x:Network):(aY x).take 2=aY x:=rfl
structure VType where
 name:ByteArray
 count:Int
 src:Int
 dst:Int
 cap:List Int
 skills:Int
 profile:Int
 start:Int
 close:Int
 drive:Int
 rest:Int
 fixed:Int
 perMile:Int
 perTick:Int
 deriving DecidableEq
def bC(x:VType):List AV:=[.v (.string x.name),.v (.int .i64 x.count),.v (.int .i64 x.src),.v (.int .i64 x.dst),.sl (x.cap.map bJ),.v (.int .i64 x.skills),.v (.int .i64 x.profile),.v (.int .i64 x.start),.v (.int .i64 x.close),.v (.int .i64 x.drive),.v (.int .i64 x.rest),.v (.int .i64 x.fixed),.v (.int .i64 x.perMile),.v (.int .i64 x.perTick)]
theorem jZ(x:VType):(bC x).length=14:=rfl
theorem Px(x:VType):(bC x).getD 0 .any=.v (.string x.name):=rfl
theorem OD(x:VType):(bC x).getD 1 .any=.v (.int .i64 x.count):=rfl
theorem QH(x:VType):(bC x).getD 2 .any=.v (.int .i64 x.src):=rfl
theorem Pj(x:VType):(bC x).getD 3 .any=.v (.int .i64 x.dst):=rfl
theorem PH(x:VType):(bC x).getD 4 .any=.sl (x.cap.map bJ):=rfl
theorem OB(x:VType):(bC x).getD 5 .any=.v (.int .i64 x.skills):=rfl
theorem QE(x:VType):(bC x).getD 6 .any=.v (.int .i64 x.profile):=rfl
theorem Qd(x:VType):(bC x).getD 7 .any=.v (.int .i64 x.start):=rfl
theorem P1(x:VType):(bC x).getD 8 .any=.v (.int .i64 x.close):=rfl
theorem PL(x:VType):(bC x).getD 9 .any=.v (.int .i64 x.drive):=rfl
theorem LH(x:VType):(bC x).getD 10 .any=.v (.int .i64 x.rest):=rfl
theorem KY(x:VType):(bC x).getD 11 .any=.v (.int .i64 x.fixed):=rfl
theorem Nh(x:VType):(bC x).getD 12 .any=.v (.int .i64 x.perMile):=rfl
theorem Mw(x:VType):(bC x).getD 13 .any=.v (.int .i64 x.perTick):=rfl
theorem Jz(x:VType):(bC x).take 14=bC x:=rfl
structure Stop where
 place:Int
 start:Int
 close:Int
 service:Int
 deriving DecidableEq
def eI(x:Stop):List AV:=[.v (.int .i64 x.place),.v (.int .i64 x.start),.v (.int .i64 x.close),.v (.int .i64 x.service)]
theorem lD(x:Stop):(eI x).length=4:=rfl
theorem Tg(x:Stop):(eI x).getD 0 .any=.v (.int .i64 x.place):=rfl
theorem TS(x:Stop):(eI x).getD 1 .any=.v (.int .i64 x.start):=rfl
theorem Tk(x:Stop):(eI x).getD 2 .any=.v (.int .i64 x.close):=rfl
theorem Va(x:Stop):(eI x).getD 3 .any=.v (.int .i64 x.service):=rfl
theorem No(x:Stop):(eI x).take 4=eI x:=rfl
structure Order where
 name:ByteArray
 load:List Int
 pick:Stop
 drop:Stop
 skills:Int
 penalty:Int
 split:Int
 last:Int
 now:Int
 off:Bool
 deriving DecidableEq
def bE(x:Order):List AV:=[.v (.string x.name),.sl (x.load.map bJ),.v (.int .i64 x.pick.place),.v (.int .i64 x.pick.start),.v (.int .i64 x.pick.close),.v (.int .i64 x.pick.service),.v (.int .i64 x.drop.place),.v (.int .i64 x.drop.start),.v (.int .i64 x.drop.close),.v (.int .i64 x.drop.service),.v (.int .i64 x.skills),.v (.int .i64 x.penalty),.v (.int .i64 x.split),.v (.int .i64 x.last),.v (.int .i64 x.now),.v (.bool x.off)]
theorem qG(x:Order):(bE x).length=16:=rfl
theorem OS(x:Order):(bE x).getD 0 .any=.v (.string x.name):=rfl
theorem P9(x:Order):(bE x).getD 1 .any=.sl (x.load.map bJ):=rfl
theorem O4(x:Order):(bE x).getD 2 .any=.v (.int .i64 x.pick.place):=rfl
theorem Pn(x:Order):(bE x).getD 3 .any=.v (.int .i64 x.pick.start):=rfl
theorem OX(x:Order):(bE x).getD 4 .any=.v (.int .i64 x.pick.close):=rfl
theorem Ov(x:Order):(bE x).getD 5 .any=.v (.int .i64 x.pick.service):=rfl
theorem Qw(x:Order):(bE x).getD 6 .any=.v (.int .i64 x.drop.place):=rfl
theorem O3(x:Order):(bE x).getD 7 .any=.v (.int .i64 x.drop.start):=rfl
theorem PI(x:Order):(bE x).getD 8 .any=.v (.int .i64 x.drop.close):=rfl
theorem Oo(x:Order):(bE x).getD 9 .any=.v (.int .i64 x.drop.service):=rfl
theorem LT(x:Order):(bE x).getD 10 .any=.v (.int .i64 x.skills):=rfl
theorem KV(x:Order):(bE x).getD 11 .any=.v (.int .i64 x.penalty):=rfl
theorem Nm(x:Order):(bE x).getD 12 .any=.v (.int .i64 x.split):=rfl
theorem Mg(x:Order):(bE x).getD 13 .any=.v (.int .i64 x.last):=rfl
theorem Ll(x:Order):(bE x).getD 14 .any=.v (.int .i64 x.now):=rfl
theorem Ma(x:Order):(bE x).getD 15 .any=.v (.bool x.off):=rfl
theorem Kz(x:Order):(bE x).take 16=bE x:=rfl
theorem GQ(x:Order):((bE x).drop 2).take 4=eI x.pick:=rfl
theorem Gz(x:Order):((bE x).drop 6).take 4=eI x.drop:=rfl
structure Pair where
 a:Int
 b:Int
 deriving DecidableEq
def cM(x:Pair):List AV:=[.v (.int .i64 x.a),.v (.int .i64 x.b)]
theorem kX(x:Pair):(cM x).length=2:=rfl
theorem T8(x:Pair):(cM x).getD 0 .any=.v (.int .i64 x.a):=rfl
theorem T7(x:Pair):(cM x).getD 1 .any=.v (.int .i64 x.b):=rfl
theorem N6(x:Pair):(cM x).take 2=cM x:=rfl
structure Instance where
 net:Network
 types:List VType
 orders:List Order
 apart:List Pair
 before:List Pair
 deriving DecidableEq
def aG(x:Instance):List AV:=[.sl (x.net.places.map fA),.sl (x.net.arcs.map gB),.sl (x.types.map bC),.sl (x.orders.map bE),.sl (x.apart.map cM),.sl (x.before.map cM)]
theorem Ec(x:Instance):(aG x).length=6:=rfl
theorem GS(x:Instance):(aG x).getD 0 .any=.sl (x.net.places.map fA):=rfl
theorem G0(x:Instance):(aG x).getD 1 .any=.sl (x.net.arcs.map gB):=rfl
theorem GE(x:Instance):(aG x).getD 2 .any=.sl (x.types.map bC):=rfl
theorem G1(x:Instance):(aG x).getD 3 .any=.sl (x.orders.map bE):=rfl
theorem GP(x:Instance):(aG x).getD 4 .any=.sl (x.apart.map cM):=rfl
theorem GF(x:Instance):(aG x).getD 5 .any=.sl (x.before.map cM):=rfl
theorem Eb(x:Instance):(aG x).take 6=aG x:=rfl
theorem D6(x:Instance):(aG x).take 2=aY x.net:=rfl
structure Visit where
 order:Int
 drop:Bool
 deriving DecidableEq
def aL(x:Visit):List AV:=[.v (.int .i64 x.order),.v (.bool x.drop)]
theorem dG(x:Visit):(aL x).length=2:=rfl
theorem PR(x:Visit):(aL x).getD 0 .any=.v (.int .i64 x.order):=rfl
theorem Qa(x:Visit):(aL x).getD 1 .any=.v (.bool x.drop):=rfl
theorem J3(x:Visit):(aL x).take 2=aL x:=rfl
structure Route where
 type:Int
 start:Int
 rests:List Bool
 visits:List Visit
 deriving DecidableEq
def dL(x:Route):List AV:=[.v (.int .i64 x.type),.v (.int .i64 x.start),.sl (x.rests.map eV),.sl (x.visits.map aL)]
theorem wA(x:Route):(dL x).length=4:=rfl
theorem PU(x:Route):(dL x).getD 0 .any=.v (.int .i64 x.type):=rfl
theorem OI(x:Route):(dL x).getD 1 .any=.v (.int .i64 x.start):=rfl
theorem QW(x:Route):(dL x).getD 2 .any=.sl (x.rests.map eV):=rfl
theorem Pm(x:Route):(dL x).getD 3 .any=.sl (x.visits.map aL):=rfl
theorem Ji(x:Route):(dL x).take 4=dL x:=rfl
structure Plan where
 routes:List Route
 unserved:List Int
 deriving DecidableEq
structure Fault where
 err:Int
 at_:ByteArray
 deriving DecidableEq
def fV(x:Fault):List AV:=[.v (.int .i64 x.err),.v (.string x.at_)]
theorem KI(x:Fault):(fV x).length=2:=rfl
theorem Oz(x:Fault):(fV x).getD 0 .any=.v (.int .i64 x.err):=rfl
theorem OL(x:Fault):(fV x).getD 1 .any=.v (.string x.at_):=rfl
theorem Jj(x:Fault):(fV x).take 2=fV x:=rfl
structure Decision where
 kind:Int
 a:Int
 b:Int
 n:Int
 deriving DecidableEq
def aW(x:Decision):List AV:=[.v (.int .i64 x.kind),.v (.int .i64 x.a),.v (.int .i64 x.b),.v (.int .i64 x.n)]
theorem kI(x:Decision):(aW x).length=4:=rfl
theorem GI(x:Decision):(aW x).getD 0 .any=.v (.int .i64 x.kind):=rfl
theorem GD(x:Decision):(aW x).getD 1 .any=.v (.int .i64 x.a):=rfl
theorem GH(x:Decision):(aW x).getD 2 .any=.v (.int .i64 x.b):=rfl
theorem Gw(x:Decision):(aW x).getD 3 .any=.v (.int .i64 x.n):=rfl
theorem Ef(x:Decision):(aW x).take 4=aW x:=rfl
structure Column where
 type:Int
 set:Int
 price:Int
 route:Route
 deriving DecidableEq
def aS(x:Column):List AV:=[.v (.int .i64 x.type),.v (.int .i64 x.set),.v (.int .i64 x.price),.v (.int .i64 x.route.type),.v (.int .i64 x.route.start),.sl (x.route.rests.map eV),.sl (x.route.visits.map aL)]
theorem dA(x:Column):(aS x).length=7:=rfl
theorem Lr(x:Column):(aS x).getD 0 .any=.v (.int .i64 x.type):=rfl
theorem LV(x:Column):(aS x).getD 1 .any=.v (.int .i64 x.set):=rfl
theorem LX(x:Column):(aS x).getD 2 .any=.v (.int .i64 x.price):=rfl
theorem KQ(x:Column):(aS x).getD 3 .any=.v (.int .i64 x.route.type):=rfl
theorem Mr(x:Column):(aS x).getD 4 .any=.v (.int .i64 x.route.start):=rfl
theorem Ny(x:Column):(aS x).getD 5 .any=.sl (x.route.rests.map eV):=rfl
theorem NV(x:Column):(aS x).getD 6 .any=.sl (x.route.visits.map aL):=rfl
theorem Gy(x:Column):(aS x).take 7=aS x:=rfl
theorem Ej(x:Column):((aS x).drop 3).take 4=dL x.route:=rfl
structure Score where
 cost:Int
 moved:Int
 other:Int
 work:Int
 deriving DecidableEq
def fM(x:Score):List AV:=[.v (.int .i64 x.cost),.v (.int .i64 x.moved),.v (.int .i64 x.other),.v (.int .i64 x.work)]
structure Cut where
 kind:Int
 set:Int
 n:Int
 deriving DecidableEq
def dS(x:Cut):List AV:=[.v (.int .i64 x.kind),.v (.int .i64 x.set),.v (.int .i64 x.n)]
theorem wC(x:Cut):(dS x).length=3:=rfl
theorem Vr(x:Cut):(dS x).getD 0 .any=.v (.int .i64 x.kind):=rfl
theorem Wy(x:Cut):(dS x).getD 1 .any=.v (.int .i64 x.set):=rfl
theorem Y2(x:Cut):(dS x).getD 2 .any=.v (.int .i64 x.n):=rfl
theorem OJ(x:Cut):(dS x).take 3=dS x:=rfl
structure TimeT where
 arrive:Int
 start:Int
 depart:Int
 rest:Bool
 deriving DecidableEq
def LU(x:TimeT):List AV:=[.v (.int .i64 x.arrive),.v (.int .i64 x.start),.v (.int .i64 x.depart),.v (.bool x.rest)]
structure Weight where
 yes:Int
 no:Int
 noneYes:Bool
 noneNo:Bool
 deriving DecidableEq
structure StepT where
 inst:Instance
 plan:Plan
 now:Int
 deriving DecidableEq
structure PRow where
 coef:List Int
 kind:Int
 right:Int
 deriving DecidableEq
structure PLin where
 cost:List Int
 rows:List PRow
 deriving DecidableEq
structure Ask where
 x:Instance
 l:List Column
 cuts:List Cut
 d:List Decision
 deriving DecidableEq
structure TNode where
 leaf:Bool
 kind:Int
 cuts:List Cut
 dual:List ByteArray
 choice:Decision
 yes:Int
 no:Int
 deriving DecidableEq
structure Proof where
 noPlan:Bool
 plan:Plan
 nodes:List TNode
 deriving DecidableEq
structure Ask3 where
 x:Instance
 cuts:List Cut
 d:List Decision
 dual:List ByteArray
 deriving DecidableEq
def gY(x:Ask3):List AV:=[.sl (x.x.net.places.map fA),.sl (x.x.net.arcs.map gB),.sl (x.x.types.map bC),.sl (x.x.orders.map bE),.sl (x.x.apart.map cM),.sl (x.x.before.map cM),.sl (x.cuts.map dS),.sl (x.d.map aW),.sl (x.dual.map fA)]
theorem K3(x:Ask3):(gY x).length=9:=rfl
theorem TV(x:Ask3):(gY x).getD 0 .any=.sl (x.x.net.places.map fA):=rfl
theorem Uu(x:Ask3):(gY x).getD 1 .any=.sl (x.x.net.arcs.map gB):=rfl
theorem Uj(x:Ask3):(gY x).getD 2 .any=.sl (x.x.types.map bC):=rfl
theorem Vg(x:Ask3):(gY x).getD 3 .any=.sl (x.x.orders.map bE):=rfl
theorem Tq(x:Ask3):(gY x).getD 4 .any=.sl (x.x.apart.map cM):=rfl
theorem U5(x:Ask3):(gY x).getD 5 .any=.sl (x.x.before.map cM):=rfl
theorem Uo(x:Ask3):(gY x).getD 6 .any=.sl (x.cuts.map dS):=rfl
theorem Tu(x:Ask3):(gY x).getD 7 .any=.sl (x.d.map aW):=rfl
theorem Tz(x:Ask3):(gY x).getD 8 .any=.sl (x.dual.map fA):=rfl
theorem Li(x:Ask3):(gY x).take 9=gY x:=rfl
theorem Ve(x:Ask3):(gY x).take 6=aG x.x:=rfl
structure Sheet where
 rest:Bool
 depart:Int
 times:List TimeT
 stop:Int
 miles:Int
 deriving DecidableEq
def cX(x:Sheet):List AV:=[.v (.bool x.rest),.v (.int .i64 x.depart),.sl (x.times.map LU),.v (.int .i64 x.stop),.v (.int .i64 x.miles)]
theorem Qu(x:Sheet):(cX x).getD 0 .any=.v (.bool x.rest):=rfl
theorem OF(x:Sheet):(cX x).getD 1 .any=.v (.int .i64 x.depart):=rfl
theorem OK(x:Sheet):(cX x).getD 2 .any=.sl (x.times.map LU):=rfl
attribute [go_sem] FV Wv My Ux OT XO gH Pl Qx BH jF XN Vu XA YK Xe Yo PN E1 KB Js EK jZ Px OD QH Pj PH OB QE Qd P1 PL LH KY Nh Mw Jz lD Tg TS Tk Va No qG OS P9 O4 Pn OX Ov Qw O3 PI Oo LT KV Nm Mg Ll Ma Kz GQ Gz kX T8 T7 N6 Ec GS G0 GE G1 GP GF Eb D6 dG PR Qa J3 wA PU OI QW Pm Ji KI Oz OL Jj kI GI GD GH Gw Ef dA Lr LV LX KQ Mr Ny NV Gy Ej wC Vr Wy Y2 OJ K3 TV Uu Uj Vg Tq U5 Uo Tu Tz Li Ve Qu OF OK
theorem aF{α:Type}{f:α->List AV}{l:List α}{k:Nat}{x:α}(h:l[k]?=some x):(l.map f).getD k []=f x:=by simp[List.getD,h]
theorem aaQ{α:Type}(f:α->List AV)(l:List α):(l.map f).length=l.length:=List.length_map f
theorem zG(n:Nat):((n:Int)).toNat=n:=Int.toNat_natCast n
attribute [go_sem] aaQ zG
theorem aR{n:Int}(h: -9223372036854775808<=n/\n<=9223372036854775807):IntKind.i64.wrap n=n:=IntWalk.i64_in n h
end Go.Aw.D
end
section
namespace Go.Proofs.YtohmomanmikphaaGreatDoor
open Go.Aw Go.Aw.D Go.Proofs Ty
abbrev int(n:Int):AV:=.v (.int .i64 n)
abbrev str(s:ByteArray):AV:=.v (.string s)
abbrev boo(b:Bool):AV:=.v (.bool b)
theorem bP{α:Type}{l:List α}{k:Nat}{x:α}(h:l[k]?=some x):l.take (k+1)=l.take k++[x]:=by
 rw[List.take_add_one,h];rfl
theorem aN{α:Type}{l:List α}{k:Nat}(h:k<l.length):∃x,l[k]?=some x:=⟨l[k],List.getElem?_eq_getElem h⟩
theorem inB{k n:Nat}(h:k<n):0<=(k:Int)/\(k:Int)<(n:Int):=by omega
theorem aP{k:Nat}(h:k<=4611686018427387904):IntKind.i64.wrap ((k:Int)+1)=((k+1:Nat):Int):=by rw[aR (by omega)];omega
theorem Y9{k:Nat}(h:k<=4611686018427387904):(IntKind.i64.wrap ((k:Int)-1)).toNat=k-1:=by rw[aR (by omega)];omega
theorem nX{k:Nat}(h:k<=4611686018427387904):IntKind.i64.wrap ((k:Int)-1)=(k:Int)-1:=aR (by omega)
def Ds(e:TypeId×Nat×Nat)(d:Option Tmp)(j:Nat)(x:AV)(ρ:Env)(H:aH)(K:Env->aH->Prop):Prop:=match H j with
 | some r => wZ H x fun news => (r.e = e.1 /\ r.sz = e.2.1 /\ cZ e.2.1 news /\ (r.es.length + news.length) * e.2.2 <= 140737488355328) /\
       ∀k',H k'=none->K (upd ρ d (.os k')) (aI (aI H j none) k' (some ⟨e.1,e.2.1,r.es++news⟩))
 | none=>False
theorem WD{P:Program}{d:Option Tmp}{t:TypeId}{j:Nat}{x:AV}{ρ:Env}{H:aH}{K:Env->aH->Prop}:Kj P d t (.os j) x ρ H K=bN (bW P t) (fun e=>Ds e d j x ρ H K):=by
 unfold Kj sJ Ds;cases bW P t with
 | none=>rfl
 | some e=>obtain⟨a,b,c⟩:=e;rfl
@[congr] theorem wappE_c {e d j x x' ρ H K} (h':x=x'):Ds e d j x ρ H K=Ds e d j x' ρ H K:=h'▸rfl
@[congr] theorem FCalls_c {P f a a' H R} (h':a=a'):bA P f a H R=bA P f a' H R:=h'▸rfl
theorem aX{e:TypeId×Nat×Nat}{d:Option Tmp}{j:Nat}{news:List (List AV)}{ρ:Env}{H:aH}{K:Env->aH->Prop}{r:Row}(I:H j=some r)
   (h1:r.e=e.1/\r.sz=e.2.1) (E:cZ e.2.1 news) (F:(r.es.length+news.length)*e.2.2<=140737488355328)
   (h:∀u,H u=none->K (upd ρ d (.os u)) (aI (aI H j none) u (some ⟨e.1,e.2.1,r.es++news⟩))):Ds e d j (.sl news) ρ H K:=by
 unfold Ds;simp only[I];exact⟨⟨h1.1,h1.2,E,F⟩,h⟩
theorem Bo{e:TypeId×Nat×Nat}{d:Option Tmp}{j i:Nat}{r':Row}{ρ:Env}{H:aH}{K:Env->aH->Prop}{r:Row}(J:H j=some r)(I:H i=some r')
   (h1:r.e=e.1/\r.sz=e.2.1) (E:cZ e.2.1 r'.es) (F:(r.es.length+r'.es.length)*e.2.2<=140737488355328)
   (h:∀u,H u=none->K (upd ρ d (.os u)) (aI (aI H j none) u (some ⟨e.1,e.2.1,r.es++r'.es⟩))):Ds e d j (.os i) ρ H K:=by
 unfold Ds;simp only[J,wZ,I];exact⟨⟨h1.1,h1.2,E,F⟩,h⟩
theorem bH{P:Program}{C:lB}{PC:FuncId->List AV->aH->AV->Prop}{mt:Nat->Bool}{a b:Code}{x:AV}{K:Env->aH->Prop}{Q:Ex->Env->aH->Prop}{ρ:Env}{H:aH}(J:Env->aH->Prop)(h1:∀ρ H,J ρ H->K ρ H)
 (u:∀K:Env->aH->Prop,(∀ρ H,J ρ H->K ρ H)->yR x (awp P C PC mt a (Ex.seq K Q)) (awp P C PC mt b (Ex.seq K Q)) ρ H):yR x (awp P C PC mt a (Ex.seq K Q)) (awp P C PC mt b (Ex.seq K Q)) ρ H:=u K h1
theorem oN{x:AV}{A B:Env->aH->Prop}{ρ:Env}{H:aH}(J:Env->aH->Prop)(h1:J ρ H)(u:∀ρ H,J ρ H->yR x A B ρ H):yR x A B ρ H:=u ρ H h1
theorem Fm{P:Program}{C:lB}{PC:FuncId->List AV->aH->AV->Prop}{mt:Nat->Bool}{c:Code}{id:Nat}{Q:Ex->Env->aH->Prop}{ρ:Env}{H:aH}(J:Env->aH->Prop)(h1:∀ρ H,J ρ H->Q .normal ρ H)
   (u:∀Q':Ex->Env->aH->Prop,(∀ρ H,J ρ H->Q' (.exit id) ρ H)->(∀ρ H,Q .ret ρ H->Q' .ret ρ H)->Sm (awp P C PC mt c) Q' ρ H):Sm (awp P C PC mt c) (Ex.blk id Q) ρ H:=
 u (Ex.blk id Q) (fun ρ H h=>by rw[Ob];exact h1 ρ H h) (fun ρ H h=>by rw[Q9];exact h)
theorem lC{P:Program}{C:lB}{PC:FuncId->List AV->aH->AV->Prop}{mt:Nat->Bool}{a b:Code}{x:AV}{Q:Ex->Env->aH->Prop}{ρ:Env}{H:aH}(J:Env->aH->Prop)(h1:∀ρ H,J ρ H->Q .normal ρ H)
   (u:∀Q':Ex->Env->aH->Prop,(∀ρ H,J ρ H->Q' .normal ρ H)->(∀i ρ H,Q (.exit i) ρ H->Q' (.exit i) ρ H)->(∀ρ H,Q .ret ρ H->Q' .ret ρ H)->yR x (awp P C PC mt a Q') (awp P C PC mt b Q') ρ H):yR x (awp P C PC mt a Q) (awp P C PC mt b Q) ρ H:=
 u Q h1 (fun _ _ _ h=>h) (fun _ _ h=>h)
def EL(P:Program)(t:TypeId)(l:Option Nat)(d:Option Tmp)(j i f:Nat)(cs:List AV)(ρ:Env)(H:aH)(K:Env->aH->Prop):Prop:=match H j with
 | some r=>(i<r.es.length/\cs.length=l.getD 1/\f+cs.length<=r.sz/\(l=none->∃i,P.info? t=some i/\i.size=1))/\K (upd ρ d .any) (aI H j (some { r with es:=r.es.set i (oF (r.es.getD i []) f cs) }))
 | none=>False
def Fa(P:Program)(t:TypeId)(l:Option Nat)(d:Option Tmp)(j i f:Nat)(cs:List AV)(ρ:Env)(H:aH)(K:Env->aH->Prop):Prop:=
 EL P t l d j i f cs ρ H K\/∃nl:List (Nat×TypeId×Nat),(∀x∈nl,cs[x.1]?=some (.v (.slice none 0 0))/\0<x.2.2)/\jO nl cs H fun cs H=>EL P t l d j i f cs ρ H K
theorem Yp{P:Program}{d:Option Tmp}{t:TypeId}{j i f:Nat}{cs:List AV}{ρ:Env}{H:aH}{K:Env->aH->Prop}:T4 P d t (.op j i f) cs ρ H K=bN (ldT P t) (fun l=>Fa P t l d j i f cs ρ H K):=by
 have E:∀cs H,xJ P ⟨d,.move (.tmp 0),0,"",#[],none⟩ t (.op j i f) cs ρ H K=bN (ldT P t) (fun l=>EL P t l d j i f cs ρ H K):=by
   intro cs H;unfold xJ EL;cases h1:H j <;> cases u:ldT P t <;> simp[bN,h1]
 unfold T4 sL Fa;simp only[E];cases u:ldT P t <;> simp[bN]
theorem TP{P:Program}{t:TypeId}{m:Nat}{d:Option Tmp}{j i f:Nat}{cs:List AV}{ρ:Env}{H:aH}{K:Env->aH->Prop}{r:Row}(o:Nat)(e:TypeId)(sz:Nat)(J:cs[o]?=some (.v (.slice none 0 0))/\0<sz)(u:H j=some r)(h1:i<r.es.length/\cs.length=m/\f+cs.length<=r.sz)
   (h:∀k,H k=none->K (upd ρ d .any) (aI (aI H k (some ⟨e,sz,[]⟩)) j (some { r with es:=r.es.set i (oF (r.es.getD i []) f (cs.set o (.os k))) }))):Fa P t (some m) d j i f cs ρ H K:=by
 refine .inr ⟨[(o,e,sz)],?_,fun k I=>?_⟩
 . intro x F
   simp only[List.mem_cons,List.not_mem_nil,or_false]at F;subst F;exact J
 . have E:j≠k:=fun e=>by rw[e,I]at u;cases u
   unfold jO EL;simp only[show aI H k (some (⟨e,sz,[]⟩:Row)) j=some r by rw[aI];rw[if_neg E];exact u];exact⟨⟨h1.1,by simpa using h1.2.1,by simpa using h1.2.2,by simp⟩,h k I⟩
@[congr] theorem wputE_c {P t l d j i f cs cs' ρ H K} (h':cs=cs'):Fa P t l d j i f cs ρ H K=Fa P t l d j i f cs' ρ H K:=h'▸rfl
theorem aJ{P:Program}{t:TypeId}{m:Nat}{d:Option Tmp}{j i f:Nat}{cs:List AV}{ρ:Env}{H:aH}{K:Env->aH->Prop}{r:Row}(u:H j=some r)(h1:i<r.es.length/\cs.length=m/\f+cs.length<=r.sz)
   (h:K (upd ρ d .any) (aI H j (some { r with es:=r.es.set i (oF (r.es.getD i []) f cs) }))):Fa P t (some m) d j i f cs ρ H K:=by
 refine .inl ?_;unfold EL;simp only[u];exact⟨⟨h1.1,h1.2.1,h1.2.2,by simp⟩,h⟩
theorem eM{P:Program}{t:TypeId}{d:Option Tmp}{j i f:Nat}{cs:List AV}{ρ:Env}{H:aH}{K:Env->aH->Prop}{r:Row}(u:∃i,P.info? t=some i/\i.size=1)(E:H j=some r)(h1:i<r.es.length/\cs.length=1/\f+cs.length<=r.sz)
   (h:K (upd ρ d .any) (aI H j (some { r with es:=r.es.set i (oF (r.es.getD i []) f cs) }))):Fa P t none d j i f cs ρ H K:=by
 refine .inl ?_;unfold EL;simp only[E];exact⟨⟨h1.1,h1.2.1,h1.2.2,fun _=>u⟩,h⟩
theorem ajN:Int.toNat 0=0:=rfl
theorem Yu{a b:Prop}:(a->b->a/\b)=True:=by simp;exact fun h1 u=>⟨h1,u⟩
attribute [go_sem ↓] WD Yp
attribute [go_sem] Yp List.set_cons_zero List.set_cons_succ
attribute [go_sem] Int.reduceToNat ajN beq_true beq_false Bool.not_eq_true' Bool.and_eq_true Yu
attribute [go_sem] WD GV Dh Sc Bool.or_true Bool.true_or Bool.false_or Bool.or_false
theorem dH{H:aH}{i j E:Nat}{r r':Row}(I:H i=some r)(F:j≠i)(u:H E=none):aI (aI H j none) E (some r') i=some r:=by
 have h1:i≠E:=fun e=>by subst e;rw[I]at u;simp at u
 rw[aD _ _ _ _ h1,aD _ _ _ _ (Ne.symm F),I]
theorem jV{H:aH}{i j:Nat}{r r':Row}(u:H i=some r)(E:H j=none):aI H j (some r') i=some r:=by
 have h1:i≠j:=fun e=>by subst e;rw[u]at E;simp at E
 rw[aD _ _ _ _ h1,u]
theorem aQ{H:aH}{i j:Nat}{r:Row}(E:H i=some r)(u:H j=none):i≠j:=fun e=>by subst e;rw[E]at u;simp at u
def opt{α:Type}(b:Bool)(f:α):List α:=match b with|true=>[f]|false=>[]
theorem iF{α:Type}{b:Bool}{f:α}(h:b=true):opt b f=[f]:=by rw[h];rfl
theorem iE{α:Type}{b:Bool}{f:α}(h:b=false):opt b f=[]:=by rw[h];rfl
theorem cE{α:Type}(b:Bool)(f:α):(opt b f).length<=1:=by cases b <;> simp[opt]
theorem jU{α:Type}{e:TypeId}{sz:Nat}{enc:α->List AV}{H:aH}{k:Nat}{l l':List α}{cs:List (List AV)}(h:cs=l'.map enc):aI H k (some ⟨e,sz,l.map enc++cs⟩) k=some (⟨e,sz,(l++l').map enc⟩:Row):=by rw[aB,h,List.map_append]
theorem eR{e:TypeId}{sz:Nat}{enc:Fault->List AV}{H:aH}{k:Nat}{l l':List Fault}{cs:List (List AV)}(h:cs=l'.map enc):aI H k (some ⟨e,sz,l.map enc++cs⟩) k=some (⟨e,sz,(l++l').map enc⟩:Row):=jU h
theorem fY{e:TypeId}{sz:Nat}{enc:Int->List AV}{H:aH}{k:Nat}{l l':List Int}{cs:List (List AV)}(h:cs=l'.map enc):aI H k (some ⟨e,sz,l.map enc++cs⟩) k=some (⟨e,sz,(l++l').map enc⟩:Row):=jU h
abbrev kU(t:VType):Row:=⟨113,14,[bC t]⟩
abbrev lG(o:Order):Row:=⟨111,16,[bE o]⟩
abbrev tR(a:Arc):Row:=⟨107,6,[gB a]⟩
abbrev kD(l:List Int):Row:=⟨45,1,l.map bJ⟩
abbrev bO(l:List Fault):Row:=⟨139,2,l.map fV⟩
theorem pcb(mt:Nat->Bool){f:FuncId}{fn:Func}{args:List AV}{r:AV}(F:Tryz.prog.funcs[f]? = some fn)(h:awp Tryz.prog (bA Tryz.prog) (dN Tryz.prog) mt (fn.body.getD .skip) (GV Tryz.prog fn.results.toList fun x H'=>Conv H' x r) (D9 args) bY)(E:fn.body=some (fn.body.getD .skip):=by rfl)(u:Ae fn (fn.body.getD .skip) args.length=true:=by kernel_rfl):PC Tryz.prog f args r:=PC.body mt mixed F E u h
theorem pcd{f:FuncId}{fn:Func}{args:List AV}{r:AV}(F:Tryz.prog.funcs[f]? = some fn)(h:awp Tryz.prog (bA Tryz.prog) (dN Tryz.prog) (fun _=>false) (fn.body.getD .skip) (GV Tryz.prog fn.results.toList fun x H'=>Conv H' x r) (D9 args) bY)(E:fn.body=some (fn.body.getD .skip):=by rfl)(u:Ae fn (fn.body.getD .skip) args.length=true:=by kernel_rfl):PC Tryz.prog f args r:=PC.body (fun _=>false) mixed F E u h
theorem ncb(mt:Nat->Bool){f:FuncId}{fn:Func}{args:List AV}{row:Row}{u:Nat->AV}(I:Tryz.prog.funcs[f]? = some fn)(h:awp Tryz.prog (bA Tryz.prog) (dN Tryz.prog) mt (fn.body.getD .skip) (GV Tryz.prog fn.results.toList fun x H'=>∃k,x=u k/\H' k=some row) (D9 args) bY)(E:fn.body=some (fn.body.getD .skip):=by rfl)(F:Ae fn (fn.body.getD .skip) args.length=true:=by kernel_rfl):NC Tryz.prog f args row u:=NC.body mt mixed I E F h
theorem gdS{α:Type}{a b:α}:(some a).getD b=a:=rfl
theorem Xaa:∀{α:Type} {β:Type} {L:List α} (f:α->β),List.length (List.map f L)=List.length L:=@List.length_map
theorem Xab:∀(n:Nat),0<=n:=@Nat.zero_le
theorem Xac:∀{α:Type} {L bs:List α},List.length (L++bs)=List.length L+List.length bs:=@List.length_append
theorem Xad:∀{α:Type} {a:α} {L:List α},List.length (a::L)=List.length L+1:=@List.length_cons
theorem Xae:∀{α:Type} {l:List α} {i:Nat} {a:α},l[i]?=some a->a∈l:=@List.mem_of_getElem?
theorem Xaf:∀(n:Nat),n<=n:=@Nat.le_refl
theorem Xag:∀{α:Type} {l:List α},List.take (List.length l) l=l:=@List.take_length
theorem Xah:∀{α:Type} (L:List α),L++[]=L:=@List.append_nil
theorem Xai:∀{α:Type} (L bs cs:List α),L++bs++cs=L++(bs++cs):=@List.append_assoc
theorem Xaj:∀{n m k:Nat},n<=m->m<=k->n<=k:=@Nat.le_trans
theorem Xak:∀{x y:Bool},(x||y)=false↔x=false/\y=false:=@Bool.or_eq_false_iff
theorem Xal:∀{α:Type} {i:Nat} {l:List α},List.length (List.take i l)=min i (List.length l):=@List.length_take
theorem Xam:∀{α:Type} {β:Type} {f:α->β} {l₁ l₂:List α},List.map f (l₁++l₂)=List.map f l₁++List.map f l₂:=@List.map_append
theorem Xan:∀{α:Type} {i:Nat} {l:List α},List.length l<=i->List.take i l=l:=@List.take_of_length_le
theorem Xao:∀{α:Type} {p:α->Bool} {l:List α},List.all l p=true↔∀(x:α),x∈l->p x=true:=@List.all_eq_true
theorem Xap:∀(a b:Bool),((a&&b)=true)=(a=true/\b=true):=@Bool.and_eq_true
theorem Xaq:∀{α:Type} {a b:α},a∈[b]↔a=b:=@List.mem_singleton
theorem Xar:∀(n m:Nat),n<m\/n>=m:=@Nat.lt_or_ge
theorem Xas:∀{α:Type} {l:List α},List.length l=0↔l=[]:=@List.length_eq_zero_iff
theorem Xat:∀{n:Nat},n>0->∀{i j:Nat},i<=j->n^i<=n^j:=@Nat.pow_le_pow_right
theorem Xau:∀{n:Nat},List.length (List.range n)=n:=@List.length_range
theorem Xav:∀{α:Type} {β:Type} {f:α->β} {a:α} {l:List α},List.map f (a::l)=f a::List.map f l:=@List.map_cons
theorem Xaw:∀{α:Type} [inst:BEq α] [LawfulBEq α] {a b:α},(a == b)=true↔a=b:=@beq_iff_eq
theorem Xax:∀{a b:Bool},a=b↔(a=true↔b=true):=@Bool.eq_iff_iff
theorem Xay:∀(n:Nat),Int.natAbs ↑n=n:=@Int.natAbs_natCast
theorem Xaz:∀(b:Bool),(true&&b)=b:=@Bool.true_and
theorem Xba:∀{a b:Nat},a<b->a%b=a:=@Nat.mod_eq_of_lt
theorem Xbb:(false=true)=False:=@Bool.false_eq_true
theorem Xbc:∀(n:Nat),Int.toNat ↑n=n:=@Int.toNat_natCast
theorem Xbd:∀{α:Type} {i:Nat} {l:List α},List.length (List.drop i l)=List.length l-i:=@List.length_drop
theorem Xbe:∀{α:Type} {a:α} {s t:List α},a∈s++t↔a∈s\/a∈t:=@List.mem_append
theorem Xbf:∀{α:Type} (L:List α),[]++L=L:=@List.nil_append
theorem Xbg:∀{α:Type} {β:Type} {f:α->β},List.map f []=[]:=@List.map_nil
theorem Xbh:∀{α:Type} {L:List α} {i:Nat} {a:α},List.length (List.set L i a)=List.length L:=@List.length_set
theorem Xbi:∀{m n:Nat},m∈List.range n↔m<n:=@List.mem_range
theorem Xbj:∀{α:Type} {l:List α},List.drop 0 l=l:=@List.drop_zero
theorem Xbk:∀{α:Type} {p:α->Bool} {l:List α},List.any l p=true↔∃x,x∈l/\p x=true:=@List.any_eq_true
theorem Xbl:∀(b:Bool),((!b)=false)=(b=true):=@Bool.not_eq_false'
theorem Xbm:∀(x:Nat) {y:Nat},0<y->x%y<y:=@Nat.mod_lt
theorem Xbn:∀{α:Type} {b:α} {l:List α} {a:α},a∈b::l↔a=b\/a∈l:=@List.mem_cons
theorem Xbo:∀{α:Type} (p:α->Bool) (l:List α),List.length (List.filter p l)<=List.length l:=@List.length_filter_le
theorem Xbp:∀(b:Bool),((!b)=true)=(b=false):=@Bool.not_eq_true'
theorem Xbq:∀(a b:Int),a<b\/b<=a:=@Int.lt_or_le
theorem Xbr:∀{n:Nat},List.range (Nat.succ n)=List.range n++[n]:=@List.range_succ
theorem Xbs:∀{α:Type} {p q:List α},p++q=[]↔p=[]/\q=[]:=@List.append_eq_nil_iff
theorem Xbt:∀(a b:Bool),((a||b)=true)=(a=true\/b=true):=@Bool.or_eq_true
theorem Xbu:∀(n m:Nat),n^Nat.succ m=n^m*n:=@Nat.pow_succ
theorem Xbv:∀{α:Type} {l:List α},0<List.length l↔l≠[]:=@List.length_pos_iff
theorem Xbw:∀{n m k:Nat},n<m->m<=k->n<k:=@Nat.lt_of_lt_of_le
theorem Xbx:∀(n:Nat),n=0\/n>0:=@Nat.eq_zero_or_pos
theorem Xby:∀{α:Type} {i:Nat} {l:List α},List.length l<=i->List.drop i l=[]:=@List.drop_of_length_le
theorem Xbz:∀{α:Type} {i:Nat} {l:List α} (h:i<List.length l),List.drop i l=l[i]::List.drop (i+1) l:=@List.drop_eq_getElem_cons
theorem Xca:∀{α:Type} {l:List α},List.drop (List.length l) l=[]:=@List.drop_length
theorem Xcb:∀(n m k:Nat),n+m+k=n+(m+k):=@Nat.add_assoc
theorem Xcc:∀(n m:Nat),n+m=m+n:=@Nat.add_comm
theorem Xcd:∀{a:Int},a<=0->↑(Int.natAbs a)= -a:=@Int.ofNat_natAbs_of_nonpos
theorem Xce:∀{a:Int},0<=a->↑(Int.natAbs a)=a:=@Int.natAbs_of_nonneg
theorem Xcf:∀{x y n:Nat},x<2^n->y<2^n->x ||| y<2^n:=@Nat.or_lt_two_pow
theorem Xcg:(!true)=false:=@Bool.not_true
theorem Xch:∀(a:Int),a<=a:=@Int.le_refl
theorem Xci:∀{a m n:Nat},1<a->m<n->a^m<a^n:=@Nat.pow_lt_pow_right
theorem Xcj:∀{α:Type} {b:α} (L:List α) {bs:List α},b∈bs->b∈L++bs:=@List.mem_append_right
theorem Xck:∀{α:Type} {a:α} {L:List α} (bs:List α),a∈L->a∈L++bs:=@List.mem_append_left
theorem Xcl:∀{a b:Nat},a<=b->min a b=a:=@Nat.min_eq_left
theorem Xcm:∀{α:Type} (i:Nat) (l:List α),List.take i l++List.drop i l=l:=@List.take_append_drop
theorem Xcn:∀{a b:Int},0<=a->Int.tdiv a b=a/b:=@Int.tdiv_eq_ediv_of_nonneg
theorem Xco:∀(b:Bool),(b&&true)=b:=@Bool.and_true
theorem Xcp:∀{a b:Int},0<=a->Int.tmod a b=a%b:=@Int.tmod_eq_emod_of_nonneg
theorem Xcq:∀{n m:Nat} (k:Nat),n<=m->n*k<=m*k:=@Nat.mul_le_mul_right
theorem Xcr:∀{n m k:Nat},n<=m->m<k->n<k:=@Nat.lt_of_le_of_lt
theorem Xcs:∀(a:Int) {b:Int},0<=b->Int.fdiv a b=a/b:=@Int.fdiv_eq_ediv_of_nonneg
end Go.Proofs.YtohmomanmikphaaGreatDoor
end
