import Derived.Test.YtohmomanmikphaaGreatDoorChecked
import Derived.KernelRfl
import Derived.Test.YtohmomanmikphaaGreatDoorPa05
set_option linter.unusedSimpArgs false
set_option linter.unusedVariables false
set_option maxRecDepth 100000
section
namespace Go.Proofs.YtohmomanmikphaaGreatDoor.Ty
open Go.Aw Go.Proofs
theorem Ck{P:Program}{t:TypeId}(h:(P.info? t).map (·.size)=some 1):∃i,P.info? t=some i/\i.size=1:=by
 cases hi:P.info? t with
 | none=>simp[hi]at h
 | some i=>exact⟨i,rfl,by simpa[hi]using h⟩
theorem mixed:Tryz.prog.follows .mixedOrders=true:=by kernel_rfl
theorem it3:G3 Tryz.prog 3=some .i64:=by kernel_rfl
theorem it5:G3 Tryz.prog 5=some .u8:=by kernel_rfl
theorem st9:eJ Tryz.prog 9=true:=by kernel_rfl
theorem awE:G3 Tryz.prog 181=some .u64:=by kernel_rfl
theorem aqV:Ds Tryz.prog 192=true:=by kernel_rfl
theorem bo4:Bi Tryz.prog 4=true:=by kernel_rfl
theorem avH:zT Tryz.prog 119=some [0,2]:=by kernel_rfl
theorem auX:zT Tryz.prog 232=some [0,0]:=by kernel_rfl
theorem azL:zT Tryz.prog 340=some [0,0,0]:=by kernel_rfl
theorem anN:aO Tryz.prog 25 0=some (0,none):=by kernel_rfl
theorem anF:aO Tryz.prog 25 1=some (1,none):=by kernel_rfl
theorem aoK:aO Tryz.prog 30 0=some (0,some 2):=by kernel_rfl
theorem anR:aO Tryz.prog 30 1=some (2,none):=by kernel_rfl
theorem apC:aO Tryz.prog 30 2=some (3,none):=by kernel_rfl
theorem apX:aO Tryz.prog 30 3=some (4,none):=by kernel_rfl
theorem apD:aO Tryz.prog 30 4=some (5,none):=by kernel_rfl
theorem amU:aO Tryz.prog 35 0=some (0,some 6):=by kernel_rfl
theorem amS:aO Tryz.prog 35 1=some (6,none):=by kernel_rfl
theorem aoL:aO Tryz.prog 35 2=some (7,none):=by kernel_rfl
theorem anB:aO Tryz.prog 35 3=some (8,none):=by kernel_rfl
theorem anG:aO Tryz.prog 41 0=some (0,none):=by kernel_rfl
theorem amR:aO Tryz.prog 41 1=some (1,none):=by kernel_rfl
theorem amV:aO Tryz.prog 41 2=some (2,none):=by kernel_rfl
theorem aqJ:aO Tryz.prog 41 3=some (3,none):=by kernel_rfl
theorem anJ:aO Tryz.prog 43 0=some (0,none):=by kernel_rfl
theorem amQ:aO Tryz.prog 43 1=some (1,none):=by kernel_rfl
theorem anM:aO Tryz.prog 43 2=some (2,none):=by kernel_rfl
theorem aqK:aO Tryz.prog 43 3=some (3,some 4):=by kernel_rfl
theorem aoS:aO Tryz.prog 69 0=some (0,some 7):=by kernel_rfl
theorem apP:aO Tryz.prog 69 1=some (7,none):=by kernel_rfl
theorem aoB:aO Tryz.prog 95 0=some (0,none):=by kernel_rfl
theorem apI:aO Tryz.prog 95 1=some (1,none):=by kernel_rfl
theorem apN:aO Tryz.prog 95 2=some (2,none):=by kernel_rfl
theorem aoP:aO Tryz.prog 95 3=some (3,none):=by kernel_rfl
theorem agY:aO Tryz.prog 104 0=some (0,none):=by kernel_rfl
theorem aeW:aO Tryz.prog 104 1=some (1,none):=by kernel_rfl
theorem alG:aO Tryz.prog 107 0=some (0,none):=by kernel_rfl
theorem ahM:aO Tryz.prog 107 1=some (1,none):=by kernel_rfl
theorem afS:aO Tryz.prog 107 2=some (2,none):=by kernel_rfl
theorem aiY:aO Tryz.prog 107 3=some (3,none):=by kernel_rfl
theorem aiW:aO Tryz.prog 107 4=some (4,none):=by kernel_rfl
theorem ahW:aO Tryz.prog 107 5=some (5,none):=by kernel_rfl
theorem ahD:aO Tryz.prog 109 0=some (0,none):=by kernel_rfl
theorem aiI:aO Tryz.prog 109 1=some (1,none):=by kernel_rfl
theorem agM:aO Tryz.prog 109 2=some (2,none):=by kernel_rfl
theorem akL:aO Tryz.prog 109 3=some (3,none):=by kernel_rfl
theorem aeO:aO Tryz.prog 111 0=some (0,none):=by kernel_rfl
theorem agD:aO Tryz.prog 111 1=some (1,none):=by kernel_rfl
theorem agG:aO Tryz.prog 111 2=some (2,some 4):=by kernel_rfl
theorem ahR:aO Tryz.prog 111 3=some (6,some 4):=by kernel_rfl
theorem ajX:aO Tryz.prog 111 4=some (10,none):=by kernel_rfl
theorem agN:aO Tryz.prog 111 5=some (11,none):=by kernel_rfl
theorem ajU:aO Tryz.prog 111 6=some (12,none):=by kernel_rfl
theorem ajT:aO Tryz.prog 111 7=some (13,none):=by kernel_rfl
theorem akN:aO Tryz.prog 111 8=some (14,none):=by kernel_rfl
theorem alL:aO Tryz.prog 111 9=some (15,none):=by kernel_rfl
theorem aeF:aO Tryz.prog 113 0=some (0,none):=by kernel_rfl
theorem ajA:aO Tryz.prog 113 1=some (1,none):=by kernel_rfl
theorem akS:aO Tryz.prog 113 2=some (2,none):=by kernel_rfl
theorem akH:aO Tryz.prog 113 3=some (3,none):=by kernel_rfl
theorem alN:aO Tryz.prog 113 4=some (4,none):=by kernel_rfl
theorem akG:aO Tryz.prog 113 5=some (5,none):=by kernel_rfl
theorem ahS:aO Tryz.prog 113 6=some (6,none):=by kernel_rfl
theorem akE:aO Tryz.prog 113 7=some (7,none):=by kernel_rfl
theorem ahG:aO Tryz.prog 113 8=some (8,none):=by kernel_rfl
theorem ahB:aO Tryz.prog 113 9=some (9,none):=by kernel_rfl
theorem Zu:aO Tryz.prog 113 10=some (10,none):=by kernel_rfl
theorem acH:aO Tryz.prog 113 11=some (11,none):=by kernel_rfl
theorem ZI:aO Tryz.prog 113 12=some (12,none):=by kernel_rfl
theorem X0:aO Tryz.prog 113 13=some (13,none):=by kernel_rfl
theorem afM:aO Tryz.prog 115 0=some (0,none):=by kernel_rfl
theorem agL:aO Tryz.prog 115 1=some (1,none):=by kernel_rfl
theorem afZ:aO Tryz.prog 119 0=some (0,none):=by kernel_rfl
theorem aiZ:aO Tryz.prog 119 1=some (1,none):=by kernel_rfl
theorem akP:aO Tryz.prog 139 0=some (0,none):=by kernel_rfl
theorem ajQ:aO Tryz.prog 139 1=some (1,none):=by kernel_rfl
theorem agE:aO Tryz.prog 170 0=some (0,some 6):=by kernel_rfl
theorem akB:aO Tryz.prog 170 1=some (6,none):=by kernel_rfl
theorem agS:aO Tryz.prog 170 2=some (7,none):=by kernel_rfl
theorem ahI:aO Tryz.prog 170 3=some (8,none):=by kernel_rfl
theorem alC:aO Tryz.prog 170 4=some (9,some 7):=by kernel_rfl
theorem ajH:aO Tryz.prog 170 5=some (16,none):=by kernel_rfl
theorem aiO:aO Tryz.prog 208 0=some (0,none):=by kernel_rfl
theorem agP:aO Tryz.prog 208 1=some (1,none):=by kernel_rfl
theorem aeM:aO Tryz.prog 232 0=some (0,none):=by kernel_rfl
theorem alD:aO Tryz.prog 232 1=some (1,none):=by kernel_rfl
theorem afA:aO Tryz.prog 260 0=some (0,none):=by kernel_rfl
theorem agT:aO Tryz.prog 260 1=some (1,none):=by kernel_rfl
theorem afN:aO Tryz.prog 260 2=some (2,none):=by kernel_rfl
theorem agA:aO Tryz.prog 260 3=some (3,none):=by kernel_rfl
theorem agK:aO Tryz.prog 260 4=some (4,none):=by kernel_rfl
theorem aiN:aO Tryz.prog 262 0=some (0,none):=by kernel_rfl
theorem adY:aO Tryz.prog 262 1=some (1,none):=by kernel_rfl
theorem aeB:aO Tryz.prog 262 2=some (2,none):=by kernel_rfl
theorem aiQ:aO Tryz.prog 262 3=some (3,none):=by kernel_rfl
theorem aeY:aO Tryz.prog 328 0=some (0,some 6):=by kernel_rfl
theorem agC:aO Tryz.prog 328 1=some (6,some 14):=by kernel_rfl
theorem afK:aO Tryz.prog 328 2=some (20,some 4):=by kernel_rfl
theorem ajL:aO Tryz.prog 328 3=some (24,none):=by kernel_rfl
theorem ajY:aO Tryz.prog 332 0=some (0,none):=by kernel_rfl
theorem akU:aO Tryz.prog 332 1=some (1,none):=by kernel_rfl
theorem aeD:aO Tryz.prog 332 2=some (2,some 5):=by kernel_rfl
theorem agV:aO Tryz.prog 380 1=some (1,none):=by kernel_rfl
theorem akK:aO Tryz.prog 380 2=some (2,none):=by kernel_rfl
theorem ajC:aO Tryz.prog 380 3=some (3,none):=by kernel_rfl
theorem afW:aO Tryz.prog 386 0=some (0,none):=by kernel_rfl
theorem ajD:aO Tryz.prog 386 1=some (1,none):=by kernel_rfl
theorem akV:aO Tryz.prog 386 2=some (2,none):=by kernel_rfl
theorem aiV:aO Tryz.prog 386 3=some (3,none):=by kernel_rfl
theorem el22:cF Tryz.prog 22=some (9,1,16):=by kernel_rfl
theorem sl22:cT Tryz.prog 22=true:=by kernel_rfl
theorem el23:cF Tryz.prog 23=some (107,6,80):=by kernel_rfl
theorem sl23:cT Tryz.prog 23=true:=by kernel_rfl
theorem el26:cF Tryz.prog 26=some (113,14,136):=by kernel_rfl
theorem sl26:cT Tryz.prog 26=true:=by kernel_rfl
theorem el27:cF Tryz.prog 27=some (111,16,152):=by kernel_rfl
theorem sl27:cT Tryz.prog 27=true:=by kernel_rfl
theorem el28:cF Tryz.prog 28=some (194,2,16):=by kernel_rfl
theorem sl28:cT Tryz.prog 28=true:=by kernel_rfl
theorem el31:cF Tryz.prog 31=some (115,3,24):=by kernel_rfl
theorem sl31:cT Tryz.prog 31=true:=by kernel_rfl
theorem el32:cF Tryz.prog 32=some (95,4,32):=by kernel_rfl
theorem sl32:cT Tryz.prog 32=true:=by kernel_rfl
theorem el33:cF Tryz.prog 33=some (44,1,16):=by kernel_rfl
theorem sl33:cT Tryz.prog 33=true:=by kernel_rfl
theorem anD:cF Tryz.prog 38=some (4,1,1):=by kernel_rfl
theorem sl38:cT Tryz.prog 38=true:=by kernel_rfl
theorem aoU:cF Tryz.prog 39=some (119,2,16):=by kernel_rfl
theorem sl39:cT Tryz.prog 39=true:=by kernel_rfl
theorem st44:eJ Tryz.prog 44=true:=by kernel_rfl
theorem aAN:cF Tryz.prog 49=some (43,7,88):=by kernel_rfl
theorem sl49:cT Tryz.prog 49=true:=by kernel_rfl
theorem el60:cF Tryz.prog 60=some (139,2,24):=by kernel_rfl
theorem sl60:cT Tryz.prog 60=true:=by kernel_rfl
theorem el65:cF Tryz.prog 65=some (69,8,104):=by kernel_rfl
theorem sl65:cT Tryz.prog 65=true:=by kernel_rfl
theorem el86:cF Tryz.prog 86=some (3,1,8):=by kernel_rfl
theorem sl86:cT Tryz.prog 86=true:=by kernel_rfl
theorem awQ:cF Tryz.prog 105=some (104,2,16):=by kernel_rfl
theorem awI:cT Tryz.prog 105=true:=by kernel_rfl
theorem avS:cF Tryz.prog 142=some (45,1,8):=by kernel_rfl
theorem aAm:cT Tryz.prog 142=true:=by kernel_rfl
theorem aA5:cF Tryz.prog 150=some (200,3,40):=by kernel_rfl
theorem aBC:cT Tryz.prog 150=true:=by kernel_rfl
theorem amG:cF Tryz.prog 173=some (232,2,16):=by kernel_rfl
theorem asW:cT Tryz.prog 173=true:=by kernel_rfl
theorem ayR:cF Tryz.prog 192=some (5,1,1):=by kernel_rfl
theorem azW:BW Tryz.prog 194=some (2,1,none):=by kernel_rfl
theorem aBp:cF Tryz.prog 204=some (208,2,24):=by kernel_rfl
theorem asY:cT Tryz.prog 204=true:=by kernel_rfl
theorem ayF:cF Tryz.prog 212=some (3,1,8):=by kernel_rfl
theorem aAE:cT Tryz.prog 212=true:=by kernel_rfl
theorem asA:BW Tryz.prog 247=some (2,1,none):=by kernel_rfl
theorem axW:cF Tryz.prog 252=some (86,1,24):=by kernel_rfl
theorem awL:cT Tryz.prog 252=true:=by kernel_rfl
theorem atK:cF Tryz.prog 258=some (380,4,32):=by kernel_rfl
theorem aBD:cT Tryz.prog 258=true:=by kernel_rfl
theorem aAK:cF Tryz.prog 276=some (247,2,32):=by kernel_rfl
theorem awJ:cT Tryz.prog 276=true:=by kernel_rfl
theorem aBu:cF Tryz.prog 289=some (234,1,8):=by kernel_rfl
theorem aAL:cT Tryz.prog 289=true:=by kernel_rfl
theorem arA:BW Tryz.prog 293=some (4,1,none):=by kernel_rfl
theorem aAh:cF Tryz.prog 326=some (109,4,32):=by kernel_rfl
theorem avD:cT Tryz.prog 326=true:=by kernel_rfl
theorem avV:cF Tryz.prog 334=some (332,7,72):=by kernel_rfl
theorem ayZ:cT Tryz.prog 334=true:=by kernel_rfl
theorem ld3:ldT Tryz.prog 3=some none:=by kernel_rfl
theorem ld4:ldT Tryz.prog 4=some none:=by kernel_rfl
theorem ld9:ldT Tryz.prog 9=some none:=by kernel_rfl
theorem ld22:ldT Tryz.prog 22=some none:=by kernel_rfl
theorem ld23:ldT Tryz.prog 23=some none:=by kernel_rfl
theorem ld25:ldT Tryz.prog 25=some (some 2):=by kernel_rfl
theorem ld26:ldT Tryz.prog 26=some none:=by kernel_rfl
theorem ld27:ldT Tryz.prog 27=some none:=by kernel_rfl
theorem ld28:ldT Tryz.prog 28=some none:=by kernel_rfl
theorem ld30:ldT Tryz.prog 30=some (some 6):=by kernel_rfl
theorem ld31:ldT Tryz.prog 31=some none:=by kernel_rfl
theorem ld32:ldT Tryz.prog 32=some none:=by kernel_rfl
theorem ld33:ldT Tryz.prog 33=some none:=by kernel_rfl
theorem ld35:ldT Tryz.prog 35=some (some 9):=by kernel_rfl
theorem ld38:ldT Tryz.prog 38=some none:=by kernel_rfl
theorem ld39:ldT Tryz.prog 39=some none:=by kernel_rfl
theorem ld41:ldT Tryz.prog 41=some (some 4):=by kernel_rfl
theorem ld43:ldT Tryz.prog 43=some (some 7):=by kernel_rfl
theorem ld44:ldT Tryz.prog 44=some none:=by kernel_rfl
theorem ld45:ldT Tryz.prog 45=some none:=by kernel_rfl
theorem ld69:ldT Tryz.prog 69=some (some 8):=by kernel_rfl
theorem ld86:ldT Tryz.prog 86=some none:=by kernel_rfl
theorem ld95:ldT Tryz.prog 95=some (some 4):=by kernel_rfl
theorem aBB:ldT Tryz.prog 104=some (some 2):=by kernel_rfl
theorem auM:ldT Tryz.prog 105=some none:=by kernel_rfl
theorem auR:ldT Tryz.prog 107=some (some 6):=by kernel_rfl
theorem aAd:ldT Tryz.prog 109=some (some 4):=by kernel_rfl
theorem aAO:ldT Tryz.prog 111=some (some 16):=by kernel_rfl
theorem azP:ldT Tryz.prog 113=some (some 14):=by kernel_rfl
theorem ayA:ldT Tryz.prog 115=some (some 3):=by kernel_rfl
theorem axN:ldT Tryz.prog 119=some (some 2):=by kernel_rfl
theorem atO:ldT Tryz.prog 194=some (some 2):=by kernel_rfl
theorem axV:ldT Tryz.prog 208=some (some 2):=by kernel_rfl
theorem ayW:ldT Tryz.prog 232=some (some 2):=by kernel_rfl
theorem ayL:ldT Tryz.prog 234=some none:=by kernel_rfl
theorem azU:ldT Tryz.prog 247=some (some 2):=by kernel_rfl
theorem ayG:ldT Tryz.prog 258=some none:=by kernel_rfl
theorem auO:ldT Tryz.prog 260=some (some 5):=by kernel_rfl
theorem asO:ldT Tryz.prog 262=some (some 4):=by kernel_rfl
theorem auH:ldT Tryz.prog 293=some (some 4):=by kernel_rfl
theorem aBF:ldT Tryz.prog 326=some none:=by kernel_rfl
theorem aqQ:ldT Tryz.prog 328=some (some 25):=by kernel_rfl
theorem auP:ldT Tryz.prog 332=some (some 7):=by kernel_rfl
theorem auL:ldT Tryz.prog 340=some (some 3):=by kernel_rfl
theorem avG:ldT Tryz.prog 380=some (some 4):=by kernel_rfl
theorem axA:ldT Tryz.prog 386=some (some 4):=by kernel_rfl
theorem Ii:QY Tryz.prog 244=some (3,3):=by kernel_rfl
theorem kk3:uK Tryz.prog 3=some 0:=by kernel_rfl
theorem zv3:Kd Tryz.prog 3=some (.v (.int .i64 0)):=by kernel_rfl
theorem pa25:eN Tryz.prog 25=some [(0,1),(1,1)]:=by kernel_rfl
theorem pa30:eN Tryz.prog 30=some [(0,2),(2,1),(3,1),(4,1),(5,1)]:=by kernel_rfl
theorem pa41:eN Tryz.prog 41=some [(0,1),(1,1),(2,1),(3,1)]:=by kernel_rfl
theorem pa43:eN Tryz.prog 43=some [(0,1),(1,1),(2,1),(3,4)]:=by kernel_rfl
theorem pa69:eN Tryz.prog 69=some [(0,7),(7,1)]:=by kernel_rfl
theorem avP:eN Tryz.prog 104=some [(0,1),(1,1)]:=by kernel_rfl
theorem arR:eN Tryz.prog 107=some [(0,1),(1,1),(2,1),(3,1),(4,1),(5,1)]:=by kernel_rfl
theorem aAC:eN Tryz.prog 109=some [(0,1),(1,1),(2,1),(3,1)]:=by kernel_rfl
theorem arG:eN Tryz.prog 111=some [(0,1),(1,1),(2,4),(6,4),(10,1),(11,1),(12,1),(13,1),(14,1),(15,1)]:=by kernel_rfl
theorem aqN:eN Tryz.prog 113=some [(0,1),(1,1),(2,1),(3,1),(4,1),(5,1),(6,1),(7,1),(8,1),(9,1),(10,1),(11,1),(12,1),(13,1)]:=by kernel_rfl
theorem aAJ:eN Tryz.prog 119=some [(0,1),(1,1)]:=by kernel_rfl
theorem arH:eN Tryz.prog 139=some [(0,1),(1,1)]:=by kernel_rfl
theorem aBa:eN Tryz.prog 170=some [(0,6),(6,1),(7,1),(8,1),(9,7),(16,1)]:=by kernel_rfl
theorem axM:eN Tryz.prog 200=some [(0,1),(1,1),(2,1)]:=by kernel_rfl
theorem arF:eN Tryz.prog 208=some [(0,1),(1,1)]:=by kernel_rfl
theorem aqT:eN Tryz.prog 232=some [(0,1),(1,1)]:=by kernel_rfl
theorem aBy:eN Tryz.prog 247=some [(0,1),(1,1)]:=by kernel_rfl
theorem axJ:eN Tryz.prog 260=some [(0,1),(1,1),(2,1),(3,1),(4,1)]:=by kernel_rfl
theorem asM:eN Tryz.prog 262=some [(0,1),(1,1),(2,1),(3,1)]:=by kernel_rfl
theorem axY:eN Tryz.prog 293=some [(0,1),(1,1),(2,1),(3,1)]:=by kernel_rfl
theorem aqP:eN Tryz.prog 328=some [(0,6),(6,14),(20,4),(24,1)]:=by kernel_rfl
theorem aBe:eN Tryz.prog 332=some [(0,1),(1,1),(2,5)]:=by kernel_rfl
theorem asL:eN Tryz.prog 340=some [(0,1),(1,1),(2,1)]:=by kernel_rfl
theorem awH:eN Tryz.prog 380=some [(0,1),(1,1),(2,1),(3,1)]:=by kernel_rfl
theorem ayJ:eN Tryz.prog 386=some [(0,1),(1,1),(2,1),(3,1)]:=by kernel_rfl
theorem so3:∃i,Tryz.prog.info? 3=some i/\i.size=1:=Ck (by kernel_rfl)
theorem so4:∃i,Tryz.prog.info? 4=some i/\i.size=1:=Ck (by kernel_rfl)
theorem U8:∃i,Tryz.prog.info? 258=some i/\i.size=1:=Ck (by kernel_rfl)
theorem amM:∃i,Tryz.prog.info? 326=some i/\i.size=1:=Ck (by kernel_rfl)
theorem ze3:dU Tryz.prog 3=some [.v (.int .i64 0)]:=by kernel_rfl
theorem ze4:dU Tryz.prog 4=some [.v (.bool false)]:=by kernel_rfl
theorem ze9:dU Tryz.prog 9=some [.v (.string ByteArray.empty)]:=by kernel_rfl
theorem ze25:dU Tryz.prog 25=some [.sl [],.sl []]:=by kernel_rfl
theorem ze30:dU Tryz.prog 30=some [.sl [],.sl [],.sl [],.sl [],.sl [],.sl []]:=by kernel_rfl
theorem ze41:dU Tryz.prog 41=some [.v (.int .i64 0),.v (.int .i64 0),.sl [],.sl []]:=by kernel_rfl
theorem aAH:dU Tryz.prog 43=some [.v (.int .i64 0),.v (.int .i64 0),.v (.int .i64 0),.v (.int .i64 0),.v (.int .i64 0),.sl [],.sl []]:=by kernel_rfl
theorem ze69:dU Tryz.prog 69=some [.v (.int .i64 0),.v (.int .i64 0),.v (.int .i64 0),.v (.int .i64 0),.v (.int .i64 0),.sl [],.sl [],.v (.string ByteArray.empty)]:=by kernel_rfl
theorem ze95:dU Tryz.prog 95=some [.v (.int .i64 0),.v (.int .i64 0),.v (.int .i64 0),.v (.int .i64 0)]:=by kernel_rfl
theorem auZ:dU Tryz.prog 104=some [.v (.int .i64 0),.v (.int .i64 0)]:=by kernel_rfl
theorem aAX:dU Tryz.prog 107=some [.v (.int .i64 0),.v (.int .i64 0),.v (.int .i64 0),.v (.int .i64 0),.sl [],.sl []]:=by kernel_rfl
theorem atI:dU Tryz.prog 109=some [.v (.int .i64 0),.v (.int .i64 0),.v (.int .i64 0),.v (.int .i64 0)]:=by kernel_rfl
theorem asI:dU Tryz.prog 111=some [.v (.string ByteArray.empty),.sl [],.v (.int .i64 0),.v (.int .i64 0),.v (.int .i64 0),.v (.int .i64 0),.v (.int .i64 0),.v (.int .i64 0),.v (.int .i64 0),.v (.int .i64 0),.v (.int .i64 0),.v (.int .i64 0),.v (.int .i64 0),.v (.int .i64 0),.v (.int .i64 0),.v (.bool false)]:=by kernel_rfl
theorem aA3:dU Tryz.prog 113=some [.v (.string ByteArray.empty),.v (.int .i64 0),.v (.int .i64 0),.v (.int .i64 0),.sl [],.v (.int .i64 0),.v (.int .i64 0),.v (.int .i64 0),.v (.int .i64 0),.v (.int .i64 0),.v (.int .i64 0),.v (.int .i64 0),.v (.int .i64 0),.v (.int .i64 0)]:=by kernel_rfl
theorem awG:dU Tryz.prog 115=some [.v (.int .i64 0),.v (.int .i64 0),.v (.int .i64 0)]:=by kernel_rfl
theorem aBb:dU Tryz.prog 119=some [.v (.int .i64 0),.v (.bool false)]:=by kernel_rfl
theorem awT:dU Tryz.prog 139=some [.v (.int .i64 0),.v (.string ByteArray.empty)]:=by kernel_rfl
theorem azR:dU Tryz.prog 170=some [.sl [],.sl [],.sl [],.sl [],.sl [],.sl [],.v (.int .i64 0),.v (.int .i64 0),.v (.int .i64 0),.v (.int .i64 0),.v (.int .i64 0),.v (.int .i64 0),.v (.int .i64 0),.v (.int .i64 0),.sl [],.sl [],.v (.bool false)]:=by kernel_rfl
theorem asB:dU Tryz.prog 194=some [.v (.int .i64 0),.v (.int .i64 0)]:=by kernel_rfl
theorem azN:dU Tryz.prog 200=some [.sl [],.v (.int .i64 0),.v (.int .i64 0)]:=by kernel_rfl
theorem aAb:dU Tryz.prog 208=some [.v (.bool false),.v (.string ByteArray.empty)]:=by kernel_rfl
theorem asQ:dU Tryz.prog 232=some [.v (.int .i64 0),.v (.int .i64 0)]:=by kernel_rfl
theorem aqY:dU Tryz.prog 247=some [.v (.string ByteArray.empty),.v (.string ByteArray.empty)]:=by kernel_rfl
theorem awM:tU Tryz.prog 260=some [(2,380,4)]:=by kernel_rfl
theorem aAZ:dU Tryz.prog 260=some [.v (.bool false),.v (.int .i64 0),.sl [],.v (.int .i64 0),.v (.int .i64 0)]:=by kernel_rfl
theorem axX:dU Tryz.prog 262=some [.v (.int .i64 0),.v (.int .i64 0),.v (.int .i64 0),.v (.int .i64 0)]:=by kernel_rfl
theorem ayH:dU Tryz.prog 293=some [.v (.int .i64 0),.v (.int .i64 0),.v (.int .i64 0),.v (.int .i64 0)]:=by kernel_rfl
theorem azF:tU Tryz.prog 328=some [(0,9,1),(1,107,6),(2,113,14),(3,111,16),(4,194,2),(5,194,2),(10,3,1),(22,4,1),(23,119,2),(24,109,4)]:=by kernel_rfl
theorem avK:dU Tryz.prog 328=some [.sl [],.sl [],.sl [],.sl [],.sl [],.sl [],.v (.string ByteArray.empty),.v (.int .i64 0),.v (.int .i64 0),.v (.int .i64 0),.sl [],.v (.int .i64 0),.v (.int .i64 0),.v (.int .i64 0),.v (.int .i64 0),.v (.int .i64 0),.v (.int .i64 0),.v (.int .i64 0),.v (.int .i64 0),.v (.int .i64 0),.v (.int .i64 0),.v (.int .i64 0),.sl [],.sl [],.sl []]:=by kernel_rfl
theorem atB:dU Tryz.prog 332=some [.v (.int .i64 0),.v (.int .i64 0),.v (.bool false),.v (.int .i64 0),.sl [],.v (.int .i64 0),.v (.int .i64 0)]:=by kernel_rfl
theorem atH:dU Tryz.prog 340=some [.v (.int .i64 0),.v (.int .i64 0),.v (.int .i64 0)]:=by kernel_rfl
theorem aBw:dU Tryz.prog 380=some [.v (.int .i64 0),.v (.int .i64 0),.v (.int .i64 0),.v (.bool false)]:=by kernel_rfl
theorem ayP:dU Tryz.prog 386=some [.v (.int .i64 0),.v (.int .i64 0),.v (.int .i64 0),.v (.int .i64 0)]:=by kernel_rfl
theorem co8:aG Tryz.prog 8=true:=by kernel_rfl
theorem co9:aG Tryz.prog 9=true:=by kernel_rfl
theorem co10:aG Tryz.prog 10=true:=by kernel_rfl
theorem co12:aG Tryz.prog 12=true:=by kernel_rfl
theorem co13:aG Tryz.prog 13=true:=by kernel_rfl
theorem co15:aG Tryz.prog 15=true:=by kernel_rfl
theorem co16:aG Tryz.prog 16=true:=by kernel_rfl
theorem co17:aG Tryz.prog 17=true:=by kernel_rfl
theorem co21:aG Tryz.prog 21=true:=by kernel_rfl
theorem co22:aG Tryz.prog 22=true:=by kernel_rfl
theorem co23:aG Tryz.prog 23=true:=by kernel_rfl
theorem co24:aG Tryz.prog 24=true:=by kernel_rfl
theorem co25:aG Tryz.prog 25=true:=by kernel_rfl
theorem co26:aG Tryz.prog 26=true:=by kernel_rfl
theorem co27:aG Tryz.prog 27=true:=by kernel_rfl
theorem co31:aG Tryz.prog 31=true:=by kernel_rfl
theorem co32:aG Tryz.prog 32=true:=by kernel_rfl
theorem co33:aG Tryz.prog 33=true:=by kernel_rfl
theorem co35:aG Tryz.prog 35=true:=by kernel_rfl
theorem co36:aG Tryz.prog 36=true:=by kernel_rfl
theorem co37:aG Tryz.prog 37=true:=by kernel_rfl
theorem co39:aG Tryz.prog 39=true:=by kernel_rfl
theorem co40:aG Tryz.prog 40=true:=by kernel_rfl
theorem co41:aG Tryz.prog 41=true:=by kernel_rfl
theorem co42:aG Tryz.prog 42=true:=by kernel_rfl
theorem co48:aG Tryz.prog 48=true:=by kernel_rfl
theorem co49:aG Tryz.prog 49=true:=by kernel_rfl
theorem co50:aG Tryz.prog 50=true:=by kernel_rfl
theorem co51:aG Tryz.prog 51=true:=by kernel_rfl
theorem co52:aG Tryz.prog 52=true:=by kernel_rfl
theorem co53:aG Tryz.prog 53=true:=by kernel_rfl
theorem co54:aG Tryz.prog 54=true:=by kernel_rfl
theorem co55:aG Tryz.prog 55=true:=by kernel_rfl
theorem co57:aG Tryz.prog 57=true:=by kernel_rfl
theorem co58:aG Tryz.prog 58=true:=by kernel_rfl
theorem co59:aG Tryz.prog 59=true:=by kernel_rfl
theorem co62:aG Tryz.prog 62=true:=by kernel_rfl
theorem co63:aG Tryz.prog 63=true:=by kernel_rfl
theorem co64:aG Tryz.prog 64=true:=by kernel_rfl
theorem co65:aG Tryz.prog 65=true:=by kernel_rfl
theorem co66:aG Tryz.prog 66=true:=by kernel_rfl
theorem co67:aG Tryz.prog 67=true:=by kernel_rfl
theorem co68:aG Tryz.prog 68=true:=by kernel_rfl
theorem co69:aG Tryz.prog 69=true:=by kernel_rfl
theorem co70:aG Tryz.prog 70=true:=by kernel_rfl
theorem co71:aG Tryz.prog 71=true:=by kernel_rfl
theorem co83:aG Tryz.prog 83=true:=by kernel_rfl
theorem co84:aG Tryz.prog 84=true:=by kernel_rfl
theorem co85:aG Tryz.prog 85=true:=by kernel_rfl
theorem co86:aG Tryz.prog 86=true:=by kernel_rfl
theorem co87:aG Tryz.prog 87=true:=by kernel_rfl
theorem co88:aG Tryz.prog 88=true:=by kernel_rfl
theorem co89:aG Tryz.prog 89=true:=by kernel_rfl
theorem co90:aG Tryz.prog 90=true:=by kernel_rfl
theorem co91:aG Tryz.prog 91=true:=by kernel_rfl
theorem co93:aG Tryz.prog 93=true:=by kernel_rfl
theorem co95:aG Tryz.prog 95=true:=by kernel_rfl
theorem co96:aG Tryz.prog 96=true:=by kernel_rfl
theorem co97:aG Tryz.prog 97=true:=by kernel_rfl
theorem co98:aG Tryz.prog 98=true:=by kernel_rfl
theorem co99:aG Tryz.prog 99=true:=by kernel_rfl
theorem axI:aG Tryz.prog 100=true:=by kernel_rfl
theorem axR:aG Tryz.prog 101=true:=by kernel_rfl
theorem atX:aG Tryz.prog 102=true:=by kernel_rfl
theorem aAM:aG Tryz.prog 105=true:=by kernel_rfl
theorem arV:aG Tryz.prog 107=true:=by kernel_rfl
theorem aBr:aG Tryz.prog 108=true:=by kernel_rfl
theorem auT:aG Tryz.prog 109=true:=by kernel_rfl
theorem aAu:aG Tryz.prog 110=true:=by kernel_rfl
theorem auV:aG Tryz.prog 111=true:=by kernel_rfl
theorem awF:aG Tryz.prog 112=true:=by kernel_rfl
theorem asT:aG Tryz.prog 113=true:=by kernel_rfl
theorem arS:aG Tryz.prog 114=true:=by kernel_rfl
theorem awA:aG Tryz.prog 115=true:=by kernel_rfl
theorem aqX:aG Tryz.prog 116=true:=by kernel_rfl
theorem auA:aG Tryz.prog 117=true:=by kernel_rfl
theorem aBH:aG Tryz.prog 118=true:=by kernel_rfl
theorem arE:aG Tryz.prog 119=true:=by kernel_rfl
theorem ayM:aG Tryz.prog 120=true:=by kernel_rfl
theorem aAT:aG Tryz.prog 121=true:=by kernel_rfl
theorem arJ:aG Tryz.prog 122=true:=by kernel_rfl
theorem awD:aG Tryz.prog 123=true:=by kernel_rfl
theorem auY:aG Tryz.prog 124=true:=by kernel_rfl
theorem aBx:aG Tryz.prog 142=true:=by kernel_rfl
theorem aAx:aG Tryz.prog 143=true:=by kernel_rfl
theorem aAq:aG Tryz.prog 144=true:=by kernel_rfl
theorem aA0:aG Tryz.prog 145=true:=by kernel_rfl
theorem arQ:aG Tryz.prog 146=true:=by kernel_rfl
theorem aqW:aG Tryz.prog 147=true:=by kernel_rfl
theorem aqR:aG Tryz.prog 148=true:=by kernel_rfl
theorem asJ:aG Tryz.prog 149=true:=by kernel_rfl
theorem auS:aG Tryz.prog 150=true:=by kernel_rfl
theorem aqZ:aG Tryz.prog 151=true:=by kernel_rfl
theorem aBE:aG Tryz.prog 156=true:=by kernel_rfl
theorem axQ:aG Tryz.prog 158=true:=by kernel_rfl
theorem avB:aG Tryz.prog 159=true:=by kernel_rfl
theorem atQ:aG Tryz.prog 160=true:=by kernel_rfl
theorem ayE:aG Tryz.prog 161=true:=by kernel_rfl
theorem aBI:aG Tryz.prog 162=true:=by kernel_rfl
theorem arN:aG Tryz.prog 163=true:=by kernel_rfl
theorem ayT:aG Tryz.prog 165=true:=by kernel_rfl
theorem arB:aG Tryz.prog 166=true:=by kernel_rfl
theorem aAr:aG Tryz.prog 167=true:=by kernel_rfl
theorem auJ:aG Tryz.prog 168=true:=by kernel_rfl
theorem axK:aG Tryz.prog 169=true:=by kernel_rfl
theorem aAW:aG Tryz.prog 170=true:=by kernel_rfl
theorem arU:aG Tryz.prog 171=true:=by kernel_rfl
theorem axE:aG Tryz.prog 179=true:=by kernel_rfl
theorem azE:aG Tryz.prog 180=true:=by kernel_rfl
theorem azM:aG Tryz.prog 181=true:=by kernel_rfl
theorem asX:aG Tryz.prog 183=true:=by kernel_rfl
theorem asK:aG Tryz.prog 184=true:=by kernel_rfl
theorem avL:aG Tryz.prog 185=true:=by kernel_rfl
theorem axH:aG Tryz.prog 186=true:=by kernel_rfl
theorem arX:aG Tryz.prog 187=true:=by kernel_rfl
theorem axC:aG Tryz.prog 188=true:=by kernel_rfl
theorem axB:aG Tryz.prog 190=true:=by kernel_rfl
theorem auD:aG Tryz.prog 191=true:=by kernel_rfl
theorem aA2:aG Tryz.prog 192=true:=by kernel_rfl
theorem atL:aG Tryz.prog 193=true:=by kernel_rfl
theorem aAi:aG Tryz.prog 194=true:=by kernel_rfl
theorem aBv:aG Tryz.prog 195=true:=by kernel_rfl
theorem aA1:aG Tryz.prog 196=true:=by kernel_rfl
theorem asV:aG Tryz.prog 197=true:=by kernel_rfl
theorem aBz:aG Tryz.prog 198=true:=by kernel_rfl
theorem azD:aG Tryz.prog 199=true:=by kernel_rfl
theorem auU:aG Tryz.prog 209=true:=by kernel_rfl
theorem azC:aG Tryz.prog 210=true:=by kernel_rfl
theorem ayO:aG Tryz.prog 211=true:=by kernel_rfl
theorem aBj:aG Tryz.prog 220=true:=by kernel_rfl
theorem awV:aG Tryz.prog 221=true:=by kernel_rfl
theorem awO:aG Tryz.prog 223=true:=by kernel_rfl
theorem azG:aG Tryz.prog 224=true:=by kernel_rfl
theorem atN:aG Tryz.prog 225=true:=by kernel_rfl
theorem auK:aG Tryz.prog 226=true:=by kernel_rfl
theorem ayD:aG Tryz.prog 227=true:=by kernel_rfl
theorem axL:aG Tryz.prog 228=true:=by kernel_rfl
theorem arO:aG Tryz.prog 229=true:=by kernel_rfl
theorem aAU:aG Tryz.prog 231=true:=by kernel_rfl
theorem aBt:aG Tryz.prog 233=true:=by kernel_rfl
theorem asS:aG Tryz.prog 234=true:=by kernel_rfl
theorem atU:aG Tryz.prog 235=true:=by kernel_rfl
theorem arM:aG Tryz.prog 236=true:=by kernel_rfl
theorem ayU:aG Tryz.prog 237=true:=by kernel_rfl
theorem arZ:aG Tryz.prog 240=true:=by kernel_rfl
theorem axU:aG Tryz.prog 241=true:=by kernel_rfl
theorem auF:aG Tryz.prog 242=true:=by kernel_rfl
theorem aBd:aG Tryz.prog 243=true:=by kernel_rfl
theorem axD:aG Tryz.prog 244=true:=by kernel_rfl
theorem auC:aG Tryz.prog 245=true:=by kernel_rfl
theorem aAn:aG Tryz.prog 246=true:=by kernel_rfl
theorem azO:aG Tryz.prog 247=true:=by kernel_rfl
theorem ayK:aG Tryz.prog 248=true:=by kernel_rfl
theorem awW:aG Tryz.prog 249=true:=by kernel_rfl
theorem azT:aG Tryz.prog 250=true:=by kernel_rfl
theorem azH:aG Tryz.prog 251=true:=by kernel_rfl
theorem aAj:aG Tryz.prog 252=true:=by kernel_rfl
theorem awU:aG Tryz.prog 253=true:=by kernel_rfl
theorem aAI:aG Tryz.prog 259=true:=by kernel_rfl
theorem aAQ:aG Tryz.prog 260=true:=by kernel_rfl
theorem auB:aG Tryz.prog 261=true:=by kernel_rfl
theorem avZ:aG Tryz.prog 265=true:=by kernel_rfl
theorem arL:aG Tryz.prog 267=true:=by kernel_rfl
theorem avO:aG Tryz.prog 272=true:=by kernel_rfl
theorem atD:aG Tryz.prog 273=true:=by kernel_rfl
theorem atT:aG Tryz.prog 274=true:=by kernel_rfl
theorem ayI:aG Tryz.prog 275=true:=by kernel_rfl
theorem axT:aG Tryz.prog 276=true:=by kernel_rfl
theorem aBk:aG Tryz.prog 277=true:=by kernel_rfl
theorem auE:aG Tryz.prog 278=true:=by kernel_rfl
theorem atA:aG Tryz.prog 279=true:=by kernel_rfl
theorem aqU:aG Tryz.prog 280=true:=by kernel_rfl
theorem azA:aG Tryz.prog 281=true:=by kernel_rfl
theorem aAs:aG Tryz.prog 282=true:=by kernel_rfl
theorem aBg:aG Tryz.prog 283=true:=by kernel_rfl
theorem azK:aG Tryz.prog 284=true:=by kernel_rfl
theorem aAc:aG Tryz.prog 285=true:=by kernel_rfl
theorem aAV:aG Tryz.prog 286=true:=by kernel_rfl
theorem ayB:aG Tryz.prog 287=true:=by kernel_rfl
theorem atJ:aG Tryz.prog 288=true:=by kernel_rfl
theorem arP:aG Tryz.prog 289=true:=by kernel_rfl
theorem awY:aG Tryz.prog 290=true:=by kernel_rfl
theorem avT:aG Tryz.prog 291=true:=by kernel_rfl
theorem avM:aG Tryz.prog 292=true:=by kernel_rfl
theorem azS:aG Tryz.prog 293=true:=by kernel_rfl
theorem aBm:aG Tryz.prog 295=true:=by kernel_rfl
theorem arC:aG Tryz.prog 296=true:=by kernel_rfl
theorem ayN:aG Tryz.prog 302=true:=by kernel_rfl
theorem asP:aG Tryz.prog 306=true:=by kernel_rfl
theorem asN:aG Tryz.prog 307=true:=by kernel_rfl
theorem ayV:aG Tryz.prog 308=true:=by kernel_rfl
theorem avE:aG Tryz.prog 309=true:=by kernel_rfl
theorem axZ:aG Tryz.prog 310=true:=by kernel_rfl
theorem avC:aG Tryz.prog 311=true:=by kernel_rfl
theorem aAY:aG Tryz.prog 312=true:=by kernel_rfl
theorem aAR:aG Tryz.prog 313=true:=by kernel_rfl
theorem aAG:aG Tryz.prog 314=true:=by kernel_rfl
theorem azJ:aG Tryz.prog 315=true:=by kernel_rfl
theorem aAt:aG Tryz.prog 316=true:=by kernel_rfl
theorem aA7:aG Tryz.prog 317=true:=by kernel_rfl
theorem aqO:aG Tryz.prog 318=true:=by kernel_rfl
theorem aBf:aG Tryz.prog 319=true:=by kernel_rfl
theorem axF:aG Tryz.prog 320=true:=by kernel_rfl
theorem aAv:aG Tryz.prog 321=true:=by kernel_rfl
theorem asR:aG Tryz.prog 322=true:=by kernel_rfl
theorem atP:aG Tryz.prog 323=true:=by kernel_rfl
theorem asF:aG Tryz.prog 324=true:=by kernel_rfl
theorem aAo:aG Tryz.prog 325=true:=by kernel_rfl
theorem axP:aG Tryz.prog 326=true:=by kernel_rfl
theorem aAf:aG Tryz.prog 327=true:=by kernel_rfl
theorem arK:aG Tryz.prog 328=true:=by kernel_rfl
theorem aBc:aG Tryz.prog 329=true:=by kernel_rfl
theorem aBq:aG Tryz.prog 330=true:=by kernel_rfl
theorem atE:aG Tryz.prog 331=true:=by kernel_rfl
theorem azX:aG Tryz.prog 332=true:=by kernel_rfl
theorem asH:aG Tryz.prog 333=true:=by kernel_rfl
theorem atW:aG Tryz.prog 334=true:=by kernel_rfl
theorem awN:aG Tryz.prog 335=true:=by kernel_rfl
theorem atR:aG Tryz.prog 336=true:=by kernel_rfl
theorem aBh:aG Tryz.prog 337=true:=by kernel_rfl
theorem arD:aG Tryz.prog 345=true:=by kernel_rfl
theorem azZ:aG Tryz.prog 346=true:=by kernel_rfl
theorem awP:aG Tryz.prog 348=true:=by kernel_rfl
theorem azQ:aG Tryz.prog 349=true:=by kernel_rfl
theorem aAe:aG Tryz.prog 350=true:=by kernel_rfl
theorem awB:aG Tryz.prog 351=true:=by kernel_rfl
theorem axO:aG Tryz.prog 352=true:=by kernel_rfl
theorem atY:aG Tryz.prog 353=true:=by kernel_rfl
theorem avN:aG Tryz.prog 354=true:=by kernel_rfl
theorem aBo:aG Tryz.prog 355=true:=by kernel_rfl
theorem avY:aG Tryz.prog 356=true:=by kernel_rfl
theorem aBG:aG Tryz.prog 357=true:=by kernel_rfl
theorem awX:aG Tryz.prog 358=true:=by kernel_rfl
theorem aAS:aG Tryz.prog 359=true:=by kernel_rfl
theorem aAp:aG Tryz.prog 360=true:=by kernel_rfl
theorem awR:aG Tryz.prog 361=true:=by kernel_rfl
theorem atF:aG Tryz.prog 362=true:=by kernel_rfl
theorem aA4:aG Tryz.prog 363=true:=by kernel_rfl
theorem awK:aG Tryz.prog 364=true:=by kernel_rfl
theorem avU:aG Tryz.prog 371=true:=by kernel_rfl
theorem arW:aG Tryz.prog 372=true:=by kernel_rfl
theorem azI:aG Tryz.prog 373=true:=by kernel_rfl
theorem arT:aG Tryz.prog 374=true:=by kernel_rfl
theorem avQ:aG Tryz.prog 375=true:=by kernel_rfl
theorem ayY:aG Tryz.prog 376=true:=by kernel_rfl
theorem azB:aG Tryz.prog 377=true:=by kernel_rfl
theorem awC:aG Tryz.prog 378=true:=by kernel_rfl
theorem asU:aG Tryz.prog 380=true:=by kernel_rfl
theorem aAA:aG Tryz.prog 381=true:=by kernel_rfl
theorem aBs:aG Tryz.prog 382=true:=by kernel_rfl
theorem asG:aG Tryz.prog 385=true:=by kernel_rfl
theorem ayC:aG Tryz.prog 386=true:=by kernel_rfl
theorem avR:aG Tryz.prog 387=true:=by kernel_rfl
theorem asD:aG Tryz.prog 388=true:=by kernel_rfl
theorem aAa:aG Tryz.prog 389=true:=by kernel_rfl
theorem awZ:aG Tryz.prog 390=true:=by kernel_rfl
attribute [go_sem] it3 it5 st9 awE aqV bo4 avH auX azL anN anF aoK anR apC apX apD amU amS aoL anB anG amR amV aqJ anJ amQ anM aqK aoS apP aoB apI apN aoP agY aeW alG ahM afS aiY aiW ahW ahD aiI agM akL aeO agD agG ahR ajX agN ajU ajT akN alL aeF ajA akS akH alN akG ahS akE ahG ahB Zu acH ZI X0 afM agL afZ aiZ akP ajQ agE akB agS ahI alC ajH aiO agP aeM alD afA agT afN agA agK aiN adY aeB aiQ aeY agC afK ajL ajY akU aeD agV akK ajC afW ajD akV aiV el22 sl22 el23 sl23 el26 sl26 el27 sl27 el28 sl28 el31 sl31 el32 sl32 el33 sl33 anD sl38 aoU sl39 st44 aAN sl49 el60 sl60 el65 sl65 el86 sl86 awQ awI avS aAm aA5 aBC amG asW ayR azW aBp asY ayF aAE asA axW awL atK aBD aAK awJ aBu aAL arA aAh avD avV ayZ ld3 ld4 ld9 ld22 ld23 ld25 ld26 ld27 ld28 ld30 ld31 ld32 ld33 ld35 ld38 ld39 ld41 ld43 ld44 ld45 ld69 ld86 ld95 aBB auM auR aAd aAO azP ayA axN atO axV ayW ayL azU ayG auO asO auH aBF aqQ auP auL avG axA Ii kk3 zv3 pa25 pa30 pa41 pa43 pa69 avP arR aAC arG aqN aAJ arH aBa axM arF aqT aBy axJ asM axY aqP aBe asL awH ayJ so3 so4 U8 amM ze3 ze4 ze9 ze25 ze30 ze41 aAH ze69 ze95 auZ aAX atI asI aA3 awG aBb awT azR asB azN aAb asQ aqY awM aAZ axX ayH azF avK atB atH aBw ayP co8 co9 co10 co12 co13 co15 co16 co17 co21 co22 co23 co24 co25 co26 co27 co31 co32 co33 co35 co36 co37 co39 co40 co41 co42 co48 co49 co50 co51 co52 co53 co54 co55 co57 co58 co59 co62 co63 co64 co65 co66 co67 co68 co69 co70 co71 co83 co84 co85 co86 co87 co88 co89 co90 co91 co93 co95 co96 co97 co98 co99 axI axR atX aAM arV aBr auT aAu auV awF asT arS awA aqX auA aBH arE ayM aAT arJ awD auY aBx aAx aAq aA0 arQ aqW aqR asJ auS aqZ aBE axQ avB atQ ayE aBI arN ayT arB aAr auJ axK aAW arU axE azE azM asX asK avL axH arX axC axB auD aA2 atL aAi aBv aA1 asV aBz azD auU azC ayO aBj awV awO azG atN auK ayD axL arO aAU aBt asS atU arM ayU arZ axU auF aBd axD auC aAn azO ayK awW azT azH aAj awU aAI aAQ auB avZ arL avO atD atT ayI axT aBk auE atA aqU azA aAs aBg azK aAc aAV ayB atJ arP awY avT avM azS aBm arC ayN asP asN ayV avE axZ avC aAY aAR aAG azJ aAt aA7 aqO aBf axF aAv asR atP asF aAo axP aAf arK aBc aBq atE azX asH atW awN atR aBh arD azZ awP azQ aAe awB axO atY avN aBo avY aBG awX aAS aAp awR atF aA4 awK avU arW azI arT avQ ayY azB awC asU aAA aBs asG ayC avR asD aAa awZ
end Go.Proofs.YtohmomanmikphaaGreatDoor.Ty
end
section
namespace Go.Aw.D
open Go.Aw
def bW(n:Int):List AV:=[.v (.int .i64 n)]
def cR(b:Bool):List AV:=[.v (.bool b)]
def gR(s:ByteArray):List AV:=[.v (.string s)]
theorem GP(x:Int):(bW x).length=1:=rfl
theorem aaZ(x:Int):(bW x).getD 0 .any=.v (.int .i64 x):=rfl
theorem Og(x:Bool):(cR x).length=1:=rfl
theorem W7(x:Bool):(cR x).getD 0 .any=.v (.bool x):=rfl
theorem RJ(x:ByteArray):(gR x).length=1:=rfl
theorem Z0(x:ByteArray):(gR x).getD 0 .any=.v (.string x):=rfl
structure Point where
 t:Int
 a:Int
 deriving DecidableEq
def bY(x:Point):List AV:=[.v (.int .i64 x.t),.v (.int .i64 x.a)]
theorem eQ(x:Point):(bY x).length=2:=rfl
theorem SB(x:Point):(bY x).getD 0 .any=.v (.int .i64 x.t):=rfl
theorem QJ(x:Point):(bY x).getD 1 .any=.v (.int .i64 x.a):=rfl
theorem Dd(x:Point):(bY x).take 2=bY x:=rfl
structure Arc where
 src:Int
 dst:Int
 profile:Int
 miles:Int
 travel:List Point
 slow:List Point
 deriving DecidableEq
def fK(x:Arc):List AV:=[.v (.int .i64 x.src),.v (.int .i64 x.dst),.v (.int .i64 x.profile),.v (.int .i64 x.miles),.sl (x.travel.map bY),.sl (x.slow.map bY)]
theorem eF(x:Arc):(fK x).length=6:=rfl
theorem Y3(x:Arc):(fK x).getD 0 .any=.v (.int .i64 x.src):=rfl
theorem Y9(x:Arc):(fK x).getD 1 .any=.v (.int .i64 x.dst):=rfl
theorem adQ(x:Arc):(fK x).getD 2 .any=.v (.int .i64 x.profile):=rfl
theorem acK(x:Arc):(fK x).getD 3 .any=.v (.int .i64 x.miles):=rfl
theorem ZC(x:Arc):(fK x).getD 4 .any=.sl (x.travel.map bY):=rfl
theorem Zi(x:Arc):(fK x).getD 5 .any=.sl (x.slow.map bY):=rfl
theorem Qt(x:Arc):(fK x).take 6=fK x:=rfl
structure Network where
 places:List ByteArray
 arcs:List Arc
 deriving DecidableEq
def aY(x:Network):List AV:=[.sl (x.places.map gR),.sl (x.arcs.map fK)]
theorem FG(x:Network):(aY x).length=2:=rfl
theorem L8(x:Network):(aY x).getD 0 .any=.sl (x.places.map gR):=rfl
theorem Lk(x:Network):(aY x).getD 1 .any=.sl (x.arcs.map fK):=rfl
theorem Ib(x:Network):(aY x).take 2=aY x:=rfl
structure VType where
 name:ByteArray
 count:Int
 src:Int
 dst:Int
 cap:List Int
 skills:Int
 profile:Int
 start:Int
 close:Int
 drive:Int
 rest:Int
 fixed:Int
 perMile:Int
 perTick:Int
 deriving DecidableEq
def bC(x:VType):List AV:=[.v (.string x.name),.v (.int .i64 x.count),.v (.int .i64 x.src),.v (.int .i64 x.dst),.sl (x.cap.map bW),.v (.int .i64 x.skills),.v (.int .i64 x.profile),.v (.int .i64 x.start),.v (.int .i64 x.close),.v (.int .i64 x.drive),.v (.int .i64 x.rest),.v (.int .i64 x.fixed),.v (.int .i64 x.perMile),.v (.int .i64 x.perTick)]
theorem jZ(x:VType):(bC x).length=14:=rfl
theorem RI(x:VType):(bC x).getD 0 .any=.v (.string x.name):=rfl
theorem Sn(x:VType):(bC x).getD 1 .any=.v (.int .i64 x.count):=rfl
theorem SU(x:VType):(bC x).getD 2 .any=.v (.int .i64 x.src):=rfl
theorem Q6(x:VType):(bC x).getD 3 .any=.v (.int .i64 x.dst):=rfl
theorem Tk(x:VType):(bC x).getD 4 .any=.sl (x.cap.map bW):=rfl
theorem SJ(x:VType):(bC x).getD 5 .any=.v (.int .i64 x.skills):=rfl
theorem RM(x:VType):(bC x).getD 6 .any=.v (.int .i64 x.profile):=rfl
theorem QQ(x:VType):(bC x).getD 7 .any=.v (.int .i64 x.start):=rfl
theorem TL(x:VType):(bC x).getD 8 .any=.v (.int .i64 x.close):=rfl
theorem SQ(x:VType):(bC x).getD 9 .any=.v (.int .i64 x.drive):=rfl
theorem Nt(x:VType):(bC x).getD 10 .any=.v (.int .i64 x.rest):=rfl
theorem P3(x:VType):(bC x).getD 11 .any=.v (.int .i64 x.fixed):=rfl
theorem Pd(x:VType):(bC x).getD 12 .any=.v (.int .i64 x.perMile):=rfl
theorem NF(x:VType):(bC x).getD 13 .any=.v (.int .i64 x.perTick):=rfl
theorem LU(x:VType):(bC x).take 14=bC x:=rfl
structure Stop where
 place:Int
 start:Int
 close:Int
 service:Int
 deriving DecidableEq
def dV(x:Stop):List AV:=[.v (.int .i64 x.place),.v (.int .i64 x.start),.v (.int .i64 x.close),.v (.int .i64 x.service)]
theorem gO(x:Stop):(dV x).length=4:=rfl
theorem XE(x:Stop):(dV x).getD 0 .any=.v (.int .i64 x.place):=rfl
theorem XI(x:Stop):(dV x).getD 1 .any=.v (.int .i64 x.start):=rfl
theorem Xl(x:Stop):(dV x).getD 2 .any=.v (.int .i64 x.close):=rfl
theorem Wu(x:Stop):(dV x).getD 3 .any=.v (.int .i64 x.service):=rfl
theorem NP(x:Stop):(dV x).take 4=dV x:=rfl
structure Order where
 name:ByteArray
 load:List Int
 pick:Stop
 drop:Stop
 skills:Int
 penalty:Int
 split:Int
 last:Int
 now:Int
 off:Bool
 deriving DecidableEq
def bI(x:Order):List AV:=[.v (.string x.name),.sl (x.load.map bW),.v (.int .i64 x.pick.place),.v (.int .i64 x.pick.start),.v (.int .i64 x.pick.close),.v (.int .i64 x.pick.service),.v (.int .i64 x.drop.place),.v (.int .i64 x.drop.start),.v (.int .i64 x.drop.close),.v (.int .i64 x.drop.service),.v (.int .i64 x.skills),.v (.int .i64 x.penalty),.v (.int .i64 x.split),.v (.int .i64 x.last),.v (.int .i64 x.now),.v (.bool x.off)]
theorem sM(x:Order):(bI x).length=16:=rfl
theorem Tv(x:Order):(bI x).getD 0 .any=.v (.string x.name):=rfl
theorem Sa(x:Order):(bI x).getD 1 .any=.sl (x.load.map bW):=rfl
theorem Qr(x:Order):(bI x).getD 2 .any=.v (.int .i64 x.pick.place):=rfl
theorem Rv(x:Order):(bI x).getD 3 .any=.v (.int .i64 x.pick.start):=rfl
theorem QD(x:Order):(bI x).getD 4 .any=.v (.int .i64 x.pick.close):=rfl
theorem TI(x:Order):(bI x).getD 5 .any=.v (.int .i64 x.pick.service):=rfl
theorem RG(x:Order):(bI x).getD 6 .any=.v (.int .i64 x.drop.place):=rfl
theorem Te(x:Order):(bI x).getD 7 .any=.v (.int .i64 x.drop.start):=rfl
theorem Tw(x:Order):(bI x).getD 8 .any=.v (.int .i64 x.drop.close):=rfl
theorem QZ(x:Order):(bI x).getD 9 .any=.v (.int .i64 x.drop.service):=rfl
theorem M0(x:Order):(bI x).getD 10 .any=.v (.int .i64 x.skills):=rfl
theorem O7(x:Order):(bI x).getD 11 .any=.v (.int .i64 x.penalty):=rfl
theorem Nz(x:Order):(bI x).getD 12 .any=.v (.int .i64 x.split):=rfl
theorem Oi(x:Order):(bI x).getD 13 .any=.v (.int .i64 x.last):=rfl
theorem Nb(x:Order):(bI x).getD 14 .any=.v (.int .i64 x.now):=rfl
theorem Nh(x:Order):(bI x).getD 15 .any=.v (.bool x.off):=rfl
theorem Lf(x:Order):(bI x).take 16=bI x:=rfl
theorem IW(x:Order):((bI x).drop 2).take 4=dV x.pick:=rfl
theorem Iq(x:Order):((bI x).drop 6).take 4=dV x.drop:=rfl
structure Pair where
 a:Int
 b:Int
 deriving DecidableEq
def cU(x:Pair):List AV:=[.v (.int .i64 x.a),.v (.int .i64 x.b)]
theorem mO(x:Pair):(cU x).length=2:=rfl
theorem V5(x:Pair):(cU x).getD 0 .any=.v (.int .i64 x.a):=rfl
theorem WG(x:Pair):(cU x).getD 1 .any=.v (.int .i64 x.b):=rfl
theorem Ol(x:Pair):(cU x).take 2=cU x:=rfl
structure Instance where
 net:Network
 types:List VType
 orders:List Order
 apart:List Pair
 before:List Pair
 deriving DecidableEq
def aD(x:Instance):List AV:=[.sl (x.net.places.map gR),.sl (x.net.arcs.map fK),.sl (x.types.map bC),.sl (x.orders.map bI),.sl (x.apart.map cU),.sl (x.before.map cU)]
theorem Fb(x:Instance):(aD x).length=6:=rfl
theorem Iz(x:Instance):(aD x).getD 0 .any=.sl (x.net.places.map gR):=rfl
theorem I1(x:Instance):(aD x).getD 1 .any=.sl (x.net.arcs.map fK):=rfl
theorem I2(x:Instance):(aD x).getD 2 .any=.sl (x.types.map bC):=rfl
theorem IM(x:Instance):(aD x).getD 3 .any=.sl (x.orders.map bI):=rfl
theorem It(x:Instance):(aD x).getD 4 .any=.sl (x.apart.map cU):=rfl
theorem IU(x:Instance):(aD x).getD 5 .any=.sl (x.before.map cU):=rfl
theorem E6(x:Instance):(aD x).take 6=aD x:=rfl
theorem Fg(x:Instance):(aD x).take 2=aY x.net:=rfl
structure Visit where
 order:Int
 drop:Bool
 deriving DecidableEq
def aJ(x:Visit):List AV:=[.v (.int .i64 x.order),.v (.bool x.drop)]
theorem cX(x:Visit):(aJ x).length=2:=rfl
theorem Qx(x:Visit):(aJ x).getD 0 .any=.v (.int .i64 x.order):=rfl
theorem SE(x:Visit):(aJ x).getD 1 .any=.v (.bool x.drop):=rfl
theorem LF(x:Visit):(aJ x).take 2=aJ x:=rfl
structure Route where
 type:Int
 start:Int
 rests:List Bool
 visits:List Visit
 deriving DecidableEq
def bT(x:Route):List AV:=[.v (.int .i64 x.type),.v (.int .i64 x.start),.sl (x.rests.map cR),.sl (x.visits.map aJ)]
theorem sA(x:Route):(bT x).length=4:=rfl
theorem T0(x:Route):(bT x).getD 0 .any=.v (.int .i64 x.type):=rfl
theorem Sy(x:Route):(bT x).getD 1 .any=.v (.int .i64 x.start):=rfl
theorem Tl(x:Route):(bT x).getD 2 .any=.sl (x.rests.map cR):=rfl
theorem Th(x:Route):(bT x).getD 3 .any=.sl (x.visits.map aJ):=rfl
theorem LR(x:Route):(bT x).take 4=bT x:=rfl
structure Plan where
 routes:List Route
 unserved:List Int
 deriving DecidableEq
structure Fault where
 err:Int
 at_:ByteArray
 deriving DecidableEq
def gV(x:Fault):List AV:=[.v (.int .i64 x.err),.v (.string x.at_)]
theorem MR(x:Fault):(gV x).length=2:=rfl
theorem SF(x:Fault):(gV x).getD 0 .any=.v (.int .i64 x.err):=rfl
theorem Q2(x:Fault):(gV x).getD 1 .any=.v (.string x.at_):=rfl
theorem L7(x:Fault):(gV x).take 2=gV x:=rfl
structure Decision where
 kind:Int
 a:Int
 b:Int
 n:Int
 deriving DecidableEq
def bE(x:Decision):List AV:=[.v (.int .i64 x.kind),.v (.int .i64 x.a),.v (.int .i64 x.b),.v (.int .i64 x.n)]
theorem nY(x:Decision):(bE x).length=4:=rfl
theorem Ir(x:Decision):(bE x).getD 0 .any=.v (.int .i64 x.kind):=rfl
theorem IQ(x:Decision):(bE x).getD 1 .any=.v (.int .i64 x.a):=rfl
theorem IC(x:Decision):(bE x).getD 2 .any=.v (.int .i64 x.b):=rfl
theorem ID(x:Decision):(bE x).getD 3 .any=.v (.int .i64 x.n):=rfl
theorem E8(x:Decision):(bE x).take 4=bE x:=rfl
structure Column where
 type:Int
 set:Int
 price:Int
 route:Route
 deriving DecidableEq
def aU(x:Column):List AV:=[.v (.int .i64 x.type),.v (.int .i64 x.set),.v (.int .i64 x.price),.v (.int .i64 x.route.type),.v (.int .i64 x.route.start),.sl (x.route.rests.map cR),.sl (x.route.visits.map aJ)]
theorem cA(x:Column):(aU x).length=7:=rfl
theorem PW(x:Column):(aU x).getD 0 .any=.v (.int .i64 x.type):=rfl
theorem OI(x:Column):(aU x).getD 1 .any=.v (.int .i64 x.set):=rfl
theorem Pt(x:Column):(aU x).getD 2 .any=.v (.int .i64 x.price):=rfl
theorem Oo(x:Column):(aU x).getD 3 .any=.v (.int .i64 x.route.type):=rfl
theorem Pp(x:Column):(aU x).getD 4 .any=.v (.int .i64 x.route.start):=rfl
theorem NI(x:Column):(aU x).getD 5 .any=.sl (x.route.rests.map cR):=rfl
theorem NG(x:Column):(aU x).getD 6 .any=.sl (x.route.visits.map aJ):=rfl
theorem IE(x:Column):(aU x).take 7=aU x:=rfl
theorem E3(x:Column):((aU x).drop 3).take 4=bT x.route:=rfl
structure Score where
 cost:Int
 moved:Int
 other:Int
 work:Int
 deriving DecidableEq
def cD(x:Score):List AV:=[.v (.int .i64 x.cost),.v (.int .i64 x.moved),.v (.int .i64 x.other),.v (.int .i64 x.work)]
theorem jX(x:Score):(cD x).length=4:=rfl
theorem yC(x:Score):(cD x).getD 0 .any=.v (.int .i64 x.cost):=rfl
theorem xL(x:Score):(cD x).getD 1 .any=.v (.int .i64 x.moved):=rfl
theorem zF(x:Score):(cD x).getD 2 .any=.v (.int .i64 x.other):=rfl
theorem yE(x:Score):(cD x).getD 3 .any=.v (.int .i64 x.work):=rfl
theorem sF(x:Score):(cD x).take 4=cD x:=rfl
structure Cut where
 kind:Int
 set:Int
 n:Int
 deriving DecidableEq
def jM(x:Cut):List AV:=[.v (.int .i64 x.kind),.v (.int .i64 x.set),.v (.int .i64 x.n)]
theorem Ia(x:Cut):(jM x).length=3:=rfl
theorem abM(x:Cut):(jM x).getD 0 .any=.v (.int .i64 x.kind):=rfl
theorem abR(x:Cut):(jM x).getD 1 .any=.v (.int .i64 x.set):=rfl
theorem abK(x:Cut):(jM x).getD 2 .any=.v (.int .i64 x.n):=rfl
theorem SZ(x:Cut):(jM x).take 3=jM x:=rfl
structure TimeT where
 arrive:Int
 start:Int
 depart:Int
 rest:Bool
 deriving DecidableEq
def O5(x:TimeT):List AV:=[.v (.int .i64 x.arrive),.v (.int .i64 x.start),.v (.int .i64 x.depart),.v (.bool x.rest)]
structure Weight where
 yes:Int
 no:Int
 noneYes:Bool
 noneNo:Bool
 deriving DecidableEq
structure StepT where
 inst:Instance
 plan:Plan
 now:Int
 deriving DecidableEq
structure PRow where
 coef:List Int
 kind:Int
 right:Int
 deriving DecidableEq
structure PLin where
 cost:List Int
 rows:List PRow
 deriving DecidableEq
structure Ask where
 x:Instance
 l:List Column
 cuts:List Cut
 d:List Decision
 deriving DecidableEq
structure TNode where
 leaf:Bool
 kind:Int
 cuts:List Cut
 dual:List ByteArray
 choice:Decision
 yes:Int
 no:Int
 deriving DecidableEq
structure Proof where
 noPlan:Bool
 plan:Plan
 nodes:List TNode
 deriving DecidableEq
structure Ask3 where
 x:Instance
 cuts:List Cut
 d:List Decision
 dual:List ByteArray
 deriving DecidableEq
def jF(x:Ask3):List AV:=[.sl (x.x.net.places.map gR),.sl (x.x.net.arcs.map fK),.sl (x.x.types.map bC),.sl (x.x.orders.map bI),.sl (x.x.apart.map cU),.sl (x.x.before.map cU),.sl (x.cuts.map jM),.sl (x.d.map bE),.sl (x.dual.map gR)]
theorem P0(x:Ask3):(jF x).length=9:=rfl
theorem Xy(x:Ask3):(jF x).getD 0 .any=.sl (x.x.net.places.map gR):=rfl
theorem Wq(x:Ask3):(jF x).getD 1 .any=.sl (x.x.net.arcs.map fK):=rfl
theorem Wo(x:Ask3):(jF x).getD 2 .any=.sl (x.x.types.map bC):=rfl
theorem WN(x:Ask3):(jF x).getD 3 .any=.sl (x.x.orders.map bI):=rfl
theorem VZ(x:Ask3):(jF x).getD 4 .any=.sl (x.x.apart.map cU):=rfl
theorem WB(x:Ask3):(jF x).getD 5 .any=.sl (x.x.before.map cU):=rfl
theorem VR(x:Ask3):(jF x).getD 6 .any=.sl (x.cuts.map jM):=rfl
theorem VQ(x:Ask3):(jF x).getD 7 .any=.sl (x.d.map bE):=rfl
theorem Wd(x:Ask3):(jF x).getD 8 .any=.sl (x.dual.map gR):=rfl
theorem Nf(x:Ask3):(jF x).take 9=jF x:=rfl
theorem Wm(x:Ask3):(jF x).take 6=aD x.x:=rfl
structure Sheet where
 rest:Bool
 depart:Int
 times:List TimeT
 stop:Int
 miles:Int
 deriving DecidableEq
def bP(x:Sheet):List AV:=[.v (.bool x.rest),.v (.int .i64 x.depart),.sl (x.times.map O5),.v (.int .i64 x.stop),.v (.int .i64 x.miles)]
theorem hY(x:Sheet):(bP x).length=5:=rfl
theorem Tg(x:Sheet):(bP x).getD 0 .any=.v (.bool x.rest):=rfl
theorem Ss(x:Sheet):(bP x).getD 1 .any=.v (.int .i64 x.depart):=rfl
theorem QS(x:Sheet):(bP x).getD 2 .any=.sl (x.times.map O5):=rfl
theorem BR(x:Sheet):(bP x).getD 3 .any=.v (.int .i64 x.stop):=rfl
theorem B9(x:Sheet):(bP x).getD 4 .any=.v (.int .i64 x.miles):=rfl
theorem yW(x:Sheet):(bP x).take 5=bP x:=rfl
attribute [go_sem] GP aaZ Og W7 RJ Z0 eQ SB QJ Dd eF Y3 Y9 adQ acK ZC Zi Qt FG L8 Lk Ib jZ RI Sn SU Q6 Tk SJ RM QQ TL SQ Nt P3 Pd NF LU gO XE XI Xl Wu NP sM Tv Sa Qr Rv QD TI RG Te Tw QZ M0 O7 Nz Oi Nb Nh Lf IW Iq mO V5 WG Ol Fb Iz I1 I2 IM It IU E6 Fg cX Qx SE LF sA T0 Sy Tl Th LR MR SF Q2 L7 nY Ir IQ IC ID E8 cA PW OI Pt Oo Pp NI NG IE E3 jX yC xL zF yE sF Ia abM abR abK SZ P0 Xy Wq Wo WN VZ WB VR VQ Wd Nf Wm hY Tg Ss QS BR B9 yW
theorem aC{α:Type}{f:α->List AV}{l:List α}{k:Nat}{x:α}(h:l[k]?=some x):(l.map f).getD k []=f x:=by simp[List.getD,h]
theorem afI{α:Type}(f:α->List AV)(l:List α):(l.map f).length=l.length:=List.length_map f
theorem I4(n:Nat):((n:Int)).toNat=n:=Int.toNat_natCast n
attribute [go_sem] afI I4
theorem bH{n:Int}(h: -9223372036854775808<=n/\n<=9223372036854775807):IntKind.i64.wrap n=n:=IntWalk.i64_in n h
end Go.Aw.D
end
section
namespace Go.Proofs.YtohmomanmikphaaGreatDoor
open Go.Aw Go.Aw.D Go.Proofs Ty
abbrev int(n:Int):AV:=.v (.int .i64 n)
abbrev str(s:ByteArray):AV:=.v (.string s)
abbrev boo(b:Bool):AV:=.v (.bool b)
theorem bQ{α:Type}{l:List α}{k:Nat}{x:α}(h:l[k]?=some x):l.take (k+1)=l.take k++[x]:=by
 rw[List.take_add_one,h];rfl
theorem aN{α:Type}{l:List α}{k:Nat}(h:k<l.length):∃x,l[k]?=some x:=⟨l[k],List.getElem?_eq_getElem h⟩
theorem inB{k n:Nat}(h:k<n):0<=(k:Int)/\(k:Int)<(n:Int):=by omega
theorem aT{k:Nat}(h:k<=4611686018427387904):IntKind.i64.wrap ((k:Int)+1)=((k+1:Nat):Int):=by rw[bH (by omega)];omega
theorem adR{k:Nat}(h:k<=4611686018427387904):(IntKind.i64.wrap ((k:Int)-1)).toNat=k-1:=by rw[bH (by omega)];omega
theorem oX{k:Nat}(h:k<=4611686018427387904):IntKind.i64.wrap ((k:Int)-1)=(k:Int)-1:=bH (by omega)
def EF(e:TypeId×Nat×Nat)(d:Option Tmp)(j:Nat)(x:AV)(ρ:Env)(H:aK)(K:Env->aK->Prop):Prop:=match H j with
 | some r => zW H x fun news => (r.e = e.1 /\ r.sz = e.2.1 /\ cZ e.2.1 news /\ (r.es.length + news.length) * e.2.2 <= 140737488355328) /\
       ∀k',H k'=none->K (upd ρ d (.os k')) (aI (aI H j none) k' (some ⟨e.1,e.2.1,r.es++news⟩))
 | none=>False
theorem abZ{P:Program}{d:Option Tmp}{t:TypeId}{j:Nat}{x:AV}{ρ:Env}{H:aK}{K:Env->aK->Prop}:Lu P d t (.os j) x ρ H K=bU (cF P t) (fun e=>EF e d j x ρ H K):=by
 unfold Lu uP EF;cases cF P t with
 | none=>rfl
 | some e=>obtain⟨a,b,c⟩:=e;rfl
@[congr] theorem wappE_c {e d j x x' ρ H K} (h':x=x'):EF e d j x ρ H K=EF e d j x' ρ H K:=h'▸rfl
@[congr] theorem FCalls_c {P f a a' H R} (h':a=a'):bF P f a H R=bF P f a' H R:=h'▸rfl
theorem aZ{e:TypeId×Nat×Nat}{d:Option Tmp}{j:Nat}{news:List (List AV)}{ρ:Env}{H:aK}{K:Env->aK->Prop}{r:Row}(J:H j=some r)
   (h1:r.e=e.1/\r.sz=e.2.1) (F:cZ e.2.1 news) (I:(r.es.length+news.length)*e.2.2<=140737488355328)
   (h:∀E,H E=none->K (upd ρ d (.os E)) (aI (aI H j none) E (some ⟨e.1,e.2.1,r.es++news⟩))):EF e d j (.sl news) ρ H K:=by
 unfold EF;simp only[J];exact⟨⟨h1.1,h1.2,F,I⟩,h⟩
theorem Cq{e:TypeId×Nat×Nat}{d:Option Tmp}{j i:Nat}{r':Row}{ρ:Env}{H:aK}{K:Env->aK->Prop}{r:Row}(J:H j=some r)(hi:H i=some r')
   (h1:r.e=e.1/\r.sz=e.2.1) (F:cZ e.2.1 r'.es) (I:(r.es.length+r'.es.length)*e.2.2<=140737488355328)
   (h:∀E,H E=none->K (upd ρ d (.os E)) (aI (aI H j none) E (some ⟨e.1,e.2.1,r.es++r'.es⟩))):EF e d j (.os i) ρ H K:=by
 unfold EF;simp only[J,zW,hi];exact⟨⟨h1.1,h1.2,F,I⟩,h⟩
theorem bK{P:Program}{C:mD}{PC:FuncId->List AV->aK->AV->Prop}{mt:Nat->Bool}{a b:Code}{x:AV}{K:Env->aK->Prop}{Q:Ex->Env->aK->Prop}{ρ:Env}{H:aK}(J:Env->aK->Prop)(h1:∀ρ H,J ρ H->K ρ H)
 (E:∀K:Env->aK->Prop,(∀ρ H,J ρ H->K ρ H)->Ai x (awp P C PC mt a (Ex.seq K Q)) (awp P C PC mt b (Ex.seq K Q)) ρ H):Ai x (awp P C PC mt a (Ex.seq K Q)) (awp P C PC mt b (Ex.seq K Q)) ρ H:=E K h1
theorem qA{x:AV}{A B:Env->aK->Prop}{ρ:Env}{H:aK}(J:Env->aK->Prop)(h1:J ρ H)(E:∀ρ H,J ρ H->Ai x A B ρ H):Ai x A B ρ H:=E ρ H h1
theorem FJ{P:Program}{C:mD}{PC:FuncId->List AV->aK->AV->Prop}{mt:Nat->Bool}{c:Code}{id:Nat}{Q:Ex->Env->aK->Prop}{ρ:Env}{H:aK}(J:Env->aK->Prop)(h1:∀ρ H,J ρ H->Q .normal ρ H)
   (E:∀Q':Ex->Env->aK->Prop,(∀ρ H,J ρ H->Q' (.exit id) ρ H)->(∀ρ H,Q .ret ρ H->Q' .ret ρ H)->VG (awp P C PC mt c) Q' ρ H):VG (awp P C PC mt c) (Ex.blk id Q) ρ H:=
 E (Ex.blk id Q) (fun ρ H h=>by rw[On];exact h1 ρ H h) (fun ρ H h=>by rw[Uh];exact h)
theorem gA{P:Program}{C:mD}{PC:FuncId->List AV->aK->AV->Prop}{mt:Nat->Bool}{a b:Code}{x:AV}{Q:Ex->Env->aK->Prop}{ρ:Env}{H:aK}(J:Env->aK->Prop)(h1:∀ρ H,J ρ H->Q .normal ρ H)
   (E:∀Q':Ex->Env->aK->Prop,(∀ρ H,J ρ H->Q' .normal ρ H)->(∀i ρ H,Q (.exit i) ρ H->Q' (.exit i) ρ H)->(∀ρ H,Q .ret ρ H->Q' .ret ρ H)->Ai x (awp P C PC mt a Q') (awp P C PC mt b Q') ρ H):Ai x (awp P C PC mt a Q) (awp P C PC mt b Q) ρ H:=
 E Q h1 (fun _ _ _ h=>h) (fun _ _ h=>h)
def Hk(P:Program)(t:TypeId)(l:Option Nat)(d:Option Tmp)(j i f:Nat)(cs:List AV)(ρ:Env)(H:aK)(K:Env->aK->Prop):Prop:=match H j with
 | some r=>(i<r.es.length/\cs.length=l.getD 1/\f+cs.length<=r.sz/\(l=none->∃i,P.info? t=some i/\i.size=1))/\K (upd ρ d .any) (aI H j (some { r with es:=r.es.set i (nH (r.es.getD i []) f cs) }))
 | none=>False
def FM(P:Program)(t:TypeId)(l:Option Nat)(d:Option Tmp)(j i f:Nat)(cs:List AV)(ρ:Env)(H:aK)(K:Env->aK->Prop):Prop:=
 Hk P t l d j i f cs ρ H K\/∃nl:List (Nat×TypeId×Nat),(∀x∈nl,cs[x.1]?=some (.v (.slice none 0 0))/\0<x.2.2)/\kM nl cs H fun cs H=>Hk P t l d j i f cs ρ H K
theorem YZ{P:Program}{d:Option Tmp}{t:TypeId}{j i f:Nat}{cs:List AV}{ρ:Env}{H:aK}{K:Env->aK->Prop}:WU P d t (.op j i f) cs ρ H K=bU (ldT P t) (fun l=>FM P t l d j i f cs ρ H K):=by
 have E:∀cs H,Ah P ⟨d,.move (.tmp 0),0,"",#[],none⟩ t (.op j i f) cs ρ H K=bU (ldT P t) (fun l=>Hk P t l d j i f cs ρ H K):=by
   intro cs H;unfold Ah Hk;cases h1:H j <;> cases F:ldT P t <;> simp[bU,h1]
 unfold WU uV FM;simp only[E];cases F:ldT P t <;> simp[bU]
theorem Jb{P:Program}{t:TypeId}{m:Nat}{d:Option Tmp}{j i f:Nat}{cs:List AV}{ρ:Env}{H:aK}{K:Env->aK->Prop}{r:Row}(o:Nat)(e:TypeId)(sz:Nat)(O:cs[o]?=some (.v (.slice none 0 0))/\0<sz)(F:H j=some r)(h1:i<r.es.length/\cs.length=m/\f+cs.length<=r.sz)
   (h:∀k,H k=none->K (upd ρ d .any) (aI (aI H k (some ⟨e,sz,[]⟩)) j (some { r with es:=r.es.set i (nH (r.es.getD i []) f (cs.set o (.os k))) }))):FM P t (some m) d j i f cs ρ H K:=by
 refine .inr ⟨[(o,e,sz)],?_,fun k I=>?_⟩
 . intro x J
   simp only[List.mem_cons,List.not_mem_nil,or_false]at J;subst J;exact O
 . have E:j≠k:=fun e=>by rw[e,I]at F;cases F
   unfold kM Hk;simp only[show aI H k (some (⟨e,sz,[]⟩:Row)) j=some r by rw[aI];rw[if_neg E];exact F];exact⟨⟨h1.1,by simpa using h1.2.1,by simpa using h1.2.2,by simp⟩,h k I⟩
@[congr] theorem wputE_c {P t l d j i f cs cs' ρ H K} (h':cs=cs'):FM P t l d j i f cs ρ H K=FM P t l d j i f cs' ρ H K:=h'▸rfl
theorem aH{P:Program}{t:TypeId}{m:Nat}{d:Option Tmp}{j i f:Nat}{cs:List AV}{ρ:Env}{H:aK}{K:Env->aK->Prop}{r:Row}(E:H j=some r)(h1:i<r.es.length/\cs.length=m/\f+cs.length<=r.sz)
   (h:K (upd ρ d .any) (aI H j (some { r with es:=r.es.set i (nH (r.es.getD i []) f cs) }))):FM P t (some m) d j i f cs ρ H K:=by
 refine .inl ?_;unfold Hk;simp only[E];exact⟨⟨h1.1,h1.2.1,h1.2.2,by simp⟩,h⟩
theorem dM{P:Program}{t:TypeId}{d:Option Tmp}{j i f:Nat}{cs:List AV}{ρ:Env}{H:aK}{K:Env->aK->Prop}{r:Row}(E:∃i,P.info? t=some i/\i.size=1)(F:H j=some r)(h1:i<r.es.length/\cs.length=1/\f+cs.length<=r.sz)
   (h:K (upd ρ d .any) (aI H j (some { r with es:=r.es.set i (nH (r.es.getD i []) f cs) }))):FM P t none d j i f cs ρ H K:=by
 refine .inl ?_;unfold Hk;simp only[F];exact⟨⟨h1.1,h1.2.1,h1.2.2,fun _=>E⟩,h⟩
theorem aoI:Int.toNat 0=0:=rfl
theorem aaH{a b:Prop}:(a->b->a/\b)=True:=by simp;exact fun h1 E=>⟨h1,E⟩
attribute [go_sem ↓] abZ YZ
attribute [go_sem] YZ List.set_cons_zero List.set_cons_succ
attribute [go_sem] Int.reduceToNat aoI beq_true beq_false Bool.not_eq_true' Bool.and_eq_true aaH
attribute [go_sem] abZ IJ EI Vs Bool.or_true Bool.true_or Bool.false_or Bool.or_false
theorem dF{H:aK}{i j I:Nat}{r r':Row}(hi:H i=some r)(F:j≠i)(E:H I=none):aI (aI H j none) I (some r') i=some r:=by
 have h1:i≠I:=fun e=>by subst e;rw[hi]at E;simp at E
 rw[aF _ _ _ _ h1,aF _ _ _ _ (Ne.symm F),hi]
theorem eZ{H:aK}{i j:Nat}{r r':Row}(hi:H i=some r)(E:H j=none):aI H j (some r') i=some r:=by
 have h1:i≠j:=fun e=>by subst e;rw[hi]at E;simp at E
 rw[aF _ _ _ _ h1,hi]
theorem aP{H:aK}{i j:Nat}{r:Row}(hi:H i=some r)(E:H j=none):i≠j:=fun e=>by subst e;rw[hi]at E;simp at E
def opt{α:Type}(b:Bool)(f:α):List α:=match b with|true=>[f]|false=>[]
theorem iX{α:Type}{b:Bool}{f:α}(h:b=true):opt b f=[f]:=by rw[h];rfl
theorem iW{α:Type}{b:Bool}{f:α}(h:b=false):opt b f=[]:=by rw[h];rfl
theorem cL{α:Type}(b:Bool)(f:α):(opt b f).length<=1:=by cases b <;> simp[opt]
theorem pK{α:Type}{e:TypeId}{sz:Nat}{enc:α->List AV}{H:aK}{k:Nat}{l l':List α}{cs:List (List AV)}(h:cs=l'.map enc):aI H k (some ⟨e,sz,l.map enc++cs⟩) k=some (⟨e,sz,(l++l').map enc⟩:Row):=by rw[aA,h,List.map_append]
theorem fL{e:TypeId}{sz:Nat}{enc:Fault->List AV}{H:aK}{k:Nat}{l l':List Fault}{cs:List (List AV)}(h:cs=l'.map enc):aI H k (some ⟨e,sz,l.map enc++cs⟩) k=some (⟨e,sz,(l++l').map enc⟩:Row):=pK h
theorem gW{e:TypeId}{sz:Nat}{enc:Int->List AV}{H:aK}{k:Nat}{l l':List Int}{cs:List (List AV)}(h:cs=l'.map enc):aI H k (some ⟨e,sz,l.map enc++cs⟩) k=some (⟨e,sz,(l++l').map enc⟩:Row):=pK h
abbrev kN(t:VType):Row:=⟨113,14,[bC t]⟩
abbrev mI(o:Order):Row:=⟨111,16,[bI o]⟩
abbrev vR(a:Arc):Row:=⟨107,6,[fK a]⟩
abbrev lE(l:List Int):Row:=⟨45,1,l.map bW⟩
abbrev bS(l:List Fault):Row:=⟨139,2,l.map gV⟩
theorem pcb(mt:Nat->Bool){f:FuncId}{fn:Func}{args:List AV}{r:AV}(F:Tryz.prog.funcs[f]? = some fn)(h:awp Tryz.prog (bF Tryz.prog) (dP Tryz.prog) mt (fn.body.getD .skip) (IJ Tryz.prog fn.results.toList fun x H'=>Conv H' x r) (DH args) bV)(E:fn.body=some (fn.body.getD .skip):=by rfl)(I:BG fn (fn.body.getD .skip) args.length=true:=by kernel_rfl):PC Tryz.prog f args r:=PC.body mt mixed F E I h
theorem pcd{f:FuncId}{fn:Func}{args:List AV}{r:AV}(F:Tryz.prog.funcs[f]? = some fn)(h:awp Tryz.prog (bF Tryz.prog) (dP Tryz.prog) (fun _=>false) (fn.body.getD .skip) (IJ Tryz.prog fn.results.toList fun x H'=>Conv H' x r) (DH args) bV)(E:fn.body=some (fn.body.getD .skip):=by rfl)(I:BG fn (fn.body.getD .skip) args.length=true:=by kernel_rfl):PC Tryz.prog f args r:=PC.body (fun _=>false) mixed F E I h
theorem ncb(mt:Nat->Bool){f:FuncId}{fn:Func}{args:List AV}{row:Row}{E:Nat->AV}(I:Tryz.prog.funcs[f]? = some fn)(h:awp Tryz.prog (bF Tryz.prog) (dP Tryz.prog) mt (fn.body.getD .skip) (IJ Tryz.prog fn.results.toList fun x H'=>∃k,x=E k/\H' k=some row) (DH args) bV)(F:fn.body=some (fn.body.getD .skip):=by rfl)(J:BG fn (fn.body.getD .skip) args.length=true:=by kernel_rfl):NC Tryz.prog f args row E:=NC.body mt mixed I F J h
theorem gdS{α:Type}{a b:α}:(some a).getD b=a:=rfl
theorem kpR{H G:aK}{i j k:Nat}{a b r:Option Row}(g:aI (aI H i a) k b=G)(n:j≠k)(m:j≠i)(R:H j=r):G j=r:=(congrFun g.symm j).trans ((aF _ _ _ _ n).trans ((aF _ _ _ _ m).trans R))
theorem Xaa:∀{α:Type} {β:Type} {L:List α} (f:α->β),List.length (List.map f L)=List.length L:=@List.length_map
theorem Xab:∀(n:Nat),0<=n:=@Nat.zero_le
theorem Xac:∀{α:Type} {l:List α} {i:Nat} {a:α},l[i]?=some a->a∈l:=@List.mem_of_getElem?
theorem Xad:∀{α:Type} {a:α} {L:List α},List.length (a::L)=List.length L+1:=@List.length_cons
theorem Xae:∀{α:Type} {L bs:List α},List.length (L++bs)=List.length L+List.length bs:=@List.length_append
theorem Xaf:∀{x y:Bool},(x||y)=false↔x=false/\y=false:=@Bool.or_eq_false_iff
theorem Xag:∀{α:Type} {l:List α},List.take (List.length l) l=l:=@List.take_length
theorem Xah:∀(n:Nat),n<=n:=@Nat.le_refl
theorem Xai:∀{α:Type} (L:List α),L++[]=L:=@List.append_nil
theorem Xaj:∀{α:Type} {p:α->Bool} {l:List α},List.all l p=true↔∀(x:α),x∈l->p x=true:=@List.all_eq_true
theorem Xak:∀(a b:Bool),((a&&b)=true)=(a=true/\b=true):=@Bool.and_eq_true
theorem Xal:∀{n m k:Nat},n<=m->m<=k->n<=k:=@Nat.le_trans
theorem Xam:∀{m n:Nat},m∈List.range n↔m<n:=@List.mem_range
theorem Xan:∀{α:Type} {p:α->Bool} {l:List α},List.any l p=true↔∃x,x∈l/\p x=true:=@List.any_eq_true
theorem Xao:∀{α:Type} {i:Nat} {l:List α},List.length (List.take i l)=min i (List.length l):=@List.length_take
theorem Xap:∀{α:Type} {i:Nat} {l:List α},List.length l<=i->List.take i l=l:=@List.take_of_length_le
theorem Xaq:∀(n:Nat),Int.toNat ↑n=n:=@Int.toNat_natCast
theorem Xar:∀{α:Type} {β:Type} {f:α->β} {l₁ l₂:List α},List.map f (l₁++l₂)=List.map f l₁++List.map f l₂:=@List.map_append
theorem Xas:∀{a b:Bool},a=b↔(a=true↔b=true):=@Bool.eq_iff_iff
theorem Xat:∀{α:Type} {p q:List α},p++q=[]↔p=[]/\q=[]:=@List.append_eq_nil_iff
theorem Xau:∀{α:Type} {a:α} {s t:List α},a∈s++t↔a∈s\/a∈t:=@List.mem_append
theorem Xav:∀{n:Nat},n>0->∀{i j:Nat},i<=j->n^i<=n^j:=@Nat.pow_le_pow_right
theorem Xaw:∀{α:Type} (L bs cs:List α),L++bs++cs=L++(bs++cs):=@List.append_assoc
theorem Xax:(false=true)=False:=@Bool.false_eq_true
theorem Xay:∀{α:Type} {p:α->Bool} {l:List α},List.any l p=false↔∀(x:α),x∈l->¬p x=true:=@List.any_eq_false
theorem Xaz:∀{n:Nat},List.length (List.range n)=n:=@List.length_range
theorem Xba:∀{α:Type} [inst:BEq α] [LawfulBEq α] {a b:α},(a == b)=true↔a=b:=@beq_iff_eq
theorem Xbb:∀(b:Bool),((!b)=true)=(b=false):=@Bool.not_eq_true'
theorem Xbc:∀{α:Type} {β:Type} {f:α->β} {a:α} {l:List α},List.map f (a::l)=f a::List.map f l:=@List.map_cons
theorem Xbd:∀{α:Type} {β:Type} {b:β} {f:α->β} {l:List α},b∈List.map f l↔∃a,a∈l/\f a=b:=@List.mem_map
theorem Xbe:∀{α:Type} {b:α} {l:List α} {a:α},a∈b::l↔a=b\/a∈l:=@List.mem_cons
theorem Xbf:∀{α:Type} {a b:α},a∈[b]↔a=b:=@List.mem_singleton
theorem Xbg:∀{n:Nat},List.range (Nat.succ n)=List.range n++[n]:=@List.range_succ
theorem Xbh:∀{α:Type} {β:Type} {f:β->α->β} {b:β} {l l':List α},List.foldl f b (l++l')=List.foldl f (List.foldl f b l) l':=@List.foldl_append
theorem Xbi:∀(a:Int),a<=a:=@Int.le_refl
theorem Xbj:∀(n m:Nat),n^Nat.succ m=n^m*n:=@Nat.pow_succ
theorem Xbk:∀(n m:Nat),n<m\/n>=m:=@Nat.lt_or_ge
theorem Xbl:∀(b:Bool),(true&&b)=b:=@Bool.true_and
theorem Xbm:∀(b:Bool),(false||b)=b:=@Bool.false_or
theorem Xbn:∀{α:Type} {a:α} {L:List α} (bs:List α),a∈L->a∈L++bs:=@List.mem_append_left
theorem Xbo:∀(b:Bool),(b&&true)=b:=@Bool.and_true
theorem Xbp:∀{α:Type} {p:α->Bool} {a:α} {l:List α},List.takeWhile p (a::l)=if p a=true then a::List.takeWhile p l else[]:=@List.takeWhile_cons
theorem Xbq:∀(a b:Bool),((a||b)=true)=(a=true\/b=true):=@Bool.or_eq_true
theorem Xbr:∀{α:Type} (L:List α),[]++L=L:=@List.nil_append
theorem Xbs:∀{α:Type} {β:Type} {f:α->β},List.map f []=[]:=@List.map_nil
theorem Xbt:∀{α:Type} {β:Type} {f:α->β} {l:List α},List.map f l=[]↔l=[]:=@List.map_eq_nil_iff
theorem Xbu:∀{α:Type} {β:Type} {xs ys:List α} {f:α->List β},List.flatMap f (xs++ys)=List.flatMap f xs++List.flatMap f ys:=@List.flatMap_append
theorem Xbv:∀{α:Type} {β:Type} {l:List α} {f:α->List β},List.flatMap f l=[]↔∀(x:α),x∈l->f x=[]:=@List.flatMap_eq_nil_iff
theorem Xbw:∀{α:Type} {i:Nat} {l:List α},List.length (List.drop i l)=List.length l-i:=@List.length_drop
theorem Xbx:∀{a b:Int},0<=a->Int.tdiv a b=a/b:=@Int.tdiv_eq_ediv_of_nonneg
theorem Xby:(!true)=false:=@Bool.not_true
theorem Xbz:∀(n:Nat),Int.natAbs ↑n=n:=@Int.natAbs_natCast
theorem Xca:∀{α:Type} {l:List α},List.drop 0 l=l:=@List.drop_zero
theorem Xcb:∀{n m k:Nat},n<m->m<=k->n<k:=@Nat.lt_of_lt_of_le
theorem Xcc:∀{α:Type} (p:α->Bool) (l:List α),List.length (List.filter p l)<=List.length l:=@List.length_filter_le
theorem Xcd:∀(b:Bool),(¬b=true)=(b=false):=@Bool.not_eq_true
theorem Xce:∀{a:Int},a<=0->↑(Int.natAbs a)= -a:=@Int.ofNat_natAbs_of_nonpos
theorem Xcf:∀{a:Int},0<=a->↑(Int.natAbs a)=a:=@Int.natAbs_of_nonneg
theorem Xcg:∀(b:Bool),((!b)=false)=(b=true):=@Bool.not_eq_false'
theorem Xch:∀{a b:Int},0<=a->Int.tmod a b=a%b:=@Int.tmod_eq_emod_of_nonneg
theorem Xci:∀{a b:Nat},a<b->a%b=a:=@Nat.mod_eq_of_lt
theorem Xcj:∀{α:Type} {l:List α},List.length l=0↔l=[]:=@List.length_eq_zero_iff
theorem Xck:∀(n:Nat),0+n=n:=@Nat.zero_add
theorem Xcl:∀{α:Type} {a:α} {l:List α},a∈a::l:=@List.mem_cons_self
theorem Xcm:∀{x y:Bool},(x&&y)=false↔x=false\/y=false:=@Bool.and_eq_false_iff
theorem Xcn:∀(n k:Nat),n/k<=n:=@Nat.div_le_self
theorem Xco:∀{α:Type} {l:List α},List.length l=0->l=[]:=@List.eq_nil_of_length_eq_zero
theorem Xcp:∀{b:Bool},b=false↔b≠true:=@Bool.eq_false_iff
theorem Xcq:∀{a m n:Nat},1<a->m<n->a^m<a^n:=@Nat.pow_lt_pow_right
theorem Xcr:∀(n:Nat),n=0\/n>0:=@Nat.eq_zero_or_pos
theorem Xcs:∀{i x:Nat},Nat.testBit x i=decide (x/2^i%2=1):=@Nat.testBit_eq_decide_div_mod_eq
end Go.Proofs.YtohmomanmikphaaGreatDoor
end
