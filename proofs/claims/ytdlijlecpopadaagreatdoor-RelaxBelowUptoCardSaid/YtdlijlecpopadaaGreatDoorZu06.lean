import Derived.Test.YtdlijlecpopadaaGreatDoorChecked
import Derived.KernelRfl
import Derived.Test.YtdlijlecpopadaaGreatDoorZu05
set_option linter.unusedSimpArgs false
set_option linter.unusedVariables false
set_option maxRecDepth 100000
section
namespace Go.Proofs.YtdlijlecpopadaaGreatDoor.Ty
open Go.Aw Go.Proofs
theorem lU{P:Program}{t:TypeId}(h:(P.info? t).map (·.size)=some 1):∃i,P.info? t=some i/\i.size=1:=by
 cases hi:P.info? t with
 | none=>simp[hi]at h
 | some i=>exact⟨i,rfl,by simpa[hi]using h⟩
theorem mixed:Tryz.prog.follows .mixedOrders=true:=by kernel_rfl
theorem it3:GD Tryz.prog 3=some .i64:=by kernel_rfl
theorem it5:GD Tryz.prog 5=some .u8:=by kernel_rfl
theorem st9:eI Tryz.prog 9=true:=by kernel_rfl
theorem it40:GD Tryz.prog 40=some .u64:=by kernel_rfl
theorem ayO:CU Tryz.prog 206=true:=by kernel_rfl
theorem bo4:Aj Tryz.prog 4=true:=by kernel_rfl
theorem fl97:xP Tryz.prog 97=some [0,2]:=by kernel_rfl
theorem avJ:xP Tryz.prog 203=some [0,0]:=by kernel_rfl
theorem auW:xP Tryz.prog 285=some [0,0,0]:=by kernel_rfl
theorem aoJ:aP Tryz.prog 25 0=some (0,none):=by kernel_rfl
theorem anZ:aP Tryz.prog 25 1=some (1,none):=by kernel_rfl
theorem apD:aP Tryz.prog 30 0=some (0,some 2):=by kernel_rfl
theorem amS:aP Tryz.prog 30 1=some (2,none):=by kernel_rfl
theorem alR:aP Tryz.prog 30 2=some (3,none):=by kernel_rfl
theorem alM:aP Tryz.prog 30 3=some (4,none):=by kernel_rfl
theorem aoU:aP Tryz.prog 30 4=some (5,none):=by kernel_rfl
theorem aoM:aP Tryz.prog 64 0=some (0,none):=by kernel_rfl
theorem alN:aP Tryz.prog 64 1=some (1,none):=by kernel_rfl
theorem aoN:aP Tryz.prog 64 2=some (2,none):=by kernel_rfl
theorem anL:aP Tryz.prog 64 3=some (3,none):=by kernel_rfl
theorem alW:aP Tryz.prog 66 2=some (2,none):=by kernel_rfl
theorem alO:aP Tryz.prog 66 3=some (3,some 4):=by kernel_rfl
theorem alP:aP Tryz.prog 87 0=some (0,none):=by kernel_rfl
theorem aoE:aP Tryz.prog 87 1=some (1,none):=by kernel_rfl
theorem aoL:aP Tryz.prog 87 2=some (2,none):=by kernel_rfl
theorem alU:aP Tryz.prog 87 3=some (3,none):=by kernel_rfl
theorem amI:aP Tryz.prog 87 4=some (4,none):=by kernel_rfl
theorem aoH:aP Tryz.prog 87 5=some (5,none):=by kernel_rfl
theorem anS:aP Tryz.prog 87 6=some (6,none):=by kernel_rfl
theorem anC:aP Tryz.prog 87 7=some (7,none):=by kernel_rfl
theorem amQ:aP Tryz.prog 87 8=some (8,none):=by kernel_rfl
theorem alV:aP Tryz.prog 87 9=some (9,none):=by kernel_rfl
theorem afG:aP Tryz.prog 87 10=some (10,none):=by kernel_rfl
theorem aiX:aP Tryz.prog 87 11=some (11,none):=by kernel_rfl
theorem agU:aP Tryz.prog 87 12=some (12,none):=by kernel_rfl
theorem afU:aP Tryz.prog 87 13=some (13,none):=by kernel_rfl
theorem alS:aP Tryz.prog 89 0=some (0,some 6):=by kernel_rfl
theorem alL:aP Tryz.prog 89 1=some (6,none):=by kernel_rfl
theorem aoT:aP Tryz.prog 89 2=some (7,some 14):=by kernel_rfl
theorem aoF:aP Tryz.prog 89 3=some (21,none):=by kernel_rfl
theorem amE:aP Tryz.prog 89 4=some (22,none):=by kernel_rfl
theorem amH:aP Tryz.prog 89 5=some (23,none):=by kernel_rfl
theorem alZ:aP Tryz.prog 94 0=some (0,none):=by kernel_rfl
theorem anV:aP Tryz.prog 94 1=some (1,none):=by kernel_rfl
theorem aoC:aP Tryz.prog 94 2=some (2,none):=by kernel_rfl
theorem anD:aP Tryz.prog 94 3=some (3,none):=by kernel_rfl
theorem alI:aP Tryz.prog 94 4=some (4,none):=by kernel_rfl
theorem aoR:aP Tryz.prog 94 5=some (5,none):=by kernel_rfl
theorem apE:aP Tryz.prog 94 6=some (6,none):=by kernel_rfl
theorem aoY:aP Tryz.prog 97 0=some (0,none):=by kernel_rfl
theorem anB:aP Tryz.prog 97 1=some (1,none):=by kernel_rfl
theorem acH:aP Tryz.prog 121 0=some (0,some 6):=by kernel_rfl
theorem agH:aP Tryz.prog 121 1=some (6,none):=by kernel_rfl
theorem aiP:aP Tryz.prog 121 2=some (7,none):=by kernel_rfl
theorem agQ:aP Tryz.prog 121 3=some (8,none):=by kernel_rfl
theorem ahM:aP Tryz.prog 121 4=some (9,some 7):=by kernel_rfl
theorem afI:aP Tryz.prog 121 5=some (16,none):=by kernel_rfl
theorem afP:aP Tryz.prog 128 0=some (0,none):=by kernel_rfl
theorem agX:aP Tryz.prog 128 1=some (1,none):=by kernel_rfl
theorem agN:aP Tryz.prog 136 0=some (0,none):=by kernel_rfl
theorem ajT:aP Tryz.prog 136 1=some (1,none):=by kernel_rfl
theorem ahT:aP Tryz.prog 139 0=some (0,none):=by kernel_rfl
theorem aiH:aP Tryz.prog 139 1=some (1,none):=by kernel_rfl
theorem aeJ:aP Tryz.prog 139 2=some (2,none):=by kernel_rfl
theorem aeD:aP Tryz.prog 139 3=some (3,none):=by kernel_rfl
theorem afR:aP Tryz.prog 139 4=some (4,none):=by kernel_rfl
theorem adD:aP Tryz.prog 139 5=some (5,none):=by kernel_rfl
theorem ahU:aP Tryz.prog 141 0=some (0,none):=by kernel_rfl
theorem ahY:aP Tryz.prog 141 1=some (1,none):=by kernel_rfl
theorem acS:aP Tryz.prog 141 2=some (2,none):=by kernel_rfl
theorem afB:aP Tryz.prog 141 3=some (3,none):=by kernel_rfl
theorem acK:aP Tryz.prog 143 0=some (0,none):=by kernel_rfl
theorem ajL:aP Tryz.prog 143 1=some (1,none):=by kernel_rfl
theorem aeR:aP Tryz.prog 143 2=some (2,some 4):=by kernel_rfl
theorem acV:aP Tryz.prog 143 3=some (6,some 4):=by kernel_rfl
theorem afQ:aP Tryz.prog 143 4=some (10,none):=by kernel_rfl
theorem adY:aP Tryz.prog 143 5=some (11,none):=by kernel_rfl
theorem agM:aP Tryz.prog 143 6=some (12,none):=by kernel_rfl
theorem aiE:aP Tryz.prog 143 7=some (13,none):=by kernel_rfl
theorem acJ:aP Tryz.prog 143 8=some (14,none):=by kernel_rfl
theorem aiA:aP Tryz.prog 143 9=some (15,none):=by kernel_rfl
theorem adO:aP Tryz.prog 157 0=some (0,none):=by kernel_rfl
theorem agC:aP Tryz.prog 157 1=some (1,none):=by kernel_rfl
theorem adU:aP Tryz.prog 183 0=some (0,none):=by kernel_rfl
theorem agZ:aP Tryz.prog 183 1=some (1,none):=by kernel_rfl
theorem ahA:aP Tryz.prog 203 0=some (0,none):=by kernel_rfl
theorem ahJ:aP Tryz.prog 203 1=some (1,none):=by kernel_rfl
theorem aeZ:aP Tryz.prog 238 0=some (0,none):=by kernel_rfl
theorem aiL:aP Tryz.prog 238 1=some (1,none):=by kernel_rfl
theorem acX:aP Tryz.prog 238 2=some (2,none):=by kernel_rfl
theorem ahI:aP Tryz.prog 238 3=some (3,none):=by kernel_rfl
theorem afN:aP Tryz.prog 238 4=some (4,none):=by kernel_rfl
theorem aeE:aP Tryz.prog 240 0=some (0,none):=by kernel_rfl
theorem aeK:aP Tryz.prog 240 1=some (1,none):=by kernel_rfl
theorem ajC:aP Tryz.prog 240 2=some (2,none):=by kernel_rfl
theorem ahB:aP Tryz.prog 240 3=some (3,none):=by kernel_rfl
theorem agS:aP Tryz.prog 317 0=some (0,some 6):=by kernel_rfl
theorem ahG:aP Tryz.prog 317 1=some (6,some 14):=by kernel_rfl
theorem agF:aP Tryz.prog 317 2=some (20,some 4):=by kernel_rfl
theorem ajJ:aP Tryz.prog 317 3=some (24,none):=by kernel_rfl
theorem acE:aP Tryz.prog 321 0=some (0,none):=by kernel_rfl
theorem ajM:aP Tryz.prog 321 1=some (1,none):=by kernel_rfl
theorem aiT:aP Tryz.prog 321 2=some (2,some 5):=by kernel_rfl
theorem agJ:aP Tryz.prog 365 2=some (2,none):=by kernel_rfl
theorem aiC:aP Tryz.prog 365 3=some (3,none):=by kernel_rfl
theorem el22:bY Tryz.prog 22=some (9,1,16):=by kernel_rfl
theorem sl22:cT Tryz.prog 22=true:=by kernel_rfl
theorem el23:bY Tryz.prog 23=some (139,6,80):=by kernel_rfl
theorem sl23:cT Tryz.prog 23=true:=by kernel_rfl
theorem el26:bY Tryz.prog 26=some (87,14,136):=by kernel_rfl
theorem sl26:cT Tryz.prog 26=true:=by kernel_rfl
theorem el27:bY Tryz.prog 27=some (143,16,152):=by kernel_rfl
theorem sl27:cT Tryz.prog 27=true:=by kernel_rfl
theorem el28:bY Tryz.prog 28=some (192,2,16):=by kernel_rfl
theorem sl28:cT Tryz.prog 28=true:=by kernel_rfl
theorem el31:bY Tryz.prog 31=some (3,1,8):=by kernel_rfl
theorem sl31:cT Tryz.prog 31=true:=by kernel_rfl
theorem el32:bY Tryz.prog 32=some (128,2,24):=by kernel_rfl
theorem sl32:cT Tryz.prog 32=true:=by kernel_rfl
theorem el43:bY Tryz.prog 43=some (46,1,16):=by kernel_rfl
theorem sl43:cT Tryz.prog 43=true:=by kernel_rfl
theorem st46:eI Tryz.prog 46=true:=by kernel_rfl
theorem awB:bY Tryz.prog 61=some (4,1,1):=by kernel_rfl
theorem sl61:cT Tryz.prog 61=true:=by kernel_rfl
theorem amO:bY Tryz.prog 62=some (97,2,16):=by kernel_rfl
theorem sl62:cT Tryz.prog 62=true:=by kernel_rfl
theorem el91:bY Tryz.prog 91=some (94,7,96):=by kernel_rfl
theorem sl91:cT Tryz.prog 91=true:=by kernel_rfl
theorem aAg:bY Tryz.prog 92=some (157,2,16):=by kernel_rfl
theorem sl92:cT Tryz.prog 92=true:=by kernel_rfl
theorem ajW:bY Tryz.prog 125=some (203,2,16):=by kernel_rfl
theorem awZ:cT Tryz.prog 125=true:=by kernel_rfl
theorem avW:bY Tryz.prog 131=some (35,1,8):=by kernel_rfl
theorem atH:cT Tryz.prog 131=true:=by kernel_rfl
theorem asW:bY Tryz.prog 137=some (136,2,16):=by kernel_rfl
theorem atW:cT Tryz.prog 137=true:=by kernel_rfl
theorem aqK:cT Tryz.prog 172=true:=by kernel_rfl
theorem apW:bY Tryz.prog 179=some (183,2,24):=by kernel_rfl
theorem arQ:cT Tryz.prog 179=true:=by kernel_rfl
theorem arV:uP Tryz.prog 189=some (2,1,none):=by kernel_rfl
theorem ayD:uP Tryz.prog 192=some (2,1,none):=by kernel_rfl
theorem asC:bY Tryz.prog 206=some (5,1,1):=by kernel_rfl
theorem asO:cT Tryz.prog 206=true:=by kernel_rfl
theorem aqD:bY Tryz.prog 212=some (3,1,8):=by kernel_rfl
theorem aBc:cT Tryz.prog 212=true:=by kernel_rfl
theorem arR:bY Tryz.prog 234=some (189,2,32):=by kernel_rfl
theorem awN:cT Tryz.prog 234=true:=by kernel_rfl
theorem arU:bY Tryz.prog 236=some (365,4,32):=by kernel_rfl
theorem auH:cT Tryz.prog 236=true:=by kernel_rfl
theorem axJ:bY Tryz.prog 273=some (272,1,8):=by kernel_rfl
theorem ayW:cT Tryz.prog 273=true:=by kernel_rfl
theorem atR:uP Tryz.prog 277=some (4,1,none):=by kernel_rfl
theorem axD:uP Tryz.prog 289=some (4,1,none):=by kernel_rfl
theorem apT:uP Tryz.prog 298=some (24,1,none):=by kernel_rfl
theorem aAh:bY Tryz.prog 310=some (31,1,24):=by kernel_rfl
theorem avU:cT Tryz.prog 310=true:=by kernel_rfl
theorem arB:bY Tryz.prog 315=some (141,4,32):=by kernel_rfl
theorem atP:cT Tryz.prog 315=true:=by kernel_rfl
theorem aAQ:bY Tryz.prog 323=some (321,7,72):=by kernel_rfl
theorem azS:cT Tryz.prog 323=true:=by kernel_rfl
theorem avA:uP Tryz.prog 341=some (20,1,none):=by kernel_rfl
theorem aAJ:uP Tryz.prog 342=some (65,1,none):=by kernel_rfl
theorem arO:uP Tryz.prog 367=some (32,1,none):=by kernel_rfl
theorem arK:uP Tryz.prog 368=some (64,1,none):=by kernel_rfl
theorem ld3:ldT Tryz.prog 3=some none:=by kernel_rfl
theorem ld4:ldT Tryz.prog 4=some none:=by kernel_rfl
theorem ld9:ldT Tryz.prog 9=some none:=by kernel_rfl
theorem ld22:ldT Tryz.prog 22=some none:=by kernel_rfl
theorem ld23:ldT Tryz.prog 23=some none:=by kernel_rfl
theorem ld25:ldT Tryz.prog 25=some (some 2):=by kernel_rfl
theorem ld26:ldT Tryz.prog 26=some none:=by kernel_rfl
theorem ld27:ldT Tryz.prog 27=some none:=by kernel_rfl
theorem ld28:ldT Tryz.prog 28=some none:=by kernel_rfl
theorem ld30:ldT Tryz.prog 30=some (some 6):=by kernel_rfl
theorem ld31:ldT Tryz.prog 31=some none:=by kernel_rfl
theorem ld35:ldT Tryz.prog 35=some none:=by kernel_rfl
theorem ld43:ldT Tryz.prog 43=some none:=by kernel_rfl
theorem ld46:ldT Tryz.prog 46=some none:=by kernel_rfl
theorem ld61:ldT Tryz.prog 61=some none:=by kernel_rfl
theorem ld62:ldT Tryz.prog 62=some none:=by kernel_rfl
theorem ld64:ldT Tryz.prog 64=some (some 4):=by kernel_rfl
theorem ld66:ldT Tryz.prog 66=some (some 7):=by kernel_rfl
theorem ld87:ldT Tryz.prog 87=some (some 14):=by kernel_rfl
theorem ld92:ldT Tryz.prog 92=some none:=by kernel_rfl
theorem ld94:ldT Tryz.prog 94=some (some 7):=by kernel_rfl
theorem ld97:ldT Tryz.prog 97=some (some 2):=by kernel_rfl
theorem arE:ldT Tryz.prog 136=some (some 2):=by kernel_rfl
theorem asI:ldT Tryz.prog 137=some none:=by kernel_rfl
theorem apU:ldT Tryz.prog 139=some (some 6):=by kernel_rfl
theorem auX:ldT Tryz.prog 141=some (some 4):=by kernel_rfl
theorem aqY:ldT Tryz.prog 143=some (some 16):=by kernel_rfl
theorem aqT:ldT Tryz.prog 157=some (some 2):=by kernel_rfl
theorem asX:ldT Tryz.prog 183=some (some 2):=by kernel_rfl
theorem awA:ldT Tryz.prog 189=some (some 2):=by kernel_rfl
theorem auG:ldT Tryz.prog 192=some (some 2):=by kernel_rfl
theorem ayX:ldT Tryz.prog 203=some (some 2):=by kernel_rfl
theorem aAo:ldT Tryz.prog 236=some none:=by kernel_rfl
theorem aAc:ldT Tryz.prog 238=some (some 5):=by kernel_rfl
theorem axG:ldT Tryz.prog 240=some (some 4):=by kernel_rfl
theorem aAn:ldT Tryz.prog 272=some none:=by kernel_rfl
theorem aqC:ldT Tryz.prog 277=some (some 4):=by kernel_rfl
theorem awU:ldT Tryz.prog 285=some (some 3):=by kernel_rfl
theorem auO:ldT Tryz.prog 315=some none:=by kernel_rfl
theorem azB:ldT Tryz.prog 317=some (some 25):=by kernel_rfl
theorem asD:ldT Tryz.prog 321=some (some 7):=by kernel_rfl
theorem SR:Rz Tryz.prog 326=some (3,3):=by kernel_rfl
theorem kk3:tY Tryz.prog 3=some 0:=by kernel_rfl
theorem zv3:Ji Tryz.prog 3=some (.v (.int .i64 0)):=by kernel_rfl
theorem pa25:eJ Tryz.prog 25=some [(0,1),(1,1)]:=by kernel_rfl
theorem pa30:eJ Tryz.prog 30=some [(0,2),(2,1),(3,1),(4,1),(5,1)]:=by kernel_rfl
theorem pa64:eJ Tryz.prog 64=some [(0,1),(1,1),(2,1),(3,1)]:=by kernel_rfl
theorem pa66:eJ Tryz.prog 66=some [(0,1),(1,1),(2,1),(3,4)]:=by kernel_rfl
theorem pa87:eJ Tryz.prog 87=some [(0,1),(1,1),(2,1),(3,1),(4,1),(5,1),(6,1),(7,1),(8,1),(9,1),(10,1),(11,1),(12,1),(13,1)]:=by kernel_rfl
theorem pa89:eJ Tryz.prog 89=some [(0,6),(6,1),(7,14),(21,1),(22,1),(23,1)]:=by kernel_rfl
theorem pa94:eJ Tryz.prog 94=some [(0,1),(1,1),(2,1),(3,1),(4,1),(5,1),(6,1)]:=by kernel_rfl
theorem pa97:eJ Tryz.prog 97=some [(0,1),(1,1)]:=by kernel_rfl
theorem auN:eJ Tryz.prog 121=some [(0,6),(6,1),(7,1),(8,1),(9,7),(16,1)]:=by kernel_rfl
theorem auQ:eJ Tryz.prog 128=some [(0,1),(1,1)]:=by kernel_rfl
theorem awR:eJ Tryz.prog 136=some [(0,1),(1,1)]:=by kernel_rfl
theorem azG:eJ Tryz.prog 139=some [(0,1),(1,1),(2,1),(3,1),(4,1),(5,1)]:=by kernel_rfl
theorem aqX:eJ Tryz.prog 141=some [(0,1),(1,1),(2,1),(3,1)]:=by kernel_rfl
theorem auS:eJ Tryz.prog 143=some [(0,1),(1,1),(2,4),(6,4),(10,1),(11,1),(12,1),(13,1),(14,1),(15,1)]:=by kernel_rfl
theorem auP:eJ Tryz.prog 157=some [(0,1),(1,1)]:=by kernel_rfl
theorem apJ:eJ Tryz.prog 183=some [(0,1),(1,1)]:=by kernel_rfl
theorem arM:eJ Tryz.prog 189=some [(0,1),(1,1)]:=by kernel_rfl
theorem aAv:eJ Tryz.prog 203=some [(0,1),(1,1)]:=by kernel_rfl
theorem avR:eJ Tryz.prog 238=some [(0,1),(1,1),(2,1),(3,1),(4,1)]:=by kernel_rfl
theorem aA6:eJ Tryz.prog 240=some [(0,1),(1,1),(2,1),(3,1)]:=by kernel_rfl
theorem avK:eJ Tryz.prog 277=some [(0,1),(1,1),(2,1),(3,1)]:=by kernel_rfl
theorem axK:eJ Tryz.prog 285=some [(0,1),(1,1),(2,1)]:=by kernel_rfl
theorem apF:eJ Tryz.prog 317=some [(0,6),(6,14),(20,4),(24,1)]:=by kernel_rfl
theorem auC:eJ Tryz.prog 321=some [(0,1),(1,1),(2,5)]:=by kernel_rfl
theorem aA4:eJ Tryz.prog 365=some [(0,1),(1,1),(2,1),(3,1)]:=by kernel_rfl
theorem so3:∃i,Tryz.prog.info? 3=some i/\i.size=1:=lU (by kernel_rfl)
theorem so4:∃i,Tryz.prog.info? 4=some i/\i.size=1:=lU (by kernel_rfl)
theorem azO:∃i,Tryz.prog.info? 23=some i/\i.size=1:=lU (by kernel_rfl)
theorem avE:∃i,Tryz.prog.info? 26=some i/\i.size=1:=lU (by kernel_rfl)
theorem avF:∃i,Tryz.prog.info? 27=some i/\i.size=1:=lU (by kernel_rfl)
theorem anP:∃i,Tryz.prog.info? 31=some i/\i.size=1:=lU (by kernel_rfl)
theorem avN:∃i,Tryz.prog.info? 43=some i/\i.size=1:=lU (by kernel_rfl)
theorem ajF:∃i,Tryz.prog.info? 46=some i/\i.size=1:=lU (by kernel_rfl)
theorem aqE:∃i,Tryz.prog.info? 92=some i/\i.size=1:=lU (by kernel_rfl)
theorem abN:∃i,Tryz.prog.info? 236=some i/\i.size=1:=lU (by kernel_rfl)
theorem akM:∃i,Tryz.prog.info? 315=some i/\i.size=1:=lU (by kernel_rfl)
theorem ze3:dR Tryz.prog 3=some [.v (.int .i64 0)]:=by kernel_rfl
theorem ze4:dR Tryz.prog 4=some [.v (.bool false)]:=by kernel_rfl
theorem ze9:dR Tryz.prog 9=some [.v (.string ByteArray.empty)]:=by kernel_rfl
theorem ni25:qG Tryz.prog 25=some [(0,9,1),(1,139,6)]:=by kernel_rfl
theorem ze25:dR Tryz.prog 25=some [.sl [],.sl []]:=by kernel_rfl
theorem ni30:qG Tryz.prog 30=some [(0,9,1),(1,139,6),(2,87,14),(3,143,16),(4,192,2),(5,192,2)]:=by kernel_rfl
theorem ze30:dR Tryz.prog 30=some [.sl [],.sl [],.sl [],.sl [],.sl [],.sl []]:=by kernel_rfl
theorem ze64:dR Tryz.prog 64=some [.v (.int .i64 0),.v (.int .i64 0),.sl [],.sl []]:=by kernel_rfl
theorem ze66:dR Tryz.prog 66=some [.v (.int .i64 0),.v (.int .i64 0),.v (.int .i64 0),.v (.int .i64 0),.v (.int .i64 0),.sl [],.sl []]:=by kernel_rfl
theorem ze87:dR Tryz.prog 87=some [.v (.string ByteArray.empty),.v (.int .i64 0),.v (.int .i64 0),.v (.int .i64 0),.sl [],.v (.int .i64 0),.v (.int .i64 0),.v (.int .i64 0),.v (.int .i64 0),.v (.int .i64 0),.v (.int .i64 0),.v (.int .i64 0),.v (.int .i64 0),.v (.int .i64 0)]:=by kernel_rfl
theorem ni89:qG Tryz.prog 89=some [(0,9,1),(1,139,6),(2,87,14),(3,143,16),(4,192,2),(5,192,2),(11,3,1),(21,3,1),(22,46,1)]:=by kernel_rfl
theorem ze89:dR Tryz.prog 89=some [.sl [],.sl [],.sl [],.sl [],.sl [],.sl [],.v (.int .i64 0),.v (.string ByteArray.empty),.v (.int .i64 0),.v (.int .i64 0),.v (.int .i64 0),.sl [],.v (.int .i64 0),.v (.int .i64 0),.v (.int .i64 0),.v (.int .i64 0),.v (.int .i64 0),.v (.int .i64 0),.v (.int .i64 0),.v (.int .i64 0),.v (.int .i64 0),.sl [],.sl [],.v (.int .i64 0)]:=by kernel_rfl
theorem ze94:dR Tryz.prog 94=some [.v (.int .i64 0),.v (.int .i64 0),.v (.int .i64 0),.v (.int .i64 0),.sl [],.sl [],.v (.string ByteArray.empty)]:=by kernel_rfl
theorem ze97:dR Tryz.prog 97=some [.v (.int .i64 0),.v (.bool false)]:=by kernel_rfl
theorem asV:dR Tryz.prog 121=some [.sl [],.sl [],.sl [],.sl [],.sl [],.sl [],.v (.int .i64 0),.v (.int .i64 0),.v (.int .i64 0),.v (.int .i64 0),.v (.int .i64 0),.v (.int .i64 0),.v (.int .i64 0),.v (.int .i64 0),.sl [],.sl [],.v (.bool false)]:=by kernel_rfl
theorem axW:dR Tryz.prog 128=some [.v (.int .i64 0),.v (.string ByteArray.empty)]:=by kernel_rfl
theorem auM:dR Tryz.prog 136=some [.v (.int .i64 0),.v (.int .i64 0)]:=by kernel_rfl
theorem aAN:dR Tryz.prog 139=some [.v (.int .i64 0),.v (.int .i64 0),.v (.int .i64 0),.v (.int .i64 0),.sl [],.sl []]:=by kernel_rfl
theorem axX:dR Tryz.prog 141=some [.v (.int .i64 0),.v (.int .i64 0),.v (.int .i64 0),.v (.int .i64 0)]:=by kernel_rfl
theorem awD:dR Tryz.prog 143=some [.v (.string ByteArray.empty),.sl [],.v (.int .i64 0),.v (.int .i64 0),.v (.int .i64 0),.v (.int .i64 0),.v (.int .i64 0),.v (.int .i64 0),.v (.int .i64 0),.v (.int .i64 0),.v (.int .i64 0),.v (.int .i64 0),.v (.int .i64 0),.v (.int .i64 0),.v (.int .i64 0),.v (.bool false)]:=by kernel_rfl
theorem akY:dR Tryz.prog 157=some [.v (.int .i64 0),.v (.int .i64 0)]:=by kernel_rfl
theorem aAT:dR Tryz.prog 183=some [.v (.bool false),.v (.string ByteArray.empty)]:=by kernel_rfl
theorem azF:dR Tryz.prog 189=some [.v (.string ByteArray.empty),.v (.string ByteArray.empty)]:=by kernel_rfl
theorem apK:dR Tryz.prog 192=some [.v (.int .i64 0),.v (.int .i64 0)]:=by kernel_rfl
theorem axP:dR Tryz.prog 203=some [.v (.int .i64 0),.v (.int .i64 0)]:=by kernel_rfl
theorem aAk:dR Tryz.prog 238=some [.v (.bool false),.v (.int .i64 0),.sl [],.v (.int .i64 0),.v (.int .i64 0)]:=by kernel_rfl
theorem aA9:dR Tryz.prog 240=some [.v (.int .i64 0),.v (.int .i64 0),.v (.int .i64 0),.v (.int .i64 0)]:=by kernel_rfl
theorem aAz:dR Tryz.prog 277=some [.v (.int .i64 0),.v (.int .i64 0),.v (.int .i64 0),.v (.int .i64 0)]:=by kernel_rfl
theorem apS:dR Tryz.prog 285=some [.v (.int .i64 0),.v (.int .i64 0),.v (.int .i64 0)]:=by kernel_rfl
theorem aqF:qG Tryz.prog 317=some [(0,9,1),(1,139,6),(2,87,14),(3,143,16),(4,192,2),(5,192,2),(10,3,1),(22,4,1),(23,97,2),(24,141,4)]:=by kernel_rfl
theorem awK:dR Tryz.prog 317=some [.sl [],.sl [],.sl [],.sl [],.sl [],.sl [],.v (.string ByteArray.empty),.v (.int .i64 0),.v (.int .i64 0),.v (.int .i64 0),.sl [],.v (.int .i64 0),.v (.int .i64 0),.v (.int .i64 0),.v (.int .i64 0),.v (.int .i64 0),.v (.int .i64 0),.v (.int .i64 0),.v (.int .i64 0),.v (.int .i64 0),.v (.int .i64 0),.v (.int .i64 0),.sl [],.sl [],.sl []]:=by kernel_rfl
theorem aAP:dR Tryz.prog 321=some [.v (.int .i64 0),.v (.int .i64 0),.v (.bool false),.v (.int .i64 0),.sl [],.v (.int .i64 0),.v (.int .i64 0)]:=by kernel_rfl
theorem aA5:dR Tryz.prog 365=some [.v (.int .i64 0),.v (.int .i64 0),.v (.int .i64 0),.v (.bool false)]:=by kernel_rfl
theorem co2:aE Tryz.prog 2=true:=by kernel_rfl
theorem co3:aE Tryz.prog 3=true:=by kernel_rfl
theorem co4:aE Tryz.prog 4=true:=by kernel_rfl
theorem co5:aE Tryz.prog 5=true:=by kernel_rfl
theorem co6:aE Tryz.prog 6=true:=by kernel_rfl
theorem co7:aE Tryz.prog 7=true:=by kernel_rfl
theorem co8:aE Tryz.prog 8=true:=by kernel_rfl
theorem co9:aE Tryz.prog 9=true:=by kernel_rfl
theorem co10:aE Tryz.prog 10=true:=by kernel_rfl
theorem co11:aE Tryz.prog 11=true:=by kernel_rfl
theorem co12:aE Tryz.prog 12=true:=by kernel_rfl
theorem co13:aE Tryz.prog 13=true:=by kernel_rfl
theorem co14:aE Tryz.prog 14=true:=by kernel_rfl
theorem co15:aE Tryz.prog 15=true:=by kernel_rfl
theorem co16:aE Tryz.prog 16=true:=by kernel_rfl
theorem co17:aE Tryz.prog 17=true:=by kernel_rfl
theorem co18:aE Tryz.prog 18=true:=by kernel_rfl
theorem co19:aE Tryz.prog 19=true:=by kernel_rfl
theorem co20:aE Tryz.prog 20=true:=by kernel_rfl
theorem co21:aE Tryz.prog 21=true:=by kernel_rfl
theorem co22:aE Tryz.prog 22=true:=by kernel_rfl
theorem co23:aE Tryz.prog 23=true:=by kernel_rfl
theorem co24:aE Tryz.prog 24=true:=by kernel_rfl
theorem co25:aE Tryz.prog 25=true:=by kernel_rfl
theorem co26:aE Tryz.prog 26=true:=by kernel_rfl
theorem co27:aE Tryz.prog 27=true:=by kernel_rfl
theorem co28:aE Tryz.prog 28=true:=by kernel_rfl
theorem co29:aE Tryz.prog 29=true:=by kernel_rfl
theorem co30:aE Tryz.prog 30=true:=by kernel_rfl
theorem co31:aE Tryz.prog 31=true:=by kernel_rfl
theorem co32:aE Tryz.prog 32=true:=by kernel_rfl
theorem co33:aE Tryz.prog 33=true:=by kernel_rfl
theorem co34:aE Tryz.prog 34=true:=by kernel_rfl
theorem co35:aE Tryz.prog 35=true:=by kernel_rfl
theorem co36:aE Tryz.prog 36=true:=by kernel_rfl
theorem co37:aE Tryz.prog 37=true:=by kernel_rfl
theorem co38:aE Tryz.prog 38=true:=by kernel_rfl
theorem co39:aE Tryz.prog 39=true:=by kernel_rfl
theorem co40:aE Tryz.prog 40=true:=by kernel_rfl
theorem co41:aE Tryz.prog 41=true:=by kernel_rfl
theorem co42:aE Tryz.prog 42=true:=by kernel_rfl
theorem co43:aE Tryz.prog 43=true:=by kernel_rfl
theorem co44:aE Tryz.prog 44=true:=by kernel_rfl
theorem co45:aE Tryz.prog 45=true:=by kernel_rfl
theorem co46:aE Tryz.prog 46=true:=by kernel_rfl
theorem co47:aE Tryz.prog 47=true:=by kernel_rfl
theorem co48:aE Tryz.prog 48=true:=by kernel_rfl
theorem co49:aE Tryz.prog 49=true:=by kernel_rfl
theorem co50:aE Tryz.prog 50=true:=by kernel_rfl
theorem co51:aE Tryz.prog 51=true:=by kernel_rfl
theorem co52:aE Tryz.prog 52=true:=by kernel_rfl
theorem co53:aE Tryz.prog 53=true:=by kernel_rfl
theorem co54:aE Tryz.prog 54=true:=by kernel_rfl
theorem co55:aE Tryz.prog 55=true:=by kernel_rfl
theorem co56:aE Tryz.prog 56=true:=by kernel_rfl
theorem co57:aE Tryz.prog 57=true:=by kernel_rfl
theorem co58:aE Tryz.prog 58=true:=by kernel_rfl
theorem co59:aE Tryz.prog 59=true:=by kernel_rfl
theorem co60:aE Tryz.prog 60=true:=by kernel_rfl
theorem co61:aE Tryz.prog 61=true:=by kernel_rfl
theorem co62:aE Tryz.prog 62=true:=by kernel_rfl
theorem co63:aE Tryz.prog 63=true:=by kernel_rfl
theorem co64:aE Tryz.prog 64=true:=by kernel_rfl
theorem co65:aE Tryz.prog 65=true:=by kernel_rfl
theorem co66:aE Tryz.prog 66=true:=by kernel_rfl
theorem co67:aE Tryz.prog 67=true:=by kernel_rfl
theorem co68:aE Tryz.prog 68=true:=by kernel_rfl
theorem co69:aE Tryz.prog 69=true:=by kernel_rfl
theorem co70:aE Tryz.prog 70=true:=by kernel_rfl
theorem co71:aE Tryz.prog 71=true:=by kernel_rfl
theorem co72:aE Tryz.prog 72=true:=by kernel_rfl
theorem co73:aE Tryz.prog 73=true:=by kernel_rfl
theorem co74:aE Tryz.prog 74=true:=by kernel_rfl
theorem co75:aE Tryz.prog 75=true:=by kernel_rfl
theorem co76:aE Tryz.prog 76=true:=by kernel_rfl
theorem co77:aE Tryz.prog 77=true:=by kernel_rfl
theorem co78:aE Tryz.prog 78=true:=by kernel_rfl
theorem co79:aE Tryz.prog 79=true:=by kernel_rfl
theorem co80:aE Tryz.prog 80=true:=by kernel_rfl
theorem co81:aE Tryz.prog 81=true:=by kernel_rfl
theorem co82:aE Tryz.prog 82=true:=by kernel_rfl
theorem co83:aE Tryz.prog 83=true:=by kernel_rfl
theorem co84:aE Tryz.prog 84=true:=by kernel_rfl
theorem co85:aE Tryz.prog 85=true:=by kernel_rfl
theorem co86:aE Tryz.prog 86=true:=by kernel_rfl
theorem co87:aE Tryz.prog 87=true:=by kernel_rfl
theorem co88:aE Tryz.prog 88=true:=by kernel_rfl
theorem co89:aE Tryz.prog 89=true:=by kernel_rfl
theorem co90:aE Tryz.prog 90=true:=by kernel_rfl
theorem co91:aE Tryz.prog 91=true:=by kernel_rfl
theorem co92:aE Tryz.prog 92=true:=by kernel_rfl
theorem co93:aE Tryz.prog 93=true:=by kernel_rfl
theorem co94:aE Tryz.prog 94=true:=by kernel_rfl
theorem co95:aE Tryz.prog 95=true:=by kernel_rfl
theorem co96:aE Tryz.prog 96=true:=by kernel_rfl
theorem co97:aE Tryz.prog 97=true:=by kernel_rfl
theorem co98:aE Tryz.prog 98=true:=by kernel_rfl
theorem co99:aE Tryz.prog 99=true:=by kernel_rfl
theorem awH:aE Tryz.prog 100=true:=by kernel_rfl
theorem ayI:aE Tryz.prog 101=true:=by kernel_rfl
theorem aqQ:aE Tryz.prog 102=true:=by kernel_rfl
theorem arA:aE Tryz.prog 103=true:=by kernel_rfl
theorem apM:aE Tryz.prog 104=true:=by kernel_rfl
theorem aAS:aE Tryz.prog 105=true:=by kernel_rfl
theorem azN:aE Tryz.prog 106=true:=by kernel_rfl
theorem arZ:aE Tryz.prog 107=true:=by kernel_rfl
theorem aqR:aE Tryz.prog 108=true:=by kernel_rfl
theorem auF:aE Tryz.prog 109=true:=by kernel_rfl
theorem atO:aE Tryz.prog 110=true:=by kernel_rfl
theorem awO:aE Tryz.prog 111=true:=by kernel_rfl
theorem aAU:aE Tryz.prog 112=true:=by kernel_rfl
theorem awX:aE Tryz.prog 113=true:=by kernel_rfl
theorem axB:aE Tryz.prog 114=true:=by kernel_rfl
theorem ayK:aE Tryz.prog 115=true:=by kernel_rfl
theorem apL:aE Tryz.prog 116=true:=by kernel_rfl
theorem asF:aE Tryz.prog 117=true:=by kernel_rfl
theorem aAl:aE Tryz.prog 118=true:=by kernel_rfl
theorem aAx:aE Tryz.prog 119=true:=by kernel_rfl
theorem ayZ:aE Tryz.prog 120=true:=by kernel_rfl
theorem auK:aE Tryz.prog 121=true:=by kernel_rfl
theorem asJ:aE Tryz.prog 122=true:=by kernel_rfl
theorem atI:aE Tryz.prog 123=true:=by kernel_rfl
theorem avV:aE Tryz.prog 124=true:=by kernel_rfl
theorem azJ:aE Tryz.prog 125=true:=by kernel_rfl
theorem auU:aE Tryz.prog 126=true:=by kernel_rfl
theorem asT:aE Tryz.prog 127=true:=by kernel_rfl
theorem asB:aE Tryz.prog 128=true:=by kernel_rfl
theorem aAO:aE Tryz.prog 129=true:=by kernel_rfl
theorem aqS:aE Tryz.prog 130=true:=by kernel_rfl
theorem azQ:aE Tryz.prog 131=true:=by kernel_rfl
theorem atV:aE Tryz.prog 132=true:=by kernel_rfl
theorem asY:aE Tryz.prog 133=true:=by kernel_rfl
theorem aAZ:aE Tryz.prog 134=true:=by kernel_rfl
theorem aqN:aE Tryz.prog 135=true:=by kernel_rfl
theorem aAH:aE Tryz.prog 136=true:=by kernel_rfl
theorem avG:aE Tryz.prog 137=true:=by kernel_rfl
theorem awM:aE Tryz.prog 138=true:=by kernel_rfl
theorem asZ:aE Tryz.prog 139=true:=by kernel_rfl
theorem asS:aE Tryz.prog 140=true:=by kernel_rfl
theorem aAG:aE Tryz.prog 141=true:=by kernel_rfl
theorem aqO:aE Tryz.prog 142=true:=by kernel_rfl
theorem avQ:aE Tryz.prog 143=true:=by kernel_rfl
theorem azU:aE Tryz.prog 144=true:=by kernel_rfl
theorem apP:aE Tryz.prog 145=true:=by kernel_rfl
theorem asK:aE Tryz.prog 146=true:=by kernel_rfl
theorem atN:aE Tryz.prog 147=true:=by kernel_rfl
theorem aqJ:aE Tryz.prog 148=true:=by kernel_rfl
theorem asG:aE Tryz.prog 149=true:=by kernel_rfl
theorem axN:aE Tryz.prog 150=true:=by kernel_rfl
theorem auL:aE Tryz.prog 151=true:=by kernel_rfl
theorem avH:aE Tryz.prog 152=true:=by kernel_rfl
theorem aA7:aE Tryz.prog 153=true:=by kernel_rfl
theorem aAX:aE Tryz.prog 154=true:=by kernel_rfl
theorem awG:aE Tryz.prog 155=true:=by kernel_rfl
theorem aAi:aE Tryz.prog 156=true:=by kernel_rfl
theorem arX:aE Tryz.prog 157=true:=by kernel_rfl
theorem axI:aE Tryz.prog 158=true:=by kernel_rfl
theorem axZ:aE Tryz.prog 159=true:=by kernel_rfl
theorem aqL:aE Tryz.prog 160=true:=by kernel_rfl
theorem axQ:aE Tryz.prog 161=true:=by kernel_rfl
theorem ayJ:aE Tryz.prog 162=true:=by kernel_rfl
theorem avD:aE Tryz.prog 163=true:=by kernel_rfl
theorem axY:aE Tryz.prog 164=true:=by kernel_rfl
theorem auZ:aE Tryz.prog 165=true:=by kernel_rfl
theorem auY:aE Tryz.prog 166=true:=by kernel_rfl
theorem apG:aE Tryz.prog 167=true:=by kernel_rfl
theorem auJ:aE Tryz.prog 168=true:=by kernel_rfl
theorem aBa:aE Tryz.prog 169=true:=by kernel_rfl
theorem aqZ:aE Tryz.prog 170=true:=by kernel_rfl
theorem axS:aE Tryz.prog 171=true:=by kernel_rfl
theorem apR:aE Tryz.prog 172=true:=by kernel_rfl
theorem ayV:aE Tryz.prog 173=true:=by kernel_rfl
theorem aAt:aE Tryz.prog 174=true:=by kernel_rfl
theorem asQ:aE Tryz.prog 175=true:=by kernel_rfl
theorem aAF:aE Tryz.prog 176=true:=by kernel_rfl
theorem aAb:aE Tryz.prog 177=true:=by kernel_rfl
theorem asR:aE Tryz.prog 178=true:=by kernel_rfl
theorem atM:aE Tryz.prog 179=true:=by kernel_rfl
theorem awI:aE Tryz.prog 180=true:=by kernel_rfl
theorem axA:aE Tryz.prog 181=true:=by kernel_rfl
theorem avX:aE Tryz.prog 182=true:=by kernel_rfl
theorem azX:aE Tryz.prog 183=true:=by kernel_rfl
theorem axM:aE Tryz.prog 184=true:=by kernel_rfl
theorem avM:aE Tryz.prog 185=true:=by kernel_rfl
theorem apX:aE Tryz.prog 186=true:=by kernel_rfl
theorem ayR:aE Tryz.prog 187=true:=by kernel_rfl
theorem arF:aE Tryz.prog 188=true:=by kernel_rfl
theorem awP:aE Tryz.prog 189=true:=by kernel_rfl
theorem avL:aE Tryz.prog 190=true:=by kernel_rfl
theorem aAs:aE Tryz.prog 191=true:=by kernel_rfl
theorem aqB:aE Tryz.prog 192=true:=by kernel_rfl
theorem azW:aE Tryz.prog 193=true:=by kernel_rfl
theorem auV:aE Tryz.prog 194=true:=by kernel_rfl
theorem ayF:aE Tryz.prog 195=true:=by kernel_rfl
theorem aqH:aE Tryz.prog 196=true:=by kernel_rfl
theorem azD:aE Tryz.prog 197=true:=by kernel_rfl
theorem ayE:aE Tryz.prog 198=true:=by kernel_rfl
theorem apY:aE Tryz.prog 199=true:=by kernel_rfl
theorem aqM:aE Tryz.prog 200=true:=by kernel_rfl
theorem ayB:aE Tryz.prog 201=true:=by kernel_rfl
theorem ayA:aE Tryz.prog 202=true:=by kernel_rfl
theorem auR:aE Tryz.prog 203=true:=by kernel_rfl
theorem azK:aE Tryz.prog 204=true:=by kernel_rfl
theorem axO:aE Tryz.prog 205=true:=by kernel_rfl
theorem auD:aE Tryz.prog 206=true:=by kernel_rfl
theorem apH:aE Tryz.prog 207=true:=by kernel_rfl
theorem aAa:aE Tryz.prog 208=true:=by kernel_rfl
theorem atS:aE Tryz.prog 209=true:=by kernel_rfl
theorem awC:aE Tryz.prog 210=true:=by kernel_rfl
theorem ayL:aE Tryz.prog 211=true:=by kernel_rfl
theorem avP:aE Tryz.prog 212=true:=by kernel_rfl
theorem azA:aE Tryz.prog 213=true:=by kernel_rfl
theorem azE:aE Tryz.prog 214=true:=by kernel_rfl
theorem ayC:aE Tryz.prog 215=true:=by kernel_rfl
theorem atB:aE Tryz.prog 216=true:=by kernel_rfl
theorem auB:aE Tryz.prog 217=true:=by kernel_rfl
theorem azY:aE Tryz.prog 218=true:=by kernel_rfl
theorem ayQ:aE Tryz.prog 219=true:=by kernel_rfl
theorem avY:aE Tryz.prog 220=true:=by kernel_rfl
theorem asN:aE Tryz.prog 221=true:=by kernel_rfl
theorem ayU:aE Tryz.prog 222=true:=by kernel_rfl
theorem aA1:aE Tryz.prog 223=true:=by kernel_rfl
theorem atC:aE Tryz.prog 224=true:=by kernel_rfl
theorem aAK:aE Tryz.prog 225=true:=by kernel_rfl
theorem arS:aE Tryz.prog 226=true:=by kernel_rfl
theorem awQ:aE Tryz.prog 227=true:=by kernel_rfl
theorem axH:aE Tryz.prog 229=true:=by kernel_rfl
theorem aqP:aE Tryz.prog 230=true:=by kernel_rfl
theorem arT:aE Tryz.prog 231=true:=by kernel_rfl
theorem arL:aE Tryz.prog 232=true:=by kernel_rfl
theorem apN:aE Tryz.prog 233=true:=by kernel_rfl
theorem azP:aE Tryz.prog 234=true:=by kernel_rfl
theorem aAd:aE Tryz.prog 235=true:=by kernel_rfl
theorem awW:aE Tryz.prog 236=true:=by kernel_rfl
theorem arD:aE Tryz.prog 237=true:=by kernel_rfl
theorem atU:aE Tryz.prog 238=true:=by kernel_rfl
theorem atF:aE Tryz.prog 239=true:=by kernel_rfl
theorem aAr:aE Tryz.prog 240=true:=by kernel_rfl
theorem aAy:aE Tryz.prog 241=true:=by kernel_rfl
theorem atG:aE Tryz.prog 242=true:=by kernel_rfl
theorem atY:aE Tryz.prog 243=true:=by kernel_rfl
theorem avZ:aE Tryz.prog 245=true:=by kernel_rfl
theorem aAq:aE Tryz.prog 246=true:=by kernel_rfl
theorem azH:aE Tryz.prog 247=true:=by kernel_rfl
theorem aqU:aE Tryz.prog 248=true:=by kernel_rfl
theorem azT:aE Tryz.prog 249=true:=by kernel_rfl
theorem awY:aE Tryz.prog 250=true:=by kernel_rfl
theorem ayP:aE Tryz.prog 251=true:=by kernel_rfl
theorem aAY:aE Tryz.prog 252=true:=by kernel_rfl
theorem aqG:aE Tryz.prog 253=true:=by kernel_rfl
theorem aAR:aE Tryz.prog 254=true:=by kernel_rfl
theorem aAD:aE Tryz.prog 255=true:=by kernel_rfl
theorem aAu:aE Tryz.prog 256=true:=by kernel_rfl
theorem awE:aE Tryz.prog 257=true:=by kernel_rfl
theorem auT:aE Tryz.prog 258=true:=by kernel_rfl
theorem aAm:aE Tryz.prog 259=true:=by kernel_rfl
theorem arW:aE Tryz.prog 260=true:=by kernel_rfl
theorem atE:aE Tryz.prog 261=true:=by kernel_rfl
theorem aAB:aE Tryz.prog 262=true:=by kernel_rfl
theorem azI:aE Tryz.prog 263=true:=by kernel_rfl
theorem awL:aE Tryz.prog 264=true:=by kernel_rfl
theorem awT:aE Tryz.prog 265=true:=by kernel_rfl
theorem aAw:aE Tryz.prog 266=true:=by kernel_rfl
theorem asM:aE Tryz.prog 268=true:=by kernel_rfl
theorem aqV:aE Tryz.prog 269=true:=by kernel_rfl
theorem aA3:aE Tryz.prog 270=true:=by kernel_rfl
theorem axE:aE Tryz.prog 271=true:=by kernel_rfl
theorem apI:aE Tryz.prog 272=true:=by kernel_rfl
theorem atQ:aE Tryz.prog 273=true:=by kernel_rfl
theorem aAL:aE Tryz.prog 274=true:=by kernel_rfl
theorem atD:aE Tryz.prog 275=true:=by kernel_rfl
theorem axC:aE Tryz.prog 276=true:=by kernel_rfl
theorem avO:aE Tryz.prog 277=true:=by kernel_rfl
theorem asP:aE Tryz.prog 278=true:=by kernel_rfl
theorem ayM:aE Tryz.prog 279=true:=by kernel_rfl
theorem auI:aE Tryz.prog 280=true:=by kernel_rfl
theorem azZ:aE Tryz.prog 282=true:=by kernel_rfl
theorem aA0:aE Tryz.prog 283=true:=by kernel_rfl
theorem azV:aE Tryz.prog 284=true:=by kernel_rfl
theorem arJ:aE Tryz.prog 285=true:=by kernel_rfl
theorem aAf:aE Tryz.prog 286=true:=by kernel_rfl
theorem asL:aE Tryz.prog 287=true:=by kernel_rfl
theorem atX:aE Tryz.prog 288=true:=by kernel_rfl
theorem asU:aE Tryz.prog 289=true:=by kernel_rfl
theorem avB:aE Tryz.prog 290=true:=by kernel_rfl
theorem azR:aE Tryz.prog 291=true:=by kernel_rfl
theorem ayT:aE Tryz.prog 292=true:=by kernel_rfl
theorem arI:aE Tryz.prog 293=true:=by kernel_rfl
theorem aA8:aE Tryz.prog 294=true:=by kernel_rfl
theorem aBd:aE Tryz.prog 295=true:=by kernel_rfl
theorem ayS:aE Tryz.prog 296=true:=by kernel_rfl
theorem atZ:aE Tryz.prog 297=true:=by kernel_rfl
theorem axT:aE Tryz.prog 298=true:=by kernel_rfl
theorem aAA:aE Tryz.prog 299=true:=by kernel_rfl
theorem azC:aE Tryz.prog 300=true:=by kernel_rfl
theorem asE:aE Tryz.prog 301=true:=by kernel_rfl
theorem avT:aE Tryz.prog 302=true:=by kernel_rfl
theorem aAC:aE Tryz.prog 303=true:=by kernel_rfl
theorem awJ:aE Tryz.prog 304=true:=by kernel_rfl
theorem aAe:aE Tryz.prog 305=true:=by kernel_rfl
theorem awS:aE Tryz.prog 306=true:=by kernel_rfl
theorem ayH:aE Tryz.prog 307=true:=by kernel_rfl
theorem atJ:aE Tryz.prog 308=true:=by kernel_rfl
theorem apZ:aE Tryz.prog 309=true:=by kernel_rfl
theorem auA:aE Tryz.prog 310=true:=by kernel_rfl
theorem aAM:aE Tryz.prog 311=true:=by kernel_rfl
theorem aAI:aE Tryz.prog 312=true:=by kernel_rfl
theorem ayY:aE Tryz.prog 313=true:=by kernel_rfl
theorem axL:aE Tryz.prog 314=true:=by kernel_rfl
theorem atK:aE Tryz.prog 316=true:=by kernel_rfl
theorem axR:aE Tryz.prog 317=true:=by kernel_rfl
theorem arH:aE Tryz.prog 318=true:=by kernel_rfl
theorem asA:aE Tryz.prog 319=true:=by kernel_rfl
theorem arN:aE Tryz.prog 320=true:=by kernel_rfl
theorem aqI:aE Tryz.prog 321=true:=by kernel_rfl
theorem apO:aE Tryz.prog 345=true:=by kernel_rfl
attribute [go_sem] it3 it5 st9 it40 ayO bo4 fl97 avJ auW aoJ anZ apD amS alR alM aoU aoM alN aoN anL alW alO alP aoE aoL alU amI aoH anS anC amQ alV afG aiX agU afU alS alL aoT aoF amE amH alZ anV aoC anD alI aoR apE aoY anB acH agH aiP agQ ahM afI afP agX agN ajT ahT aiH aeJ aeD afR adD ahU ahY acS afB acK ajL aeR acV afQ adY agM aiE acJ aiA adO agC adU agZ ahA ahJ aeZ aiL acX ahI afN aeE aeK ajC ahB agS ahG agF ajJ acE ajM aiT agJ aiC el22 sl22 el23 sl23 el26 sl26 el27 sl27 el28 sl28 el31 sl31 el32 sl32 el43 sl43 st46 awB sl61 amO sl62 el91 sl91 aAg sl92 ajW awZ avW atH asW atW aqK apW arQ arV ayD asC asO aqD aBc arR awN arU auH axJ ayW atR axD apT aAh avU arB atP aAQ azS avA aAJ arO arK ld3 ld4 ld9 ld22 ld23 ld25 ld26 ld27 ld28 ld30 ld31 ld35 ld43 ld46 ld61 ld62 ld64 ld66 ld87 ld92 ld94 ld97 arE asI apU auX aqY aqT asX awA auG ayX aAo aAc axG aAn aqC awU auO azB asD SR kk3 zv3 pa25 pa30 pa64 pa66 pa87 pa89 pa94 pa97 auN auQ awR azG aqX auS auP apJ arM aAv avR aA6 avK axK apF auC aA4 so3 so4 azO avE avF anP avN ajF aqE abN akM ze3 ze4 ze9 ni25 ze25 ni30 ze30 ze64 ze66 ze87 ni89 ze89 ze94 ze97 asV axW auM aAN axX awD akY aAT azF apK axP aAk aA9 aAz apS aqF awK aAP aA5 co2 co3 co4 co5 co6 co7 co8 co9 co10 co11 co12 co13 co14 co15 co16 co17 co18 co19 co20 co21 co22 co23 co24 co25 co26 co27 co28 co29 co30 co31 co32 co33 co34 co35 co36 co37 co38 co39 co40 co41 co42 co43 co44 co45 co46 co47 co48 co49 co50 co51 co52 co53 co54 co55 co56 co57 co58 co59 co60 co61 co62 co63 co64 co65 co66 co67 co68 co69 co70 co71 co72 co73 co74 co75 co76 co77 co78 co79 co80 co81 co82 co83 co84 co85 co86 co87 co88 co89 co90 co91 co92 co93 co94 co95 co96 co97 co98 co99 awH ayI aqQ arA apM aAS azN arZ aqR auF atO awO aAU awX axB ayK apL asF aAl aAx ayZ auK asJ atI avV azJ auU asT asB aAO aqS azQ atV asY aAZ aqN aAH avG awM asZ asS aAG aqO avQ azU apP asK atN aqJ asG axN auL avH aA7 aAX awG aAi arX axI axZ aqL axQ ayJ avD axY auZ auY apG auJ aBa aqZ axS apR ayV aAt asQ aAF aAb asR atM awI axA avX azX axM avM apX ayR arF awP avL aAs aqB azW auV ayF aqH azD ayE apY aqM ayB ayA auR azK axO auD apH aAa atS awC ayL avP azA azE ayC atB auB azY ayQ avY asN ayU aA1 atC aAK arS awQ axH aqP arT arL apN azP aAd awW arD atU atF aAr aAy atG atY avZ aAq azH aqU azT awY ayP aAY aqG aAR aAD aAu awE auT aAm arW atE aAB azI awL awT aAw asM aqV aA3 axE apI atQ aAL atD axC avO asP ayM auI azZ aA0 azV arJ aAf asL atX asU avB azR ayT arI aA8 aBd ayS atZ axT aAA azC asE avT aAC awJ aAe awS ayH atJ apZ auA aAM aAI ayY axL atK axR arH asA arN aqI apO
end Go.Proofs.YtdlijlecpopadaaGreatDoor.Ty
end
section
namespace Go.Aw.D
open Go.Aw
def aR(n:Int):List AV:=[.v (.int .i64 n)]
def fX(b:Bool):List AV:=[.v (.bool b)]
def fK(s:ByteArray):List AV:=[.v (.string s)]
theorem Gu(x:Int):(aR x).length=1:=rfl
theorem Xw(x:Int):(aR x).getD 0 .any=.v (.int .i64 x):=rfl
theorem Ox(x:Bool):(fX x).length=1:=rfl
theorem VJ(x:Bool):(fX x).getD 0 .any=.v (.bool x):=rfl
theorem PP(x:ByteArray):(fK x).length=1:=rfl
theorem aaV(x:ByteArray):(fK x).getD 0 .any=.v (.string x):=rfl
structure Point where
 t:Int
 a:Int
 deriving DecidableEq
def cA(x:Point):List AV:=[.v (.int .i64 x.t),.v (.int .i64 x.a)]
theorem gX(x:Point):(cA x).length=2:=rfl
theorem Qg(x:Point):(cA x).getD 0 .any=.v (.int .i64 x.t):=rfl
theorem Qt(x:Point):(cA x).getD 1 .any=.v (.int .i64 x.a):=rfl
theorem Br(x:Point):(cA x).take 2=cA x:=rfl
structure Arc where
 src:Int
 dst:Int
 profile:Int
 miles:Int
 travel:List Point
 slow:List Point
 deriving DecidableEq
def gF(x:Arc):List AV:=[.v (.int .i64 x.src),.v (.int .i64 x.dst),.v (.int .i64 x.profile),.v (.int .i64 x.miles),.sl (x.travel.map cA),.sl (x.slow.map cA)]
theorem jH(x:Arc):(gF x).length=6:=rfl
theorem ZQ(x:Arc):(gF x).getD 0 .any=.v (.int .i64 x.src):=rfl
theorem Zb(x:Arc):(gF x).getD 1 .any=.v (.int .i64 x.dst):=rfl
theorem abD(x:Arc):(gF x).getD 2 .any=.v (.int .i64 x.profile):=rfl
theorem X7(x:Arc):(gF x).getD 3 .any=.v (.int .i64 x.miles):=rfl
theorem WL(x:Arc):(gF x).getD 4 .any=.sl (x.travel.map cA):=rfl
theorem aaQ(x:Arc):(gF x).getD 5 .any=.sl (x.slow.map cA):=rfl
theorem Qh(x:Arc):(gF x).take 6=gF x:=rfl
structure Network where
 places:List ByteArray
 arcs:List Arc
 deriving DecidableEq
def aV(x:Network):List AV:=[.sl (x.places.map fK),.sl (x.arcs.map gF)]
theorem Fc(x:Network):(aV x).length=2:=rfl
theorem KT(x:Network):(aV x).getD 0 .any=.sl (x.places.map fK):=rfl
theorem Kg(x:Network):(aV x).getD 1 .any=.sl (x.arcs.map gF):=rfl
theorem Fx(x:Network):(aV x).take 2=aV x:=rfl
structure VType where
 name:ByteArray
 count:Int
 src:Int
 dst:Int
 cap:List Int
 skills:Int
 profile:Int
 start:Int
 close:Int
 drive:Int
 rest:Int
 fixed:Int
 perMile:Int
 perTick:Int
 deriving DecidableEq
def aY(x:VType):List AV:=[.v (.string x.name),.v (.int .i64 x.count),.v (.int .i64 x.src),.v (.int .i64 x.dst),.sl (x.cap.map aR),.v (.int .i64 x.skills),.v (.int .i64 x.profile),.v (.int .i64 x.start),.v (.int .i64 x.close),.v (.int .i64 x.drive),.v (.int .i64 x.rest),.v (.int .i64 x.fixed),.v (.int .i64 x.perMile),.v (.int .i64 x.perTick)]
theorem oU(x:VType):(aY x).length=14:=rfl
theorem Qk(x:VType):(aY x).getD 0 .any=.v (.string x.name):=rfl
theorem PG(x:VType):(aY x).getD 1 .any=.v (.int .i64 x.count):=rfl
theorem QB(x:VType):(aY x).getD 2 .any=.v (.int .i64 x.src):=rfl
theorem Sx(x:VType):(aY x).getD 3 .any=.v (.int .i64 x.dst):=rfl
theorem Qc(x:VType):(aY x).getD 4 .any=.sl (x.cap.map aR):=rfl
theorem Pu(x:VType):(aY x).getD 5 .any=.v (.int .i64 x.skills):=rfl
theorem QE(x:VType):(aY x).getD 6 .any=.v (.int .i64 x.profile):=rfl
theorem Q7(x:VType):(aY x).getD 7 .any=.v (.int .i64 x.start):=rfl
theorem Ql(x:VType):(aY x).getD 8 .any=.v (.int .i64 x.close):=rfl
theorem Qp(x:VType):(aY x).getD 9 .any=.v (.int .i64 x.drive):=rfl
theorem OK(x:VType):(aY x).getD 10 .any=.v (.int .i64 x.rest):=rfl
theorem Ou(x:VType):(aY x).getD 11 .any=.v (.int .i64 x.fixed):=rfl
theorem Mt(x:VType):(aY x).getD 12 .any=.v (.int .i64 x.perMile):=rfl
theorem O0(x:VType):(aY x).getD 13 .any=.v (.int .i64 x.perTick):=rfl
theorem J7(x:VType):(aY x).take 14=aY x:=rfl
structure Stop where
 place:Int
 start:Int
 close:Int
 service:Int
 deriving DecidableEq
def dZ(x:Stop):List AV:=[.v (.int .i64 x.place),.v (.int .i64 x.start),.v (.int .i64 x.close),.v (.int .i64 x.service)]
theorem kA(x:Stop):(dZ x).length=4:=rfl
theorem VA(x:Stop):(dZ x).getD 0 .any=.v (.int .i64 x.place):=rfl
theorem Wi(x:Stop):(dZ x).getD 1 .any=.v (.int .i64 x.start):=rfl
theorem Vp(x:Stop):(dZ x).getD 2 .any=.v (.int .i64 x.close):=rfl
theorem Ww(x:Stop):(dZ x).getD 3 .any=.v (.int .i64 x.service):=rfl
theorem Ma(x:Stop):(dZ x).take 4=dZ x:=rfl
structure Order where
 name:ByteArray
 load:List Int
 pick:Stop
 drop:Stop
 skills:Int
 penalty:Int
 split:Int
 last:Int
 now:Int
 off:Bool
 deriving DecidableEq
def bF(x:Order):List AV:=[.v (.string x.name),.sl (x.load.map aR),.v (.int .i64 x.pick.place),.v (.int .i64 x.pick.start),.v (.int .i64 x.pick.close),.v (.int .i64 x.pick.service),.v (.int .i64 x.drop.place),.v (.int .i64 x.drop.start),.v (.int .i64 x.drop.close),.v (.int .i64 x.drop.service),.v (.int .i64 x.skills),.v (.int .i64 x.penalty),.v (.int .i64 x.split),.v (.int .i64 x.last),.v (.int .i64 x.now),.v (.bool x.off)]
theorem kZ(x:Order):(bF x).length=16:=rfl
theorem PA(x:Order):(bF x).getD 0 .any=.v (.string x.name):=rfl
theorem SC(x:Order):(bF x).getD 1 .any=.sl (x.load.map aR):=rfl
theorem PS(x:Order):(bF x).getD 2 .any=.v (.int .i64 x.pick.place):=rfl
theorem Qx(x:Order):(bF x).getD 3 .any=.v (.int .i64 x.pick.start):=rfl
theorem Q9(x:Order):(bF x).getD 4 .any=.v (.int .i64 x.pick.close):=rfl
theorem Qb(x:Order):(bF x).getD 5 .any=.v (.int .i64 x.pick.service):=rfl
theorem Qs(x:Order):(bF x).getD 6 .any=.v (.int .i64 x.drop.place):=rfl
theorem Qq(x:Order):(bF x).getD 7 .any=.v (.int .i64 x.drop.start):=rfl
theorem RI(x:Order):(bF x).getD 8 .any=.v (.int .i64 x.drop.close):=rfl
theorem QR(x:Order):(bF x).getD 9 .any=.v (.int .i64 x.drop.service):=rfl
theorem NL(x:Order):(bF x).getD 10 .any=.v (.int .i64 x.skills):=rfl
theorem Mm(x:Order):(bF x).getD 11 .any=.v (.int .i64 x.penalty):=rfl
theorem Nw(x:Order):(bF x).getD 12 .any=.v (.int .i64 x.split):=rfl
theorem N6(x:Order):(bF x).getD 13 .any=.v (.int .i64 x.last):=rfl
theorem OX(x:Order):(bF x).getD 14 .any=.v (.int .i64 x.now):=rfl
theorem Mk(x:Order):(bF x).getD 15 .any=.v (.bool x.off):=rfl
theorem Kj(x:Order):(bF x).take 16=bF x:=rfl
theorem Ha(x:Order):((bF x).drop 2).take 4=dZ x.pick:=rfl
theorem GX(x:Order):((bF x).drop 6).take 4=dZ x.drop:=rfl
structure Pair where
 a:Int
 b:Int
 deriving DecidableEq
def dC(x:Pair):List AV:=[.v (.int .i64 x.a),.v (.int .i64 x.b)]
theorem mB(x:Pair):(dC x).length=2:=rfl
theorem UI(x:Pair):(dC x).getD 0 .any=.v (.int .i64 x.a):=rfl
theorem Wu(x:Pair):(dC x).getD 1 .any=.v (.int .i64 x.b):=rfl
theorem Pg(x:Pair):(dC x).take 2=dC x:=rfl
structure Instance where
 net:Network
 types:List VType
 orders:List Order
 apart:List Pair
 before:List Pair
 deriving DecidableEq
def aL(x:Instance):List AV:=[.sl (x.net.places.map fK),.sl (x.net.arcs.map gF),.sl (x.types.map aY),.sl (x.orders.map bF),.sl (x.apart.map dC),.sl (x.before.map dC)]
theorem xR(x:Instance):(aL x).length=6:=rfl
theorem G0(x:Instance):(aL x).getD 0 .any=.sl (x.net.places.map fK):=rfl
theorem GN(x:Instance):(aL x).getD 1 .any=.sl (x.net.arcs.map gF):=rfl
theorem GM(x:Instance):(aL x).getD 2 .any=.sl (x.types.map aY):=rfl
theorem G9(x:Instance):(aL x).getD 3 .any=.sl (x.orders.map bF):=rfl
theorem GL(x:Instance):(aL x).getD 4 .any=.sl (x.apart.map dC):=rfl
theorem GR(x:Instance):(aL x).getD 5 .any=.sl (x.before.map dC):=rfl
theorem Eo(x:Instance):(aL x).take 6=aL x:=rfl
theorem Em(x:Instance):(aL x).take 2=aV x.net:=rfl
structure Visit where
 order:Int
 drop:Bool
 deriving DecidableEq
def aK(x:Visit):List AV:=[.v (.int .i64 x.order),.v (.bool x.drop)]
theorem cL(x:Visit):(aK x).length=2:=rfl
theorem RY(x:Visit):(aK x).getD 0 .any=.v (.int .i64 x.order):=rfl
theorem RR(x:Visit):(aK x).getD 1 .any=.v (.bool x.drop):=rfl
theorem Ld(x:Visit):(aK x).take 2=aK x:=rfl
structure Route where
 type:Int
 start:Int
 rests:List Bool
 visits:List Visit
 deriving DecidableEq
def dO(x:Route):List AV:=[.v (.int .i64 x.type),.v (.int .i64 x.start),.sl (x.rests.map fX),.sl (x.visits.map aK)]
theorem wS(x:Route):(dO x).length=4:=rfl
theorem PH(x:Route):(dO x).getD 0 .any=.v (.int .i64 x.type):=rfl
theorem QG(x:Route):(dO x).getD 1 .any=.v (.int .i64 x.start):=rfl
theorem Qe(x:Route):(dO x).getD 2 .any=.sl (x.rests.map fX):=rfl
theorem PO(x:Route):(dO x).getD 3 .any=.sl (x.visits.map aK):=rfl
theorem JP(x:Route):(dO x).take 4=dO x:=rfl
structure Plan where
 routes:List Route
 unserved:List Int
 deriving DecidableEq
structure Fault where
 err:Int
 at_:ByteArray
 deriving DecidableEq
def gQ(x:Fault):List AV:=[.v (.int .i64 x.err),.v (.string x.at_)]
theorem K3(x:Fault):(gQ x).length=2:=rfl
theorem SJ(x:Fault):(gQ x).getD 0 .any=.v (.int .i64 x.err):=rfl
theorem RQ(x:Fault):(gQ x).getD 1 .any=.v (.string x.at_):=rfl
theorem KJ(x:Fault):(gQ x).take 2=gQ x:=rfl
structure Decision where
 kind:Int
 a:Int
 b:Int
 n:Int
 deriving DecidableEq
structure Column where
 type:Int
 set:Int
 price:Int
 route:Route
 deriving DecidableEq
def eT(x:Column):List AV:=[.v (.int .i64 x.type),.v (.int .i64 x.set),.v (.int .i64 x.price),.v (.int .i64 x.route.type),.v (.int .i64 x.route.start),.sl (x.route.rests.map fX),.sl (x.route.visits.map aK)]
theorem iW(x:Column):(eT x).length=7:=rfl
theorem M0(x:Column):(eT x).getD 0 .any=.v (.int .i64 x.type):=rfl
theorem L2(x:Column):(eT x).getD 1 .any=.v (.int .i64 x.set):=rfl
theorem MA(x:Column):(eT x).getD 2 .any=.v (.int .i64 x.price):=rfl
theorem LQ(x:Column):(eT x).getD 3 .any=.v (.int .i64 x.route.type):=rfl
theorem ME(x:Column):(eT x).getD 4 .any=.v (.int .i64 x.route.start):=rfl
theorem O4(x:Column):(eT x).getD 5 .any=.sl (x.route.rests.map fX):=rfl
theorem My(x:Column):(eT x).getD 6 .any=.sl (x.route.visits.map aK):=rfl
theorem G3(x:Column):(eT x).take 7=eT x:=rfl
theorem Eg(x:Column):((eT x).drop 3).take 4=dO x.route:=rfl
structure Score where
 cost:Int
 moved:Int
 other:Int
 work:Int
 deriving DecidableEq
def gC(x:Score):List AV:=[.v (.int .i64 x.cost),.v (.int .i64 x.moved),.v (.int .i64 x.other),.v (.int .i64 x.work)]
structure Cut where
 kind:Int
 set:Int
 n:Int
 deriving DecidableEq
structure TimeT where
 arrive:Int
 start:Int
 depart:Int
 rest:Bool
 deriving DecidableEq
def Ms(x:TimeT):List AV:=[.v (.int .i64 x.arrive),.v (.int .i64 x.start),.v (.int .i64 x.depart),.v (.bool x.rest)]
structure Weight where
 yes:Int
 no:Int
 noneYes:Bool
 noneNo:Bool
 deriving DecidableEq
structure StepT where
 inst:Instance
 plan:Plan
 now:Int
 deriving DecidableEq
structure PRow where
 coef:List Int
 kind:Int
 right:Int
 deriving DecidableEq
structure PLin where
 cost:List Int
 rows:List PRow
 deriving DecidableEq
structure Ask where
 x:Instance
 l:List Column
 cuts:List Cut
 d:List Decision
 deriving DecidableEq
structure Sheet where
 rest:Bool
 depart:Int
 times:List TimeT
 stop:Int
 miles:Int
 deriving DecidableEq
def dB(x:Sheet):List AV:=[.v (.bool x.rest),.v (.int .i64 x.depart),.sl (x.times.map Ms),.v (.int .i64 x.stop),.v (.int .i64 x.miles)]
theorem PX(x:Sheet):(dB x).getD 0 .any=.v (.bool x.rest):=rfl
theorem P2(x:Sheet):(dB x).getD 1 .any=.v (.int .i64 x.depart):=rfl
theorem PF(x:Sheet):(dB x).getD 2 .any=.sl (x.times.map Ms):=rfl
attribute [go_sem] Gu Xw Ox VJ PP aaV gX Qg Qt Br jH ZQ Zb abD X7 WL aaQ Qh Fc KT Kg Fx oU Qk PG QB Sx Qc Pu QE Q7 Ql Qp OK Ou Mt O0 J7 kA VA Wi Vp Ww Ma kZ PA SC PS Qx Q9 Qb Qs Qq RI QR NL Mm Nw N6 OX Mk Kj Ha GX mB UI Wu Pg xR G0 GN GM G9 GL GR Eo Em cL RY RR Ld wS PH QG Qe PO JP K3 SJ RQ KJ iW M0 L2 MA LQ ME O4 My G3 Eg PX P2 PF
theorem aH{α:Type}{f:α->List AV}{l:List α}{k:Nat}{x:α}(h:l[k]?=some x):(l.map f).getD k []=f x:=by simp[List.getD,h]
theorem adL{α:Type}(f:α->List AV)(l:List α):(l.map f).length=l.length:=List.length_map f
theorem Ju(n:Nat):((n:Int)).toNat=n:=Int.toNat_natCast n
attribute [go_sem] adL Ju
theorem aW{n:Int}(h: -9223372036854775808<=n/\n<=9223372036854775807):IntKind.i64.wrap n=n:=IntWalk.i64_in n h
end Go.Aw.D
end
section
namespace Go.Proofs.YtdlijlecpopadaaGreatDoor
open Go.Aw Go.Aw.D Go.Proofs Ty
abbrev int(n:Int):AV:=.v (.int .i64 n)
abbrev str(s:ByteArray):AV:=.v (.string s)
abbrev boo(b:Bool):AV:=.v (.bool b)
theorem bX{α:Type}{l:List α}{k:Nat}{x:α}(h:l[k]?=some x):l.take (k+1)=l.take k++[x]:=by
 rw[List.take_add_one,h];rfl
theorem aQ{α:Type}{l:List α}{k:Nat}(h:k<l.length):∃x,l[k]?=some x:=⟨l[k],List.getElem?_eq_getElem h⟩
theorem inB{k n:Nat}(h:k<n):0<=(k:Int)/\(k:Int)<(n:Int):=by omega
theorem aS{k:Nat}(h:k<=4611686018427387904):IntKind.i64.wrap ((k:Int)+1)=((k+1:Nat):Int):=by rw[aW (by omega)];omega
theorem ZE{k:Nat}(h:k<=4611686018427387904):(IntKind.i64.wrap ((k:Int)-1)).toNat=k-1:=by rw[aW (by omega)];omega
theorem oI{k:Nat}(h:k<=4611686018427387904):IntKind.i64.wrap ((k:Int)-1)=(k:Int)-1:=aW (by omega)
def D0(e:TypeId×Nat×Nat)(d:Option Tmp)(j:Nat)(x:AV)(ρ:Env)(H:aJ)(K:Env->aJ->Prop):Prop:=match H j with
 | some r => xV H x fun news => (r.e = e.1 /\ r.sz = e.2.1 /\ cZ e.2.1 news /\ (r.es.length + news.length) * e.2.2 <= 140737488355328) /\
       ∀k',H k'=none->K (upd ρ d (.os k')) (aI (aI H j none) k' (some ⟨e.1,e.2.1,r.es++news⟩))
 | none=>False
theorem XD{P:Program}{d:Option Tmp}{t:TypeId}{j:Nat}{x:AV}{ρ:Env}{H:aJ}{K:Env->aJ->Prop}:J8 P d t (.os j) x ρ H K=bJ (bY P t) (fun e=>D0 e d j x ρ H K):=by
 unfold J8 tO D0;cases bY P t with
 | none=>rfl
 | some e=>obtain⟨a,b,c⟩:=e;rfl
@[congr] theorem wappE_c {e d j x x' ρ H K} (h':x=x'):D0 e d j x ρ H K=D0 e d j x' ρ H K:=h'▸rfl
@[congr] theorem FCalls_c {P f a a' H R} (h':a=a'):bA P f a H R=bA P f a' H R:=h'▸rfl
theorem bG{e:TypeId×Nat×Nat}{d:Option Tmp}{j:Nat}{news:List (List AV)}{ρ:Env}{H:aJ}{K:Env->aJ->Prop}{r:Row}(F:H j=some r)
   (h1:r.e=e.1/\r.sz=e.2.1) (J:cZ e.2.1 news) (I:(r.es.length+news.length)*e.2.2<=140737488355328)
   (h:∀E,H E=none->K (upd ρ d (.os E)) (aI (aI H j none) E (some ⟨e.1,e.2.1,r.es++news⟩))):D0 e d j (.sl news) ρ H K:=by
 unfold D0;simp only[F];exact⟨⟨h1.1,h1.2,J,I⟩,h⟩
theorem Cu{e:TypeId×Nat×Nat}{d:Option Tmp}{j i:Nat}{r':Row}{ρ:Env}{H:aJ}{K:Env->aJ->Prop}{r:Row}(F:H j=some r)(hi:H i=some r')
   (h1:r.e=e.1/\r.sz=e.2.1) (J:cZ e.2.1 r'.es) (I:(r.es.length+r'.es.length)*e.2.2<=140737488355328)
   (h:∀E,H E=none->K (upd ρ d (.os E)) (aI (aI H j none) E (some ⟨e.1,e.2.1,r.es++r'.es⟩))):D0 e d j (.os i) ρ H K:=by
 unfold D0;simp only[F,xV,hi];exact⟨⟨h1.1,h1.2,J,I⟩,h⟩
theorem bH{P:Program}{C:lW}{PC:FuncId->List AV->aJ->AV->Prop}{mt:Nat->Bool}{a b:Code}{x:AV}{K:Env->aJ->Prop}{Q:Ex->Env->aJ->Prop}{ρ:Env}{H:aJ}(J:Env->aJ->Prop)(h1:∀ρ H,J ρ H->K ρ H)
 (E:∀K:Env->aJ->Prop,(∀ρ H,J ρ H->K ρ H)->yI x (awp P C PC mt a (Ex.seq K Q)) (awp P C PC mt b (Ex.seq K Q)) ρ H):yI x (awp P C PC mt a (Ex.seq K Q)) (awp P C PC mt b (Ex.seq K Q)) ρ H:=E K h1
theorem pQ{x:AV}{A B:Env->aJ->Prop}{ρ:Env}{H:aJ}(J:Env->aJ->Prop)(h1:J ρ H)(E:∀ρ H,J ρ H->yI x A B ρ H):yI x A B ρ H:=E ρ H h1
theorem FH{P:Program}{C:lW}{PC:FuncId->List AV->aJ->AV->Prop}{mt:Nat->Bool}{c:Code}{id:Nat}{Q:Ex->Env->aJ->Prop}{ρ:Env}{H:aJ}(J:Env->aJ->Prop)(h1:∀ρ H,J ρ H->Q .normal ρ H)
   (E:∀Q':Ex->Env->aJ->Prop,(∀ρ H,J ρ H->Q' (.exit id) ρ H)->(∀ρ H,Q .ret ρ H->Q' .ret ρ H)->S6 (awp P C PC mt c) Q' ρ H):S6 (awp P C PC mt c) (Ex.blk id Q) ρ H:=
 E (Ex.blk id Q) (fun ρ H h=>by rw[Pd];exact h1 ρ H h) (fun ρ H h=>by rw[S5];exact h)
theorem hU{P:Program}{C:lW}{PC:FuncId->List AV->aJ->AV->Prop}{mt:Nat->Bool}{a b:Code}{x:AV}{Q:Ex->Env->aJ->Prop}{ρ:Env}{H:aJ}(J:Env->aJ->Prop)(h1:∀ρ H,J ρ H->Q .normal ρ H)
   (E:∀Q':Ex->Env->aJ->Prop,(∀ρ H,J ρ H->Q' .normal ρ H)->(∀i ρ H,Q (.exit i) ρ H->Q' (.exit i) ρ H)->(∀ρ H,Q .ret ρ H->Q' .ret ρ H)->yI x (awp P C PC mt a Q') (awp P C PC mt b Q') ρ H):yI x (awp P C PC mt a Q) (awp P C PC mt b Q) ρ H:=
 E Q h1 (fun _ _ _ h=>h) (fun _ _ h=>h)
def Gt(P:Program)(t:TypeId)(l:Option Nat)(d:Option Tmp)(j i f:Nat)(cs:List AV)(ρ:Env)(H:aJ)(K:Env->aJ->Prop):Prop:=match H j with
 | some r=>(i<r.es.length/\cs.length=l.getD 1/\f+cs.length<=r.sz/\(l=none->∃i,P.info? t=some i/\i.size=1))/\K (upd ρ d .any) (aI H j (some { r with es:=r.es.set i (mH (r.es.getD i []) f cs) }))
 | none=>False
def Fr(P:Program)(t:TypeId)(l:Option Nat)(d:Option Tmp)(j i f:Nat)(cs:List AV)(ρ:Env)(H:aJ)(K:Env->aJ->Prop):Prop:=
 Gt P t l d j i f cs ρ H K\/∃nl:List (Nat×TypeId×Nat),(∀x∈nl,cs[x.1]?=some (.v (.slice none 0 0))/\0<x.2.2)/\kM nl cs H fun cs H=>Gt P t l d j i f cs ρ H K
theorem aaN{P:Program}{d:Option Tmp}{t:TypeId}{j i f:Nat}{cs:List AV}{ρ:Env}{H:aJ}{K:Env->aJ->Prop}:UJ P d t (.op j i f) cs ρ H K=bJ (ldT P t) (fun l=>Fr P t l d j i f cs ρ H K):=by
 have E:∀cs H,zE P ⟨d,.move (.tmp 0),0,"",#[],none⟩ t (.op j i f) cs ρ H K=bJ (ldT P t) (fun l=>Gt P t l d j i f cs ρ H K):=by
   intro cs H;unfold zE Gt;cases h1:H j <;> cases F:ldT P t <;> simp[bJ,h1]
 unfold UJ tV Fr;simp only[E];cases F:ldT P t <;> simp[bJ]
theorem UX{P:Program}{t:TypeId}{m:Nat}{d:Option Tmp}{j i f:Nat}{cs:List AV}{ρ:Env}{H:aJ}{K:Env->aJ->Prop}{r:Row}(o:Nat)(e:TypeId)(sz:Nat)(O:cs[o]?=some (.v (.slice none 0 0))/\0<sz)(F:H j=some r)(h1:i<r.es.length/\cs.length=m/\f+cs.length<=r.sz)
   (h:∀k,H k=none->K (upd ρ d .any) (aI (aI H k (some ⟨e,sz,[]⟩)) j (some { r with es:=r.es.set i (mH (r.es.getD i []) f (cs.set o (.os k))) }))):Fr P t (some m) d j i f cs ρ H K:=by
 refine .inr ⟨[(o,e,sz)],?_,fun k I=>?_⟩
 . intro x J
   simp only[List.mem_cons,List.not_mem_nil,or_false]at J;subst J;exact O
 . have E:j≠k:=fun e=>by rw[e,I]at F;cases F
   unfold kM Gt;simp only[show aI H k (some (⟨e,sz,[]⟩:Row)) j=some r by rw[aI];rw[if_neg E];exact F];exact⟨⟨h1.1,by simpa using h1.2.1,by simpa using h1.2.2,by simp⟩,h k I⟩
@[congr] theorem wputE_c {P t l d j i f cs cs' ρ H K} (h':cs=cs'):Fr P t l d j i f cs ρ H K=Fr P t l d j i f cs' ρ H K:=h'▸rfl
theorem aM{P:Program}{t:TypeId}{m:Nat}{d:Option Tmp}{j i f:Nat}{cs:List AV}{ρ:Env}{H:aJ}{K:Env->aJ->Prop}{r:Row}(E:H j=some r)(h1:i<r.es.length/\cs.length=m/\f+cs.length<=r.sz)
   (h:K (upd ρ d .any) (aI H j (some { r with es:=r.es.set i (mH (r.es.getD i []) f cs) }))):Fr P t (some m) d j i f cs ρ H K:=by
 refine .inl ?_;unfold Gt;simp only[E];exact⟨⟨h1.1,h1.2.1,h1.2.2,by simp⟩,h⟩
theorem cE{P:Program}{t:TypeId}{d:Option Tmp}{j i f:Nat}{cs:List AV}{ρ:Env}{H:aJ}{K:Env->aJ->Prop}{r:Row}(F:∃i,P.info? t=some i/\i.size=1)(E:H j=some r)(h1:i<r.es.length/\cs.length=1/\f+cs.length<=r.sz)
   (h:K (upd ρ d .any) (aI H j (some { r with es:=r.es.set i (mH (r.es.getD i []) f cs) }))):Fr P t none d j i f cs ρ H K:=by
 refine .inl ?_;unfold Gt;simp only[E];exact⟨⟨h1.1,h1.2.1,h1.2.2,fun _=>F⟩,h⟩
theorem anJ:Int.toNat 0=0:=rfl
theorem YF{a b:Prop}:(a->b->a/\b)=True:=by simp;exact fun h1 E=>⟨h1,E⟩
attribute [go_sem ↓] XD aaN
attribute [go_sem] aaN List.set_cons_zero List.set_cons_succ
attribute [go_sem] Int.reduceToNat anJ beq_true beq_false Bool.not_eq_true' Bool.and_eq_true YF
attribute [go_sem] XD Fq Ec SN Bool.or_true Bool.true_or Bool.false_or Bool.or_false
theorem dN{H:aJ}{i j I:Nat}{r r':Row}(hi:H i=some r)(F:j≠i)(E:H I=none):aI (aI H j none) I (some r') i=some r:=by
 have h1:i≠I:=fun e=>by subst e;rw[hi]at E;simp at E
 rw[aD _ _ _ _ h1,aD _ _ _ _ (Ne.symm F),hi]
theorem lF{H:aJ}{i j:Nat}{r r':Row}(hi:H i=some r)(E:H j=none):aI H j (some r') i=some r:=by
 have h1:i≠j:=fun e=>by subst e;rw[hi]at E;simp at E
 rw[aD _ _ _ _ h1,hi]
theorem aO{H:aJ}{i j:Nat}{r:Row}(hi:H i=some r)(E:H j=none):i≠j:=fun e=>by subst e;rw[hi]at E;simp at E
def opt{α:Type}(b:Bool)(f:α):List α:=match b with|true=>[f]|false=>[]
theorem iV{α:Type}{b:Bool}{f:α}(h:b=true):opt b f=[f]:=by rw[h];rfl
theorem iX{α:Type}{b:Bool}{f:α}(h:b=false):opt b f=[]:=by rw[h];rfl
theorem cD{α:Type}(b:Bool)(f:α):(opt b f).length<=1:=by cases b <;> simp[opt]
theorem Bu{α:Type}{e:TypeId}{sz:Nat}{enc:α->List AV}{H:aJ}{k:Nat}{l l':List α}{cs:List (List AV)}(h:cs=l'.map enc):aI H k (some ⟨e,sz,l.map enc++cs⟩) k=some (⟨e,sz,(l++l').map enc⟩:Row):=by rw[aA,h,List.map_append]
theorem fG{e:TypeId}{sz:Nat}{enc:Fault->List AV}{H:aJ}{k:Nat}{l l':List Fault}{cs:List (List AV)}(h:cs=l'.map enc):aI H k (some ⟨e,sz,l.map enc++cs⟩) k=some (⟨e,sz,(l++l').map enc⟩:Row):=Bu h
theorem gR{e:TypeId}{sz:Nat}{enc:Int->List AV}{H:aJ}{k:Nat}{l l':List Int}{cs:List (List AV)}(h:cs=l'.map enc):aI H k (some ⟨e,sz,l.map enc++cs⟩) k=some (⟨e,sz,(l++l').map enc⟩:Row):=Bu h
abbrev mL(t:VType):Row:=⟨87,14,[aY t]⟩
abbrev mG(o:Order):Row:=⟨143,16,[bF o]⟩
abbrev uN(a:Arc):Row:=⟨139,6,[gF a]⟩
abbrev kY(l:List Int):Row:=⟨35,1,l.map aR⟩
abbrev bN(l:List Fault):Row:=⟨128,2,l.map gQ⟩
theorem pcb(mt:Nat->Bool){f:FuncId}{fn:Func}{args:List AV}{r:AV}(E:Tryz.prog.funcs[f]? = some fn)(h:awp Tryz.prog (bA Tryz.prog) (dG Tryz.prog) mt (fn.body.getD .skip) (Fq Tryz.prog fn.results.toList fun x H'=>Conv H' x r) (Dt args) bS)(I:fn.body=some (fn.body.getD .skip):=by rfl)(F:zX fn (fn.body.getD .skip) args.length=true:=by kernel_rfl):PC Tryz.prog f args r:=PC.body mt mixed E I F h
theorem pcd{f:FuncId}{fn:Func}{args:List AV}{r:AV}(E:Tryz.prog.funcs[f]? = some fn)(h:awp Tryz.prog (bA Tryz.prog) (dG Tryz.prog) (fun _=>false) (fn.body.getD .skip) (Fq Tryz.prog fn.results.toList fun x H'=>Conv H' x r) (Dt args) bS)(I:fn.body=some (fn.body.getD .skip):=by rfl)(F:zX fn (fn.body.getD .skip) args.length=true:=by kernel_rfl):PC Tryz.prog f args r:=PC.body (fun _=>false) mixed E I F h
theorem ncb(mt:Nat->Bool){f:FuncId}{fn:Func}{args:List AV}{row:Row}{E:Nat->AV}(F:Tryz.prog.funcs[f]? = some fn)(h:awp Tryz.prog (bA Tryz.prog) (dG Tryz.prog) mt (fn.body.getD .skip) (Fq Tryz.prog fn.results.toList fun x H'=>∃k,x=E k/\H' k=some row) (Dt args) bS)(J:fn.body=some (fn.body.getD .skip):=by rfl)(I:zX fn (fn.body.getD .skip) args.length=true:=by kernel_rfl):NC Tryz.prog f args row E:=NC.body mt mixed F J I h
theorem gdS{α:Type}{a b:α}:(some a).getD b=a:=rfl
theorem Xaa:∀{α:Type} {β:Type} {L:List α} (f:α->β),List.length (List.map f L)=List.length L:=@List.length_map
theorem Xab:∀(n:Nat),0<=n:=@Nat.zero_le
theorem Xac:∀{α:Type} {a:α} {L:List α},List.length (a::L)=List.length L+1:=@List.length_cons
theorem Xad:∀{α:Type} {l:List α} {i:Nat} {a:α},l[i]?=some a->a∈l:=@List.mem_of_getElem?
theorem Xae:∀{α:Type} {L bs:List α},List.length (L++bs)=List.length L+List.length bs:=@List.length_append
theorem Xaf:∀{α:Type} {l:List α},List.take (List.length l) l=l:=@List.take_length
theorem Xag:∀(n:Nat),n<=n:=@Nat.le_refl
theorem Xah:∀{n m k:Nat},n<=m->m<=k->n<=k:=@Nat.le_trans
theorem Xai:∀{x y:Bool},(x||y)=false↔x=false/\y=false:=@Bool.or_eq_false_iff
theorem Xaj:∀(a:Int),a<=a:=@Int.le_refl
theorem Xak:∀{α:Type} {a b:α},a∈[b]↔a=b:=@List.mem_singleton
theorem Xal:∀{α:Type} (L:List α),L++[]=L:=@List.append_nil
theorem Xam:∀(a b:Bool),((a&&b)=true)=(a=true/\b=true):=@Bool.and_eq_true
theorem Xan:∀(n:Nat),Int.toNat ↑n=n:=@Int.toNat_natCast
theorem Xao:∀{α:Type} {p:α->Bool} {l:List α},List.all l p=true↔∀(x:α),x∈l->p x=true:=@List.all_eq_true
theorem Xap:∀{m n:Nat},m∈List.range n↔m<n:=@List.mem_range
theorem Xaq:∀{α:Type} {a:α} {s t:List α},a∈s++t↔a∈s\/a∈t:=@List.mem_append
theorem Xar:∀{a b:Bool},a=b↔(a=true↔b=true):=@Bool.eq_iff_iff
theorem Xas:∀{α:Type} [inst:BEq α] [LawfulBEq α] {a b:α},(a == b)=true↔a=b:=@beq_iff_eq
theorem Xat:∀{α:Type} {β:Type} {f:α->β} {l₁ l₂:List α},List.map f (l₁++l₂)=List.map f l₁++List.map f l₂:=@List.map_append
theorem Xau:∀{α:Type} {p:α->Bool} {l:List α},List.any l p=true↔∃x,x∈l/\p x=true:=@List.any_eq_true
theorem Xav:∀{α:Type} (L bs cs:List α),L++bs++cs=L++(bs++cs):=@List.append_assoc
theorem Xaw:∀{α:Type} {i:Nat} {l:List α},List.length l<=i->List.take i l=l:=@List.take_of_length_le
theorem Xax:∀{α:Type} {i:Nat} {l:List α},List.length (List.take i l)=min i (List.length l):=@List.length_take
theorem Xay:∀{n:Nat},n>0->∀{i j:Nat},i<=j->n^i<=n^j:=@Nat.pow_le_pow_right
theorem Xaz:∀{α:Type} {p q:List α},p++q=[]↔p=[]/\q=[]:=@List.append_eq_nil_iff
theorem Xba:∀(b:Bool),(true&&b)=b:=@Bool.true_and
theorem Xbb:∀{n m k:Nat},n<=m->m<k->n<k:=@Nat.lt_of_le_of_lt
theorem Xbc:∀(a b:Bool),((a||b)=true)=(a=true\/b=true):=@Bool.or_eq_true
theorem Xbd:∀{α:Type} (L:List α),[]++L=L:=@List.nil_append
theorem Xbe:∀(n m:Nat),n<m\/n>=m:=@Nat.lt_or_ge
theorem Xbf:∀{n:Nat},List.length (List.range n)=n:=@List.length_range
theorem Xbg:∀{α:Type} {β:Type} {a:α} {l:List α} {f:β->α->β} {b:β},List.foldl f b (a::l)=List.foldl f (f b a) l:=@List.foldl_cons
theorem Xbh:∀(b:Bool),((!b)=true)=(b=false):=@Bool.not_eq_true'
theorem Xbi:∀{α:Type} {b:α} {l:List α} {a:α},a∈b::l↔a=b\/a∈l:=@List.mem_cons
theorem Xbj:(false=true)=False:=@Bool.false_eq_true
theorem Xbk:∀{α:Type} {β:Type} {f:α->β} {a:α} {l:List α},List.map f (a::l)=f a::List.map f l:=@List.map_cons
theorem Xbl:∀{α:Type} {i:Nat} {l:List α},List.length (List.drop i l)=List.length l-i:=@List.length_drop
theorem Xbm:∀{n m:Nat} (k:Nat),n<=m->n*k<=m*k:=@Nat.mul_le_mul_right
theorem Xbn:∀{a b:Nat},a<b->a%b=a:=@Nat.mod_eq_of_lt
theorem Xbo:∀{α:Type} {β:Type} {f:α->List β} {b:β} {l:List α},b∈List.flatMap f l↔∃a,a∈l/\b∈f a:=@List.mem_flatMap
theorem Xbp:∀{a b:Int},0<=a->Int.tdiv a b=a/b:=@Int.tdiv_eq_ediv_of_nonneg
theorem Xbq:∀{α:Type} {β:Type} {f:α->β} {l:List α},List.map f l=[]↔l=[]:=@List.map_eq_nil_iff
theorem Xbr:∀{α:Type} {l:List α},List.drop 0 l=l:=@List.drop_zero
theorem Xbs:∀(n m:Nat),n^Nat.succ m=n^m*n:=@Nat.pow_succ
theorem Xbt:∀{α:Type} [inst:BEq α] [ReflBEq α] (a:α),(a == a)=true:=@beq_self_eq_true
theorem Xbu:∀(b:Bool),(false||b)=b:=@Bool.false_or
theorem Xbv:∀{b:Bool},b=false↔b≠true:=@Bool.eq_false_iff
theorem Xbw:∀(n:Nat),Int.natAbs ↑n=n:=@Int.natAbs_natCast
theorem Xbx:∀{n:Nat},List.range (Nat.succ n)=List.range n++[n]:=@List.range_succ
theorem Xby:∀{α:Type} {p:α->Bool} {l:List α},List.any l p=false↔∀(x:α),x∈l->¬p x=true:=@List.any_eq_false
theorem Xbz:∀{a m n:Nat},1<a->m<n->a^m<a^n:=@Nat.pow_lt_pow_right
theorem Xca:∀{α:Type} {a:α} {L:List α} (bs:List α),a∈L->a∈L++bs:=@List.mem_append_left
theorem Xcb:∀(b:Bool),((!b)=false)=(b=true):=@Bool.not_eq_false'
theorem Xcc:∀{n m k:Nat},n<m->m<=k->n<k:=@Nat.lt_of_lt_of_le
theorem Xcd:∀(b:Bool),(false&&b)=false:=@Bool.false_and
theorem Xce:(!true)=false:=@Bool.not_true
theorem Xcf:∀(x y i:Nat),Nat.testBit (x &&& y) i=(Nat.testBit x i&&Nat.testBit y i):=@Nat.testBit_and
theorem Xcg:∀{α:Type} {β:Type} {l:List α} {f:α->List β},List.flatMap f l=[]↔∀(x:α),x∈l->f x=[]:=@List.flatMap_eq_nil_iff
theorem Xch:∀(b:Bool),(¬b=true)=(b=false):=@Bool.not_eq_true
theorem Xci:∀{a b:Nat},a<=b->min a b=a:=@Nat.min_eq_left
theorem Xcj:∀{α:Type} {n:Nat} {a:α},List.length (List.replicate n a)=n:=@List.length_replicate
theorem Xck:∀{a:Int},a<=0->↑(Int.natAbs a)= -a:=@Int.ofNat_natAbs_of_nonpos
theorem Xcl:∀{a:Int},0<=a->↑(Int.natAbs a)=a:=@Int.natAbs_of_nonneg
theorem Xcm:∀{α:Type} {a b:α},Option.getD (some a) b=a:=@Option.getD_some
theorem Xcn:∀{n m:Nat},n≠m->Nat.testBit (2^n) m=false:=@Nat.testBit_two_pow_of_ne
theorem Xco:∀(a:Rat),a+0=a:=@Rat.add_zero
theorem Xcp:∀{α:Type} {i:Nat} {l:List α} (h:i<List.length l),List.drop i l=l[i]::List.drop (i+1) l:=@List.drop_eq_getElem_cons
theorem Xcq:∀(n m k:Nat),n*m*k=n*(m*k):=@Nat.mul_assoc
theorem Xcr:(!false)=true:=@Bool.not_false
theorem Xcs:∀{x y n:Nat},x<2^n->y<2^n->x ||| y<2^n:=@Nat.or_lt_two_pow
theorem Xct:∀{x y:Nat},(∀(i:Nat),Nat.testBit x i=Nat.testBit y i)->x=y:=@Nat.eq_of_testBit_eq
theorem Xcu:∀{α:Type} (p:α->Bool) (l:List α),List.length (List.filter p l)<=List.length l:=@List.length_filter_le
theorem Xcv:∀(a:Int),a+0=a:=@Int.add_zero
theorem Xcw:∀{n m:Nat},n &&& m<=n:=@Nat.and_le_left
theorem Xcx:∀{n:Nat},Nat.testBit (2^n) n=true:=@Nat.testBit_two_pow_self
theorem Xcy:∀{α:Type} {l:List α},0<List.length l↔l≠[]:=@List.length_pos_iff
theorem Xcz:∀{α:Type} (i:Nat) (l:List α),List.take i l++List.drop i l=l:=@List.take_append_drop
theorem Xda:∀{a b:Int},0<=a->Int.tmod a b=a%b:=@Int.tmod_eq_emod_of_nonneg
theorem Xdb:∀{n m:Nat} (k:Nat),n<=m->k*n<=k*m:=@Nat.mul_le_mul_left
theorem Xdc:∀{α:Type} {i:Nat} {l:List α},List.length l<=i->List.drop i l=[]:=@List.drop_of_length_le
theorem Xdd:∀{α:Type} {b:α} (L:List α) {bs:List α},b∈bs->b∈L++bs:=@List.mem_append_right
theorem Xde:∀(n k:Nat),n/k<=n:=@Nat.div_le_self
theorem Xdf:∀{a b c:Int},a<=b->0<=c->c*a<=c*b:=@Int.mul_le_mul_of_nonneg_left
theorem Xdg:∀(a b:Rat),a-b=a+ -b:=@Rat.sub_eq_add_neg
theorem Xdh:∀{i x:Nat},Nat.testBit x i=decide (x/2^i%2=1):=@Nat.testBit_eq_decide_div_mod_eq
end Go.Proofs.YtdlijlecpopadaaGreatDoor
end
