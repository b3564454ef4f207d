/- Texts joined by a program: Types, Data. -/
import Derived.Test.YtdlijlecpopadaaGreatDoorChecked
import Derived.KernelRfl
import Derived.Test.YtdlijlecpopadaaGreatDoorZv09
set_option linter.unusedSimpArgs false
set_option linter.unusedVariables false
set_option maxRecDepth 100000
section
namespace Go.Proofs.YtdlijlecpopadaaGreatDoor.Ty
open Go.Aw Go.Proofs
theorem nQ{P:Program}{t:TypeId}(h:(P.info? t).map (·.size)=some 1):∃i,P.info? t=some i∧i.size=1:=by
 cases hi:P.info? t with
 | none=>simp[hi]at h
 | some i=>exact⟨i,rfl,by simpa[hi]using h⟩
theorem mixed:Tryz.prog.follows .mixedOrders=true:=by kernel_rfl
theorem it3:Bb Tryz.prog 3=some .i64:=by kernel_rfl
theorem it5:Bb Tryz.prog 5=some .u8:=by kernel_rfl
theorem st9:dI Tryz.prog 9=true:=by kernel_rfl
theorem it40:Bb Tryz.prog 40=some .u64:=by kernel_rfl
theorem it56:Bb Tryz.prog 56=some .u16:=by kernel_rfl
theorem aeL:zI Tryz.prog 206=true:=by kernel_rfl
theorem bo4:vN Tryz.prog 4=true:=by kernel_rfl
theorem aaE:wG Tryz.prog 285=some [0,0,0]:=by kernel_rfl
theorem Wz:aK Tryz.prog 25 0=some (0,none):=by kernel_rfl
theorem Ww:aK Tryz.prog 25 1=some (1,none):=by kernel_rfl
theorem Wh:aK Tryz.prog 30 0=some (0,some 2):=by kernel_rfl
theorem Xu:aK Tryz.prog 30 1=some (2,none):=by kernel_rfl
theorem XG:aK Tryz.prog 30 2=some (3,none):=by kernel_rfl
theorem XL:aK Tryz.prog 30 3=some (4,none):=by kernel_rfl
theorem W9:aK Tryz.prog 30 4=some (5,none):=by kernel_rfl
theorem XJ:aK Tryz.prog 87 0=some (0,none):=by kernel_rfl
theorem Xn:aK Tryz.prog 87 1=some (1,none):=by kernel_rfl
theorem Xa:aK Tryz.prog 87 2=some (2,none):=by kernel_rfl
theorem Xw:aK Tryz.prog 87 3=some (3,none):=by kernel_rfl
theorem Xb:aK Tryz.prog 87 4=some (4,none):=by kernel_rfl
theorem Wa:aK Tryz.prog 87 5=some (5,none):=by kernel_rfl
theorem WZ:aK Tryz.prog 87 6=some (6,none):=by kernel_rfl
theorem XA:aK Tryz.prog 87 7=some (7,none):=by kernel_rfl
theorem Wl:aK Tryz.prog 87 8=some (8,none):=by kernel_rfl
theorem Xy:aK Tryz.prog 87 9=some (9,none):=by kernel_rfl
theorem TH:aK Tryz.prog 87 10=some (10,none):=by kernel_rfl
theorem UA:aK Tryz.prog 87 11=some (11,none):=by kernel_rfl
theorem Uu:aK Tryz.prog 87 12=some (12,none):=by kernel_rfl
theorem Uz:aK Tryz.prog 87 13=some (13,none):=by kernel_rfl
theorem XE:aK Tryz.prog 89 0=some (0,some 6):=by kernel_rfl
theorem Xx:aK Tryz.prog 89 1=some (6,none):=by kernel_rfl
theorem Wt:aK Tryz.prog 89 2=some (7,some 14):=by kernel_rfl
theorem Wp:aK Tryz.prog 89 3=some (21,none):=by kernel_rfl
theorem Wn:aK Tryz.prog 89 4=some (22,none):=by kernel_rfl
theorem Wq:aK Tryz.prog 89 5=some (23,none):=by kernel_rfl
theorem Xr:aK Tryz.prog 94 0=some (0,none):=by kernel_rfl
theorem Xs:aK Tryz.prog 94 1=some (1,none):=by kernel_rfl
theorem Wd:aK Tryz.prog 94 2=some (2,none):=by kernel_rfl
theorem WA:aK Tryz.prog 94 3=some (3,none):=by kernel_rfl
theorem XI:aK Tryz.prog 94 4=some (4,none):=by kernel_rfl
theorem Xl:aK Tryz.prog 94 5=some (5,none):=by kernel_rfl
theorem We:aK Tryz.prog 94 6=some (6,none):=by kernel_rfl
theorem Wy:aK Tryz.prog 97 0=some (0,none):=by kernel_rfl
theorem Xq:aK Tryz.prog 97 1=some (1,none):=by kernel_rfl
theorem Uv:aK Tryz.prog 128 0=some (0,none):=by kernel_rfl
theorem TN:aK Tryz.prog 128 1=some (1,none):=by kernel_rfl
theorem VD:aK Tryz.prog 136 0=some (0,none):=by kernel_rfl
theorem Uw:aK Tryz.prog 136 1=some (1,none):=by kernel_rfl
theorem UU:aK Tryz.prog 139 0=some (0,none):=by kernel_rfl
theorem Vc:aK Tryz.prog 139 1=some (1,none):=by kernel_rfl
theorem Vh:aK Tryz.prog 139 2=some (2,none):=by kernel_rfl
theorem Ur:aK Tryz.prog 139 3=some (3,none):=by kernel_rfl
theorem UH:aK Tryz.prog 139 4=some (4,none):=by kernel_rfl
theorem UD:aK Tryz.prog 139 5=some (5,none):=by kernel_rfl
theorem U1:aK Tryz.prog 141 0=some (0,none):=by kernel_rfl
theorem Uk:aK Tryz.prog 141 1=some (1,none):=by kernel_rfl
theorem Ue:aK Tryz.prog 141 2=some (2,none):=by kernel_rfl
theorem Uy:aK Tryz.prog 141 3=some (3,none):=by kernel_rfl
theorem Vn:aK Tryz.prog 143 0=some (0,none):=by kernel_rfl
theorem UV:aK Tryz.prog 143 1=some (1,none):=by kernel_rfl
theorem Vj:aK Tryz.prog 143 2=some (2,some 4):=by kernel_rfl
theorem UK:aK Tryz.prog 143 3=some (6,some 4):=by kernel_rfl
theorem Uq:aK Tryz.prog 143 4=some (10,none):=by kernel_rfl
theorem Tw:aK Tryz.prog 143 5=some (11,none):=by kernel_rfl
theorem TY:aK Tryz.prog 143 6=some (12,none):=by kernel_rfl
theorem Ul:aK Tryz.prog 143 7=some (13,none):=by kernel_rfl
theorem Vg:aK Tryz.prog 143 8=some (14,none):=by kernel_rfl
theorem Tu:aK Tryz.prog 143 9=some (15,none):=by kernel_rfl
theorem U9:aK Tryz.prog 157 0=some (0,none):=by kernel_rfl
theorem TU:aK Tryz.prog 157 1=some (1,none):=by kernel_rfl
theorem UO:aK Tryz.prog 183 0=some (0,none):=by kernel_rfl
theorem T2:aK Tryz.prog 183 1=some (1,none):=by kernel_rfl
theorem el22:bY Tryz.prog 22=some (9,1,16):=by kernel_rfl
theorem sl22:cG Tryz.prog 22=true:=by kernel_rfl
theorem el23:bY Tryz.prog 23=some (139,6,80):=by kernel_rfl
theorem sl23:cG Tryz.prog 23=true:=by kernel_rfl
theorem el26:bY Tryz.prog 26=some (87,14,136):=by kernel_rfl
theorem sl26:cG Tryz.prog 26=true:=by kernel_rfl
theorem el27:bY Tryz.prog 27=some (143,16,152):=by kernel_rfl
theorem sl27:cG Tryz.prog 27=true:=by kernel_rfl
theorem el28:bY Tryz.prog 28=some (192,2,16):=by kernel_rfl
theorem sl28:cG Tryz.prog 28=true:=by kernel_rfl
theorem el31:bY Tryz.prog 31=some (3,1,8):=by kernel_rfl
theorem sl31:cG Tryz.prog 31=true:=by kernel_rfl
theorem el32:bY Tryz.prog 32=some (128,2,24):=by kernel_rfl
theorem sl32:cG Tryz.prog 32=true:=by kernel_rfl
theorem el43:bY Tryz.prog 43=some (46,1,16):=by kernel_rfl
theorem sl43:cG Tryz.prog 43=true:=by kernel_rfl
theorem st46:dI Tryz.prog 46=true:=by kernel_rfl
theorem el61:bY Tryz.prog 61=some (4,1,1):=by kernel_rfl
theorem sl61:cG Tryz.prog 61=true:=by kernel_rfl
theorem el62:bY Tryz.prog 62=some (97,2,16):=by kernel_rfl
theorem sl62:cG Tryz.prog 62=true:=by kernel_rfl
theorem el91:bY Tryz.prog 91=some (94,7,96):=by kernel_rfl
theorem sl91:cG Tryz.prog 91=true:=by kernel_rfl
theorem acX:bY Tryz.prog 92=some (157,2,16):=by kernel_rfl
theorem sl92:cG Tryz.prog 92=true:=by kernel_rfl
theorem ZD:cG Tryz.prog 125=true:=by kernel_rfl
theorem YJ:bY Tryz.prog 131=some (35,1,8):=by kernel_rfl
theorem XZ:cG Tryz.prog 131=true:=by kernel_rfl
theorem ZO:bY Tryz.prog 137=some (136,2,16):=by kernel_rfl
theorem Zb:cG Tryz.prog 137=true:=by kernel_rfl
theorem aeP:cG Tryz.prog 172=true:=by kernel_rfl
theorem adJ:bY Tryz.prog 179=some (183,2,24):=by kernel_rfl
theorem XX:cG Tryz.prog 179=true:=by kernel_rfl
theorem abT:qL Tryz.prog 189=some (2,1,none):=by kernel_rfl
theorem Y3:qL Tryz.prog 192=some (2,1,none):=by kernel_rfl
theorem Yt:bY Tryz.prog 206=some (5,1,1):=by kernel_rfl
theorem aeN:cG Tryz.prog 206=true:=by kernel_rfl
theorem Yj:bY Tryz.prog 212=some (3,1,8):=by kernel_rfl
theorem adX:cG Tryz.prog 212=true:=by kernel_rfl
theorem agD:bY Tryz.prog 234=some (189,2,32):=by kernel_rfl
theorem aaW:cG Tryz.prog 234=true:=by kernel_rfl
theorem abI:cG Tryz.prog 236=true:=by kernel_rfl
theorem aaQ:cG Tryz.prog 273=true:=by kernel_rfl
theorem Y5:qL Tryz.prog 277=some (4,1,none):=by kernel_rfl
theorem Zt:qL Tryz.prog 289=some (4,1,none):=by kernel_rfl
theorem Z8:qL Tryz.prog 298=some (24,1,none):=by kernel_rfl
theorem aaP:cG Tryz.prog 310=true:=by kernel_rfl
theorem acE:cG Tryz.prog 315=true:=by kernel_rfl
theorem Y8:cG Tryz.prog 323=true:=by kernel_rfl
theorem acY:qL Tryz.prog 341=some (20,1,none):=by kernel_rfl
theorem aaF:qL Tryz.prog 342=some (65,1,none):=by kernel_rfl
theorem ZM:qL Tryz.prog 367=some (32,1,none):=by kernel_rfl
theorem YR:qL Tryz.prog 368=some (64,1,none):=by kernel_rfl
theorem ld3:ldT Tryz.prog 3=some none:=by kernel_rfl
theorem ld4:ldT Tryz.prog 4=some none:=by kernel_rfl
theorem ld9:ldT Tryz.prog 9=some none:=by kernel_rfl
theorem ld22:ldT Tryz.prog 22=some none:=by kernel_rfl
theorem ld23:ldT Tryz.prog 23=some none:=by kernel_rfl
theorem ld25:ldT Tryz.prog 25=some (some 2):=by kernel_rfl
theorem ld26:ldT Tryz.prog 26=some none:=by kernel_rfl
theorem ld27:ldT Tryz.prog 27=some none:=by kernel_rfl
theorem ld28:ldT Tryz.prog 28=some none:=by kernel_rfl
theorem ld30:ldT Tryz.prog 30=some (some 6):=by kernel_rfl
theorem ld31:ldT Tryz.prog 31=some none:=by kernel_rfl
theorem ld35:ldT Tryz.prog 35=some none:=by kernel_rfl
theorem ld43:ldT Tryz.prog 43=some none:=by kernel_rfl
theorem ld46:ldT Tryz.prog 46=some none:=by kernel_rfl
theorem ld87:ldT Tryz.prog 87=some (some 14):=by kernel_rfl
theorem ld92:ldT Tryz.prog 92=some none:=by kernel_rfl
theorem ld94:ldT Tryz.prog 94=some (some 7):=by kernel_rfl
theorem ld97:ldT Tryz.prog 97=some (some 2):=by kernel_rfl
theorem ZK:ldT Tryz.prog 136=some (some 2):=by kernel_rfl
theorem YP:ldT Tryz.prog 137=some none:=by kernel_rfl
theorem YL:ldT Tryz.prog 139=some (some 6):=by kernel_rfl
theorem Yc:ldT Tryz.prog 141=some (some 4):=by kernel_rfl
theorem ZF:ldT Tryz.prog 143=some (some 16):=by kernel_rfl
theorem aeM:ldT Tryz.prog 157=some (some 2):=by kernel_rfl
theorem Zp:ldT Tryz.prog 183=some (some 2):=by kernel_rfl
theorem aaZ:ldT Tryz.prog 189=some (some 2):=by kernel_rfl
theorem aeK:ldT Tryz.prog 285=some (some 3):=by kernel_rfl
theorem kk3:pY Tryz.prog 3=some 0:=by kernel_rfl
theorem pa25:fL Tryz.prog 25=some [(0,1),(1,1)]:=by kernel_rfl
theorem pa30:fL Tryz.prog 30=some [(0,2),(2,1),(3,1),(4,1),(5,1)]:=by kernel_rfl
theorem pa87:fL Tryz.prog 87=some [(0,1),(1,1),(2,1),(3,1),(4,1),(5,1),(6,1),(7,1),(8,1),(9,1),(10,1),(11,1),(12,1),(13,1)]:=by kernel_rfl
theorem pa89:fL Tryz.prog 89=some [(0,6),(6,1),(7,14),(21,1),(22,1),(23,1)]:=by kernel_rfl
theorem pa94:fL Tryz.prog 94=some [(0,1),(1,1),(2,1),(3,1),(4,1),(5,1),(6,1)]:=by kernel_rfl
theorem pa97:fL Tryz.prog 97=some [(0,1),(1,1)]:=by kernel_rfl
theorem aeR:fL Tryz.prog 128=some [(0,1),(1,1)]:=by kernel_rfl
theorem X7:fL Tryz.prog 136=some [(0,1),(1,1)]:=by kernel_rfl
theorem aeA:fL Tryz.prog 139=some [(0,1),(1,1),(2,1),(3,1),(4,1),(5,1)]:=by kernel_rfl
theorem aeZ:fL Tryz.prog 141=some [(0,1),(1,1),(2,1),(3,1)]:=by kernel_rfl
theorem adP:fL Tryz.prog 143=some [(0,1),(1,1),(2,4),(6,4),(10,1),(11,1),(12,1),(13,1),(14,1),(15,1)]:=by kernel_rfl
theorem aeE:fL Tryz.prog 157=some [(0,1),(1,1)]:=by kernel_rfl
theorem YD:fL Tryz.prog 183=some [(0,1),(1,1)]:=by kernel_rfl
theorem aeU:fL Tryz.prog 189=some [(0,1),(1,1)]:=by kernel_rfl
theorem Yb:fL Tryz.prog 285=some [(0,1),(1,1),(2,1)]:=by kernel_rfl
theorem so3:∃i,Tryz.prog.info? 3=some i∧i.size=1:=nQ (by kernel_rfl)
theorem adD:∃i,Tryz.prog.info? 23=some i∧i.size=1:=nQ (by kernel_rfl)
theorem abQ:∃i,Tryz.prog.info? 26=some i∧i.size=1:=nQ (by kernel_rfl)
theorem adU:∃i,Tryz.prog.info? 27=some i∧i.size=1:=nQ (by kernel_rfl)
theorem Xp:∃i,Tryz.prog.info? 31=some i∧i.size=1:=nQ (by kernel_rfl)
theorem X0:∃i,Tryz.prog.info? 43=some i∧i.size=1:=nQ (by kernel_rfl)
theorem PZ:∃i,Tryz.prog.info? 46=some i∧i.size=1:=nQ (by kernel_rfl)
theorem ZQ:∃i,Tryz.prog.info? 92=some i∧i.size=1:=nQ (by kernel_rfl)
theorem ze3:eH Tryz.prog 3=some [.v (.int .i64 0)]:=by kernel_rfl
theorem ze9:eH Tryz.prog 9=some [.v (.string ByteArray.empty)]:=by kernel_rfl
theorem ni25:oJ Tryz.prog 25=some [(0,9,1),(1,139,6)]:=by kernel_rfl
theorem ze25:eH Tryz.prog 25=some [.sl [],.sl []]:=by kernel_rfl
theorem ni30:oJ Tryz.prog 30=some [(0,9,1),(1,139,6),(2,87,14),(3,143,16),(4,192,2),(5,192,2)]:=by kernel_rfl
theorem ze30:eH Tryz.prog 30=some [.sl [],.sl [],.sl [],.sl [],.sl [],.sl []]:=by kernel_rfl
theorem ze87:eH Tryz.prog 87=some [.v (.string ByteArray.empty),.v (.int .i64 0),.v (.int .i64 0),.v (.int .i64 0),.sl [],.v (.int .i64 0),.v (.int .i64 0),.v (.int .i64 0),.v (.int .i64 0),.v (.int .i64 0),.v (.int .i64 0),.v (.int .i64 0),.v (.int .i64 0),.v (.int .i64 0)]:=by kernel_rfl
theorem ni89:oJ Tryz.prog 89=some [(0,9,1),(1,139,6),(2,87,14),(3,143,16),(4,192,2),(5,192,2),(11,3,1),(21,3,1),(22,46,1)]:=by kernel_rfl
theorem ze89:eH Tryz.prog 89=some [.sl [],.sl [],.sl [],.sl [],.sl [],.sl [],.v (.int .i64 0),.v (.string ByteArray.empty),.v (.int .i64 0),.v (.int .i64 0),.v (.int .i64 0),.sl [],.v (.int .i64 0),.v (.int .i64 0),.v (.int .i64 0),.v (.int .i64 0),.v (.int .i64 0),.v (.int .i64 0),.v (.int .i64 0),.v (.int .i64 0),.v (.int .i64 0),.sl [],.sl [],.v (.int .i64 0)]:=by kernel_rfl
theorem ze94:eH Tryz.prog 94=some [.v (.int .i64 0),.v (.int .i64 0),.v (.int .i64 0),.v (.int .i64 0),.sl [],.sl [],.v (.string ByteArray.empty)]:=by kernel_rfl
theorem ze97:eH Tryz.prog 97=some [.v (.int .i64 0),.v (.bool false)]:=by kernel_rfl
theorem aaJ:eH Tryz.prog 128=some [.v (.int .i64 0),.v (.string ByteArray.empty)]:=by kernel_rfl
theorem aaA:eH Tryz.prog 136=some [.v (.int .i64 0),.v (.int .i64 0)]:=by kernel_rfl
theorem acI:eH Tryz.prog 139=some [.v (.int .i64 0),.v (.int .i64 0),.v (.int .i64 0),.v (.int .i64 0),.sl [],.sl []]:=by kernel_rfl
theorem aaB:eH Tryz.prog 141=some [.v (.int .i64 0),.v (.int .i64 0),.v (.int .i64 0),.v (.int .i64 0)]:=by kernel_rfl
theorem Y1:eH Tryz.prog 143=some [.v (.string ByteArray.empty),.sl [],.v (.int .i64 0),.v (.int .i64 0),.v (.int .i64 0),.v (.int .i64 0),.v (.int .i64 0),.v (.int .i64 0),.v (.int .i64 0),.v (.int .i64 0),.v (.int .i64 0),.v (.int .i64 0),.v (.int .i64 0),.v (.int .i64 0),.v (.int .i64 0),.v (.bool false)]:=by kernel_rfl
theorem V3:eH Tryz.prog 157=some [.v (.int .i64 0),.v (.int .i64 0)]:=by kernel_rfl
theorem ZB:eH Tryz.prog 183=some [.v (.bool false),.v (.string ByteArray.empty)]:=by kernel_rfl
theorem YF:eH Tryz.prog 189=some [.v (.string ByteArray.empty),.v (.string ByteArray.empty)]:=by kernel_rfl
theorem Yg:eH Tryz.prog 285=some [.v (.int .i64 0),.v (.int .i64 0),.v (.int .i64 0)]:=by kernel_rfl
theorem co2:aC Tryz.prog 2=true:=by kernel_rfl
theorem co3:aC Tryz.prog 3=true:=by kernel_rfl
theorem co4:aC Tryz.prog 4=true:=by kernel_rfl
theorem co5:aC Tryz.prog 5=true:=by kernel_rfl
theorem co6:aC Tryz.prog 6=true:=by kernel_rfl
theorem co7:aC Tryz.prog 7=true:=by kernel_rfl
theorem co8:aC Tryz.prog 8=true:=by kernel_rfl
theorem co9:aC Tryz.prog 9=true:=by kernel_rfl
theorem co10:aC Tryz.prog 10=true:=by kernel_rfl
theorem co11:aC Tryz.prog 11=true:=by kernel_rfl
theorem co12:aC Tryz.prog 12=true:=by kernel_rfl
theorem co13:aC Tryz.prog 13=true:=by kernel_rfl
theorem co14:aC Tryz.prog 14=true:=by kernel_rfl
theorem co15:aC Tryz.prog 15=true:=by kernel_rfl
theorem co16:aC Tryz.prog 16=true:=by kernel_rfl
theorem co17:aC Tryz.prog 17=true:=by kernel_rfl
theorem co18:aC Tryz.prog 18=true:=by kernel_rfl
theorem co19:aC Tryz.prog 19=true:=by kernel_rfl
theorem co20:aC Tryz.prog 20=true:=by kernel_rfl
theorem co21:aC Tryz.prog 21=true:=by kernel_rfl
theorem co22:aC Tryz.prog 22=true:=by kernel_rfl
theorem co23:aC Tryz.prog 23=true:=by kernel_rfl
theorem co24:aC Tryz.prog 24=true:=by kernel_rfl
theorem co25:aC Tryz.prog 25=true:=by kernel_rfl
theorem co26:aC Tryz.prog 26=true:=by kernel_rfl
theorem co27:aC Tryz.prog 27=true:=by kernel_rfl
theorem co28:aC Tryz.prog 28=true:=by kernel_rfl
theorem co29:aC Tryz.prog 29=true:=by kernel_rfl
theorem co30:aC Tryz.prog 30=true:=by kernel_rfl
theorem co31:aC Tryz.prog 31=true:=by kernel_rfl
theorem co32:aC Tryz.prog 32=true:=by kernel_rfl
theorem co33:aC Tryz.prog 33=true:=by kernel_rfl
theorem co34:aC Tryz.prog 34=true:=by kernel_rfl
theorem co35:aC Tryz.prog 35=true:=by kernel_rfl
theorem co36:aC Tryz.prog 36=true:=by kernel_rfl
theorem co37:aC Tryz.prog 37=true:=by kernel_rfl
theorem co38:aC Tryz.prog 38=true:=by kernel_rfl
theorem co39:aC Tryz.prog 39=true:=by kernel_rfl
theorem co40:aC Tryz.prog 40=true:=by kernel_rfl
theorem co41:aC Tryz.prog 41=true:=by kernel_rfl
theorem co42:aC Tryz.prog 42=true:=by kernel_rfl
theorem co43:aC Tryz.prog 43=true:=by kernel_rfl
theorem co44:aC Tryz.prog 44=true:=by kernel_rfl
theorem co45:aC Tryz.prog 45=true:=by kernel_rfl
theorem co46:aC Tryz.prog 46=true:=by kernel_rfl
theorem co47:aC Tryz.prog 47=true:=by kernel_rfl
theorem co48:aC Tryz.prog 48=true:=by kernel_rfl
theorem co49:aC Tryz.prog 49=true:=by kernel_rfl
theorem co50:aC Tryz.prog 50=true:=by kernel_rfl
theorem co51:aC Tryz.prog 51=true:=by kernel_rfl
theorem co52:aC Tryz.prog 52=true:=by kernel_rfl
theorem co53:aC Tryz.prog 53=true:=by kernel_rfl
theorem co54:aC Tryz.prog 54=true:=by kernel_rfl
theorem co55:aC Tryz.prog 55=true:=by kernel_rfl
theorem co56:aC Tryz.prog 56=true:=by kernel_rfl
theorem co57:aC Tryz.prog 57=true:=by kernel_rfl
theorem co58:aC Tryz.prog 58=true:=by kernel_rfl
theorem co59:aC Tryz.prog 59=true:=by kernel_rfl
theorem co60:aC Tryz.prog 60=true:=by kernel_rfl
theorem co61:aC Tryz.prog 61=true:=by kernel_rfl
theorem co62:aC Tryz.prog 62=true:=by kernel_rfl
theorem co63:aC Tryz.prog 63=true:=by kernel_rfl
theorem co64:aC Tryz.prog 64=true:=by kernel_rfl
theorem co65:aC Tryz.prog 65=true:=by kernel_rfl
theorem co66:aC Tryz.prog 66=true:=by kernel_rfl
theorem co67:aC Tryz.prog 67=true:=by kernel_rfl
theorem co68:aC Tryz.prog 68=true:=by kernel_rfl
theorem co69:aC Tryz.prog 69=true:=by kernel_rfl
theorem co70:aC Tryz.prog 70=true:=by kernel_rfl
theorem co71:aC Tryz.prog 71=true:=by kernel_rfl
theorem co72:aC Tryz.prog 72=true:=by kernel_rfl
theorem co73:aC Tryz.prog 73=true:=by kernel_rfl
theorem co74:aC Tryz.prog 74=true:=by kernel_rfl
theorem co75:aC Tryz.prog 75=true:=by kernel_rfl
theorem co76:aC Tryz.prog 76=true:=by kernel_rfl
theorem co77:aC Tryz.prog 77=true:=by kernel_rfl
theorem co78:aC Tryz.prog 78=true:=by kernel_rfl
theorem co79:aC Tryz.prog 79=true:=by kernel_rfl
theorem co80:aC Tryz.prog 80=true:=by kernel_rfl
theorem co81:aC Tryz.prog 81=true:=by kernel_rfl
theorem co82:aC Tryz.prog 82=true:=by kernel_rfl
theorem co83:aC Tryz.prog 83=true:=by kernel_rfl
theorem co84:aC Tryz.prog 84=true:=by kernel_rfl
theorem co85:aC Tryz.prog 85=true:=by kernel_rfl
theorem co86:aC Tryz.prog 86=true:=by kernel_rfl
theorem co87:aC Tryz.prog 87=true:=by kernel_rfl
theorem co88:aC Tryz.prog 88=true:=by kernel_rfl
theorem co89:aC Tryz.prog 89=true:=by kernel_rfl
theorem co90:aC Tryz.prog 90=true:=by kernel_rfl
theorem co91:aC Tryz.prog 91=true:=by kernel_rfl
theorem co92:aC Tryz.prog 92=true:=by kernel_rfl
theorem co93:aC Tryz.prog 93=true:=by kernel_rfl
theorem co94:aC Tryz.prog 94=true:=by kernel_rfl
theorem co95:aC Tryz.prog 95=true:=by kernel_rfl
theorem co96:aC Tryz.prog 96=true:=by kernel_rfl
theorem co97:aC Tryz.prog 97=true:=by kernel_rfl
theorem co98:aC Tryz.prog 98=true:=by kernel_rfl
theorem co99:aC Tryz.prog 99=true:=by kernel_rfl
theorem afV:aC Tryz.prog 100=true:=by kernel_rfl
theorem afX:aC Tryz.prog 101=true:=by kernel_rfl
theorem afQ:aC Tryz.prog 102=true:=by kernel_rfl
theorem YG:aC Tryz.prog 103=true:=by kernel_rfl
theorem afS:aC Tryz.prog 104=true:=by kernel_rfl
theorem afO:aC Tryz.prog 105=true:=by kernel_rfl
theorem X3:aC Tryz.prog 106=true:=by kernel_rfl
theorem aeW:aC Tryz.prog 107=true:=by kernel_rfl
theorem acQ:aC Tryz.prog 108=true:=by kernel_rfl
theorem Zw:aC Tryz.prog 109=true:=by kernel_rfl
theorem acN:aC Tryz.prog 110=true:=by kernel_rfl
theorem ZN:aC Tryz.prog 111=true:=by kernel_rfl
theorem YS:aC Tryz.prog 112=true:=by kernel_rfl
theorem Y0:aC Tryz.prog 113=true:=by kernel_rfl
theorem abB:aC Tryz.prog 114=true:=by kernel_rfl
theorem aaI:aC Tryz.prog 115=true:=by kernel_rfl
theorem aeY:aC Tryz.prog 116=true:=by kernel_rfl
theorem acB:aC Tryz.prog 117=true:=by kernel_rfl
theorem afU:aC Tryz.prog 118=true:=by kernel_rfl
theorem YM:aC Tryz.prog 119=true:=by kernel_rfl
theorem Yh:aC Tryz.prog 120=true:=by kernel_rfl
theorem ZY:aC Tryz.prog 121=true:=by kernel_rfl
theorem YB:aC Tryz.prog 122=true:=by kernel_rfl
theorem X2:aC Tryz.prog 123=true:=by kernel_rfl
theorem agF:aC Tryz.prog 124=true:=by kernel_rfl
theorem acS:aC Tryz.prog 125=true:=by kernel_rfl
theorem XM:aC Tryz.prog 126=true:=by kernel_rfl
theorem aaX:aC Tryz.prog 127=true:=by kernel_rfl
theorem aaL:aC Tryz.prog 128=true:=by kernel_rfl
theorem afN:aC Tryz.prog 129=true:=by kernel_rfl
theorem aeD:aC Tryz.prog 130=true:=by kernel_rfl
theorem acZ:aC Tryz.prog 131=true:=by kernel_rfl
theorem adC:aC Tryz.prog 132=true:=by kernel_rfl
theorem agA:aC Tryz.prog 133=true:=by kernel_rfl
theorem Yl:aC Tryz.prog 134=true:=by kernel_rfl
theorem afD:aC Tryz.prog 135=true:=by kernel_rfl
theorem acO:aC Tryz.prog 136=true:=by kernel_rfl
theorem Z9:aC Tryz.prog 137=true:=by kernel_rfl
theorem afW:aC Tryz.prog 138=true:=by kernel_rfl
theorem YY:aC Tryz.prog 139=true:=by kernel_rfl
theorem XV:aC Tryz.prog 140=true:=by kernel_rfl
theorem abS:aC Tryz.prog 141=true:=by kernel_rfl
theorem ZV:aC Tryz.prog 142=true:=by kernel_rfl
theorem abD:aC Tryz.prog 143=true:=by kernel_rfl
theorem Zs:aC Tryz.prog 144=true:=by kernel_rfl
theorem Yi:aC Tryz.prog 145=true:=by kernel_rfl
theorem acF:aC Tryz.prog 146=true:=by kernel_rfl
theorem Y7:aC Tryz.prog 147=true:=by kernel_rfl
theorem adF:aC Tryz.prog 148=true:=by kernel_rfl
theorem aaN:aC Tryz.prog 149=true:=by kernel_rfl
theorem Y2:aC Tryz.prog 150=true:=by kernel_rfl
theorem afJ:aC Tryz.prog 151=true:=by kernel_rfl
theorem Z3:aC Tryz.prog 152=true:=by kernel_rfl
theorem Y9:aC Tryz.prog 153=true:=by kernel_rfl
theorem X5:aC Tryz.prog 154=true:=by kernel_rfl
theorem Yu:aC Tryz.prog 155=true:=by kernel_rfl
theorem Zd:aC Tryz.prog 156=true:=by kernel_rfl
theorem X8:aC Tryz.prog 157=true:=by kernel_rfl
theorem abA:aC Tryz.prog 158=true:=by kernel_rfl
theorem acV:aC Tryz.prog 159=true:=by kernel_rfl
theorem aaR:aC Tryz.prog 160=true:=by kernel_rfl
theorem Zl:aC Tryz.prog 161=true:=by kernel_rfl
theorem Zk:aC Tryz.prog 162=true:=by kernel_rfl
theorem aeB:aC Tryz.prog 163=true:=by kernel_rfl
theorem abX:aC Tryz.prog 164=true:=by kernel_rfl
theorem ZU:aC Tryz.prog 165=true:=by kernel_rfl
theorem agB:aC Tryz.prog 166=true:=by kernel_rfl
theorem afH:aC Tryz.prog 167=true:=by kernel_rfl
theorem Yn:aC Tryz.prog 168=true:=by kernel_rfl
theorem Zr:aC Tryz.prog 169=true:=by kernel_rfl
theorem abZ:aC Tryz.prog 170=true:=by kernel_rfl
theorem Zi:aC Tryz.prog 171=true:=by kernel_rfl
theorem Z6:aC Tryz.prog 172=true:=by kernel_rfl
theorem Yw:aC Tryz.prog 173=true:=by kernel_rfl
theorem YC:aC Tryz.prog 174=true:=by kernel_rfl
theorem adK:aC Tryz.prog 175=true:=by kernel_rfl
theorem abY:aC Tryz.prog 176=true:=by kernel_rfl
theorem aeS:aC Tryz.prog 177=true:=by kernel_rfl
theorem adZ:aC Tryz.prog 178=true:=by kernel_rfl
theorem aeF:aC Tryz.prog 179=true:=by kernel_rfl
theorem Z4:aC Tryz.prog 180=true:=by kernel_rfl
theorem afP:aC Tryz.prog 181=true:=by kernel_rfl
theorem abM:aC Tryz.prog 182=true:=by kernel_rfl
theorem Za:aC Tryz.prog 183=true:=by kernel_rfl
theorem acA:aC Tryz.prog 184=true:=by kernel_rfl
theorem YW:aC Tryz.prog 185=true:=by kernel_rfl
theorem Zz:aC Tryz.prog 186=true:=by kernel_rfl
theorem Zn:aC Tryz.prog 187=true:=by kernel_rfl
theorem afM:aC Tryz.prog 188=true:=by kernel_rfl
theorem adO:aC Tryz.prog 189=true:=by kernel_rfl
theorem XN:aC Tryz.prog 190=true:=by kernel_rfl
theorem aeH:aC Tryz.prog 191=true:=by kernel_rfl
theorem YE:aC Tryz.prog 192=true:=by kernel_rfl
theorem adQ:aC Tryz.prog 193=true:=by kernel_rfl
theorem Yx:aC Tryz.prog 194=true:=by kernel_rfl
theorem adE:aC Tryz.prog 195=true:=by kernel_rfl
theorem afA:aC Tryz.prog 196=true:=by kernel_rfl
theorem agI:aC Tryz.prog 197=true:=by kernel_rfl
theorem afK:aC Tryz.prog 198=true:=by kernel_rfl
theorem Z0:aC Tryz.prog 199=true:=by kernel_rfl
theorem YZ:aC Tryz.prog 200=true:=by kernel_rfl
theorem Zj:aC Tryz.prog 201=true:=by kernel_rfl
theorem Z7:aC Tryz.prog 202=true:=by kernel_rfl
theorem YH:aC Tryz.prog 203=true:=by kernel_rfl
theorem afY:aC Tryz.prog 204=true:=by kernel_rfl
theorem agC:aC Tryz.prog 205=true:=by kernel_rfl
theorem acW:aC Tryz.prog 206=true:=by kernel_rfl
theorem agH:aC Tryz.prog 207=true:=by kernel_rfl
theorem aeC:aC Tryz.prog 208=true:=by kernel_rfl
theorem abL:aC Tryz.prog 209=true:=by kernel_rfl
theorem acH:aC Tryz.prog 210=true:=by kernel_rfl
theorem afI:aC Tryz.prog 211=true:=by kernel_rfl
theorem acG:aC Tryz.prog 212=true:=by kernel_rfl
theorem ZG:aC Tryz.prog 213=true:=by kernel_rfl
theorem abV:aC Tryz.prog 214=true:=by kernel_rfl
theorem ZR:aC Tryz.prog 215=true:=by kernel_rfl
theorem YU:aC Tryz.prog 216=true:=by kernel_rfl
theorem abO:aC Tryz.prog 217=true:=by kernel_rfl
theorem ZZ:aC Tryz.prog 218=true:=by kernel_rfl
theorem aaS:aC Tryz.prog 219=true:=by kernel_rfl
theorem abH:aC Tryz.prog 220=true:=by kernel_rfl
theorem aeI:aC Tryz.prog 221=true:=by kernel_rfl
theorem Z1:aC Tryz.prog 222=true:=by kernel_rfl
theorem Zo:aC Tryz.prog 223=true:=by kernel_rfl
theorem Zu:aC Tryz.prog 224=true:=by kernel_rfl
theorem ZI:aC Tryz.prog 225=true:=by kernel_rfl
theorem acK:aC Tryz.prog 226=true:=by kernel_rfl
theorem aaM:aC Tryz.prog 227=true:=by kernel_rfl
theorem abU:aC Tryz.prog 229=true:=by kernel_rfl
theorem aaG:aC Tryz.prog 230=true:=by kernel_rfl
theorem afL:aC Tryz.prog 231=true:=by kernel_rfl
theorem adL:aC Tryz.prog 232=true:=by kernel_rfl
theorem YK:aC Tryz.prog 233=true:=by kernel_rfl
theorem abJ:aC Tryz.prog 234=true:=by kernel_rfl
theorem Ze:aC Tryz.prog 235=true:=by kernel_rfl
theorem YO:aC Tryz.prog 236=true:=by kernel_rfl
theorem YX:aC Tryz.prog 237=true:=by kernel_rfl
theorem adA:aC Tryz.prog 238=true:=by kernel_rfl
theorem XW:aC Tryz.prog 239=true:=by kernel_rfl
theorem abW:aC Tryz.prog 240=true:=by kernel_rfl
theorem aaO:aC Tryz.prog 241=true:=by kernel_rfl
theorem ZL:aC Tryz.prog 242=true:=by kernel_rfl
theorem adN:aC Tryz.prog 243=true:=by kernel_rfl
theorem aaU:aC Tryz.prog 245=true:=by kernel_rfl
theorem YT:aC Tryz.prog 246=true:=by kernel_rfl
theorem Zm:aC Tryz.prog 247=true:=by kernel_rfl
theorem Y4:aC Tryz.prog 248=true:=by kernel_rfl
theorem adY:aC Tryz.prog 249=true:=by kernel_rfl
theorem aeQ:aC Tryz.prog 250=true:=by kernel_rfl
theorem Ym:aC Tryz.prog 251=true:=by kernel_rfl
theorem Y6:aC Tryz.prog 252=true:=by kernel_rfl
theorem abE:aC Tryz.prog 253=true:=by kernel_rfl
theorem Ya:aC Tryz.prog 254=true:=by kernel_rfl
theorem adI:aC Tryz.prog 255=true:=by kernel_rfl
theorem afF:aC Tryz.prog 256=true:=by kernel_rfl
theorem abR:aC Tryz.prog 257=true:=by kernel_rfl
theorem afR:aC Tryz.prog 258=true:=by kernel_rfl
theorem abF:aC Tryz.prog 259=true:=by kernel_rfl
theorem adM:aC Tryz.prog 260=true:=by kernel_rfl
theorem abN:aC Tryz.prog 261=true:=by kernel_rfl
theorem Ye:aC Tryz.prog 262=true:=by kernel_rfl
theorem aaH:aC Tryz.prog 263=true:=by kernel_rfl
theorem Yq:aC Tryz.prog 264=true:=by kernel_rfl
theorem adB:aC Tryz.prog 265=true:=by kernel_rfl
theorem Ys:aC Tryz.prog 266=true:=by kernel_rfl
theorem Zy:aC Tryz.prog 268=true:=by kernel_rfl
theorem Yd:aC Tryz.prog 269=true:=by kernel_rfl
theorem ZJ:aC Tryz.prog 270=true:=by kernel_rfl
theorem adH:aC Tryz.prog 271=true:=by kernel_rfl
theorem X4:aC Tryz.prog 272=true:=by kernel_rfl
theorem afE:aC Tryz.prog 273=true:=by kernel_rfl
theorem aaK:aC Tryz.prog 274=true:=by kernel_rfl
theorem XT:aC Tryz.prog 275=true:=by kernel_rfl
theorem ZP:aC Tryz.prog 276=true:=by kernel_rfl
theorem acP:aC Tryz.prog 277=true:=by kernel_rfl
theorem afG:aC Tryz.prog 278=true:=by kernel_rfl
theorem acD:aC Tryz.prog 279=true:=by kernel_rfl
theorem Zf:aC Tryz.prog 280=true:=by kernel_rfl
theorem acL:aC Tryz.prog 282=true:=by kernel_rfl
theorem agE:aC Tryz.prog 283=true:=by kernel_rfl
theorem ZA:aC Tryz.prog 284=true:=by kernel_rfl
theorem aeX:aC Tryz.prog 285=true:=by kernel_rfl
theorem acU:aC Tryz.prog 286=true:=by kernel_rfl
theorem XO:aC Tryz.prog 287=true:=by kernel_rfl
theorem afZ:aC Tryz.prog 288=true:=by kernel_rfl
theorem aeG:aC Tryz.prog 289=true:=by kernel_rfl
theorem aeJ:aC Tryz.prog 290=true:=by kernel_rfl
theorem XS:aC Tryz.prog 291=true:=by kernel_rfl
theorem Yz:aC Tryz.prog 292=true:=by kernel_rfl
theorem Yr:aC Tryz.prog 293=true:=by kernel_rfl
theorem Yk:aC Tryz.prog 294=true:=by kernel_rfl
theorem Z2:aC Tryz.prog 295=true:=by kernel_rfl
theorem Yo:aC Tryz.prog 296=true:=by kernel_rfl
theorem aeO:aC Tryz.prog 297=true:=by kernel_rfl
theorem YN:aC Tryz.prog 298=true:=by kernel_rfl
theorem acT:aC Tryz.prog 299=true:=by kernel_rfl
theorem Yp:aC Tryz.prog 300=true:=by kernel_rfl
theorem XQ:aC Tryz.prog 301=true:=by kernel_rfl
theorem YA:aC Tryz.prog 302=true:=by kernel_rfl
theorem X6:aC Tryz.prog 303=true:=by kernel_rfl
theorem XP:aC Tryz.prog 304=true:=by kernel_rfl
theorem afC:aC Tryz.prog 305=true:=by kernel_rfl
theorem Yf:aC Tryz.prog 306=true:=by kernel_rfl
theorem Zg:aC Tryz.prog 307=true:=by kernel_rfl
theorem Zh:aC Tryz.prog 308=true:=by kernel_rfl
theorem adR:aC Tryz.prog 309=true:=by kernel_rfl
theorem Zv:aC Tryz.prog 310=true:=by kernel_rfl
theorem X9:aC Tryz.prog 311=true:=by kernel_rfl
theorem adG:aC Tryz.prog 312=true:=by kernel_rfl
theorem adS:aC Tryz.prog 313=true:=by kernel_rfl
theorem aaY:aC Tryz.prog 314=true:=by kernel_rfl
theorem adV:aC Tryz.prog 316=true:=by kernel_rfl
theorem ZW:aC Tryz.prog 317=true:=by kernel_rfl
theorem XY:aC Tryz.prog 318=true:=by kernel_rfl
theorem ZH:aC Tryz.prog 319=true:=by kernel_rfl
theorem Zq:aC Tryz.prog 320=true:=by kernel_rfl
theorem Z5:aC Tryz.prog 321=true:=by kernel_rfl
theorem ZS:aC Tryz.prog 345=true:=by kernel_rfl
attribute [go_sem] it3 it5 st9 it40 it56 aeL bo4 aaE Wz Ww Wh Xu XG XL W9 XJ Xn Xa Xw Xb Wa WZ XA Wl Xy TH UA Uu Uz XE Xx Wt Wp Wn Wq Xr Xs Wd WA XI Xl We Wy Xq Uv TN VD Uw UU Vc Vh Ur UH UD U1 Uk Ue Uy Vn UV Vj UK Uq Tw TY Ul Vg Tu U9 TU UO T2 el22 sl22 el23 sl23 el26 sl26 el27 sl27 el28 sl28 el31 sl31 el32 sl32 el43 sl43 st46 el61 sl61 el62 sl62 el91 sl91 acX sl92 ZD YJ XZ ZO Zb aeP adJ XX abT Y3 Yt aeN Yj adX agD aaW abI aaQ Y5 Zt Z8 aaP acE Y8 acY aaF ZM YR ld3 ld4 ld9 ld22 ld23 ld25 ld26 ld27 ld28 ld30 ld31 ld35 ld43 ld46 ld87 ld92 ld94 ld97 ZK YP YL Yc ZF aeM Zp aaZ aeK kk3 pa25 pa30 pa87 pa89 pa94 pa97 aeR X7 aeA aeZ adP aeE YD aeU Yb so3 adD abQ adU Xp X0 PZ ZQ ze3 ze9 ni25 ze25 ni30 ze30 ze87 ni89 ze89 ze94 ze97 aaJ aaA acI aaB Y1 V3 ZB YF Yg co2 co3 co4 co5 co6 co7 co8 co9 co10 co11 co12 co13 co14 co15 co16 co17 co18 co19 co20 co21 co22 co23 co24 co25 co26 co27 co28 co29 co30 co31 co32 co33 co34 co35 co36 co37 co38 co39 co40 co41 co42 co43 co44 co45 co46 co47 co48 co49 co50 co51 co52 co53 co54 co55 co56 co57 co58 co59 co60 co61 co62 co63 co64 co65 co66 co67 co68 co69 co70 co71 co72 co73 co74 co75 co76 co77 co78 co79 co80 co81 co82 co83 co84 co85 co86 co87 co88 co89 co90 co91 co92 co93 co94 co95 co96 co97 co98 co99 afV afX afQ YG afS afO X3 aeW acQ Zw acN ZN YS Y0 abB aaI aeY acB afU YM Yh ZY YB X2 agF acS XM aaX aaL afN aeD acZ adC agA Yl afD acO Z9 afW YY XV abS ZV abD Zs Yi acF Y7 adF aaN Y2 afJ Z3 Y9 X5 Yu Zd X8 abA acV aaR Zl Zk aeB abX ZU agB afH Yn Zr abZ Zi Z6 Yw YC adK abY aeS adZ aeF Z4 afP abM Za acA YW Zz Zn afM adO XN aeH YE adQ Yx adE afA agI afK Z0 YZ Zj Z7 YH afY agC acW agH aeC abL acH afI acG ZG abV ZR YU abO ZZ aaS abH aeI Z1 Zo Zu ZI acK aaM abU aaG afL adL YK abJ Ze YO YX adA XW abW aaO ZL adN aaU YT Zm Y4 adY aeQ Ym Y6 abE Ya adI afF abR afR abF adM abN Ye aaH Yq adB Ys Zy Yd ZJ adH X4 afE aaK XT ZP acP afG acD Zf acL agE ZA aeX acU XO afZ aeG aeJ XS Yz Yr Yk Z2 Yo aeO YN acT Yp XQ YA X6 XP afC Yf Zg Zh adR Zv X9 adG adS aaY adV ZW XY ZH Zq Z5 ZS
end Go.Proofs.YtdlijlecpopadaaGreatDoor.Ty
end
section
namespace Go.Aw.D
open Go.Aw
def aM(n:Int):List AV:=[.v (.int .i64 n)]
def Bo(b:Bool):List AV:=[.v (.bool b)]
def cV(s:ByteArray):List AV:=[.v (.string s)]
theorem CH(x:Int):(aM x).length=1:=rfl
theorem QI(x:Int):(aM x).getD 0 .any=.v (.int .i64 x):=rfl
theorem Ij(x:Bool):(Bo x).length=1:=rfl
theorem Pa(x:Bool):(Bo x).getD 0 .any=.v (.bool x):=rfl
theorem Kq(x:ByteArray):(cV x).length=1:=rfl
theorem SC(x:ByteArray):(cV x).getD 0 .any=.v (.string x):=rfl
structure Point where
 t:Int
 a:Int
 deriving DecidableEq
def bR(x:Point):List AV:=[.v (.int .i64 x.t),.v (.int .i64 x.a)]
theorem fQ(x:Point):(bR x).length=2:=rfl
theorem KE(x:Point):(bR x).getD 0 .any=.v (.int .i64 x.t):=rfl
theorem K6(x:Point):(bR x).getD 1 .any=.v (.int .i64 x.a):=rfl
theorem xX(x:Point):(bR x).take 2=bR x:=rfl
structure Arc where
 src:Int
 dst:Int
 profile:Int
 miles:Int
 travel:List Point
 slow:List Point
 deriving DecidableEq
def fC(x:Arc):List AV:=[.v (.int .i64 x.src),.v (.int .i64 x.dst),.v (.int .i64 x.profile),.v (.int .i64 x.miles),.sl (x.travel.map bR),.sl (x.slow.map bR)]
theorem gY(x:Arc):(fC x).length=6:=rfl
theorem Sy(x:Arc):(fC x).getD 0 .any=.v (.int .i64 x.src):=rfl
theorem Rb(x:Arc):(fC x).getD 1 .any=.v (.int .i64 x.dst):=rfl
theorem QQ(x:Arc):(fC x).getD 2 .any=.v (.int .i64 x.profile):=rfl
theorem RI(x:Arc):(fC x).getD 3 .any=.v (.int .i64 x.miles):=rfl
theorem SL(x:Arc):(fC x).getD 4 .any=.sl (x.travel.map bR):=rfl
theorem Q8(x:Arc):(fC x).getD 5 .any=.sl (x.slow.map bR):=rfl
theorem Le(x:Arc):(fC x).take 6=fC x:=rfl
structure Network where
 places:List ByteArray
 arcs:List Arc
 deriving DecidableEq
def aP(x:Network):List AV:=[.sl (x.places.map cV),.sl (x.arcs.map fC)]
theorem BB(x:Network):(aP x).length=2:=rfl
theorem FF(x:Network):(aP x).getD 0 .any=.sl (x.places.map cV):=rfl
theorem Gj(x:Network):(aP x).getD 1 .any=.sl (x.arcs.map fC):=rfl
theorem C7(x:Network):(aP x).take 2=aP x:=rfl
structure VType where
 name:ByteArray
 count:Int
 src:Int
 dst:Int
 cap:List Int
 skills:Int
 profile:Int
 start:Int
 close:Int
 drive:Int
 rest:Int
 fixed:Int
 perMile:Int
 perTick:Int
 deriving DecidableEq
def bE(x:VType):List AV:=[.v (.string x.name),.v (.int .i64 x.count),.v (.int .i64 x.src),.v (.int .i64 x.dst),.sl (x.cap.map aM),.v (.int .i64 x.skills),.v (.int .i64 x.profile),.v (.int .i64 x.start),.v (.int .i64 x.close),.v (.int .i64 x.drive),.v (.int .i64 x.rest),.v (.int .i64 x.fixed),.v (.int .i64 x.perMile),.v (.int .i64 x.perTick)]
theorem xR(x:VType):(bE x).length=14:=rfl
theorem Kx(x:VType):(bE x).getD 0 .any=.v (.string x.name):=rfl
theorem LB(x:VType):(bE x).getD 1 .any=.v (.int .i64 x.count):=rfl
theorem L6(x:VType):(bE x).getD 2 .any=.v (.int .i64 x.src):=rfl
theorem Kw(x:VType):(bE x).getD 3 .any=.v (.int .i64 x.dst):=rfl
theorem K7(x:VType):(bE x).getD 4 .any=.sl (x.cap.map aM):=rfl
theorem KU(x:VType):(bE x).getD 5 .any=.v (.int .i64 x.skills):=rfl
theorem KH(x:VType):(bE x).getD 6 .any=.v (.int .i64 x.profile):=rfl
theorem Kl(x:VType):(bE x).getD 7 .any=.v (.int .i64 x.start):=rfl
theorem Lx(x:VType):(bE x).getD 8 .any=.v (.int .i64 x.close):=rfl
theorem L2(x:VType):(bE x).getD 9 .any=.v (.int .i64 x.drive):=rfl
theorem Jq(x:VType):(bE x).getD 10 .any=.v (.int .i64 x.rest):=rfl
theorem JE(x:VType):(bE x).getD 11 .any=.v (.int .i64 x.fixed):=rfl
theorem Js(x:VType):(bE x).getD 12 .any=.v (.int .i64 x.perMile):=rfl
theorem Hn(x:VType):(bE x).getD 13 .any=.v (.int .i64 x.perTick):=rfl
theorem GU(x:VType):(bE x).take 14=bE x:=rfl
structure Stop where
 place:Int
 start:Int
 close:Int
 service:Int
 deriving DecidableEq
def iA(x:Stop):List AV:=[.v (.int .i64 x.place),.v (.int .i64 x.start),.v (.int .i64 x.close),.v (.int .i64 x.service)]
theorem lP(x:Stop):(iA x).length=4:=rfl
theorem NW(x:Stop):(iA x).getD 0 .any=.v (.int .i64 x.place):=rfl
theorem Pb(x:Stop):(iA x).getD 1 .any=.v (.int .i64 x.start):=rfl
theorem Pq(x:Stop):(iA x).getD 2 .any=.v (.int .i64 x.close):=rfl
theorem Oo(x:Stop):(iA x).getD 3 .any=.v (.int .i64 x.service):=rfl
theorem He(x:Stop):(iA x).take 4=iA x:=rfl
structure Order where
 name:ByteArray
 load:List Int
 pick:Stop
 drop:Stop
 skills:Int
 penalty:Int
 split:Int
 last:Int
 now:Int
 off:Bool
 deriving DecidableEq
def aX(x:Order):List AV:=[.v (.string x.name),.sl (x.load.map aM),.v (.int .i64 x.pick.place),.v (.int .i64 x.pick.start),.v (.int .i64 x.pick.close),.v (.int .i64 x.pick.service),.v (.int .i64 x.drop.place),.v (.int .i64 x.drop.start),.v (.int .i64 x.drop.close),.v (.int .i64 x.drop.service),.v (.int .i64 x.skills),.v (.int .i64 x.penalty),.v (.int .i64 x.split),.v (.int .i64 x.last),.v (.int .i64 x.now),.v (.bool x.off)]
theorem mE(x:Order):(aX x).length=16:=rfl
theorem Ks(x:Order):(aX x).getD 0 .any=.v (.string x.name):=rfl
theorem K8(x:Order):(aX x).getD 1 .any=.sl (x.load.map aM):=rfl
theorem L1(x:Order):(aX x).getD 2 .any=.v (.int .i64 x.pick.place):=rfl
theorem Lm(x:Order):(aX x).getD 3 .any=.v (.int .i64 x.pick.start):=rfl
theorem Lh(x:Order):(aX x).getD 4 .any=.v (.int .i64 x.pick.close):=rfl
theorem KV(x:Order):(aX x).getD 5 .any=.v (.int .i64 x.pick.service):=rfl
theorem LF(x:Order):(aX x).getD 6 .any=.v (.int .i64 x.drop.place):=rfl
theorem Lt(x:Order):(aX x).getD 7 .any=.v (.int .i64 x.drop.start):=rfl
theorem LN(x:Order):(aX x).getD 8 .any=.v (.int .i64 x.drop.close):=rfl
theorem LE(x:Order):(aX x).getD 9 .any=.v (.int .i64 x.drop.service):=rfl
theorem Ju(x:Order):(aX x).getD 10 .any=.v (.int .i64 x.skills):=rfl
theorem Jb(x:Order):(aX x).getD 11 .any=.v (.int .i64 x.penalty):=rfl
theorem HR(x:Order):(aX x).getD 12 .any=.v (.int .i64 x.split):=rfl
theorem IG(x:Order):(aX x).getD 13 .any=.v (.int .i64 x.last):=rfl
theorem Ho(x:Order):(aX x).getD 14 .any=.v (.int .i64 x.now):=rfl
theorem Jg(x:Order):(aX x).getD 15 .any=.v (.bool x.off):=rfl
theorem FC(x:Order):(aX x).take 16=aX x:=rfl
theorem Dd(x:Order):((aX x).drop 2).take 4=iA x.pick:=rfl
theorem Dm(x:Order):((aX x).drop 6).take 4=iA x.drop:=rfl
structure Pair where
 a:Int
 b:Int
 deriving DecidableEq
def fO(x:Pair):List AV:=[.v (.int .i64 x.a),.v (.int .i64 x.b)]
theorem Ib(x:Pair):(fO x).length=2:=rfl
theorem Oz(x:Pair):(fO x).getD 0 .any=.v (.int .i64 x.a):=rfl
theorem OA(x:Pair):(fO x).getD 1 .any=.v (.int .i64 x.b):=rfl
theorem Hz(x:Pair):(fO x).take 2=fO x:=rfl
structure Instance where
 net:Network
 types:List VType
 orders:List Order
 apart:List Pair
 before:List Pair
 deriving DecidableEq
def aQ(x:Instance):List AV:=[.sl (x.net.places.map cV),.sl (x.net.arcs.map fC),.sl (x.types.map bE),.sl (x.orders.map aX),.sl (x.apart.map fO),.sl (x.before.map fO)]
theorem tM(x:Instance):(aQ x).length=6:=rfl
theorem Dr(x:Instance):(aQ x).getD 0 .any=.sl (x.net.places.map cV):=rfl
theorem Ds(x:Instance):(aQ x).getD 1 .any=.sl (x.net.arcs.map fC):=rfl
theorem C9(x:Instance):(aQ x).getD 2 .any=.sl (x.types.map bE):=rfl
theorem Dj(x:Instance):(aQ x).getD 3 .any=.sl (x.orders.map aX):=rfl
theorem De(x:Instance):(aQ x).getD 4 .any=.sl (x.apart.map fO):=rfl
theorem C8(x:Instance):(aQ x).getD 5 .any=.sl (x.before.map fO):=rfl
theorem A4(x:Instance):(aQ x).take 6=aQ x:=rfl
theorem A0(x:Instance):(aQ x).take 2=aP x.net:=rfl
structure Visit where
 order:Int
 drop:Bool
 deriving DecidableEq
def cK(x:Visit):List AV:=[.v (.int .i64 x.order),.v (.bool x.drop)]
theorem oM(x:Visit):(cK x).length=2:=rfl
theorem LW(x:Visit):(cK x).getD 0 .any=.v (.int .i64 x.order):=rfl
theorem K0(x:Visit):(cK x).getD 1 .any=.v (.bool x.drop):=rfl
theorem FL(x:Visit):(cK x).take 2=cK x:=rfl
structure Route where
 type:Int
 start:Int
 rests:List Bool
 visits:List Visit
 deriving DecidableEq
structure Plan where
 routes:List Route
 unserved:List Int
 deriving DecidableEq
structure Fault where
 err:Int
 at_:ByteArray
 deriving DecidableEq
def fI(x:Fault):List AV:=[.v (.int .i64 x.err),.v (.string x.at_)]
theorem Fv(x:Fault):(fI x).length=2:=rfl
theorem LZ(x:Fault):(fI x).getD 0 .any=.v (.int .i64 x.err):=rfl
theorem LM(x:Fault):(fI x).getD 1 .any=.v (.string x.at_):=rfl
theorem FY(x:Fault):(fI x).take 2=fI x:=rfl
structure Decision where
 kind:Int
 a:Int
 b:Int
 n:Int
 deriving DecidableEq
structure Column where
 type:Int
 set:Int
 price:Int
 route:Route
 deriving DecidableEq
structure Score where
 cost:Int
 moved:Int
 other:Int
 work:Int
 deriving DecidableEq
structure Cut where
 kind:Int
 set:Int
 n:Int
 deriving DecidableEq
structure TimeT where
 arrive:Int
 start:Int
 depart:Int
 rest:Bool
 deriving DecidableEq
structure Weight where
 yes:Int
 no:Int
 noneYes:Bool
 noneNo:Bool
 deriving DecidableEq
structure StepT where
 inst:Instance
 plan:Plan
 now:Int
 deriving DecidableEq
structure PRow where
 coef:List Int
 kind:Int
 right:Int
 deriving DecidableEq
structure PLin where
 cost:List Int
 rows:List PRow
 deriving DecidableEq
structure Ask where
 x:Instance
 l:List Column
 cuts:List Cut
 d:List Decision
 deriving DecidableEq
structure Sheet where
 rest:Bool
 depart:Int
 times:List TimeT
 stop:Int
 miles:Int
 deriving DecidableEq
attribute [go_sem] CH QI Ij Pa Kq SC fQ KE K6 xX gY Sy Rb QQ RI SL Q8 Le BB FF Gj C7 xR Kx LB L6 Kw K7 KU KH Kl Lx L2 Jq JE Js Hn GU lP NW Pb Pq Oo He mE Ks K8 L1 Lm Lh KV LF Lt LN LE Ju Jb HR IG Ho Jg FC Dd Dm Ib Oz OA Hz tM Dr Ds C9 Dj De C8 A4 A0 oM LW K0 FL Fv LZ LM FY
theorem aH{α:Type}{f:α→List AV}{l:List α}{k:Nat}{x:α}(h:l[k]?=some x):(l.map f).getD k []=f x:=by simp[List.getD,h]
theorem TV{α:Type}(f:α→List AV)(l:List α):(l.map f).length=l.length:=List.length_map f
theorem DD(n:Nat):((n:Int)).toNat=n:=Int.toNat_natCast n
attribute [go_sem] TV DD
theorem aT{n:Int}(h: -9223372036854775808≤n∧n≤9223372036854775807):IntKind.i64.wrap n=n:=IntWalk.i64_in n h
end Go.Aw.D
end
