import Derived.Test.YtpagaknmdfgfkaaGreatDoorChecked
import Derived.KernelRfl
import Derived.Test.YtpagaknmdfgfkaaGreatDoorPb03
set_option linter.unusedSimpArgs false
set_option linter.unusedVariables false
set_option linter.defProp false
set_option maxRecDepth 100000
section
namespace Go.Proofs.YtpagaknmdfgfkaaGreatDoor.Ty
open Go.Aw Go.Proofs
theorem EF{P:Program}{t:TypeId}(h:(P.info? t).map (·.size)=some 1):∃i,P.info? t=some i/\i.size=1:=by
 cases hi:P.info? t with
 | none=>simp[hi]at h
 | some i=>exact⟨i,rfl,by simpa[hi]using h⟩
theorem mixed:Tryz.prog.follows .mixedOrders=true:=by kernel_rfl
theorem arU:cM Tryz.prog 38=some (4,1,1):=by kernel_rfl
theorem arV:cM Tryz.prog 39=some (112,2,16):=by kernel_rfl
theorem avH:cM Tryz.prog 49=some (43,7,88):=by kernel_rfl
theorem aqA:cM Tryz.prog 177=some (228,2,16):=by kernel_rfl
theorem IU:UJ Tryz.prog 235=some (3,3):=by kernel_rfl
theorem kk3:wZ Tryz.prog 3=some 0:=by kernel_rfl
theorem zv3:Ll Tryz.prog 3=some (.v (.int .i64 0)):=by kernel_rfl
theorem so3:∃i,Tryz.prog.info? 3=some i/\i.size=1:=EF (by kernel_rfl)
theorem so4:∃i,Tryz.prog.info? 4=some i/\i.size=1:=EF (by kernel_rfl)
theorem WQ:∃i,Tryz.prog.info? 255=some i/\i.size=1:=EF (by kernel_rfl)
theorem aqE:∃i,Tryz.prog.info? 323=some i/\i.size=1:=EF (by kernel_rfl)
theorem avO:eI Tryz.prog 43=some [.v (.int .i64 0),.v (.int .i64 0),.v (.int .i64 0),.v (.int .i64 0),.v (.int .i64 0),.sl [],.sl []]:=by kernel_rfl
open Go.Proofs.Tryz(prog)
theorem tyJ0:I1 prog 3=some .i64/\I1 prog 5=some .u8/\fL prog 9=true/\FZ prog 167=true/\I1 prog 206=some .u64/\Cp prog 4=true/\A1 prog 112=some [0,2]/\A1 prog 228=some [0,0]/\A1 prog 337=some [0,0,0]/\aP prog 25 0=some (0,none)/\aP prog 25 1=some (1,none)/\aP prog 30 0=some (0,some 2)/\aP prog 30 1=some (2,none)/\aP prog 30 2=some (3,none)/\aP prog 30 3=some (4,none)/\aP prog 30 4=some (5,none)/\aP prog 35 0=some (0,some 6)/\aP prog 35 1=some (6,none)/\aP prog 35 2=some (7,none)/\aP prog 35 3=some (8,none)/\aP prog 41 0=some (0,none)/\aP prog 41 1=some (1,none)/\aP prog 41 2=some (2,none)/\aP prog 41 3=some (3,none)/\aP prog 43 0=some (0,none)/\aP prog 43 1=some (1,none)/\aP prog 43 2=some (2,none)/\aP prog 43 3=some (3,some 4)/\aP prog 64 0=some (0,some 7)/\aP prog 64 1=some (7,none)/\aP prog 72 0=some (0,some 7)/\aP prog 72 1=some (7,none)/\aP prog 85 0=some (0,none)/\aP prog 85 1=some (1,none)/\aP prog 88 0=some (0,none)/\aP prog 88 1=some (1,none)/\aP prog 88 2=some (2,none)/\aP prog 88 3=some (3,none)/\aP prog 88 4=some (4,none)/\aP prog 88 5=some (5,none):=by and_intros<;>kernel_rfl
theorem awB:aP prog 91 0=some (0,none)/\aP prog 91 1=some (1,none)/\aP prog 91 2=some (2,none)/\aP prog 91 3=some (3,none)/\aP prog 93 0=some (0,none)/\aP prog 93 1=some (1,none)/\aP prog 93 2=some (2,some 4)/\aP prog 93 3=some (6,some 4)/\aP prog 93 4=some (10,none)/\aP prog 93 5=some (11,none)/\aP prog 93 6=some (12,none)/\aP prog 93 7=some (13,none)/\aP prog 93 8=some (14,none)/\aP prog 93 9=some (15,none)/\aP prog 95 0=some (0,none)/\aP prog 95 1=some (1,none)/\aP prog 95 2=some (2,none)/\aP prog 95 3=some (3,none)/\aP prog 95 4=some (4,none)/\aP prog 95 5=some (5,none)/\aP prog 95 6=some (6,none)/\aP prog 95 7=some (7,none)/\aP prog 95 8=some (8,none)/\aP prog 95 9=some (9,none)/\aP prog 95 10=some (10,none)/\aP prog 95 11=some (11,none)/\aP prog 95 12=some (12,none)/\aP prog 95 13=some (13,none)/\aP prog 102 0=some (0,none)/\aP prog 102 1=some (1,none)/\aP prog 102 2=some (2,none)/\aP prog 112 0=some (0,none)/\aP prog 112 1=some (1,none)/\aP prog 119 0=some (0,none)/\aP prog 119 1=some (1,none)/\aP prog 128 0=some (0,none)/\aP prog 128 1=some (1,none)/\aP prog 128 2=some (2,none)/\aP prog 128 3=some (3,none)/\aP prog 174 0=some (0,some 6):=by and_intros<;>kernel_rfl
theorem auZ:aP prog 174 1=some (6,none)/\aP prog 174 2=some (7,none)/\aP prog 174 3=some (8,none)/\aP prog 174 4=some (9,some 7)/\aP prog 174 5=some (16,none)/\aP prog 194 0=some (0,none)/\aP prog 194 1=some (1,none)/\aP prog 228 0=some (0,none)/\aP prog 228 1=some (1,none)/\aP prog 257 0=some (0,none)/\aP prog 257 1=some (1,none)/\aP prog 257 2=some (2,none)/\aP prog 257 3=some (3,none)/\aP prog 257 4=some (4,none)/\aP prog 259 0=some (0,none)/\aP prog 259 1=some (1,none)/\aP prog 259 2=some (2,none)/\aP prog 259 3=some (3,none)/\aP prog 325 0=some (0,some 6)/\aP prog 325 1=some (6,some 14)/\aP prog 325 2=some (20,some 4)/\aP prog 325 3=some (24,none)/\aP prog 329 0=some (0,none)/\aP prog 329 1=some (1,none)/\aP prog 329 2=some (2,some 5)/\aP prog 375 1=some (1,none)/\aP prog 375 2=some (2,none)/\aP prog 375 3=some (3,none)/\aP prog 389 0=some (0,none)/\aP prog 389 1=some (1,none)/\aP prog 389 2=some (2,none)/\aP prog 389 3=some (3,none)/\cM prog 22=some (9,1,16)/\dC prog 22=true/\cM prog 23=some (88,6,80)/\dC prog 23=true/\cM prog 26=some (95,14,136)/\dC prog 26=true/\cM prog 27=some (93,16,152)/\dC prog 27=true:=by and_intros<;>kernel_rfl
theorem atL:cM prog 28=some (169,2,16)/\dC prog 28=true/\cM prog 31=some (102,3,24)/\dC prog 31=true/\cM prog 32=some (128,4,32)/\dC prog 32=true/\cM prog 33=some (44,1,16)/\dC prog 33=true/\dC prog 38=true/\dC prog 39=true/\fL prog 44=true/\dC prog 49=true/\cM prog 54=some (119,2,24)/\dC prog 54=true/\cM prog 60=some (64,8,104)/\dC prog 60=true/\cM prog 67=some (72,8,104)/\dC prog 67=true/\cM prog 86=some (85,2,16)/\dC prog 86=true/\cM prog 89=some (3,1,8)/\dC prog 89=true/\CM prog 107=some (4,1,none)/\cM prog 122=some (45,1,8)/\dC prog 122=true/\cM prog 137=some (184,3,40)/\dC prog 137=true/\cM prog 167=some (5,1,1)/\CM prog 169=some (2,1,none)/\dC prog 177=true/\cM prog 190=some (194,2,24)/\dC prog 190=true/\cM prog 207=some (3,1,8)/\dC prog 207=true/\CM prog 238=some (2,1,none)/\cM prog 243=some (89,1,24)/\dC prog 243=true/\cM prog 255=some (375,4,32)/\dC prog 255=true/\cM prog 269=some (238,2,32):=by and_intros<;>kernel_rfl
theorem arP:dC prog 269=true/\cM prog 285=some (282,1,8)/\dC prog 285=true/\CM prog 289=some (4,1,none)/\cM prog 323=some (91,4,32)/\dC prog 323=true/\cM prog 331=some (329,7,72)/\dC prog 331=true/\ldT prog 3=some none/\ldT prog 4=some none/\ldT prog 9=some none/\ldT prog 22=some none/\ldT prog 23=some none/\ldT prog 25=some (some 2)/\ldT prog 26=some none/\ldT prog 27=some none/\ldT prog 28=some none/\ldT prog 30=some (some 6)/\ldT prog 31=some none/\ldT prog 32=some none/\ldT prog 33=some none/\ldT prog 35=some (some 9)/\ldT prog 38=some none/\ldT prog 39=some none/\ldT prog 41=some (some 4)/\ldT prog 43=some (some 7)/\ldT prog 44=some none/\ldT prog 45=some none/\ldT prog 64=some (some 8)/\ldT prog 85=some (some 2)/\ldT prog 86=some none/\ldT prog 88=some (some 6)/\ldT prog 89=some none/\ldT prog 91=some (some 4)/\ldT prog 93=some (some 16)/\ldT prog 95=some (some 14)/\ldT prog 102=some (some 3)/\ldT prog 107=some (some 4)/\ldT prog 112=some (some 2)/\ldT prog 128=some (some 4):=by and_intros<;>kernel_rfl
theorem arC:ldT prog 169=some (some 2)/\ldT prog 194=some (some 2)/\ldT prog 228=some (some 2)/\ldT prog 231=some none/\ldT prog 238=some (some 2)/\ldT prog 255=some none/\ldT prog 257=some (some 5)/\ldT prog 259=some (some 4)/\ldT prog 282=some none/\ldT prog 289=some (some 4)/\ldT prog 323=some none/\ldT prog 325=some (some 25)/\ldT prog 329=some (some 7)/\ldT prog 337=some (some 3)/\ldT prog 375=some (some 4)/\ldT prog 389=some (some 4)/\fC prog 25=some [(0,1),(1,1)]/\fC prog 30=some [(0,2),(2,1),(3,1),(4,1),(5,1)]/\fC prog 41=some [(0,1),(1,1),(2,1),(3,1)]/\fC prog 43=some [(0,1),(1,1),(2,1),(3,4)]/\fC prog 64=some [(0,7),(7,1)]/\fC prog 72=some [(0,7),(7,1)]/\fC prog 85=some [(0,1),(1,1)]/\fC prog 88=some [(0,1),(1,1),(2,1),(3,1),(4,1),(5,1)]/\fC prog 91=some [(0,1),(1,1),(2,1),(3,1)]/\fC prog 93=some [(0,1),(1,1),(2,4),(6,4),(10,1),(11,1),(12,1),(13,1),(14,1),(15,1)]/\fC prog 95=some [(0,1),(1,1),(2,1),(3,1),(4,1),(5,1),(6,1),(7,1),(8,1),(9,1),(10,1),(11,1),(12,1),(13,1)]/\fC prog 107=some [(0,1),(1,1),(2,1),(3,1)]/\fC prog 112=some [(0,1),(1,1)]/\fC prog 119=some [(0,1),(1,1)]/\fC prog 174=some [(0,6),(6,1),(7,1),(8,1),(9,7),(16,1)]/\fC prog 184=some [(0,1),(1,1),(2,1)]/\fC prog 194=some [(0,1),(1,1)]/\fC prog 228=some [(0,1),(1,1)]/\fC prog 238=some [(0,1),(1,1)]/\fC prog 257=some [(0,1),(1,1),(2,1),(3,1),(4,1)]/\fC prog 259=some [(0,1),(1,1),(2,1),(3,1)]/\fC prog 289=some [(0,1),(1,1),(2,1),(3,1)]/\fC prog 325=some [(0,6),(6,14),(20,4),(24,1)]/\fC prog 329=some [(0,1),(1,1),(2,5)]:=by and_intros<;>kernel_rfl
theorem auD:fC prog 337=some [(0,1),(1,1),(2,1)]/\fC prog 375=some [(0,1),(1,1),(2,1),(3,1)]/\fC prog 389=some [(0,1),(1,1),(2,1),(3,1)]/\eI prog 3=some [.v (.int .i64 0)]/\eI prog 4=some [.v (.bool false)]/\eI prog 9=some [.v (.string ByteArray.empty)]/\eI prog 25=some [.sl [],.sl []]/\eI prog 30=some [.sl [],.sl [],.sl [],.sl [],.sl [],.sl []]/\eI prog 41=some [.v (.int .i64 0),.v (.int .i64 0),.sl [],.sl []]/\eI prog 64=some [.v (.int .i64 0),.v (.int .i64 0),.v (.int .i64 0),.v (.int .i64 0),.v (.int .i64 0),.sl [],.sl [],.v (.string ByteArray.empty)]/\eI prog 72=some [.v (.int .i64 0),.v (.int .i64 0),.v (.int .i64 0),.v (.int .i64 0),.v (.int .i64 0),.sl [],.sl [],.v (.string ByteArray.empty)]/\eI prog 85=some [.v (.int .i64 0),.v (.int .i64 0)]/\eI prog 88=some [.v (.int .i64 0),.v (.int .i64 0),.v (.int .i64 0),.v (.int .i64 0),.sl [],.sl []]/\eI prog 91=some [.v (.int .i64 0),.v (.int .i64 0),.v (.int .i64 0),.v (.int .i64 0)]/\eI prog 93=some [.v (.string ByteArray.empty),.sl [],.v (.int .i64 0),.v (.int .i64 0),.v (.int .i64 0),.v (.int .i64 0),.v (.int .i64 0),.v (.int .i64 0),.v (.int .i64 0),.v (.int .i64 0),.v (.int .i64 0),.v (.int .i64 0),.v (.int .i64 0),.v (.int .i64 0),.v (.int .i64 0),.v (.bool false)]/\eI prog 95=some [.v (.string ByteArray.empty),.v (.int .i64 0),.v (.int .i64 0),.v (.int .i64 0),.sl [],.v (.int .i64 0),.v (.int .i64 0),.v (.int .i64 0),.v (.int .i64 0),.v (.int .i64 0),.v (.int .i64 0),.v (.int .i64 0),.v (.int .i64 0),.v (.int .i64 0)]/\eI prog 102=some [.v (.int .i64 0),.v (.int .i64 0),.v (.int .i64 0)]/\eI prog 107=some [.v (.string ByteArray.empty),.v (.string ByteArray.empty),.v (.string ByteArray.empty),.v (.string ByteArray.empty)]/\eI prog 112=some [.v (.int .i64 0),.v (.bool false)]/\eI prog 119=some [.v (.int .i64 0),.v (.string ByteArray.empty)]/\eI prog 128=some [.v (.int .i64 0),.v (.int .i64 0),.v (.int .i64 0),.v (.int .i64 0)]/\eI prog 169=some [.v (.int .i64 0),.v (.int .i64 0)]/\eI prog 174=some [.sl [],.sl [],.sl [],.sl [],.sl [],.sl [],.v (.int .i64 0),.v (.int .i64 0),.v (.int .i64 0),.v (.int .i64 0),.v (.int .i64 0),.v (.int .i64 0),.v (.int .i64 0),.v (.int .i64 0),.sl [],.sl [],.v (.bool false)]/\uC prog 184=some [(0,3,1)]/\eI prog 184=some [.sl [],.v (.int .i64 0),.v (.int .i64 0)]/\eI prog 194=some [.v (.bool false),.v (.string ByteArray.empty)]/\eI prog 228=some [.v (.int .i64 0),.v (.int .i64 0)]/\eI prog 238=some [.v (.string ByteArray.empty),.v (.string ByteArray.empty)]/\uC prog 257=some [(2,375,4)]/\eI prog 257=some [.v (.bool false),.v (.int .i64 0),.sl [],.v (.int .i64 0),.v (.int .i64 0)]/\eI prog 259=some [.v (.int .i64 0),.v (.int .i64 0),.v (.int .i64 0),.v (.int .i64 0)]/\eI prog 289=some [.v (.int .i64 0),.v (.int .i64 0),.v (.int .i64 0),.v (.int .i64 0)]/\uC prog 325=some [(0,9,1),(1,88,6),(2,95,14),(3,93,16),(4,169,2),(5,169,2),(10,3,1),(22,4,1),(23,112,2),(24,91,4)]/\eI prog 325=some [.sl [],.sl [],.sl [],.sl [],.sl [],.sl [],.v (.string ByteArray.empty),.v (.int .i64 0),.v (.int .i64 0),.v (.int .i64 0),.sl [],.v (.int .i64 0),.v (.int .i64 0),.v (.int .i64 0),.v (.int .i64 0),.v (.int .i64 0),.v (.int .i64 0),.v (.int .i64 0),.v (.int .i64 0),.v (.int .i64 0),.v (.int .i64 0),.v (.int .i64 0),.sl [],.sl [],.sl []]/\eI prog 329=some [.v (.int .i64 0),.v (.int .i64 0),.v (.bool false),.v (.int .i64 0),.sl [],.v (.int .i64 0),.v (.int .i64 0)]/\eI prog 337=some [.v (.int .i64 0),.v (.int .i64 0),.v (.int .i64 0)]/\eI prog 375=some [.v (.int .i64 0),.v (.int .i64 0),.v (.int .i64 0),.v (.bool false)]/\eI prog 389=some [.v (.int .i64 0),.v (.int .i64 0),.v (.int .i64 0),.v (.int .i64 0)]/\aE prog 5=true/\aE prog 6=true:=by and_intros<;>kernel_rfl
theorem auA:aE prog 7=true/\aE prog 8=true/\aE prog 9=true/\aE prog 10=true/\aE prog 13=true/\aE prog 14=true/\aE prog 15=true/\aE prog 16=true/\aE prog 17=true/\aE prog 18=true/\aE prog 19=true/\aE prog 21=true/\aE prog 22=true/\aE prog 23=true/\aE prog 24=true/\aE prog 25=true/\aE prog 26=true/\aE prog 29=true/\aE prog 30=true/\aE prog 31=true/\aE prog 32=true/\aE prog 33=true/\aE prog 34=true/\aE prog 35=true/\aE prog 36=true/\aE prog 37=true/\aE prog 38=true/\aE prog 40=true/\aE prog 41=true/\aE prog 42=true/\aE prog 43=true/\aE prog 44=true/\aE prog 45=true/\aE prog 46=true/\aE prog 47=true/\aE prog 48=true/\aE prog 49=true/\aE prog 50=true/\aE prog 51=true/\aE prog 52=true:=by and_intros<;>kernel_rfl
theorem arD:aE prog 53=true/\aE prog 54=true/\aE prog 55=true/\aE prog 56=true/\aE prog 57=true/\aE prog 58=true/\aE prog 59=true/\aE prog 60=true/\aE prog 61=true/\aE prog 62=true/\aE prog 63=true/\aE prog 64=true/\aE prog 65=true/\aE prog 66=true/\aE prog 67=true/\aE prog 68=true/\aE prog 69=true/\aE prog 70=true/\aE prog 71=true/\aE prog 72=true/\aE prog 73=true/\aE prog 74=true/\aE prog 75=true/\aE prog 76=true/\aE prog 77=true/\aE prog 78=true/\aE prog 79=true/\aE prog 80=true/\aE prog 81=true/\aE prog 82=true/\aE prog 83=true/\aE prog 84=true/\aE prog 85=true/\aE prog 86=true/\aE prog 87=true/\aE prog 88=true/\aE prog 89=true/\aE prog 90=true/\aE prog 91=true/\aE prog 92=true:=by and_intros<;>kernel_rfl
theorem arE:aE prog 94=true/\aE prog 95=true/\aE prog 96=true/\aE prog 97=true/\aE prog 98=true/\aE prog 99=true/\aE prog 100=true/\aE prog 101=true/\aE prog 102=true/\aE prog 103=true/\aE prog 104=true/\aE prog 105=true/\aE prog 106=true/\aE prog 107=true/\aE prog 108=true/\aE prog 109=true/\aE prog 110=true/\aE prog 111=true/\aE prog 112=true/\aE prog 113=true/\aE prog 114=true/\aE prog 115=true/\aE prog 116=true/\aE prog 117=true/\aE prog 118=true/\aE prog 119=true/\aE prog 120=true/\aE prog 121=true/\aE prog 122=true/\aE prog 123=true/\aE prog 124=true/\aE prog 125=true/\aE prog 126=true/\aE prog 127=true/\aE prog 128=true/\aE prog 129=true/\aE prog 130=true/\aE prog 132=true/\aE prog 133=true/\aE prog 134=true:=by and_intros<;>kernel_rfl
theorem arA:aE prog 135=true/\aE prog 136=true/\aE prog 137=true/\aE prog 138=true/\aE prog 139=true/\aE prog 140=true/\aE prog 141=true/\aE prog 142=true/\aE prog 143=true/\aE prog 144=true/\aE prog 145=true/\aE prog 146=true/\aE prog 147=true/\aE prog 148=true/\aE prog 149=true/\aE prog 150=true/\aE prog 151=true/\aE prog 152=true/\aE prog 153=true/\aE prog 154=true/\aE prog 155=true/\aE prog 156=true/\aE prog 157=true/\aE prog 158=true/\aE prog 159=true/\aE prog 160=true/\aE prog 163=true/\aE prog 164=true/\aE prog 165=true/\aE prog 167=true/\aE prog 168=true/\aE prog 169=true/\aE prog 170=true/\aE prog 171=true/\aE prog 172=true/\aE prog 173=true/\aE prog 174=true/\aE prog 176=true/\aE prog 177=true/\aE prog 178=true:=by and_intros<;>kernel_rfl
theorem auP:aE prog 179=true/\aE prog 180=true/\aE prog 181=true/\aE prog 183=true/\aE prog 184=true/\aE prog 188=true/\aE prog 190=true/\aE prog 191=true/\aE prog 193=true/\aE prog 194=true/\aE prog 195=true/\aE prog 196=true/\aE prog 197=true/\aE prog 198=true/\aE prog 199=true/\aE prog 200=true/\aE prog 201=true/\aE prog 202=true/\aE prog 203=true/\aE prog 204=true/\aE prog 205=true/\aE prog 206=true/\aE prog 207=true/\aE prog 208=true/\aE prog 209=true/\aE prog 210=true/\aE prog 211=true/\aE prog 212=true/\aE prog 213=true/\aE prog 214=true/\aE prog 215=true/\aE prog 217=true/\aE prog 218=true/\aE prog 219=true/\aE prog 220=true/\aE prog 221=true/\aE prog 224=true/\aE prog 225=true/\aE prog 226=true/\aE prog 227=true:=by and_intros<;>kernel_rfl
theorem asO:aE prog 228=true/\aE prog 229=true/\aE prog 230=true/\aE prog 231=true/\aE prog 232=true/\aE prog 233=true/\aE prog 234=true/\aE prog 238=true/\aE prog 240=true/\aE prog 241=true/\aE prog 242=true/\aE prog 243=true/\aE prog 244=true/\aE prog 245=true/\aE prog 246=true/\aE prog 247=true/\aE prog 248=true/\aE prog 249=true/\aE prog 250=true/\aE prog 251=true/\aE prog 252=true/\aE prog 258=true/\aE prog 259=true/\aE prog 260=true/\aE prog 261=true/\aE prog 262=true/\aE prog 263=true/\aE prog 264=true/\aE prog 265=true/\aE prog 266=true/\aE prog 267=true/\aE prog 268=true/\aE prog 269=true/\aE prog 270=true/\aE prog 271=true/\aE prog 272=true/\aE prog 273=true/\aE prog 279=true/\aE prog 281=true/\aE prog 282=true:=by and_intros<;>kernel_rfl
theorem atM:aE prog 283=true/\aE prog 284=true/\aE prog 285=true/\aE prog 286=true/\aE prog 287=true/\aE prog 288=true/\aE prog 289=true/\aE prog 290=true/\aE prog 291=true/\aE prog 294=true/\aE prog 295=true/\aE prog 296=true/\aE prog 297=true/\aE prog 298=true/\aE prog 299=true/\aE prog 300=true/\aE prog 301=true/\aE prog 302=true/\aE prog 303=true/\aE prog 304=true/\aE prog 305=true/\aE prog 306=true/\aE prog 307=true/\aE prog 308=true/\aE prog 309=true/\aE prog 310=true/\aE prog 311=true/\aE prog 312=true/\aE prog 313=true/\aE prog 314=true/\aE prog 315=true/\aE prog 316=true/\aE prog 324=true/\aE prog 325=true/\aE prog 326=true/\aE prog 327=true/\aE prog 328=true/\aE prog 329=true/\aE prog 330=true/\aE prog 331=true:=by and_intros<;>kernel_rfl
theorem asZ:aE prog 332=true/\aE prog 333=true/\aE prog 334=true/\aE prog 336=true/\aE prog 337=true/\aE prog 338=true/\aE prog 339=true/\aE prog 340=true/\aE prog 341=true/\aE prog 342=true/\aE prog 343=true/\aE prog 344=true/\aE prog 345=true/\aE prog 346=true/\aE prog 347=true/\aE prog 348=true/\aE prog 349=true/\aE prog 356=true/\aE prog 357=true/\aE prog 358=true/\aE prog 359=true/\aE prog 360=true/\aE prog 361=true/\aE prog 362=true/\aE prog 363=true/\aE prog 364=true/\aE prog 365=true/\aE prog 366=true/\aE prog 367=true/\aE prog 368=true/\aE prog 369=true/\aE prog 370=true/\aE prog 371=true/\aE prog 372=true/\aE prog 376=true/\aE prog 377=true/\aE prog 378=true/\aE prog 379=true/\aE prog 380=true/\aE prog 381=true:=by and_intros<;>kernel_rfl
theorem arB:aE prog 382=true/\aE prog 383=true/\aE prog 384=true/\aE prog 385=true/\aE prog 386=true/\aE prog 387=true:=by and_intros<;>kernel_rfl
attribute [go_sem] arU arV avH aqA IU kk3 zv3 so3 so4 WQ aqE avO tyJ0 awB auZ atL arP arC auD auA arD arE arA auP asO atM asZ arB
end Go.Proofs.YtpagaknmdfgfkaaGreatDoor.Ty
end
section
namespace Go.Aw.D
open Go.Aw
def bC(n:Int):List AV:=[.v (.int .i64 n)]
def dI(b:Bool):List AV:=[.v (.bool b)]
def fE(s:ByteArray):List AV:=[.v (.string s)]
def JK(x:Int):(bC x).length=1:=rfl
def adE(x:Int):(bC x).getD 0 .any=.v (.int .i64 x):=rfl
def PF(x:Bool):(dI x).length=1:=rfl
def ZR(x:Bool):(dI x).getD 0 .any=.v (.bool x):=rfl
def Ub(x:ByteArray):(fE x).length=1:=rfl
def aiA(x:ByteArray):(fE x).getD 0 .any=.v (.string x):=rfl
structure Point where
 t:Int
 a:Int
 deriving DecidableEq
def cC(x:Point):List AV:=[.v (.int .i64 x.t),.v (.int .i64 x.a)]
def fX(x:Point):(cC x).length=2:=rfl
def UK(x:Point):(cC x).getD 0 .any=.v (.int .i64 x.t):=rfl
def Uk(x:Point):(cC x).getD 1 .any=.v (.int .i64 x.a):=rfl
def DJ(x:Point):(cC x).take 2=cC x:=rfl
structure Arc where
 src:Int
 dst:Int
 profile:Int
 miles:Int
 travel:List Point
 slow:List Point
 deriving DecidableEq
def gD(x:Arc):List AV:=[.v (.int .i64 x.src),.v (.int .i64 x.dst),.v (.int .i64 x.profile),.v (.int .i64 x.miles),.sl (x.travel.map cC),.sl (x.slow.map cC)]
def jJ(x:Arc):(gD x).length=6:=rfl
def adP(x:Arc):(gD x).getD 0 .any=.v (.int .i64 x.src):=rfl
def abF(x:Arc):(gD x).getD 1 .any=.v (.int .i64 x.dst):=rfl
def aiW(x:Arc):(gD x).getD 2 .any=.v (.int .i64 x.profile):=rfl
def acX(x:Arc):(gD x).getD 3 .any=.v (.int .i64 x.miles):=rfl
def abM(x:Arc):(gD x).getD 4 .any=.sl (x.travel.map cC):=rfl
def aeQ(x:Arc):(gD x).getD 5 .any=.sl (x.slow.map cC):=rfl
def T7(x:Arc):(gD x).take 6=gD x:=rfl
structure Network where
 places:List ByteArray
 arcs:List Arc
 deriving DecidableEq
def bD(x:Network):List AV:=[.sl (x.places.map fE),.sl (x.arcs.map gD)]
def IN(x:Network):(bD x).length=2:=rfl
def O6(x:Network):(bD x).getD 0 .any=.sl (x.places.map fE):=rfl
def N3(x:Network):(bD x).getD 1 .any=.sl (x.arcs.map gD):=rfl
def HV(x:Network):(bD x).take 2=bD x:=rfl
structure VType where
 name:ByteArray
 count:Int
 src:Int
 dst:Int
 cap:List Int
 skills:Int
 profile:Int
 start:Int
 close:Int
 drive:Int
 rest:Int
 fixed:Int
 perMile:Int
 perTick:Int
 deriving DecidableEq
def bF(x:VType):List AV:=[.v (.string x.name),.v (.int .i64 x.count),.v (.int .i64 x.src),.v (.int .i64 x.dst),.sl (x.cap.map bC),.v (.int .i64 x.skills),.v (.int .i64 x.profile),.v (.int .i64 x.start),.v (.int .i64 x.close),.v (.int .i64 x.drive),.v (.int .i64 x.rest),.v (.int .i64 x.fixed),.v (.int .i64 x.perMile),.v (.int .i64 x.perTick)]
def iP(x:VType):(bF x).length=14:=rfl
def UI(x:VType):(bF x).getD 0 .any=.v (.string x.name):=rfl
def VD(x:VType):(bF x).getD 1 .any=.v (.int .i64 x.count):=rfl
def Vv(x:VType):(bF x).getD 2 .any=.v (.int .i64 x.src):=rfl
def Vi(x:VType):(bF x).getD 3 .any=.v (.int .i64 x.dst):=rfl
def UL(x:VType):(bF x).getD 4 .any=.sl (x.cap.map bC):=rfl
def T8(x:VType):(bF x).getD 5 .any=.v (.int .i64 x.skills):=rfl
def TV(x:VType):(bF x).getD 6 .any=.v (.int .i64 x.profile):=rfl
def VO(x:VType):(bF x).getD 7 .any=.v (.int .i64 x.start):=rfl
def U7(x:VType):(bF x).getD 8 .any=.v (.int .i64 x.close):=rfl
def V1(x:VType):(bF x).getD 9 .any=.v (.int .i64 x.drive):=rfl
def QE(x:VType):(bF x).getD 10 .any=.v (.int .i64 x.rest):=rfl
def Qf(x:VType):(bF x).getD 11 .any=.v (.int .i64 x.fixed):=rfl
def Pm(x:VType):(bF x).getD 12 .any=.v (.int .i64 x.perMile):=rfl
def SH(x:VType):(bF x).getD 13 .any=.v (.int .i64 x.perTick):=rfl
def O8(x:VType):(bF x).take 14=bF x:=rfl
structure Stop where
 place:Int
 start:Int
 close:Int
 service:Int
 deriving DecidableEq
def eN(x:Stop):List AV:=[.v (.int .i64 x.place),.v (.int .i64 x.start),.v (.int .i64 x.close),.v (.int .i64 x.service)]
def iB(x:Stop):(eN x).length=4:=rfl
def Zn(x:Stop):(eN x).getD 0 .any=.v (.int .i64 x.place):=rfl
def Zt(x:Stop):(eN x).getD 1 .any=.v (.int .i64 x.start):=rfl
def Zm(x:Stop):(eN x).getD 2 .any=.v (.int .i64 x.close):=rfl
def Zx(x:Stop):(eN x).getD 3 .any=.v (.int .i64 x.service):=rfl
def PW(x:Stop):(eN x).take 4=eN x:=rfl
structure Order where
 name:ByteArray
 load:List Int
 pick:Stop
 drop:Stop
 skills:Int
 penalty:Int
 split:Int
 last:Int
 now:Int
 off:Bool
 deriving DecidableEq
def bH(x:Order):List AV:=[.v (.string x.name),.sl (x.load.map bC),.v (.int .i64 x.pick.place),.v (.int .i64 x.pick.start),.v (.int .i64 x.pick.close),.v (.int .i64 x.pick.service),.v (.int .i64 x.drop.place),.v (.int .i64 x.drop.start),.v (.int .i64 x.drop.close),.v (.int .i64 x.drop.service),.v (.int .i64 x.skills),.v (.int .i64 x.penalty),.v (.int .i64 x.split),.v (.int .i64 x.last),.v (.int .i64 x.now),.v (.bool x.off)]
def uT(x:Order):(bH x).length=16:=rfl
def Wg(x:Order):(bH x).getD 0 .any=.v (.string x.name):=rfl
def VY(x:Order):(bH x).getD 1 .any=.sl (x.load.map bC):=rfl
def Wi(x:Order):(bH x).getD 2 .any=.v (.int .i64 x.pick.place):=rfl
def Vk(x:Order):(bH x).getD 3 .any=.v (.int .i64 x.pick.start):=rfl
def VC(x:Order):(bH x).getD 4 .any=.v (.int .i64 x.pick.close):=rfl
def We(x:Order):(bH x).getD 5 .any=.v (.int .i64 x.pick.service):=rfl
def V6(x:Order):(bH x).getD 6 .any=.v (.int .i64 x.drop.place):=rfl
def Uu(x:Order):(bH x).getD 7 .any=.v (.int .i64 x.drop.start):=rfl
def TI(x:Order):(bH x).getD 8 .any=.v (.int .i64 x.drop.close):=rfl
def T9(x:Order):(bH x).getD 9 .any=.v (.int .i64 x.drop.service):=rfl
def QW(x:Order):(bH x).getD 10 .any=.v (.int .i64 x.skills):=rfl
def SC(x:Order):(bH x).getD 11 .any=.v (.int .i64 x.penalty):=rfl
def RG(x:Order):(bH x).getD 12 .any=.v (.int .i64 x.split):=rfl
def PQ(x:Order):(bH x).getD 13 .any=.v (.int .i64 x.last):=rfl
def PZ(x:Order):(bH x).getD 14 .any=.v (.int .i64 x.now):=rfl
def Sy(x:Order):(bH x).getD 15 .any=.v (.bool x.off):=rfl
def Nr(x:Order):(bH x).take 16=bH x:=rfl
def KE(x:Order):((bH x).drop 2).take 4=eN x.pick:=rfl
def KA(x:Order):((bH x).drop 6).take 4=eN x.drop:=rfl
structure Pair where
 a:Int
 b:Int
 deriving DecidableEq
def dH(x:Pair):List AV:=[.v (.int .i64 x.a),.v (.int .i64 x.b)]
def nP(x:Pair):(dH x).length=2:=rfl
def Z6(x:Pair):(dH x).getD 0 .any=.v (.int .i64 x.a):=rfl
def ZL(x:Pair):(dH x).getD 1 .any=.v (.int .i64 x.b):=rfl
def QI(x:Pair):(dH x).take 2=dH x:=rfl
structure Instance where
 net:Network
 types:List VType
 orders:List Order
 apart:List Pair
 before:List Pair
 deriving DecidableEq
def aC(x:Instance):List AV:=[.sl (x.net.places.map fE),.sl (x.net.arcs.map gD),.sl (x.types.map bF),.sl (x.orders.map bH),.sl (x.apart.map dH),.sl (x.before.map dH)]
def G0(x:Instance):(aC x).length=6:=rfl
def KC(x:Instance):(aC x).getD 0 .any=.sl (x.net.places.map fE):=rfl
def Kz(x:Instance):(aC x).getD 1 .any=.sl (x.net.arcs.map gD):=rfl
def KY(x:Instance):(aC x).getD 2 .any=.sl (x.types.map bF):=rfl
def Ks(x:Instance):(aC x).getD 3 .any=.sl (x.orders.map bH):=rfl
def KV(x:Instance):(aC x).getD 4 .any=.sl (x.apart.map dH):=rfl
def KB(x:Instance):(aC x).getD 5 .any=.sl (x.before.map dH):=rfl
def He(x:Instance):(aC x).take 6=aC x:=rfl
def G2(x:Instance):(aC x).take 2=bD x.net:=rfl
structure Visit where
 order:Int
 drop:Bool
 deriving DecidableEq
def aF(x:Visit):List AV:=[.v (.int .i64 x.order),.v (.bool x.drop)]
def dJ(x:Visit):(aF x).length=2:=rfl
def TK(x:Visit):(aF x).getD 0 .any=.v (.int .i64 x.order):=rfl
def Ud(x:Visit):(aF x).getD 1 .any=.v (.bool x.drop):=rfl
def NO(x:Visit):(aF x).take 2=aF x:=rfl
structure Route where
 type:Int
 start:Int
 rests:List Bool
 visits:List Visit
 deriving DecidableEq
def bT(x:Route):List AV:=[.v (.int .i64 x.type),.v (.int .i64 x.start),.sl (x.rests.map dI),.sl (x.visits.map aF)]
def AB(x:Route):(bT x).length=4:=rfl
def Wn(x:Route):(bT x).getD 0 .any=.v (.int .i64 x.type):=rfl
def V0(x:Route):(bT x).getD 1 .any=.v (.int .i64 x.start):=rfl
def Vb(x:Route):(bT x).getD 2 .any=.sl (x.rests.map dI):=rfl
def Vu(x:Route):(bT x).getD 3 .any=.sl (x.visits.map aF):=rfl
def Oz(x:Route):(bT x).take 4=bT x:=rfl
structure Plan where
 routes:List Route
 unserved:List Int
 deriving DecidableEq
structure Fault where
 err:Int
 at_:ByteArray
 deriving DecidableEq
def iK(x:Fault):List AV:=[.v (.int .i64 x.err),.v (.string x.at_)]
def Nv(x:Fault):(iK x).length=2:=rfl
def UM(x:Fault):(iK x).getD 0 .any=.v (.int .i64 x.err):=rfl
def Ve(x:Fault):(iK x).getD 1 .any=.v (.string x.at_):=rfl
def OD(x:Fault):(iK x).take 2=iK x:=rfl
structure Decision where
 kind:Int
 a:Int
 b:Int
 n:Int
 deriving DecidableEq
def aS(x:Decision):List AV:=[.v (.int .i64 x.kind),.v (.int .i64 x.a),.v (.int .i64 x.b),.v (.int .i64 x.n)]
def mM(x:Decision):(aS x).length=4:=rfl
def K3(x:Decision):(aS x).getD 0 .any=.v (.int .i64 x.kind):=rfl
def Kv(x:Decision):(aS x).getD 1 .any=.v (.int .i64 x.a):=rfl
def KQ(x:Decision):(aS x).getD 2 .any=.v (.int .i64 x.b):=rfl
def KP(x:Decision):(aS x).getD 3 .any=.v (.int .i64 x.n):=rfl
def G1(x:Decision):(aS x).take 4=aS x:=rfl
structure Column where
 type:Int
 set:Int
 price:Int
 route:Route
 deriving DecidableEq
def aU(x:Column):List AV:=[.v (.int .i64 x.type),.v (.int .i64 x.set),.v (.int .i64 x.price),.v (.int .i64 x.route.type),.v (.int .i64 x.route.start),.sl (x.route.rests.map dI),.sl (x.route.visits.map aF)]
def cF(x:Column):(aU x).length=7:=rfl
def PV(x:Column):(aU x).getD 0 .any=.v (.int .i64 x.type):=rfl
def Rh(x:Column):(aU x).getD 1 .any=.v (.int .i64 x.set):=rfl
def ST(x:Column):(aU x).getD 2 .any=.v (.int .i64 x.price):=rfl
def QM(x:Column):(aU x).getD 3 .any=.v (.int .i64 x.route.type):=rfl
def Po(x:Column):(aU x).getD 4 .any=.v (.int .i64 x.route.start):=rfl
def PR(x:Column):(aU x).getD 5 .any=.sl (x.route.rests.map dI):=rfl
def Q4(x:Column):(aU x).getD 6 .any=.sl (x.route.visits.map aF):=rfl
def KZ(x:Column):(aU x).take 7=aU x:=rfl
def G8(x:Column):((aU x).drop 3).take 4=bT x.route:=rfl
structure Score where
 cost:Int
 moved:Int
 other:Int
 work:Int
 deriving DecidableEq
def cH(x:Score):List AV:=[.v (.int .i64 x.cost),.v (.int .i64 x.moved),.v (.int .i64 x.other),.v (.int .i64 x.work)]
def kU(x:Score):(cH x).length=4:=rfl
def Ah(x:Score):(cH x).getD 0 .any=.v (.int .i64 x.cost):=rfl
def Av(x:Score):(cH x).getD 1 .any=.v (.int .i64 x.moved):=rfl
def AQ(x:Score):(cH x).getD 2 .any=.v (.int .i64 x.other):=rfl
def AG(x:Score):(cH x).getD 3 .any=.v (.int .i64 x.work):=rfl
def uS(x:Score):(cH x).take 4=cH x:=rfl
structure Cut where
 kind:Int
 set:Int
 n:Int
 deriving DecidableEq
def dV(x:Cut):List AV:=[.v (.int .i64 x.kind),.v (.int .i64 x.set),.v (.int .i64 x.n)]
def AR(x:Cut):(dV x).length=3:=rfl
def abT(x:Cut):(dV x).getD 0 .any=.v (.int .i64 x.kind):=rfl
def akV(x:Cut):(dV x).getD 1 .any=.v (.int .i64 x.set):=rfl
def adN(x:Cut):(dV x).getD 2 .any=.v (.int .i64 x.n):=rfl
def U3(x:Cut):(dV x).take 3=dV x:=rfl
structure TimeT where
 arrive:Int
 start:Int
 depart:Int
 rest:Bool
 deriving DecidableEq
def Ra(x:TimeT):List AV:=[.v (.int .i64 x.arrive),.v (.int .i64 x.start),.v (.int .i64 x.depart),.v (.bool x.rest)]
structure Weight where
 yes:Int
 no:Int
 noneYes:Bool
 noneNo:Bool
 deriving DecidableEq
structure StepT where
 inst:Instance
 plan:Plan
 now:Int
 deriving DecidableEq
structure PRow where
 coef:List Int
 kind:Int
 right:Int
 deriving DecidableEq
structure PLin where
 cost:List Int
 rows:List PRow
 deriving DecidableEq
structure Ask where
 x:Instance
 l:List Column
 cuts:List Cut
 d:List Decision
 deriving DecidableEq
structure TNode where
 leaf:Bool
 kind:Int
 cuts:List Cut
 dual:List ByteArray
 choice:Decision
 yes:Int
 no:Int
 deriving DecidableEq
structure Proof where
 noPlan:Bool
 plan:Plan
 nodes:List TNode
 deriving DecidableEq
structure Ask3 where
 x:Instance
 cuts:List Cut
 d:List Decision
 dual:List ByteArray
 deriving DecidableEq
def kJ(x:Ask3):List AV:=[.sl (x.x.net.places.map fE),.sl (x.x.net.arcs.map gD),.sl (x.x.types.map bF),.sl (x.x.orders.map bH),.sl (x.x.apart.map dH),.sl (x.x.before.map dH),.sl (x.cuts.map dV),.sl (x.d.map aS),.sl (x.dual.map fE)]
def Tq(x:Ask3):(kJ x).length=9:=rfl
def abB(x:Ask3):(kJ x).getD 0 .any=.sl (x.x.net.places.map fE):=rfl
def aaQ(x:Ask3):(kJ x).getD 1 .any=.sl (x.x.net.arcs.map gD):=rfl
def YU(x:Ask3):(kJ x).getD 2 .any=.sl (x.x.types.map bF):=rfl
def ZD(x:Ask3):(kJ x).getD 3 .any=.sl (x.x.orders.map bH):=rfl
def YT(x:Ask3):(kJ x).getD 4 .any=.sl (x.x.apart.map dH):=rfl
def ZC(x:Ask3):(kJ x).getD 5 .any=.sl (x.x.before.map dH):=rfl
def aaM(x:Ask3):(kJ x).getD 6 .any=.sl (x.cuts.map dV):=rfl
def Z9(x:Ask3):(kJ x).getD 7 .any=.sl (x.d.map aS):=rfl
def Ze(x:Ask3):(kJ x).getD 8 .any=.sl (x.dual.map fE):=rfl
def Sa(x:Ask3):(kJ x).take 9=kJ x:=rfl
def Z7(x:Ask3):(kJ x).take 6=aC x.x:=rfl
structure Event where
 at_:Int
 kind:Int
 a:Int
 b:Int
 n:Int
 order:Order
 deriving DecidableEq
structure Command where
 kind:Int
 n:Int
 event:Event
 deriving DecidableEq
structure Sheet where
 rest:Bool
 depart:Int
 times:List TimeT
 stop:Int
 miles:Int
 deriving DecidableEq
def bP(x:Sheet):List AV:=[.v (.bool x.rest),.v (.int .i64 x.depart),.sl (x.times.map Ra),.v (.int .i64 x.stop),.v (.int .i64 x.miles)]
def iQ(x:Sheet):(bP x).length=5:=rfl
def Ws(x:Sheet):(bP x).getD 0 .any=.v (.bool x.rest):=rfl
def VT(x:Sheet):(bP x).getD 1 .any=.v (.int .i64 x.depart):=rfl
def UP(x:Sheet):(bP x).getD 2 .any=.sl (x.times.map Ra):=rfl
def Du(x:Sheet):(bP x).getD 3 .any=.v (.int .i64 x.stop):=rfl
def De(x:Sheet):(bP x).getD 4 .any=.v (.int .i64 x.miles):=rfl
def zY(x:Sheet):(bP x).take 5=bP x:=rfl
attribute [go_sem] JK adE PF ZR Ub aiA fX UK Uk DJ jJ adP abF aiW acX abM aeQ T7 IN O6 N3 HV iP UI VD Vv Vi UL T8 TV VO U7 V1 QE Qf Pm SH O8 iB Zn Zt Zm Zx PW uT Wg VY Wi Vk VC We V6 Uu TI T9 QW SC RG PQ PZ Sy Nr KE KA nP Z6 ZL QI G0 KC Kz KY Ks KV KB He G2 dJ TK Ud NO AB Wn V0 Vb Vu Oz Nv UM Ve OD mM K3 Kv KQ KP G1 cF PV Rh ST QM Po PR Q4 KZ G8 kU Ah Av AQ AG uS AR abT akV adN U3 Tq abB aaQ YU ZD YT ZC aaM Z9 Ze Sa Z7 iQ Ws VT UP Du De zY
def aD{α:Type}{f:α->List AV}{l:List α}{k:Nat}{x:α}(h:l[k]?=some x):(l.map f).getD k []=f x:=by simp[List.getD,h]
def apK{α:Type}(f:α->List AV)(l:List α):(l.map f).length=l.length:=List.length_map f
def Zj(n:Nat):((n:Int)).toNat=n:=Int.toNat_natCast n
attribute [go_sem] apK Zj
def aW{n:Int}(h: -9223372036854775808<=n/\n<=9223372036854775807):IntKind.i64.wrap n=n:=IntWalk.i64_in n h
end Go.Aw.D
end
section
namespace Go.Proofs.YtpagaknmdfgfkaaGreatDoor
open Go.Aw Go.Aw.D Go.Proofs Ty
abbrev int(n:Int):AV:=.v (.int .i64 n)
abbrev str(s:ByteArray):AV:=.v (.string s)
abbrev boo(b:Bool):AV:=.v (.bool b)
def bA{α:Type}{l:List α}{k:Nat}{x:α}(h:l[k]?=some x):l.take (k+1)=l.take k++[x]:=by rw[List.take_add_one,h];rfl
def aK{α:Type}{l:List α}{k:Nat}(h:k<l.length):∃x,l[k]?=some x:=⟨l[k],List.getElem?_eq_getElem h⟩
def inB{k n:Nat}(h:k<n):0<=(k:Int)/\(k:Int)<(n:Int):=by omega
def mS{k:Nat}(h:k<=4611686018427387904):IntKind.i64.wrap ((k:Int)+1)=((k+1:Nat):Int):=by rw[aW (by omega)];omega
def aiB{k:Nat}(h:k<=4611686018427387904):(IntKind.i64.wrap ((k:Int)-1)).toNat=k-1:=by rw[aW (by omega)];omega
def vH{k:Nat}(h:k<=4611686018427387904):IntKind.i64.wrap ((k:Int)-1)=(k:Int)-1:=aW (by omega)
def GL(e:TypeId×Nat×Nat)(d:Option Tmp)(j:Nat)(x:AV)(ρ:Env)(H:aH)(K:Env->aH->Prop):Prop:=match H j with
 | some r => Bc H x fun news => (r.e = e.1 /\ r.sz = e.2.1 /\ dL e.2.1 news /\ (r.es.length + news.length) * e.2.2 <= 140737488355328) /\
       ∀k',H k'=none->K (upd ρ d (.os k')) (aM (aM H j none) k' (some ⟨e.1,e.2.1,r.es++news⟩))
 | none=>False
def aeU{P:Program}{d:Option Tmp}{t:TypeId}{j:Nat}{x:AV}{ρ:Env}{H:aH}{K:Env->aH->Prop}:NA P d t (.os j) x ρ H K=bU (cM P t) (fun e=>GL e d j x ρ H K):=by
 unfold NA wT GL;cases cM P t with
 | none=>rfl
 | some e=>obtain⟨a,b,c⟩:=e;rfl
@[congr] theorem wappE_c {e d j x x' ρ H K} (h':x=x'):GL e d j x ρ H K=GL e d j x' ρ H K:=h'▸rfl
@[congr] theorem FCalls_c {P f a a' H R} (h':a=a'):bM P f a H R=bM P f a' H R:=h'▸rfl
def aZ{e:TypeId×Nat×Nat}{d:Option Tmp}{j:Nat}{news:List (List AV)}{ρ:Env}{H:aH}{K:Env->aH->Prop}{r:Row}(I:H j=some r)
  (h1:r.e=e.1/\r.sz=e.2.1) (F:dL e.2.1 news) (J:(r.es.length+news.length)*e.2.2<=140737488355328)
  (h:∀E,H E=none->K (upd ρ d (.os E)) (aM (aM H j none) E (some ⟨e.1,e.2.1,r.es++news⟩))):GL e d j (.sl news) ρ H K:=by
 unfold GL;simp only[I];exact⟨⟨h1.1,h1.2,F,J⟩,h⟩
def D3{e:TypeId×Nat×Nat}{d:Option Tmp}{j i:Nat}{r':Row}{ρ:Env}{H:aH}{K:Env->aH->Prop}{r:Row}(I:H j=some r)(hi:H i=some r')
  (h1:r.e=e.1/\r.sz=e.2.1) (F:dL e.2.1 r'.es) (J:(r.es.length+r'.es.length)*e.2.2<=140737488355328)
  (h:∀E,H E=none->K (upd ρ d (.os E)) (aM (aM H j none) E (some ⟨e.1,e.2.1,r.es++r'.es⟩))):GL e d j (.os i) ρ H K:=by
 unfold GL;simp only[I,Bc,hi];exact⟨⟨h1.1,h1.2,F,J⟩,h⟩
def bK{P:Program}{C:mL}{PC:FuncId->List AV->aH->AV->Prop}{mt:Nat->Bool}{a b:Code}{x:AV}{K:Env->aH->Prop}{Q:Ex->Env->aH->Prop}{ρ:Env}{H:aH}(J:Env->aH->Prop)(h1:∀ρ H,J ρ H->K ρ H)
 (E:∀K:Env->aH->Prop,(∀ρ H,J ρ H->K ρ H)->A2 x (awp P C PC mt a (Ex.seq K Q)) (awp P C PC mt b (Ex.seq K Q)) ρ H):A2 x (awp P C PC mt a (Ex.seq K Q)) (awp P C PC mt b (Ex.seq K Q)) ρ H:=E K h1
def sU{x:AV}{A B:Env->aH->Prop}{ρ:Env}{H:aH}(J:Env->aH->Prop)(h1:J ρ H)(E:∀ρ H,J ρ H->A2 x A B ρ H):A2 x A B ρ H:=E ρ H h1
def Ki{P:Program}{C:mL}{PC:FuncId->List AV->aH->AV->Prop}{mt:Nat->Bool}{c:Code}{id:Nat}{Q:Ex->Env->aH->Prop}{ρ:Env}{H:aH}(J:Env->aH->Prop)(h1:∀ρ H,J ρ H->Q .normal ρ H)
  (E:∀Q':Ex->Env->aH->Prop,(∀ρ H,J ρ H->Q' (.exit id) ρ H)->(∀ρ H,Q .ret ρ H->Q' .ret ρ H)->X1 (awp P C PC mt c) Q' ρ H):X1 (awp P C PC mt c) (Ex.blk id Q) ρ H:=
 E (Ex.blk id Q) (fun ρ H h=>by rw[SJ];exact h1 ρ H h) (fun ρ H h=>by rw[XI];exact h)
def gP{P:Program}{C:mL}{PC:FuncId->List AV->aH->AV->Prop}{mt:Nat->Bool}{a b:Code}{x:AV}{Q:Ex->Env->aH->Prop}{ρ:Env}{H:aH}(J:Env->aH->Prop)(h1:∀ρ H,J ρ H->Q .normal ρ H)
  (E:∀Q':Ex->Env->aH->Prop,(∀ρ H,J ρ H->Q' .normal ρ H)->(∀i ρ H,Q (.exit i) ρ H->Q' (.exit i) ρ H)->(∀ρ H,Q .ret ρ H->Q' .ret ρ H)->A2 x (awp P C PC mt a Q') (awp P C PC mt b Q') ρ H):A2 x (awp P C PC mt a Q) (awp P C PC mt b Q) ρ H:=
 E Q h1 (fun _ _ _ h=>h) (fun _ _ h=>h)
def J5(P:Program)(t:TypeId)(l:Option Nat)(d:Option Tmp)(j i f:Nat)(cs:List AV)(ρ:Env)(H:aH)(K:Env->aH->Prop):Prop:=match H j with
 | some r=>(i<r.es.length/\cs.length=l.getD 1/\f+cs.length<=r.sz/\(l=none->∃i,P.info? t=some i/\i.size=1))/\K (upd ρ d .any) (aM H j (some { r with es:=r.es.set i (oV (r.es.getD i []) f cs) }))
 | none=>False
def GY(P:Program)(t:TypeId)(l:Option Nat)(d:Option Tmp)(j i f:Nat)(cs:List AV)(ρ:Env)(H:aH)(K:Env->aH->Prop):Prop:=
 J5 P t l d j i f cs ρ H K\/∃nl:List (Nat×TypeId×Nat),(∀x∈nl,cs[x.1]?=some (.v (.slice none 0 0))/\0<x.2.2)/\lS nl cs H fun cs H=>J5 P t l d j i f cs ρ H K
def agW{P:Program}{d:Option Tmp}{t:TypeId}{j i f:Nat}{cs:List AV}{ρ:Env}{H:aH}{K:Env->aH->Prop}:Y7 P d t (.op j i f) cs ρ H K=bU (ldT P t) (fun l=>GY P t l d j i f cs ρ H K):=by
 have F:∀cs H,Bx P ⟨d,.move (.tmp 0),0,"",#[],none⟩ t (.op j i f) cs ρ H K=bU (ldT P t) (fun l=>J5 P t l d j i f cs ρ H K):=by intro cs H;unfold Bx J5;cases h1:H j <;> cases E:ldT P t <;> simp[bU,h1]
 unfold Y7 wO GY;simp only[F];cases E:ldT P t <;> simp[bU]
def Nf{P:Program}{t:TypeId}{m:Nat}{d:Option Tmp}{j i f:Nat}{cs:List AV}{ρ:Env}{H:aH}{K:Env->aH->Prop}{r:Row}(o:Nat)(e:TypeId)(sz:Nat)(O:cs[o]?=some (.v (.slice none 0 0))/\0<sz)(E:H j=some r)(h1:i<r.es.length/\cs.length=m/\f+cs.length<=r.sz)
  (h:∀k,H k=none->K (upd ρ d .any) (aM (aM H k (some ⟨e,sz,[]⟩)) j (some { r with es:=r.es.set i (oV (r.es.getD i []) f (cs.set o (.os k))) }))):GY P t (some m) d j i f cs ρ H K:=by
 refine .inr ⟨[(o,e,sz)],?_,fun k J=>?_⟩
 ·intro x I;simp only[List.mem_cons,List.not_mem_nil,or_false]at I;subst I;exact O
 ·have F:j≠k:=fun e=>by rw[e,J]at E;cases E
  unfold lS J5;simp only[show aM H k (some (⟨e,sz,[]⟩:Row)) j=some r by rw[aM];rw[if_neg F];exact E];exact⟨⟨h1.1,by simpa using h1.2.1,by simpa using h1.2.2,by simp⟩,h k J⟩
@[congr] theorem wputE_c {P t l d j i f cs cs' ρ H K} (h':cs=cs'):GY P t l d j i f cs ρ H K=GY P t l d j i f cs' ρ H K:=h'▸rfl
def aI{P:Program}{t:TypeId}{m:Nat}{d:Option Tmp}{j i f:Nat}{cs:List AV}{ρ:Env}{H:aH}{K:Env->aH->Prop}{r:Row}(E:H j=some r)(h1:i<r.es.length/\cs.length=m/\f+cs.length<=r.sz)
  (h:K (upd ρ d .any) (aM H j (some { r with es:=r.es.set i (oV (r.es.getD i []) f cs) }))):GY P t (some m) d j i f cs ρ H K:=by
 refine .inl ?_;unfold J5;simp only[E];exact⟨⟨h1.1,h1.2.1,h1.2.2,by simp⟩,h⟩
def dS{P:Program}{t:TypeId}{d:Option Tmp}{j i f:Nat}{cs:List AV}{ρ:Env}{H:aH}{K:Env->aH->Prop}{r:Row}(E:∃i,P.info? t=some i/\i.size=1)(F:H j=some r)(h1:i<r.es.length/\cs.length=1/\f+cs.length<=r.sz)
  (h:K (upd ρ d .any) (aM H j (some { r with es:=r.es.set i (oV (r.es.getD i []) f cs) }))):GY P t none d j i f cs ρ H K:=by
 refine .inl ?_;unfold J5;simp only[F];exact⟨⟨h1.1,h1.2.1,h1.2.2,fun _=>E⟩,h⟩
def auG:Int.toNat 0=0:=rfl
def agD{a b:Prop}:(a->b->a/\b)=True:=by simp;exact fun h1 E=>⟨h1,E⟩
attribute [go_sem ↓] aeU agW
attribute [go_sem] agW List.set_cons_zero List.set_cons_succ
attribute [go_sem] Int.reduceToNat auG beq_true beq_false Bool.not_eq_true' Bool.and_eq_true agD
attribute [go_sem] aeU KH Gz Xz Bool.or_true Bool.true_or Bool.false_or Bool.or_false
def dK{H:aH}{i j F:Nat}{r r':Row}(hi:H i=some r)(I:j≠i)(E:H F=none):aM (aM H j none) F (some r') i=some r:=by
 have h1:i≠F:=fun e=>by subst e;rw[hi]at E;simp at E
 rw[aJ _ _ _ _ h1,aJ _ _ _ _ (Ne.symm I),hi]
def eY{H:aH}{i j:Nat}{r r':Row}(hi:H i=some r)(E:H j=none):aM H j (some r') i=some r:=by
 have h1:i≠j:=fun e=>by subst e;rw[hi]at E;simp at E
 rw[aJ _ _ _ _ h1,hi]
def bE{H:aH}{i j:Nat}{r:Row}(hi:H i=some r)(E:H j=none):i≠j:=fun e=>by subst e;rw[hi]at E;simp at E
def fO{H:aH}{r:Row}{F:Nat->aH->Prop}(h:∀i G,H i=none->G i=some r->(∀{j a},H j=some a->j≠i/\G j=some a)->F i G):rQ H r F:=
 fun i hi=>h i _ hi (aB _ _ _) fun E=>⟨bE E hi,eY E hi⟩
def cJ{P:Program}{t:TypeId}{m:Nat}{d:Option Tmp}{j i f:Nat}{cs:List AV}{ρ:Env}{H:aH}{K:Env->aH->Prop}{r:Row}(F:H j=none)(h1:i<r.es.length/\cs.length=m/\f+cs.length<=r.sz)
  (h:∀G:aH,G j=some { r with es:=r.es.set i (oV (r.es.getD i []) f cs) }->(∀{k b},H k=some b->k≠j/\G k=some b)->K (upd ρ d .any) G):GY P t (some m) d j i f cs ρ (aM H j (some r)) K:=
 aI (aB _ _ _) h1 (h _ (aB _ _ _) fun E=>⟨bE E F,(aJ _ _ _ _ (bE E F)).trans (eY E F)⟩)
def upS{H G:aH}{i:Nat}{r:Row}(g:aM H i (some r)=G):G i=some r:=(congrFun g.symm i).trans (aB _ _ _)
def kpA{H G:aH}{i j:Nat}{a r:Option Row}(g:aM H i a=G)(n:j≠i)(R:H j=r):G j=r:=(congrFun g.symm j).trans ((aJ _ _ _ _ n).trans R)
def kpB{H G:aH}{i j k:Nat}{a b r:Option Row}(g:aM (aM H i a) k b=G)(n:j≠k)(m:j≠i)(R:H j=r):G j=r:=(congrFun g.symm j).trans ((aJ _ _ _ _ n).trans ((aJ _ _ _ _ m).trans R))
def dR{P:Program}{C:mL}{PC:FuncId->List AV->aH->AV->Prop}{mt:Nat->Bool}{l:List Oper}{K:Env->aH->Prop}{m:Nat}{ρ:Env}{H:aH}(h:yV P C PC mt true l.toArray K l ρ H)(E:(m == l.length)=true:=by rfl)
 (F:Region.lexB .any l.toArray=true:=by kernel_rfl):wA P C PC mt l.toArray K m ρ H:=kI E F h
def jQ{k n:Nat}{A B:Env->aH->Prop}{ρ:Env}{H:aH}(F:k<=n)(h1:k<n->A ρ H)(E:k=n->B ρ H):A2 (.v (.bool (decide ((k:Int)<(n:Int))))) A B ρ H:=
 aA (fun h=>h1 (by simpa using h)) (fun h=>E (by simp at h;omega))
def msr{n k:Nat}(h:k<n):n-aR (int ((k+1:Nat):Int))<n-aR (int (k:Int)):=by simp only[aN];omega
def opt{α:Type}(b:Bool)(f:α):List α:=match b with|true=>[f]|false=>[]
def jY{α:Type}{b:Bool}{f:α}(h:b=true):opt b f=[f]:=by rw[h];rfl
def jW{α:Type}{b:Bool}{f:α}(h:b=false):opt b f=[]:=by rw[h];rfl
def cX{α:Type}(b:Bool)(f:α):(opt b f).length<=1:=by cases b <;> simp[opt]
def kV{α:Type}{e:TypeId}{sz:Nat}{enc:α->List AV}{H:aH}{k:Nat}{l l':List α}{cs:List (List AV)}(h:cs=l'.map enc):aM H k (some ⟨e,sz,l.map enc++cs⟩) k=some (⟨e,sz,(l++l').map enc⟩:Row):=by rw[aB,h,List.map_append]
def gF{e:TypeId}{sz:Nat}{enc:Fault->List AV}{H:aH}{k:Nat}{l l':List Fault}{cs:List (List AV)}(h:cs=l'.map enc):aM H k (some ⟨e,sz,l.map enc++cs⟩) k=some (⟨e,sz,(l++l').map enc⟩:Row):=kV h
def iG{e:TypeId}{sz:Nat}{enc:Int->List AV}{H:aH}{k:Nat}{l l':List Int}{cs:List (List AV)}(h:cs=l'.map enc):aM H k (some ⟨e,sz,l.map enc++cs⟩) k=some (⟨e,sz,(l++l').map enc⟩:Row):=kV h
abbrev lB(t:VType):Row:=⟨95,14,[bF t]⟩
abbrev nW(o:Order):Row:=⟨93,16,[bH o]⟩
abbrev xQ(a:Arc):Row:=⟨88,6,[gD a]⟩
abbrev mG(l:List Int):Row:=⟨45,1,l.map bC⟩
abbrev bS(l:List Fault):Row:=⟨119,2,l.map iK⟩
def pcb(mt:Nat->Bool){f:FuncId}{fn:Func}{c:Code}{rs:List ResultVar}{args:List AV}{r:AV}(I:Tryz.prog.funcs[f]? = some fn)(F:fn.body=some c)(J:fn.results=Array.mk rs)(h:awp Tryz.prog (bM Tryz.prog) (fB Tryz.prog) mt c (KH Tryz.prog rs fun x H'=>Conv H' x r) (Fx args) bQ)(E:CQ fn c args.length=true:=by kernel_rfl):PC Tryz.prog f args r:=PC.body mt mixed I F E (by rw[J];exact h)
def pcd{f:FuncId}{fn:Func}{c:Code}{rs:List ResultVar}{args:List AV}{r:AV}(I:Tryz.prog.funcs[f]? = some fn)(F:fn.body=some c)(J:fn.results=Array.mk rs)(h:awp Tryz.prog (bM Tryz.prog) (fB Tryz.prog) (fun _=>false) c (KH Tryz.prog rs fun x H'=>Conv H' x r) (Fx args) bQ)(E:CQ fn c args.length=true:=by kernel_rfl):PC Tryz.prog f args r:=PC.body (fun _=>false) mixed I F E (by rw[J];exact h)
def ncb(mt:Nat->Bool){f:FuncId}{fn:Func}{c:Code}{rs:List ResultVar}{args:List AV}{row:Row}{E:Nat->AV}(O:Tryz.prog.funcs[f]? = some fn)(I:fn.body=some c)(J:fn.results=Array.mk rs)(h:awp Tryz.prog (bM Tryz.prog) (fB Tryz.prog) mt c (KH Tryz.prog rs fun x H'=>∃k,x=E k/\H' k=some row) (Fx args) bQ)(F:CQ fn c args.length=true:=by kernel_rfl):NC Tryz.prog f args row E:=NC.body mt mixed O I F (by rw[J];exact h)
def kpR{H G:aH}{i j k:Nat}{a b r:Option Row}(g:aM (aM H i a) k b=G)(n:j≠k)(m:j≠i)(R:H j=r):G j=r:=(congrFun g.symm j).trans ((aJ _ _ _ _ n).trans ((aJ _ _ _ _ m).trans R))
def Xaa:∀(n:Nat),0<=n:=@Nat.zero_le
def Xab:∀{α:Type} {β:Type} {L:List α} (f:α->β),List.length (List.map f L)=List.length L:=@List.length_map
def Xac:∀{α:Type} {l:List α} {i:Nat} {a:α},l[i]?=some a->a∈l:=@List.mem_of_getElem?
def Xad:∀{α:Type} {l:List α},List.take (List.length l) l=l:=@List.take_length
def Xae:∀{α:Type} {L bs:List α},List.length (L++bs)=List.length L+List.length bs:=@List.length_append
def Xaf:∀(n:Nat),n<=n:=@Nat.le_refl
def Xag:∀{x y:Bool},(x||y)=false↔x=false/\y=false:=@Bool.or_eq_false_iff
def Xah:∀{α:Type} {a:α} {L:List α},List.length (a::L)=List.length L+1:=@List.length_cons
def Xai:∀(a b:Bool),((a&&b)=true)=(a=true/\b=true):=@Bool.and_eq_true
def Xaj:∀{α:Type} {p:α->Bool} {l:List α},List.all l p=true↔∀(x:α),x∈l->p x=true:=@List.all_eq_true
def Xak:∀{α:Type} (L:List α),L++[]=L:=@List.append_nil
def Xal:∀{α:Type} {β:Type} {f:α->β} {l₁ l₂:List α},List.map f (l₁++l₂)=List.map f l₁++List.map f l₂:=@List.map_append
def Xam:∀{n m k:Nat},n<=m->m<=k->n<=k:=@Nat.le_trans
def Xan:∀{α:Type} {i:Nat} {l:List α},List.length l<=i->List.take i l=l:=@List.take_of_length_le
def Xao:∀{α:Type} {p:α->Bool} {l:List α},List.any l p=true↔∃x,x∈l/\p x=true:=@List.any_eq_true
def Xap:∀{a b:Bool},a=b↔(a=true↔b=true):=@Bool.eq_iff_iff
def Xaq:∀(n:Nat),Int.toNat ↑n=n:=@Int.toNat_natCast
def Xar:∀{m n:Nat},m∈List.range n↔m<n:=@List.mem_range
def Xas:∀{α:Type} {i:Nat} {l:List α},List.length (List.take i l)=min i (List.length l):=@List.length_take
def Xat:∀{α:Type} [inst:BEq α] [LawfulBEq α] {a b:α},(a == b)=true↔a=b:=@beq_iff_eq
def Xau:∀{n:Nat},n>0->∀{i j:Nat},i<=j->n^i<=n^j:=@Nat.pow_le_pow_right
def Xav:∀(n m:Nat),n<m\/n>=m:=@Nat.lt_or_ge
def Xaw:∀{α:Type} {a b:α},a∈[b]↔a=b:=@List.mem_singleton
def Xax:∀{α:Type} (L bs cs:List α),L++bs++cs=L++(bs++cs):=@List.append_assoc
def Xay:∀(b:Bool),((!b)=true)=(b=false):=@Bool.not_eq_true'
def Xaz:(false=true)=False:=@Bool.false_eq_true
def Xba:∀{α:Type} {a:α} {s t:List α},a∈s++t↔a∈s\/a∈t:=@List.mem_append
def Xbb:∀{α:Type} {p:α->Bool} {l:List α},List.any l p=false↔∀(x:α),x∈l->¬p x=true:=@List.any_eq_false
def Xbc:∀(b:Bool),(true&&b)=b:=@Bool.true_and
def Xbd:∀{n:Nat},List.length (List.range n)=n:=@List.length_range
def Xbe:∀{α:Type} {β:Type} {b:β} {f:α->β} {l:List α},b∈List.map f l↔∃a,a∈l/\f a=b:=@List.mem_map
def Xbf:∀{α:Type} {β:Type} {f:α->β} {a:α} {l:List α},List.map f (a::l)=f a::List.map f l:=@List.map_cons
def Xbg:∀{α:Type} {b:α} {l:List α} {a:α},a∈b::l↔a=b\/a∈l:=@List.mem_cons
def Xbh:∀(n:Nat),Int.natAbs ↑n=n:=@Int.natAbs_natCast
def Xbi:∀{n:Nat},List.range (Nat.succ n)=List.range n++[n]:=@List.range_succ
def Xbj:∀{α:Type} {i:Nat} {l:List α},List.length (List.drop i l)=List.length l-i:=@List.length_drop
def Xbk:∀(n m:Nat),n^Nat.succ m=n^m*n:=@Nat.pow_succ
def Xbl:∀{a b:Nat},a<b->a%b=a:=@Nat.mod_eq_of_lt
def Xbm:∀(b:Bool),(b&&true)=b:=@Bool.and_true
def Xbn:∀{α:Type} {β:Type} {f:β->α->β} {b:β} {l l':List α},List.foldl f b (l++l')=List.foldl f (List.foldl f b l) l':=@List.foldl_append
def Xbo:∀{α:Type} {a b:α},Option.getD (some a) b=a:=@Option.getD_some
def Xbp:∀(a:Int),a<=a:=@Int.le_refl
def Xbq:∀(b:Bool),((!b)=false)=(b=true):=@Bool.not_eq_false'
def Xbr:∀{α:Type} {p q:List α},p++q=[]↔p=[]/\q=[]:=@List.append_eq_nil_iff
def Xbs:∀{n m k:Nat},n<m->m<=k->n<k:=@Nat.lt_of_lt_of_le
def Xbt:∀(b:Bool),(false||b)=b:=@Bool.false_or
def Xbu:∀(a b:Bool),((a||b)=true)=(a=true\/b=true):=@Bool.or_eq_true
def Xbv:∀{α:Type} {β:Type} {f:α->β},List.map f []=[]:=@List.map_nil
def Xbw:∀{α:Type} {l:List α},List.drop 0 l=l:=@List.drop_zero
def Xbx:∀(x:Nat) {y:Nat},0<y->x%y<y:=@Nat.mod_lt
def Xby:∀{α:Type} {a:α} {L:List α} (bs:List α),a∈L->a∈L++bs:=@List.mem_append_left
def Xbz:∀{a b:Int},0<=a->Int.tdiv a b=a/b:=@Int.tdiv_eq_ediv_of_nonneg
def Xca:∀{α:Type} {p:α->Bool} {a:α} {l:List α},List.takeWhile p (a::l)=if p a=true then a::List.takeWhile p l else[]:=@List.takeWhile_cons
def Xcb:(!true)=false:=@Bool.not_true
def Xcc:∀(a b:Int),a<b\/b<=a:=@Int.lt_or_le
def Xcd:∀{α:Type} {β:Type} {xs ys:List α} {f:α->List β},List.flatMap f (xs++ys)=List.flatMap f xs++List.flatMap f ys:=@List.flatMap_append
def Xce:∀(n:Nat),0+n=n:=@Nat.zero_add
def Xcf:∀{α:Type} {i:Nat} {l:List α},List.length l<=i->List.drop i l=[]:=@List.drop_of_length_le
def Xcg:∀{α:Type} {l:List α},List.length l=0↔l=[]:=@List.length_eq_zero_iff
def Xch:∀(b:Bool),(¬b=true)=(b=false):=@Bool.not_eq_true
def Xci:∀{α:Type} {i:Nat} {l:List α} (h:i<List.length l),List.drop i l=l[i]::List.drop (i+1) l:=@List.drop_eq_getElem_cons
def Xcj:∀{α:Type} (L:List α),[]++L=L:=@List.nil_append
def Xck:∀{a b:Int},0<=a->Int.tmod a b=a%b:=@Int.tmod_eq_emod_of_nonneg
def Xcl:∀{α:Type} {l:List α},List.drop (List.length l) l=[]:=@List.drop_length
def Xcm:∀(n m:Nat),n+m=m+n:=@Nat.add_comm
def Xcn:∀{a:Int},a<=0->↑(Int.natAbs a)= -a:=@Int.ofNat_natAbs_of_nonpos
def Xco:∀{a:Int},0<=a->↑(Int.natAbs a)=a:=@Int.natAbs_of_nonneg
def Xcp:∀{α:Type} (p:α->Bool) (l:List α),List.length (List.filter p l)<=List.length l:=@List.length_filter_le
def Xcq:∀(n k:Nat),n/k<=n:=@Nat.div_le_self
def Xcr:∀{a b:Nat},a<=b->min a b=a:=@Nat.min_eq_left
def Xcs:∀{α:Type} (i:Nat) (l:List α),List.take i l++List.drop i l=l:=@List.take_append_drop
def Xct:∀{α:Type} {n:Nat} {a:α},List.length (List.replicate n a)=n:=@List.length_replicate
def Xcu:∀(n:Nat),n=0\/n>0:=@Nat.eq_zero_or_pos
def Xcv:∀{x i:Nat},x<2^i->Nat.testBit x i=false:=@Nat.testBit_lt_two_pow
def Xcw:∀{α:Type} {a:α} {l:List α},a∈a::l:=@List.mem_cons_self
def Xcx:∀{x y:Bool},(x&&y)=false↔x=false\/y=false:=@Bool.and_eq_false_iff
def Xcy:∀{n m:Nat} (k:Nat),n<=m->n*k<=m*k:=@Nat.mul_le_mul_right
def Xcz:∀{α:Type} {l:List α},List.length l=0->l=[]:=@List.eq_nil_of_length_eq_zero
def Xda:(!false)=true:=@Bool.not_false
def Xdb:∀{b:Bool},b=false↔b≠true:=@Bool.eq_false_iff
def Xdc:∀{a m n:Nat},1<a->m<n->a^m<a^n:=@Nat.pow_lt_pow_right
def Xdd:∀{i x:Nat},Nat.testBit x i=decide (x/2^i%2=1):=@Nat.testBit_eq_decide_div_mod_eq
def aQ(k:Nat)(h:k<=4611686018427387904:=by omega):IntKind.i64.wrap ((k:Int)+1)=((k+1:Nat):Int):=mS h
def aG{f:FuncId}{args:List AV}{r:AV}{H:aH}{K:AV->aH->Prop}(h:PC Tryz.prog f args r)(E:K r H):bM Tryz.prog f args H K:=h.use E
end Go.Proofs.YtpagaknmdfgfkaaGreatDoor
end
