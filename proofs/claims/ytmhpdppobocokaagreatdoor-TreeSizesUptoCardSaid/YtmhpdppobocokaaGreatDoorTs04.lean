import Derived.Test.YtmhpdppobocokaaGreatDoorChecked
import Derived.KernelRfl
import Derived.Test.YtmhpdppobocokaaGreatDoorTs03
set_option linter.unusedSimpArgs false
set_option linter.unusedVariables false
set_option linter.defProp false
set_option maxRecDepth 100000
section
namespace Go.Proofs.YtmhpdppobocokaaGreatDoor.Ty
open Go.Aw Go.Proofs
theorem jW{P:Program}{t:TypeId}(h:(P.info? t).map (·.size)=some 1):∃i,P.info? t=some i/\i.size=1:=by
 cases hi:P.info? t with
 | none=>simp[hi]at h
 | some i=>exact⟨i,rfl,by simpa[hi]using h⟩
theorem mixed:Tryz.prog.follows .mixedOrders=true:=by kernel_rfl
theorem Vl:bM Tryz.prog 48=some (59,1,16):=by kernel_rfl
theorem zv3:DH Tryz.prog 3=some (.v (.int .i64 0)):=by kernel_rfl
theorem Bf:J2 Tryz.prog 260=some (3,3):=by kernel_rfl
theorem kk3:nW Tryz.prog 3=some 0:=by kernel_rfl
theorem so3:∃i,Tryz.prog.info? 3=some i/\i.size=1:=jW (by kernel_rfl)
theorem so4:∃i,Tryz.prog.info? 4=some i/\i.size=1:=jW (by kernel_rfl)
theorem PZ:∃i,Tryz.prog.info? 23=some i/\i.size=1:=jW (by kernel_rfl)
theorem Vx:∃i,Tryz.prog.info? 26=some i/\i.size=1:=jW (by kernel_rfl)
theorem Vt:∃i,Tryz.prog.info? 48=some i/\i.size=1:=jW (by kernel_rfl)
theorem rZ:∃i,Tryz.prog.info? 59=some i/\i.size=1:=jW (by kernel_rfl)
theorem Vq:∃i,Tryz.prog.info? 85=some i/\i.size=1:=jW (by kernel_rfl)
theorem TZ:∃i,Tryz.prog.info? 203=some i/\i.size=1:=jW (by kernel_rfl)
theorem TQ:∃i,Tryz.prog.info? 249=some i/\i.size=1:=jW (by kernel_rfl)
open Go.Proofs.Tryz(prog)
theorem VH:zX prog 3=some .i64/\zX prog 5=some .u8/\dI prog 9=true/\zX prog 217=some .u64/\zX prog 301=some .u64/\tO prog 4=true/\aM prog 28 0=some (0,none)/\aM prog 28 2=some (3,none)/\aM prog 38 1=some (1,none)/\aM prog 38 4=some (4,none)/\aM prog 43 1=some (2,none)/\aM prog 43 2=some (3,none)/\aM prog 50 0=some (0,none)/\aM prog 50 1=some (1,none)/\aM prog 50 2=some (2,none)/\aM prog 50 3=some (3,none)/\aM prog 52 0=some (0,none)/\aM prog 55 0=some (0,some 6)/\aM prog 55 1=some (6,none)/\aM prog 55 2=some (7,none)/\aM prog 55 3=some (8,some 2)/\aM prog 55 4=some (10,none)/\aM prog 61 0=some (0,none)/\aM prog 61 1=some (1,none)/\aM prog 61 2=some (2,none)/\aM prog 61 4=some (4,none)/\aM prog 64 0=some (0,some 5)/\aM prog 64 1=some (5,none)/\aM prog 82 0=some (0,none)/\aM prog 82 1=some (1,none)/\aM prog 82 2=some (2,none)/\aM prog 90 0=some (0,none)/\aM prog 90 1=some (1,none)/\aM prog 90 2=some (2,none)/\aM prog 114 0=some (0,some 6)/\aM prog 114 1=some (6,none)/\aM prog 114 2=some (7,none)/\aM prog 114 3=some (8,none)/\aM prog 114 4=some (9,none)/\aM prog 126 0=some (0,some 3):=by and_intros<;>kernel_rfl
theorem Vs:aM prog 126 1=some (3,none)/\aM prog 139 0=some (0,none)/\aM prog 139 1=some (1,none)/\aM prog 173 0=some (0,none)/\aM prog 173 1=some (1,none)/\aM prog 205 0=some (0,some 6)/\aM prog 205 1=some (6,none)/\aM prog 205 4=some (9,none)/\aM prog 208 0=some (0,none)/\aM prog 208 1=some (1,none)/\aM prog 208 2=some (2,none)/\aM prog 208 3=some (3,none)/\aM prog 235 0=some (0,none)/\aM prog 235 1=some (1,none)/\aM prog 235 2=some (2,none)/\aM prog 251 0=some (0,none)/\aM prog 251 1=some (1,none)/\aM prog 251 2=some (2,none)/\aM prog 251 3=some (3,none)/\aM prog 251 4=some (4,none)/\aM prog 251 5=some (5,none)/\aM prog 251 6=some (6,none)/\aM prog 251 7=some (7,none)/\aM prog 266 0=some (0,none)/\aM prog 268 1=some (1,none)/\aM prog 268 2=some (2,some 4)/\aM prog 268 3=some (6,some 4)/\aM prog 268 5=some (11,none)/\aM prog 268 8=some (14,none)/\aM prog 268 9=some (15,none)/\aM prog 284 0=some (0,none)/\aM prog 284 1=some (1,none)/\bM prog 23=some (3,1,8)/\cL prog 23=true/\bM prog 26=some (52,10,112)/\cL prog 26=true/\bM prog 33=some (9,1,16)/\cL prog 33=true/\bM prog 39=some (38,14,136)/\cL prog 39=true:=by and_intros<;>kernel_rfl
theorem Vj:bM prog 40=some (268,16,152)/\cL prog 40=true/\bM prog 47=some (82,3,24)/\cL prog 47=true/\cL prog 48=true/\bM prog 58=some (50,4,32)/\cL prog 58=true/\bM prog 62=some (90,7,88)/\cL prog 62=true/\bM prog 85=some (4,1,1)/\bM prog 117=some (179,8,104)/\cL prog 117=true/\bM prog 122=some (126,4,40)/\cL prog 122=true/\bM prog 171=some (235,3,40)/\cL prog 171=true/\bM prog 203=some (62,1,24)/\cL prog 240=true/\bM prog 249=some (48,1,24)/\cL prog 249=true/\bM prog 280=some (284,2,24)/\cL prog 280=true/\Ao prog 289=some (4,1,none)/\Ao prog 324=some (2,1,none)/\bM prog 333=some (3,1,8)/\cL prog 333=true/\bM prog 375=some (324,2,32)/\cL prog 375=true/\ldT prog 3=some none/\ldT prog 4=some none/\ldT prog 9=some none/\ldT prog 23=some none/\ldT prog 25=some (some 2)/\ldT prog 26=some none/\ldT prog 28=some (some 4)/\ldT prog 38=some (some 14)/\ldT prog 39=some none/\ldT prog 40=some none/\ldT prog 43=some (some 6)/\ldT prog 44=some none:=by and_intros<;>kernel_rfl
theorem U4:ldT prog 47=some none/\ldT prog 48=some none/\ldT prog 50=some (some 4)/\ldT prog 52=some (some 10)/\ldT prog 58=some none/\ldT prog 59=some none/\ldT prog 61=some (some 5)/\ldT prog 62=some none/\ldT prog 64=some (some 7)/\ldT prog 82=some (some 3)/\ldT prog 85=some none/\ldT prog 90=some (some 7)/\ldT prog 126=some (some 4)/\ldT prog 139=some (some 8)/\ldT prog 171=some none/\ldT prog 173=some (some 2)/\ldT prog 203=some none/\ldT prog 208=some (some 4)/\ldT prog 235=some (some 3)/\ldT prog 249=some none/\ldT prog 268=some (some 16)/\ldT prog 284=some (some 2)/\ldT prog 289=some (some 4)/\ldT prog 324=some (some 2)/\ldT prog 329=some none/\dF prog 25=some [(0,1),(1,1)]/\dF prog 28=some [(0,1),(1,2),(3,1)]/\dF prog 36=some [(0,1),(1,1)]/\dF prog 38=some [(0,1),(1,1),(2,1),(3,1),(4,1),(5,1),(6,1),(7,1),(8,1),(9,1),(10,1),(11,1),(12,1),(13,1)]/\dF prog 43=some [(0,2),(2,1),(3,1),(4,1),(5,1)]/\dF prog 52=some [(0,1),(1,1),(2,1),(3,1),(4,4),(8,1),(9,1)]/\dF prog 55=some [(0,6),(6,1),(7,1),(8,2),(10,1)]/\dF prog 61=some [(0,1),(1,1),(2,1),(3,1),(4,1)]/\dF prog 64=some [(0,5),(5,1),(6,1)]/\dF prog 82=some [(0,1),(1,1),(2,1)]/\dF prog 114=some [(0,6),(6,1),(7,1),(8,1),(9,1)]/\dF prog 126=some [(0,3),(3,1)]/\dF prog 139=some [(0,1),(1,1),(2,6)]/\dF prog 173=some [(0,1),(1,1)]/\dF prog 205=some [(0,6),(6,1),(7,1),(8,1),(9,1)]:=by and_intros<;>kernel_rfl
theorem Up:dF prog 208=some [(0,1),(1,1),(2,1),(3,1)]/\dF prog 235=some [(0,1),(1,1),(2,1)]/\dF prog 251=some [(0,1),(1,1),(2,1),(3,1),(4,1),(5,1),(6,1),(7,1)]/\dF prog 284=some [(0,1),(1,1)]/\dF prog 289=some [(0,1),(1,1),(2,1),(3,1)]/\dF prog 324=some [(0,1),(1,1)]/\cN prog 3=some [.v (.int .i64 0)]/\cN prog 9=some [.v (.string ByteArray.empty)]/\cN prog 25=some [.sl [],.sl []]/\cN prog 28=some [.v (.bool false),.sl [],.sl [],.sl []]/\cN prog 36=some [.sl [],.sl []]/\cN prog 38=some [.v (.string ByteArray.empty),.v (.int .i64 0),.v (.int .i64 0),.v (.int .i64 0),.sl [],.v (.int .i64 0),.v (.int .i64 0),.v (.int .i64 0),.v (.int .i64 0),.v (.int .i64 0),.v (.int .i64 0),.v (.int .i64 0),.v (.int .i64 0),.v (.int .i64 0)]/\cN prog 43=some [.sl [],.sl [],.sl [],.sl [],.sl [],.sl []]/\cN prog 47=some [.sl []]/\cN prog 50=some [.v (.int .i64 0),.v (.int .i64 0),.v (.int .i64 0),.v (.int .i64 0)]/\cN prog 52=some [.v (.bool false),.v (.int .i64 0),.sl [],.sl [],.v (.int .i64 0),.v (.int .i64 0),.v (.int .i64 0),.v (.int .i64 0),.v (.int .i64 0),.v (.int .i64 0)]/\jX prog 55=some [(0,9,1),(1,421,6),(2,38,14),(3,268,16),(4,358,2),(5,358,2),(6,52,10),(8,88,4),(9,3,1)]/\cN prog 55=some [.sl [],.sl [],.sl [],.sl [],.sl [],.sl [],.sl [],.v (.bool false),.sl [],.sl [],.v (.int .i64 0)]/\cN prog 59=some [.v (.string ByteArray.empty)]/\jX prog 61=some [(1,59,1),(2,59,1),(3,59,1)]/\cN prog 61=some [.v (.int .i64 0),.sl [],.sl [],.sl [],.v (.string ByteArray.empty)]/\cN prog 62=some [.sl []]/\cN prog 64=some [.v (.int .i64 0),.sl [],.sl [],.sl [],.v (.string ByteArray.empty),.sl [],.v (.int .i64 0)]/\cN prog 82=some [.v (.int .i64 0),.v (.int .i64 0),.v (.int .i64 0)]/\cN prog 90=some [.v (.int .i64 0),.v (.int .i64 0),.v (.int .i64 0),.v (.int .i64 0),.v (.int .i64 0),.sl [],.sl []]/\cN prog 114=some [.sl [],.sl [],.sl [],.sl [],.sl [],.sl [],.sl [],.sl [],.sl [],.sl []]/\cN prog 126=some [.v (.int .i64 0),.v (.int .i64 0),.v (.int .i64 0),.v (.string ByteArray.empty)]/\cN prog 139=some [.v (.int .i64 0),.v (.int .i64 0),.v (.int .i64 0),.v (.int .i64 0),.v (.int .i64 0),.v (.int .i64 0),.v (.int .i64 0),.v (.int .i64 0)]/\jX prog 173=some [(0,3,1),(1,235,3)]/\cN prog 173=some [.sl [],.sl []]/\jX prog 205=some [(0,9,1),(1,421,6),(2,38,14),(3,268,16),(4,358,2),(5,358,2),(6,62,1),(7,3,1)]/\cN prog 205=some [.sl [],.sl [],.sl [],.sl [],.sl [],.sl [],.sl [],.sl [],.v (.map none),.v (.int .i64 0)]/\cN prog 208=some [.v (.int .i64 0),.v (.int .i64 0),.v (.int .i64 0),.v (.int .i64 0)]/\jX prog 235=some [(0,3,1)]/\cN prog 235=some [.sl [],.v (.int .i64 0),.v (.int .i64 0)]/\jX prog 251=some [(0,48,1),(1,59,1),(2,3,1),(3,3,1),(4,4,1)]/\cN prog 251=some [.sl [],.sl [],.sl [],.sl [],.sl [],.v (.int .i64 0),.v (.int .i64 0),.v (.int .i64 0)]/\cN prog 268=some [.v (.string ByteArray.empty),.sl [],.v (.int .i64 0),.v (.int .i64 0),.v (.int .i64 0),.v (.int .i64 0),.v (.int .i64 0),.v (.int .i64 0),.v (.int .i64 0),.v (.int .i64 0),.v (.int .i64 0),.v (.int .i64 0),.v (.int .i64 0),.v (.int .i64 0),.v (.int .i64 0),.v (.bool false)]/\cN prog 284=some [.v (.bool false),.v (.string ByteArray.empty)]/\cN prog 289=some [.v (.int .i64 0),.v (.int .i64 0),.v (.int .i64 0),.v (.int .i64 0)]:=by and_intros<;>kernel_rfl
theorem UC:cN prog 324=some [.v (.string ByteArray.empty),.v (.string ByteArray.empty)]/\aG prog 4=true/\aG prog 5=true/\aG prog 6=true/\aG prog 7=true/\aG prog 8=true/\aG prog 9=true/\aG prog 10=true/\aG prog 11=true/\aG prog 16=true/\aG prog 17=true/\aG prog 18=true/\aG prog 19=true/\aG prog 22=true/\aG prog 23=true/\aG prog 31=true/\aG prog 32=true/\aG prog 33=true/\aG prog 34=true/\aG prog 35=true/\aG prog 36=true/\aG prog 38=true/\aG prog 39=true/\aG prog 40=true/\aG prog 41=true/\aG prog 43=true/\aG prog 44=true/\aG prog 45=true/\aG prog 46=true/\aG prog 48=true/\aG prog 49=true/\aG prog 50=true/\aG prog 51=true/\aG prog 52=true/\aG prog 55=true/\aG prog 56=true/\aG prog 63=true/\aG prog 67=true/\aG prog 68=true/\aG prog 69=true:=by and_intros<;>kernel_rfl
theorem US:aG prog 70=true/\aG prog 72=true/\aG prog 73=true/\aG prog 74=true/\aG prog 76=true/\aG prog 81=true/\aG prog 82=true/\aG prog 83=true/\aG prog 84=true/\aG prog 85=true/\aG prog 86=true/\aG prog 87=true/\aG prog 88=true/\aG prog 89=true/\aG prog 90=true/\aG prog 91=true/\aG prog 92=true/\aG prog 93=true/\aG prog 94=true/\aG prog 95=true/\aG prog 96=true/\aG prog 97=true/\aG prog 99=true/\aG prog 100=true/\aG prog 101=true/\aG prog 105=true/\aG prog 106=true/\aG prog 108=true/\aG prog 109=true/\aG prog 112=true/\aG prog 113=true/\aG prog 115=true/\aG prog 116=true/\aG prog 118=true/\aG prog 119=true/\aG prog 120=true/\aG prog 121=true/\aG prog 122=true/\aG prog 123=true/\aG prog 124=true:=by and_intros<;>kernel_rfl
theorem UH:aG prog 125=true/\aG prog 126=true/\aG prog 127=true/\aG prog 128=true/\aG prog 129=true/\aG prog 130=true/\aG prog 131=true/\aG prog 132=true/\aG prog 133=true/\aG prog 134=true/\aG prog 135=true/\aG prog 136=true/\aG prog 138=true/\aG prog 139=true/\aG prog 140=true/\aG prog 142=true/\aG prog 143=true/\aG prog 144=true/\aG prog 146=true/\aG prog 147=true/\aG prog 148=true/\aG prog 150=true/\aG prog 153=true/\aG prog 154=true/\aG prog 155=true/\aG prog 156=true/\aG prog 157=true/\aG prog 158=true/\aG prog 159=true/\aG prog 160=true/\aG prog 161=true/\aG prog 162=true/\aG prog 163=true/\aG prog 164=true/\aG prog 165=true/\aG prog 166=true/\aG prog 167=true/\aG prog 168=true/\aG prog 169=true/\aG prog 171=true:=by and_intros<;>kernel_rfl
theorem UN:aG prog 172=true/\aG prog 181=true/\aG prog 184=true/\aG prog 195=true/\aG prog 196=true/\aG prog 197=true/\aG prog 198=true/\aG prog 199=true/\aG prog 200=true/\aG prog 201=true/\aG prog 202=true/\aG prog 203=true/\aG prog 205=true/\aG prog 206=true/\aG prog 207=true/\aG prog 209=true/\aG prog 210=true/\aG prog 214=true/\aG prog 215=true/\aG prog 216=true/\aG prog 217=true/\aG prog 219=true/\aG prog 220=true/\aG prog 221=true/\aG prog 222=true/\aG prog 223=true/\aG prog 224=true/\aG prog 225=true/\aG prog 226=true/\aG prog 232=true/\aG prog 236=true/\aG prog 247=true/\aG prog 248=true/\aG prog 250=true/\aG prog 253=true/\aG prog 254=true/\aG prog 255=true/\aG prog 256=true/\aG prog 257=true/\aG prog 260=true:=by and_intros<;>kernel_rfl
theorem Uc:aG prog 278=true/\aG prog 280=true/\aG prog 303=true/\aG prog 333=true:=by and_intros<;>kernel_rfl
attribute [go_sem] Vl zv3 Bf kk3 so3 so4 PZ Vx Vt rZ Vq TZ TQ VH Vs Vj U4 Up UC US UH UN Uc
end Go.Proofs.YtmhpdppobocokaaGreatDoor.Ty
end
section
namespace Go.Aw.D
open Go.Aw
def aP(n:Int):List AV:=[.v (.int .i64 n)]
def gU(b:Bool):List AV:=[.v (.bool b)]
def cQ(s:ByteArray):List AV:=[.v (.string s)]
def Lg(x:Int):(aP x).length=1:=rfl
def QE(x:Int):(aP x).getD 0 .any=.v (.int .i64 x):=rfl
def Ho(x:Bool):(gU x).length=1:=rfl
def Ot(x:Bool):(gU x).getD 0 .any=.v (.bool x):=rfl
def KB(x:ByteArray):(cQ x).length=1:=rfl
def OR(x:ByteArray):(cQ x).getD 0 .any=.v (.string x):=rfl
structure Point where
 t:Int
 a:Int
 deriving DecidableEq
def jQ(x:Point):List AV:=[.v (.int .i64 x.t),.v (.int .i64 x.a)]
def FE(x:Point):(jQ x).length=2:=rfl
def KE(x:Point):(jQ x).getD 0 .any=.v (.int .i64 x.t):=rfl
def JM(x:Point):(jQ x).getD 1 .any=.v (.int .i64 x.a):=rfl
def EE(x:Point):(jQ x).take 2=jQ x:=rfl
structure Arc where
 src:Int
 dst:Int
 profile:Int
 miles:Int
 travel:List Point
 slow:List Point
 deriving DecidableEq
def lL(x:Arc):List AV:=[.v (.int .i64 x.src),.v (.int .i64 x.dst),.v (.int .i64 x.profile),.v (.int .i64 x.miles),.sl (x.travel.map jQ),.sl (x.slow.map jQ)]
def Jq(x:Arc):(lL x).length=6:=rfl
def OO(x:Arc):(lL x).getD 0 .any=.v (.int .i64 x.src):=rfl
def QZ(x:Arc):(lL x).getD 1 .any=.v (.int .i64 x.dst):=rfl
def Pa(x:Arc):(lL x).getD 2 .any=.v (.int .i64 x.profile):=rfl
def QV(x:Arc):(lL x).getD 3 .any=.v (.int .i64 x.miles):=rfl
def OB(x:Arc):(lL x).getD 4 .any=.sl (x.travel.map jQ):=rfl
def Q8(x:Arc):(lL x).getD 5 .any=.sl (x.slow.map jQ):=rfl
def Jk(x:Arc):(lL x).take 6=lL x:=rfl
structure Network where
 places:List ByteArray
 arcs:List Arc
 deriving DecidableEq
def J1(x:Network):List AV:=[.sl (x.places.map cQ),.sl (x.arcs.map lL)]
structure VType where
 name:ByteArray
 count:Int
 src:Int
 dst:Int
 cap:List Int
 skills:Int
 profile:Int
 start:Int
 close:Int
 drive:Int
 rest:Int
 fixed:Int
 perMile:Int
 perTick:Int
 deriving DecidableEq
def cV(x:VType):List AV:=[.v (.string x.name),.v (.int .i64 x.count),.v (.int .i64 x.src),.v (.int .i64 x.dst),.sl (x.cap.map aP),.v (.int .i64 x.skills),.v (.int .i64 x.profile),.v (.int .i64 x.start),.v (.int .i64 x.close),.v (.int .i64 x.drive),.v (.int .i64 x.rest),.v (.int .i64 x.fixed),.v (.int .i64 x.perMile),.v (.int .i64 x.perTick)]
def qS(x:VType):(cV x).length=14:=rfl
def Ln(x:VType):(cV x).getD 0 .any=.v (.string x.name):=rfl
def JD(x:VType):(cV x).getD 1 .any=.v (.int .i64 x.count):=rfl
def K9(x:VType):(cV x).getD 2 .any=.v (.int .i64 x.src):=rfl
def JQ(x:VType):(cV x).getD 3 .any=.v (.int .i64 x.dst):=rfl
def K7(x:VType):(cV x).getD 4 .any=.sl (x.cap.map aP):=rfl
def Jz(x:VType):(cV x).getD 5 .any=.v (.int .i64 x.skills):=rfl
def Kf(x:VType):(cV x).getD 6 .any=.v (.int .i64 x.profile):=rfl
def Jv(x:VType):(cV x).getD 7 .any=.v (.int .i64 x.start):=rfl
def JE(x:VType):(cV x).getD 8 .any=.v (.int .i64 x.close):=rfl
def K6(x:VType):(cV x).getD 9 .any=.v (.int .i64 x.drive):=rfl
def Hy(x:VType):(cV x).getD 10 .any=.v (.int .i64 x.rest):=rfl
def G8(x:VType):(cV x).getD 11 .any=.v (.int .i64 x.fixed):=rfl
def IY(x:VType):(cV x).getD 12 .any=.v (.int .i64 x.perMile):=rfl
def IS(x:VType):(cV x).getD 13 .any=.v (.int .i64 x.perTick):=rfl
def E2(x:VType):(cV x).take 14=cV x:=rfl
structure Stop where
 place:Int
 start:Int
 close:Int
 service:Int
 deriving DecidableEq
def LV(x:Stop):List AV:=[.v (.int .i64 x.place),.v (.int .i64 x.start),.v (.int .i64 x.close),.v (.int .i64 x.service)]
structure Order where
 name:ByteArray
 load:List Int
 pick:Stop
 drop:Stop
 skills:Int
 penalty:Int
 split:Int
 last:Int
 now:Int
 off:Bool
 deriving DecidableEq
def bT(x:Order):List AV:=[.v (.string x.name),.sl (x.load.map aP),.v (.int .i64 x.pick.place),.v (.int .i64 x.pick.start),.v (.int .i64 x.pick.close),.v (.int .i64 x.pick.service),.v (.int .i64 x.drop.place),.v (.int .i64 x.drop.start),.v (.int .i64 x.drop.close),.v (.int .i64 x.drop.service),.v (.int .i64 x.skills),.v (.int .i64 x.penalty),.v (.int .i64 x.split),.v (.int .i64 x.last),.v (.int .i64 x.now),.v (.bool x.off)]
def wG(x:Order):(bT x).length=16:=rfl
def JJ(x:Order):(bT x).getD 0 .any=.v (.string x.name):=rfl
def JG(x:Order):(bT x).getD 1 .any=.sl (x.load.map aP):=rfl
def Ka(x:Order):(bT x).getD 2 .any=.v (.int .i64 x.pick.place):=rfl
def KQ(x:Order):(bT x).getD 3 .any=.v (.int .i64 x.pick.start):=rfl
def JW(x:Order):(bT x).getD 4 .any=.v (.int .i64 x.pick.close):=rfl
def Lk(x:Order):(bT x).getD 5 .any=.v (.int .i64 x.pick.service):=rfl
def Ks(x:Order):(bT x).getD 6 .any=.v (.int .i64 x.drop.place):=rfl
def Lp(x:Order):(bT x).getD 7 .any=.v (.int .i64 x.drop.start):=rfl
def KF(x:Order):(bT x).getD 8 .any=.v (.int .i64 x.drop.close):=rfl
def Ju(x:Order):(bT x).getD 9 .any=.v (.int .i64 x.drop.service):=rfl
def Hd(x:Order):(bT x).getD 10 .any=.v (.int .i64 x.skills):=rfl
def Gy(x:Order):(bT x).getD 11 .any=.v (.int .i64 x.penalty):=rfl
def IA(x:Order):(bT x).getD 12 .any=.v (.int .i64 x.split):=rfl
def Hv(x:Order):(bT x).getD 13 .any=.v (.int .i64 x.last):=rfl
def Jb(x:Order):(bT x).getD 14 .any=.v (.int .i64 x.now):=rfl
def IN(x:Order):(bT x).getD 15 .any=.v (.bool x.off):=rfl
def EI(x:Order):(bT x).take 16=bT x:=rfl
def Cl(x:Order):((bT x).drop 2).take 4=LV x.pick:=rfl
def Cw(x:Order):((bT x).drop 6).take 4=LV x.drop:=rfl
structure Pair where
 a:Int
 b:Int
 deriving DecidableEq
def lX(x:Pair):List AV:=[.v (.int .i64 x.a),.v (.int .i64 x.b)]
def Gc(x:Pair):(lX x).length=2:=rfl
def N5(x:Pair):(lX x).getD 0 .any=.v (.int .i64 x.a):=rfl
def Nr(x:Pair):(lX x).getD 1 .any=.v (.int .i64 x.b):=rfl
def HR(x:Pair):(lX x).take 2=lX x:=rfl
structure Instance where
 net:Network
 types:List VType
 orders:List Order
 apart:List Pair
 before:List Pair
 deriving DecidableEq
def aH(x:Instance):List AV:=[.sl (x.net.places.map cQ),.sl (x.net.arcs.map lL),.sl (x.types.map cV),.sl (x.orders.map bT),.sl (x.apart.map lX),.sl (x.before.map lX)]
def Af(x:Instance):(aH x).length=6:=rfl
def CA(x:Instance):(aH x).getD 0 .any=.sl (x.net.places.map cQ):=rfl
def Cv(x:Instance):(aH x).getD 1 .any=.sl (x.net.arcs.map lL):=rfl
def Cm(x:Instance):(aH x).getD 2 .any=.sl (x.types.map cV):=rfl
def Cy(x:Instance):(aH x).getD 3 .any=.sl (x.orders.map bT):=rfl
def CJ(x:Instance):(aH x).getD 4 .any=.sl (x.apart.map lX):=rfl
def Cj(x:Instance):(aH x).getD 5 .any=.sl (x.before.map lX):=rfl
def Ab(x:Instance):(aH x).take 6=aH x:=rfl
def Aq(x:Instance):(aH x).take 2=J1 x.net:=rfl
structure Visit where
 order:Int
 drop:Bool
 deriving DecidableEq
def iB(x:Visit):List AV:=[.v (.int .i64 x.order),.v (.bool x.drop)]
def F2(x:Visit):(iB x).length=2:=rfl
def JR(x:Visit):(iB x).getD 0 .any=.v (.int .i64 x.order):=rfl
def KI(x:Visit):(iB x).getD 1 .any=.v (.bool x.drop):=rfl
def EK(x:Visit):(iB x).take 2=iB x:=rfl
structure Route where
 type:Int
 start:Int
 rests:List Bool
 visits:List Visit
 deriving DecidableEq
def fG(x:Route):List AV:=[.v (.int .i64 x.type),.v (.int .i64 x.start),.sl (x.rests.map gU),.sl (x.visits.map iB)]
def FY(x:Route):(fG x).length=4:=rfl
def K5(x:Route):(fG x).getD 0 .any=.v (.int .i64 x.type):=rfl
def K3(x:Route):(fG x).getD 1 .any=.v (.int .i64 x.start):=rfl
def Kp(x:Route):(fG x).getD 2 .any=.sl (x.rests.map gU):=rfl
def KR(x:Route):(fG x).getD 3 .any=.sl (x.visits.map iB):=rfl
def Fw(x:Route):(fG x).take 4=fG x:=rfl
structure Plan where
 routes:List Route
 unserved:List Int
 deriving DecidableEq
def qV(x:Plan):List AV:=[.sl (x.routes.map fG),.sl (x.unserved.map aP)]
def GE(x:Plan):(qV x).length=2:=rfl
def M5(x:Plan):(qV x).getD 0 .any=.sl (x.routes.map fG):=rfl
def NG(x:Plan):(qV x).getD 1 .any=.sl (x.unserved.map aP):=rfl
def Jh(x:Plan):(qV x).take 2=qV x:=rfl
structure Decision where
 kind:Int
 a:Int
 b:Int
 n:Int
 deriving DecidableEq
def aT(x:Decision):List AV:=[.v (.int .i64 x.kind),.v (.int .i64 x.a),.v (.int .i64 x.b),.v (.int .i64 x.n)]
def fF(x:Decision):(aT x).length=4:=rfl
def Cr(x:Decision):(aT x).getD 0 .any=.v (.int .i64 x.kind):=rfl
def Cx(x:Decision):(aT x).getD 1 .any=.v (.int .i64 x.a):=rfl
def Ch(x:Decision):(aT x).getD 2 .any=.v (.int .i64 x.b):=rfl
def CE(x:Decision):(aT x).getD 3 .any=.v (.int .i64 x.n):=rfl
def Ag(x:Decision):(aT x).take 4=aT x:=rfl
structure Column where
 type:Int
 set:Int
 price:Int
 route:Route
 deriving DecidableEq
def bF(x:Column):List AV:=[.v (.int .i64 x.type),.v (.int .i64 x.set),.v (.int .i64 x.price),.v (.int .i64 x.route.type),.v (.int .i64 x.route.start),.sl (x.route.rests.map gU),.sl (x.route.visits.map iB)]
def kZ(x:Column):(bF x).length=7:=rfl
def IM(x:Column):(bF x).getD 0 .any=.v (.int .i64 x.type):=rfl
def Gw(x:Column):(bF x).getD 1 .any=.v (.int .i64 x.set):=rfl
def Ib(x:Column):(bF x).getD 2 .any=.v (.int .i64 x.price):=rfl
def GU(x:Column):(bF x).getD 3 .any=.v (.int .i64 x.route.type):=rfl
def Ii(x:Column):(bF x).getD 4 .any=.v (.int .i64 x.route.start):=rfl
def GC(x:Column):(bF x).getD 5 .any=.sl (x.route.rests.map gU):=rfl
def F5(x:Column):(bF x).getD 6 .any=.sl (x.route.visits.map iB):=rfl
def Cq(x:Column):(bF x).take 7=bF x:=rfl
def Al(x:Column):((bF x).drop 3).take 4=fG x.route:=rfl
structure Score where
 cost:Int
 moved:Int
 other:Int
 work:Int
 deriving DecidableEq
def bY(x:Score):List AV:=[.v (.int .i64 x.cost),.v (.int .i64 x.moved),.v (.int .i64 x.other),.v (.int .i64 x.work)]
def iK(x:Score):(bY x).length=4:=rfl
def pT(x:Score):(bY x).getD 0 .any=.v (.int .i64 x.cost):=rfl
def qG(x:Score):(bY x).getD 1 .any=.v (.int .i64 x.moved):=rfl
def rB(x:Score):(bY x).getD 2 .any=.v (.int .i64 x.other):=rfl
def qB(x:Score):(bY x).getD 3 .any=.v (.int .i64 x.work):=rfl
def lR(x:Score):(bY x).take 4=bY x:=rfl
structure Cut where
 kind:Int
 set:Int
 n:Int
 deriving DecidableEq
def cU(x:Cut):List AV:=[.v (.int .i64 x.kind),.v (.int .i64 x.set),.v (.int .i64 x.n)]
def nE(x:Cut):(cU x).length=3:=rfl
def Ql(x:Cut):(cU x).getD 0 .any=.v (.int .i64 x.kind):=rfl
def OV(x:Cut):(cU x).getD 1 .any=.v (.int .i64 x.set):=rfl
def Pi(x:Cut):(cU x).getD 2 .any=.v (.int .i64 x.n):=rfl
def Kc(x:Cut):(cU x).take 3=cU x:=rfl
structure PRow where
 coef:List Int
 kind:Int
 right:Int
 deriving DecidableEq
def cR(x:PRow):List AV:=[.sl (x.coef.map aP),.v (.int .i64 x.kind),.v (.int .i64 x.right)]
def nR(x:PRow):(cR x).length=3:=rfl
def Oa(x:PRow):(cR x).getD 0 .any=.sl (x.coef.map aP):=rfl
def MV(x:PRow):(cR x).getD 1 .any=.v (.int .i64 x.kind):=rfl
def Nm(x:PRow):(cR x).getD 2 .any=.v (.int .i64 x.right):=rfl
def Is(x:PRow):(cR x).take 3=cR x:=rfl
structure PLin where
 cost:List Int
 rows:List PRow
 deriving DecidableEq
def eS(x:PLin):List AV:=[.sl (x.cost.map aP),.sl (x.rows.map cR)]
def zE(x:PLin):(eS x).length=2:=rfl
def NK(x:PLin):(eS x).getD 0 .any=.sl (x.cost.map aP):=rfl
def N7(x:PLin):(eS x).getD 1 .any=.sl (x.rows.map cR):=rfl
def HS(x:PLin):(eS x).take 2=eS x:=rfl
structure TNode where
 leaf:Bool
 kind:Int
 cuts:List Cut
 dual:List ByteArray
 choice:Decision
 yes:Int
 no:Int
 deriving DecidableEq
def dR(x:TNode):List AV:=[.v (.bool x.leaf),.v (.int .i64 x.kind),.sl (x.cuts.map cU),.sl (x.dual.map cQ),.v (.int .i64 x.choice.kind),.v (.int .i64 x.choice.a),.v (.int .i64 x.choice.b),.v (.int .i64 x.choice.n),.v (.int .i64 x.yes),.v (.int .i64 x.no)]
def wO(x:TNode):(dR x).length=10:=rfl
def Li(x:TNode):(dR x).getD 0 .any=.v (.bool x.leaf):=rfl
def Kb(x:TNode):(dR x).getD 1 .any=.v (.int .i64 x.kind):=rfl
def Jy(x:TNode):(dR x).getD 2 .any=.sl (x.cuts.map cU):=rfl
def Km(x:TNode):(dR x).getD 3 .any=.sl (x.dual.map cQ):=rfl
def K4(x:TNode):(dR x).getD 4 .any=.v (.int .i64 x.choice.kind):=rfl
def Lm(x:TNode):(dR x).getD 5 .any=.v (.int .i64 x.choice.a):=rfl
def Ki(x:TNode):(dR x).getD 6 .any=.v (.int .i64 x.choice.b):=rfl
def JH(x:TNode):(dR x).getD 7 .any=.v (.int .i64 x.choice.n):=rfl
def Lc(x:TNode):(dR x).getD 8 .any=.v (.int .i64 x.yes):=rfl
def KL(x:TNode):(dR x).getD 9 .any=.v (.int .i64 x.no):=rfl
def FZ(x:TNode):(dR x).take 10=dR x:=rfl
def Ah(x:TNode):((dR x).drop 4).take 4=aT x.choice:=rfl
structure Proof where
 noPlan:Bool
 plan:Plan
 nodes:List TNode
 deriving DecidableEq
def eQ(x:Proof):List AV:=[.v (.bool x.noPlan),.sl (x.plan.routes.map fG),.sl (x.plan.unserved.map aP),.sl (x.nodes.map dR)]
def Fm(x:Proof):(eQ x).length=4:=rfl
def La(x:Proof):(eQ x).getD 0 .any=.v (.bool x.noPlan):=rfl
def Ll(x:Proof):(eQ x).getD 1 .any=.sl (x.plan.routes.map fG):=rfl
def KP(x:Proof):(eQ x).getD 2 .any=.sl (x.plan.unserved.map aP):=rfl
def JC(x:Proof):(eQ x).getD 3 .any=.sl (x.nodes.map dR):=rfl
def E0(x:Proof):(eQ x).take 4=eQ x:=rfl
def Ct(x:Proof):((eQ x).drop 1).take 2=qV x.plan:=rfl
attribute [go_sem] Lg QE Ho Ot KB OR FE KE JM EE Jq OO QZ Pa QV OB Q8 Jk qS Ln JD K9 JQ K7 Jz Kf Jv JE K6 Hy G8 IY IS E2 wG JJ JG Ka KQ JW Lk Ks Lp KF Ju Hd Gy IA Hv Jb IN EI Cl Cw Gc N5 Nr HR Af CA Cv Cm Cy CJ Cj Ab Aq F2 JR KI EK FY K5 K3 Kp KR Fw GE M5 NG Jh fF Cr Cx Ch CE Ag kZ IM Gw Ib GU Ii GC F5 Cq Al iK pT qG rB qB lR nE Ql OV Pi Kc nR Oa MV Nm Is zE NK N7 HS wO Li Kb Jy Km K4 Lm Ki JH Lc KL FZ Ah Fm La Ll KP JC E0 Ct
def aJ{α:Type}{f:α->List AV}{l:List α}{k:Nat}{x:α}(h:l[k]?=some x):(l.map f).getD k []=f x:=by simp[List.getD,h]
def Sh{α:Type}(f:α->List AV)(l:List α):(l.map f).length=l.length:=List.length_map f
def D5(n:Nat):((n:Int)).toNat=n:=Int.toNat_natCast n
attribute [go_sem] Sh D5
def aV{n:Int}(h: -9223372036854775808<=n/\n<=9223372036854775807):IntKind.i64.wrap n=n:=IntWalk.i64_in n h
end Go.Aw.D
end
section
namespace Go.Proofs.YtmhpdppobocokaaGreatDoor
open Go.Aw Go.Aw.D Go.Proofs Ty
abbrev int(n:Int):AV:=.v (.int .i64 n)
abbrev str(s:ByteArray):AV:=.v (.string s)
abbrev boo(b:Bool):AV:=.v (.bool b)
def bK{α:Type}{l:List α}{k:Nat}{x:α}(h:l[k]?=some x):l.take (k+1)=l.take k++[x]:=by rw[List.take_add_one,h];rfl
def bG{α:Type}{l:List α}{k:Nat}(h:k<l.length):∃x,l[k]?=some x:=⟨l[k],List.getElem?_eq_getElem h⟩
def inB{k n:Nat}(h:k<n):0<=(k:Int)/\(k:Int)<(n:Int):=by omega
def nN{k:Nat}(h:k<=4611686018427387904):IntKind.i64.wrap ((k:Int)+1)=((k+1:Nat):Int):=by rw[aV (by omega)];omega
def zC{k:Nat}(h:k<=4611686018427387904):IntKind.i64.wrap ((k:Int)-1)=(k:Int)-1:=aV (by omega)
def Df(e:TypeId×Nat×Nat)(d:Option Tmp)(j:Nat)(x:AV)(ρ:Env)(H:aD)(K:Env->aD->Prop):Prop:=match H j with
 | some r => qD H x fun news => (r.e = e.1 /\ r.sz = e.2.1 /\ cT e.2.1 news /\ (r.es.length + news.length) * e.2.2 <= 140737488355328) /\
       ∀k',H k'=none->K (upd ρ d (.os k')) (aE (aE H j none) k' (some ⟨e.1,e.2.1,r.es++news⟩))
 | none=>False
def Qv{P:Program}{d:Option Tmp}{t:TypeId}{j:Nat}{x:AV}{ρ:Env}{H:aD}{K:Env->aD->Prop}:QO P d t (.os j) x ρ H K=bD (bM P t) (fun e=>Df e d j x ρ H K):=by
 unfold QO tX Df;cases bM P t with
 | none=>rfl
 | some e=>obtain⟨a,b,c⟩:=e;rfl
@[congr] theorem wappE_c {e d j x x' ρ H K} (h':x=x'):Df e d j x ρ H K=Df e d j x' ρ H K:=h'▸rfl
@[congr] theorem FCalls_c {P f a a' H R} (h':a=a'):aI P f a H R=aI P f a' H R:=h'▸rfl
def cD{e:TypeId×Nat×Nat}{d:Option Tmp}{j:Nat}{news:List (List AV)}{ρ:Env}{H:aD}{K:Env->aD->Prop}{r:Row}(E:H j=some r)
  (h1:r.e=e.1/\r.sz=e.2.1) (F:cT e.2.1 news) (J:(r.es.length+news.length)*e.2.2<=140737488355328)
  (h:∀u,H u=none->K (upd ρ d (.os u)) (aE (aE H j none) u (some ⟨e.1,e.2.1,r.es++news⟩))):Df e d j (.sl news) ρ H K:=by
 unfold Df;simp only[E];exact⟨⟨h1.1,h1.2,F,J⟩,h⟩
def gC{P:Program}{C:gW}{PC:FuncId->List AV->aD->AV->Prop}{mt:Nat->Bool}{a b:Code}{x:AV}{K:Env->aD->Prop}{Q:Ex->Env->aD->Prop}{ρ:Env}{H:aD}(J:Env->aD->Prop)(h1:∀ρ H,J ρ H->K ρ H)
 (u:∀K:Env->aD->Prop,(∀ρ H,J ρ H->K ρ H)->wA x (awp P C PC mt a (Ex.seq K Q)) (awp P C PC mt b (Ex.seq K Q)) ρ H):wA x (awp P C PC mt a (Ex.seq K Q)) (awp P C PC mt b (Ex.seq K Q)) ρ H:=u K h1
def Ca{P:Program}{C:gW}{PC:FuncId->List AV->aD->AV->Prop}{mt:Nat->Bool}{c:Code}{id:Nat}{Q:Ex->Env->aD->Prop}{ρ:Env}{H:aD}(J:Env->aD->Prop)(h1:∀ρ H,J ρ H->Q .normal ρ H)
  (u:∀Q':Ex->Env->aD->Prop,(∀ρ H,J ρ H->Q' (.exit id) ρ H)->(∀ρ H,Q .ret ρ H->Q' .ret ρ H)->Ha (awp P C PC mt c) Q' ρ H):Ha (awp P C PC mt c) (Ex.blk id Q) ρ H:=
 u (Ex.blk id Q) (fun ρ H h=>by rw[Gt];exact h1 ρ H h) (fun ρ H h=>by rw[MC];exact h)
def GR{P:Program}{C:gW}{PC:FuncId->List AV->aD->AV->Prop}{mt:Nat->Bool}{a b:Code}{x:AV}{Q:Ex->Env->aD->Prop}{ρ:Env}{H:aD}(J:Env->aD->Prop)(h1:∀ρ H,J ρ H->Q .normal ρ H)
  (u:∀Q':Ex->Env->aD->Prop,(∀ρ H,J ρ H->Q' .normal ρ H)->(∀i ρ H,Q (.exit i) ρ H->Q' (.exit i) ρ H)->(∀ρ H,Q .ret ρ H->Q' .ret ρ H)->wA x (awp P C PC mt a Q') (awp P C PC mt b Q') ρ H):wA x (awp P C PC mt a Q) (awp P C PC mt b Q) ρ H:=
 u Q h1 (fun _ _ _ h=>h) (fun _ _ h=>h)
def D7(P:Program)(t:TypeId)(l:Option Nat)(d:Option Tmp)(j i f:Nat)(cs:List AV)(ρ:Env)(H:aD)(K:Env->aD->Prop):Prop:=match H j with
 | some r=>(i<r.es.length/\cs.length=l.getD 1/\f+cs.length<=r.sz/\(l=none->∃i,P.info? t=some i/\i.size=1))/\K (upd ρ d .any) (aE H j (some { r with es:=r.es.set i (kI (r.es.getD i []) f cs) }))
 | none=>False
def BH(P:Program)(t:TypeId)(l:Option Nat)(d:Option Tmp)(j i f:Nat)(cs:List AV)(ρ:Env)(H:aD)(K:Env->aD->Prop):Prop:=
 D7 P t l d j i f cs ρ H K\/∃nl:List (Nat×TypeId×Nat),(∀x∈nl,cs[x.1]?=some (.v (.slice none 0 0))/\0<x.2.2)/\gK nl cs H fun cs H=>D7 P t l d j i f cs ρ H K
def Pj{P:Program}{d:Option Tmp}{t:TypeId}{j i f:Nat}{cs:List AV}{ρ:Env}{H:aD}{K:Env->aD->Prop}:Nw P d t (.op j i f) cs ρ H K=bD (ldT P t) (fun l=>BH P t l d j i f cs ρ H K):=by
 have hB:∀cs H,tB P ⟨d,.move (.tmp 0),0,"",#[],none⟩ t (.op j i f) cs ρ H K=bD (ldT P t) (fun l=>D7 P t l d j i f cs ρ H K):=by intro cs H;unfold tB D7;cases h1:H j <;> cases u:ldT P t <;> simp[bD,h1]
 unfold Nw oG BH;simp only[hB];cases u:ldT P t <;> simp[bD]
@[congr] theorem wputE_c {P t l d j i f cs cs' ρ H K} (h':cs=cs'):BH P t l d j i f cs ρ H K=BH P t l d j i f cs' ρ H K:=h'▸rfl
def aZ{P:Program}{t:TypeId}{m:Nat}{d:Option Tmp}{j i f:Nat}{cs:List AV}{ρ:Env}{H:aD}{K:Env->aD->Prop}{r:Row}(u:H j=some r)(h1:i<r.es.length/\cs.length=m/\f+cs.length<=r.sz)
  (h:K (upd ρ d .any) (aE H j (some { r with es:=r.es.set i (kI (r.es.getD i []) f cs) }))):BH P t (some m) d j i f cs ρ H K:=by
 refine .inl ?_;unfold D7;simp only[u];exact⟨⟨h1.1,h1.2.1,h1.2.2,by simp⟩,h⟩
def cC{P:Program}{t:TypeId}{d:Option Tmp}{j i f:Nat}{cs:List AV}{ρ:Env}{H:aD}{K:Env->aD->Prop}{r:Row}(u:∃i,P.info? t=some i/\i.size=1)(E:H j=some r)(h1:i<r.es.length/\cs.length=1/\f+cs.length<=r.sz)
  (h:K (upd ρ d .any) (aE H j (some { r with es:=r.es.set i (kI (r.es.getD i []) f cs) }))):BH P t none d j i f cs ρ H K:=by
 refine .inl ?_;unfold D7;simp only[E];exact⟨⟨h1.1,h1.2.1,h1.2.2,fun _=>u⟩,h⟩
def Ui:Int.toNat 0=0:=rfl
def PK{a b:Prop}:(a->b->a/\b)=True:=by simp;exact fun h1 u=>⟨h1,u⟩
attribute [go_sem ↓] Qv Pj
attribute [go_sem] Pj List.set_cons_zero List.set_cons_succ
attribute [go_sem] Int.reduceToNat Ui beq_true beq_false Bool.not_eq_true' Bool.and_eq_true PK
attribute [go_sem] Qv NJ zI MI Bool.or_true Bool.true_or Bool.false_or Bool.or_false
def Bq{H:aD}{i j E:Nat}{r r':Row}(hi:H i=some r)(F:j≠i)(u:H E=none):aE (aE H j none) E (some r') i=some r:=by
 have h1:i≠E:=fun e=>by subst e;rw[hi]at u;simp at u
 rw[aC _ _ _ _ h1,aC _ _ _ _ (Ne.symm F),hi]
def eY{H:aD}{i j:Nat}{r r':Row}(hi:H i=some r)(u:H j=none):aE H j (some r') i=some r:=by
 have h1:i≠j:=fun e=>by subst e;rw[hi]at u;simp at u
 rw[aC _ _ _ _ h1,hi]
def aO{H:aD}{i j:Nat}{r:Row}(hi:H i=some r)(u:H j=none):i≠j:=fun e=>by subst e;rw[hi]at u;simp at u
def FU{H:aD}{r:Row}{F:Nat->aD->Prop}(h:∀i G,H i=none->G i=some r->(∀{j a},H j=some a->j≠i/\G j=some a)->F i G):iJ H r F:=
 fun i hi=>h i _ hi (aB _ _ _) fun u=>⟨aO u hi,eY u hi⟩
def iI{P:Program}{t:TypeId}{m:Nat}{d:Option Tmp}{j i f:Nat}{cs:List AV}{ρ:Env}{H:aD}{K:Env->aD->Prop}{r:Row}(u:H j=none)(h1:i<r.es.length/\cs.length=m/\f+cs.length<=r.sz)
  (h:∀G:aD,G j=some { r with es:=r.es.set i (kI (r.es.getD i []) f cs) }->(∀{k b},H k=some b->k≠j/\G k=some b)->K (upd ρ d .any) G):BH P t (some m) d j i f cs ρ (aE H j (some r)) K:=
 aZ (aB _ _ _) h1 (h _ (aB _ _ _) fun E=>⟨aO E u,(aC _ _ _ _ (aO E u)).trans (eY E u)⟩)
def kpB{H G:aD}{i j k:Nat}{a b r:Option Row}(g:aE (aE H i a) k b=G)(n:j≠k)(m:j≠i)(R:H j=r):G j=r:=(congrFun g.symm j).trans ((aC _ _ _ _ n).trans ((aC _ _ _ _ m).trans R))
def iU{α:Type}{e:TypeId}{sz:Nat}{enc:α->List AV}{H:aD}{k:Nat}{l l':List α}{cs:List (List AV)}(h:cs=l'.map enc):aE H k (some ⟨e,sz,l.map enc++cs⟩) k=some (⟨e,sz,(l++l').map enc⟩:Row):=by rw[aB,h,List.map_append]
def Oz{e:TypeId}{sz:Nat}{enc:Int->List AV}{H:aD}{k:Nat}{l l':List Int}{cs:List (List AV)}(h:cs=l'.map enc):aE H k (some ⟨e,sz,l.map enc++cs⟩) k=some (⟨e,sz,(l++l').map enc⟩:Row):=iU h
abbrev SY(t:VType):Row:=⟨38,14,[cV t]⟩
def pcb(mt:Nat->Bool){f:FuncId}{fn:Func}{c:Code}{rs:List ResultVar}{args:List AV}{r:AV}(J:Tryz.prog.funcs[f]? = some fn)(u:fn.body=some c)(F:fn.results=Array.mk rs)(h:awp Tryz.prog (aI Tryz.prog) (dV Tryz.prog) mt c (NJ Tryz.prog rs fun x H'=>Conv H' x r) (HZ args) bJ)(E:Es fn c args.length=true:=by kernel_rfl):PC Tryz.prog f args r:=PC.body mt mixed J u E (by rw[F];exact h)
def pcd{f:FuncId}{fn:Func}{c:Code}{rs:List ResultVar}{args:List AV}{r:AV}(J:Tryz.prog.funcs[f]? = some fn)(u:fn.body=some c)(F:fn.results=Array.mk rs)(h:awp Tryz.prog (aI Tryz.prog) (dV Tryz.prog) (fun _=>false) c (NJ Tryz.prog rs fun x H'=>Conv H' x r) (HZ args) bJ)(E:Es fn c args.length=true:=by kernel_rfl):PC Tryz.prog f args r:=PC.body (fun _=>false) mixed J u E (by rw[F];exact h)
def Xaa:∀{α:Type} {β:Type} {L:List α} (f:α->β),List.length (List.map f L)=List.length L:=@List.length_map
def Xab:∀(n:Nat),0<=n:=@Nat.zero_le
def Xac:∀{α:Type} {L bs:List α},List.length (L++bs)=List.length L+List.length bs:=@List.length_append
def Xad:∀(n:Nat),n<=n:=@Nat.le_refl
def Xae:∀{α:Type} {a:α} {L:List α},List.length (a::L)=List.length L+1:=@List.length_cons
def Xaf:∀{α:Type} {l:List α} {i:Nat} {a:α},l[i]?=some a->a∈l:=@List.mem_of_getElem?
def Xag:∀{α:Type} {a b:α},Option.getD (some a) b=a:=@Option.getD_some
def Xah:∀{α:Type} (L bs cs:List α),L++bs++cs=L++(bs++cs):=@List.append_assoc
def Xai:∀{α:Type} {l:List α},List.take (List.length l) l=l:=@List.take_length
def Xaj:∀{α:Type} {i:Nat} {l:List α},List.length (List.take i l)=min i (List.length l):=@List.length_take
def Xak:∀{α:Type} {β:Type} {f:α->β} {l₁ l₂:List α},List.map f (l₁++l₂)=List.map f l₁++List.map f l₂:=@List.map_append
def Xal:∀{α:Type} {L:List α} {i:Nat} {a:α},List.length (List.set L i a)=List.length L:=@List.length_set
def Xam:∀{n:Nat},n>0->∀{i j:Nat},i<=j->n^i<=n^j:=@Nat.pow_le_pow_right
def Xan:∀{n m k:Nat},n<=m->m<=k->n<=k:=@Nat.le_trans
def Xao:∀{α:Type} {b:α} {l:List α} {a:α},a∈b::l↔a=b\/a∈l:=@List.mem_cons
def Xap:∀{α:Type} {a b:α},a∈[b]↔a=b:=@List.mem_singleton
def Xaq:∀{α:Type} (L:List α),L++[]=L:=@List.append_nil
def Xar:∀{α:Type} {β:Type} {f:α->β} {a:α} {l:List α},List.map f (a::l)=f a::List.map f l:=@List.map_cons
def Xas:∀{α:Type} {n:Nat} {a:α},List.length (List.replicate n a)=n:=@List.length_replicate
def Xat:∀{α:Type} {l:List α},List.length l=0↔l=[]:=@List.length_eq_zero_iff
def Xau:∀{α:Type} (L:List α),[]++L=L:=@List.nil_append
def Xav:∀(a b:Bool),((a&&b)=true)=(a=true/\b=true):=@Bool.and_eq_true
def Xaw:∀{α:Type} {a:α} {L bs:List α},a::L++bs=a::(L++bs):=@List.cons_append
def Xax:(false=true)=False:=@Bool.false_eq_true
def Xay:∀{α:Type} {β:Type} {f:α->β},List.map f []=[]:=@List.map_nil
def Xaz:∀{n m k:Nat},n<m->m<=k->n<k:=@Nat.lt_of_lt_of_le
def Xba:∀{α:Type} {i:Nat} {l:List α},List.length l<=i->List.take i l=l:=@List.take_of_length_le
def Xbb:∀(n:Nat),Int.toNat ↑n=n:=@Int.toNat_natCast
def Xbc:∀{α:Type} {p:α->Bool} {l:List α},List.all l p=true↔∀(x:α),x∈l->p x=true:=@List.all_eq_true
def Xbd:∀(n m:Nat),n<m\/n>=m:=@Nat.lt_or_ge
def Xbe:∀{α:Type} (p:α->Bool) (l:List α),List.length (List.filter p l)<=List.length l:=@List.length_filter_le
def Xbf:∀{a b:Bool},a=b↔(a=true↔b=true):=@Bool.eq_iff_iff
def Xbg:∀{a b:Nat},a<b->a%b=a:=@Nat.mod_eq_of_lt
def Xbh:∀(n:Nat),Int.natAbs ↑n=n:=@Int.natAbs_natCast
def Xbi:∀{m n:Nat},m∈List.range n↔m<n:=@List.mem_range
def Xbj:∀{α:Type} {a:α} {s t:List α},a∈s++t↔a∈s\/a∈t:=@List.mem_append
def Xbk:∀{α:Type} {l:List α},List.drop 0 l=l:=@List.drop_zero
def Xbl:∀(n m:Nat),n^Nat.succ m=n^m*n:=@Nat.pow_succ
def Xbm:∀(b:Bool),(true&&b)=b:=@Bool.true_and
def Xbn:∀(n m k:Nat),n+m+k=n+(m+k):=@Nat.add_assoc
def Xbo:∀{a:Int},a<=0->↑(Int.natAbs a)= -a:=@Int.ofNat_natAbs_of_nonpos
def Xbp:∀{a:Int},0<=a->↑(Int.natAbs a)=a:=@Int.natAbs_of_nonneg
def Xbq:∀{x y:Bool},(x||y)=false↔x=false/\y=false:=@Bool.or_eq_false_iff
def Xbr:∀{n:Nat},List.length (List.range n)=n:=@List.length_range
def Xbs:∀(b:Bool),((!b)=true)=(b=false):=@Bool.not_eq_true'
def Xbt:∀{α:Type} {l:List α},0<List.length l↔l≠[]:=@List.length_pos_iff
def Xbu:∀{a b:Nat},a<=b->min a b=a:=@Nat.min_eq_left
def Xbv:∀(n:Nat),n=0\/n>0:=@Nat.eq_zero_or_pos
def Xbw:∀{α:Type} {b:α} (L:List α) {bs:List α},b∈bs->b∈L++bs:=@List.mem_append_right
def Xbx:∀{α:Type} {a:α} {L:List α} (bs:List α),a∈L->a∈L++bs:=@List.mem_append_left
def Xby:(!true)=false:=@Bool.not_true
def Xbz:∀{a b:Int},0<=a->Int.tdiv a b=a/b:=@Int.tdiv_eq_ediv_of_nonneg
def aY(k:Nat)(h:k<=4611686018427387904:=by omega):IntKind.i64.wrap ((k:Int)+1)=((k+1:Nat):Int):=nN h
def aN{f:FuncId}{args:List AV}{r:AV}{H:aD}{K:AV->aD->Prop}(h:PC Tryz.prog f args r)(u:K r H):aI Tryz.prog f args H K:=h.use u
end Go.Proofs.YtmhpdppobocokaaGreatDoor
end
