import Derived.Shelf.Strconv.Atoi
import Derived.Test.YtmhpdppobocokaaGreatDoorProg
import Derived.Test.YtmhpdppobocokaaGreatDoorTs06
set_option linter.unusedSimpArgs false
set_option linter.unusedVariables false
set_option linter.defProp false
set_option maxRecDepth 100000
section
namespace Go.Proofs.YtmhpdppobocokaaGreatDoor.Nu
open Go.Aw Go.Aw.D Go.Proofs Ty Go.Nu
end Go.Proofs.YtmhpdppobocokaaGreatDoor.Nu
end
section
namespace Go.Proofs
open Go.Shelf
def Tryz.lays172_ren:Go.Shelf.Ren:=⟨fun|172=>56|244=>110|245=>111|247=>185|279=>186|280=>187|281=>188|282=>189|287=>233|316=>234|171=>207|205=>235|321=>266|322=>267|243=>251|246=>281|283=>304|284=>305|285=>306|286=>307|129=>181|317=>334|318=>335|319=>336|320=>107|337=>182|338=>183|n=>n,fun|9=>9|3=>3|75=>150|76=>151|4=>4|5=>5|167=>303|37=>304|0=>0|85=>223|2=>2|168=>305|53=>301|175=>352|46=>217|210=>356|127=>388|145=>391|143=>389|21=>21|171=>426|173=>428|212=>467|51=>299|20=>20|213=>468|232=>349|233=>350|80=>285|n=>n,fun|15=>2|16=>3|17=>5|18=>0|19=>1|n=>n⟩
theorem Tryz.lays172:Go.Proofs.Lays.n172 Tryz.prog Tryz.lays172_ren:={
 mixed:=by kernel_rfl
 f129:=Tryz.func181.trans (congrArg some (by kernel_rfl))
 f171:=Tryz.func207.trans (congrArg some (by kernel_rfl))
 f172:=Tryz.func56.trans (congrArg some (by kernel_rfl))
 f205:=Tryz.func235.trans (congrArg some (by kernel_rfl))
 f243:=Tryz.func251.trans (congrArg some (by kernel_rfl))
 f244:=Tryz.func110.trans (congrArg some (by kernel_rfl))
 f245:=Tryz.func111.trans (congrArg some (by kernel_rfl))
 f246:=Tryz.func281.trans (congrArg some (by kernel_rfl))
 f247:=Tryz.func185.trans (congrArg some (by kernel_rfl))
 f279:=Tryz.func186.trans (congrArg some (by kernel_rfl))
 f280:=Tryz.func187.trans (congrArg some (by kernel_rfl))
 f281:=Tryz.func188.trans (congrArg some (by kernel_rfl))
 f282:=Tryz.func189.trans (congrArg some (by kernel_rfl))
 f283:=Tryz.func304.trans (congrArg some (by kernel_rfl))
 f284:=Tryz.func305.trans (congrArg some (by kernel_rfl))
 f285:=Tryz.func306.trans (congrArg some (by kernel_rfl))
 f286:=Tryz.func307.trans (congrArg some (by kernel_rfl))
 f287:=Tryz.func233.trans (congrArg some (by kernel_rfl))
 f316:=Tryz.func234.trans (congrArg some (by kernel_rfl))
 f317:=Tryz.func334.trans (congrArg some (by kernel_rfl))
 f318:=Tryz.func335.trans (congrArg some (by kernel_rfl))
 f319:=Tryz.func336.trans (congrArg some (by kernel_rfl))
 f320:=Tryz.func107.trans (congrArg some (by kernel_rfl))
 f321:=Tryz.func266.trans (congrArg some (by kernel_rfl))
 f322:=Tryz.func267.trans (congrArg some (by kernel_rfl))
 f337:=Tryz.func182.trans (congrArg some (by kernel_rfl))
 f338:=Tryz.func183.trans (congrArg some (by kernel_rfl))
 t0:=Tryz.underlying0
 a0:=Tryz.isAgg0
 z0:=Tryz.sizeOf0
 v0:=Tryz.zeroValue0
 t2:=Tryz.underlying2
 a2:=Tryz.isAgg2
 z2:=Tryz.sizeOf2
 v2:=Tryz.zeroValue2
 t3:=Tryz.underlying3
 a3:=Tryz.isAgg3
 z3:=Tryz.sizeOf3
 v3:=Tryz.zeroValue3
 t4:=Tryz.underlying4
 a4:=Tryz.isAgg4
 z4:=Tryz.sizeOf4
 v4:=Tryz.zeroValue4
 t5:=Tryz.underlying5
 a5:=Tryz.isAgg5
 z5:=Tryz.sizeOf5
 v5:=Tryz.zeroValue5
 t9:=Tryz.underlying9
 a9:=Tryz.isAgg9
 z9:=Tryz.sizeOf9
 v9:=Tryz.zeroValue9
 t20:=Tryz.underlying20
 a20:=Tryz.isAgg20
 z20:=Tryz.sizeOf20
 v20:=Tryz.zeroValue20
 t21:=Tryz.underlying21
 a21:=Tryz.isAgg21
 z21:=Tryz.sizeOf21
 v21:=Tryz.zeroValue21
 t37:=Tryz.underlying304
 a37:=Tryz.isAgg304
 z37:=Tryz.sizeOf304
 v37:=Tryz.zeroValue304
 t46:=Tryz.underlying217
 a46:=Tryz.isAgg217
 z46:=Tryz.sizeOf217
 v46:=Tryz.zeroValue217
 t51:=Tryz.underlying299
 a51:=Tryz.isAgg299
 z51:=Tryz.sizeOf299
 v51:=Tryz.zeroValue299
 t53:=Tryz.underlying301
 a53:=Tryz.isAgg301
 z53:=Tryz.sizeOf301
 v53:=Tryz.zeroValue301
 t75:=Tryz.underlying150
 a75:=Tryz.isAgg150
 z75:=Tryz.sizeOf150
 v75:=Tryz.zeroValue150
 t76:=Tryz.underlying151
 a76:=Tryz.isAgg151
 z76:=Tryz.sizeOf151
 v76:=Tryz.zeroValue151
 t85:=Tryz.underlying223
 a85:=Tryz.isAgg223
 z85:=Tryz.sizeOf223
 v85:=Tryz.zeroValue223
 t127:=Tryz.underlying388
 a127:=Tryz.isAgg388
 z127:=Tryz.sizeOf388
 v127:=Tryz.zeroValue388
 t143:=Tryz.underlying389
 a143:=Tryz.isAgg389
 z143:=Tryz.sizeOf389
 v143:=Tryz.zeroValue389
 t145:=Tryz.underlying391
 a145:=Tryz.isAgg391
 z145:=Tryz.sizeOf391
 v145:=Tryz.zeroValue391
 t167:=Tryz.underlying303
 a167:=Tryz.isAgg303
 z167:=Tryz.sizeOf303
 v167:=Tryz.zeroValue303
 t168:=Tryz.underlying305
 a168:=Tryz.isAgg305
 z168:=Tryz.sizeOf305
 v168:=Tryz.zeroValue305
 t171:=Tryz.underlying426
 a171:=Tryz.isAgg426
 z171:=Tryz.sizeOf426
 v171:=Tryz.zeroValue426
 t173:=Tryz.underlying428
 a173:=Tryz.isAgg428
 z173:=Tryz.sizeOf428
 v173:=Tryz.zeroValue428
 t175:=Tryz.underlying352
 a175:=Tryz.isAgg352
 z175:=Tryz.sizeOf352
 v175:=Tryz.zeroValue352
 t210:=Tryz.underlying356
 a210:=Tryz.isAgg356
 z210:=Tryz.sizeOf356
 v210:=Tryz.zeroValue356
 t212:=Tryz.underlying467
 a212:=Tryz.isAgg467
 z212:=Tryz.sizeOf467
 v212:=Tryz.zeroValue467
 t213:=Tryz.underlying468
 a213:=Tryz.isAgg468
 z213:=Tryz.sizeOf468
 t232:=Tryz.underlying349
 a232:=Tryz.isAgg349
 z232:=Tryz.sizeOf349
 v232:=Tryz.zeroValue349
 t233:=Tryz.underlying350
 a233:=Tryz.isAgg350
 z233:=Tryz.sizeOf350
 v233:=Tryz.zeroValue350
 g15:=by kernel_rfl
 g16:=by kernel_rfl
 g17:=by kernel_rfl
 g18:=by kernel_rfl
 g19:=by kernel_rfl }
open Go.RowKit in
theorem Tryz.strconv_Atoi (s:ByteArray) (n:Int) (hl:s.size<=18) (h:Lib.atoi s.data.toList=some n) (w:World):
    Calls Tryz.prog 56 #[.string s] w fun e w'=>e=.returned (.tuple #[.int .i64 n,.nilIface])/\∃t,w'=Lib.bytesWorld w 5 t:=Any.strconv_Atoi Tryz.lays172 s n hl h w
end Go.Proofs
end
