/- Texts joined by a program: Shelf, NuS, NuJ, NuK. -/
import Derived.Shelf.Strings.Builder1
import Derived.Shelf.Strings.Builder2
import Derived.Shelf.Small.Strs
import Derived.Shelf.Small.Wraps
import Derived.Shelf.Strings.BuilderF
import Derived.Shelf.Strings.BuilderK
import Derived.Shelf.Strings.Builder2Cap
import Derived.Shelf.Strconv.Itoa0
import Derived.Shelf.Strconv.Itoa1
import Derived.Shelf.LaysM
import Derived.Shelf.Strconv.Itoa2
import Derived.Shelf.Strconv.Itoa3
import Derived.Shelf.Strings.Search1
import Derived.Shelf.Strings.Search2
import Derived.Shelf.Strings.Search3
import Derived.Shelf.Strings.Cut
import Derived.Shelf.Strings.Shaped
import Derived.Shelf.Strings.Prefix
import Derived.Shelf.Bits.Mul64
import Derived.Shelf.Strings.Repeat
import Derived.Shelf.Strings.BuilderCap
import Derived.Ground.Names2Prog
import Derived.Shelf.Slices.SearchI
import Derived.Test.YtdlijlecpopadaaGreatDoorProg
import Derived.WalkKit
import Derived.BigCall
import Derived.Deep.LoopGhost
import Derived.Deep.DeepFit
import Derived.Lib.SmallJoins
import Derived.Test.YtdlijlecpopadaaGreatDoorZv13
set_option linter.unusedSimpArgs false
set_option linter.unusedVariables false
set_option maxRecDepth 100000
section
namespace Go.Proofs
open Go.Shelf
def Tryz.lays169_ren:Go.Shelf.Ren:=⟨fun|169=>211|n=>n,fun|70=>263|9=>9|0=>0|72=>265|37=>206|127=>297|3=>3|5=>5|n=>n,fun|n=>n⟩
theorem Tryz.lays169:Go.Proofs.Lays.n169 Tryz.prog Tryz.lays169_ren:={
 mixed:=by kernel_rfl
 f169:=Tryz.func211.trans (congrArg some (by kernel_rfl))
 t0:=Tryz.underlying0
 a0:=Tryz.isAgg0
 z0:=Tryz.sizeOf0
 v0:=Tryz.zeroValue0
 t3:=Tryz.underlying3
 a3:=Tryz.isAgg3
 z3:=Tryz.sizeOf3
 v3:=Tryz.zeroValue3
 t9:=Tryz.underlying9
 a9:=Tryz.isAgg9
 z9:=Tryz.sizeOf9
 v9:=Tryz.zeroValue9
 t37:=Tryz.underlying206
 a37:=Tryz.isAgg206
 z37:=Tryz.sizeOf206
 v37:=Tryz.zeroValue206
 t70:=Tryz.underlying263
 a70:=Tryz.isAgg263
 z70:=Tryz.sizeOf263
 v70:=Tryz.zeroValue263
 t72:=Tryz.underlying265
 a72:=Tryz.isAgg265
 z72:=Tryz.sizeOf265
 v72:=Tryz.zeroValue265
 t127:=Tryz.underlying297
 a127:=Tryz.isAgg297
 z127:=Tryz.sizeOf297
 v127:=Tryz.zeroValue297 }
theorem Tryz.Builder_Extra_169:Builder.Extra Tryz.prog Tryz.lays169_ren:={
 sizeBuilder:=by kernel_rfl
 liesBuilder:=by kernel_rfl
 t5:=Tryz.underlying5
 a5:=Tryz.isAgg5
 z5:=Tryz.sizeOf5
 v5:=Tryz.zeroValue5
 infoByte:=by kernel_rfl
 cellsByte:=by kernel_rfl
 sizeByte:=by kernel_rfl
 neB5:=by decide }
open Go.RowKit in
theorem Tryz.Builder_String_any (B b:Nat) (l:List UInt8) (w:World) (h:Lib.IsBuilder 265 5 B b (Lib.byteCells l) w) (hBw:B≤w.heap.size):
    Calls Tryz.prog 211 #[.pointer (some ⟨b,0,none⟩)] w fun e w'=>e=.returned (.string ⟨l.toArray⟩)∧Below B w w':=Any.Builder_String_any Tryz.lays169 Tryz.Builder_Extra_169 B b l w h hBw
def Tryz.lays106_ren:Go.Shelf.Ren:=⟨fun|106=>170|213=>213|265=>244|n=>n,fun|9=>9|3=>3|n=>n,fun|n=>n⟩
theorem Tryz.lays106:Go.Proofs.Lays.n106 Tryz.prog Tryz.lays106_ren:={
 mixed:=by kernel_rfl
 f106:=Tryz.func170.trans (congrArg some (by kernel_rfl))
 f213:=Tryz.func213.trans (congrArg some (by kernel_rfl))
 f265:=Tryz.func244.trans (congrArg some (by kernel_rfl))
 t3:=Tryz.underlying3
 a3:=Tryz.isAgg3
 z3:=Tryz.sizeOf3
 v3:=Tryz.zeroValue3
 t9:=Tryz.underlying9
 a9:=Tryz.isAgg9
 z9:=Tryz.sizeOf9
 v9:=Tryz.zeroValue9 }
open Go.RowKit in
theorem Tryz.strings_Compare (a b:ByteArray) (w:World):
    Calls Tryz.prog 170 #[.string a,.string b] w fun e w'=>e=.returned (.int .i64 (Lib.compareBytes a.data.toList b.data.toList))∧w'=w:=Any.strings_Compare Tryz.lays106 a b w
def Tryz.lays103_ren:Go.Shelf.Ren:=⟨fun|103=>169|210=>212|206=>188|n=>n,fun|9=>9|4=>4|24=>232|3=>3|n=>n,fun|n=>n⟩
theorem Tryz.lays103:Go.Proofs.Lays.n103 Tryz.prog Tryz.lays103_ren:={
 mixed:=by kernel_rfl
 f103:=Tryz.func169.trans (congrArg some (by kernel_rfl))
 f206:=Tryz.func188.trans (congrArg some (by kernel_rfl))
 f210:=Tryz.func212.trans (congrArg some (by kernel_rfl))
 t3:=Tryz.underlying3
 a3:=Tryz.isAgg3
 z3:=Tryz.sizeOf3
 v3:=Tryz.zeroValue3
 t4:=Tryz.underlying4
 a4:=Tryz.isAgg4
 z4:=Tryz.sizeOf4
 v4:=Tryz.zeroValue4
 t9:=Tryz.underlying9
 a9:=Tryz.isAgg9
 z9:=Tryz.sizeOf9
 v9:=Tryz.zeroValue9
 t24:=Tryz.underlying232
 a24:=Tryz.isAgg232
 z24:=Tryz.sizeOf232
 v24:=Tryz.zeroValue232 }
open Go.RowKit in
theorem Tryz.strings_CutPrefix (s p:ByteArray) (w:World):
    Calls Tryz.prog 169 #[.string s,.string p] w fun e w'=>e=.returned (.tuple #[.string ⟨(Lib.trimPrefix s.data.toList p.data.toList).toArray⟩,.bool (Lib.hasPrefix s.data.toList p.data.toList)])∧w'=w:=Any.strings_CutPrefix Tryz.lays103 s p w
def Tryz.laysM171_ren:Go.Shelf.Ren:=⟨fun|171=>120|243=>173|246=>215|283=>245|284=>246|285=>247|286=>248|129=>286|317=>285|318=>287|319=>288|320=>289|337=>316|338=>317|n=>n,fun|3=>3|9=>9|2=>2|4=>4|171=>298|0=>0|53=>299|37=>206|5=>5|173=>302|212=>341|51=>329|20=>20|213=>342|46=>40|232=>367|233=>368|n=>n,fun|17=>1|18=>2|19=>3|n=>n⟩
theorem Tryz.laysM171:Go.Proofs.LaysM.n171 Tryz.prog Tryz.laysM171_ren:={
 mixed:=by kernel_rfl
 f129:=Tryz.func286.trans (congrArg some (by kernel_rfl))
 f171:=Tryz.func120.trans (congrArg some (by kernel_rfl))
 f243:=Tryz.func173.trans (congrArg some (by kernel_rfl))
 f246:=Tryz.func215.trans (congrArg some (by kernel_rfl))
 f283:=Tryz.func245.trans (congrArg some (by kernel_rfl))
 f284:=Tryz.func246.trans (congrArg some (by kernel_rfl))
 f285:=Tryz.func247.trans (congrArg some (by kernel_rfl))
 f286:=Tryz.func248.trans (congrArg some (by kernel_rfl))
 f317:=Tryz.func285.trans (congrArg some (by kernel_rfl))
 f318:=Tryz.func287.trans (congrArg some (by kernel_rfl))
 f319:=Tryz.func288.trans (congrArg some (by kernel_rfl))
 f320:=Tryz.func289.trans (congrArg some (by kernel_rfl))
 f337:=Tryz.func316.trans (congrArg some (by kernel_rfl))
 f338:=Tryz.func317.trans (congrArg some (by kernel_rfl))
 t0:=Tryz.underlying0
 a0:=Tryz.isAgg0
 z0:=Tryz.sizeOf0
 v0:=Tryz.zeroValue0
 t2:=Tryz.underlying2
 a2:=Tryz.isAgg2
 z2:=Tryz.sizeOf2
 v2:=Tryz.zeroValue2
 t3:=Tryz.underlying3
 a3:=Tryz.isAgg3
 z3:=Tryz.sizeOf3
 v3:=Tryz.zeroValue3
 t4:=Tryz.underlying4
 a4:=Tryz.isAgg4
 z4:=Tryz.sizeOf4
 v4:=Tryz.zeroValue4
 t5:=Tryz.underlying5
 a5:=Tryz.isAgg5
 z5:=Tryz.sizeOf5
 v5:=Tryz.zeroValue5
 t9:=Tryz.underlying9
 a9:=Tryz.isAgg9
 z9:=Tryz.sizeOf9
 v9:=Tryz.zeroValue9
 t20:=Tryz.underlying20
 a20:=Tryz.isAgg20
 z20:=Tryz.sizeOf20
 v20:=Tryz.zeroValue20
 t37:=Tryz.underlying206
 a37:=Tryz.isAgg206
 z37:=Tryz.sizeOf206
 v37:=Tryz.zeroValue206
 t46:=Tryz.underlying40
 a46:=Tryz.isAgg40
 z46:=Tryz.sizeOf40
 v46:=Tryz.zeroValue40
 t51:=Tryz.underlying329
 a51:=Tryz.isAgg329
 z51:=Tryz.sizeOf329
 v51:=Tryz.zeroValue329
 t53:=Tryz.underlying299
 a53:=Tryz.isAgg299
 z53:=Tryz.sizeOf299
 v53:=Tryz.zeroValue299
 t171:=Tryz.underlying298
 a171:=Tryz.isAgg298
 z171:=Tryz.sizeOf298
 v171:=Tryz.zeroValue298
 t173:=Tryz.underlying302
 a173:=Tryz.isAgg302
 z173:=Tryz.sizeOf302
 v173:=Tryz.zeroValue302
 t212:=Tryz.underlying341
 a212:=Tryz.isAgg341
 z212:=Tryz.sizeOf341
 v212:=Tryz.zeroValue341
 t213:=Tryz.underlying342
 a213:=Tryz.isAgg342
 z213:=Tryz.sizeOf342
 t232:=Tryz.underlying367
 a232:=Tryz.isAgg367
 z232:=Tryz.sizeOf367
 v232:=Tryz.zeroValue367
 t233:=Tryz.underlying368
 a233:=Tryz.isAgg368
 z233:=Tryz.sizeOf368
 v233:=Tryz.zeroValue368
 g17:=by kernel_rfl
 g18:=by kernel_rfl
 g19:=by kernel_rfl
 i0:=by kernel_rfl
 i2:=by kernel_rfl
 i3:=by kernel_rfl
 i4:=by kernel_rfl
 i5:=by kernel_rfl
 i9:=by kernel_rfl
 i20:=by kernel_rfl
 i37:=by kernel_rfl
 i46:=by kernel_rfl
 i51:=by kernel_rfl
 i53:=by kernel_rfl
 i171:=by kernel_rfl
 i173:=by kernel_rfl
 i212:=by kernel_rfl
 i232:=by kernel_rfl
 i233:=by kernel_rfl
 m17:=by kernel_rfl
 m18:=by kernel_rfl
 m19:=by kernel_rfl }
open Go.RowKit Go.Sort Go.Lib in
theorem Tryz.strconv_Itoa (n:Int) (h0: -9223372036854775808≤n) (h1:n≤9223372036854775807) (w:World) (htab:Lib.TabIs Tryz.prog w "internal/strconv.uint64pow10" .u64 Lib.pow10Tab):
    Calls Tryz.prog 120 #[.int .i64 n] w fun e w'=>e=.returned (.string ⟨(Lib.itoa n).toArray⟩)∧∃k os,w'=grow (w.drewN k) os:=Any.strconv_Itoa Tryz.laysM171 n h0 h1 w htab
def Tryz.lays219_ren:Go.Shelf.Ren:=⟨fun|219=>183|217=>227|225=>228|224=>229|267=>230|266=>267|314=>268|n=>n,fun|9=>9|3=>3|4=>4|5=>5|46=>40|146=>330|51=>329|n=>n,fun|1=>0|n=>n⟩
theorem Tryz.lays219:Go.Proofs.Lays.n219 Tryz.prog Tryz.lays219_ren:={
 mixed:=by kernel_rfl
 f217:=Tryz.func227.trans (congrArg some (by kernel_rfl))
 f219:=Tryz.func183.trans (congrArg some (by kernel_rfl))
 f224:=Tryz.func229.trans (congrArg some (by kernel_rfl))
 f225:=Tryz.func228.trans (congrArg some (by kernel_rfl))
 f266:=Tryz.func267.trans (congrArg some (by kernel_rfl))
 f267:=Tryz.func230.trans (congrArg some (by kernel_rfl))
 f314:=Tryz.func268.trans (congrArg some (by kernel_rfl))
 t3:=Tryz.underlying3
 a3:=Tryz.isAgg3
 z3:=Tryz.sizeOf3
 v3:=Tryz.zeroValue3
 t4:=Tryz.underlying4
 a4:=Tryz.isAgg4
 z4:=Tryz.sizeOf4
 v4:=Tryz.zeroValue4
 t5:=Tryz.underlying5
 a5:=Tryz.isAgg5
 z5:=Tryz.sizeOf5
 v5:=Tryz.zeroValue5
 t9:=Tryz.underlying9
 a9:=Tryz.isAgg9
 z9:=Tryz.sizeOf9
 v9:=Tryz.zeroValue9
 t46:=Tryz.underlying40
 a46:=Tryz.isAgg40
 z46:=Tryz.sizeOf40
 v46:=Tryz.zeroValue40
 t51:=Tryz.underlying329
 a51:=Tryz.isAgg329
 z51:=Tryz.sizeOf329
 v51:=Tryz.zeroValue329
 t146:=Tryz.underlying330
 a146:=Tryz.isAgg330
 z146:=Tryz.sizeOf330
 v146:=Tryz.zeroValue330
 g1:=by kernel_rfl }
open Go.RowKit Go.Lib in
theorem Tryz.stringslite_Index_one (s:ByteArray) (c:UInt8) (w:World):
    Calls Tryz.prog 183 #[.string s,.string ⟨#[c]⟩] w fun e w'=>e=.returned (.int .i64 (Lib.indexByte s.data.toList c))∧w'=w:=Any.stringslite_Index_one Tryz.lays219 s c w
def Tryz.lays144_ren:Go.Shelf.Ren:=⟨fun|144=>84|143=>143|219=>183|217=>227|225=>228|224=>229|267=>230|266=>267|314=>268|n=>n,fun|9=>9|4=>4|3=>3|5=>5|46=>40|146=>330|51=>329|n=>n,fun|1=>0|n=>n⟩
theorem Tryz.lays144:Go.Proofs.Lays.n144 Tryz.prog Tryz.lays144_ren:={
 mixed:=by kernel_rfl
 f143:=Tryz.func143.trans (congrArg some (by kernel_rfl))
 f144:=Tryz.func84.trans (congrArg some (by kernel_rfl))
 f217:=Tryz.func227.trans (congrArg some (by kernel_rfl))
 f219:=Tryz.func183.trans (congrArg some (by kernel_rfl))
 f224:=Tryz.func229.trans (congrArg some (by kernel_rfl))
 f225:=Tryz.func228.trans (congrArg some (by kernel_rfl))
 f266:=Tryz.func267.trans (congrArg some (by kernel_rfl))
 f267:=Tryz.func230.trans (congrArg some (by kernel_rfl))
 f314:=Tryz.func268.trans (congrArg some (by kernel_rfl))
 t3:=Tryz.underlying3
 a3:=Tryz.isAgg3
 z3:=Tryz.sizeOf3
 v3:=Tryz.zeroValue3
 t4:=Tryz.underlying4
 a4:=Tryz.isAgg4
 z4:=Tryz.sizeOf4
 v4:=Tryz.zeroValue4
 t5:=Tryz.underlying5
 a5:=Tryz.isAgg5
 z5:=Tryz.sizeOf5
 v5:=Tryz.zeroValue5
 t9:=Tryz.underlying9
 a9:=Tryz.isAgg9
 z9:=Tryz.sizeOf9
 v9:=Tryz.zeroValue9
 t46:=Tryz.underlying40
 a46:=Tryz.isAgg40
 z46:=Tryz.sizeOf40
 v46:=Tryz.zeroValue40
 t51:=Tryz.underlying329
 a51:=Tryz.isAgg329
 z51:=Tryz.sizeOf329
 v51:=Tryz.zeroValue329
 t146:=Tryz.underlying330
 a146:=Tryz.isAgg330
 z146:=Tryz.sizeOf330
 v146:=Tryz.zeroValue330
 g1:=by kernel_rfl }
open Go.RowKit Go.Lib in
theorem Tryz.strings_Contains_one (s:ByteArray) (c:UInt8) (w:World):
    Calls Tryz.prog 84 #[.string s,.string ⟨#[c]⟩] w fun e w'=>e=.returned (.bool (decide (0≤Lib.indexByte s.data.toList c)))∧w'=w:=Any.strings_Contains_one Tryz.lays144 s c w
def Tryz.lays101_ren:Go.Shelf.Ren:=⟨fun|101=>87|208=>147|206=>188|n=>n,fun|9=>9|4=>4|3=>3|n=>n,fun|n=>n⟩
theorem Tryz.lays101:Go.Proofs.Lays.n101 Tryz.prog Tryz.lays101_ren:={
 mixed:=by kernel_rfl
 f101:=Tryz.func87.trans (congrArg some (by kernel_rfl))
 f206:=Tryz.func188.trans (congrArg some (by kernel_rfl))
 f208:=Tryz.func147.trans (congrArg some (by kernel_rfl))
 t3:=Tryz.underlying3
 a3:=Tryz.isAgg3
 z3:=Tryz.sizeOf3
 v3:=Tryz.zeroValue3
 t4:=Tryz.underlying4
 a4:=Tryz.isAgg4
 z4:=Tryz.sizeOf4
 v4:=Tryz.zeroValue4
 t9:=Tryz.underlying9
 a9:=Tryz.isAgg9
 z9:=Tryz.sizeOf9
 v9:=Tryz.zeroValue9 }
open Go.RowKit Go.Lib in
theorem Tryz.strings_TrimPrefix (s p:ByteArray) (w:World):
    Calls Tryz.prog 87 #[.string s,.string p] w fun e w'=>e=.returned (.string ⟨(Lib.trimPrefix s.data.toList p.data.toList).toArray⟩)∧w'=w:=Any.strings_TrimPrefix Tryz.lays101 s p w
def Tryz.lays105_ren:Go.Shelf.Ren:=⟨fun|105=>210|212=>240|99=>241|165=>242|166=>209|170=>243|169=>211|263=>282|264=>283|206=>188|240=>239|241=>284|276=>281|277=>315|n=>n,fun|9=>9|3=>3|4=>4|20=>20|0=>0|46=>40|109=>293|5=>5|72=>265|76=>268|51=>329|146=>330|53=>299|148=>338|70=>263|37=>206|75=>267|127=>297|164=>335|80=>184|n=>n,fun|n=>n⟩
theorem Tryz.lays105:Go.Proofs.Lays.n105 Tryz.prog Tryz.lays105_ren:={
 mixed:=by kernel_rfl
 f99:=Tryz.func241.trans (congrArg some (by kernel_rfl))
 f105:=Tryz.func210.trans (congrArg some (by kernel_rfl))
 f165:=Tryz.func242.trans (congrArg some (by kernel_rfl))
 f166:=Tryz.func209.trans (congrArg some (by kernel_rfl))
 f169:=Tryz.func211.trans (congrArg some (by kernel_rfl))
 f170:=Tryz.func243.trans (congrArg some (by kernel_rfl))
 f206:=Tryz.func188.trans (congrArg some (by kernel_rfl))
 f212:=Tryz.func240.trans (congrArg some (by kernel_rfl))
 f240:=Tryz.func239.trans (congrArg some (by kernel_rfl))
 f241:=Tryz.func284.trans (congrArg some (by kernel_rfl))
 f263:=Tryz.func282.trans (congrArg some (by kernel_rfl))
 f264:=Tryz.func283.trans (congrArg some (by kernel_rfl))
 f276:=Tryz.func281.trans (congrArg some (by kernel_rfl))
 f277:=Tryz.func315.trans (congrArg some (by kernel_rfl))
 t0:=Tryz.underlying0
 a0:=Tryz.isAgg0
 z0:=Tryz.sizeOf0
 v0:=Tryz.zeroValue0
 t3:=Tryz.underlying3
 a3:=Tryz.isAgg3
 z3:=Tryz.sizeOf3
 v3:=Tryz.zeroValue3
 t4:=Tryz.underlying4
 a4:=Tryz.isAgg4
 z4:=Tryz.sizeOf4
 v4:=Tryz.zeroValue4
 t5:=Tryz.underlying5
 a5:=Tryz.isAgg5
 z5:=Tryz.sizeOf5
 v5:=Tryz.zeroValue5
 t9:=Tryz.underlying9
 a9:=Tryz.isAgg9
 z9:=Tryz.sizeOf9
 v9:=Tryz.zeroValue9
 t20:=Tryz.underlying20
 a20:=Tryz.isAgg20
 z20:=Tryz.sizeOf20
 v20:=Tryz.zeroValue20
 t37:=Tryz.underlying206
 a37:=Tryz.isAgg206
 z37:=Tryz.sizeOf206
 v37:=Tryz.zeroValue206
 t46:=Tryz.underlying40
 a46:=Tryz.isAgg40
 z46:=Tryz.sizeOf40
 v46:=Tryz.zeroValue40
 t51:=Tryz.underlying329
 a51:=Tryz.isAgg329
 z51:=Tryz.sizeOf329
 v51:=Tryz.zeroValue329
 t53:=Tryz.underlying299
 a53:=Tryz.isAgg299
 z53:=Tryz.sizeOf299
 v53:=Tryz.zeroValue299
 t70:=Tryz.underlying263
 a70:=Tryz.isAgg263
 z70:=Tryz.sizeOf263
 v70:=Tryz.zeroValue263
 t72:=Tryz.underlying265
 a72:=Tryz.isAgg265
 z72:=Tryz.sizeOf265
 v72:=Tryz.zeroValue265
 t75:=Tryz.underlying267
 a75:=Tryz.isAgg267
 z75:=Tryz.sizeOf267
 v75:=Tryz.zeroValue267
 t76:=Tryz.underlying268
 a76:=Tryz.isAgg268
 z76:=Tryz.sizeOf268
 v76:=Tryz.zeroValue268
 t109:=Tryz.underlying293
 a109:=Tryz.isAgg293
 z109:=Tryz.sizeOf293
 v109:=Tryz.zeroValue293
 t127:=Tryz.underlying297
 a127:=Tryz.isAgg297
 z127:=Tryz.sizeOf297
 v127:=Tryz.zeroValue297
 t146:=Tryz.underlying330
 a146:=Tryz.isAgg330
 z146:=Tryz.sizeOf330
 v146:=Tryz.zeroValue330
 t148:=Tryz.underlying338
 a148:=Tryz.isAgg338
 z148:=Tryz.sizeOf338
 v148:=Tryz.zeroValue338
 t164:=Tryz.underlying335
 a164:=Tryz.isAgg335
 z164:=Tryz.sizeOf335
 v164:=Tryz.zeroValue335 }
theorem Tryz.Builder_Extra_105:Builder.Extra Tryz.prog Tryz.lays105_ren:={
 sizeBuilder:=by kernel_rfl
 liesBuilder:=by kernel_rfl
 t5:=Tryz.underlying5
 a5:=Tryz.isAgg5
 z5:=Tryz.sizeOf5
 v5:=Tryz.zeroValue5
 infoByte:=by kernel_rfl
 cellsByte:=by kernel_rfl
 sizeByte:=by kernel_rfl
 neB5:=by decide }
open Go.RowKit Go.Lib in
theorem Tryz.strings_Repeat (s:ByteArray) (c:Nat) (w:World) (hc:c≤9223372036854775807) (hlen:s.size*c≤140737488355328):
    Calls Tryz.prog 210 #[.string s,.int .i64 c] w fun e w'=>e=.returned (.string ⟨(Lib.repeatL s.data.toList c).toArray⟩)∧Below w.heap.size w w':=Any.strings_Repeat Tryz.lays105 Tryz.Builder_Extra_105 s c w hc hlen
end Go.Proofs
end
section
namespace Go.Proofs.YtdlijlecpopadaaGreatDoor.Nu
open Go.Aw Go.Aw.D Go.Proofs Ty Go.Nu Go.RowKit Go.Sort
theorem qW{T e:TypeId}{B b:Nat}{bs:List Value}{w w':World}(h:Lib.IsBuilder T e B b bs w)(hb:Below w.heap.size w w'):Lib.IsBuilder T e B b bs w':=by
 have key:∀p,Lib.BuilderAt T e B b p bs w→Lib.BuilderAt T e B b p bs w':=by
   rintro p ⟨h1,v,h2,h3,h4⟩;refine⟨h1,v,?_,⟨h3.1,?_⟩,h4⟩
   · rw[hb.block b (Array.getElem?_eq_some_iff.1 h2).1];exact h2
   · rcases h3.2 with h5|⟨g,cap,cur,e1,e2,e3,e4⟩
     · exact .inl h5
     · exact .inr ⟨g,cap,cur,e1,e2,by rw[hb.block g (Array.getElem?_eq_some_iff.1 e3).1];exact e3,e4⟩
 exact h.imp (key _) (key _)
theorem lK{w:World}(k:Nat)(os:Array Obj):Below w.heap.size w (grow (w.drewN k) os):=by
 refine⟨rfl,rfl,rfl,?_,fun i hi=>?_⟩
 · simp[grow]
 · simp only[grow,World.heap_drewN]
   rw[Array.getElem?_append_left hi]
theorem FM{T e:TypeId}{B b:Nat}{l:List UInt8}{s:ByteArray}{w:World}(h:Lib.BuilderAt T e B b (.pointer (some ⟨b,0,none⟩)) (Lib.byteCells l++Lib.strCells s) w):Lib.IsBuilder T e B b (Lib.byteCells (l++bl s)) w:=by
 rw[Lib.strCells_eq,←Lib.byteCells_append]at h;exact .inr h
theorem qX(B b:Nat)(l:List UInt8)(s:ByteArray)(w:World)(h:Lib.IsBuilder 265 5 B b (Lib.byteCells l) w)(hlen:l.length+s.size≤140737488355328)(hBw:B≤w.heap.size):
   Calls Tryz.prog 209 #[.pointer (some ⟨b,0,none⟩),.string s] w fun e w'=>e=.returned (.tuple #[.int .i64 s.size,.nilIface])∧Lib.IsBuilder 265 5 B b (Lib.byteCells (l++bl s)) w'∧Below B w w':=
 (Any.Builder_WriteString (P:=Tryz.prog) (ρ:=Tryz.lays105_ren) { Tryz.lays105 with } Tryz.Builder_Extra_105 B b (Lib.byteCells l) s w h (by rw[Lib.byteCells_length];exact hlen) hBw).mono fun e w' ⟨he,hB,hb⟩=>⟨he,FM hB,hb⟩
theorem Vq{l:List Nat}(h:Lim bas l)(K:Nat)(hK:l.length≤K)(h1:1≤K):(Lib.decDigits (ofL bas l)).length≤9*K:=by
 refine(eW (by omega)).2 (Nat.lt_of_lt_of_le (mI (by decide) h) ?_);rw[show bas=10^9 from rfl,←Nat.pow_mul];exact Nat.pow_le_pow_right (by omega) (by omega)
def Da(n k:Nat):List UInt8:=Lib.decDigits (ofL bas ((aV bas n).drop k))
theorem N9{n k x:Nat}(hk:k+1<(aV bas n).length)(hx:(aV bas n)[k]?=some x):Da n k=Da n (k+1)++aaD x:=by
 have h1:=dH (b:=bas) (by decide) n x (List.mem_of_getElem? hx);unfold Da;rw[uW bas hx];exact P6 h1 (SX (by decide) hk)
set_option maxHeartbeats 1600000 in
theorem Iz (n:Nat) (w:World) (b o c:Nat) (hlen:(aV bas n).length≤1048576) (hpos:0<(aV bas n).length)
    (hz:∀(i x:Nat),(aV bas n)[i]?=some x→w.cell? ⟨b,o+i,none⟩=some (.int .i64 x)) (hb:b<w.heap.size)
    (htab:Lib.TabIs Tryz.prog w "internal/strconv.uint64pow10" .u64 Lib.pow10Tab):
    Calls Tryz.prog 165 #[.slice (some ⟨b,o,none⟩) (aV bas n).length c] w fun e w'=>e=.returned (.string (dec n))∧Below w.heap.size w w':=by
  obtain⟨L,hL⟩:∃L,(aV bas n).length=L:=⟨_,rfl⟩
  have h0:Lib.IsBuilder 265 5 w.heap.size w.heap.size (Lib.byteCells []) (w.alloc (.cells #[.pointer none,.slice none 0 0] 265)):=Lib.fresh_isBuilder 265 5 w
  have b0:Below w.heap.size w (w.alloc (.cells #[.pointer none,.slice none 0 0] 265)):=(Below.refl _ w).alloc (Nat.le_refl _) _
  obtain⟨x0,hx0⟩:=bC (show L-1<(aV bas n).length by omega)
  have hl0:=hz _ _ hx0
  have hb0:=dH (b:=bas) (by decide) n x0 (List.mem_of_getElem? hx0)
  have hb0:x0<1000000000:=hb0
  rw[hL]
  rw[hL]at hpos hlen
  have hL0:((L:Int) == 0)=false:=by rw[beq_eq_false_iff_ne];omega
  go_enter Tryz.func165,Tryz.ntmps165
  go_wp2_with (go_at_call 120;refine(Tryz.strconv_Itoa (x0:Int) (by omega) (by omega) _ (Lib.tabIs_alloc htab _)).mono ?_)
  rintro e W1 ⟨rfl,k,os,rfl⟩
  have b1:Below w.heap.size w (grow ((w.alloc (.cells #[.pointer none,.slice none 0 0] 265)).drewN k) os):=b0.trans ⟨rfl,rfl,rfl,(lK k os).size,fun i hi=>(lK k os).block i (Nat.lt_of_lt_of_le hi b0.size)⟩
  have h1:=qW h0 (lK k os)
  generalize grow _ os=W1 at *
  have hI:∀x:Nat,(Lib.itoa (x:Int))=Lib.decDigits x:=Lib.itoa_nonneg
  have hdl:∀x:Nat,x<1000000000→(Lib.decDigits x).length≤9:=fun x hx=>(eW (k:=9) (by omega)).2 hx
  have htop:Da n (L-1)=Lib.decDigits x0:=by
    unfold Da
    rw[uW bas hx0,show L-1+1=L by omega,←hL,List.drop_length]
    rfl
  have hsz0:(⟨(Lib.itoa (x0:Int)).toArray⟩:ByteArray).size≤9:=by rw[←bV,gM,hI];exact hdl _ hb0
  have cW:=qX w.heap.size w.heap.size [] _ W1 h1 (by simp only[List.length_nil];omega:([]:List UInt8).length+(⟨(Lib.itoa (x0:Int)).toArray⟩:ByteArray).size≤_) b1.size
  go_wp2_with (go_at_call 209;refine cW.mono ?_)
  rintro e W2 ⟨rfl,h2,b2⟩
  rw[List.nil_append,gM,hI,←htop]at h2
  have b2:=b1.trans b2
  have htl:∀k,(Da n k).length≤9437184:=fun k=>by
    have:=Vq ((dH (b:=bas) (by decide) n).drop k) 1048576 (by rw[List.length_drop,hL];omega) (by omega)
    unfold Da
    omega
  clear h0 b0 h1 b1 hsz0 htop
  go_wp2
  go_loopg [4] (L-1) (fun g s4 wx=>∃k:Nat,k≤L-1∧g=k∧s4=.int .i64 ((k:Int)-1)∧Lib.IsBuilder 265 5 w.heap.size w.heap.size (Lib.byteCells (Da n k)) wx∧Below w.heap.size w wx)
  case atStart=>exact⟨L-1,Nat.le_refl _,rfl,by congr 1;omega,h2,b2⟩
  clear h2 b2
  case round=>
    obtain⟨_,hk,rfl,rfl,hB,hbx⟩:=hrel
    cases gk with
    | zero=>
      have h00:Da n 0=Lib.decDigits n:=by unfold Da;rw[List.drop_zero,dM (by decide)]
      rw[h00]at hB
      have cS:=Tryz.Builder_String_any w.heap.size w.heap.size (Lib.decDigits n) wr hB hbx.size
      go_wp2_with (go_at_call 211;refine cS.mono ?_)
      rintro e W3 ⟨rfl,b3⟩
      go_wp2
      go_ret
      exact⟨rfl,hbx.trans b3⟩
    | succ i=>
      obtain⟨x,hx⟩:=bC (show i<(aV bas n).length by omega)
      have hl:=(hbx.cell hb).trans (hz i x hx)
      have hxb:x<1000000000:=dH (b:=bas) (by decide) n x (List.mem_of_getElem? hx)
      have hi1:(((i+1:Nat):Int)-1)=(i:Int):=by omega
      have hstep:=N9 (n:=n) (by omega) hx
      have htr:Lib.TabIs Tryz.prog wr "internal/strconv.uint64pow10" .u64 Lib.pow10Tab:=Go.Joins.tab_stays (g:=1) (by kernel_rfl) htab hbx (Nat.le_refl _)
      have hti:=htl (i+1)
      rw[hi1]
      go_wp2_with (go_at_call 120;refine(Tryz.strconv_Itoa (x:Int) (by omega) (by omega) _ htr).mono ?_)
      rintro e W1 ⟨rfl,k,os,rfl⟩
      have b1:Below w.heap.size w (grow (wr.drewN k) os):=hbx.trans ⟨rfl,rfl,rfl,(lK k os).size,fun i hi=>(lK k os).block i (Nat.lt_of_lt_of_le hi hbx.size)⟩
      have h1:=qW hB (lK k os)
      clear hB htr
      generalize grow _ os=W1 at *
      have hdx:=hdl x hxb
      rw[hI x]
      go_wp2_with (go_at_call 210;fail)
      have e9:(9:Int)-((Lib.decDigits x).length:Nat)=((9-(Lib.decDigits x).length:Nat):Int):=by omega
      rw[e9]
      refine(Tryz.strings_Repeat ⟨#[48]⟩ (9-(Lib.decDigits x).length) W1 (by omega) (by show 1*_≤_;omega)).mono ?_
      rintro e W3 ⟨rfl,b3⟩
      have h3:=qW h1 b3
      have b3:Below w.heap.size w W3:=b1.trans ⟨b3.os,b3.tape,b3.output,b3.size,fun i hi=>b3.block i (Nat.lt_of_lt_of_le hi b1.size)⟩
      have hrep:bl ⟨(Lib.repeatL (⟨#[48]⟩:ByteArray).data.toList (9-(Lib.decDigits x).length)).toArray⟩=List.replicate (9-(Lib.decDigits x).length) 48:=by
        rw[gM]
        have:=Lib.repeatL_replicate 48 1 (9-(Lib.decDigits x).length)
        rwa [Nat.mul_one]at this
      clear h1 b1
      generalize (⟨(Lib.repeatL (⟨#[48]⟩:ByteArray).data.toList (9-(Lib.decDigits x).length)).toArray⟩:ByteArray)=Z at *
      have hZ:Z.size≤9:=by rw[←bV,hrep,List.length_replicate];omega
      have cW:=qX w.heap.size w.heap.size _ Z W3 h3 (by omega) b3.size
      go_wp2_with (go_at_call 209;refine cW.mono ?_)
      rintro e W4 ⟨rfl,h4,b4⟩
      have b4:=b3.trans b4
      clear cW h3 b3
      have hX:(⟨(Lib.decDigits x).toArray⟩:ByteArray).size≤9:=by rw[←bV,gM];exact hdx
      have cW:=qX w.heap.size w.heap.size _ ⟨(Lib.decDigits x).toArray⟩ W4 h4 (by rw[List.length_append,bV];omega) b4.size
      go_wp2_with (go_at_call 209;refine cW.mono ?_)
      rintro e W5 ⟨rfl,h5,b5⟩
      have b5:=b4.trans b5
      rw[List.append_assoc,hrep,gM]at h5
      go_wp2
      go_roundg i
      case measure=>omega
      case rel=>exact⟨i,by omega,rfl,rfl,by rw[hstep];exact h5,b5⟩
theorem IT{S:Sg}{w:World}{b:Nat}:∀{l:List Nat} {o sz:Nat},0<sz→gC S w b sz o (l.map iD)→∀(i x:Nat),l[i]?=some x→w.cell? ⟨b,o+i,none⟩=some (.int .i64 x)
 | [],_,_,_,_,i,x,h=>by simp at h
 | y::l,o,sz,hp,h,i,x,hx=>by
   simp only[List.map_cons,gC]at h;obtain⟨h1,h2,h3⟩:=h;have h1:sz=1:=h1.symm;subst h1;cases i with
   | zero=>
     simp only[List.getElem?_cons_zero,Option.some.injEq]at hx;subst hx;simp only[iD,cJ]at h2;obtain⟨⟨u,hu,_,hr⟩,_⟩:=h2;simp only[rep]at hr;subst hr;exact hu
   | succ i=>
     have:=IT (by omega) h3 i x (by simpa using hx)
     rwa [Nat.add_assoc,Nat.add_comm 1 i]at this
theorem QT{w:World}(h:∀t∈NO,pK w t.1=some t.2):Lib.TabIs Tryz.prog w "internal/strconv.uint64pow10" .u64 Lib.pow10Tab:=by
 have h1:=h (1,Tl) (by simp[NO]);unfold Lib.TabIs World.var?;rw[show Tryz.prog.globalNamed "internal/strconv.uint64pow10" = some 1 by kernel_rfl];exact h1
theorem CI(n:Nat)(hlen:(aV bas n).length≤1048576):PC Tryz.prog 165 [nl n] (str (dec n)):=by
 by_cases h0:n=0
 · subst h0
   rw[FH];refine PC.body (c:=Tryz.f165.body.getD .skip) (fun _=>false) mixed Tryz.func165 rfl (by kernel_rfl) ?_;unfold Tryz.f165;simp only[Option.getD_some];simp only[go_sem];refine aA (fun h=>?_) (fun h=>by simp at h);simp only[go_sem];refine cS ?_;refine jG ?_;rw[fS,Lib.decDigits_one (by omega)];rfl
 · intro S w vals hS hf ha
   simp only[aS,rep]at ha;obtain⟨y,t,rfl,⟨ad,m,c,rfl,e1,e2,e3,e4⟩,rfl⟩:=ha;have hne:aV bas n≠[]:=fun e=>h0 ((oW (by decide)).1 e)
   have hpos:=List.length_pos_iff.2 hne;rw[List.length_map]at e1;rcases e4 with e4|⟨b,o,sz,rfl,hro,hsz,hels⟩
   · simp only[List.map_eq_nil_iff]at e4;exact absurd e4 hne
   · subst e1
     refine(Iz n w b o c hlen hpos (IT hsz hels) (hS.fz_lt b (hS.ro_fz b hro)) (QT fun t ht=>(hS.tabs t ht).2)).mono fun e w' ⟨he,hb⟩=>?_
     exact⟨_,_,bT,S,he,rfl,hS.after hb.size fun k hk=>hb.block k hk,by simp only[rep],hS.grow hb.os hb.tape hb.output hb.size fun k hk=>hb.block k hk,eC.refl _ _⟩
theorem zF(n:Nat)(hlen:(aV bas n).length≤1048576):PC Tryz.prog 146 [nl n] (.tup [str (szN n).1,int (szN n).2]):=by
 refine PC.body (c:=Tryz.f146.body.getD .skip) (fun _=>false) mixed Tryz.func146 rfl (by kernel_rfl) ?_;unfold Tryz.f146;simp only[Option.getD_some];simp only[go_sem];refine PC.use (CI n hlen) ?_;simp only[go_sem];have hsm:=fX n;refine aA (fun h=>?_) (fun h=>?_)
 · have h:4096<(dec n).size:=by simp at h;omega
   simp only[go_sem];rw[show szN n=(emp,4)from if_neg fun e=>by have:=hsm.2 e;omega];exact .refl _
 · have h:(dec n).size≤4096:=by simp at h;omega
   simp only[go_sem];rw[vH (hsm.1 h)];exact .refl _
end Go.Proofs.YtdlijlecpopadaaGreatDoor.Nu
end
section
namespace Go.Proofs.YtdlijlecpopadaaGreatDoor.Nu
open Go.Aw Go.Aw.D Go.Proofs Ty Go.Nu
theorem Kp{n K:Nat}(h:n<cC)(hK:PF≤9*K):(aV bas n).length≤K:=by
 refine kN (b:=bas) (k:=K) (by decide) (Nat.lt_of_lt_of_le h ?_);rw[show bas=10^9 from rfl,←Nat.pow_mul];exact Nat.pow_le_pow_right (show 0<10 by omega) hK
theorem jP{n:Nat}(h:n<cC):(aV bas n).length≤457:=Kp h (by decide)
theorem PP{H:aF}{o l:List Nat}(h:l=o):ConvE H (cL o).es (l.map iD):=h▸ConvE.refl _
theorem Fa:∀l:List Nat,kQ l=l.take (kQ l).length
 | []=>rfl
 | x::l=>by
   have ih:=Fa l;rw[kQ];split
   · split <;> rfl
   · rename_i y t e
     rw[e]at ih;simp only[List.length_cons,List.take_succ_cons]
     congr 1
theorem NS{l:List Nat}(h:l.length≤(kQ l).length):kQ l=l:=by
 rw[Fa l,List.take_of_length_le h]
theorem SF(a b:ByteArray)(ha:a.size≤1048576)(hb:b.size≤1048576):PC Tryz.prog 112 [str a,str b] (.tup [str (Lf a b).1,int (Lf a b).2]):=by
 refine PC.body (c:=Tryz.f112.body.getD .skip) (fun t=>t == 9) mixed Tryz.func112 rfl (by kernel_rfl) ?_;unfold Tryz.f112;simp only[Option.getD_some];simp only[go_sem];refine PC.use (Jw a b ha hb) ?_;simp only[go_sem];refine aA (fun h=>?_) (fun h=>?_)
 · have h:gX a b≠0:=by simpa using h
   simp only[go_sem];rw[show Lf a b=(emp,gX a b)from if_neg h];exact .refl _
 have h:gX a b=0:=by simpa using h
 obtain⟨m,n,rfl,rfl,hm,hn⟩:=nB h;have hml:=jP hm;have hnl:=jP hn;simp only[go_sem,BV h,bP];rw[show Lf (dec m) (dec n)=szN (m+n)by unfold Lf;rw[if_pos h,bP,bP]];have om:=dM (b:=bas) (by decide) m;have on:=dM (b:=bas) (by decide) n;have lm:=dH (b:=bas) (by decide) m;have ln:=dH (b:=bas) (by decide) n;have hxl:(aV bas m).length≤(aV bas m).length:=Nat.le_refl _;have hyl:(aV bas n).length≤(aV bas n).length:=Nat.le_refl _;obtain⟨x,hx⟩:∃x,aV bas m=x:=⟨_,rfl⟩;obtain⟨y,hy⟩:∃y,aV bas n=y:=⟨_,rfl⟩;have hxl:x.length≤(aV bas m).length:=by rw[hx];exact Nat.le_refl _
 have hyl:y.length≤(aV bas n).length:=by rw[hy];exact Nat.le_refl _
 rw[hx]at om lm hml;rw[hy]at on ln hnl;simp only[hx,hy];refine aN fun j hj=>?_
 refine⟨fun ρ H=>∃(i j c:Nat) (o:List Nat),i≤max x.length y.length+1∧ρ 6=.sl (x.map iD)∧ρ 7=.sl (y.map iD)∧ρ 9=.os j∧ρ 10=int c∧ρ 11=int i∧H j=some (cL o)∧Lim bas o∧o.length=i∧c≤1∧ofL bas o+bas^i*c=ofL bas (x.take i)+ofL bas (y.take i)∧(i=max x.length y.length+1→c=0∧bas^max x.length y.length≤m+n),fun ρ _=>max x.length y.length+1-bQ (ρ 11),
   ⟨0,j,0,[],Nat.zero_le _,by simp only[go_sem],by simp only[go_sem],by simp only[go_sem],by simp only[go_sem];rfl,by simp only[go_sem];rfl,GV,by simp[Lim],rfl,by omega,by simp[ofL],by omega⟩,?_⟩
 clear hj j;rintro ρ H ⟨i,j,c,o,hi,h6,h7,h9,h10,h11,Rj,ho,hol,hc,hv,hlast⟩;have hmax:kC (x.length:Int) (y.length:Int)=((max x.length y.length:Nat):Int):=by unfold kC;split <;> omega
 simp only[go_sem,h6,h7,h9,h10,h11,hmax];refine aA (fun hb=>?_) (fun hb=>?_)
 · have hb:i<max x.length y.length∨0<c:=by simpa using hb
   have hi2:i≤max x.length y.length:=by
     rcases hb with hb|hb
     · omega
     · rcases Nat.lt_or_ge (max x.length y.length) i with h|h
       · have:=(hlast (by omega)).1;omega
       · exact h
   have hxb:x.getD i 0<1000000000:=lm.getD (by decide) i;have hyb:y.getD i 0<1000000000:=ln.getD (by decide) i;have hst:=SV (b:=bas) (by decide) hol hv;have hnext:i+1=max x.length y.length+1→(x.getD i 0+y.getD i 0+c)/bas=0∧bas^max x.length y.length≤m+n:=fun e=>by
     have e:i=max x.length y.length:=by omega
     have hx0:x.getD i 0=0:=by simp[List.getD,List.getElem?_eq_none (by omega:x.length≤i)]
     have hy0:y.getD i 0=0:=by simp[List.getD,List.getElem?_eq_none (by omega:y.length≤i)]
     have hc1:c=1:=by omega
     rw[hx0,hy0,hc1];refine⟨by decide,?_⟩;rw[List.take_of_length_le (by omega),List.take_of_length_le (by omega),om,on,hc1,e]at hv;omega
   simp only[go_sem,h6,h7,h9,h10,h11];refine PC.use (KX x i (by omega)) ?_;simp only[go_sem,h6,h7,h9,h10,h11];refine PC.use (KX y i (by omega)) ?_;have e1:IntKind.i64.wrap (IntKind.i64.wrap (((x.getD i 0:Nat):Int)+((y.getD i 0:Nat):Int))+(c:Int))=((x.getD i 0+y.getD i 0+c:Nat):Int):=by
     rw[show IntKind.i64.wrap (((x.getD i 0:Nat):Int)+((y.getD i 0:Nat):Int))=((x.getD i 0:Nat):Int)+((y.getD i 0:Nat):Int)from aT (by omega),aT (by omega)];omega
   have e2:IntKind.i64.wrap ((((x.getD i 0+y.getD i 0+c:Nat):Int)).tdiv 1000000000)=(((x.getD i 0+y.getD i 0+c)/1000000000:Nat):Int):=by
     rw[Int.tdiv_eq_ediv_of_nonneg (by omega),aT (by omega)];omega
   have e3:(((x.getD i 0+y.getD i 0+c:Nat):Int)).tmod 1000000000=(((x.getD i 0+y.getD i 0+c)%1000000000:Nat):Int):=by
     rw[Int.tmod_eq_emod_of_nonneg (by omega)];omega
   have hq:(x.getD i 0+y.getD i 0+c)/1000000000≤1:=by omega
   simp only[go_sem,h6,h7,h9,h10,h11,e1,e2,e3];refine⟨by decide,?_⟩;refine bA Rj ⟨rfl,rfl⟩ ⟨rfl,trivial⟩ (by simp only[cL,List.length_map,List.length_cons,List.length_nil];omega) (fun j' hj'=>?_);simp only[go_sem,h6,h7,h9,h10,h11,e2,bG (show i≤4611686018427387904 by omega)];exact⟨by decide,⟨i+1,j',_,o++[(x.getD i 0+y.getD i 0+c)%bas],by omega,rfl,rfl,rfl,rZ,ho.snoc (Nat.mod_lt _ (by decide)),by simp[hol],hq,hst,hnext⟩,by simp only[aI];omega⟩
 · have hb : max x.length y.length ≤ i ∧ c = 0 := by
     simp at hb;omega
   obtain⟨hb,rfl⟩:=hb;rw[Nat.mul_zero,Nat.add_zero,List.take_of_length_le (by omega),List.take_of_length_le (by omega),om,on]at hv;have ht:=GC (b:=bas) (by decide) ho hv;have hlen:o.length≤(aV bas (m+n)).length:=by
     rcases Nat.lt_or_ge (max x.length y.length) i with h|h
     · have:=GP (b:=bas) (by decide) (hlast (by omega)).2
       omega
     · rw[hol,show i=max x.length y.length by omega]
       exact Nat.max_le.2 ⟨Nat.le_trans hxl (eA (by decide) (Nat.le_add_right m n)),Nat.le_trans hyl (eA (by decide) (Nat.le_add_left n m))⟩
   have hsame:aV bas (m+n)=o:=by
     rw[←ht];refine NS ?_;rw[ht] ;exact hlen
   simp only[go_sem,h6,h7,h9,h10,h11];refine PC.useF [j] (.cons _ _ _ _ (.row _ _ _ (by simp only[List.mem_singleton,if_true];exact Rj) (PP hsame)) .nil) (zF (m+n) (by rw[hsame];omega)) ?_;simp only[go_sem];exact .refl _
theorem SD(a b:ByteArray)(ha:a.size≤1048576)(hb:b.size≤1048576):PC Tryz.prog 113 [str a,str b] (.tup [str (Kv a b).1,int (Kv a b).2]):=by
 refine PC.body (c:=Tryz.f113.body.getD .skip) (fun _=>false) mixed Tryz.func113 rfl (by kernel_rfl) ?_;unfold Tryz.f113;simp only[Option.getD_some];simp only[go_sem];refine PC.use (Jw a b ha hb) ?_;simp only[go_sem];refine aA (fun h=>?_) (fun h=>?_)
 · have h:gX a b≠0:=by simpa using h
   simp only[go_sem];rw[show Kv a b=(emp,gX a b)from if_neg h];exact .refl _
 have h:gX a b=0:=by simpa using h
 obtain⟨m,n,rfl,rfl,hm,hn⟩:=nB h;have hml:=jP hm;have hnl:=jP hn;simp only[go_sem,BV h,bP];have e:Kv (dec m) (dec n)=if m<n then(emp,2)else szN (m-n):=by unfold Kv;rw[if_pos h,bP,bP]
 rw[e];refine PC.use (Ai m n (by omega) (by omega)) ?_;simp only[go_sem];refine aA (fun h2=>?_) (fun h2=>?_)
 · have hlt : m < n := by
     rcases Nat.lt_or_ge m n with h3|h3
     · exact h3
     · exfalso
       have h2:=of_decide_eq_true h2;unfold iC at h2;rw[if_neg (by omega)]at h2;split at h2 <;> omega
   simp only[go_sem];rw[if_pos hlt];exact .refl _
 · have hge:¬m<n:=fun h3=>of_decide_eq_false h2 (by rw[iX (by omega)];decide)
   simp only[go_sem];rw[if_neg hge];refine PC.use (Bi m n (by omega) (by omega)) ?_;simp only[go_sem];refine PC.use (zF (m-n) (by have:=eA (b:=bas) (by decide) (Nat.sub_le m n);omega)) ?_;simp only[go_sem];exact .refl _
theorem V9(a b:ByteArray)(ha:a.size≤1048576)(hb:b.size≤1048576):PC Tryz.prog 111 [str a,str b] (.tup [str (yX a b).1,str (yX a b).2.1,int (yX a b).2.2]):=by
 refine PC.body (c:=Tryz.f111.body.getD .skip) (fun _=>false) mixed Tryz.func111 rfl (by kernel_rfl) ?_;unfold Tryz.f111;simp only[Option.getD_some];simp only[go_sem];refine PC.use (Jw a b ha hb) ?_;simp only[go_sem];refine aA (fun h=>?_) (fun h=>?_)
 · have h:gX a b≠0:=by simpa using h
   simp only[go_sem];rw[show yX a b=(emp,emp,gX a b)from if_neg h];exact .refl _
 have h:gX a b=0:=by simpa using h
 obtain⟨m,n,rfl,rfl,hm,hn⟩:=nB h;have hml:=jP hm;have hnl:=jP hn;simp only[go_sem,BV h,bP,List.length_map];have e:yX (dec m) (dec n)=if n=0 then(emp,emp,10)else(dec (m/n),dec (m%n),0):=by unfold yX;rw[if_pos h,bP,bP]
 rw[e];refine aA (fun h2=>?_) (fun h2=>?_)
 · have h0:n=0:=(oW (b:=bas) (by decide)).1 (by simpa using h2)
   simp only[go_sem];rw[if_pos h0];exact .refl _
 · have h0:n≠0:=fun e=>by subst e;rw[dQ]at h2;simp at h2
   simp only[go_sem];rw[if_neg h0];refine PC.use (Kf m n (by omega) (by omega) (by omega)) ?_;simp only[go_sem];refine PC.use (CI (m/n) (by have:=eA (b:=bas) (by decide) (Nat.div_le_self m n);omega)) ?_;simp only[go_sem];refine PC.use (CI (m%n) (by have:=eA (b:=bas) (by decide) (Nat.mod_le m n);omega)) ?_;simp only[go_sem];exact .refl _
theorem Q2(a b:ByteArray)(ha:a.size≤1048576)(hb:b.size≤1048576):PC Tryz.prog 86 [str a,str b] (.tup [str (wA a b).1,int (wA a b).2]):=by
 refine PC.body (c:=Tryz.f86.body.getD .skip) (fun _=>false) mixed Tryz.func86 rfl (by kernel_rfl) ?_;unfold Tryz.f86;simp only[Option.getD_some];simp only[go_sem];refine PC.use (Jw a b ha hb) ?_;simp only[go_sem];refine aA (fun h=>?_) (fun h=>?_)
 · have h:gX a b≠0:=by simpa using h
   simp only[go_sem];rw[show wA a b=(emp,gX a b)from if_neg h];exact .refl _
 have h:gX a b=0:=by simpa using h
 obtain⟨m,n,rfl,rfl,hm,hn⟩:=nB h;have hml:=jP hm;have hnl:=jP hn;simp only[go_sem,BV h,bP];have e:wA (dec m) (dec n)=szN (Nat.gcd m n):=by unfold wA;rw[if_pos h,bP,bP]
 rw[e];refine⟨fun ρ _=>∃p q:Nat,ρ 6=nl p∧ρ 7=nl q∧(aV bas p).length≤457∧(aV bas q).length≤457∧Nat.gcd p q=Nat.gcd m n,fun ρ _=>match ρ 7 with| .sl es=>ofL bas (es.map fun c=>bQ (c.getD 0 .any))|_=>0,⟨m,n,by simp only[go_sem],by simp only[go_sem],hml,hnl,rfl⟩,?_⟩;rintro ρ H ⟨p,q,h6,h7,hpl,hql,hg⟩;have hμ:∀q:Nat,ofL bas (((aV bas q).map iD).map fun c=>bQ (c.getD 0 .any))=q:=fun q=>by
   rw[List.map_map,show((fun c:List AV=>bQ (c.getD 0 .any)) ∘ iD)=id from funext fun n=>by simp[iD,bQ],List.map_id,dM (by decide)]
 simp only[go_sem,h6,h7,List.length_map];refine aA (fun hb=>?_) (fun hb=>?_)
 · have hq : 0 < q := by
     rcases Nat.eq_zero_or_pos q with h0|h0
     · subst h0;rw[dQ]at hb;simp at hb
     · exact h0
   simp only[go_sem,h6,h7];refine PC.use (Kf p q (by omega) hq (by omega)) ?_;simp only[go_sem,h6,h7];refine⟨⟨q,p%q,rfl,rfl,hql,Nat.le_trans (eA (by decide) (Nat.le_of_lt (Nat.mod_lt p hq))) hql,?_⟩,?_⟩
   · rw[←hg,Nat.gcd_comm p q,Nat.gcd_rec q p,Nat.gcd_comm]
   · rw[hμ,hμ];exact Nat.mod_lt p hq
 · have hq : q = 0 := by
     have:(aV bas q).length=0:=by simp at hb;simpa using hb
     exact(oW (b:=bas) (by decide)).1 (List.eq_nil_of_length_eq_zero this)
   subst hq;simp only[go_sem,h6,h7];rw[Nat.gcd_zero_right]at hg;rw[←hg];refine PC.use (zF p (by omega)) ?_;simp only[go_sem];exact .refl _
theorem TX{b:Nat}(hb:0<b){l:List Nat}{q p:Nat}(h:ofL b l<b^q)(hp:q≤p)(hl:p<l.length):l[p]?=some 0:=by
 obtain⟨x,hx⟩:=bC hl;rcases Nat.eq_zero_or_pos x with h0|h0
 · rw[hx,h0]
 · exfalso
   have e1:ofL b l=ofL b (l.take p)+b^p*ofL b (l.drop p):=by
     have:=mY b (l.take p) (l.drop p);rw[List.take_append_drop,List.length_take,Nat.min_eq_left (by omega)]at this;exact this
   rw[uW b hx]at e1;have h1:b^p*1≤b^p*(x+b*ofL b (l.drop (p+1))):=Nat.mul_le_mul_left _ (by omega);have h2:b^q≤b^p:=Nat.pow_le_pow_right hb hp;omega
theorem Xz(a b:ByteArray)(ha:a.size≤1048576)(hb:b.size≤1048576):PC Tryz.prog 214 [str a,str b] (.tup [str (KT a b).1,int (KT a b).2]):=by
 refine PC.body (c:=Tryz.f214.body.getD .skip) (fun t=>t == 9) mixed Tryz.func214 rfl (by kernel_rfl) ?_;unfold Tryz.f214;simp only[Option.getD_some];simp only[go_sem];refine PC.use (Jw a b ha hb) ?_;simp only[go_sem];refine aA (fun h=>?_) (fun h=>?_)
 · have h:gX a b≠0:=by simpa using h
   simp only[go_sem];rw[show KT a b=(emp,gX a b)from if_neg h];exact .refl _
 have h:gX a b=0:=by simpa using h
 obtain⟨m,n,rfl,rfl,hm,hn⟩:=nB h;have hml:=jP hm;have hnl:=jP hn;simp only[go_sem,BV h,bP,List.length_map];rw[show KT (dec m) (dec n)=szN (m*n)by unfold KT;rw[if_pos h,bP,bP]];have om:=dM (b:=bas) (by decide) m;have on:=dM (b:=bas) (by decide) n;have lm:=dH (b:=bas) (by decide) m;have ln:=dH (b:=bas) (by decide) n;have hmn:(aV bas (m*n)).length≤(aV bas m).length+(aV bas n).length:=by
   refine kN (by decide) ?_;have h1:=mI (b:=bas) (by decide) lm;have h2:=mI (b:=bas) (by decide) ln;rw[om]at h1;rw[on]at h2;rw[Nat.pow_add];exact Nat.mul_lt_mul'' h1 h2
 obtain⟨x,hx⟩:∃x,aV bas m=x:=⟨_,rfl⟩;obtain⟨y,hy⟩:∃y,aV bas n=y:=⟨_,rfl⟩;rw[hx]at om lm hml hmn;rw[hy]at on ln hnl hmn;have ew:IntKind.i64.wrap ((x.length:Int)+(y.length:Int))=((x.length+y.length:Nat):Int):=by rw[aT (by omega)];omega
 simp only[hx,hy,ew];refine⟨by omega,aN fun j hj=>?_⟩;simp only[go_sem];refine⟨fun ρ H=>∃(i:Nat) (out:List Nat),i≤x.length∧ρ 7=.sl (y.map iD)∧ρ 9=.os j∧ρ 32=.sl (x.map iD)∧ρ 33=int x.length∧ρ 34=int i∧H j=some (cL out)∧Lim bas out∧out.length=x.length+y.length∧ofL bas out=ofL bas (x.take i)*ofL bas y,fun ρ _=>x.length-bQ (ρ 34),
   ⟨0,List.replicate (x.length+y.length) 0,Nat.zero_le _,by simp only[go_sem],by simp only[go_sem],by simp only[go_sem],by simp only[go_sem,List.length_map],by simp only[go_sem];rfl,?_,Lim.zeros (by decide) _,by simp,by simp[ofL,Ol]⟩,?_⟩
 · rw[aB]
   simp only[cL,List.map_replicate,DD];rfl
 clear hj;rintro ρ H ⟨i,out,hi,h7,h9,h32,h33,h34,Rj,ho,hol,hv⟩;simp only[go_sem,h7,h9,h32,h33,h34];refine aA (fun hlt=>?_) (fun hge=>?_)
 · have hlt:=ltB hlt
   obtain⟨xi,hxi⟩:=bC hlt;have b1:=inB hlt;have hxb:xi<1000000000:=lm xi (List.mem_of_getElem? hxi);have hz0:out[i+y.length]?=some 0:=by
     refine TX (b:=bas) (by decide) (q:=i+y.length) ?_ (Nat.le_refl _) (by omega);rw[hv,Nat.pow_add];have h1:=mI (b:=bas) (by decide) (lm.take i);rw[List.length_take,Nat.min_eq_left hi]at h1;exact Nat.mul_lt_mul'' h1 (mI (b:=bas) (by decide) ln)
   simp only[go_sem,h7,h9,h32,h33,h34,aH hxi,b1,List.length_map];refine⟨fun ρ H=>∃(k c:Nat) (o:List Nat),k≤y.length∧ρ 7=.sl (y.map iD)∧ρ 9=.os j∧ρ 10=int i∧ρ 11=int xi∧ρ 12=int c∧ρ 32=.sl (x.map iD)∧ρ 33=int x.length∧ρ 34=int i∧ρ 39=.sl (y.map iD)∧ρ 40=int y.length∧ρ 41=int k∧H j=some (cL o)∧Lim bas o∧o.length=x.length+y.length∧c<1000000000∧ofL bas o+bas^(i+k)*c=ofL bas out+bas^i*(xi*ofL bas (y.take k))∧o[i+y.length]?=some 0,fun ρ _=>y.length-bQ (ρ 41),
     ⟨0,0,out,Nat.zero_le _,by simp only[go_sem,h7],by simp only[go_sem,h9],by simp only[go_sem],by simp only[go_sem],by simp only[go_sem];rfl,by simp only[go_sem,h32],by simp only[go_sem,h33],by simp only[go_sem,h34],by simp only[go_sem,h7],by simp only[go_sem,List.length_map],by simp only[go_sem];rfl,Rj,ho,hol,by omega,by simp[ofL],hz0⟩,?_⟩
   clear h7 h9 h32 h33 h34 Rj;rintro ρ H ⟨k,c,o,hk,h7,h9,h10,h11,h12,h32,h33,h34,h39,h40,h41,Rj,hO,hoL,hc,hV,hZ⟩;simp only[go_sem,h7,h9,h10,h11,h12,h32,h33,h34,h39,h40,h41];refine aA (fun hlt2=>?_) (fun hge2=>?_)
   · have hlt2:=ltB hlt2
     obtain⟨yk,hyk⟩:=bC hlt2;have b2:=inB hlt2;have hyb:yk<1000000000:=ln yk (List.mem_of_getElem? hyk);obtain⟨v,hov⟩:=bC (show i+k<o.length by omega);have hvb:v<1000000000:=hO v (List.mem_of_getElem? hov);have b3:0≤((i+k:Nat):Int)∧((i+k:Nat):Int)<((cL o).es.length:Nat):=by
       simp only[cL,List.length_map];omega
     have ei:IntKind.i64.wrap ((i:Int)+(k:Int))=((i+k:Nat):Int):=by rw[aT (by omega)];omega
     have hog:(cL o).es.getD (i+k) []=iD v:=aH hov;have hmul:xi*yk≤999999999*999999999:=Nat.mul_le_mul (by omega) (by omega);have hst:=S6 (b:=bas) (by decide) hov hyk hV;have e1:IntKind.i64.wrap (IntKind.i64.wrap ((v:Int)+IntKind.i64.wrap ((xi:Int)*(yk:Int)))+(c:Int))=((v+xi*yk+c:Nat):Int):=by
       rw[show(xi:Int)*(yk:Int)=((xi*yk:Nat):Int)from(Int.natCast_mul xi yk).symm];generalize xi*yk=p at *;rw[show IntKind.i64.wrap (p:Int)=(p:Int)from aT (by omega),show IntKind.i64.wrap ((v:Int)+(p:Int))=(v:Int)+p from aT (by omega),aT (by omega)];omega
     have hq:(v+xi*yk+c)/1000000000<1000000000:=by omega
     have e2:IntKind.i64.wrap ((((v+xi*yk+c:Nat):Int)).tdiv 1000000000)=(((v+xi*yk+c)/1000000000:Nat):Int):=by
       generalize v+xi*yk+c=p at *;rw[Int.tdiv_eq_ediv_of_nonneg (by omega),aT (by omega)];omega
     have e3:(((v+xi*yk+c:Nat):Int)).tmod 1000000000=(((v+xi*yk+c)%1000000000:Nat):Int):=by
       rw[Int.tmod_eq_emod_of_nonneg (by omega)];omega
     simp only[go_sem,h7,h9,h10,h11,h12,h32,h33,h34,h39,h40,h41,aH hyk,b2,ei,Rj,b3,hog,e1,e2,e3];have hlen:i+k<(cL o).es.length:=by simp only[cL,List.length_map];omega
     refine⟨rfl,⟨hlen,Nat.zero_lt_one⟩,by decide,rfl,dU so3 Rj ⟨hlen,rfl,Nat.le_refl 1⟩ ?_⟩;generalize hP:aJ H j _=HP;have Rj':HP j=some (cL (o.set (i+k) ((v+xi*yk+c)%bas))):=by
       rw[←hP,aB];exact congrArg some (Bp (q:=(v+xi*yk+c)%bas) hov)
     clear hP Rj;simp only[go_sem,h7,h9,h10,h11,h12,h32,h33,h34,h39,h40,h41,e2,bG (show k≤4611686018427387904 by omega)];refine⟨by decide,⟨k+1,_,_,hlt2,rfl,rfl,Rj',hO.set (Nat.mod_lt _ (by decide)),by simp[hoL],hq,hst,?_⟩,by simp only[aI];omega⟩;rw[List.getElem?_set_ne (by omega)];exact hZ
   · have hge2:=geB hk hge2
     subst hge2;have ei:IntKind.i64.wrap ((i:Int)+(y.length:Int))=((i+y.length:Nat):Int):=by rw[aT (by omega)];omega
     have hlen:i+y.length<(cL o).es.length:=by simp only[cL,List.length_map];omega
     have b3:0≤((i+y.length:Nat):Int)∧((i+y.length:Nat):Int)<((cL o).es.length:Nat):=by omega
     have hog:(cL o).es.getD (i+y.length) []=iD 0:=aH hZ;have e1:IntKind.i64.wrap (((0:Nat):Int)+(c:Int))=(c:Int):=by rw[aT (by omega)];omega
     simp only[go_sem,h7,h9,h10,h11,h12,h32,h33,h34,h39,h40,h41,List.length_map,ei,Rj,b3,hog,e1];refine⟨rfl,⟨hlen,Nat.zero_lt_one⟩,rfl,dU so3 Rj ⟨hlen,rfl,Nat.le_refl 1⟩ ?_⟩;generalize hP:aJ H j _=HP;have Rj':HP j=some (cL (o.set (i+y.length) c)):=by
       rw[←hP,aB];exact congrArg some (Bp (q:=c) hZ)
     clear hP Rj;have hrow:=T0 (b:=bas) hZ hV;simp only[go_sem,h7,h9,h10,h11,h12,h32,h33,h34,h39,h40,h41,bG (show i≤4611686018427387904 by omega)];refine⟨⟨i+1,_,hlt,rfl,Rj',hO.set hc,by simp[hoL],?_⟩,by simp only[aI];omega⟩;rw[hrow,hv,jQ bas hxi,Nat.add_mul,Nat.mul_assoc]
 · have hge:=geB hi hge
   subst hge;simp only[go_sem,h9];rw[List.take_length,om,on]at hv;refine PC.useF [j] (.cons _ _ _ _ (.row _ _ _ (by simp only[List.mem_singleton,if_true];exact Rj) (ConvE.refl _)) .nil) (D6 ho (by omega) hv) ?_;simp only[go_sem];refine PC.use (zF (m*n) (by omega)) ?_;simp only[go_sem];exact .refl _
end Go.Proofs.YtdlijlecpopadaaGreatDoor.Nu
end
