/-
DERIVED: THE SHELF's CONTRACTS AT THIS DUMP, IN PLAIN WORDS (tools/lay-plain.mjs out of 'YthbhbkjkclhkgaaGreatDoorSLa.lean', which tools/lay-shelf.mjs wrote): THE SAME DECLARATIONS UNDER THE SAME NAMES: 'import', 'namespace', 'open', 'def', 'theorem' AND NOTHING ELSE: no command of the shelf's: FOR A HAND-IN. Each laying: the table of numbers ('.._ren') and one theorem, a field a fact of the dump's own or the kernel's comparison; each contract: ONE APPLICATION.
-/
import Derived.Shelf.Small.Wraps
import Derived.Shelf.LaysM
import Derived.Shelf.Strconv.Itoa3
import Derived.Shelf.Strings.Prefix
import Derived.Shelf.Strings.SlTrimAscii
import Derived.Test.YthbhbkjkclhkgaaGreatDoorProg
namespace Go.Proofs
open Go.Shelf
def Tryz.lays103_ren:Go.Shelf.Ren:=⟨fun|103=>260|210=>351|206=>439|n=>n,fun|9=>9|4=>4|24=>367|3=>3|n=>n,fun|n=>n⟩
theorem Tryz.lays103:Go.Proofs.Lays.n103 Tryz.prog Tryz.lays103_ren:={
 mixed:=by kernel_rfl
 f103:=Tryz.func260.trans (congrArg some (by kernel_rfl))
 f206:=Tryz.func439.trans (congrArg some (by kernel_rfl))
 f210:=Tryz.func351.trans (congrArg some (by kernel_rfl))
 t3:=Tryz.underlying3
 a3:=Tryz.isAgg3
 z3:=Tryz.sizeOf3
 v3:=Tryz.zeroValue3
 t4:=Tryz.underlying4
 a4:=Tryz.isAgg4
 z4:=Tryz.sizeOf4
 v4:=Tryz.zeroValue4
 t9:=Tryz.underlying9
 a9:=Tryz.isAgg9
 z9:=Tryz.sizeOf9
 v9:=Tryz.zeroValue9
 t24:=Tryz.underlying367
 a24:=Tryz.isAgg367
 z24:=Tryz.sizeOf367
 v24:=Tryz.zeroValue367 }
open Go.RowKit in
/-- strings.CutPrefix: "CutPrefix returns s without the provided leading prefix string and reports whether it found the prefix. If s doesn't start with prefix, CutPrefix returns s, false. If prefix is the empty string, CutPrefix returns s, true.": IT RETURNS '(Lib.trimPrefix s p, Lib.hasPrefix s p)'; the world is as it was. (LAID: no walk: one application.) -/
theorem Tryz.strings_CutPrefix(s p:ByteArray)(w:World) :
 Calls Tryz.prog 260 #[.string s,.string p] w fun e w'=>e=.returned (.tuple #[.string ⟨(Lib.trimPrefix s.data.toList p.data.toList).toArray⟩,.bool (Lib.hasPrefix s.data.toList p.data.toList)])∧w'=w:=Any.strings_CutPrefix Tryz.lays103 s p w
def Tryz.laysM171_ren:Go.Shelf.Ren:=⟨fun|171=>259|243=>350|246=>438|283=>495|284=>496|285=>497|286=>498|129=>372|317=>513|318=>514|319=>515|320=>516|337=>524|338=>525|n=>n,fun|3=>3|9=>9|2=>2|4=>4|171=>509|0=>0|53=>149|37=>34|5=>5|173=>511|212=>522|51=>279|20=>20|213=>523|46=>150|232=>530|233=>531|n=>n,fun|17=>1|18=>5|19=>6|n=>n⟩
theorem Tryz.laysM171:Go.Proofs.LaysM.n171 Tryz.prog Tryz.laysM171_ren:={
 mixed:=by kernel_rfl
 f129:=Tryz.func372.trans (congrArg some (by kernel_rfl))
 f171:=Tryz.func259.trans (congrArg some (by kernel_rfl))
 f243:=Tryz.func350.trans (congrArg some (by kernel_rfl))
 f246:=Tryz.func438.trans (congrArg some (by kernel_rfl))
 f283:=Tryz.func495.trans (congrArg some (by kernel_rfl))
 f284:=Tryz.func496.trans (congrArg some (by kernel_rfl))
 f285:=Tryz.func497.trans (congrArg some (by kernel_rfl))
 f286:=Tryz.func498.trans (congrArg some (by kernel_rfl))
 f317:=Tryz.func513.trans (congrArg some (by kernel_rfl))
 f318:=Tryz.func514.trans (congrArg some (by kernel_rfl))
 f319:=Tryz.func515.trans (congrArg some (by kernel_rfl))
 f320:=Tryz.func516.trans (congrArg some (by kernel_rfl))
 f337:=Tryz.func524.trans (congrArg some (by kernel_rfl))
 f338:=Tryz.func525.trans (congrArg some (by kernel_rfl))
 t0:=Tryz.underlying0
 a0:=Tryz.isAgg0
 z0:=Tryz.sizeOf0
 v0:=Tryz.zeroValue0
 t2:=Tryz.underlying2
 a2:=Tryz.isAgg2
 z2:=Tryz.sizeOf2
 v2:=Tryz.zeroValue2
 t3:=Tryz.underlying3
 a3:=Tryz.isAgg3
 z3:=Tryz.sizeOf3
 v3:=Tryz.zeroValue3
 t4:=Tryz.underlying4
 a4:=Tryz.isAgg4
 z4:=Tryz.sizeOf4
 v4:=Tryz.zeroValue4
 t5:=Tryz.underlying5
 a5:=Tryz.isAgg5
 z5:=Tryz.sizeOf5
 v5:=Tryz.zeroValue5
 t9:=Tryz.underlying9
 a9:=Tryz.isAgg9
 z9:=Tryz.sizeOf9
 v9:=Tryz.zeroValue9
 t20:=Tryz.underlying20
 a20:=Tryz.isAgg20
 z20:=Tryz.sizeOf20
 v20:=Tryz.zeroValue20
 t37:=Tryz.underlying34
 a37:=Tryz.isAgg34
 z37:=Tryz.sizeOf34
 v37:=Tryz.zeroValue34
 t46:=Tryz.underlying150
 a46:=Tryz.isAgg150
 z46:=Tryz.sizeOf150
 v46:=Tryz.zeroValue150
 t51:=Tryz.underlying279
 a51:=Tryz.isAgg279
 z51:=Tryz.sizeOf279
 v51:=Tryz.zeroValue279
 t53:=Tryz.underlying149
 a53:=Tryz.isAgg149
 z53:=Tryz.sizeOf149
 v53:=Tryz.zeroValue149
 t171:=Tryz.underlying509
 a171:=Tryz.isAgg509
 z171:=Tryz.sizeOf509
 v171:=Tryz.zeroValue509
 t173:=Tryz.underlying511
 a173:=Tryz.isAgg511
 z173:=Tryz.sizeOf511
 v173:=Tryz.zeroValue511
 t212:=Tryz.underlying522
 a212:=Tryz.isAgg522
 z212:=Tryz.sizeOf522
 v212:=Tryz.zeroValue522
 t213:=Tryz.underlying523
 a213:=Tryz.isAgg523
 z213:=Tryz.sizeOf523
 t232:=Tryz.underlying530
 a232:=Tryz.isAgg530
 z232:=Tryz.sizeOf530
 v232:=Tryz.zeroValue530
 t233:=Tryz.underlying531
 a233:=Tryz.isAgg531
 z233:=Tryz.sizeOf531
 v233:=Tryz.zeroValue531
 g17:=by kernel_rfl
 g18:=by kernel_rfl
 g19:=by kernel_rfl
 i0:=by kernel_rfl
 i2:=by kernel_rfl
 i3:=by kernel_rfl
 i4:=by kernel_rfl
 i5:=by kernel_rfl
 i9:=by kernel_rfl
 i20:=by kernel_rfl
 i37:=by kernel_rfl
 i46:=by kernel_rfl
 i51:=by kernel_rfl
 i53:=by kernel_rfl
 i171:=by kernel_rfl
 i173:=by kernel_rfl
 i212:=by kernel_rfl
 i232:=by kernel_rfl
 i233:=by kernel_rfl
 m17:=by kernel_rfl
 m18:=by kernel_rfl
 m19:=by kernel_rfl }
open Go.RowKit Go.Sort Go.Lib in
/-- strconv.Itoa: "Itoa is equivalent to FormatInt(int64(i), 10).": i's DECIMAL NUMERAL ('Lib.itoa': a '-' where i is negative, then the digits), FOR EVERY int. The world behind the call: the world before it, new blocks behind the heap (the library's 'var a [24]byte'), draws. (LAID: no walk: one application.) -/
theorem Tryz.strconv_Itoa(n:Int)(h0 : -9223372036854775808≤n)(h1:n≤9223372036854775807)(w:World)(htab:Lib.TabIs Tryz.prog w "internal/strconv.uint64pow10" .u64 Lib.pow10Tab) :
 Calls Tryz.prog 259 #[.int .i64 n] w fun e w'=>e=.returned (.string ⟨(Lib.itoa n).toArray⟩)∧∃k os,w'=grow (w.drewN k) os:=Any.strconv_Itoa Tryz.laysM171 n h0 h1 w htab
def Tryz.lays160_ren:Go.Shelf.Ren:=⟨fun|160=>261|232=>353|231=>352|227=>354|234=>356|233=>355|236=>358|235=>357|228=>440|271=>443|151=>442|197=>441|120=>501|152=>500|260=>499|137=>517|119=>518|224=>519|225=>520|217=>526|266=>527|n=>n,fun|9=>9|4=>4|3=>3|5=>5|117=>434|116=>433|0=>0|124=>437|21=>21|105=>482|46=>150|119=>524|139=>527|138=>526|n=>n,fun|3=>2|4=>3|n=>n⟩
theorem Tryz.lays160:Go.Proofs.Lays.n160 Tryz.prog Tryz.lays160_ren:={
 mixed:=by kernel_rfl
 f119:=Tryz.func518.trans (congrArg some (by kernel_rfl))
 f120:=Tryz.func501.trans (congrArg some (by kernel_rfl))
 f137:=Tryz.func517.trans (congrArg some (by kernel_rfl))
 f151:=Tryz.func442.trans (congrArg some (by kernel_rfl))
 f152:=Tryz.func500.trans (congrArg some (by kernel_rfl))
 f160:=Tryz.func261.trans (congrArg some (by kernel_rfl))
 f197:=Tryz.func441.trans (congrArg some (by kernel_rfl))
 f217:=Tryz.func526.trans (congrArg some (by kernel_rfl))
 f224:=Tryz.func519.trans (congrArg some (by kernel_rfl))
 f225:=Tryz.func520.trans (congrArg some (by kernel_rfl))
 f227:=Tryz.func354.trans (congrArg some (by kernel_rfl))
 f228:=Tryz.func440.trans (congrArg some (by kernel_rfl))
 f231:=Tryz.func352.trans (congrArg some (by kernel_rfl))
 f232:=Tryz.func353.trans (congrArg some (by kernel_rfl))
 f233:=Tryz.func355.trans (congrArg some (by kernel_rfl))
 f234:=Tryz.func356.trans (congrArg some (by kernel_rfl))
 f235:=Tryz.func357.trans (congrArg some (by kernel_rfl))
 f236:=Tryz.func358.trans (congrArg some (by kernel_rfl))
 f260:=Tryz.func499.trans (congrArg some (by kernel_rfl))
 f266:=Tryz.func527.trans (congrArg some (by kernel_rfl))
 f271:=Tryz.func443.trans (congrArg some (by kernel_rfl))
 t0:=Tryz.underlying0
 a0:=Tryz.isAgg0
 z0:=Tryz.sizeOf0
 v0:=Tryz.zeroValue0
 t3:=Tryz.underlying3
 a3:=Tryz.isAgg3
 z3:=Tryz.sizeOf3
 v3:=Tryz.zeroValue3
 t4:=Tryz.underlying4
 a4:=Tryz.isAgg4
 z4:=Tryz.sizeOf4
 v4:=Tryz.zeroValue4
 t5:=Tryz.underlying5
 a5:=Tryz.isAgg5
 z5:=Tryz.sizeOf5
 v5:=Tryz.zeroValue5
 t9:=Tryz.underlying9
 a9:=Tryz.isAgg9
 z9:=Tryz.sizeOf9
 v9:=Tryz.zeroValue9
 t21:=Tryz.underlying21
 a21:=Tryz.isAgg21
 z21:=Tryz.sizeOf21
 v21:=Tryz.zeroValue21
 t46:=Tryz.underlying150
 a46:=Tryz.isAgg150
 z46:=Tryz.sizeOf150
 v46:=Tryz.zeroValue150
 t105:=Tryz.underlying482
 a105:=Tryz.isAgg482
 z105:=Tryz.sizeOf482
 v105:=Tryz.zeroValue482
 t116:=Tryz.underlying433
 a116:=Tryz.isAgg433
 z116:=Tryz.sizeOf433
 t117:=Tryz.underlying434
 a117:=Tryz.isAgg434
 z117:=Tryz.sizeOf434
 v117:=Tryz.zeroValue434
 t119:=Tryz.underlying524
 a119:=Tryz.isAgg524
 z119:=Tryz.sizeOf524
 t124:=Tryz.underlying437
 a124:=Tryz.isAgg437
 z124:=Tryz.sizeOf437
 v124:=Tryz.zeroValue437
 t138:=Tryz.underlying526
 a138:=Tryz.isAgg526
 z138:=Tryz.sizeOf526
 v138:=Tryz.zeroValue526
 t139:=Tryz.underlying527
 a139:=Tryz.isAgg527
 z139:=Tryz.sizeOf527
 v139:=Tryz.zeroValue527
 g3:=by kernel_rfl
 g4:=by kernel_rfl }
theorem Tryz.strings_Trim(s cutset:ByteArray)(w:World)(hs:s.size≤9223372036854775807)(hcs:cutset.size<4294967281)
 (hascii:∀(j:Nat) b,cutset.data.toList[j]? = some b→b.toNat<128) :
 Calls Tryz.prog 261 #[.string s,.string cutset] w fun e w'=>e=.returned (.string ⟨(Lib.trimS s.data.toList cutset.data.toList).toArray⟩)∧Go.RowKit.Below w.heap.size w w':=Any.strings_Trim_laid Tryz.lays160 (by kernel_rfl) s cutset w hs hcs hascii
end Go.Proofs
