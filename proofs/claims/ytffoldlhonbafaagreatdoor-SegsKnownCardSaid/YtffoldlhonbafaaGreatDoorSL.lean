/-
  DERIVED: THE SHELF's CONTRACTS AT THIS DUMP, IN PLAIN WORDS (tools/lay-plain.mjs out of 'YtffoldlhonbafaaGreatDoorSLa.lean', which tools/lay-shelf.mjs wrote): THE SAME DECLARATIONS UNDER THE SAME NAMES: 'import', 'namespace', 'open', 'def', 'theorem' AND NOTHING ELSE: no command of the shelf's: FOR A HAND-IN. Each laying: the table of numbers ('.._ren') and one theorem, a field a fact of the dump's own or the kernel's comparison; each contract: ONE APPLICATION.
-/
import Derived.Shelf.Small.Wraps
import Derived.Shelf.LaysM
import Derived.Shelf.Strconv.Itoa3
import Derived.Shelf.Strings.Prefix
import Derived.Shelf.Strings.SlTrimAscii
import Derived.Test.YtffoldlhonbafaaGreatDoorProg
namespace Go.Proofs
open Go.Shelf
def Tryz.lays103_ren:Go.Shelf.Ren:=⟨fun | 103=>100 | 210=>120 | 206=>132 | n=>n,fun | 9=>9 | 4=>4 | 24=>127 | 3=>3 | n=>n,fun | n=>n⟩
theorem Tryz.lays103:Go.Proofs.Lays.n103 Tryz.prog Tryz.lays103_ren:={
  mixed:=by kernel_rfl
  f103:=Tryz.func100.trans (congrArg some (by kernel_rfl))
  f206:=Tryz.func132.trans (congrArg some (by kernel_rfl))
  f210:=Tryz.func120.trans (congrArg some (by kernel_rfl))
  t3:=Tryz.underlying3
  a3:=Tryz.isAgg3
  z3:=Tryz.sizeOf3
  v3:=Tryz.zeroValue3
  t4:=Tryz.underlying4
  a4:=Tryz.isAgg4
  z4:=Tryz.sizeOf4
  v4:=Tryz.zeroValue4
  t9:=Tryz.underlying9
  a9:=Tryz.isAgg9
  z9:=Tryz.sizeOf9
  v9:=Tryz.zeroValue9
  t24:=Tryz.underlying127
  a24:=Tryz.isAgg127
  z24:=Tryz.sizeOf127
  v24:=Tryz.zeroValue127 }
open Go.RowKit in
/-- strings.CutPrefix: "CutPrefix returns s without the provided leading prefix string and reports whether it found the prefix. If s doesn't start with prefix, CutPrefix returns s, false. If prefix is the empty string, CutPrefix returns s, true.": IT RETURNS '(Lib.trimPrefix s p, Lib.hasPrefix s p)'; the world is as it was. (LAID: no walk: one application.) -/
theorem Tryz.strings_CutPrefix (s p:ByteArray) (w:World) :
    Calls Tryz.prog 100 #[.string s,.string p] w fun e w'=>e=.returned (.tuple #[.string ⟨(Lib.trimPrefix s.data.toList p.data.toList).toArray⟩,.bool (Lib.hasPrefix s.data.toList p.data.toList)])∧w'=w:=Any.strings_CutPrefix Tryz.lays103 s p w
def Tryz.laysM171_ren:Go.Shelf.Ren:=⟨fun | 171=>99 | 243=>119 | 246=>131 | 283=>138 | 284=>139 | 285=>140 | 286=>141 | 129=>146 | 317=>145 | 318=>147 | 319=>148 | 320=>149 | 337=>154 | 338=>155 | n=>n,fun | 3=>3 | 9=>9 | 2=>2 | 4=>4 | 171=>153 | 0=>0 | 53=>83 | 37=>22 | 5=>5 | 173=>156 | 212=>161 | 51=>120 | 20=>20 | 213=>162 | 46=>122 | 232=>172 | 233=>173 | n=>n,fun | 17=>0 | 18=>4 | 19=>5 | n=>n⟩
theorem Tryz.laysM171:Go.Proofs.LaysM.n171 Tryz.prog Tryz.laysM171_ren:={
  mixed:=by kernel_rfl
  f129:=Tryz.func146.trans (congrArg some (by kernel_rfl))
  f171:=Tryz.func99.trans (congrArg some (by kernel_rfl))
  f243:=Tryz.func119.trans (congrArg some (by kernel_rfl))
  f246:=Tryz.func131.trans (congrArg some (by kernel_rfl))
  f283:=Tryz.func138.trans (congrArg some (by kernel_rfl))
  f284:=Tryz.func139.trans (congrArg some (by kernel_rfl))
  f285:=Tryz.func140.trans (congrArg some (by kernel_rfl))
  f286:=Tryz.func141.trans (congrArg some (by kernel_rfl))
  f317:=Tryz.func145.trans (congrArg some (by kernel_rfl))
  f318:=Tryz.func147.trans (congrArg some (by kernel_rfl))
  f319:=Tryz.func148.trans (congrArg some (by kernel_rfl))
  f320:=Tryz.func149.trans (congrArg some (by kernel_rfl))
  f337:=Tryz.func154.trans (congrArg some (by kernel_rfl))
  f338:=Tryz.func155.trans (congrArg some (by kernel_rfl))
  t0:=Tryz.underlying0
  a0:=Tryz.isAgg0
  z0:=Tryz.sizeOf0
  v0:=Tryz.zeroValue0
  t2:=Tryz.underlying2
  a2:=Tryz.isAgg2
  z2:=Tryz.sizeOf2
  v2:=Tryz.zeroValue2
  t3:=Tryz.underlying3
  a3:=Tryz.isAgg3
  z3:=Tryz.sizeOf3
  v3:=Tryz.zeroValue3
  t4:=Tryz.underlying4
  a4:=Tryz.isAgg4
  z4:=Tryz.sizeOf4
  v4:=Tryz.zeroValue4
  t5:=Tryz.underlying5
  a5:=Tryz.isAgg5
  z5:=Tryz.sizeOf5
  v5:=Tryz.zeroValue5
  t9:=Tryz.underlying9
  a9:=Tryz.isAgg9
  z9:=Tryz.sizeOf9
  v9:=Tryz.zeroValue9
  t20:=Tryz.underlying20
  a20:=Tryz.isAgg20
  z20:=Tryz.sizeOf20
  v20:=Tryz.zeroValue20
  t37:=Tryz.underlying22
  a37:=Tryz.isAgg22
  z37:=Tryz.sizeOf22
  v37:=Tryz.zeroValue22
  t46:=Tryz.underlying122
  a46:=Tryz.isAgg122
  z46:=Tryz.sizeOf122
  v46:=Tryz.zeroValue122
  t51:=Tryz.underlying120
  a51:=Tryz.isAgg120
  z51:=Tryz.sizeOf120
  v51:=Tryz.zeroValue120
  t53:=Tryz.underlying83
  a53:=Tryz.isAgg83
  z53:=Tryz.sizeOf83
  v53:=Tryz.zeroValue83
  t171:=Tryz.underlying153
  a171:=Tryz.isAgg153
  z171:=Tryz.sizeOf153
  v171:=Tryz.zeroValue153
  t173:=Tryz.underlying156
  a173:=Tryz.isAgg156
  z173:=Tryz.sizeOf156
  v173:=Tryz.zeroValue156
  t212:=Tryz.underlying161
  a212:=Tryz.isAgg161
  z212:=Tryz.sizeOf161
  v212:=Tryz.zeroValue161
  t213:=Tryz.underlying162
  a213:=Tryz.isAgg162
  z213:=Tryz.sizeOf162
  t232:=Tryz.underlying172
  a232:=Tryz.isAgg172
  z232:=Tryz.sizeOf172
  v232:=Tryz.zeroValue172
  t233:=Tryz.underlying173
  a233:=Tryz.isAgg173
  z233:=Tryz.sizeOf173
  v233:=Tryz.zeroValue173
  g17:=by kernel_rfl
  g18:=by kernel_rfl
  g19:=by kernel_rfl
  i0:=by kernel_rfl
  i2:=by kernel_rfl
  i3:=by kernel_rfl
  i4:=by kernel_rfl
  i5:=by kernel_rfl
  i9:=by kernel_rfl
  i20:=by kernel_rfl
  i37:=by kernel_rfl
  i46:=by kernel_rfl
  i51:=by kernel_rfl
  i53:=by kernel_rfl
  i171:=by kernel_rfl
  i173:=by kernel_rfl
  i212:=by kernel_rfl
  i232:=by kernel_rfl
  i233:=by kernel_rfl
  m17:=by kernel_rfl
  m18:=by kernel_rfl
  m19:=by kernel_rfl }
open Go.RowKit Go.Sort Go.Lib in
/-- strconv.Itoa: "Itoa is equivalent to FormatInt(int64(i), 10).": i's DECIMAL NUMERAL ('Lib.itoa': a '-' where i is negative, then the digits), FOR EVERY int. The world behind the call: the world before it, new blocks behind the heap (the library's 'var a [24]byte'), draws. (LAID: no walk: one application.) -/
theorem Tryz.strconv_Itoa (n:Int) (h0 : -9223372036854775808≤n) (h1:n≤9223372036854775807) (w:World) (htab:Lib.TabIs Tryz.prog w "internal/strconv.uint64pow10" .u64 Lib.pow10Tab) :
    Calls Tryz.prog 99 #[.int .i64 n] w fun e w'=>e=.returned (.string ⟨(Lib.itoa n).toArray⟩)∧∃ k os,w'=grow (w.drewN k) os:=Any.strconv_Itoa Tryz.laysM171 n h0 h1 w htab
def Tryz.lays160_ren:Go.Shelf.Ren:=⟨fun | 160=>101 | 232=>122 | 231=>121 | 227=>123 | 234=>125 | 233=>124 | 236=>127 | 235=>126 | 228=>133 | 271=>136 | 151=>135 | 197=>134 | 120=>144 | 152=>143 | 260=>142 | 137=>150 | 119=>151 | 224=>152 | 225=>153 | 217=>156 | 266=>157 | n=>n,fun | 9=>9 | 4=>4 | 3=>3 | 5=>5 | 117=>141 | 116=>140 | 0=>0 | 124=>144 | 21=>21 | 105=>149 | 46=>122 | 119=>165 | 139=>168 | 138=>167 | n=>n,fun | 3=>1 | 4=>2 | n=>n⟩
theorem Tryz.lays160:Go.Proofs.Lays.n160 Tryz.prog Tryz.lays160_ren:={
  mixed:=by kernel_rfl
  f119:=Tryz.func151.trans (congrArg some (by kernel_rfl))
  f120:=Tryz.func144.trans (congrArg some (by kernel_rfl))
  f137:=Tryz.func150.trans (congrArg some (by kernel_rfl))
  f151:=Tryz.func135.trans (congrArg some (by kernel_rfl))
  f152:=Tryz.func143.trans (congrArg some (by kernel_rfl))
  f160:=Tryz.func101.trans (congrArg some (by kernel_rfl))
  f197:=Tryz.func134.trans (congrArg some (by kernel_rfl))
  f217:=Tryz.func156.trans (congrArg some (by kernel_rfl))
  f224:=Tryz.func152.trans (congrArg some (by kernel_rfl))
  f225:=Tryz.func153.trans (congrArg some (by kernel_rfl))
  f227:=Tryz.func123.trans (congrArg some (by kernel_rfl))
  f228:=Tryz.func133.trans (congrArg some (by kernel_rfl))
  f231:=Tryz.func121.trans (congrArg some (by kernel_rfl))
  f232:=Tryz.func122.trans (congrArg some (by kernel_rfl))
  f233:=Tryz.func124.trans (congrArg some (by kernel_rfl))
  f234:=Tryz.func125.trans (congrArg some (by kernel_rfl))
  f235:=Tryz.func126.trans (congrArg some (by kernel_rfl))
  f236:=Tryz.func127.trans (congrArg some (by kernel_rfl))
  f260:=Tryz.func142.trans (congrArg some (by kernel_rfl))
  f266:=Tryz.func157.trans (congrArg some (by kernel_rfl))
  f271:=Tryz.func136.trans (congrArg some (by kernel_rfl))
  t0:=Tryz.underlying0
  a0:=Tryz.isAgg0
  z0:=Tryz.sizeOf0
  v0:=Tryz.zeroValue0
  t3:=Tryz.underlying3
  a3:=Tryz.isAgg3
  z3:=Tryz.sizeOf3
  v3:=Tryz.zeroValue3
  t4:=Tryz.underlying4
  a4:=Tryz.isAgg4
  z4:=Tryz.sizeOf4
  v4:=Tryz.zeroValue4
  t5:=Tryz.underlying5
  a5:=Tryz.isAgg5
  z5:=Tryz.sizeOf5
  v5:=Tryz.zeroValue5
  t9:=Tryz.underlying9
  a9:=Tryz.isAgg9
  z9:=Tryz.sizeOf9
  v9:=Tryz.zeroValue9
  t21:=Tryz.underlying21
  a21:=Tryz.isAgg21
  z21:=Tryz.sizeOf21
  v21:=Tryz.zeroValue21
  t46:=Tryz.underlying122
  a46:=Tryz.isAgg122
  z46:=Tryz.sizeOf122
  v46:=Tryz.zeroValue122
  t105:=Tryz.underlying149
  a105:=Tryz.isAgg149
  z105:=Tryz.sizeOf149
  v105:=Tryz.zeroValue149
  t116:=Tryz.underlying140
  a116:=Tryz.isAgg140
  z116:=Tryz.sizeOf140
  t117:=Tryz.underlying141
  a117:=Tryz.isAgg141
  z117:=Tryz.sizeOf141
  v117:=Tryz.zeroValue141
  t119:=Tryz.underlying165
  a119:=Tryz.isAgg165
  z119:=Tryz.sizeOf165
  t124:=Tryz.underlying144
  a124:=Tryz.isAgg144
  z124:=Tryz.sizeOf144
  v124:=Tryz.zeroValue144
  t138:=Tryz.underlying167
  a138:=Tryz.isAgg167
  z138:=Tryz.sizeOf167
  v138:=Tryz.zeroValue167
  t139:=Tryz.underlying168
  a139:=Tryz.isAgg168
  z139:=Tryz.sizeOf168
  v139:=Tryz.zeroValue168
  g3:=by kernel_rfl
  g4:=by kernel_rfl }
theorem Tryz.strings_Trim (s cutset:ByteArray) (w:World) (hs:s.size≤9223372036854775807) (hcs:cutset.size<4294967281)
    (hascii:∀ (j:Nat) b,cutset.data.toList[j]? = some b→b.toNat<128) :
    Calls Tryz.prog 101 #[.string s,.string cutset] w fun e w'=>e=.returned (.string ⟨(Lib.trimS s.data.toList cutset.data.toList).toArray⟩)∧Go.RowKit.Below w.heap.size w w':=Any.strings_Trim_laid Tryz.lays160 (by kernel_rfl) s cutset w hs hcs hascii
end Go.Proofs
