/-
  DERIVED: THE SHELF's CONTRACTS AT THIS DUMP, IN PLAIN WORDS (tools/lay-plain.mjs out of 'YtlcnhajfgilipaaGreatDoorSLa.lean', which tools/lay-shelf.mjs wrote): THE SAME DECLARATIONS UNDER THE SAME NAMES: 'import', 'namespace', 'open', 'def', 'theorem' AND NOTHING ELSE: no command of the shelf's: FOR A HAND-IN. Each laying: the table of numbers ('.._ren') and one theorem, a field a fact of the dump's own or the kernel's comparison; each contract: ONE APPLICATION.
-/
import Derived.Shelf.Small.Wraps
import Derived.Shelf.LaysM
import Derived.Shelf.Strconv.Itoa3
import Derived.Shelf.Strings.Prefix
import Derived.Shelf.Strings.SlTrimAscii
import Derived.Test.YtlcnhajfgilipaaGreatDoorProg
namespace Go.Proofs
open Go.Shelf
def Tryz.lays103_ren:Go.Shelf.Ren:=⟨fun | 103=>104 | 210=>137 | 206=>172 | n=>n,fun | 9=>9 | 4=>4 | 24=>156 | 3=>3 | n=>n,fun | n=>n⟩
theorem Tryz.lays103:Go.Proofs.Lays.n103 Tryz.prog Tryz.lays103_ren:={
  mixed:=by kernel_rfl
  f103:=Tryz.func104.trans (congrArg some (by kernel_rfl))
  f206:=Tryz.func172.trans (congrArg some (by kernel_rfl))
  f210:=Tryz.func137.trans (congrArg some (by kernel_rfl))
  t3:=Tryz.underlying3
  a3:=Tryz.isAgg3
  z3:=Tryz.sizeOf3
  v3:=Tryz.zeroValue3
  t4:=Tryz.underlying4
  a4:=Tryz.isAgg4
  z4:=Tryz.sizeOf4
  v4:=Tryz.zeroValue4
  t9:=Tryz.underlying9
  a9:=Tryz.isAgg9
  z9:=Tryz.sizeOf9
  v9:=Tryz.zeroValue9
  t24:=Tryz.underlying156
  a24:=Tryz.isAgg156
  z24:=Tryz.sizeOf156
  v24:=Tryz.zeroValue156 }
open Go.RowKit in
/-- strings.CutPrefix: "CutPrefix returns s without the provided leading prefix string and reports whether it found the prefix. If s doesn't start with prefix, CutPrefix returns s, false. If prefix is the empty string, CutPrefix returns s, true.": IT RETURNS '(Lib.trimPrefix s p, Lib.hasPrefix s p)'; the world is as it was. (LAID: no walk: one application.) -/
theorem Tryz.strings_CutPrefix (s p:ByteArray) (w:World) :
    Calls Tryz.prog 104 #[.string s,.string p] w fun e w'=>e=.returned (.tuple #[.string ⟨(Lib.trimPrefix s.data.toList p.data.toList).toArray⟩,.bool (Lib.hasPrefix s.data.toList p.data.toList)])∧w'=w:=Any.strings_CutPrefix Tryz.lays103 s p w
def Tryz.laysM171_ren:Go.Shelf.Ren:=⟨fun | 171=>103 | 243=>136 | 246=>171 | 283=>186 | 284=>187 | 285=>188 | 286=>189 | 129=>195 | 317=>194 | 318=>196 | 319=>197 | 320=>198 | 337=>203 | 338=>204 | n=>n,fun | 3=>3 | 9=>9 | 2=>2 | 4=>4 | 171=>211 | 0=>0 | 53=>74 | 37=>34 | 5=>5 | 173=>214 | 212=>219 | 51=>160 | 20=>20 | 213=>220 | 46=>75 | 232=>229 | 233=>230 | n=>n,fun | 17=>1 | 18=>5 | 19=>6 | n=>n⟩
theorem Tryz.laysM171:Go.Proofs.LaysM.n171 Tryz.prog Tryz.laysM171_ren:={
  mixed:=by kernel_rfl
  f129:=Tryz.func195.trans (congrArg some (by kernel_rfl))
  f171:=Tryz.func103.trans (congrArg some (by kernel_rfl))
  f243:=Tryz.func136.trans (congrArg some (by kernel_rfl))
  f246:=Tryz.func171.trans (congrArg some (by kernel_rfl))
  f283:=Tryz.func186.trans (congrArg some (by kernel_rfl))
  f284:=Tryz.func187.trans (congrArg some (by kernel_rfl))
  f285:=Tryz.func188.trans (congrArg some (by kernel_rfl))
  f286:=Tryz.func189.trans (congrArg some (by kernel_rfl))
  f317:=Tryz.func194.trans (congrArg some (by kernel_rfl))
  f318:=Tryz.func196.trans (congrArg some (by kernel_rfl))
  f319:=Tryz.func197.trans (congrArg some (by kernel_rfl))
  f320:=Tryz.func198.trans (congrArg some (by kernel_rfl))
  f337:=Tryz.func203.trans (congrArg some (by kernel_rfl))
  f338:=Tryz.func204.trans (congrArg some (by kernel_rfl))
  t0:=Tryz.underlying0
  a0:=Tryz.isAgg0
  z0:=Tryz.sizeOf0
  v0:=Tryz.zeroValue0
  t2:=Tryz.underlying2
  a2:=Tryz.isAgg2
  z2:=Tryz.sizeOf2
  v2:=Tryz.zeroValue2
  t3:=Tryz.underlying3
  a3:=Tryz.isAgg3
  z3:=Tryz.sizeOf3
  v3:=Tryz.zeroValue3
  t4:=Tryz.underlying4
  a4:=Tryz.isAgg4
  z4:=Tryz.sizeOf4
  v4:=Tryz.zeroValue4
  t5:=Tryz.underlying5
  a5:=Tryz.isAgg5
  z5:=Tryz.sizeOf5
  v5:=Tryz.zeroValue5
  t9:=Tryz.underlying9
  a9:=Tryz.isAgg9
  z9:=Tryz.sizeOf9
  v9:=Tryz.zeroValue9
  t20:=Tryz.underlying20
  a20:=Tryz.isAgg20
  z20:=Tryz.sizeOf20
  v20:=Tryz.zeroValue20
  t37:=Tryz.underlying34
  a37:=Tryz.isAgg34
  z37:=Tryz.sizeOf34
  v37:=Tryz.zeroValue34
  t46:=Tryz.underlying75
  a46:=Tryz.isAgg75
  z46:=Tryz.sizeOf75
  v46:=Tryz.zeroValue75
  t51:=Tryz.underlying160
  a51:=Tryz.isAgg160
  z51:=Tryz.sizeOf160
  v51:=Tryz.zeroValue160
  t53:=Tryz.underlying74
  a53:=Tryz.isAgg74
  z53:=Tryz.sizeOf74
  v53:=Tryz.zeroValue74
  t171:=Tryz.underlying211
  a171:=Tryz.isAgg211
  z171:=Tryz.sizeOf211
  v171:=Tryz.zeroValue211
  t173:=Tryz.underlying214
  a173:=Tryz.isAgg214
  z173:=Tryz.sizeOf214
  v173:=Tryz.zeroValue214
  t212:=Tryz.underlying219
  a212:=Tryz.isAgg219
  z212:=Tryz.sizeOf219
  v212:=Tryz.zeroValue219
  t213:=Tryz.underlying220
  a213:=Tryz.isAgg220
  z213:=Tryz.sizeOf220
  t232:=Tryz.underlying229
  a232:=Tryz.isAgg229
  z232:=Tryz.sizeOf229
  v232:=Tryz.zeroValue229
  t233:=Tryz.underlying230
  a233:=Tryz.isAgg230
  z233:=Tryz.sizeOf230
  v233:=Tryz.zeroValue230
  g17:=by kernel_rfl
  g18:=by kernel_rfl
  g19:=by kernel_rfl
  i0:=by kernel_rfl
  i2:=by kernel_rfl
  i3:=by kernel_rfl
  i4:=by kernel_rfl
  i5:=by kernel_rfl
  i9:=by kernel_rfl
  i20:=by kernel_rfl
  i37:=by kernel_rfl
  i46:=by kernel_rfl
  i51:=by kernel_rfl
  i53:=by kernel_rfl
  i171:=by kernel_rfl
  i173:=by kernel_rfl
  i212:=by kernel_rfl
  i232:=by kernel_rfl
  i233:=by kernel_rfl
  m17:=by kernel_rfl
  m18:=by kernel_rfl
  m19:=by kernel_rfl }
open Go.RowKit Go.Sort Go.Lib in
/-- strconv.Itoa: "Itoa is equivalent to FormatInt(int64(i), 10).": i's DECIMAL NUMERAL ('Lib.itoa': a '-' where i is negative, then the digits), FOR EVERY int. The world behind the call: the world before it, new blocks behind the heap (the library's 'var a [24]byte'), draws. (LAID: no walk: one application.) -/
theorem Tryz.strconv_Itoa (n:Int) (h0 : -9223372036854775808≤n) (h1:n≤9223372036854775807) (w:World) (htab:Lib.TabIs Tryz.prog w "internal/strconv.uint64pow10" .u64 Lib.pow10Tab) :
    Calls Tryz.prog 103 #[.int .i64 n] w fun e w'=>e=.returned (.string ⟨(Lib.itoa n).toArray⟩)∧∃ k os,w'=grow (w.drewN k) os:=Any.strconv_Itoa Tryz.laysM171 n h0 h1 w htab
def Tryz.lays160_ren:Go.Shelf.Ren:=⟨fun | 160=>105 | 232=>139 | 231=>138 | 227=>140 | 234=>142 | 233=>141 | 236=>144 | 235=>143 | 228=>173 | 271=>176 | 151=>175 | 197=>174 | 120=>192 | 152=>191 | 260=>190 | 137=>199 | 119=>200 | 224=>201 | 225=>202 | 217=>205 | 266=>206 | n=>n,fun | 9=>9 | 4=>4 | 3=>3 | 5=>5 | 117=>186 | 116=>185 | 0=>0 | 124=>189 | 21=>21 | 105=>202 | 46=>75 | 119=>222 | 139=>225 | 138=>224 | n=>n,fun | 3=>2 | 4=>3 | n=>n⟩
theorem Tryz.lays160:Go.Proofs.Lays.n160 Tryz.prog Tryz.lays160_ren:={
  mixed:=by kernel_rfl
  f119:=Tryz.func200.trans (congrArg some (by kernel_rfl))
  f120:=Tryz.func192.trans (congrArg some (by kernel_rfl))
  f137:=Tryz.func199.trans (congrArg some (by kernel_rfl))
  f151:=Tryz.func175.trans (congrArg some (by kernel_rfl))
  f152:=Tryz.func191.trans (congrArg some (by kernel_rfl))
  f160:=Tryz.func105.trans (congrArg some (by kernel_rfl))
  f197:=Tryz.func174.trans (congrArg some (by kernel_rfl))
  f217:=Tryz.func205.trans (congrArg some (by kernel_rfl))
  f224:=Tryz.func201.trans (congrArg some (by kernel_rfl))
  f225:=Tryz.func202.trans (congrArg some (by kernel_rfl))
  f227:=Tryz.func140.trans (congrArg some (by kernel_rfl))
  f228:=Tryz.func173.trans (congrArg some (by kernel_rfl))
  f231:=Tryz.func138.trans (congrArg some (by kernel_rfl))
  f232:=Tryz.func139.trans (congrArg some (by kernel_rfl))
  f233:=Tryz.func141.trans (congrArg some (by kernel_rfl))
  f234:=Tryz.func142.trans (congrArg some (by kernel_rfl))
  f235:=Tryz.func143.trans (congrArg some (by kernel_rfl))
  f236:=Tryz.func144.trans (congrArg some (by kernel_rfl))
  f260:=Tryz.func190.trans (congrArg some (by kernel_rfl))
  f266:=Tryz.func206.trans (congrArg some (by kernel_rfl))
  f271:=Tryz.func176.trans (congrArg some (by kernel_rfl))
  t0:=Tryz.underlying0
  a0:=Tryz.isAgg0
  z0:=Tryz.sizeOf0
  v0:=Tryz.zeroValue0
  t3:=Tryz.underlying3
  a3:=Tryz.isAgg3
  z3:=Tryz.sizeOf3
  v3:=Tryz.zeroValue3
  t4:=Tryz.underlying4
  a4:=Tryz.isAgg4
  z4:=Tryz.sizeOf4
  v4:=Tryz.zeroValue4
  t5:=Tryz.underlying5
  a5:=Tryz.isAgg5
  z5:=Tryz.sizeOf5
  v5:=Tryz.zeroValue5
  t9:=Tryz.underlying9
  a9:=Tryz.isAgg9
  z9:=Tryz.sizeOf9
  v9:=Tryz.zeroValue9
  t21:=Tryz.underlying21
  a21:=Tryz.isAgg21
  z21:=Tryz.sizeOf21
  v21:=Tryz.zeroValue21
  t46:=Tryz.underlying75
  a46:=Tryz.isAgg75
  z46:=Tryz.sizeOf75
  v46:=Tryz.zeroValue75
  t105:=Tryz.underlying202
  a105:=Tryz.isAgg202
  z105:=Tryz.sizeOf202
  v105:=Tryz.zeroValue202
  t116:=Tryz.underlying185
  a116:=Tryz.isAgg185
  z116:=Tryz.sizeOf185
  t117:=Tryz.underlying186
  a117:=Tryz.isAgg186
  z117:=Tryz.sizeOf186
  v117:=Tryz.zeroValue186
  t119:=Tryz.underlying222
  a119:=Tryz.isAgg222
  z119:=Tryz.sizeOf222
  t124:=Tryz.underlying189
  a124:=Tryz.isAgg189
  z124:=Tryz.sizeOf189
  v124:=Tryz.zeroValue189
  t138:=Tryz.underlying224
  a138:=Tryz.isAgg224
  z138:=Tryz.sizeOf224
  v138:=Tryz.zeroValue224
  t139:=Tryz.underlying225
  a139:=Tryz.isAgg225
  z139:=Tryz.sizeOf225
  v139:=Tryz.zeroValue225
  g3:=by kernel_rfl
  g4:=by kernel_rfl }
theorem Tryz.strings_Trim (s cutset:ByteArray) (w:World) (hs:s.size≤9223372036854775807) (hcs:cutset.size<4294967281)
    (hascii:∀ (j:Nat) b,cutset.data.toList[j]? = some b→b.toNat<128) :
    Calls Tryz.prog 105 #[.string s,.string cutset] w fun e w'=>e=.returned (.string ⟨(Lib.trimS s.data.toList cutset.data.toList).toArray⟩)∧Go.RowKit.Below w.heap.size w w':=Any.strings_Trim_laid Tryz.lays160 (by kernel_rfl) s cutset w hs hcs hascii
end Go.Proofs
