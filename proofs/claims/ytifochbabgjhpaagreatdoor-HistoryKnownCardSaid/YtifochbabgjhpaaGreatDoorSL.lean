/-
  DERIVED: THE SHELF's CONTRACTS AT THIS DUMP, IN PLAIN WORDS (tools/lay-plain.mjs out of 'YtifochbabgjhpaaGreatDoorSLa.lean', which tools/lay-shelf.mjs wrote): THE SAME DECLARATIONS UNDER THE SAME NAMES: 'import', 'namespace', 'open', 'def', 'theorem' AND NOTHING ELSE: no command of the shelf's: FOR A HAND-IN. Each laying: the table of numbers ('.._ren') and one theorem, a field a fact of the dump's own or the kernel's comparison; each contract: ONE APPLICATION.
-/
import Derived.Shelf.Small.Wraps
import Derived.Shelf.LaysM
import Derived.Shelf.Strconv.Itoa3
import Derived.Shelf.Strings.Prefix
import Derived.Shelf.Strings.SlTrimAscii
import Derived.Test.YtifochbabgjhpaaGreatDoorProg
namespace Go.Proofs
open Go.Shelf
def Tryz.lays103_ren:Go.Shelf.Ren:=⟨fun | 103=>146 | 210=>184 | 206=>204 | n=>n,fun | 9=>9 | 4=>4 | 24=>200 | 3=>3 | n=>n,fun | n=>n⟩
theorem Tryz.lays103:Go.Proofs.Lays.n103 Tryz.prog Tryz.lays103_ren:={
  mixed:=by kernel_rfl
  f103:=Tryz.func146.trans (congrArg some (by kernel_rfl))
  f206:=Tryz.func204.trans (congrArg some (by kernel_rfl))
  f210:=Tryz.func184.trans (congrArg some (by kernel_rfl))
  t3:=Tryz.underlying3
  a3:=Tryz.isAgg3
  z3:=Tryz.sizeOf3
  v3:=Tryz.zeroValue3
  t4:=Tryz.underlying4
  a4:=Tryz.isAgg4
  z4:=Tryz.sizeOf4
  v4:=Tryz.zeroValue4
  t9:=Tryz.underlying9
  a9:=Tryz.isAgg9
  z9:=Tryz.sizeOf9
  v9:=Tryz.zeroValue9
  t24:=Tryz.underlying200
  a24:=Tryz.isAgg200
  z24:=Tryz.sizeOf200
  v24:=Tryz.zeroValue200 }
open Go.RowKit in
/-- strings.CutPrefix: "CutPrefix returns s without the provided leading prefix string and reports whether it found the prefix. If s doesn't start with prefix, CutPrefix returns s, false. If prefix is the empty string, CutPrefix returns s, true.": IT RETURNS '(Lib.trimPrefix s p, Lib.hasPrefix s p)'; the world is as it was. (LAID: no walk: one application.) -/
theorem Tryz.strings_CutPrefix (s p:ByteArray) (w:World) :
    Calls Tryz.prog 146 #[.string s,.string p] w fun e w'=>e=.returned (.tuple #[.string ⟨(Lib.trimPrefix s.data.toList p.data.toList).toArray⟩,.bool (Lib.hasPrefix s.data.toList p.data.toList)])∧w'=w:=Any.strings_CutPrefix Tryz.lays103 s p w
def Tryz.laysM171_ren:Go.Shelf.Ren:=⟨fun | 171=>144 | 243=>183 | 246=>203 | 283=>211 | 284=>212 | 285=>213 | 286=>214 | 129=>220 | 317=>219 | 318=>221 | 319=>222 | 320=>223 | 337=>228 | 338=>229 | n=>n,fun | 3=>3 | 9=>9 | 2=>2 | 4=>4 | 171=>251 | 0=>0 | 53=>113 | 37=>78 | 5=>5 | 173=>254 | 212=>259 | 51=>205 | 20=>20 | 213=>260 | 46=>115 | 232=>269 | 233=>270 | n=>n,fun | 17=>0 | 18=>4 | 19=>5 | n=>n⟩
theorem Tryz.laysM171:Go.Proofs.LaysM.n171 Tryz.prog Tryz.laysM171_ren:={
  mixed:=by kernel_rfl
  f129:=Tryz.func220.trans (congrArg some (by kernel_rfl))
  f171:=Tryz.func144.trans (congrArg some (by kernel_rfl))
  f243:=Tryz.func183.trans (congrArg some (by kernel_rfl))
  f246:=Tryz.func203.trans (congrArg some (by kernel_rfl))
  f283:=Tryz.func211.trans (congrArg some (by kernel_rfl))
  f284:=Tryz.func212.trans (congrArg some (by kernel_rfl))
  f285:=Tryz.func213.trans (congrArg some (by kernel_rfl))
  f286:=Tryz.func214.trans (congrArg some (by kernel_rfl))
  f317:=Tryz.func219.trans (congrArg some (by kernel_rfl))
  f318:=Tryz.func221.trans (congrArg some (by kernel_rfl))
  f319:=Tryz.func222.trans (congrArg some (by kernel_rfl))
  f320:=Tryz.func223.trans (congrArg some (by kernel_rfl))
  f337:=Tryz.func228.trans (congrArg some (by kernel_rfl))
  f338:=Tryz.func229.trans (congrArg some (by kernel_rfl))
  t0:=Tryz.underlying0
  a0:=Tryz.isAgg0
  z0:=Tryz.sizeOf0
  v0:=Tryz.zeroValue0
  t2:=Tryz.underlying2
  a2:=Tryz.isAgg2
  z2:=Tryz.sizeOf2
  v2:=Tryz.zeroValue2
  t3:=Tryz.underlying3
  a3:=Tryz.isAgg3
  z3:=Tryz.sizeOf3
  v3:=Tryz.zeroValue3
  t4:=Tryz.underlying4
  a4:=Tryz.isAgg4
  z4:=Tryz.sizeOf4
  v4:=Tryz.zeroValue4
  t5:=Tryz.underlying5
  a5:=Tryz.isAgg5
  z5:=Tryz.sizeOf5
  v5:=Tryz.zeroValue5
  t9:=Tryz.underlying9
  a9:=Tryz.isAgg9
  z9:=Tryz.sizeOf9
  v9:=Tryz.zeroValue9
  t20:=Tryz.underlying20
  a20:=Tryz.isAgg20
  z20:=Tryz.sizeOf20
  v20:=Tryz.zeroValue20
  t37:=Tryz.underlying78
  a37:=Tryz.isAgg78
  z37:=Tryz.sizeOf78
  v37:=Tryz.zeroValue78
  t46:=Tryz.underlying115
  a46:=Tryz.isAgg115
  z46:=Tryz.sizeOf115
  v46:=Tryz.zeroValue115
  t51:=Tryz.underlying205
  a51:=Tryz.isAgg205
  z51:=Tryz.sizeOf205
  v51:=Tryz.zeroValue205
  t53:=Tryz.underlying113
  a53:=Tryz.isAgg113
  z53:=Tryz.sizeOf113
  v53:=Tryz.zeroValue113
  t171:=Tryz.underlying251
  a171:=Tryz.isAgg251
  z171:=Tryz.sizeOf251
  v171:=Tryz.zeroValue251
  t173:=Tryz.underlying254
  a173:=Tryz.isAgg254
  z173:=Tryz.sizeOf254
  v173:=Tryz.zeroValue254
  t212:=Tryz.underlying259
  a212:=Tryz.isAgg259
  z212:=Tryz.sizeOf259
  v212:=Tryz.zeroValue259
  t213:=Tryz.underlying260
  a213:=Tryz.isAgg260
  z213:=Tryz.sizeOf260
  t232:=Tryz.underlying269
  a232:=Tryz.isAgg269
  z232:=Tryz.sizeOf269
  v232:=Tryz.zeroValue269
  t233:=Tryz.underlying270
  a233:=Tryz.isAgg270
  z233:=Tryz.sizeOf270
  v233:=Tryz.zeroValue270
  g17:=by kernel_rfl
  g18:=by kernel_rfl
  g19:=by kernel_rfl
  i0:=by kernel_rfl
  i2:=by kernel_rfl
  i3:=by kernel_rfl
  i4:=by kernel_rfl
  i5:=by kernel_rfl
  i9:=by kernel_rfl
  i20:=by kernel_rfl
  i37:=by kernel_rfl
  i46:=by kernel_rfl
  i51:=by kernel_rfl
  i53:=by kernel_rfl
  i171:=by kernel_rfl
  i173:=by kernel_rfl
  i212:=by kernel_rfl
  i232:=by kernel_rfl
  i233:=by kernel_rfl
  m17:=by kernel_rfl
  m18:=by kernel_rfl
  m19:=by kernel_rfl }
open Go.RowKit Go.Sort Go.Lib in
/-- strconv.Itoa: "Itoa is equivalent to FormatInt(int64(i), 10).": i's DECIMAL NUMERAL ('Lib.itoa': a '-' where i is negative, then the digits), FOR EVERY int. The world behind the call: the world before it, new blocks behind the heap (the library's 'var a [24]byte'), draws. (LAID: no walk: one application.) -/
theorem Tryz.strconv_Itoa (n:Int) (h0 : -9223372036854775808≤n) (h1:n≤9223372036854775807) (w:World) (htab:Lib.TabIs Tryz.prog w "internal/strconv.uint64pow10" .u64 Lib.pow10Tab) :
    Calls Tryz.prog 144 #[.int .i64 n] w fun e w'=>e=.returned (.string ⟨(Lib.itoa n).toArray⟩)∧∃ k os,w'=grow (w.drewN k) os:=Any.strconv_Itoa Tryz.laysM171 n h0 h1 w htab
def Tryz.lays160_ren:Go.Shelf.Ren:=⟨fun | 160=>147 | 232=>186 | 231=>185 | 227=>187 | 234=>189 | 233=>188 | 236=>191 | 235=>190 | 228=>205 | 271=>208 | 151=>207 | 197=>206 | 120=>217 | 152=>216 | 260=>215 | 137=>224 | 119=>225 | 224=>226 | 225=>227 | 217=>230 | 266=>231 | n=>n,fun | 9=>9 | 4=>4 | 3=>3 | 5=>5 | 117=>236 | 116=>235 | 0=>0 | 124=>239 | 21=>21 | 105=>247 | 46=>115 | 119=>262 | 139=>265 | 138=>264 | n=>n,fun | 3=>1 | 4=>2 | n=>n⟩
theorem Tryz.lays160:Go.Proofs.Lays.n160 Tryz.prog Tryz.lays160_ren:={
  mixed:=by kernel_rfl
  f119:=Tryz.func225.trans (congrArg some (by kernel_rfl))
  f120:=Tryz.func217.trans (congrArg some (by kernel_rfl))
  f137:=Tryz.func224.trans (congrArg some (by kernel_rfl))
  f151:=Tryz.func207.trans (congrArg some (by kernel_rfl))
  f152:=Tryz.func216.trans (congrArg some (by kernel_rfl))
  f160:=Tryz.func147.trans (congrArg some (by kernel_rfl))
  f197:=Tryz.func206.trans (congrArg some (by kernel_rfl))
  f217:=Tryz.func230.trans (congrArg some (by kernel_rfl))
  f224:=Tryz.func226.trans (congrArg some (by kernel_rfl))
  f225:=Tryz.func227.trans (congrArg some (by kernel_rfl))
  f227:=Tryz.func187.trans (congrArg some (by kernel_rfl))
  f228:=Tryz.func205.trans (congrArg some (by kernel_rfl))
  f231:=Tryz.func185.trans (congrArg some (by kernel_rfl))
  f232:=Tryz.func186.trans (congrArg some (by kernel_rfl))
  f233:=Tryz.func188.trans (congrArg some (by kernel_rfl))
  f234:=Tryz.func189.trans (congrArg some (by kernel_rfl))
  f235:=Tryz.func190.trans (congrArg some (by kernel_rfl))
  f236:=Tryz.func191.trans (congrArg some (by kernel_rfl))
  f260:=Tryz.func215.trans (congrArg some (by kernel_rfl))
  f266:=Tryz.func231.trans (congrArg some (by kernel_rfl))
  f271:=Tryz.func208.trans (congrArg some (by kernel_rfl))
  t0:=Tryz.underlying0
  a0:=Tryz.isAgg0
  z0:=Tryz.sizeOf0
  v0:=Tryz.zeroValue0
  t3:=Tryz.underlying3
  a3:=Tryz.isAgg3
  z3:=Tryz.sizeOf3
  v3:=Tryz.zeroValue3
  t4:=Tryz.underlying4
  a4:=Tryz.isAgg4
  z4:=Tryz.sizeOf4
  v4:=Tryz.zeroValue4
  t5:=Tryz.underlying5
  a5:=Tryz.isAgg5
  z5:=Tryz.sizeOf5
  v5:=Tryz.zeroValue5
  t9:=Tryz.underlying9
  a9:=Tryz.isAgg9
  z9:=Tryz.sizeOf9
  v9:=Tryz.zeroValue9
  t21:=Tryz.underlying21
  a21:=Tryz.isAgg21
  z21:=Tryz.sizeOf21
  v21:=Tryz.zeroValue21
  t46:=Tryz.underlying115
  a46:=Tryz.isAgg115
  z46:=Tryz.sizeOf115
  v46:=Tryz.zeroValue115
  t105:=Tryz.underlying247
  a105:=Tryz.isAgg247
  z105:=Tryz.sizeOf247
  v105:=Tryz.zeroValue247
  t116:=Tryz.underlying235
  a116:=Tryz.isAgg235
  z116:=Tryz.sizeOf235
  t117:=Tryz.underlying236
  a117:=Tryz.isAgg236
  z117:=Tryz.sizeOf236
  v117:=Tryz.zeroValue236
  t119:=Tryz.underlying262
  a119:=Tryz.isAgg262
  z119:=Tryz.sizeOf262
  t124:=Tryz.underlying239
  a124:=Tryz.isAgg239
  z124:=Tryz.sizeOf239
  v124:=Tryz.zeroValue239
  t138:=Tryz.underlying264
  a138:=Tryz.isAgg264
  z138:=Tryz.sizeOf264
  v138:=Tryz.zeroValue264
  t139:=Tryz.underlying265
  a139:=Tryz.isAgg265
  z139:=Tryz.sizeOf265
  v139:=Tryz.zeroValue265
  g3:=by kernel_rfl
  g4:=by kernel_rfl }
theorem Tryz.strings_Trim (s cutset:ByteArray) (w:World) (hs:s.size≤9223372036854775807) (hcs:cutset.size<4294967281)
    (hascii:∀ (j:Nat) b,cutset.data.toList[j]? = some b→b.toNat<128) :
    Calls Tryz.prog 147 #[.string s,.string cutset] w fun e w'=>e=.returned (.string ⟨(Lib.trimS s.data.toList cutset.data.toList).toArray⟩)∧Go.RowKit.Below w.heap.size w w':=Any.strings_Trim_laid Tryz.lays160 (by kernel_rfl) s cutset w hs hcs hascii
end Go.Proofs
