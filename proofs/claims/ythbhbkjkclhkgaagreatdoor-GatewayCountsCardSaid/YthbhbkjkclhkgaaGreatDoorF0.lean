/-
What each function does, reckoned.
-/
import Derived.Test.YthbhbkjkclhkgaaGreatDoorH
namespace Go.Cx
open Go Go.Cf Go.Proofs.Tryz
noncomputable section
set_option maxRecDepth 100000
set_option maxHeartbeats 0
set_option linter.unusedVariables false
attribute [local irreducible] QG1 QFk QRM QJK QQn QGM QQ4 QGX QAn QBE XIf QC3 QCz QBW QFl QD5 QLG QKJ QOx QM2 QIa QcS QOU QIO Addr.add IntKind.wrap Sl.cut QCy QGu QVz vOr QZJ vEq vNe vLt vLe vGt vGe QcC QbV Qb8 QCx QCu QIl QIj QN7 QOJ QFq QIK QIL QZF QbC QI9 tEq tLt Builtin.append_ Builtin.copy_ Builtin.clear_ Instr.makeSlice Instr.makeMap QZP QKR ByteArray.size UInt8.ofNat
def QEo(room:Int)(l:Sl)(R:Bool->WP):Fm f5 [4] [.I room,l.v] [.bool] R:=mf _
def QLY(l:Ac)(n:Int)(R:Sl->Int->WP):Fm f19 [4,5] [.pointer l,.I n] [.slice,.I] R:=mf _
def QKQ(b:Sl)(R:Int->Int->Int->Int->Int->Sl->Int->WP):Fm f35 [3] [b.v] [.I,.I,.I,.I,.I,.slice,.I] R:=mf _
def QDi(a:Int)(b:Int)(c:Int)(d:Int)(e:Int)(f:Sl)(g:Sl)(h:Sl)(R:Int->Int->Int->Int->Int->Sl->Int->WP):Fm f45 [3] [.agg #[.I a,.I b,.I c,.I d,.I e,f.v,g.v,h.v]] [.I,.I,.I,.I,.I,.slice,.I] R:=mf _
def QJa(v:Int)(a:Int)(to:Int)(R:Bool->WP):Fm f54 [6] [.I v,.I a,.I to] [.bool] R:=mf _
def QFw(p:Ac)(R:Bool->WP):Fm f74 [2] [.pointer p] [.bool] R:=mf _
def QPr(v:Int)(a:Int)(to:Int)(R:Bool->WP):Fm f99 [6] [.I v,.I a,.I to] [.bool] R:=mf _
def QOt(a0:Int)(a:Int)(a2:Int)(a3:Sl)(a4:Sl)(a5:Sl)(R:Bool->WP):Fm f109 [2] [.agg #[.I a0,.I a,.I a2,a3.v,a4.v,a5.v]] [.bool] R:=mf _
def QPs(d:Ac)(l:Ac)(R:Ac->Int->WP):Fm f119 [4,5] [.pointer d,.pointer l] [.ptr,.I] R:=mf _
def QFS(j:Ac)(id:Int)(code:Int)(R:Int->WP):Fm f130 [6] [.pointer j,.I id,.I code] [.I] R:=mf _
def QC8(m:Ac)(b:Sl)(R:Int->Int->Sl->Sl->Sl->Int->Bool->WP):Fm f150 [5] [.pointer m,b.v] [.I,.I,.slice,.slice,.slice,.I,.bool] R:=mf _
def QIx(code:Int)(R:Int->Bool->Bool->Bool->Bool->Bool->WP):Fm f160 [3] [.I code] [.I,.bool,.bool,.bool,.bool,.bool] R:=mf _
def QMp(b:Sl)(R:Sl->WP):Fm f169 [2] [b.v] [.slice] R:=mf _
def QFa(d:Ac)(name:ByteArray)(R:Int->WP):Fm f178 [4] [.pointer d,.string name] [.I] R:=mf _
def QPw(d:Ac)(name:ByteArray)(R:Int->WP):Fm f186 [4] [.pointer d,.string name] [.I] R:=mf _
def QLD(i:Int)(k:Int)(a:Addr)(R:Int->WP):Fm f195 [5] [.I i,.I k,.pointer (some a)] [.I] R:=mf _
def QFZ(s:Ac)(now:Int)(next:Int)(R:Sl->WP):Fm f203 [6] [.pointer s,.I now,.I next] [.slice] R:=mf _
def QNw(a0:Int)(a:Int)(a2:Int)(a3:Sl)(a4:Sl)(a5:Sl)(b:Sl)(R:Int->Sl->Sl->Sl->Int->WP):Fm f237 [5] [.agg #[.I a0,.I a,.I a2,a3.v,a4.v,a5.v],b.v] [.I,.slice,.slice,.slice,.I] R:=mf _
def QOe(b:Sl)(R:Int->WP):Fm f248 [2] [b.v] [.int .u16] R:=mf _
def QNS(a:Bool)(b:Bool)(c:Bool)(d:Int)(e:Int)(f:Int)(R:Int->WP):Fm f256 [2] [.agg #[.bool a,.bool b,.bool c,.I d,.I e,.I f]] [.I] R:=mf _
def QIR(x:Int)(R:Bool->WP):Fm f269 [2] [.I x] [.bool] R:=mf _
def QEm(m:Ac)(now:Int)(unit:Int)(a0:Int)(a:Int)(a2:Int)(a3:Sl)(a4:Sl)(a5:Sl)(R:Sl->Int->WP):Fm f327 [8,9] [.pointer m,.I now,.I unit,.agg #[.I a0,.I a,.I a2,a3.v,a4.v,a5.v]] [.slice,.I] R:=mf _
def QKx(a0:Int)(a:Int)(a2:Int)(a3:Sl)(a4:Sl)(a5:Sl)(b:Sl)(R:Int->Sl->Sl->Sl->Bool->WP):Fm f337 [5] [.agg #[.I a0,.I a,.I a2,a3.v,a4.v,a5.v],b.v] [.I,.slice,.slice,.slice,.bool] R:=mf _
def QF6(x:Int)(low:Int)(high:Int)(R:Int->WP):Fm f348 [6] [.I x,.I low,.I high] [.I] R:=mf _
def QK6(n:Int)(a:Addr)(b:Addr)(R:Sl->WP):Fm f427 [4] [.I n,.pointer (some a),.pointer (some b)] [.slice] R:=mf _
def QSb(a:Bool)(b:Bool)(c:Bool)(d:Int)(e:Int)(f:Int)(g:Sl)(R:Int->Int->WP):Fm f487 [4,5] [.agg #[.bool a,.bool b,.bool c,.I d,.I e,.I f],g.v] [.I,.I] R:=mf _
end
end Go.Cx
