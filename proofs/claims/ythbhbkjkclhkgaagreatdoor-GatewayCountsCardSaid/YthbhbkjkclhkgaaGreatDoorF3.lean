/-
What each function does, reckoned.
-/
import Derived.Test.YthbhbkjkclhkgaaGreatDoorH
namespace Go.Cx
open Go Go.Cf Go.Proofs.Tryz
noncomputable section
set_option maxRecDepth 100000
set_option maxHeartbeats 0
set_option linter.unusedVariables false
attribute [local irreducible] QG1 QFk QRM QJK QQn QGM QQ4 QGX QAn QBE XIf QC3 QCz QBW QFl QD5 QLG QKJ QOx QM2 QIa QcS QOU QIO Addr.add IntKind.wrap Sl.cut QCy QGu QVz vOr QZJ vEq vNe vLt vLe vGt vGe QcC QbV Qb8 QCx QCu QIl QIj QN7 QOJ QFq QIK QIL QZF QbC QI9 tEq tLt Builtin.append_ Builtin.copy_ Builtin.clear_ Instr.makeSlice Instr.makeMap QZP QKR ByteArray.size UInt8.ofNat
def QCG(g:Ac)(R:Int->Int->Int->Int->Int->Int->Int->Bool->WP):Fm f13 [] [.pointer g] [.I,.I,.I,.I,.I,.I,.I,.bool] R:=mf _
def QEv(d:Ac)(R:Sl->WP):Fm f23 [2] [.pointer d] [.slice] R:=mf _
def QJw(l:Ac)(R:Int->WP):Fm f40 [2] [.pointer l] [.I] R:=mf _
def QKA(a:Sl)(b:Sl)(R:Bool->WP):Fm f49 [4] [a.v,b.v] [.bool] R:=mf _
def QEN(g:Ac)(R:Int->WP):Fm f57 [2] [.pointer g] [.I] R:=mf _
def QK7(s:ByteArray)(R:Bool->WP):Fm f88 [2] [.string s] [.bool] R:=mf _
def QJr(b:Sl)(R:Int->Sl->Int->WP):Fm f104 [2,3,4] [b.v] [.int .u8,.slice,.I] R:=mf _
def QO5(a:Int)(b:Int)(c:Int)(d:Int)(e:Int)(f:Int)(g:Sl)(R:Bool->WP):Fm f114 [2] [.agg #[.I a,.I b,.I c,.I d,.I e,.I f,g.v]] [.bool] R:=mf _
def QOy(l:Sl)(R:Sl->WP):Fm f122 [2] [l.v] [.slice] R:=mf _
def QDS(g:Ac)(R:WP):Fm f133 [] [.pointer g] [] R:=mf _
def QLV(b:Sl)(l:Sl)(R:Sl->WP):Fm f155 [4] [b.v,l.v] [.slice] R:=mf _
def QGa(a0:Int)(a:Int)(a2:Int)(a3:Sl)(a4:Sl)(a5:Sl)(b:Int)(c:Sl)(d:Sl)(e:Sl)(R:Int->WP):Fm f164 [4] [.agg #[.I a0,.I a,.I a2,a3.v,a4.v,a5.v],.agg #[.I b,c.v,d.v,e.v]] [.I] R:=mf _
def QSP(d:Ac)(name:ByteArray)(R:Int->WP):Fm f173 [4] [.pointer d,.string name] [.I] R:=mf _
def QMD(a:Int)(b:Int)(c:Int)(d:Sl)(e:Addr)(R:Bool->WP):Fm f181 [3] [.agg #[.I a,.I b,.I c,d.v],.pointer (some e)] [.bool] R:=mf _
def QG0(a:Int)(b:Int)(c:Int)(R:Int->Int->Int->WP):Fm f189 [] [.agg #[.I a,.I b,.I c]] [.I,.I,.I] R:=mf _
def QE1(g:Ac)(a:Int)(b:Int)(c:ByteArray)(d:Int)(e:Int)(Q:WP)(R:Bool->WP):FmP f198 [4] [.pointer g,.agg #[.I a,.I b,.string c,.I d,.I e]] [.bool] Q R:=mfP _
def QER(g:Ac)(to:Int)(b:Sl)(R:WP):Fm f232 [] [.pointer g,.I to,b.v] [] R:=mf _
def QPf(a:Int)(b:Int)(c:Int)(now:Int)(ok:Bool)(R:Int->Int->Int->WP):Fm f240 [] [.agg #[.I a,.I b,.I c],.I now,.bool ok] [.I,.I,.I] R:=mf _
def QIG(b:Sl)(R:Sl->Int->WP):Fm f251 [2,3] [b.v] [.slice,.I] R:=mf _
def QA9(s:Sl)(a:Addr)(R:Int->WP):Fm f262 [4] [s.v,.func (.func 181) #[] #[.pointer (some a)]] [.I] R:=mf _
def QHM(x:Ac)(time:Int)(seq:Int)(R:Int->WP):Fm f272 [6] [.pointer x,.I time,.I seq] [.I] R:=mf _
def QIW(l:Ac)(to:Int)(keep:Int)(R:Int->WP):Fm f332 [6] [.pointer l,.I to,.I keep] [.I] R:=mf _
def QNr(a:Int)(b:Int)(c:Int)(R:Bool->WP):Fm f341 [2] [.agg #[.I a,.I b,.I c]] [.bool] R:=mf _
def QGJ(l:Sl)(i:Int)(a:Int)(b:Int)(R:Sl->WP):Fm f361 [6] [l.v,.I i,.agg #[.I a,.I b]] [.slice] R:=mf _
def QOu(a:Int)(b:Int)(R:Int->WP):Fm f432 [4] [.I a,.I b] [.int .u64] R:=mf _
def QKG(v:Int)(a:Addr)(R:Bool->WP):Fm f490 [3] [.I v,.pointer (some a)] [.bool] R:=mf _
end
end Go.Cx
