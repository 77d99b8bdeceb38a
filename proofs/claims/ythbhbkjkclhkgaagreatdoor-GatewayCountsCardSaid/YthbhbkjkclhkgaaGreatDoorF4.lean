/-
What each function does, reckoned.
-/
import Derived.Test.YthbhbkjkclhkgaaGreatDoorH
namespace Go.Cx
open Go Go.Cf Go.Proofs.Tryz
noncomputable section
set_option maxRecDepth 100000
set_option maxHeartbeats 0
set_option linter.unusedVariables false
attribute [local irreducible] QG1 QFk QRM QJK QQn QGM QQ4 QGX QAn QBE XIf QC3 QCz QBW QFl QD5 QLG QKJ QOx QM2 QIa QcS QOU QIO Addr.add IntKind.wrap Sl.cut QCy QGu QVz vOr QZJ vEq vNe vLt vLe vGt vGe QcC QbV Qb8 QCx QCu QIl QIj QN7 QOJ QFq QIK QIL QZF QbC QI9 tEq tLt Builtin.append_ Builtin.copy_ Builtin.clear_ Instr.makeSlice Instr.makeMap QZP QKR ByteArray.size UInt8.ofNat
def QG3(b:Ac)(a:Int)(c:Int)(R:Bool->WP):Fm f14 [4] [.pointer b,.agg #[.I a,.I c]] [.bool] R:=mf _
def QFK(d:Ac)(R:Int->WP):Fm f24 [2] [.pointer d] [.I] R:=mf _
def QDk(l:Ac)(R:Int->WP):Fm f41 [2] [.pointer l] [.I] R:=mf _
def QHY(b:Ac)(l:Sl)(R:WP):Fm f50 [] [.pointer b,l.v] [] R:=mf _
def QOw(window:Int)(resend:Int)(epoch:Int)(base:Int)(R:Ac->Int->WP):Fm f58 [8,9] [.I window,.I resend,.I epoch,.I base] [.ptr,.I] R:=mf _
def QFY(p:Ac)(R:Bool->WP):Fm f89 [2] [.pointer p] [.bool] R:=mf _
def QVR(b:Sl)(R:Int->Int->Int->Sl->Sl->Sl->Int->WP):Fm f105 [3] [b.v] [.I,.I,.I,.slice,.slice,.slice,.I] R:=mf _
def QJN(l:Sl)(R:Int->Int->WP):Fm f115 [2,3] [l.v] [.I,.I] R:=mf _
def QPH(t0:ByteArray)(a:Int)(t2:Int)(t3:Int)(t4:Int)(t5:Bool)(b:Bool)(c:Bool)(d:Int)(t9:Int)(e:Int)(f:Int)(g:Int)(h:Bool)(i:Bool)(j:Bool)(k:Int)(l:Int)(m:Int)(R:Int->WP):Fm f123 [2] [.agg #[.string t0,.I a,.I t2,.I t3,.I t4,.bool t5,.bool b,.bool c,.I d,.I t9,.I e,.I f,.I g,.bool h,.bool i,.bool j,.I k,.I l,.I m]] [.I] R:=mf _
def QAq(x:Sl)(target:ByteArray)(R:Int->Bool->WP):Fm f144 [6,7] [x.v,.string target,.func (.func 145) #[] #[]] [.I,.bool] R:=mf _
def QMX(b:Sl)(R:Sl->WP):Fm f156 [2] [b.v] [.slice] R:=mf _
def QSt(l:Sl)(R:Sl->WP):Fm f165 [2] [l.v] [.slice] R:=mf _
def QKN(d:Ac)(R:Int->Int->Int->WP):Fm f174 [2,3] [.pointer d] [.I,.I,.I] R:=mf _
def QES(d:Ac)(name:ByteArray)(R:Int->WP):Fm f182 [4] [.pointer d,.string name] [.I] R:=mf _
def QFT(n0:Int)(a:Int)(b:Int)(R:Bool->WP):Fm f190 [2] [.agg #[.I n0,.I a,.I b]] [.bool] R:=mf _
def QFM(j:Ac)(p:Sl)(R:Int->WP):Fm f199 [4] [.pointer j,p.v] [.I] R:=mf _
def QDu(g:Ac)(Q:WP)(R:WP):FmP f233 [] [.pointer g] [] Q R:=mfP _
def QFy(s:Ac)(now:Int)(epoch:Int)(next:Int)(R:Bool->WP):Fm f241 [8] [.pointer s,.I now,.I epoch,.I next] [.bool] R:=mf _
def QV2(a:Int)(b:Bool)(c:Bool)(d:Bool)(e:Bool)(a0:Int)(f:Int)(a2:Int)(a3:Sl)(a4:Sl)(a5:Sl)(R:Int->WP):Fm f252 [4] [.agg #[.I a,.bool b,.bool c,.bool d,.bool e],.agg #[.I a0,.I f,.I a2,a3.v,a4.v,a5.v]] [.I] R:=mf _
def QBQ(s:Sl)(i:Int)(j:Int)(R:Sl->WP):Fm f263 [6] [s.v,.I i,.I j] [.slice] R:=mf _
def QJf(now:Int)(R:Bool->WP):Fm f323 [2] [.I now] [.bool] R:=mf _
def QGv(l:Ac)(a:Int)(b:Int)(c:Int)(d:Sl)(R:Int->WP):Fm f333 [4] [.pointer l,.agg #[.I a,.I b,.I c,d.v]] [.I] R:=mf _
def QDZ(a:Int)(b:Int)(c:Int)(d:Int)(e:Int)(f:Sl)(R:Int->Int->Int->Int->Int->Sl->Sl->Sl->Int->WP):Fm f342 [3] [.agg #[.I a,.I b,.I c,.I d,.I e,f.v]] [.I,.I,.I,.I,.I,.slice,.slice,.slice,.I] R:=mf _
def QJp(l:Sl)(i:Int)(x:Int)(R:Sl->WP):Fm f362 [6] [l.v,.I i,.I x] [.slice] R:=mf _
def QI0(a:Bool)(b:Bool)(c:Bool)(d:Int)(e:Int)(f:Int)(R:Int->Int->Value->Value->Int->Int->Value->Value->WP):Fm f433 [] [.agg #[.bool a,.bool b,.bool c,.I d,.I e,.I f]] [.I,.I,.val,.val,.I,.I,.val,.val] R:=mf _
def QJ2(v:Int)(a:Addr)(R:Bool->WP):Fm f491 [3] [.I v,.pointer (some a)] [.bool] R:=mf _
end
end Go.Cx
