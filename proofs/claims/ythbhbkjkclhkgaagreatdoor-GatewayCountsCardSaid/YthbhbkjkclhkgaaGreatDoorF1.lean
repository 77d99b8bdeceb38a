/-
What each function does, reckoned.
-/
import Derived.Test.YthbhbkjkclhkgaaGreatDoorH
namespace Go.Cx
open Go Go.Cf Go.Proofs.Tryz
noncomputable section
set_option maxRecDepth 100000
set_option maxHeartbeats 0
set_option linter.unusedVariables false
attribute [local irreducible] QG1 QFk QRM QJK QQn QGM QQ4 QGX QAn QBE XIf QC3 QCz QBW QFl QD5 QLG QKJ QOx QM2 QIa QcS QOU QIO Addr.add IntKind.wrap Sl.cut QCy QGu QVz vOr QZJ vEq vNe vLt vLe vGt vGe QcC QbV Qb8 QCx QCu QIl QIj QN7 QOJ QFq QIK QIL QZF QbC QI9 tEq tLt Builtin.append_ Builtin.copy_ Builtin.clear_ Instr.makeSlice Instr.makeMap QZP QKR ByteArray.size UInt8.ofNat
def QNj(a:Int)(b:Int)(c:Int)(d:Int)(e:Int)(f:Int)(g:Sl)(room:Int)(R:Ac->WP):Fm f10 [4] [.agg #[.I a,.I b,.I c,.I d,.I e,.I f,g.v],.I room] [.ptr] R:=mf _
def QPn(room:Int)(R:Ac->Int->WP):Fm f21 [2,3] [.I room] [.ptr,.I] R:=mf _
def QM9(name:ByteArray)(addr:Int)(R:ByteArray->Int->Int->Int->Int->Bool->Bool->Bool->Int->Int->Int->Int->Int->Bool->Bool->Bool->Int->Int->Int->WP):Fm f38 [] [.string name,.I addr] [.str,.I,.I,.I,.I,.bool,.bool,.bool,.I,.I,.I,.I,.I,.bool,.bool,.bool,.I,.I,.I] R:=mf _
def QJD(id:Int)(R:Int->Int->Int->Sl->Sl->Sl->WP):Fm f46 [] [.I id] [.I,.I,.I,.slice,.slice,.slice] R:=mf _
def QK2(a:Int)(b:Int)(c:ByteArray)(d:Int)(e:Int)(R:Int->WP):Fm f55 [2] [.agg #[.I a,.I b,.string c,.I d,.I e]] [.I] R:=mf _
def QFH(d:Ac)(name:ByteArray)(R:Sl->Int->WP):Fm f77 [4,5] [.pointer d,.string name] [.slice,.I] R:=mf _
def QJP(b:Sl)(R:Int->WP):Fm f100 [2] [b.v] [.I] R:=mf _
def QGw(b:Ac)(p:Sl)(R:WP):Fm f111 [] [.pointer b,p.v] [] R:=mf _
def QMj(d:Ac)(a:Int)(b:Int)(c:Int)(R:Int->WP):Fm f120 [4] [.pointer d,.agg #[.I a,.I b,.I c]] [.I] R:=mf _
def QED(g:Ac)(id:Int)(code:Int)(R:WP):Fm f131 [] [.pointer g,.I id,.I code] [] R:=mf _
def QEG(g:Ac)(a:Int)(b:Int)(c:Sl)(d:Sl)(e:Sl)(o5:Int)(Q:WP)(R:WP):FmP f151 [] [.pointer g,.agg #[.I a,.I b,c.v,d.v,e.v,.I o5]] [] Q R:=mfP _
def QTg(b:Sl)(R:Int->WP):Fm f161 [2] [b.v] [.I] R:=mf _
def QaA(b:Sl)(l:Sl)(R:Sl->WP):Fm f170 [4] [b.v,l.v] [.slice] R:=mf _
def QMi(name:ByteArray)(R:Bool->WP):Fm f179 [2] [.string name] [.bool] R:=mf _
def QFz(x:Ac)(R:WP):Fm f187 [] [.pointer x] [] R:=mf _
def QMx(vals:Sl)(R:Int->WP):Fm f196 [2] [vals.v] [.I] R:=mf _
def QGC(x:ByteArray)(R:Bool->WP):Fm f229 [2] [.string x] [.bool] R:=mf _
def QDb(m:Ac)(what:Int)(a:Int)(b:Sl)(c:Sl)(d:Sl)(R:Int->Int->Sl->Sl->Sl->Int->Bool->WP):Fm f238 [7] [.pointer m,.I what,.agg #[.I a,b.v,c.v,d.v]] [.I,.I,.slice,.slice,.slice,.I,.bool] R:=mf _
def QSq(b:Sl)(R:Sl->Bool->WP):Fm f249 [2,3] [b.v] [.slice,.bool] R:=mf _
def QPp(a:Int)(b:Int)(R:Int->WP):Fm f257 [2] [.agg #[.I a,.I b]] [.I] R:=mf _
def QOp(a:Int)(b:Int)(c:ByteArray)(d:Int)(e:Int)(R:Sl->Int->WP):Fm f270 [2,3] [.agg #[.I a,.I b,.string c,.I d,.I e]] [.slice,.I] R:=mf _
def QTh(l:Sl)(now:Int)(R:Int->WP):Fm f328 [4] [l.v,.I now] [.I] R:=mf _
def QMZ(l:Sl)(a:Int)(b:Int)(c:Int)(d:Int)(e:Int)(f:Sl)(g:Int)(h:Sl)(i:Sl)(j:Sl)(R:Sl->Int->WP):Fm f338 [6,7] [l.v,.agg #[.I a,.I b,.I c,.I d,.I e,f.v],.agg #[.I g,h.v,i.v,j.v]] [.slice,.I] R:=mf _
def QM3(used:Bool)(v:Int)(R:Bool->WP):Fm f349 [4] [.bool used,.I v] [.bool] R:=mf _
def QMT(t0:ByteArray)(a:Int)(t2:Int)(t3:Int)(t4:Int)(t5:Bool)(b:Bool)(c:Bool)(d:Int)(t9:Int)(e:Int)(f:Int)(g:Int)(h:Bool)(i:Bool)(j:Bool)(k:Int)(l:Int)(m:Int)(n:Int)(o:Int)(p:Int)(q:Int)(r:Int)(s:Sl)(R:Bool->WP):Fm f430 [4] [.agg #[.string t0,.I a,.I t2,.I t3,.I t4,.bool t5,.bool b,.bool c,.I d,.I t9,.I e,.I f,.I g,.bool h,.bool i,.bool j,.I k,.I l,.I m],.agg #[.I n,.I o,.I p,.I q,.I r,s.v]] [.bool] R:=mf _
def QME(a:Bool)(b:Bool)(c:Bool)(d:Int)(e:Int)(f:Int)(g:Int)(R:Int->Int->WP):Fm f488 [4,5] [.agg #[.bool a,.bool b,.bool c,.I d,.I e,.I f],.I g] [.I,.I] R:=mf _
end
end Go.Cx
