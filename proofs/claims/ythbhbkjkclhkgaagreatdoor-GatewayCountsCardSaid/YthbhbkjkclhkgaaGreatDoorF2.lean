/-
What each function does, reckoned.
-/
import Derived.Test.YthbhbkjkclhkgaaGreatDoorH
namespace Go.Cx
open Go Go.Cf Go.Proofs.Tryz
noncomputable section
set_option maxRecDepth 100000
set_option maxHeartbeats 0
set_option linter.unusedVariables false
attribute [local irreducible] QG1 QFk QRM QJK QQn QGM QQ4 QGX QAn QBE XIf QC3 QCz QBW QFl QD5 QLG QKJ QOx QM2 QIa QcS QOU QIO Addr.add IntKind.wrap Sl.cut QCy QGu QVz vOr QZJ vEq vNe vLt vLe vGt vGe QcC QbV Qb8 QCx QCu QIl QIj QN7 QOJ QFq QIK QIL QZF QbC QI9 tEq tLt Builtin.append_ Builtin.copy_ Builtin.clear_ Instr.makeSlice Instr.makeMap QZP QKR ByteArray.size UInt8.ofNat
def QW8(k:Int)(n:Int)(R:Int->WP):Fm f12 [4] [.I k,.I n] [.I] R:=mf _
def QHS(a:Int)(b:Int)(c:Int)(e:Int)(f:Int)(g:Int)(h:Sl)(d:Ac)(now:Int)(R:Ac->Sl->Int->WP):Fm f22 [6,7,8] [.agg #[.I a,.I b,.I c,.I e,.I f,.I g,h.v],.pointer d,.I now] [.ptr,.slice,.I] R:=mf _
def QJl(l:Ac)(R:Int->WP):Fm f39 [2] [.pointer l] [.I] R:=mf _
def QG4(p:Ac)(n:Int)(R:WP):Fm f47 [] [.pointer p,.I n] [] R:=mf _
def QLX(a:Int)(b:Int)(c:Int)(d:Int)(e:Int)(f:Int)(g:Sl)(R:Int->WP):Fm f56 [2] [.agg #[.I a,.I b,.I c,.I d,.I e,.I f,g.v]] [.I] R:=mf _
def QFV(d:Ac)(name:ByteArray)(R:Int->Bool->WP):Fm f87 [4,5] [.pointer d,.string name] [.I,.bool] R:=mf _
def QG5(l:Ac)(R:Ac->WP):Fm f103 [2] [.pointer l] [.ptr] R:=mf _
def QIT(b:Ac)(p:Sl)(a:Int)(c:Int)(d:Int)(e:Int)(f:Int)(g:Int)(h:Int)(i:Bool)(R:WP):Fm f112 [] [.pointer b,p.v,.agg #[.I a,.I c,.I d,.I e,.I f,.I g,.I h,.bool i]] [] R:=mf _
def QKK(n:Int)(low:Int)(high:Int)(R:Bool->WP):Fm f121 [6] [.I n,.I low,.I high] [.bool] R:=mf _
def QJR(l:Ac)(R:Int->WP):Fm f132 [2] [.pointer l] [.I] R:=mf _
def QEH(g:Ac)(b:Sl)(Q:WP)(R:WP):FmP f152 [] [.pointer g,b.v] [] Q R:=mfP _
def QP1(b:Sl)(R:Int->Int->Int->Sl->Sl->Sl->Bool->WP):Fm f162 [3] [b.v] [.I,.I,.I,.slice,.slice,.slice,.bool] R:=mf _
def QLC(v:Int)(a:Int)(to:Int)(R:Bool->WP):Fm f171 [6] [.I v,.I a,.I to] [.bool] R:=mf _
def QA3(s:Sl)(a:Addr)(R:Bool->WP):Fm f180 [4] [s.v,.func (.func 181) #[] #[.pointer (some a)]] [.bool] R:=mf _
def QHJ(x:Ac)(time:Int)(seq:Int)(R:WP):Fm f188 [] [.pointer x,.I time,.I seq] [] R:=mf _
def QGx(x:Int)(y:Int)(R:Int->WP):Fm f197 [4] [.I x,.I y] [.I] R:=mf _
def QDI(m:Ac)(now:Int)(R:Sl->Int->Int->Sl->Sl->Sl->Int->Bool->WP):Fm f231 [4,6] [.pointer m,.I now] [.slice,.I,.I,.slice,.slice,.slice,.I,.bool] R:=mf _
def QDP(g:Ac)(a:Int)(b:Int)(c:Int)(d:Int)(e:Int)(f:Sl)(h:Int)(i:Sl)(j:Sl)(k:Sl)(Q:WP)(R:WP):FmP f239 [] [.pointer g,.agg #[.I a,.I b,.I c,.I d,.I e,f.v],.agg #[.I h,i.v,j.v,k.v]] [] Q R:=mfP _
def QMU(b:Sl)(n:Int)(R:Sl->Int->WP):Fm f250 [4,5] [b.v,.I n] [.slice,.I] R:=mf _
def QNa(a:Bool)(b:Bool)(c:Bool)(d:Int)(e:Int)(f:Int)(R:Int->WP):Fm f258 [2] [.agg #[.bool a,.bool b,.bool c,.I d,.I e,.I f]] [.I] R:=mf _
def QHZ(l:Ac)(p:Sl)(R:Int->Int->WP):Fm f271 [4,5] [.pointer l,p.v] [.I,.I] R:=mf _
def QVt(a:Int)(b:Int)(c:Int)(d:Int)(e:Int)(f:Sl)(R:Int->Int->Int->Sl->Sl->Sl->Int->WP):Fm f329 [3] [.agg #[.I a,.I b,.I c,.I d,.I e,f.v]] [.I,.I,.I,.slice,.slice,.slice,.I] R:=mf _
def QPX(a:Bool)(b:Bool)(c:Bool)(d:Int)(e:Int)(f:Int)(a0:Int)(g:Bool)(h:Int)(R:Int->Bool->Int->WP):Fm f340 [7] [.agg #[.bool a,.bool b,.bool c,.I d,.I e,.I f],.agg #[.I a0,.bool g],.I h] [.I,.bool,.I] R:=mf _
def QHb(p:Ac)(i:Int)(a:Int)(R:WP):Fm f359 [] [.pointer p,.I i,.I a] [] R:=mf _
def QPN(t0:ByteArray)(a:Int)(t2:Int)(t3:Int)(t4:Int)(t5:Bool)(b:Bool)(c:Bool)(d:Int)(t9:Int)(e:Int)(f:Int)(g:Int)(h:Bool)(i:Bool)(j:Bool)(k:Int)(l:Int)(m:Int)(n:Int)(o:Int)(p:Int)(q:Int)(r:Int)(s:Sl)(t:Int)(u:Sl)(w:Sl)(x:Sl)(R:Int->WP):Fm f431 [6] [.agg #[.string t0,.I a,.I t2,.I t3,.I t4,.bool t5,.bool b,.bool c,.I d,.I t9,.I e,.I f,.I g,.bool h,.bool i,.bool j,.I k,.I l,.I m],.agg #[.I n,.I o,.I p,.I q,.I r,s.v],.agg #[.I t,u.v,w.v,x.v]] [.I] R:=mf _
def QJT(v:Int)(a:Addr)(R:Bool->WP):Fm f489 [3] [.I v,.pointer (some a)] [.bool] R:=mf _
end
end Go.Cx
