/-
What each function does, reckoned.
-/
import Derived.Test.YthbhbkjkclhkgaaGreatDoorH
namespace Go.Cx
open Go Go.Cf Go.Proofs.Tryz
noncomputable section
set_option maxRecDepth 100000
set_option maxHeartbeats 0
set_option linter.unusedVariables false
attribute [local irreducible] QG1 QFk QRM QJK QQn QGM QQ4 QGX QAn QBE XIf QC3 QCz QBW QFl QD5 QLG QKJ QOx QM2 QIa QcS QOU QIO Addr.add IntKind.wrap Sl.cut QCy QGu QVz vOr QZJ vEq vNe vLt vLe vGt vGe QcC QbV Qb8 QCx QCu QIl QIj QN7 QOJ QFq QIK QIL QZF QbC QI9 tEq tLt Builtin.append_ Builtin.copy_ Builtin.clear_ Instr.makeSlice Instr.makeMap QZP QKR ByteArray.size UInt8.ofNat
def QFQ(d:Ac)(keep:Int)(R:WP):Fm f16 [] [.pointer d,.I keep] [] R:=mf _
def QEM(d:Ac)(name:ByteArray)(b:Sl)(R:Int->WP):Fm f30 [6] [.pointer d,.string name,b.v] [.I] R:=mf _
def QFL(m:Ac)(R:Bool->WP):Fm f42 [2] [.pointer m] [.bool] R:=mf _
def QF2(a:Int)(b:Int)(c:Int)(d:Sl)(R:Int->WP):Fm f51 [2] [.agg #[.I a,.I b,.I c,d.v]] [.I] R:=mf _
def QPb(timeout:Int)(retries:Int)(R:Ac->Int->WP):Fm f59 [4,5] [.I timeout,.I retries] [.ptr,.I] R:=mf _
def QBR(s:Sl)(i:Int)(v:Sl)(R:Sl->WP):Fm f90 [6] [s.v,.I i,v.v] [.slice] R:=mf _
def QRl(a0:Int)(a:Int)(a2:Int)(a3:Sl)(a4:Sl)(a5:Sl)(b:Int)(c:Sl)(d:Sl)(e:Sl)(R:Sl->Int->WP):Fm f106 [4,5] [.agg #[.I a0,.I a,.I a2,a3.v,a4.v,a5.v],.agg #[.I b,c.v,d.v,e.v]] [.slice,.I] R:=mf _
def QTV(d:Ac)(R:Ac->Int->WP):Fm f116 [2,3] [.pointer d] [.ptr,.I] R:=mf _
def QLW(t0:ByteArray)(a:Int)(t2:Int)(t3:Int)(t4:Int)(t5:Bool)(b:Bool)(c:Bool)(d:Int)(t9:Int)(e:Int)(f:Int)(g:Int)(h:Bool)(i:Bool)(j:Bool)(k:Int)(l:Int)(m:Int)(R:Int->Int->Int->WP):Fm f124 [] [.agg #[.string t0,.I a,.I t2,.I t3,.I t4,.bool t5,.bool b,.bool c,.I d,.I t9,.I e,.I f,.I g,.bool h,.bool i,.bool j,.I k,.I l,.I m]] [.I,.I,.I] R:=mf _
def QEQ(f0:ByteArray)(a:Sl)(b:Int)(name:ByteArray)(R:Int->WP):Fm f145 [4] [.agg #[.string f0,a.v,.I b],.string name] [.I] R:=mf _
def QPS(b:Sl)(R:Int->WP):Fm f157 [2] [b.v] [.int .u32] R:=mf _
def QPK(l:Sl)(R:Sl->WP):Fm f166 [2] [l.v] [.slice] R:=mf _
def QSY(n:Int)(R:ByteArray->WP):Fm f175 [2] [.I n] [.str] R:=mf _
def QR4(b:Sl)(R:Sl->Int->Int->WP):Fm f183 [2,3,4] [b.v] [.slice,.I,.I] R:=mf _
def QWM(b:Sl)(v:Int)(n:Int)(R:Sl->Int->WP):Fm f191 [6,7] [b.v,.int .u64 v,.I n] [.slice,.I] R:=mf _
def QLH(kind:Int)(id:Int)(rest:Sl)(R:Sl->WP):Fm f200 [6] [.int .u8 kind,.I id,rest.v] [.slice] R:=mf _
def QEL(g:Ac)(Q:WP)(R:WP):FmP f234 [] [.pointer g] [] Q R:=mfP _
def QFO(s:Ac)(R:Int->WP):Fm f242 [2] [.pointer s] [.I] R:=mf _
def QEc(code:Int)(a:Int)(b:Sl)(c:Sl)(d:Sl)(R:Bool->WP):Fm f253 [4] [.I code,.agg #[.I a,b.v,c.v,d.v]] [.bool] R:=mf _
def QM7(p:Sl)(R:Int->WP):Fm f264 [2] [p.v] [.int .u32] R:=mf _
def QCt(m:Ac)(now:Int)(R:Sl->Int->Int->Sl->Sl->Sl->Int->Bool->WP):Fm f324 [4,6] [.pointer m,.I now] [.slice,.I,.I,.slice,.slice,.slice,.I,.bool] R:=mf _
def QBL(s:Sl)(R:Sl->WP):Fm f334 [2] [s.v] [.slice] R:=mf _
def QEE(j:Ac)(id:Int)(R:Int->Int->WP):Fm f343 [4,5] [.pointer j,.I id] [.I,.I] R:=mf _
def QK3(b:Sl)(l:Sl)(R:Sl->WP):Fm f373 [4] [b.v,l.v] [.slice] R:=mf _
def QEK(l:Sl)(i:Int)(x:Ac)(R:Sl->WP):Fm f444 [6] [l.v,.I i,.pointer x] [.slice] R:=mf _
def QJg(v:Int)(a:Addr)(R:Bool->WP):Fm f492 [3] [.I v,.pointer (some a)] [.bool] R:=mf _
end
end Go.Cx
