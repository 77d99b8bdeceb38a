/-
What each function does, reckoned.
-/
import Derived.Test.YthbhbkjkclhkgaaGreatDoorH
namespace Go.Cx
open Go Go.Cf Go.Proofs.Tryz
noncomputable section
set_option maxRecDepth 100000
set_option maxHeartbeats 0
set_option linter.unusedVariables false
attribute [local irreducible] QG1 QFk QRM QJK QQn QGM QQ4 QGX QAn QBE XIf QC3 QCz QBW QFl QD5 QLG QKJ QOx QM2 QIa QcS QOU QIO Addr.add IntKind.wrap Sl.cut QCy QGu QVz vOr QZJ vEq vNe vLt vLe vGt vGe QcC QbV Qb8 QCx QCu QIl QIj QN7 QOJ QFq QIK QIL QZF QbC QI9 tEq tLt Builtin.append_ Builtin.copy_ Builtin.clear_ Instr.makeSlice Instr.makeMap QZP QKR ByteArray.size UInt8.ofNat
def QG2(b:Ac)(R:Bool->WP):Fm f17 [2] [.pointer b] [.bool] R:=mf _
def QFI(g:Ac)(a:Int)(b:Int)(c:Sl)(d:ByteArray)(R:Sl->WP):Fm f33 [4] [.pointer g,.agg #[.I a,.I b,c.v,.string d]] [.slice] R:=mf _
def QIb(b:Ac)(a:Int)(c:Int)(d:Sl)(e:ByteArray)(R:WP):Fm f43 [] [.pointer b,.agg #[.I a,.I c,d.v,.string e]] [] R:=mf _
def QBT(s:Sl)(R:Sl->WP):Fm f52 [2] [s.v] [.slice] R:=mf _
def QRt(every:Int)(now:Int)(R:Int->Int->Int->Int->WP):Fm f61 [5] [.I every,.I now] [.I,.I,.I,.I] R:=mf _
def QOg(a:Int)(b:Int)(c:Int)(d:Int)(e:Int)(f:Sl)(R:Sl->Int->WP):Fm f97 [2,3] [.agg #[.I a,.I b,.I c,.I d,.I e,f.v]] [.slice,.I] R:=mf _
def QR0(unit:Int)(pdu:Sl)(R:Sl->Int->WP):Fm f107 [4,5] [.int .u8 unit,pdu.v] [.slice,.I] R:=mf _
def QMw(d:Ac)(R:Int->Int->Int->Int->WP):Fm f117 [3] [.pointer d] [.I,.I,.I,.I] R:=mf _
def QOq(kind:Int)(R:Int->WP):Fm f125 [2] [.I kind] [.I] R:=mf _
def QE7(x:ByteArray)(y:ByteArray)(R:Int->WP):Fm f146 [4] [.string x,.string y] [.I] R:=mf _
def QNv(b:Sl)(R:Sl->Int->WP):Fm f158 [2,3] [b.v] [.slice,.I] R:=mf _
def QM0(b:Sl)(R:Sl->WP):Fm f167 [2] [b.v] [.slice] R:=mf _
def QO3(b:Sl)(R:Sl->Int->WP):Fm f176 [2,3] [b.v] [.slice,.I] R:=mf _
def QWd(b:Sl)(a:Int)(n:Int)(R:Int->Int->WP):Fm f184 [6,7] [b.v,.I a,.I n] [.int .u64,.I] R:=mf _
def QJx(p:Sl)(R:Sl->Int->WP):Fm f192 [2,3] [p.v] [.slice,.I] R:=mf _
def QDE(g:Ac)(a:Int)(b:Int)(c:Int)(d:Int)(e:Int)(f:Sl)(R:WP):Fm f201 [] [.pointer g,.agg #[.I a,.I b,.I c,.I d,.I e,f.v]] [] R:=mf _
def QGt(x:Ac)(R:Int->WP):Fm f235 [2] [.pointer x] [.I] R:=mf _
def QDv(g:Ac)(a:Int)(b:Int)(c:Int)(d:Int)(e:Int)(f:Sl)(R:WP):Fm f243 [] [.pointer g,.agg #[.I a,.I b,.I c,.I d,.I e,f.v]] [] R:=mf _
def QEd(a0:Int)(a:Int)(a2:Int)(a3:Sl)(a4:Sl)(a5:Sl)(b:Int)(c:Sl)(d:Sl)(e:Sl)(R:Bool->WP):Fm f254 [4] [.agg #[.I a0,.I a,.I a2,a3.v,a4.v,a5.v],.agg #[.I b,c.v,d.v,e.v]] [.bool] R:=mf _
def QVm(a:Int)(R:Ac->Int->WP):Fm f265 [2,3] [.I a] [.ptr,.I] R:=mf _
def QCd(m:Ac)(x:Int)(R:Sl->Int->Int->Sl->Sl->Sl->Int->Bool->WP):Fm f325 [4,6] [.pointer m,.I x] [.slice,.I,.I,.slice,.slice,.slice,.I,.bool] R:=mf _
def QEp(b:Sl)(R:Int->Sl->Sl->Sl->Int->WP):Fm f335 [3] [b.v] [.I,.slice,.slice,.slice,.I] R:=mf _
def QDn(g:Ac)(id:Int)(R:Bool->WP):Fm f344 [4] [.pointer g,.I id] [.bool] R:=mf _
def QHN(t:Ac)(a:Int)(b:Int)(c:Int)(d:Int)(R:Value->WP):Fm f425 [6] [.pointer t,.agg #[.I a,.I b],.agg #[.I c,.I d]] [.val] R:=mf _
def QPT(a0:Int)(a:Int)(b:Int)(c:Int)(R:Bool->WP):Fm f445 [4] [.agg #[.I a0,.I a],.agg #[.I b,.I c]] [.bool] R:=mf _
def QPU(a:Bool)(b:Bool)(c:Bool)(d:Int)(e:Int)(f:Int)(R:Int->WP):Fm f511 [2] [.agg #[.bool a,.bool b,.bool c,.I d,.I e,.I f]] [.I] R:=mf _
end
end Go.Cx
