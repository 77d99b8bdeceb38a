/-
What each function does, reckoned.
-/
import Derived.Test.YthbhbkjkclhkgaaGreatDoorH
namespace Go.Cx
open Go Go.Cf Go.Proofs.Tryz
noncomputable section
set_option maxRecDepth 100000
set_option maxHeartbeats 0
set_option linter.unusedVariables false
attribute [local irreducible] QHd QE4 QP5 QJI QPw QFm QPe QFo QAs QBJ XIf QC0 QDK QBW QFw QEh QJ2 QIa QNS QMH QHh QbF QNI QHm Addr.add IntKind.wrap Sl.cut QCv QGF QUa vOr QXQ vEq vNe vLt vLe vGt vGe QaK QYd QaF QCc QCZ QHy QII QLG QM2 QFU QHW QHY QWb QX9 QIF tEq tLt Builtin.append_ Builtin.copy_ Builtin.clear_ Instr.makeSlice Instr.makeMap QXT QKF ByteArray.size UInt8.ofNat
def QB9(g:Option Addr)(R:Int→Int→Int→Int→Int→Int→Int→Bool→WP):Fm f13 [] [.pointer g] [.I,.I,.I,.I,.I,.I,.I,.bool] R:=mf _
def QEG(d:Option Addr)(R:Sl→WP):Fm f23 [2] [.pointer d] [.slice] R:=mf _
def QIj(l:Option Addr)(R:Int→WP):Fm f40 [2] [.pointer l] [.I] R:=mf _
def QIe(a:Sl)(b:Sl)(R:Bool→WP):Fm f49 [4] [a.v,b.v] [.bool] R:=mf _
def QDu(g:Option Addr)(R:Int→WP):Fm f57 [2] [.pointer g] [.I] R:=mf _
def QJ4(s:ByteArray)(R:Bool→WP):Fm f88 [2] [.string s] [.bool] R:=mf _
def QI0(b:Sl)(R:Int→Sl→Int→WP):Fm f104 [2,3,4] [b.v] [.int .u8,.slice,.I] R:=mf _
def QNp(c0:Int)(c1:Int)(c2:Int)(c3:Int)(c4:Int)(c5:Int)(c6:Sl)(R:Bool→WP):Fm f114 [2] [.agg #[.I c0,.I c1,.I c2,.I c3,.I c4,.I c5,c6.v]] [.bool] R:=mf _
def QNP(l:Sl)(R:Sl→WP):Fm f122 [2] [l.v] [.slice] R:=mf _
def QC4(g:Option Addr)(R:WP):Fm f133 [] [.pointer g] [] R:=mf _
def QKC(b:Sl)(l:Sl)(R:Sl→WP):Fm f155 [4] [b.v,l.v] [.slice] R:=mf _
def QFh(a0:Int)(a1:Int)(a2:Int)(a3:Sl)(a4:Sl)(a5:Sl)(r0:Int)(r1:Sl)(r2:Sl)(r3:Sl)(R:Int→WP):Fm f164 [4] [.agg #[.I a0,.I a1,.I a2,a3.v,a4.v,a5.v],.agg #[.I r0,r1.v,r2.v,r3.v]] [.I] R:=mf _
def QR4(d:Option Addr)(name:ByteArray)(R:Int→WP):Fm f173 [4] [.pointer d,.string name] [.I] R:=mf _
def QMk(s0:Int)(s1:Int)(s2:Int)(s3:Sl)(fv0:Addr)(R:Bool→WP):Fm f181 [3] [.agg #[.I s0,.I s1,.I s2,s3.v],.pointer (some fv0)] [.bool] R:=mf _
def QGQ(c0:Int)(c1:Int)(c2:Int)(R:Int→Int→Int→WP):Fm f189 [] [.agg #[.I c0,.I c1,.I c2]] [.I,.I,.I] R:=mf _
def QEd(g:Option Addr)(r0:Int)(r1:Int)(r2:ByteArray)(r3:Int)(r4:Int)(Q:WP)(R:Bool→WP):FmP f198 [4] [.pointer g,.agg #[.I r0,.I r1,.string r2,.I r3,.I r4]] [.bool] Q R:=mfP _
def QDq(g:Option Addr)(to:Int)(b:Sl)(R:WP):Fm f232 [] [.pointer g,.I to,b.v] [] R:=mf _
def QE9(s:Option Addr)(now:Int)(epoch:Int)(next:Int)(R:Bool→WP):Fm f241 [8] [.pointer s,.I now,.I epoch,.I next] [.bool] R:=mf _
def QKj(s0:Int)(s1:Bool)(s2:Bool)(s3:Bool)(s4:Bool)(a0:Int)(a1:Int)(a2:Int)(a3:Sl)(a4:Sl)(a5:Sl)(R:Int→WP):Fm f252 [4] [.agg #[.I s0,.bool s1,.bool s2,.bool s3,.bool s4],.agg #[.I a0,.I a1,.I a2,a3.v,a4.v,a5.v]] [.I] R:=mf _
def QBH(s:Sl)(i:Int)(j:Int)(R:Sl→WP):Fm f263 [6] [s.v,.I i,.I j] [.slice] R:=mf _
def QIk(now:Int)(R:Bool→WP):Fm f323 [2] [.I now] [.bool] R:=mf _
def QEE(b:Sl)(R:Int→Sl→Sl→Sl→Int→WP):Fm f335 [3] [b.v] [.I,.slice,.slice,.slice,.I] R:=mf _
def QDM(g:Option Addr)(id:Int)(R:Bool→WP):Fm f344 [4] [.pointer g,.I id] [.bool] R:=mf _
def QKE(n:Int)(fv0:Addr)(fv1:Addr)(R:Sl→WP):Fm f427 [4] [.I n,.pointer (some fv0),.pointer (some fv1)] [.slice] R:=mf _
def QL7(s0:Bool)(s1:Bool)(s2:Bool)(s3:Int)(s4:Int)(s5:Int)(raw:Int)(R:Int→Int→WP):Fm f488 [4,5] [.agg #[.bool s0,.bool s1,.bool s2,.I s3,.I s4,.I s5],.I raw] [.I,.I] R:=mf _
end
end Go.Cx
