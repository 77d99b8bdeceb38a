/-
What each function does, reckoned.
-/
import Derived.Test.YthbhbkjkclhkgaaGreatDoorH
namespace Go.Cx
open Go Go.Cf Go.Proofs.Tryz
noncomputable section
set_option maxRecDepth 100000
set_option maxHeartbeats 0
set_option linter.unusedVariables false
attribute [local irreducible] QHd QE4 QP5 QJI QPw QFm QPe QFo QAs QBJ XIf QC0 QDK QBW QFw QEh QJ2 QIa QNS QMH QHh QbF QNI QHm Addr.add IntKind.wrap Sl.cut QCv QGF QUa vOr QXQ vEq vNe vLt vLe vGt vGe QaK QYd QaF QCc QCZ QHy QII QLG QM2 QFU QHW QHY QWb QX9 QIF tEq tLt Builtin.append_ Builtin.copy_ Builtin.clear_ Instr.makeSlice Instr.makeMap QXT QKF ByteArray.size UInt8.ofNat
def QEe(g:Option Addr)(R:Option Addr→WP):Fm f18 [2] [.pointer g] [.ptr] R:=mf _
def QQ3(p0:Int)(p1:Int)(p2:Int)(p3:Int)(p4:Int)(p5:Sl)(R:Sl→WP):Fm f34 [2] [.agg #[.I p0,.I p1,.I p2,.I p3,.I p4,p5.v]] [.slice] R:=mf _
def QDp(b:Option Addr)(v:Int)(R:Sl→WP):Fm f44 [4] [.pointer b,.I v] [.slice] R:=mf _
def QJ3(fv0:Addr)(fv1:Addr)(R:Int→WP):Fm f53 [2] [.pointer (some fv0),.pointer (some fv1)] [.I] R:=mf _
def QEi(d:Option Addr)(R:Int→WP):Fm f72 [2] [.pointer d] [.I] R:=mf _
def QLD(b:Sl)(R:Sl→Int→WP):Fm f98 [2,3] [b.v] [.slice,.I] R:=mf _
def QXb(a0:Int)(a1:Int)(a2:Int)(a3:Sl)(a4:Sl)(a5:Sl)(R:Sl→Int→WP):Fm f108 [2,3] [.agg #[.I a0,.I a1,.I a2,a3.v,a4.v,a5.v]] [.slice,.I] R:=mf _
def QL4(d:Option Addr)(R:Option Addr→Int→WP):Fm f118 [2,3] [.pointer d] [.ptr,.I] R:=mf _
def QDn(g:Option Addr)(r0:Int)(r1:Int)(r2:ByteArray)(r3:Int)(r4:Int)(Q:WP)(R:WP):FmP f127 [] [.pointer g,.agg #[.I r0,.I r1,.string r2,.I r3,.I r4]] [] Q R:=mfP _
def QDr(g:Option Addr)(now:Int)(Q:WP)(R:WP):FmP f149 [] [.pointer g,.I now] [] Q R:=mfP _
def QJx(u:Int)(R:Bool→WP):Fm f159 [2] [.int .u8 u] [.bool] R:=mf _
def QMh(pdu:Sl)(R:Int→WP):Fm f168 [2] [pdu.v] [.I] R:=mf _
def QC2(d:Option Addr)(name:ByteArray)(n:Int)(R:Int→WP):Fm f177 [6] [.pointer d,.string name,.I n] [.I] R:=mf _
def QEH(j:Option Addr)(b:Sl)(R:Bool→WP):Fm f185 [4] [.pointer j,b.v] [.bool] R:=mf _
def QDm(d:Option Addr)(from':ByteArray)(to:ByteArray)(R:Int→WP):Fm f193 [6] [.pointer d,.string from',.string to] [.I] R:=mf _
def QHo(l:Option Addr)(R:Int→WP):Fm f202 [2] [.pointer l] [.I] R:=mf _
def QLg(a0:Int)(a1:Int)(a2:Int)(a3:Sl)(a4:Sl)(a5:Sl)(b:Sl)(R:Int→Sl→Sl→Sl→Int→WP):Fm f237 [5] [.agg #[.I a0,.I a1,.I a2,a3.v,a4.v,a5.v],b.v] [.I,.slice,.slice,.slice,.I] R:=mf _
def QOB(b:Sl)(R:Int→WP):Fm f248 [2] [b.v] [.int .u16] R:=mf _
def QLm(s0:Bool)(s1:Bool)(s2:Bool)(s3:Int)(s4:Int)(s5:Int)(R:Int→WP):Fm f256 [2] [.agg #[.bool s0,.bool s1,.bool s2,.I s3,.I s4,.I s5]] [.I] R:=mf _
def QHk(x:Int)(R:Bool→WP):Fm f269 [2] [.I x] [.bool] R:=mf _
def QEI(m:Option Addr)(now:Int)(unit:Int)(a0:Int)(a1:Int)(a2:Int)(a3:Sl)(a4:Sl)(a5:Sl)(R:Sl→Int→WP):Fm f327 [8,9] [.pointer m,.I now,.I unit,.agg #[.I a0,.I a1,.I a2,a3.v,a4.v,a5.v]] [.slice,.I] R:=mf _
def QOF(l0:Bool)(l1:Bool)(l2:Bool)(l3:Int)(l4:Int)(l5:Int)(a0:Int)(a1:Bool)(value':Int)(R:Int→Bool→Int→WP):Fm f340 [7] [.agg #[.bool l0,.bool l1,.bool l2,.I l3,.I l4,.I l5],.agg #[.I a0,.bool a1],.I value'] [.I,.bool,.I] R:=mf _
def QG5(p:Option Addr)(i:Int)(degree:Int)(R:WP):Fm f359 [] [.pointer p,.I i,.I degree] [] R:=mf _
def QH6(l0:Bool)(l1:Bool)(l2:Bool)(l3:Int)(l4:Int)(l5:Int)(R:Int→Int→Value→Value→Int→Int→Value→Value→WP):Fm f433 [] [.agg #[.bool l0,.bool l1,.bool l2,.I l3,.I l4,.I l5]] [.I,.I,.val,.val,.I,.I,.val,.val] R:=mf _
def QIu(v:Int)(fv0:Addr)(R:Bool→WP):Fm f492 [3] [.I v,.pointer (some fv0)] [.bool] R:=mf _
end
end Go.Cx
