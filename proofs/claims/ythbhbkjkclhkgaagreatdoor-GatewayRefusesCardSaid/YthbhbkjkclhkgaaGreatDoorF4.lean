/-
What each function does, reckoned.
-/
import Derived.Test.YthbhbkjkclhkgaaGreatDoorH
namespace Go.Cx
open Go Go.Cf Go.Proofs.Tryz
noncomputable section
set_option maxRecDepth 100000
set_option maxHeartbeats 0
set_option linter.unusedVariables false
attribute [local irreducible] QHd QE4 QP5 QJI QPw QFm QPe QFo QAs QBJ XIf QC0 QDK QBW QFw QEh QJ2 QIa QNS QMH QHh QbF QNI QHm Addr.add IntKind.wrap Sl.cut QCv QGF QUa vOr QXQ vEq vNe vLt vLe vGt vGe QaK QYd QaF QCc QCZ QHy QII QLG QM2 QFU QHW QHY QWb QX9 QIF tEq tLt Builtin.append_ Builtin.copy_ Builtin.clear_ Instr.makeSlice Instr.makeMap QXT QKF ByteArray.size UInt8.ofNat
def QGG(b:Option Addr)(m0:Int)(m1:Int)(R:Bool→WP):Fm f14 [4] [.pointer b,.agg #[.I m0,.I m1]] [.bool] R:=mf _
def QEn(d:Option Addr)(R:Int→WP):Fm f24 [2] [.pointer d] [.I] R:=mf _
def QDI(l:Option Addr)(R:Int→WP):Fm f41 [2] [.pointer l] [.I] R:=mf _
def QG4(b:Option Addr)(l:Sl)(R:WP):Fm f50 [] [.pointer b,l.v] [] R:=mf _
def QOA(window:Int)(resend:Int)(epoch:Int)(base:Int)(R:Option Addr→Int→WP):Fm f58 [8,9] [.I window,.I resend,.I epoch,.I base] [.ptr,.I] R:=mf _
def QEu(p:Option Addr)(R:Bool→WP):Fm f89 [2] [.pointer p] [.bool] R:=mf _
def QS7(b:Sl)(R:Int→Int→Int→Sl→Sl→Sl→Int→WP):Fm f105 [3] [b.v] [.I,.I,.I,.slice,.slice,.slice,.I] R:=mf _
def QJB(l:Sl)(R:Int→Int→WP):Fm f115 [2,3] [l.v] [.I,.I] R:=mf _
def QNx(t0:ByteArray)(t1:Int)(t2:Int)(t3:Int)(t4:Int)(t5:Bool)(t6:Bool)(t7:Bool)(t8:Int)(t9:Int)(t10:Int)(t11:Int)(t12:Int)(t13:Bool)(t14:Bool)(t15:Bool)(t16:Int)(t17:Int)(t18:Int)(R:Int→WP):Fm f123 [2] [.agg #[.string t0,.I t1,.I t2,.I t3,.I t4,.bool t5,.bool t6,.bool t7,.I t8,.I t9,.I t10,.I t11,.I t12,.bool t13,.bool t14,.bool t15,.I t16,.I t17,.I t18]] [.I] R:=mf _
def QAl(x:Sl)(target:ByteArray)(R:Int→Bool→WP):Fm f144 [6,7] [x.v,.string target,.func (.func 145) #[] #[]] [.I,.bool] R:=mf _
def QLu(b:Sl)(R:Sl→WP):Fm f156 [2] [b.v] [.slice] R:=mf _
def QQ1(l:Sl)(R:Sl→WP):Fm f165 [2] [l.v] [.slice] R:=mf _
def QIc(d:Option Addr)(R:Int→Int→Int→WP):Fm f174 [2,3] [.pointer d] [.I,.I,.I] R:=mf _
def QDw(d:Option Addr)(name:ByteArray)(R:Int→WP):Fm f182 [4] [.pointer d,.string name] [.I] R:=mf _
def QEm(n0:Int)(n1:Int)(n2:Int)(R:Bool→WP):Fm f190 [2] [.agg #[.I n0,.I n1,.I n2]] [.bool] R:=mf _
def QEy(j:Option Addr)(p:Sl)(R:Int→WP):Fm f199 [4] [.pointer j,p.v] [.I] R:=mf _
def QDU(g:Option Addr)(Q:WP)(R:WP):FmP f233 [] [.pointer g] [] Q R:=mfP _
def QEq(s:Option Addr)(R:Int→WP):Fm f242 [2] [.pointer s] [.I] R:=mf _
def QD1(code:Int)(r0:Int)(r1:Sl)(r2:Sl)(r3:Sl)(R:Bool→WP):Fm f253 [4] [.I code,.agg #[.I r0,r1.v,r2.v,r3.v]] [.bool] R:=mf _
def QMB(p:Sl)(R:Int→WP):Fm f264 [2] [p.v] [.int .u32] R:=mf _
def QCY(m:Option Addr)(now:Int)(R:Sl→Int→Int→Sl→Sl→Sl→Int→Bool→WP):Fm f324 [4,6] [.pointer m,.I now] [.slice,.I,.I,.slice,.slice,.slice,.I,.bool] R:=mf _
def QJy(a0:Int)(a1:Int)(a2:Int)(a3:Sl)(a4:Sl)(a5:Sl)(R:Int→WP):Fm f336 [2] [.agg #[.I a0,.I a1,.I a2,a3.v,a4.v,a5.v]] [.I] R:=mf _
def QLI(crc:Int)(b:Sl)(R:Int→WP):Fm f347 [4] [.int .u16 crc,b.v] [.int .u16] R:=mf _
def QLH(t0:ByteArray)(t1:Int)(t2:Int)(t3:Int)(t4:Int)(t5:Bool)(t6:Bool)(t7:Bool)(t8:Int)(t9:Int)(t10:Int)(t11:Int)(t12:Int)(t13:Bool)(t14:Bool)(t15:Bool)(t16:Int)(t17:Int)(t18:Int)(p0:Int)(p1:Int)(p2:Int)(p3:Int)(p4:Int)(p5:Sl)(R:Bool→WP):Fm f430 [4] [.agg #[.string t0,.I t1,.I t2,.I t3,.I t4,.bool t5,.bool t6,.bool t7,.I t8,.I t9,.I t10,.I t11,.I t12,.bool t13,.bool t14,.bool t15,.I t16,.I t17,.I t18],.agg #[.I p0,.I p1,.I p2,.I p3,.I p4,p5.v]] [.bool] R:=mf _
def QJE(v:Int)(fv0:Addr)(R:Bool→WP):Fm f489 [3] [.I v,.pointer (some fv0)] [.bool] R:=mf _
end
end Go.Cx
