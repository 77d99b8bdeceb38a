/-
What each function does, reckoned.
-/
import Derived.Test.YthbhbkjkclhkgaaGreatDoorH
namespace Go.Cx
open Go Go.Cf Go.Proofs.Tryz
noncomputable section
set_option maxRecDepth 100000
set_option maxHeartbeats 0
set_option linter.unusedVariables false
attribute [local irreducible] QHd QE4 QP5 QJI QPw QFm QPe QFo QAs QBJ XIf QC0 QDK QBW QFw QEh QJ2 QIa QNS QMH QHh QbF QNI QHm Addr.add IntKind.wrap Sl.cut QCv QGF QUa vOr QXQ vEq vNe vLt vLe vGt vGe QaK QYd QaF QCc QCZ QHy QII QLG QM2 QFU QHW QHY QWb QX9 QIF tEq tLt Builtin.append_ Builtin.copy_ Builtin.clear_ Instr.makeSlice Instr.makeMap QXT QKF ByteArray.size UInt8.ofNat
def QEz(d:Option Addr)(keep:Int)(R:WP):Fm f16 [] [.pointer d,.I keep] [] R:=mf _
def QDz(d:Option Addr)(name:ByteArray)(b:Sl)(R:Int→WP):Fm f30 [6] [.pointer d,.string name,b.v] [.I] R:=mf _
def QEk(m:Option Addr)(R:Bool→WP):Fm f42 [2] [.pointer m] [.bool] R:=mf _
def QFa(s0:Int)(s1:Int)(s2:Int)(s3:Sl)(R:Int→WP):Fm f51 [2] [.agg #[.I s0,.I s1,.I s2,s3.v]] [.I] R:=mf _
def QNW(timeout:Int)(retries:Int)(R:Option Addr→Int→WP):Fm f59 [4,5] [.I timeout,.I retries] [.ptr,.I] R:=mf _
def QBI(s:Sl)(i:Int)(v:Sl)(R:Sl→WP):Fm f90 [6] [s.v,.I i,v.v] [.slice] R:=mf _
def QSA(a0:Int)(a1:Int)(a2:Int)(a3:Sl)(a4:Sl)(a5:Sl)(r0:Int)(r1:Sl)(r2:Sl)(r3:Sl)(R:Sl→Int→WP):Fm f106 [4,5] [.agg #[.I a0,.I a1,.I a2,a3.v,a4.v,a5.v],.agg #[.I r0,r1.v,r2.v,r3.v]] [.slice,.I] R:=mf _
def QSB(d:Option Addr)(R:Option Addr→Int→WP):Fm f116 [2,3] [.pointer d] [.ptr,.I] R:=mf _
def QKA(t0:ByteArray)(t1:Int)(t2:Int)(t3:Int)(t4:Int)(t5:Bool)(t6:Bool)(t7:Bool)(t8:Int)(t9:Int)(t10:Int)(t11:Int)(t12:Int)(t13:Bool)(t14:Bool)(t15:Bool)(t16:Int)(t17:Int)(t18:Int)(R:Int→Int→Int→WP):Fm f124 [] [.agg #[.string t0,.I t1,.I t2,.I t3,.I t4,.bool t5,.bool t6,.bool t7,.I t8,.I t9,.I t10,.I t11,.I t12,.bool t13,.bool t14,.bool t15,.I t16,.I t17,.I t18]] [.I,.I,.I] R:=mf _
def QDo(f0:ByteArray)(f1:Sl)(f2:Int)(name:ByteArray)(R:Int→WP):Fm f145 [4] [.agg #[.string f0,f1.v,.I f2],.string name] [.I] R:=mf _
def QNt(b:Sl)(R:Int→WP):Fm f157 [2] [b.v] [.int .u32] R:=mf _
def QNk(l:Sl)(R:Sl→WP):Fm f166 [2] [l.v] [.slice] R:=mf _
def QRF(n:Int)(R:ByteArray→WP):Fm f175 [2] [.I n] [.str] R:=mf _
def QQb(b:Sl)(R:Sl→Int→Int→WP):Fm f183 [2,3,4] [b.v] [.slice,.I,.I] R:=mf _
def QT8(b:Sl)(v:Int)(n:Int)(R:Sl→Int→WP):Fm f191 [6,7] [b.v,.int .u64 v,.I n] [.slice,.I] R:=mf _
def QKR(kind:Int)(id:Int)(rest:Sl)(R:Sl→WP):Fm f200 [6] [.int .u8 kind,.I id,rest.v] [.slice] R:=mf _
def QDs(g:Option Addr)(Q:WP)(R:WP):FmP f234 [] [.pointer g] [] Q R:=mfP _
def QDL(g:Option Addr)(p0:Int)(p1:Int)(p2:Int)(p3:Int)(p4:Int)(p5:Sl)(R:WP):Fm f243 [] [.pointer g,.agg #[.I p0,.I p1,.I p2,.I p3,.I p4,p5.v]] [] R:=mf _
def QEA(a0:Int)(a1:Int)(a2:Int)(a3:Sl)(a4:Sl)(a5:Sl)(r0:Int)(r1:Sl)(r2:Sl)(r3:Sl)(R:Bool→WP):Fm f254 [4] [.agg #[.I a0,.I a1,.I a2,a3.v,a4.v,a5.v],.agg #[.I r0,r1.v,r2.v,r3.v]] [.bool] R:=mf _
def QT5(degree:Int)(R:Option Addr→Int→WP):Fm f265 [2,3] [.I degree] [.ptr,.I] R:=mf _
def QCO(m:Option Addr)(x:Int)(R:Sl→Int→Int→Sl→Sl→Sl→Int→Bool→WP):Fm f325 [4,6] [.pointer m,.I x] [.slice,.I,.I,.slice,.slice,.slice,.I,.bool] R:=mf _
def QJa(a0:Int)(a1:Int)(a2:Int)(a3:Sl)(a4:Sl)(a5:Sl)(b:Sl)(R:Int→Sl→Sl→Sl→Bool→WP):Fm f337 [5] [.agg #[.I a0,.I a1,.I a2,a3.v,a4.v,a5.v],b.v] [.I,.slice,.slice,.slice,.bool] R:=mf _
def QFH(x:Int)(low:Int)(high:Int)(R:Int→WP):Fm f348 [6] [.I x,.I low,.I high] [.I] R:=mf _
def QOU(t0:ByteArray)(t1:Int)(t2:Int)(t3:Int)(t4:Int)(t5:Bool)(t6:Bool)(t7:Bool)(t8:Int)(t9:Int)(t10:Int)(t11:Int)(t12:Int)(t13:Bool)(t14:Bool)(t15:Bool)(t16:Int)(t17:Int)(t18:Int)(p0:Int)(p1:Int)(p2:Int)(p3:Int)(p4:Int)(p5:Sl)(r0:Int)(r1:Sl)(r2:Sl)(r3:Sl)(R:Int→WP):Fm f431 [6] [.agg #[.string t0,.I t1,.I t2,.I t3,.I t4,.bool t5,.bool t6,.bool t7,.I t8,.I t9,.I t10,.I t11,.I t12,.bool t13,.bool t14,.bool t15,.I t16,.I t17,.I t18],.agg #[.I p0,.I p1,.I p2,.I p3,.I p4,p5.v],.agg #[.I r0,r1.v,r2.v,r3.v]] [.I] R:=mf _
def QJH(v:Int)(fv0:Addr)(R:Bool→WP):Fm f490 [3] [.I v,.pointer (some fv0)] [.bool] R:=mf _
end
end Go.Cx
