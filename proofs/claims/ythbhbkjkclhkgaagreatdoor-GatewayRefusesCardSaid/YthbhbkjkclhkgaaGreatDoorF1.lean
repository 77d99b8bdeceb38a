/-
What each function does, reckoned.
-/
import Derived.Test.YthbhbkjkclhkgaaGreatDoorH
namespace Go.Cx
open Go Go.Cf Go.Proofs.Tryz
noncomputable section
set_option maxRecDepth 100000
set_option maxHeartbeats 0
set_option linter.unusedVariables false
attribute [local irreducible] QHd QE4 QP5 QJI QPw QFm QPe QFo QAs QBJ XIf QC0 QDK QBW QFw QEh QJ2 QIa QNS QMH QHh QbF QNI QHm Addr.add IntKind.wrap Sl.cut QCv QGF QUa vOr QXQ vEq vNe vLt vLe vGt vGe QaK QYd QaF QCc QCZ QHy QII QLG QM2 QFU QHW QHY QWb QX9 QIF tEq tLt Builtin.append_ Builtin.copy_ Builtin.clear_ Instr.makeSlice Instr.makeMap QXT QKF ByteArray.size UInt8.ofNat
def QL1(c0:Int)(c1:Int)(c2:Int)(c3:Int)(c4:Int)(c5:Int)(c6:Sl)(room:Int)(R:Option Addr→WP):Fm f10 [4] [.agg #[.I c0,.I c1,.I c2,.I c3,.I c4,.I c5,c6.v],.I room] [.ptr] R:=mf _
def QNh(room:Int)(R:Option Addr→Int→WP):Fm f21 [2,3] [.I room] [.ptr,.I] R:=mf _
def QMd(name:ByteArray)(addr:Int)(R:ByteArray→Int→Int→Int→Int→Bool→Bool→Bool→Int→Int→Int→Int→Int→Bool→Bool→Bool→Int→Int→Int→WP):Fm f38 [] [.string name,.I addr] [.str,.I,.I,.I,.I,.bool,.bool,.bool,.I,.I,.I,.I,.I,.bool,.bool,.bool,.I,.I,.I] R:=mf _
def QIJ(id:Int)(R:Int→Int→Int→Sl→Sl→Sl→WP):Fm f46 [] [.I id] [.I,.I,.I,.slice,.slice,.slice] R:=mf _
def QJ5(r0:Int)(r1:Int)(r2:ByteArray)(r3:Int)(r4:Int)(R:Int→WP):Fm f55 [2] [.agg #[.I r0,.I r1,.string r2,.I r3,.I r4]] [.I] R:=mf _
def QEx(d:Option Addr)(name:ByteArray)(R:Sl→Int→WP):Fm f77 [4,5] [.pointer d,.string name] [.slice,.I] R:=mf _
def QJF(b:Sl)(R:Int→WP):Fm f100 [2] [b.v] [.I] R:=mf _
def QGJ(b:Option Addr)(p:Sl)(R:WP):Fm f111 [] [.pointer b,p.v] [] R:=mf _
def QMJ(d:Option Addr)(c0:Int)(c1:Int)(c2:Int)(R:Int→WP):Fm f120 [4] [.pointer d,.agg #[.I c0,.I c1,.I c2]] [.I] R:=mf _
def QDv(g:Option Addr)(id:Int)(code:Int)(R:WP):Fm f131 [] [.pointer g,.I id,.I code] [] R:=mf _
def QDj(g:Option Addr)(o0:Int)(o1:Int)(o2:Sl)(o3:Sl)(o4:Sl)(o5:Int)(Q:WP)(R:WP):FmP f151 [] [.pointer g,.agg #[.I o0,.I o1,o2.v,o3.v,o4.v,.I o5]] [] Q R:=mfP _
def QQx(b:Sl)(R:Int→WP):Fm f161 [2] [b.v] [.I] R:=mf _
def QZd(b:Sl)(l:Sl)(R:Sl→WP):Fm f170 [4] [b.v,l.v] [.slice] R:=mf _
def QLP(name:ByteArray)(R:Bool→WP):Fm f179 [2] [.string name] [.bool] R:=mf _
def QFJ(x:Option Addr)(R:WP):Fm f187 [] [.pointer x] [] R:=mf _
def QLw(vals:Sl)(R:Int→WP):Fm f196 [2] [vals.v] [.I] R:=mf _
def QFT(x:ByteArray)(R:Bool→WP):Fm f229 [2] [.string x] [.bool] R:=mf _
def QC3(g:Option Addr)(p0:Int)(p1:Int)(p2:Int)(p3:Int)(p4:Int)(p5:Sl)(r0:Int)(r1:Sl)(r2:Sl)(r3:Sl)(Q:WP)(R:WP):FmP f239 [] [.pointer g,.agg #[.I p0,.I p1,.I p2,.I p3,.I p4,p5.v],.agg #[.I r0,r1.v,r2.v,r3.v]] [] Q R:=mfP _
def QLx(b:Sl)(n:Int)(R:Sl→Int→WP):Fm f250 [4,5] [b.v,.I n] [.slice,.I] R:=mf _
def QMl(l0:Bool)(l1:Bool)(l2:Bool)(l3:Int)(l4:Int)(l5:Int)(R:Int→WP):Fm f258 [2] [.agg #[.bool l0,.bool l1,.bool l2,.I l3,.I l4,.I l5]] [.I] R:=mf _
def QHA(l:Option Addr)(p:Sl)(R:Int→Int→WP):Fm f271 [4,5] [.pointer l,p.v] [.I,.I] R:=mf _
def QUu(p0:Int)(p1:Int)(p2:Int)(p3:Int)(p4:Int)(p5:Sl)(R:Int→Int→Int→Sl→Sl→Sl→Int→WP):Fm f329 [3] [.agg #[.I p0,.I p1,.I p2,.I p3,.I p4,p5.v]] [.I,.I,.I,.slice,.slice,.slice,.I] R:=mf _
def QDC(p0:Int)(p1:Int)(p2:Int)(p3:Int)(p4:Int)(p5:Sl)(R:Int→Int→Int→Int→Int→Sl→Sl→Sl→Int→WP):Fm f342 [3] [.agg #[.I p0,.I p1,.I p2,.I p3,.I p4,p5.v]] [.I,.I,.I,.I,.I,.slice,.slice,.slice,.I] R:=mf _
def QJK(l:Sl)(i:Int)(x:Int)(R:Sl→WP):Fm f362 [6] [l.v,.I i,.I x] [.slice] R:=mf _
def QOE(a0:Int)(a1:Int)(b0:Int)(b1:Int)(R:Bool→WP):Fm f445 [4] [.agg #[.I a0,.I a1],.agg #[.I b0,.I b1]] [.bool] R:=mf _
def QD9(n:Int)(d:Int)(R:Int→WP):Fm f512 [4] [.I n,.I d] [.I] R:=mf _
end
end Go.Cx
