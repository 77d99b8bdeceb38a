/-
What each function does, reckoned.
-/
import Derived.Test.YthbhbkjkclhkgaaGreatDoorH
namespace Go.Cx
open Go Go.Cf Go.Proofs.Tryz
noncomputable section
set_option maxRecDepth 100000
set_option maxHeartbeats 0
set_option linter.unusedVariables false
attribute [local irreducible] QHd QE4 QP5 QJI QPw QFm QPe QFo QAs QBJ XIf QC0 QDK QBW QFw QEh QJ2 QIa QNS QMH QHh QbF QNI QHm Addr.add IntKind.wrap Sl.cut QCv QGF QUa vOr QXQ vEq vNe vLt vLe vGt vGe QaK QYd QaF QCc QCZ QHy QII QLG QM2 QFU QHW QHY QWb QX9 QIF tEq tLt Builtin.append_ Builtin.copy_ Builtin.clear_ Instr.makeSlice Instr.makeMap QXT QKF ByteArray.size UInt8.ofNat
def QDt(c0:Int)(c1:Int)(c2:Int)(c3:Int)(c4:Int)(c5:Int)(c6:Sl)(now:Int)(R:Bool→WP):Fm f6 [4] [.agg #[.I c0,.I c1,.I c2,.I c3,.I c4,.I c5,c6.v],.I now] [.bool] R:=mf _
def QJ7(l:Option Addr)(n:Int)(R:Sl→Int→WP):Fm f19 [4,5] [.pointer l,.I n] [.slice,.I] R:=mf _
def QJe(b:Sl)(R:Int→Int→Int→Int→Int→Sl→Int→WP):Fm f35 [3] [b.v] [.I,.I,.I,.I,.I,.slice,.I] R:=mf _
def QC9(c0:Int)(c1:Int)(c2:Int)(c3:Int)(c4:Int)(c5:Sl)(c6:Sl)(c7:Sl)(R:Int→Int→Int→Int→Int→Sl→Int→WP):Fm f45 [3] [.agg #[.I c0,.I c1,.I c2,.I c3,.I c4,c5.v,c6.v,c7.v]] [.I,.I,.I,.I,.I,.slice,.I] R:=mf _
def QI1(v:Int)(from':Int)(to:Int)(R:Bool→WP):Fm f54 [6] [.I v,.I from',.I to] [.bool] R:=mf _
def QFF(p:Option Addr)(R:Bool→WP):Fm f74 [2] [.pointer p] [.bool] R:=mf _
def QNr(v:Int)(from':Int)(to:Int)(R:Bool→WP):Fm f99 [6] [.I v,.I from',.I to] [.bool] R:=mf _
def QNy(a0:Int)(a1:Int)(a2:Int)(a3:Sl)(a4:Sl)(a5:Sl)(R:Bool→WP):Fm f109 [2] [.agg #[.I a0,.I a1,.I a2,a3.v,a4.v,a5.v]] [.bool] R:=mf _
def QN3(d:Option Addr)(l:Option Addr)(R:Option Addr→Int→WP):Fm f119 [4,5] [.pointer d,.pointer l] [.ptr,.I] R:=mf _
def QE1(j:Option Addr)(id:Int)(code:Int)(R:Int→WP):Fm f130 [6] [.pointer j,.I id,.I code] [.I] R:=mf _
def QCw(m:Option Addr)(b:Sl)(R:Int→Int→Sl→Sl→Sl→Int→Bool→WP):Fm f150 [5] [.pointer m,b.v] [.I,.I,.slice,.slice,.slice,.I,.bool] R:=mf _
def QEM(code:Int)(R:Int→Bool→Bool→Bool→Bool→Bool→WP):Fm f160 [3] [.I code] [.I,.bool,.bool,.bool,.bool,.bool] R:=mf _
def QLd(b:Sl)(R:Sl→WP):Fm f169 [2] [b.v] [.slice] R:=mf _
def QEv(d:Option Addr)(name:ByteArray)(R:Int→WP):Fm f178 [4] [.pointer d,.string name] [.I] R:=mf _
def QOW(d:Option Addr)(name:ByteArray)(R:Int→WP):Fm f186 [4] [.pointer d,.string name] [.I] R:=mf _
def QKK(i:Int)(k:Int)(fv0:Addr)(R:Int→WP):Fm f195 [5] [.I i,.I k,.pointer (some fv0)] [.I] R:=mf _
def QEr(s:Option Addr)(now:Int)(next:Int)(R:Sl→WP):Fm f203 [6] [.pointer s,.I now,.I next] [.slice] R:=mf _
def QDB(m:Option Addr)(what:Int)(r0:Int)(r1:Sl)(r2:Sl)(r3:Sl)(R:Int→Int→Sl→Sl→Sl→Int→Bool→WP):Fm f238 [7] [.pointer m,.I what,.agg #[.I r0,r1.v,r2.v,r3.v]] [.I,.I,.slice,.slice,.slice,.I,.bool] R:=mf _
def QSE(b:Sl)(R:Sl→Bool→WP):Fm f249 [2,3] [b.v] [.slice,.bool] R:=mf _
def QNu(b0:Int)(b1:Int)(R:Int→WP):Fm f257 [2] [.agg #[.I b0,.I b1]] [.I] R:=mf _
def QOI(r0:Int)(r1:Int)(r2:ByteArray)(r3:Int)(r4:Int)(R:Sl→Int→WP):Fm f270 [2,3] [.agg #[.I r0,.I r1,.string r2,.I r3,.I r4]] [.slice,.I] R:=mf _
def QRv(l:Sl)(now:Int)(R:Int→WP):Fm f328 [4] [l.v,.I now] [.I] R:=mf _
def QL0(s0:Int)(s1:Int)(s2:Int)(R:Bool→WP):Fm f341 [2] [.agg #[.I s0,.I s1,.I s2]] [.bool] R:=mf _
def QFW(l:Sl)(i:Int)(x0:Int)(x1:Int)(R:Sl→WP):Fm f361 [6] [l.v,.I i,.agg #[.I x0,.I x1]] [.slice] R:=mf _
def QDx(l:Sl)(i:Int)(x:Option Addr)(R:Sl→WP):Fm f444 [6] [l.v,.I i,.pointer x] [.slice] R:=mf _
def QNa(s0:Bool)(s1:Bool)(s2:Bool)(s3:Int)(s4:Int)(s5:Int)(R:Int→WP):Fm f511 [2] [.agg #[.bool s0,.bool s1,.bool s2,.I s3,.I s4,.I s5]] [.I] R:=mf _
end
end Go.Cx
