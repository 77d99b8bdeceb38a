/-
What each function does, reckoned.
-/
import Derived.Test.YthbhbkjkclhkgaaGreatDoorH
namespace Go.Cx
open Go Go.Cf Go.Proofs.Tryz
noncomputable section
set_option maxRecDepth 100000
set_option maxHeartbeats 0
set_option linter.unusedVariables false
attribute [local irreducible] QHd QE4 QP5 QJI QPw QFm QPe QFo QAs QBJ XIf QC0 QDK QBW QFw QEh QJ2 QIa QNS QMH QHh QbF QNI QHm Addr.add IntKind.wrap Sl.cut QCv QGF QUa vOr QXQ vEq vNe vLt vLe vGt vGe QaK QYd QaF QCc QCZ QHy QII QLG QM2 QFU QHW QHY QWb QX9 QIF tEq tLt Builtin.append_ Builtin.copy_ Builtin.clear_ Instr.makeSlice Instr.makeMap QXT QKF ByteArray.size UInt8.ofNat
def QGH(b:Option Addr)(R:Bool→WP):Fm f17 [2] [.pointer b] [.bool] R:=mf _
def QEt(g:Option Addr)(e0:Int)(e1:Int)(e2:Sl)(e3:ByteArray)(R:Sl→WP):Fm f33 [4] [.pointer g,.agg #[.I e0,.I e1,e2.v,.string e3]] [.slice] R:=mf _
def QHg(b:Option Addr)(e0:Int)(e1:Int)(e2:Sl)(e3:ByteArray)(R:WP):Fm f43 [] [.pointer b,.agg #[.I e0,.I e1,e2.v,.string e3]] [] R:=mf _
def QBL(s:Sl)(R:Sl→WP):Fm f52 [2] [s.v] [.slice] R:=mf _
def QQa(every:Int)(now:Int)(R:Int→Int→Int→Int→WP):Fm f61 [5] [.I every,.I now] [.I,.I,.I,.I] R:=mf _
def QN4(p0:Int)(p1:Int)(p2:Int)(p3:Int)(p4:Int)(p5:Sl)(R:Sl→Int→WP):Fm f97 [2,3] [.agg #[.I p0,.I p1,.I p2,.I p3,.I p4,p5.v]] [.slice,.I] R:=mf _
def QRt(unit:Int)(pdu:Sl)(R:Sl→Int→WP):Fm f107 [4,5] [.int .u8 unit,pdu.v] [.slice,.I] R:=mf _
def QMe(d:Option Addr)(R:Int→Int→Int→Int→WP):Fm f117 [3] [.pointer d] [.I,.I,.I,.I] R:=mf _
def QOT(kind:Int)(R:Int→WP):Fm f125 [2] [.I kind] [.I] R:=mf _
def QEK(x:ByteArray)(y:ByteArray)(R:Int→WP):Fm f146 [4] [.string x,.string y] [.I] R:=mf _
def QLR(b:Sl)(R:Sl→Int→WP):Fm f158 [2,3] [b.v] [.slice,.I] R:=mf _
def QLn(b:Sl)(R:Sl→WP):Fm f167 [2] [b.v] [.slice] R:=mf _
def QNs(b:Sl)(R:Sl→Int→WP):Fm f176 [2,3] [b.v] [.slice,.I] R:=mf _
def QU8(b:Sl)(at':Int)(n:Int)(R:Int→Int→WP):Fm f184 [6,7] [b.v,.I at',.I n] [.int .u64,.I] R:=mf _
def QIq(p:Sl)(R:Sl→Int→WP):Fm f192 [2,3] [p.v] [.slice,.I] R:=mf _
def QCs(g:Option Addr)(p0:Int)(p1:Int)(p2:Int)(p3:Int)(p4:Int)(p5:Sl)(R:WP):Fm f201 [] [.pointer g,.agg #[.I p0,.I p1,.I p2,.I p3,.I p4,p5.v]] [] R:=mf _
def QIi(l:Option Addr)(to:Int)(keep:Int)(R:Int→WP):Fm f236 [6] [.pointer l,.I to,.I keep] [.I] R:=mf _
def QK5(crc:Int)(b:Sl)(R:Int→WP):Fm f247 [4] [.int .u32 crc,b.v] [.int .u32] R:=mf _
def QRj(n:Int)(R:Int→WP):Fm f255 [2] [.I n] [.I] R:=mf _
def QIm(t:Option Addr)(k0:Int)(k1:Int)(v:Int)(R:Bool→WP):Fm f266 [6] [.pointer t,.agg #[.I k0,.I k1],.I v] [.bool] R:=mf _
def QDk(j:Option Addr)(id:Int)(R:Int→WP):Fm f326 [4] [.pointer j,.I id] [.I] R:=mf _
def QLL(l:Sl)(p0:Int)(p1:Int)(p2:Int)(p3:Int)(p4:Int)(p5:Sl)(r0:Int)(r1:Sl)(r2:Sl)(r3:Sl)(R:Sl→Int→WP):Fm f338 [6,7] [l.v,.agg #[.I p0,.I p1,.I p2,.I p3,.I p4,p5.v],.agg #[.I r0,r1.v,r2.v,r3.v]] [.slice,.I] R:=mf _
def QK8(used:Bool)(v:Int)(R:Bool→WP):Fm f349 [4] [.bool used,.I v] [.bool] R:=mf _
def QNV(a:Int)(b:Int)(R:Int→WP):Fm f432 [4] [.I a,.I b] [.int .u64] R:=mf _
def QI3(v:Int)(fv0:Addr)(R:Bool→WP):Fm f491 [3] [.I v,.pointer (some fv0)] [.bool] R:=mf _
end
end Go.Cx
