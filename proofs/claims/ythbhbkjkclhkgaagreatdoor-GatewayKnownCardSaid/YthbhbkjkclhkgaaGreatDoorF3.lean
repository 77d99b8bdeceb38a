import Derived.Test.YthbhbkjkclhkgaaGreatDoorH
namespace Go.Cx
open Go Go.Cf Go.Proofs.Tryz
noncomputable section
set_option maxRecDepth 100000
set_option maxHeartbeats 0
set_option linter.unusedVariables false
attribute [local irreducible] QK5 QIB QVe QNV QW8 QJX QXE QJl QAq QBG XIf QCe QDE QBc QGp QFX QKB QLu QQU QRs QLc Qdw QSt QLd Addr.add IntKind.wrap Sl.cut QDF QGW QZk vOr Qah vEq vNe vLt vLe vGt vGe Qcr QcV Qdg QC5 QC3 QJS QJR QRD QTa QGM QIR QIP QZ6 QcT QJQ tEq tLt Builtin.append_ Builtin.copy_ Builtin.clear_ Instr.makeSlice Instr.makeMap Qat QKv ByteArray.size UInt8.ofNat
def QGF(b:Option Addr)(m0:Int)(m1:Int)(R:Bool→WP):Fm f14 [4] [.pointer b,.agg #[.I m0,.I m1]] [.bool] R:=mf _
def QNo(room:Int)(R:Option Addr→Int→WP):Fm f21 [2,3] [.I room] [.ptr,.I] R:=mf _
def QNZ(b:Option Addr)(id:Int)(R:Int→WP):Fm f32 [4] [.pointer b,.I id] [.I] R:=mf _
def QCL(g:Option Addr)(name:ByteArray)(R:Int→Bool→Bool→WP):Fm f37 [5] [.pointer g,.string name] [.I,.bool,.bool] R:=mf _
def QEp(m:Option Addr)(R:Bool→WP):Fm f42 [2] [.pointer m] [.bool] R:=mf _
def QGC(p:Option Addr)(n:Int)(R:WP):Fm f47 [] [.pointer p,.I n] [] R:=mf _
def QJ6(fv0:Addr)(fv1:Addr)(R:Int→WP):Fm f53 [2] [.pointer (some fv0),.pointer (some fv1)] [.I] R:=mf _
def QNW(window:Int)(resend:Int)(epoch:Int)(base:Int)(R:Option Addr→Int→WP):Fm f58 [8,9] [.I window,.I resend,.I epoch,.I base] [.ptr,.I] R:=mf _
def QEn(d:Option Addr)(name:ByteArray)(R:Sl→Int→WP):Fm f77 [4,5] [.pointer d,.string name] [.slice,.I] R:=mf _
def QNv(p0:Int)(p1:Int)(p2:Int)(p3:Int)(p4:Int)(p5:Sl)(R:Sl→Int→WP):Fm f97 [2,3] [.agg #[.I p0,.I p1,.I p2,.I p3,.I p4,p5.v]] [.slice,.I] R:=mf _
def QGH(l:Option Addr)(R:Option Addr→WP):Fm f103 [2] [.pointer l] [.ptr] R:=mf _
def QZD(a0:Int)(a1:Int)(a2:Int)(a3:Sl)(a4:Sl)(a5:Sl)(R:Sl→Int→WP):Fm f108 [2,3] [.agg #[.I a0,.I a1,.I a2,a3.v,a4.v,a5.v]] [.slice,.I] R:=mf _
def QIT(l:Sl)(R:Int→Int→WP):Fm f115 [2,3] [l.v] [.I,.I] R:=mf _
def QL1(d:Option Addr)(c0:Int)(c1:Int)(c2:Int)(R:Int→WP):Fm f120 [4] [.pointer d,.agg #[.I c0,.I c1,.I c2]] [.I] R:=mf _
def QOF(kind:Int)(R:Int→WP):Fm f125 [2] [.I kind] [.I] R:=mf _
def QDA(g:Option Addr)(R:WP):Fm f133 [] [.pointer g] [] R:=mf _
def QCu(m:Option Addr)(b:Sl)(R:Int→Int→Sl→Sl→Sl→Int→Bool→WP):Fm f150 [5] [.pointer m,b.v] [.I,.I,.slice,.slice,.slice,.I,.bool] R:=mf _
def QNS(b:Sl)(R:Int→WP):Fm f157 [2] [b.v] [.int .u32] R:=mf _
def QPc(b:Sl)(R:Int→Int→Int→Sl→Sl→Sl→Bool→WP):Fm f162 [3] [b.v] [.I,.I,.I,.slice,.slice,.slice,.bool] R:=mf _
def QLp(pdu:Sl)(R:Int→WP):Fm f168 [2] [pdu.v] [.I] R:=mf _
def QI6(d:Option Addr)(R:Int→Int→Int→WP):Fm f174 [2,3] [.pointer d] [.I,.I,.I] R:=mf _
def QLW(name:ByteArray)(R:Bool→WP):Fm f179 [2] [.string name] [.bool] R:=mf _
def QUQ(b:Sl)(at':Int)(n:Int)(R:Int→Int→WP):Fm f184 [6,7] [b.v,.I at',.I n] [.int .u64,.I] R:=mf _
def QGE(c0:Int)(c1:Int)(c2:Int)(R:Int→Int→Int→WP):Fm f189 [] [.agg #[.I c0,.I c1,.I c2]] [.I,.I,.I] R:=mf _
def QKV(i:Int)(k:Int)(fv0:Addr)(R:Int→WP):Fm f195 [5] [.I i,.I k,.pointer (some fv0)] [.I] R:=mf _
def QJ2(kind:Int)(id:Int)(rest:Sl)(R:Sl→WP):Fm f200 [6] [.int .u8 kind,.I id,rest.v] [.slice] R:=mf _
def QCt(m:Option Addr)(now:Int)(R:Sl→Int→Int→Sl→Sl→Sl→Int→Bool→WP):Fm f231 [4,6] [.pointer m,.I now] [.slice,.I,.I,.slice,.slice,.slice,.I,.bool] R:=mf _
def QLe(a0:Int)(a1:Int)(a2:Int)(a3:Sl)(a4:Sl)(a5:Sl)(b:Sl)(R:Int→Sl→Sl→Sl→Int→WP):Fm f237 [5] [.agg #[.I a0,.I a1,.I a2,a3.v,a4.v,a5.v],b.v] [.I,.slice,.slice,.slice,.I] R:=mf _
def QEu(s:Option Addr)(R:Int→WP):Fm f242 [2] [.pointer s] [.I] R:=mf _
def QLT(b:Sl)(n:Int)(R:Sl→Int→WP):Fm f250 [4,5] [b.v,.I n] [.slice,.I] R:=mf _
def QR7(n:Int)(R:Int→WP):Fm f255 [2] [.I n] [.I] R:=mf _
def QBH(s:Sl)(i:Int)(j:Int)(R:Sl→WP):Fm f263 [6] [s.v,.I i,.I j] [.slice] R:=mf _
def QOK(r0:Int)(r1:Int)(r2:ByteArray)(r3:Int)(r4:Int)(R:Sl→Int→WP):Fm f270 [2,3] [.agg #[.I r0,.I r1,.string r2,.I r3,.I r4]] [.slice,.I] R:=mf _
def QCY(m:Option Addr)(x:Int)(R:Sl→Int→Int→Sl→Sl→Sl→Int→Bool→WP):Fm f325 [4,6] [.pointer m,.I x] [.slice,.I,.I,.slice,.slice,.slice,.I,.bool] R:=mf _
def QHl(l:Option Addr)(to:Int)(keep:Int)(R:Int→WP):Fm f332 [6] [.pointer l,.I to,.I keep] [.I] R:=mf _
def QOW(l0:Bool)(l1:Bool)(l2:Bool)(l3:Int)(l4:Int)(l5:Int)(a0:Int)(a1:Bool)(value':Int)(R:Int→Bool→Int→WP):Fm f340 [7] [.agg #[.bool l0,.bool l1,.bool l2,.I l3,.I l4,.I l5],.agg #[.I a0,.bool a1],.I value'] [.I,.bool,.I] R:=mf _
def QMN(crc:Int)(b:Sl)(R:Int→WP):Fm f347 [4] [.int .u16 crc,b.v] [.int .u16] R:=mf _
def QIw(l:Sl)(i:Int)(x:Int)(R:Sl→WP):Fm f362 [6] [l.v,.I i,.I x] [.slice] R:=mf _
def QOI(a:Int)(b:Int)(R:Int→WP):Fm f432 [4] [.I a,.I b] [.int .u64] R:=mf _
def QMG(s0:Bool)(s1:Bool)(s2:Bool)(s3:Int)(s4:Int)(s5:Int)(raw:Int)(R:Int→Int→WP):Fm f488 [4,5] [.agg #[.bool s0,.bool s1,.bool s2,.I s3,.I s4,.I s5],.I raw] [.I,.I] R:=mf _
def QN4(s0:Bool)(s1:Bool)(s2:Bool)(s3:Int)(s4:Int)(s5:Int)(R:Int→WP):Fm f511 [2] [.agg #[.bool s0,.bool s1,.bool s2,.I s3,.I s4,.I s5]] [.I] R:=mf _
end
end Go.Cx
