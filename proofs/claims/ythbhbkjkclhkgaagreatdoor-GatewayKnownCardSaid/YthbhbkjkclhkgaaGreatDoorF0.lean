import Derived.Test.YthbhbkjkclhkgaaGreatDoorH
namespace Go.Cx
open Go Go.Cf Go.Proofs.Tryz
noncomputable section
set_option maxRecDepth 100000
set_option maxHeartbeats 0
set_option linter.unusedVariables false
attribute [local irreducible] QK5 QIB QVe QNV QW8 QJX QXE QJl QAq QBG XIf QCe QDE QBc QGp QFX QKB QLu QQU QRs QLc Qdw QSt QLd Addr.add IntKind.wrap Sl.cut QDF QGW QZk vOr Qah vEq vNe vLt vLe vGt vGe Qcr QcV Qdg QC5 QC3 QJS QJR QRD QTa QGM QIR QIP QZ6 QcT QJQ tEq tLt Builtin.append_ Builtin.copy_ Builtin.clear_ Instr.makeSlice Instr.makeMap Qat QKv ByteArray.size UInt8.ofNat
def QLK(c0:Int)(c1:Int)(c2:Int)(c3:Int)(c4:Int)(c5:Int)(c6:Sl)(room:Int)(R:Option Addr→WP):Fm f10 [4] [.agg #[.I c0,.I c1,.I c2,.I c3,.I c4,.I c5,c6.v],.I room] [.ptr] R:=mf _
def QGN(b:Option Addr)(R:Bool→WP):Fm f17 [2] [.pointer b] [.bool] R:=mf _
def QEK(d:Option Addr)(R:Sl→WP):Fm f23 [2] [.pointer d] [.slice] R:=mf _
def QRU(p0:Int)(p1:Int)(p2:Int)(p3:Int)(p4:Int)(p5:Sl)(R:Sl→WP):Fm f34 [2] [.agg #[.I p0,.I p1,.I p2,.I p3,.I p4,p5.v]] [.slice] R:=mf _
def QJJ(l:Option Addr)(R:Int→WP):Fm f39 [2] [.pointer l] [.I] R:=mf _
def QDr(b:Option Addr)(v:Int)(R:Sl→WP):Fm f44 [4] [.pointer b,.I v] [.slice] R:=mf _
def QGx(b:Option Addr)(l:Sl)(R:WP):Fm f50 [] [.pointer b,l.v] [] R:=mf _
def QJ5(r0:Int)(r1:Int)(r2:ByteArray)(r3:Int)(r4:Int)(R:Int→WP):Fm f55 [2] [.agg #[.I r0,.I r1,.string r2,.I r3,.I r4]] [.I] R:=mf _
def QSF(every:Int)(now:Int)(R:Int→Int→Int→Int→WP):Fm f61 [5] [.I every,.I now] [.I,.I,.I,.I] R:=mf _
def QKL(s:ByteArray)(R:Bool→WP):Fm f88 [2] [.string s] [.bool] R:=mf _
def QOZ(v:Int)(from':Int)(to:Int)(R:Bool→WP):Fm f99 [6] [.I v,.I from',.I to] [.bool] R:=mf _
def QTx(b:Sl)(R:Int→Int→Int→Sl→Sl→Sl→Int→WP):Fm f105 [3] [b.v] [.I,.I,.I,.slice,.slice,.slice,.I] R:=mf _
def QGO(b:Option Addr)(p:Sl)(R:WP):Fm f111 [] [.pointer b,p.v] [] R:=mf _
def QMS(d:Option Addr)(R:Int→Int→Int→Int→WP):Fm f117 [3] [.pointer d] [.I,.I,.I,.I] R:=mf _
def QN5(l:Sl)(R:Sl→WP):Fm f122 [2] [l.v] [.slice] R:=mf _
def QE2(j:Option Addr)(id:Int)(code:Int)(R:Int→WP):Fm f130 [6] [.pointer j,.I id,.I code] [.I] R:=mf _
def QDp(f0:ByteArray)(f1:Sl)(f2:Int)(name:ByteArray)(R:Int→WP):Fm f145 [4] [.agg #[.string f0,f1.v,.I f2],.string name] [.I] R:=mf _
def QDq(g:Option Addr)(b:Sl)(Q:WP)(R:WP):FmP f152 [] [.pointer g,b.v] [] Q R:=mfP _
def QKT(u:Int)(R:Bool→WP):Fm f159 [2] [.int .u8 u] [.bool] R:=mf _
def QSB(l:Sl)(R:Sl→WP):Fm f165 [2] [l.v] [.slice] R:=mf _
def QZl(b:Sl)(l:Sl)(R:Sl→WP):Fm f170 [4] [b.v,l.v] [.slice] R:=mf _
def QNz(b:Sl)(R:Sl→Int→WP):Fm f176 [2,3] [b.v] [.slice,.I] R:=mf _
def QMr(s0:Int)(s1:Int)(s2:Int)(s3:Sl)(fv0:Addr)(R:Bool→WP):Fm f181 [3] [.agg #[.I s0,.I s1,.I s2,s3.v],.pointer (some fv0)] [.bool] R:=mf _
def QNy(d:Option Addr)(name:ByteArray)(R:Int→WP):Fm f186 [4] [.pointer d,.string name] [.I] R:=mf _
def QUU(b:Sl)(v:Int)(n:Int)(R:Sl→Int→WP):Fm f191 [6,7] [b.v,.int .u64 v,.I n] [.slice,.I] R:=mf _
def QGK(x:Int)(y:Int)(R:Int→WP):Fm f197 [4] [.I x,.I y] [.I] R:=mf _
def QHo(l:Option Addr)(R:Int→WP):Fm f202 [2] [.pointer l] [.I] R:=mf _
def QDQ(g:Option Addr)(Q:WP)(R:WP):FmP f233 [] [.pointer g] [] Q R:=mfP _
def QDC(g:Option Addr)(p0:Int)(p1:Int)(p2:Int)(p3:Int)(p4:Int)(p5:Sl)(r0:Int)(r1:Sl)(r2:Sl)(r3:Sl)(Q:WP)(R:WP):FmP f239 [] [.pointer g,.agg #[.I p0,.I p1,.I p2,.I p3,.I p4,p5.v],.agg #[.I r0,r1.v,r2.v,r3.v]] [] Q R:=mfP _
def QL2(crc:Int)(b:Sl)(R:Int→WP):Fm f247 [4] [.int .u32 crc,b.v] [.int .u32] R:=mf _
def QT7(s0:Int)(s1:Bool)(s2:Bool)(s3:Bool)(s4:Bool)(a0:Int)(a1:Int)(a2:Int)(a3:Sl)(a4:Sl)(a5:Sl)(R:Int→WP):Fm f252 [4] [.agg #[.I s0,.bool s1,.bool s2,.bool s3,.bool s4],.agg #[.I a0,.I a1,.I a2,a3.v,a4.v,a5.v]] [.I] R:=mf _
def QNe(b0:Int)(b1:Int)(R:Int→WP):Fm f257 [2] [.agg #[.I b0,.I b1]] [.I] R:=mf _
def QT4(degree:Int)(R:Option Addr→Int→WP):Fm f265 [2,3] [.I degree] [.ptr,.I] R:=mf _
def QGy(x:Option Addr)(time:Int)(seq:Int)(R:Int→WP):Fm f272 [6] [.pointer x,.I time,.I seq] [.I] R:=mf _
def QEY(m:Option Addr)(now:Int)(unit:Int)(a0:Int)(a1:Int)(a2:Int)(a3:Sl)(a4:Sl)(a5:Sl)(R:Sl→Int→WP):Fm f327 [8,9] [.pointer m,.I now,.I unit,.agg #[.I a0,.I a1,.I a2,a3.v,a4.v,a5.v]] [.slice,.I] R:=mf _
def QKR(a0:Int)(a1:Int)(a2:Int)(a3:Sl)(a4:Sl)(a5:Sl)(R:Int→WP):Fm f336 [2] [.agg #[.I a0,.I a1,.I a2,a3.v,a4.v,a5.v]] [.I] R:=mf _
def QDK(p0:Int)(p1:Int)(p2:Int)(p3:Int)(p4:Int)(p5:Sl)(R:Int→Int→Int→Int→Int→Sl→Sl→Sl→Int→WP):Fm f342 [3] [.agg #[.I p0,.I p1,.I p2,.I p3,.I p4,p5.v]] [.I,.I,.I,.I,.I,.slice,.slice,.slice,.I] R:=mf _
def QLV(used:Bool)(v:Int)(R:Bool→WP):Fm f349 [4] [.bool used,.I v] [.bool] R:=mf _
def QJ3(n:Int)(fv0:Addr)(fv1:Addr)(R:Sl→WP):Fm f427 [4] [.I n,.pointer (some fv0),.pointer (some fv1)] [.slice] R:=mf _
def QDw(l:Sl)(i:Int)(x:Option Addr)(R:Sl→WP):Fm f444 [6] [l.v,.I i,.pointer x] [.slice] R:=mf _
def QIe(v:Int)(fv0:Addr)(R:Bool→WP):Fm f490 [3] [.I v,.pointer (some fv0)] [.bool] R:=mf _
end
end Go.Cx
