import Derived.Test.YthbhbkjkclhkgaaGreatDoorH
namespace Go.Cx
open Go Go.Cf Go.Proofs.Tryz
noncomputable section
set_option maxRecDepth 100000
set_option maxHeartbeats 0
set_option linter.unusedVariables false
attribute [local irreducible] QK5 QIB QVe QNV QW8 QJX QXE QJl QAq QBG XIf QCe QDE QBc QGp QFX QKB QLu QQU QRs QLc Qdw QSt QLd Addr.add IntKind.wrap Sl.cut QDF QGW QZk vOr Qah vEq vNe vLt vLe vGt vGe Qcr QcV Qdg QC5 QC3 QJS QJR QRD QTa QGM QIR QIP QZ6 QcT QJQ tEq tLt Builtin.append_ Builtin.copy_ Builtin.clear_ Instr.makeSlice Instr.makeMap Qat QKv ByteArray.size UInt8.ofNat
def QUc(k:Int)(n:Int)(R:Int→WP):Fm f12 [4] [.I k,.I n] [.I] R:=mf _
def QEZ(g:Option Addr)(R:Option Addr→WP):Fm f18 [2] [.pointer g] [.ptr] R:=mf _
def QEt(d:Option Addr)(R:Int→WP):Fm f24 [2] [.pointer d] [.I] R:=mf _
def QJ0(b:Sl)(R:Int→Int→Int→Int→Int→Sl→Int→WP):Fm f35 [3] [b.v] [.I,.I,.I,.I,.I,.slice,.I] R:=mf _
def QJD(l:Option Addr)(R:Int→WP):Fm f40 [2] [.pointer l] [.I] R:=mf _
def QDJ(c0:Int)(c1:Int)(c2:Int)(c3:Int)(c4:Int)(c5:Sl)(c6:Sl)(c7:Sl)(R:Int→Int→Int→Int→Int→Sl→Int→WP):Fm f45 [3] [.agg #[.I c0,.I c1,.I c2,.I c3,.I c4,c5.v,c6.v,c7.v]] [.I,.I,.I,.I,.I,.slice,.I] R:=mf _
def QFQ(s0:Int)(s1:Int)(s2:Int)(s3:Sl)(R:Int→WP):Fm f51 [2] [.agg #[.I s0,.I s1,.I s2,s3.v]] [.I] R:=mf _
def QKC(c0:Int)(c1:Int)(c2:Int)(c3:Int)(c4:Int)(c5:Int)(c6:Sl)(R:Int→WP):Fm f56 [2] [.agg #[.I c0,.I c1,.I c2,.I c3,.I c4,.I c5,c6.v]] [.I] R:=mf _
def QEm(d:Option Addr)(R:Int→WP):Fm f72 [2] [.pointer d] [.I] R:=mf _
def QEk(p:Option Addr)(R:Bool→WP):Fm f89 [2] [.pointer p] [.bool] R:=mf _
def QIh(b:Sl)(R:Int→WP):Fm f100 [2] [b.v] [.I] R:=mf _
def QRW(a0:Int)(a1:Int)(a2:Int)(a3:Sl)(a4:Sl)(a5:Sl)(r0:Int)(r1:Sl)(r2:Sl)(r3:Sl)(R:Sl→Int→WP):Fm f106 [4,5] [.agg #[.I a0,.I a1,.I a2,a3.v,a4.v,a5.v],.agg #[.I r0,r1.v,r2.v,r3.v]] [.slice,.I] R:=mf _
def QHh(b:Option Addr)(p:Sl)(s0:Int)(s1:Int)(s2:Int)(s3:Int)(s4:Int)(s5:Int)(s6:Int)(s7:Bool)(R:WP):Fm f112 [] [.pointer b,p.v,.agg #[.I s0,.I s1,.I s2,.I s3,.I s4,.I s5,.I s6,.bool s7]] [] R:=mf _
def QLE(d:Option Addr)(R:Option Addr→Int→WP):Fm f118 [2,3] [.pointer d] [.ptr,.I] R:=mf _
def QOE(t0:ByteArray)(t1:Int)(t2:Int)(t3:Int)(t4:Int)(t5:Bool)(t6:Bool)(t7:Bool)(t8:Int)(t9:Int)(t10:Int)(t11:Int)(t12:Int)(t13:Bool)(t14:Bool)(t15:Bool)(t16:Int)(t17:Int)(t18:Int)(R:Int→WP):Fm f123 [2] [.agg #[.string t0,.I t1,.I t2,.I t3,.I t4,.bool t5,.bool t6,.bool t7,.I t8,.I t9,.I t10,.I t11,.I t12,.bool t13,.bool t14,.bool t15,.I t16,.I t17,.I t18]] [.I] R:=mf _
def QD2(g:Option Addr)(id:Int)(code:Int)(R:WP):Fm f131 [] [.pointer g,.I id,.I code] [] R:=mf _
def QEW(x:ByteArray)(y:ByteArray)(R:Int→WP):Fm f146 [4] [.string x,.string y] [.I] R:=mf _
def QKJ(b:Sl)(l:Sl)(R:Sl→WP):Fm f155 [4] [b.v,l.v] [.slice] R:=mf _
def QIA(code:Int)(R:Int→Bool→Bool→Bool→Bool→Bool→WP):Fm f160 [3] [.I code] [.I,.bool,.bool,.bool,.bool,.bool] R:=mf _
def QNp(l:Sl)(R:Sl→WP):Fm f166 [2] [l.v] [.slice] R:=mf _
def QKY(v:Int)(from':Int)(to:Int)(R:Bool→WP):Fm f171 [6] [.I v,.I from',.I to] [.bool] R:=mf _
def QC8(d:Option Addr)(name:ByteArray)(n:Int)(R:Int→WP):Fm f177 [6] [.pointer d,.string name,.I n] [.I] R:=mf _
def QDv(d:Option Addr)(name:ByteArray)(R:Int→WP):Fm f182 [4] [.pointer d,.string name] [.I] R:=mf _
def QFR(x:Option Addr)(R:WP):Fm f187 [] [.pointer x] [] R:=mf _
def QIs(p:Sl)(R:Sl→Int→WP):Fm f192 [2,3] [p.v] [.slice,.I] R:=mf _
def QEJ(g:Option Addr)(r0:Int)(r1:Int)(r2:ByteArray)(r3:Int)(r4:Int)(Q:WP)(R:Bool→WP):FmP f198 [4] [.pointer g,.agg #[.I r0,.I r1,.string r2,.I r3,.I r4]] [.bool] Q R:=mfP _
def QE1(s:Option Addr)(now:Int)(next:Int)(R:Sl→WP):Fm f203 [6] [.pointer s,.I now,.I next] [.slice] R:=mf _
def QDt(g:Option Addr)(Q:WP)(R:WP):FmP f234 [] [.pointer g] [] Q R:=mfP _
def QN0(s0:Int)(s1:Int)(s2:Int)(now:Int)(ok:Bool)(R:Int→Int→Int→WP):Fm f240 [] [.agg #[.I s0,.I s1,.I s2],.I now,.bool ok] [.I,.I,.I] R:=mf _
def QOX(b:Sl)(R:Int→WP):Fm f248 [2] [b.v] [.int .u16] R:=mf _
def QD7(code:Int)(r0:Int)(r1:Sl)(r2:Sl)(r3:Sl)(R:Bool→WP):Fm f253 [4] [.I code,.agg #[.I r0,r1.v,r2.v,r3.v]] [.bool] R:=mf _
def QMF(l0:Bool)(l1:Bool)(l2:Bool)(l3:Int)(l4:Int)(l5:Int)(R:Int→WP):Fm f258 [2] [.agg #[.bool l0,.bool l1,.bool l2,.I l3,.I l4,.I l5]] [.I] R:=mf _
def QI4(t:Option Addr)(k0:Int)(k1:Int)(v:Int)(R:Bool→WP):Fm f266 [6] [.pointer t,.agg #[.I k0,.I k1],.I v] [.bool] R:=mf _
def QIS(now:Int)(R:Bool→WP):Fm f323 [2] [.I now] [.bool] R:=mf _
def QRE(l:Sl)(now:Int)(R:Int→WP):Fm f328 [4] [l.v,.I now] [.I] R:=mf _
def QJr(a0:Int)(a1:Int)(a2:Int)(a3:Sl)(a4:Sl)(a5:Sl)(b:Sl)(R:Int→Sl→Sl→Sl→Bool→WP):Fm f337 [5] [.agg #[.I a0,.I a1,.I a2,a3.v,a4.v,a5.v],b.v] [.I,.slice,.slice,.slice,.bool] R:=mf _
def QD1(j:Option Addr)(id:Int)(R:Int→Int→WP):Fm f343 [4,5] [.pointer j,.I id] [.I,.I] R:=mf _
def QG2(p:Option Addr)(i:Int)(degree:Int)(R:WP):Fm f359 [] [.pointer p,.I i,.I degree] [] R:=mf _
def QMq(t0:ByteArray)(t1:Int)(t2:Int)(t3:Int)(t4:Int)(t5:Bool)(t6:Bool)(t7:Bool)(t8:Int)(t9:Int)(t10:Int)(t11:Int)(t12:Int)(t13:Bool)(t14:Bool)(t15:Bool)(t16:Int)(t17:Int)(t18:Int)(p0:Int)(p1:Int)(p2:Int)(p3:Int)(p4:Int)(p5:Sl)(R:Bool→WP):Fm f430 [4] [.agg #[.string t0,.I t1,.I t2,.I t3,.I t4,.bool t5,.bool t6,.bool t7,.I t8,.I t9,.I t10,.I t11,.I t12,.bool t13,.bool t14,.bool t15,.I t16,.I t17,.I t18],.agg #[.I p0,.I p1,.I p2,.I p3,.I p4,p5.v]] [.bool] R:=mf _
def QNl(a0:Int)(a1:Int)(b0:Int)(b1:Int)(R:Bool→WP):Fm f445 [4] [.agg #[.I a0,.I a1],.agg #[.I b0,.I b1]] [.bool] R:=mf _
def QIa(v:Int)(fv0:Addr)(R:Bool→WP):Fm f491 [3] [.I v,.pointer (some fv0)] [.bool] R:=mf _
end
end Go.Cx
