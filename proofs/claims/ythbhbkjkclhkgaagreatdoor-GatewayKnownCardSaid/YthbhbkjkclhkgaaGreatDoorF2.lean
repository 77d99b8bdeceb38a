import Derived.Test.YthbhbkjkclhkgaaGreatDoorH
namespace Go.Cx
open Go Go.Cf Go.Proofs.Tryz
noncomputable section
set_option maxRecDepth 100000
set_option maxHeartbeats 0
set_option linter.unusedVariables false
attribute [local irreducible] QK5 QIB QVe QNV QW8 QJX QXE QJl QAq QBG XIf QCe QDE QBc QGp QFX QKB QLu QQU QRs QLc Qdw QSt QLd Addr.add IntKind.wrap Sl.cut QDF QGW QZk vOr Qah vEq vNe vLt vLe vGt vGe Qcr QcV Qdg QC5 QC3 QJS QJR QRD QTa QGM QIR QIP QZ6 QcT QJQ tEq tLt Builtin.append_ Builtin.copy_ Builtin.clear_ Instr.makeSlice Instr.makeMap Qat QKv ByteArray.size UInt8.ofNat
def QCA(g:Option Addr)(R:Int→Int→Int→Int→Int→Int→Int→Bool→WP):Fm f13 [] [.pointer g] [.I,.I,.I,.I,.I,.I,.I,.bool] R:=mf _
def QKO(l:Option Addr)(n:Int)(R:Sl→Int→WP):Fm f19 [4,5] [.pointer l,.I n] [.slice,.I] R:=mf _
def QD4(d:Option Addr)(name:ByteArray)(b:Sl)(R:Int→WP):Fm f30 [6] [.pointer d,.string name,b.v] [.I] R:=mf _
def QRF(l:Sl)(R:Sl→WP):Fm f36 [2] [l.v] [.slice] R:=mf _
def QDO(l:Option Addr)(R:Int→WP):Fm f41 [2] [.pointer l] [.I] R:=mf _
def QIC(id:Int)(R:Int→Int→Int→Sl→Sl→Sl→WP):Fm f46 [] [.I id] [.I,.I,.I,.slice,.slice,.slice] R:=mf _
def QBL(s:Sl)(R:Sl→WP):Fm f52 [2] [s.v] [.slice] R:=mf _
def QD3(g:Option Addr)(R:Int→WP):Fm f57 [2] [.pointer g] [.I] R:=mf _
def QFT(p:Option Addr)(R:Bool→WP):Fm f74 [2] [.pointer p] [.bool] R:=mf _
def QBI(s:Sl)(i:Int)(v:Sl)(R:Sl→WP):Fm f90 [6] [s.v,.I i,v.v] [.slice] R:=mf _
def QSH(l:Sl)(name:ByteArray)(R:Int→WP):Fm f102 [4] [l.v,.string name] [.I] R:=mf _
def QRn(unit:Int)(pdu:Sl)(R:Sl→Int→WP):Fm f107 [4,5] [.int .u8 unit,pdu.v] [.slice,.I] R:=mf _
def QNx(c0:Int)(c1:Int)(c2:Int)(c3:Int)(c4:Int)(c5:Int)(c6:Sl)(R:Bool→WP):Fm f114 [2] [.agg #[.I c0,.I c1,.I c2,.I c3,.I c4,.I c5,c6.v]] [.bool] R:=mf _
def QNm(d:Option Addr)(l:Option Addr)(R:Option Addr→Int→WP):Fm f119 [4,5] [.pointer d,.pointer l] [.ptr,.I] R:=mf _
def QKK(t0:ByteArray)(t1:Int)(t2:Int)(t3:Int)(t4:Int)(t5:Bool)(t6:Bool)(t7:Bool)(t8:Int)(t9:Int)(t10:Int)(t11:Int)(t12:Int)(t13:Bool)(t14:Bool)(t15:Bool)(t16:Int)(t17:Int)(t18:Int)(R:Int→Int→Int→WP):Fm f124 [] [.agg #[.string t0,.I t1,.I t2,.I t3,.I t4,.bool t5,.bool t6,.bool t7,.I t8,.I t9,.I t10,.I t11,.I t12,.bool t13,.bool t14,.bool t15,.I t16,.I t17,.I t18]] [.I,.I,.I] R:=mf _
def QIb(l:Option Addr)(R:Int→WP):Fm f132 [2] [.pointer l] [.I] R:=mf _
def QDz(g:Option Addr)(now:Int)(Q:WP)(R:WP):FmP f149 [] [.pointer g,.I now] [] Q R:=mfP _
def QMM(b:Sl)(R:Sl→WP):Fm f156 [2] [b.v] [.slice] R:=mf _
def QQu(b:Sl)(R:Int→WP):Fm f161 [2] [b.v] [.I] R:=mf _
def QMe(b:Sl)(R:Sl→WP):Fm f167 [2] [b.v] [.slice] R:=mf _
def QRQ(d:Option Addr)(name:ByteArray)(R:Int→WP):Fm f173 [4] [.pointer d,.string name] [.I] R:=mf _
def QEy(d:Option Addr)(name:ByteArray)(R:Int→WP):Fm f178 [4] [.pointer d,.string name] [.I] R:=mf _
def QQE(b:Sl)(R:Sl→Int→Int→WP):Fm f183 [2,3,4] [b.v] [.slice,.I,.I] R:=mf _
def QG1(x:Option Addr)(time:Int)(seq:Int)(R:WP):Fm f188 [] [.pointer x,.I time,.I seq] [] R:=mf _
def QDx(d:Option Addr)(from':ByteArray)(to:ByteArray)(R:Int→WP):Fm f193 [6] [.pointer d,.string from',.string to] [.I] R:=mf _
def QEo(j:Option Addr)(p:Sl)(R:Int→WP):Fm f199 [4] [.pointer j,p.v] [.I] R:=mf _
def QFG(x:ByteArray)(R:Bool→WP):Fm f229 [2] [.string x] [.bool] R:=mf _
def QIt(l:Option Addr)(to:Int)(keep:Int)(R:Int→WP):Fm f236 [6] [.pointer l,.I to,.I keep] [.I] R:=mf _
def QFY(s:Option Addr)(now:Int)(epoch:Int)(next:Int)(R:Bool→WP):Fm f241 [8] [.pointer s,.I now,.I epoch,.I next] [.bool] R:=mf _
def QQT(b:Sl)(R:Sl→Bool→WP):Fm f249 [2,3] [b.v] [.slice,.bool] R:=mf _
def QEE(a0:Int)(a1:Int)(a2:Int)(a3:Sl)(a4:Sl)(a5:Sl)(r0:Int)(r1:Sl)(r2:Sl)(r3:Sl)(R:Bool→WP):Fm f254 [4] [.agg #[.I a0,.I a1,.I a2,a3.v,a4.v,a5.v],.agg #[.I r0,r1.v,r2.v,r3.v]] [.bool] R:=mf _
def QA4(s:Sl)(f_0:Addr)(R:Int→WP):Fm f262 [4] [s.v,.func (.func 181) #[] #[.pointer (some f_0)]] [.I] R:=mf _
def QHk(x:Int)(R:Bool→WP):Fm f269 [2] [.I x] [.bool] R:=mf _
def QCi(m:Option Addr)(now:Int)(R:Sl→Int→Int→Sl→Sl→Sl→Int→Bool→WP):Fm f324 [4,6] [.pointer m,.I now] [.slice,.I,.I,.slice,.slice,.slice,.I,.bool] R:=mf _
def QUM(p0:Int)(p1:Int)(p2:Int)(p3:Int)(p4:Int)(p5:Sl)(R:Int→Int→Int→Sl→Sl→Sl→Int→WP):Fm f329 [3] [.agg #[.I p0,.I p1,.I p2,.I p3,.I p4,p5.v]] [.I,.I,.I,.slice,.slice,.slice,.I] R:=mf _
def QMv(l:Sl)(p0:Int)(p1:Int)(p2:Int)(p3:Int)(p4:Int)(p5:Sl)(r0:Int)(r1:Sl)(r2:Sl)(r3:Sl)(R:Sl→Int→WP):Fm f338 [6,7] [l.v,.agg #[.I p0,.I p1,.I p2,.I p3,.I p4,p5.v],.agg #[.I r0,r1.v,r2.v,r3.v]] [.slice,.I] R:=mf _
def QDY(g:Option Addr)(id:Int)(R:Bool→WP):Fm f344 [4] [.pointer g,.I id] [.bool] R:=mf _
def QFF(l:Sl)(i:Int)(x0:Int)(x1:Int)(R:Sl→WP):Fm f361 [6] [l.v,.I i,.agg #[.I x0,.I x1]] [.slice] R:=mf _
def QNn(t0:ByteArray)(t1:Int)(t2:Int)(t3:Int)(t4:Int)(t5:Bool)(t6:Bool)(t7:Bool)(t8:Int)(t9:Int)(t10:Int)(t11:Int)(t12:Int)(t13:Bool)(t14:Bool)(t15:Bool)(t16:Int)(t17:Int)(t18:Int)(p0:Int)(p1:Int)(p2:Int)(p3:Int)(p4:Int)(p5:Sl)(r0:Int)(r1:Sl)(r2:Sl)(r3:Sl)(R:Int→WP):Fm f431 [6] [.agg #[.string t0,.I t1,.I t2,.I t3,.I t4,.bool t5,.bool t6,.bool t7,.I t8,.I t9,.I t10,.I t11,.I t12,.bool t13,.bool t14,.bool t15,.I t16,.I t17,.I t18],.agg #[.I p0,.I p1,.I p2,.I p3,.I p4,p5.v],.agg #[.I r0,r1.v,r2.v,r3.v]] [.I] R:=mf _
def QRp(s0:Bool)(s1:Bool)(s2:Bool)(s3:Int)(s4:Int)(s5:Int)(words:Sl)(R:Int→Int→WP):Fm f487 [4,5] [.agg #[.bool s0,.bool s1,.bool s2,.I s3,.I s4,.I s5],words.v] [.I,.I] R:=mf _
def QIg(v:Int)(fv0:Addr)(R:Bool→WP):Fm f492 [3] [.I v,.pointer (some fv0)] [.bool] R:=mf _
end
end Go.Cx
