import Derived.Test.YthbhbkjkclhkgaaGreatDoorH
namespace Go.Cx
open Go Go.Cf Go.Proofs.Tryz
noncomputable section
set_option maxRecDepth 100000
set_option maxHeartbeats 0
set_option linter.unusedVariables false
attribute [local irreducible] QK5 QIB QVe QNV QW8 QJX QXE QJl QAq QBG XIf QCe QDE QBc QGp QFX QKB QLu QQU QRs QLc Qdw QSt QLd Addr.add IntKind.wrap Sl.cut QDF QGW QZk vOr Qah vEq vNe vLt vLe vGt vGe Qcr QcV Qdg QC5 QC3 QJS QJR QRD QTa QGM QIR QIP QZ6 QcT QJQ tEq tLt Builtin.append_ Builtin.copy_ Builtin.clear_ Instr.makeSlice Instr.makeMap Qat QKv ByteArray.size UInt8.ofNat
def QEs(d:Option Addr)(keep:Int)(R:WP):Fm f16 [] [.pointer d,.I keep] [] R:=mf _
def QGa(c0:Int)(c1:Int)(c2:Int)(c3:Int)(c4:Int)(c5:Int)(c6:Sl)(d:Option Addr)(now:Int)(R:Option Addr→Sl→Int→WP):Fm f22 [6,7,8] [.agg #[.I c0,.I c1,.I c2,.I c3,.I c4,.I c5,c6.v],.pointer d,.I now] [.ptr,.slice,.I] R:=mf _
def QEz(g:Option Addr)(e0:Int)(e1:Int)(e2:Sl)(e3:ByteArray)(R:Sl→WP):Fm f33 [4] [.pointer g,.agg #[.I e0,.I e1,e2.v,.string e3]] [.slice] R:=mf _
def QMt(name:ByteArray)(addr:Int)(R:ByteArray→Int→Int→Int→Int→Bool→Bool→Bool→Int→Int→Int→Int→Int→Bool→Bool→Bool→Int→Int→Int→WP):Fm f38 [] [.string name,.I addr] [.str,.I,.I,.I,.I,.bool,.bool,.bool,.I,.I,.I,.I,.I,.bool,.bool,.bool,.I,.I,.I] R:=mf _
def QHm(b:Option Addr)(e0:Int)(e1:Int)(e2:Sl)(e3:ByteArray)(R:WP):Fm f43 [] [.pointer b,.agg #[.I e0,.I e1,e2.v,.string e3]] [] R:=mf _
def QIz(a:Sl)(b:Sl)(R:Bool→WP):Fm f49 [4] [a.v,b.v] [.bool] R:=mf _
def QJI(v:Int)(from':Int)(to:Int)(R:Bool→WP):Fm f54 [6] [.I v,.I from',.I to] [.bool] R:=mf _
def QOC(timeout:Int)(retries:Int)(R:Option Addr→Int→WP):Fm f59 [4,5] [.I timeout,.I retries] [.ptr,.I] R:=mf _
def QEr(d:Option Addr)(name:ByteArray)(R:Int→Bool→WP):Fm f87 [4,5] [.pointer d,.string name] [.I,.bool] R:=mf _
def QLz(b:Sl)(R:Sl→Int→WP):Fm f98 [2,3] [b.v] [.slice,.I] R:=mf _
def QJG(b:Sl)(R:Int→Sl→Int→WP):Fm f104 [2,3,4] [b.v] [.int .u8,.slice,.I] R:=mf _
def QNt(a0:Int)(a1:Int)(a2:Int)(a3:Sl)(a4:Sl)(a5:Sl)(R:Bool→WP):Fm f109 [2] [.agg #[.I a0,.I a1,.I a2,a3.v,a4.v,a5.v]] [.bool] R:=mf _
def QQV(d:Option Addr)(R:Option Addr→Int→WP):Fm f116 [2,3] [.pointer d] [.ptr,.I] R:=mf _
def QI3(n:Int)(low:Int)(high:Int)(R:Bool→WP):Fm f121 [6] [.I n,.I low,.I high] [.bool] R:=mf _
def QDy(g:Option Addr)(r0:Int)(r1:Int)(r2:ByteArray)(r3:Int)(r4:Int)(Q:WP)(R:WP):FmP f127 [] [.pointer g,.agg #[.I r0,.I r1,.string r2,.I r3,.I r4]] [] Q R:=mfP _
def QAl(x:Sl)(target:ByteArray)(R:Int→Bool→WP):Fm f144 [6,7] [x.v,.string target,.func (.func 145) #[] #[]] [.I,.bool] R:=mf _
def QDu(g:Option Addr)(o0:Int)(o1:Int)(o2:Sl)(o3:Sl)(o4:Sl)(o5:Int)(Q:WP)(R:WP):FmP f151 [] [.pointer g,.agg #[.I o0,.I o1,o2.v,o3.v,o4.v,.I o5]] [] Q R:=mfP _
def QL6(b:Sl)(R:Sl→Int→WP):Fm f158 [2,3] [b.v] [.slice,.I] R:=mf _
def QFs(a0:Int)(a1:Int)(a2:Int)(a3:Sl)(a4:Sl)(a5:Sl)(r0:Int)(r1:Sl)(r2:Sl)(r3:Sl)(R:Int→WP):Fm f164 [4] [.agg #[.I a0,.I a1,.I a2,a3.v,a4.v,a5.v],.agg #[.I r0,r1.v,r2.v,r3.v]] [.I] R:=mf _
def QLo(b:Sl)(R:Sl→WP):Fm f169 [2] [b.v] [.slice] R:=mf _
def QQO(n:Int)(R:ByteArray→WP):Fm f175 [2] [.I n] [.str] R:=mf _
def QA0(s:Sl)(f_0:Addr)(R:Bool→WP):Fm f180 [4] [s.v,.func (.func 181) #[] #[.pointer (some f_0)]] [.bool] R:=mf _
def QEV(j:Option Addr)(b:Sl)(R:Bool→WP):Fm f185 [4] [.pointer j,b.v] [.bool] R:=mf _
def QEx(n0:Int)(n1:Int)(n2:Int)(R:Bool→WP):Fm f190 [2] [.agg #[.I n0,.I n1,.I n2]] [.bool] R:=mf _
def QK4(vals:Sl)(R:Int→WP):Fm f196 [2] [vals.v] [.I] R:=mf _
def QCz(g:Option Addr)(p0:Int)(p1:Int)(p2:Int)(p3:Int)(p4:Int)(p5:Sl)(R:WP):Fm f201 [] [.pointer g,.agg #[.I p0,.I p1,.I p2,.I p3,.I p4,p5.v]] [] R:=mf _
def QDs(g:Option Addr)(to:Int)(b:Sl)(R:WP):Fm f232 [] [.pointer g,.I to,b.v] [] R:=mf _
def QDD(m:Option Addr)(what:Int)(r0:Int)(r1:Sl)(r2:Sl)(r3:Sl)(R:Int→Int→Sl→Sl→Sl→Int→Bool→WP):Fm f238 [7] [.pointer m,.I what,.agg #[.I r0,r1.v,r2.v,r3.v]] [.I,.I,.slice,.slice,.slice,.I,.bool] R:=mf _
def QDZ(g:Option Addr)(p0:Int)(p1:Int)(p2:Int)(p3:Int)(p4:Int)(p5:Sl)(R:WP):Fm f243 [] [.pointer g,.agg #[.I p0,.I p1,.I p2,.I p3,.I p4,p5.v]] [] R:=mf _
def QHO(b:Sl)(R:Sl→Int→WP):Fm f251 [2,3] [b.v] [.slice,.I] R:=mf _
def QMY(s0:Bool)(s1:Bool)(s2:Bool)(s3:Int)(s4:Int)(s5:Int)(R:Int→WP):Fm f256 [2] [.agg #[.bool s0,.bool s1,.bool s2,.I s3,.I s4,.I s5]] [.I] R:=mf _
def QLR(p:Sl)(R:Int→WP):Fm f264 [2] [p.v] [.int .u32] R:=mf _
def QGS(l:Option Addr)(p:Sl)(R:Int→Int→WP):Fm f271 [4,5] [.pointer l,p.v] [.I,.I] R:=mf _
def QD5(j:Option Addr)(id:Int)(R:Int→WP):Fm f326 [4] [.pointer j,.I id] [.I] R:=mf _
def QEP(b:Sl)(R:Int→Sl→Sl→Sl→Int→WP):Fm f335 [3] [b.v] [.I,.slice,.slice,.slice,.I] R:=mf _
def QLU(s0:Int)(s1:Int)(s2:Int)(R:Bool→WP):Fm f341 [2] [.agg #[.I s0,.I s1,.I s2]] [.bool] R:=mf _
def QFS(x:Int)(low:Int)(high:Int)(R:Int→WP):Fm f348 [6] [.I x,.I low,.I high] [.I] R:=mf _
def QJ9(b:Sl)(l:Sl)(R:Sl→WP):Fm f373 [4] [b.v,l.v] [.slice] R:=mf _
def QHx(l0:Bool)(l1:Bool)(l2:Bool)(l3:Int)(l4:Int)(l5:Int)(R:Int→Int→Value→Value→Int→Int→Value→Value→WP):Fm f433 [] [.agg #[.bool l0,.bool l1,.bool l2,.I l3,.I l4,.I l5]] [.I,.I,.val,.val,.I,.I,.val,.val] R:=mf _
def QI8(v:Int)(fv0:Addr)(R:Bool→WP):Fm f489 [3] [.I v,.pointer (some fv0)] [.bool] R:=mf _
def QD9(n:Int)(d:Int)(R:Int→WP):Fm f512 [4] [.I n,.I d] [.I] R:=mf _
end
end Go.Cx
