/-
What each function does, reckoned.
-/
import Derived.Test.YthbhbkjkclhkgaaGreatDoorH
namespace Go.Cx
open Go Go.Cf Go.Proofs.Tryz
noncomputable section
set_option maxRecDepth 100000
set_option maxHeartbeats 0
set_option linter.unusedVariables false
attribute [local irreducible] QHd QE4 QP5 QJI QPw QFm QPe QFo QAs QBJ XIf QC0 QDK QBW QFw QEh QJ2 QIa QNS QMH QHh QbF QNI QHm Addr.add IntKind.wrap Sl.cut QCv QGF QUa vOr QXQ vEq vNe vLt vLe vGt vGe QaK QYd QaF QCc QCZ QHy QII QLG QM2 QFU QHW QHY QWb QX9 QIF tEq tLt Builtin.append_ Builtin.copy_ Builtin.clear_ Instr.makeSlice Instr.makeMap QXT QKF ByteArray.size UInt8.ofNat
def QVQ(k:Int)(n:Int)(R:Int→WP):Fm f12 [4] [.I k,.I n] [.I] R:=mf _
def QG8(c0:Int)(c1:Int)(c2:Int)(c3:Int)(c4:Int)(c5:Int)(c6:Sl)(d:Option Addr)(now:Int)(R:Option Addr→Sl→Int→WP):Fm f22 [6,7,8] [.agg #[.I c0,.I c1,.I c2,.I c3,.I c4,.I c5,c6.v],.pointer d,.I now] [.ptr,.slice,.I] R:=mf _
def QIb(l:Option Addr)(R:Int→WP):Fm f39 [2] [.pointer l] [.I] R:=mf _
def QGP(p:Option Addr)(n:Int)(R:WP):Fm f47 [] [.pointer p,.I n] [] R:=mf _
def QKU(c0:Int)(c1:Int)(c2:Int)(c3:Int)(c4:Int)(c5:Int)(c6:Sl)(R:Int→WP):Fm f56 [2] [.agg #[.I c0,.I c1,.I c2,.I c3,.I c4,.I c5,c6.v]] [.I] R:=mf _
def QEp(d:Option Addr)(name:ByteArray)(R:Int→Bool→WP):Fm f87 [4,5] [.pointer d,.string name] [.I,.bool] R:=mf _
def QGE(l:Option Addr)(R:Option Addr→WP):Fm f103 [2] [.pointer l] [.ptr] R:=mf _
def QHc(b:Option Addr)(p:Sl)(s0:Int)(s1:Int)(s2:Int)(s3:Int)(s4:Int)(s5:Int)(s6:Int)(s7:Bool)(R:WP):Fm f112 [] [.pointer b,p.v,.agg #[.I s0,.I s1,.I s2,.I s3,.I s4,.I s5,.I s6,.bool s7]] [] R:=mf _
def QIW(n:Int)(low:Int)(high:Int)(R:Bool→WP):Fm f121 [6] [.I n,.I low,.I high] [.bool] R:=mf _
def QIS(l:Option Addr)(R:Int→WP):Fm f132 [2] [.pointer l] [.I] R:=mf _
def QD0(g:Option Addr)(b:Sl)(Q:WP)(R:WP):FmP f152 [] [.pointer g,b.v] [] Q R:=mfP _
def QOu(b:Sl)(R:Int→Int→Int→Sl→Sl→Sl→Bool→WP):Fm f162 [3] [b.v] [.I,.I,.I,.slice,.slice,.slice,.bool] R:=mf _
def QKD(v:Int)(from':Int)(to:Int)(R:Bool→WP):Fm f171 [6] [.I v,.I from',.I to] [.bool] R:=mf _
def QAy(s:Sl)(f_0:Addr)(R:Bool→WP):Fm f180 [4] [s.v,.func (.func 181) #[] #[.pointer (some f_0)]] [.bool] R:=mf _
def QGZ(x:Option Addr)(time:Int)(seq:Int)(R:WP):Fm f188 [] [.pointer x,.I time,.I seq] [] R:=mf _
def QGN(x:Int)(y:Int)(R:Int→WP):Fm f197 [4] [.I x,.I y] [.I] R:=mf _
def QCx(m:Option Addr)(now:Int)(R:Sl→Int→Int→Sl→Sl→Sl→Int→Bool→WP):Fm f231 [4,6] [.pointer m,.I now] [.slice,.I,.I,.slice,.slice,.slice,.I,.bool] R:=mf _
def QN8(s0:Int)(s1:Int)(s2:Int)(now:Int)(ok:Bool)(R:Int→Int→Int→WP):Fm f240 [] [.agg #[.I s0,.I s1,.I s2],.I now,.bool ok] [.I,.I,.I] R:=mf _
def QHO(b:Sl)(R:Sl→Int→WP):Fm f251 [2,3] [b.v] [.slice,.I] R:=mf _
def QA4(s:Sl)(f_0:Addr)(R:Int→WP):Fm f262 [4] [s.v,.func (.func 181) #[] #[.pointer (some f_0)]] [.I] R:=mf _
def QGn(x:Option Addr)(time:Int)(seq:Int)(R:Int→WP):Fm f272 [6] [.pointer x,.I time,.I seq] [.I] R:=mf _
def QHf(l:Option Addr)(to:Int)(keep:Int)(R:Int→WP):Fm f332 [6] [.pointer l,.I to,.I keep] [.I] R:=mf _
def QDy(j:Option Addr)(id:Int)(R:Int→Int→WP):Fm f343 [4,5] [.pointer j,.I id] [.I,.I] R:=mf _
def QJz(b:Sl)(l:Sl)(R:Sl→WP):Fm f373 [4] [b.v,l.v] [.slice] R:=mf _
def QRd(s0:Bool)(s1:Bool)(s2:Bool)(s3:Int)(s4:Int)(s5:Int)(words:Sl)(R:Int→Int→WP):Fm f487 [4,5] [.agg #[.bool s0,.bool s1,.bool s2,.I s3,.I s4,.I s5],words.v] [.I,.I] R:=mf _
end
end Go.Cx
