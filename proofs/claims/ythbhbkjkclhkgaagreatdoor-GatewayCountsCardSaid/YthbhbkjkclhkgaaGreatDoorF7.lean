/-
What each function does, reckoned.
-/
import Derived.Test.YthbhbkjkclhkgaaGreatDoorH
namespace Go.Cx
open Go Go.Cf Go.Proofs.Tryz
noncomputable section
set_option maxRecDepth 100000
set_option maxHeartbeats 0
set_option linter.unusedVariables false
attribute [local irreducible] QG1 QFk QRM QJK QQn QGM QQ4 QGX QAn QBE XIf QC3 QCz QBW QFl QD5 QLG QKJ QOx QM2 QIa QcS QOU QIO Addr.add IntKind.wrap Sl.cut QCy QGu QVz vOr QZJ vEq vNe vLt vLe vGt vGe QcC QbV Qb8 QCx QCu QIl QIj QN7 QOJ QFq QIK QIL QZF QbC QI9 tEq tLt Builtin.append_ Builtin.copy_ Builtin.clear_ Instr.makeSlice Instr.makeMap QZP QKR ByteArray.size UInt8.ofNat
def QEj(g:Ac)(R:Ac->WP):Fm f18 [2] [.pointer g] [.ptr] R:=mf _
def QSH(a:Int)(b:Int)(c:Int)(d:Int)(e:Int)(f:Sl)(R:Sl->WP):Fm f34 [2] [.agg #[.I a,.I b,.I c,.I d,.I e,f.v]] [.slice] R:=mf _
def QEO(b:Ac)(v:Int)(R:Sl->WP):Fm f44 [4] [.pointer b,.I v] [.slice] R:=mf _
def QLJ(a:Addr)(b:Addr)(R:Int->WP):Fm f53 [2] [.pointer (some a),.pointer (some b)] [.I] R:=mf _
def QFW(d:Ac)(R:Int->WP):Fm f72 [2] [.pointer d] [.I] R:=mf _
def QNu(b:Sl)(R:Sl->Int->WP):Fm f98 [2,3] [b.v] [.slice,.I] R:=mf _
def Qbl(a0:Int)(a:Int)(a2:Int)(a3:Sl)(a4:Sl)(a5:Sl)(R:Sl->Int->WP):Fm f108 [2,3] [.agg #[.I a0,.I a,.I a2,a3.v,a4.v,a5.v]] [.slice,.I] R:=mf _
def QNd(d:Ac)(R:Ac->Int->WP):Fm f118 [2,3] [.pointer d] [.ptr,.I] R:=mf _
def QEJ(g:Ac)(a:Int)(b:Int)(c:ByteArray)(d:Int)(e:Int)(Q:WP)(R:WP):FmP f127 [] [.pointer g,.agg #[.I a,.I b,.string c,.I d,.I e]] [] Q R:=mfP _
def QEF(g:Ac)(now:Int)(Q:WP)(R:WP):FmP f149 [] [.pointer g,.I now] [] Q R:=mfP _
def QK5(u:Int)(R:Bool->WP):Fm f159 [2] [.int .u8 u] [.bool] R:=mf _
def QNZ(pdu:Sl)(R:Int->WP):Fm f168 [2] [pdu.v] [.I] R:=mf _
def QDR(d:Ac)(name:ByteArray)(n:Int)(R:Int->WP):Fm f177 [6] [.pointer d,.string name,.I n] [.I] R:=mf _
def QEz(j:Ac)(b:Sl)(R:Bool->WP):Fm f185 [4] [.pointer j,b.v] [.bool] R:=mf _
def QEB(d:Ac)(a:ByteArray)(to:ByteArray)(R:Int->WP):Fm f193 [6] [.pointer d,.string a,.string to] [.I] R:=mf _
def QIQ(l:Ac)(R:Int->WP):Fm f202 [2] [.pointer l] [.I] R:=mf _
def QJM(l:Ac)(to:Int)(keep:Int)(R:Int->WP):Fm f236 [6] [.pointer l,.I to,.I keep] [.I] R:=mf _
def QMu(a:Int)(b:Sl)(R:Int->WP):Fm f247 [4] [.int .u32 a,b.v] [.int .u32] R:=mf _
def QRz(n:Int)(R:Int->WP):Fm f255 [2] [.I n] [.I] R:=mf _
def QJ6(t:Ac)(k0:Int)(a:Int)(v:Int)(R:Bool->WP):Fm f266 [6] [.pointer t,.agg #[.I k0,.I a],.I v] [.bool] R:=mf _
def QEC(j:Ac)(id:Int)(R:Int->WP):Fm f326 [4] [.pointer j,.I id] [.I] R:=mf _
def QLQ(a0:Int)(a:Int)(a2:Int)(a3:Sl)(a4:Sl)(a5:Sl)(R:Int->WP):Fm f336 [2] [.agg #[.I a0,.I a,.I a2,a3.v,a4.v,a5.v]] [.I] R:=mf _
def QM8(a:Int)(b:Sl)(R:Int->WP):Fm f347 [4] [.int .u16 a,b.v] [.int .u16] R:=mf _
def QFC(a:Addr)(b:Addr)(R:WP):Fm f426 [] [.pointer (some a),.pointer (some b)] [] R:=mf _
def QEx(p:Ac)(a:Addr)(b:Addr)(c:Addr)(d:Addr)(R:Bool->WP):Fm f486 [6] [.pointer p,.pointer (some a),.pointer (some b),.pointer (some c),.pointer (some d)] [.bool] R:=mf _
def QEa(n:Int)(d:Int)(R:Int->WP):Fm f512 [4] [.I n,.I d] [.I] R:=mf _
end
end Go.Cx
