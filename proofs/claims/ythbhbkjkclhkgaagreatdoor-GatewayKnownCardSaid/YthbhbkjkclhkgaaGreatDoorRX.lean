import Derived.Test.YthbhbkjkclhkgaaGreatDoorDK
import Derived.Test.YthbhbkjkclhkgaaGreatDoorS1
import Derived.Test.YthbhbkjkclhkgaaGreatDoorT1
import Derived.Test.YthbhbkjkclhkgaaGreatDoorHY
namespace Go.Cx
open Go Go.Cf
set_option linter.unusedVariables false
variable {B:QBE}{As:List HP}
end Go.Cx
namespace Go.Cx
open Go Go.Cf
set_option linter.unusedVariables false
set_option maxRecDepth 100000
variable {B:QBE}{As F:List HP}{α:Type}
theorem Qbh(u:Nat)(h:10≤u):Lib.decDigits u=Lib.decDigits (u / 10)++[UInt8.ofNat (48+u % 10)]:=by
 rw[Lib.decDigits,dif_neg (by omega)]
theorem QWr{m:DM}{g:DM→DM}:(QE7 m g).2=0∨(QE7 m g).2=10:=by
 unfold QE7;split
 ·exact .inr rfl
 ·exact .inl rfl
theorem QV5{m:DM}{nm:ByteArray}(hd:m.down=false)(ht:QAh m.fs nm.toList=true):QAt m nm=QAV m nm:=by
 unfold QAt
 have:(QAV m nm).2≠6:=by
  unfold QAV QBk;rw[if_neg (by rw[hd];decide),if_neg (by rw[ht];decide)];rcases QWr (m:=m) (g:=fun m'=>{ m' with fs:=m'.fs.eraseIdx (QAT m.fs nm.toList) }) with h|h
  ·rw[h];decide
  ·rw[h];decide
 rw[if_neg this]
theorem QZp{m:DM}{nm:ByteArray}(hd:m.down=false)(ht:QAh m.fs nm.toList=false):QAt m nm=(m,0):=by
 unfold QAt
 have:QAV m nm=(m,6):=by
  unfold QAV QBk;rw[if_neg (by rw[hd];decide),if_pos (by rw[ht];decide)]
 rw[this];rfl
end Go.Cx
namespace Go.Cx
open Go Go.Cf
set_option linter.unusedVariables false
set_option maxRecDepth 100000
variable {B:QBE}{As F:List HP}
end Go.Cx
namespace Go.Cx
open Go Go.Cf
set_option linter.unusedVariables false
set_option maxRecDepth 100000
variable {B:QBE}{As F:List HP}{α:Type}
theorem QWk(m:DM)(nm:ByteArray):(QAW m nm).2≠0↔QAh m.fs nm.toList=false:=by
 unfold QAW
 cases h:QAh m.fs nm.toList with
 | true=>simp
 | false=>simp
theorem QWb{m:DM}{nm:ByteArray}(hI:DInv m)(hd:m.down=false)(h:(QAt m nm).2=0):(QAt m nm).1.down=false:=by
 cases ht:QAh m.fs nm.toList with
 | true=>
  rw[QV5 hd ht]at h⊢;rw[QDN hI.sorted]at ht;obtain⟨f,hf⟩:=Option.isSome_iff_exists.1 ht;rcases QLH hI hd hf with e|e
  ·rw[e.2]at h;cases h
  ·rw[e.down,hd]
 | false=>rw[QZp hd ht];exact hd
theorem QNs{m:DM}(hI:DInv m)(hd:m.down=false){n:Int}(ht:QAh m.fs (fN n).toList=true)(h:(QD6 m n).2=0):(QD6 m n).1.down=false:=by
 have hs:=ht;rw[QDN hI.sorted]at hs;obtain⟨f,hf⟩:=Option.isSome_iff_exists.1 hs;have hu:=QK3 (QAW m (fN n)).1;have hr:=QMs hI hf;unfold QD6 at h⊢;simp only at h⊢;by_cases hc:(QAv (QAW m (fN n)).1).2<(QAW m (fN n)).1.length
 ·rw[if_pos hc]at h⊢
  have hfl:(QAW m (fN n)).1=f.b:=by rw[hr]
  rw[hfl]at h⊢ hu hc;rcases QOp hI hd hf (n:=((QAv f.b).2:Int)) (by omega) (by omega) with e|e
  ·rw[e.2]at h;simp at h
  ·rw[if_neg (by rw[e.err];decide)]at h⊢;have hI2:=QFd hI (fN n) ((QAv f.b).2:Int);have hd2:=e.down;rw[hd]at hd2
   have hg:(QCT (QBR m (fN n) ((QAv f.b).2:Int)).1.fs (fN n).toList).isSome=true:=by
    obtain⟨h1,h2⟩:=QC1 hI.sorted hf;rw[e.files,QFq hI.sorted h2 (g:={ f with b:=f.b.take ((QAv f.b).2:Int).toNat,sy:=if ((QAv f.b).2:Int)<f.sy then ((QAv f.b).2:Int) else f.sy }) rfl,if_pos (QCP hf).symm];rfl
   obtain⟨f2,hf2⟩:=Option.isSome_iff_exists.1 hg;rcases QPF hI2 hd2 hf2 with e2|e2
   ·rw[e2.2]at h;cases h
   ·rw[e2.down,hd2]
 ·rw[if_neg hc,if_neg (by simp)]at h⊢;simp only at h⊢;rcases QPF hI hd hf with e2|e2
  ·rw[e2.2]at h;cases h
  ·rw[e2.down,hd]
end Go.Cx
