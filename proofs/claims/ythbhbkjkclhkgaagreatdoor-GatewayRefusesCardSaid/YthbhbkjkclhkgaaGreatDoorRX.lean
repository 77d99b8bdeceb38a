/-
The document's device: what its calls are made of.
-/
import Derived.Test.YthbhbkjkclhkgaaGreatDoorDK
import Derived.Test.YthbhbkjkclhkgaaGreatDoorS1
import Derived.Test.YthbhbkjkclhkgaaGreatDoorT1
import Derived.Test.YthbhbkjkclhkgaaGreatDoorHY
namespace Go.Cx
open Go Go.Cf
set_option linter.unusedVariables false
variable {B:QBG}{As:List HP}
end Go.Cx
namespace Go.Cx
open Go Go.Cf
set_option linter.unusedVariables false
set_option maxRecDepth 100000
variable {B:QBG}{As F:List HP}{α:Type}
theorem Qb9(u:Nat)(h:10≤u):Lib.decDigits u=Lib.decDigits (u / 10)++[UInt8.ofNat (48+u % 10)]:=by
 rw[Lib.decDigits,dif_neg (by omega)]
theorem QXC{m:DM}{g:DM→DM}:(QD3 m g).2=0∨(QD3 m g).2=10:=by
 unfold QD3;split
 ·exact .inr rfl
 ·exact .inl rfl
theorem QWs{m:DM}{nm:ByteArray}(hd:m.down=false)(ht:QAi m.fs nm.toList=true):QAt m nm=QAV m nm:=by
 unfold QAt
 have:(QAV m nm).2≠6:=by
  unfold QAV QBX;rw[if_neg (by rw[hd];decide),if_neg (by rw[ht];decide)];rcases QXC (m:=m) (g:=fun m'=>{ m' with fs:=m'.fs.eraseIdx (QAT m.fs nm.toList) }) with h|h
  ·rw[h];decide
  ·rw[h];decide
 rw[if_neg this]
theorem QYx{m:DM}{nm:ByteArray}(hd:m.down=false)(ht:QAi m.fs nm.toList=false):QAt m nm=(m,0):=by
 unfold QAt
 have:QAV m nm=(m,6):=by
  unfold QAV QBX;rw[if_neg (by rw[hd];decide),if_pos (by rw[ht];decide)]
 rw[this];rfl
end Go.Cx
namespace Go.Cx
open Go Go.Cf
set_option linter.unusedVariables false
set_option maxRecDepth 100000
variable {B:QBG}{As F:List HP}
end Go.Cx
namespace Go.Cx
open Go Go.Cf
set_option linter.unusedVariables false
set_option maxRecDepth 100000
variable {B:QBG}{As F:List HP}{α:Type}
theorem QXF(m:DM)(nm:ByteArray):(QAX m nm).2≠0↔QAi m.fs nm.toList=false:=by
 unfold QAX
 cases h:QAi m.fs nm.toList with
 | true=>simp
 | false=>simp
theorem QXG{m:DM}{nm:ByteArray}(hI:DInv m)(hd:m.down=false)(h:(QAt m nm).2=0):(QAt m nm).1.down=false:=by
 cases ht:QAi m.fs nm.toList with
 | true=>
  rw[QWs hd ht]at h⊢;rw[QC8 hI.sorted]at ht;obtain⟨f,hf⟩:=Option.isSome_iff_exists.1 ht;rcases QMb hI hd hf with e|e
  ·rw[e.2]at h;cases h
  ·rw[e.down,hd]
 | false=>rw[QYx hd ht];exact hd
theorem QOK{m:DM}(hI:DInv m)(hd:m.down=false){n:Int}(ht:QAi m.fs (fN n).toList=true)(h:(QD7 m n).2=0):(QD7 m n).1.down=false:=by
 have hs:=ht;rw[QC8 hI.sorted]at hs;obtain⟨f,hf⟩:=Option.isSome_iff_exists.1 hs;have hu:=QKh (QAX m (fN n)).1;have hr:=QLv hI hf;unfold QD7 at h⊢;simp only at h⊢;by_cases hc:(QAv (QAX m (fN n)).1).2<(QAX m (fN n)).1.length
 ·rw[if_pos hc]at h⊢
  have hfl:(QAX m (fN n)).1=f.b:=by rw[hr]
  rw[hfl]at h⊢ hu hc;rcases QP1 hI hd hf (n:=((QAv f.b).2:Int)) (by omega) (by omega) with e|e
  ·rw[e.2]at h;simp at h
  ·rw[if_neg (by rw[e.err];decide)]at h⊢;have hI2:=QFL hI (fN n) ((QAv f.b).2:Int);have hd2:=e.down;rw[hd]at hd2
   have hg:(QCP (QBP m (fN n) ((QAv f.b).2:Int)).1.fs (fN n).toList).isSome=true:=by
    obtain⟨h1,h2⟩:=QCt hI.sorted hf;rw[e.files,QF1 hI.sorted h2 (g:={ f with b:=f.b.take ((QAv f.b).2:Int).toNat,sy:=if ((QAv f.b).2:Int)<f.sy then ((QAv f.b).2:Int) else f.sy }) rfl,if_pos (QCN hf).symm];rfl
   obtain⟨f2,hf2⟩:=Option.isSome_iff_exists.1 hg;rcases QPs hI2 hd2 hf2 with e2|e2
   ·rw[e2.2]at h;cases h
   ·rw[e2.down,hd2]
 ·rw[if_neg hc,if_neg (by simp)]at h⊢;simp only at h⊢;rcases QPs hI hd hf with e2|e2
  ·rw[e2.2]at h;cases h
  ·rw[e2.down,hd]
end Go.Cx
