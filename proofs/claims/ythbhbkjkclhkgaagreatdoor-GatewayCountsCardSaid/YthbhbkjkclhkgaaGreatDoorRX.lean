/-
The document's device: what its calls are made of.
-/
import Derived.Test.YthbhbkjkclhkgaaGreatDoorDK
import Derived.Test.YthbhbkjkclhkgaaGreatDoorS1
import Derived.Test.YthbhbkjkclhkgaaGreatDoorT1
import Derived.Test.YthbhbkjkclhkgaaGreatDoorHY
set_option linter.unusedVariables false
set_option maxRecDepth 100000
open Go Go.Cf
namespace Go.Cx
variable {B:QBJ}{As:List HP}
theorem QhT{a b:Sh}{body:(a.ty->b.ty->WP)->WP}{rest:a.ty->b.ty->WP}(J:a.ty->b.ty->List HP->Prop)(h1:∀K:a.ty->b.ty->WP,(∀x y As',J x y As'->Ent B As' (K x y))->Ent B As (body K))(c:∀x y As',J x y As'->Ent B As' (rest x y)) :
  Ent B As (QBW [a,b] body rest):=h1 rest c
variable {B:QBJ}{As F:List HP}{α:Type}
theorem QeM(u:Nat)(h:10<=u):Lib.decDigits u=Lib.decDigits (u / 10)++[UInt8.ofNat (48+u % 10)]:=by
 rw[Lib.decDigits,dif_neg Om]
theorem QOz{m:DM}{g:DM->DM}:(QD3 m g).2=0\/(QD3 m g).2=10:=by
 unfold QD3;split
 ·exact .inr rfl
 ·exact .inl rfl
theorem QO0{m:DM}{nm:ByteArray}(a:m.down=false)(b:QAk m.fs nm.toList=true):QAj m nm=QAJ m nm:=by
 unfold QAj
 have:(QAJ m nm).2≠6:=by
  unfold QAJ QBb;rw[Wb (by rw[a];decide),Wb (by rw[b];decide)];rcases QOz (m:=m) (g:=fun m'=>{ m' with fs:=m'.fs.eraseIdx (QAR m.fs nm.toList) }) with h|h
  ·rw[h];decide
  ·rw[h];decide
 rw[Wb this]
theorem QSF{m:DM}{nm:ByteArray}(a:m.down=false)(b:QAk m.fs nm.toList=false):QAj m nm=(m,0):=by
 unfold QAj
 have:QAJ m nm=(m,6):=by
  unfold QAJ QBb;rw[Wb (by rw[a];decide),We (by rw[b];decide)]
 rw[this];rfl
variable {B:QBJ}{As F:List HP}
variable {B:QBJ}{As F:List HP}{α:Type}
theorem QXh(m:DM)(nm:ByteArray):(QAc m nm).2≠0↔QAk m.fs nm.toList=false:=by
 unfold QAc
 cases h:QAk m.fs nm.toList with
 | true=>simp
 | false=>simp
theorem Qap{m:DM}{nm:ByteArray}(h:(QAj m nm).2≠0):(QAj m nm).2=10:=by
 cases a:m.down with
 | true=>
  have:QAJ m nm=(m,10):=by unfold QAJ;exact QGc a _ _
  unfold QAj;rw[this];rfl
 | false=>
  cases b:QAk m.fs nm.toList with
  | true=>
   rw[QO0 a b]at h|-;unfold QAJ QBb at h|-;rw[Wb (by rw[a];decide),Wb (by rw[b];decide)]at h|-;rcases QOz (m:=m) (g:=fun m'=>{ m' with fs:=m'.fs.eraseIdx (QAR m.fs nm.toList) }) with e|e
   ·exact absurd e h
   ·exact e
  | false=>rw[QSF a b]at h;exact absurd rfl h
theorem QYm{m:DM}{nm:ByteArray}(hI:DInv m)(a:m.down=false)(h:(QAj m nm).2=0):(QAj m nm).1.down=false:=by
 cases b:QAk m.fs nm.toList with
 | true=>
  rw[QO0 a b]at h|-;rw[QDU hI.sorted]at b;obtain⟨f,c⟩:=O5.1 b;rcases QHW hI a c with e|e
  ·rw[e.2]at h;cases h
  ·rw[e.down,a]
 | false=>rw[QSF a b];exact a
theorem QPG{m:DM}(hI:DInv m)(d:m.down=false){n:Int}(t:QAk m.fs (fN n).toList=true)(h:(QEb m n).2=0):(QEb m n).1.down=false:=by
 have j:=t;rw[QDU hI.sorted]at j;obtain⟨f,c⟩:=O5.1 j;have o:=QL2 (QAc m (fN n)).1;have p:=QNN hI c;unfold QEb at h|-;simp only at h|-;by_cases hc:(QAx (QAc m (fN n)).1).2<(QAc m (fN n)).1.length
 ·rw[We hc]at h|-
  have q:(QAc m (fN n)).1=f.b:=by rw[p]
  rw[q]at h|- o hc;rcases QQD hI d c (n:=((QAx f.b).2:Int)) Om Om with e|e
  ·rw[e.2]at h;simp at h
  ·rw[Wb (by rw[e.err];decide)]at h|-;have r:=QGH hI (fN n) ((QAx f.b).2:Int);have i:=e.down;rw[d]at i
   have s:(QCa (QBc m (fN n) ((QAx f.b).2:Int)).1.fs (fN n).toList).isSome=true:=by
    obtain⟨h1,k⟩:=QDF hI.sorted c;rw[e.files,QGT hI.sorted k (g:={ f with b:=f.b.take ((QAx f.b).2:Int).toNat,sy:=if ((QAx f.b).2:Int)<f.sy then ((QAx f.b).2:Int) else f.sy }) rfl,We (QCX c).symm];rfl
   obtain⟨u,l⟩:=O5.1 s;rcases QQv r i l with a|a
   ·rw[a.2]at h;cases h
   ·rw[a.down,i]
 ·rw[Wb hc,Wb (by simp)]at h|-;simp only at h|-;rcases QQv hI d c with a|a
  ·rw[a.2]at h;cases h
  ·rw[a.down,d]
end Go.Cx
