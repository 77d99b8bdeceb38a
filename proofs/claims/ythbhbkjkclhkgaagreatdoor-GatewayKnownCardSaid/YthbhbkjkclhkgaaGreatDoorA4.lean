import Derived.Test.YthbhbkjkclhkgaaGreatDoorA3
import Derived.Laws.Strings
import Derived.Lib.Atoi
import Derived.Lib.ItoaNum
import Derived.Laws.BitsAllLaws
namespace Go.Cx
open Go Go.Cf
set_option linter.unusedVariables false
set_option maxRecDepth 100000
def BA(l:List UInt8):ByteArray:=⟨l.toArray⟩
theorem Qed(a b:List UInt8):BA a++BA b=BA (a++b):=by
 apply ByteArray.ext;simp[BA]
theorem QTj(a:List UInt8):(BA a).size=a.length:=by simp[BA,ByteArray.size]
theorem QOh(l:List UInt8):(BA l).data.toList=l:=by simp[BA]
theorem QEb(l:List UInt8):(BA l).toList=l:=by rw[ByteArray.toList_eq,QOh]
theorem QJY:ByteArray.empty.toList=[]:=by decide +kernel
theorem QQt{u:Nat}(h:u<10):Lib.decDigits u=[UInt8.ofNat (48+u)]:=by rw[Lib.decDigits,dif_pos h]
theorem QXo{u:Nat}(h:¬u<10):Lib.decDigits u=Lib.decDigits (u / 10)++[UInt8.ofNat (48+u % 10)]:=by rw[Lib.decDigits,dif_neg h]
theorem QPl:∀(k u:Nat),u<10 ^ (k+1)→(Lib.decDigits u).length≤k+1
 | k,u,h=>by
  by_cases hu:u<10
  ·rw[QQt hu];simp
  ·cases k with
   | zero=>simp at h;omega
   | succ k=>
    rw[QXo hu,List.length_append,List.length_singleton];have:=QPl k (u / 10) (by rw[Nat.pow_succ]at h;omega);omega
theorem QbA{n:Int}(h0 : -9223372036854775808≤n)(h1:n≤9223372036854775807):(Lib.itoa n).length≤21:=by
 unfold Lib.itoa;split
 ·have:=QPl 19 n.natAbs (by simp;omega);simp;omega
 ·have:=QPl 19 n.toNat (by simp;omega);omega
def QPP(b:UInt8):Bool:=decide (48≤b.toNat)&&decide (b.toNat≤57)
def QeP(l:List UInt8):Nat:=l.foldl (fun a b=>a*10+(b.toNat - 48)) 0
theorem QYO(l:List UInt8)(b:UInt8):QeP (l++[b])=QeP l*10+(b.toNat - 48):=by
 unfold QeP;rw[List.foldl_append];rfl
theorem QGZ:∀(n u:Nat),u≤n→Lib.decDigits u≠[]∧(Lib.decDigits u).all QPP=true∧QeP (Lib.decDigits u)=u∧((Lib.decDigits u).length>1→(Lib.decDigits u)[0]?≠some 48)∧(1≤u→(Lib.decDigits u)[0]?≠some 48)
 | n,u,hu=>by
  have hdig:∀k,k<10→QPP (UInt8.ofNat (48+k))=true∧(UInt8.ofNat (48+k)).toNat=48+k:=by
   intro k hk
   have:(UInt8.ofNat (48+k)).toNat=48+k:=by rw[UInt8.toNat_ofNat'];omega
   exact⟨by simp only[QPP,this,Bool.and_eq_true,decide_eq_true_eq];omega,this⟩
  by_cases h:u<10
  ·rw[QQt h];obtain⟨h1,h2⟩:=hdig u h;refine⟨by simp,by simp only[List.all_cons,List.all_nil,Bool.and_true];exact h1,by simp only[QeP,List.foldl_cons,List.foldl_nil,h2];omega,by simp,fun h0 e=>?_⟩;have e:=Option.some.inj e;have:=congrArg UInt8.toNat e;rw[h2]at this;simp at this;omega
  ·match n with
   | 0=>omega
   | n+1=>
    obtain⟨i1,i2,i3,i4,i5⟩:=QGZ n (u / 10) (by omega);obtain⟨h1,h2⟩:=hdig (u % 10) (by omega);rw[QXo h];refine⟨by simp,by rw[List.all_append,i2];simp only[List.all_cons,List.all_nil,Bool.and_true,Bool.true_and];exact h1,by rw[QYO,i3,h2];omega,fun _=>?_,fun _=>?_⟩
    all_goals
     have hlen:0<(Lib.decDigits (u / 10)).length:=List.length_pos_iff.2 i1;rw[List.getElem?_append_left hlen];exact i5 (by omega)
abbrev Key:=List UInt8
abbrev lt(a b:Key):Bool:=Op.bytesLess a b
theorem QaH(a b:UInt8)(h1:¬a<b)(h2:¬b<a):a=b:=by
 have h1':¬a.toNat<b.toNat:=fun h=>h1 (UInt8.lt_iff_toNat_lt.2 h);have h2':¬b.toNat<a.toNat:=fun h=>h2 (UInt8.lt_iff_toNat_lt.2 h);exact UInt8.toNat_inj.1 (by omega)
theorem lt_irrefl:∀a:Key,lt a a=false:=by
 intro a
 induction a with
 | nil=>rfl
 | cons x a ih=>
  have:¬x<x:=fun h=>by have:=UInt8.lt_iff_toNat_lt.1 h;omega
  simp[lt,Op.bytesLess,this,ih]
theorem lt_trans:∀{a b c:Key},lt a b=true→lt b c=true→lt a c=true:=by
 intro a
 induction a with
 | nil=>
  intro b c h1 h2
  cases c with
  | nil=>cases b<;>simp[lt,Op.bytesLess]at h2
  | cons=>rfl
 | cons x a ih=>
  intro b c h1 h2
  cases b with
  | nil=>simp[lt,Op.bytesLess]at h1
  | cons y b=>
   cases c with
   | nil=>simp[lt,Op.bytesLess]at h2
   | cons z c=>
    simp only[lt,Op.bytesLess,Bool.or_eq_true,decide_eq_true_eq,Bool.and_eq_true,beq_iff_eq]at h1 h2⊢;rcases h1 with h1|⟨rfl,h1⟩
    ·rcases h2 with h2|⟨rfl,h2⟩
     ·exact .inl (UInt8.lt_iff_toNat_lt.2 (Nat.lt_trans (UInt8.lt_iff_toNat_lt.1 h1) (UInt8.lt_iff_toNat_lt.1 h2)))
     ·exact .inl h1
    ·rcases h2 with h2|⟨rfl,h2⟩
     ·exact .inl h2
     ·exact .inr ⟨rfl,ih h1 h2⟩
theorem QbX:∀{a b:Key},lt a b=false→lt b a=false→a=b:=by
 intro a
 induction a with
 | nil=>intro b h1 _;cases b with
  | nil=>rfl
  | cons=>simp[lt,Op.bytesLess]at h1
 | cons x a ih=>
  intro b h1 h2
  cases b with
  | nil=>simp[lt,Op.bytesLess]at h2
  | cons y b=>
   simp only[lt,Op.bytesLess,Bool.or_eq_false_iff,decide_eq_false_iff_not,Bool.and_eq_false_iff,beq_eq_false_iff_ne]at h1 h2;have e:=QaH x y h1.1 h2.1;subst e;rcases h1.2 with h|h
   ·exact absurd rfl h
   ·rcases h2.2 with h'|h'
    ·exact absurd rfl h'
    ·rw[ih h h']
structure DF where
 nm:ByteArray
 b:List UInt8
 sy:Int
abbrev DF.key(f:DF):Key:=f.nm.toList
structure DM where
 armed:Bool
 down:Bool
 left:Int
 room:Int
 fs:List DF
def QBs(fs:List DF):Nat:=(fs.map fun f=>f.b.length).sum
def QDT(s:ByteArray):Bool:=decide ((s.size:Int)≥1)&&decide ((s.size:Int)≤16)
def Sorted(fs:List DF):Prop:=fs.Pairwise fun f g=>lt f.key g.key=true
def QAT(fs:List DF)(k:Key):Nat:=(fs.takeWhile fun f=>lt f.key k).length
def QAh(fs:List DF)(k:Key):Bool:=match fs[QAT fs k]? with
 | some f=>f.key == k
 | none=>false
theorem QFn(fs:List DF)(k:Key):QAT fs k≤fs.length:=(List.takeWhile_sublist _).length_le
theorem QUq{fs:List DF}{k:Key}{i:Nat}(hi:i≤fs.length)(h1:∀t f,t<i→fs[t]? = some f→lt f.key k=true)(h2:∀f,fs[i]? = some f→lt f.key k=false):QAT fs k=i:=by
 induction fs generalizing i with
 | nil=>simp at hi;subst hi;rfl
 | cons f fs ih=>
  cases i with
  | zero=>
   have:=h2 f rfl;simp[QAT,this]
  | succ i=>
   have h:=h1 0 f (by omega) rfl;have:=ih (i:=i) (by simpa using hi) (fun t g ht hg=>h1 (t+1) g (by omega) (by simpa using hg)) (fun g hg=>h2 g (by simpa using hg));simp only[QAT,List.takeWhile_cons,h,if_true,List.length_cons]at this⊢;omega
theorem QbO{fs:List DF}{k:Key}:∀{t:Nat}{f:DF},t<QAT fs k→fs[t]? = some f→lt f.key k=true:=by
 induction fs with
 | nil=>intro t f _ h;simp at h
 | cons g fs ih=>
  intro t f ht hf
  cases hg:lt g.key k with
  | false=>simp[QAT,hg]at ht
  | true=>
   cases t with
   | zero=>simp at hf;subst hf;exact hg
   | succ t=>
    refine ih (t:=t) ?_ (by simpa using hf);simp only[QAT,List.takeWhile_cons,hg,if_true,List.length_cons]at ht;simp only[QAT];omega
theorem QbW{fs:List DF}{k:Key}{f:DF}(h:fs[QAT fs k]? = some f):lt f.key k=false:=by
 induction fs with
 | nil=>simp at h
 | cons g fs ih=>
  cases hg:lt g.key k with
  | false=>simp[QAT,hg]at h;subst h;exact hg
  | true=>
   refine ih ?_;simpa [QAT,hg]using h
theorem Sorted.get{fs:List DF}(hs:Sorted fs){i j:Nat}{f g:DF}(hij:i<j)(hf:fs[i]? = some f)(hg:fs[j]? = some g):lt f.key g.key=true:=by
 obtain⟨h1,rfl⟩:=List.getElem?_eq_some_iff.1 hf;obtain⟨h2,rfl⟩:=List.getElem?_eq_some_iff.1 hg;exact List.pairwise_iff_getElem.1 hs i j h1 h2 hij
theorem Qbk{fs:List DF}(hs:Sorted fs){k:Key}{t:Nat}{f:DF}(ht:QAT fs k≤t)(hf:fs[t]? = some f):lt f.key k=false:=by
 have hlt:t<fs.length:=(List.getElem?_eq_some_iff.1 hf).1;have hg:=List.getElem?_eq_getElem (l:=fs) (i:=QAT fs k) (by omega);have h0:=QbW hg;rcases Nat.lt_or_ge (QAT fs k) t with h|h
 ·have h1:=hs.get h hg hf
  cases hk:lt f.key k with
  | false=>rfl
  | true=>have:=lt_trans h1 hk;rw[h0]at this;cases this
 ·obtain rfl:t=QAT fs k:=by omega
  rw[hg]at hf;cases hf;exact h0
theorem QEd{fs:List DF}(hs:Sorted fs){k:Key}{t:Nat}{f:DF}(hf:fs[t]? = some f)(hk:f.key=k):QAT fs k=t∧QAh fs k=true:=by
 have e:QAT fs k=t:=by
  refine QUq (Nat.le_of_lt (List.getElem?_eq_some_iff.1 hf).1) (fun s g hs' hg=>?_) (fun g hg=>?_)
  ·rw[←hk];exact hs.get hs' hg hf
  ·rw[hf]at hg;cases hg;rw[←hk];exact lt_irrefl _
 refine⟨e,?_⟩;unfold QAh;rw[e,hf];simp[hk]
theorem QLP{fs:List DF}{k:Key}(h:QAh fs k=true):∃f,fs[QAT fs k]? = some f∧f.key=k:=by
 unfold QAh at h;split at h
 ·rename_i f hf;exact⟨f,hf,by simpa using h⟩
 ·cases h
theorem QYN{fs:List DF}(hs:Sorted fs){k:Key}(h:QAh fs k=false):∀f∈fs,f.key≠k:=by
 intro f hf hk;obtain⟨t,ht,rfl⟩:=List.getElem_of_mem hf;have:=(QEd hs (List.getElem?_eq_getElem ht) hk).2;rw[h]at this;cases this
def QMx(fs:List DF)(i:Nat)(f:DF):List DF:=fs.take i++f::fs.drop i
def QAu(m:DM):DM×Bool:=if m.armed&&m.left == 0 then ({ m with down:=true },false) else if m.armed then ({ m with left:=m.left - 1 },true) else (m,true)
def QAM(m:DM)(nm:ByteArray)(b:List UInt8):DM×Int:=
 if !(QDT nm) then (m,8)
 else if m.down then (m,10)
 else if (!(QAh m.fs nm.toList)&&decide ((m.fs.length:Int)≥64))||decide ((b.length:Int)>m.room - QBs m.fs) then (m,9)
 else if !(QAu m).2 then ((QAu m).1,10)
 else
  let i:=QAT m.fs nm.toList
  let fs:=if QAh m.fs nm.toList then m.fs else QMx m.fs i ⟨nm,[],0⟩
  let f:=fs.getD i ⟨nm,[],0⟩
  ({ (QAu m).1 with fs:=fs.set i { f with b:=f.b++b } },0)
def QBk(m:DM)(nm:ByteArray)(g:Nat→DF→DM→DM×Int):DM×Int:=
 if m.down then (m,10)
 else if !(QAh m.fs nm.toList) then (m,6)
 else g (QAT m.fs nm.toList) (m.fs.getD (QAT m.fs nm.toList) ⟨nm,[],0⟩) m
def QE7(m:DM)(g:DM→DM):DM×Int:=if !(QAu m).2 then ((QAu m).1,10) else (g (QAu m).1,0)
def QBK(m:DM)(nm:ByteArray):DM×Int:=QBk m nm fun i f m=>QE7 m fun m=>{ m with fs:=m.fs.set i { f with sy:=f.b.length } }
def QBR(m:DM)(nm:ByteArray)(n:Int):DM×Int:=QBk m nm fun i f m=>if n<0∨n>f.b.length then (m,3) else QE7 m fun m=>{ m with fs:=m.fs.set i { f with b:=f.b.take n.toNat,sy:=if n<f.sy then n else f.sy } }
def QAV(m:DM)(nm:ByteArray):DM×Int:=QBk m nm fun i f m=>QE7 m fun m=>{ m with fs:=m.fs.eraseIdx i }
def QQx(fs:List DF)(i:Nat)(f:DF)(to:ByteArray):List DF:=
 let es:=fs.eraseIdx i
 let k:=QAT es to.toList
 if QAh es to.toList then es.set k { f with nm:=to } else QMx es k { f with nm:=to }
def QCF(m:DM)(nm to:ByteArray):DM×Int:=if !(QDT to) then (m,8) else QBk m nm fun i f m=>QE7 m fun m=>{ m with fs:=QQx m.fs i f to }
def QAW(m:DM)(nm:ByteArray):List UInt8×Int:=if !(QAh m.fs nm.toList) then ([],6) else ((m.fs.getD (QAT m.fs nm.toList) ⟨nm,[],0⟩).b,0)
def QcS(m:DM)(n:Int):DM:={ m with armed:=decide (n≥0),left:=n }
def QI9(keep:Int)(f:DF):Int:=f.sy+(if (f.b.length:Int) - f.sy<(if 0>keep then 0 else keep) then (f.b.length:Int) - f.sy else (if 0>keep then 0 else keep))
def QKj(keep:Int)(f:DF):DF:={ f with b:=f.b.take (QI9 keep f).toNat,sy:=QI9 keep f }
def QI1(m:DM)(keep:Int):DM:={ armed:=false,down:=false,left:=0,room:=m.room,fs:=m.fs.map (QKj keep) }
structure DInv(m:DM):Prop where
 sorted:Sorted m.fs
 names:∀f∈m.fs,QDT f.nm=true
 syn:∀f∈m.fs,0≤f.sy∧f.sy≤f.b.length
 used:(QBs m.fs:Int)≤m.room
 room:0≤m.room∧m.room≤16777216
 len:m.fs.length≤64
 left:i64 m.left∧(m.armed=true→0≤m.left)
end Go.Cx
namespace Go.Cx
open Go Go.Cf
set_option linter.unusedVariables false
theorem QGi{fs:List DF}{i:Nat}{f g:DF}(h:fs[i]? = some f):QBs (fs.set i g)+f.b.length=QBs fs+g.b.length:=by
 induction fs generalizing i with
 | nil=>simp at h
 | cons x fs ih=>
  cases i with
  | zero=>simp at h;subst h;simp[QBs];omega
  | succ i=>
   have:=ih (i:=i) (by simpa using h);simp[QBs]at this⊢;omega
theorem QBi{fs:List DF}{i:Nat}{f:DF}(h:fs[i]? = some f):QBs (fs.eraseIdx i)+f.b.length=QBs fs:=by
 induction fs generalizing i with
 | nil=>simp at h
 | cons x fs ih=>
  cases i with
  | zero=>simp at h;subst h;simp[QBs];omega
  | succ i=>
   have:=ih (i:=i) (by simpa using h);simp[QBs]at this⊢;omega
theorem QQ9(fs:List DF)(i:Nat)(g:DF):QBs (QMx fs i g)=QBs fs+g.b.length:=by
 have e:QBs fs=QBs (fs.take i)+QBs (fs.drop i):=by
  conv=>lhs;rw[←List.take_append_drop i fs]
  unfold QBs;rw[List.map_append,List.sum_append]
 rw[e];simp[QBs,QMx];omega
theorem QOf{fs:List DF}{i:Nat}{g x:DF}(h:x∈QMx fs i g):x=g∨x∈fs:=by
 rcases List.mem_append.1 h with h|h
 ·exact .inr (List.mem_of_mem_take h)
 ·rcases List.mem_cons.1 h with h|h
  ·exact .inl h
  ·exact .inr (List.mem_of_mem_drop h)
theorem QLX(fs:List DF)(i:Nat)(g:DF)(h:i≤fs.length):(QMx fs i g).length=fs.length+1:=by
 simp[QMx];omega
theorem QO6(fs:List DF)(i:Nat)(g:DF)(h:i≤fs.length):(QMx fs i g)[i]? = some g:=by
 unfold QMx;rw[List.getElem?_append_right (by simp;omega)];simp[Nat.min_eq_left h]
theorem QMi{fs gs:List DF}(h:gs.map DF.key=fs.map DF.key)(hs:Sorted fs):Sorted gs:=by
 unfold Sorted at hs⊢;rw[←List.pairwise_map (f:=DF.key) (R:=fun a b=>lt a b=true)]at hs⊢;rw[h];exact hs
theorem QEG{fs:List DF}{i:Nat}{f g:DF}(h:fs[i]? = some f)(hk:g.key=f.key)(hs:Sorted fs):Sorted (fs.set i g):=by
 refine QMi ?_ hs;rw[List.map_set,hk];apply List.ext_getElem?;intro j;by_cases e:i=j
 ·subst e;rw[List.getElem?_set_self (by simpa using (List.getElem?_eq_some_iff.1 h).1),List.getElem?_map,h];rfl
 ·rw[List.getElem?_set_ne e]
theorem QCj{fs:List DF}{i:Nat}(hs:Sorted fs):Sorted (fs.eraseIdx i):=List.Pairwise.sublist (List.eraseIdx_sublist _ _) hs
theorem QHI{fs:List DF}{g:DF}(hs:Sorted fs)(hn:QAh fs g.key=false):Sorted (QMx fs (QAT fs g.key) g):=by
 have h0:=QYN hs hn;have e:fs=fs.take (QAT fs g.key)++fs.drop (QAT fs g.key):=(List.take_append_drop _ _).symm;have hs':=hs;unfold Sorted at hs';rw[e,List.pairwise_append]at hs'
 have hlo:∀x∈fs.take (QAT fs g.key),lt x.key g.key=true:=fun x hx=>by
  obtain⟨j,hj,rfl⟩:=List.getElem_of_mem hx
  have hj':j<QAT fs g.key∧j<fs.length:=by simp at hj;omega
  rw[List.getElem_take];exact QbO hj'.1 (List.getElem?_eq_getElem hj'.2)
 have hhi:∀x∈fs.drop (QAT fs g.key),lt g.key x.key=true:=fun x hx=>by
  have hx':=List.mem_of_mem_drop hx;obtain⟨j,hj,rfl⟩:=List.getElem_of_mem hx
  have hj':QAT fs g.key+j<fs.length:=by simp at hj;omega
  rw[List.getElem_drop]at hx' ⊢;have h1:=Qbk hs (Nat.le_add_right _ j) (List.getElem?_eq_getElem hj')
  cases h2:lt g.key fs[QAT fs g.key+j].key with
  | true=>rfl
  | false=>exact absurd (QbX h1 h2) (h0 _ hx')
 unfold Sorted QMx;rw[List.pairwise_append];refine⟨hs'.1,List.pairwise_cons.2 ⟨hhi,hs'.2.1⟩,fun x hx y hy=>?_⟩;rcases List.mem_cons.1 hy with rfl|hy
 ·exact hlo x hx
 ·exact hs'.2.2 x hx y hy
theorem QCb(m:DM):(QAu m).1.fs=m.fs∧(QAu m).1.room=m.room:=by
 unfold QAu;split
 ·exact⟨rfl,rfl⟩
 ·split<;>exact⟨rfl,rfl⟩
theorem DInv.spend{m:DM}(h:DInv m):DInv (QAu m).1:=by
 obtain⟨h1,h2,h3,h4,h5,h6,h7,h8⟩:=h;unfold QAu;split
 ·exact⟨h1,h2,h3,h4,h5,h6,h7,h8⟩
 ·rename_i hne
  split
  ·rename_i ha
   refine⟨h1,h2,h3,h4,h5,h6,?_,fun _=>?_⟩
   ·have:=h8 ha;unfold i64 at h7⊢;simp only;omega
   ·have:=h8 ha;have:¬m.left=0:=fun e=>hne (by simp[ha,e]);simp only;omega
  ·exact⟨h1,h2,h3,h4,h5,h6,h7,h8⟩
theorem DInv.files{m:DM}(h:DInv m){fs:List DF}(hs:Sorted fs)(hf:∀f∈fs,f∈m.fs∨(QDT f.nm=true∧0≤f.sy∧f.sy≤f.b.length))(hu:(QBs fs:Int)≤m.room)(hl:fs.length≤64):DInv { m with fs:=fs }:=
 ⟨hs,fun f hm=>(hf f hm).elim (fun x=>h.names f x) (fun x=>x.1),fun f hm=>(hf f hm).elim (fun x=>h.syn f x) (fun x=>x.2),hu,h.room,hl,h.left⟩
theorem QCO{fs:List DF}{k:Key}{d:DF}(h:QAh fs k=true):fs[QAT fs k]? = some (fs.getD (QAT fs k) d)∧(fs.getD (QAT fs k) d).key=k:=by
 obtain⟨f,hf,hk⟩:=QLP h
 have:fs.getD (QAT fs k) d=f:=by simp[hf]
 rw[this];exact⟨hf,hk⟩
theorem QHG{m:DM}{nm:ByteArray}{g:Nat→DF→DM→DM×Int}(h:DInv m)(hg:∀i f,m.fs[i]? = some f→DInv (g i f m).1):DInv (QBk m nm g).1:=by
 unfold QBk;split
 ·exact h
 split
 ·exact h
 ·rename_i ht
  exact hg _ _ (QCO (by simpa using ht)).1
theorem QIy{m:DM}{g:DM→DM}(h:DInv m)(hg:∀m',DInv m'→m'.fs=m.fs→m'.room=m.room→DInv (g m')):DInv (QE7 m g).1:=by
 unfold QE7;split
 ·exact h.spend
 ·exact hg _ h.spend (QCb m).1 (QCb m).2
theorem QPI{m:DM}(h:DInv m)(nm:ByteArray):DInv (QBK m nm).1:=by
 refine QHG h fun i f hf=>QIy h fun m' h' e1 e2=>?_;rw[←e1]at hf;have hm:=List.mem_of_getElem? hf;refine h'.files (QEG hf rfl h'.sorted) (fun x hx=>?_) ?_ (by rw[List.length_set];exact h'.len)
 ·rcases List.mem_or_eq_of_mem_set hx with hx|rfl
  ·exact .inl hx
  ·exact .inr ⟨h'.names f hm,by simp,by simp⟩
 ·have:=QGi (g:={ f with sy:=f.b.length }) hf;have:=h'.used;simp only at *;omega
theorem QFd{m:DM}(h:DInv m)(nm:ByteArray)(n:Int):DInv (QBR m nm n).1:=by
 refine QHG h fun i f hf=>?_;split
 ·exact h
 rename_i hn
 refine QIy h fun m' h' e1 e2=>?_;rw[←e1]at hf;have hm:=List.mem_of_getElem? hf;have hsy:=h'.syn f hm;refine h'.files (QEG hf rfl h'.sorted) (fun x hx=>?_) ?_ (by rw[List.length_set];exact h'.len)
 ·rcases List.mem_or_eq_of_mem_set hx with hx|rfl
  ·exact .inl hx
  ·refine .inr ⟨h'.names f hm,?_,?_⟩<;>simp only[List.length_take] <;> split<;>omega
 ·have h5:=QGi (g:={ f with b:=f.b.take n.toNat,sy:=if n<f.sy then n else f.sy }) hf;have h6:=h'.used
  have h7:(f.b.take n.toNat).length≤f.b.length:=by rw[List.length_take];omega
  simp only at h5⊢;omega
theorem QJq{m:DM}(h:DInv m)(nm:ByteArray):DInv (QAV m nm).1:=by
 refine QHG h fun i f hf=>QIy h fun m' h' e1 e2=>?_;rw[←e1]at hf;refine h'.files (QCj h'.sorted) (fun x hx=>.inl (List.mem_of_mem_eraseIdx hx)) ?_ ?_
 ·have:=QBi hf;have:=h'.used;omega
 ·rw[List.length_eraseIdx];have:=h'.len;split<;>omega
theorem Qaz{m:DM}(h:DInv m){i:Nat}{f:DF}{to:ByteArray}(hf:m.fs[i]? = some f)(ht:QDT to=true):DInv { m with fs:=QQx m.fs i f to }:=by
 have hm:=List.mem_of_getElem? hf;have hu:=QBi hf;have hused:=h.used;have hlt:=(List.getElem?_eq_some_iff.1 hf).1
 have hlen:(m.fs.eraseIdx i).length=m.fs.length - 1:=by rw[List.length_eraseIdx,if_pos hlt]
 have hl:=h.len;unfold QQx
 (try simp only)
 cases hth:QAh (m.fs.eraseIdx i) to.toList with
 | true=>
  obtain⟨g,hg,hk⟩:=QLP hth;have hgm:=List.mem_of_getElem? hg;rw[if_pos rfl];refine h.files (QEG hg (by simp only[DF.key]at hk⊢;exact hk.symm) (QCj h.sorted)) (fun x hx=>?_) ?_ (by rw[List.length_set,hlen];omega)
  ·rcases List.mem_or_eq_of_mem_set hx with hx|rfl
   ·exact .inl (List.mem_of_mem_eraseIdx hx)
   ·exact .inr ⟨ht,h.syn f hm⟩
  ·have:=QGi (g:={ f with nm:=to }) hg;simp only at this;omega
 | false=>
  rw[if_neg (by simp)];refine h.files (QHI (g:={ f with nm:=to }) (QCj h.sorted) hth) (fun x hx=>?_) ?_ ?_
  ·rcases QOf hx with rfl|hx
   ·exact .inr ⟨ht,h.syn f hm⟩
   ·exact .inl (List.mem_of_mem_eraseIdx hx)
  ·rw[QQ9];simp only;omega
  ·rw[QLX _ _ _ (QFn _ _),hlen];omega
theorem QON{m:DM}(h:DInv m)(nm to:ByteArray):DInv (QCF m nm to).1:=by
 unfold QCF;split
 ·exact h
 rename_i hn
 refine QHG h fun i f hf=>QIy h fun m' h' e1 e2=>?_;rw[←e1]at hf;exact Qaz h' hf (by simpa using hn)
def QNA(fs:List DF)(nm:ByteArray)(b:List UInt8):List DF:=
 (if QAh fs nm.toList then fs else QMx fs (QAT fs nm.toList) ⟨nm,[],0⟩).set (QAT fs nm.toList) { ((if QAh fs nm.toList then fs else QMx fs (QAT fs nm.toList) ⟨nm,[],0⟩).getD (QAT fs nm.toList) ⟨nm,[],0⟩) with b:=((if QAh fs nm.toList then fs else QMx fs (QAT fs nm.toList) ⟨nm,[],0⟩).getD (QAT fs nm.toList) ⟨nm,[],0⟩).b++b }
theorem QHV{m:DM}(h:DInv m)(nm:ByteArray)(b:List UInt8):DInv (QAM m nm b).1:=by
 unfold QAM;split
 ·exact h
 rename_i hn
 have hn:QDT nm=true:=by simpa using hn
 split
 ·exact h
 split
 ·exact h
 rename_i hfull
 simp only[Bool.or_eq_true,Bool.and_eq_true,Bool.not_eq_true',decide_eq_true_eq,not_or,not_and]at hfull;obtain⟨hf1,hf2⟩:=hfull;split
 ·exact h.spend
 have h':=h.spend;obtain⟨e1,e2⟩:=QCb m;show DInv { (QAu m).1 with fs:=QNA m.fs nm b };unfold QNA;rw[←e1];rw[←e2]at hf2;rw[←e1]at hf1 hf2
 generalize (QAu m).1=m' at *
 cases ht:QAh m'.fs nm.toList with
 | true=>
  obtain⟨hg,hk⟩:=QCO (d:=⟨nm,[],0⟩) ht;have hgm:=List.mem_of_getElem? hg;simp only[if_true];refine h'.files (QEG hg rfl h'.sorted) (fun x hx=>?_) ?_ (by rw[List.length_set];exact h'.len)
  ·rcases List.mem_or_eq_of_mem_set hx with hx|rfl
   ·exact .inl hx
   ·have:=h'.syn _ hgm;exact .inr ⟨(h'.names _ hgm:_),this.1,by simp only[List.length_append];omega⟩
  ·have:=QGi (g:={ (m'.fs.getD (QAT m'.fs nm.toList) ⟨nm,[],0⟩) with b:=(m'.fs.getD (QAT m'.fs nm.toList) ⟨nm,[],0⟩).b++b }) hg;simp only[List.length_append]at this;omega
 | false=>
  have hins:=QO6 m'.fs (QAT m'.fs nm.toList) ⟨nm,[],0⟩ (QFn _ _)
  have hgd:(QMx m'.fs (QAT m'.fs nm.toList) ⟨nm,[],0⟩).getD (QAT m'.fs nm.toList) ⟨nm,[],0⟩=⟨nm,[],0⟩:=by simp[hins]
  simp only[Bool.false_eq_true,if_false];rw[hgd];have hlen:=QLX m'.fs (QAT m'.fs nm.toList) ⟨nm,[],0⟩ (QFn _ _);refine h'.files (QEG hins rfl (QHI (g:=⟨nm,[],0⟩) h'.sorted ht)) (fun x hx=>?_) ?_ ?_
  ·rcases List.mem_or_eq_of_mem_set hx with hx|rfl
   ·rcases QOf hx with rfl|hx
    ·exact .inr ⟨hn,by simp,by simp⟩
    ·exact .inl hx
   ·exact .inr ⟨hn,by simp,by simp⟩
  ·have:=QGi (g:={ (⟨nm,[],0⟩:DF) with b:=[]++b }) hins;have:=QQ9 m'.fs (QAT m'.fs nm.toList) ⟨nm,[],0⟩;simp only[List.length_append,List.length_nil]at *;omega
  ·rw[List.length_set,hlen];have:=hf1 ht;omega
theorem Qcl{m:DM}(h:DInv m){n:Int}(hn:i64 n):DInv (QcS m n):=
 ⟨h.sorted,h.names,h.syn,h.used,h.room,h.len,hn,fun ha=>by simpa [QcS]using ha⟩
theorem QP7{f:DF}(h:0≤f.sy∧f.sy≤f.b.length)(keep:Int):f.sy≤QI9 keep f∧QI9 keep f≤f.b.length:=by
 unfold QI9;constructor<;>split<;>split<;>omega
theorem QaJ{m:DM}(h:DInv m)(keep:Int):DInv (QI1 m keep):=by
 refine⟨QMi (fs:=m.fs) (by simp[QI1,QKj,Function.comp_def]) h.sorted,fun f hf=>?_,fun f hf=>?_,?_,h.room,by simpa [QI1]using h.len,⟨⟨by simp[QI1],by simp[QI1]⟩,fun h=>by cases h⟩⟩
 ·obtain⟨g,hg,rfl⟩:=List.mem_map.1 hf;exact h.names g hg
 ·obtain⟨g,hg,rfl⟩:=List.mem_map.1 hf;have h1:=h.syn g hg;have:=QP7 h1 keep;simp only[QKj,List.length_take];omega
 ·have:QBs (m.fs.map (QKj keep))≤QBs m.fs:=by
   generalize m.fs=fs
   induction fs with
   | nil=>simp
   | cons f fs ih=>simp[QBs,QKj]at ih⊢;omega
  have:=h.used;simp only[QI1];omega
end Go.Cx
namespace Go.Cx
open Go Go.Cf
set_option linter.unusedVariables false
set_option maxRecDepth 100000
def Qdt(r:Nat):Nat:=if r % 2=1 then (r / 2) ^^^ 3988292384 else r / 2
def QTv:Nat→Nat→Nat
 | 0,r=>r
 | k+1,r=>Qdt (QTv k r)
def QbU(r y:Nat):Nat:=QTv 8 (r ^^^ y)
def QZ3(r:Nat)(bs:List UInt8):Nat:=bs.foldl (fun r y=>QbU r y.toNat) r
def QFZ(crc:Nat)(bs:List UInt8):Nat:=4294967295 ^^^ QZ3 (4294967295 ^^^ crc) bs
theorem QHQ{a b:Nat}(ha:a<4294967296)(hb:b<4294967296):a ^^^ b<4294967296:=Nat.xor_lt_two_pow (n:=32) ha hb
theorem QdJ{r:Nat}(h:r<4294967296):Qdt r<4294967296:=by
 unfold Qdt;split
 ·exact QHQ (by omega) (by decide)
 ·omega
theorem QPw:∀(k:Nat) {r:Nat},r<4294967296→QTv k r<4294967296
 | 0,_,h=>h
 | k+1,_,h=>QdJ (QPw k h)
theorem QGe(y:UInt8):y.toNat<256:=y.toNat_lt
theorem Qav{r:Nat}(h:r<4294967296)(y:UInt8):QbU r y.toNat<4294967296:=QPw 8 (QHQ h (by have:=QGe y;omega))
theorem QSm:∀(bs:List UInt8) {r:Nat},r<4294967296→QZ3 r bs<4294967296
 | [],_,h=>h
 | y::bs,_,h=>QSm bs (Qav h y)
theorem QXc(bs:List UInt8)(r:Nat)(y:UInt8):QZ3 r (bs++[y])=QbU (QZ3 r bs) y.toNat:=by
 unfold QZ3;rw[List.foldl_append];rfl
theorem Qab{crc:Nat}(h:crc<4294967296)(bs:List UInt8):QFZ crc bs<4294967296:=QHQ (by decide) (QSm bs (QHQ (by decide) h))
theorem QEv(n:Nat)(h:n<4294967296):IntKind.u32.wrap (n:Int)=n:=by
 have e1:(2 ^ IntKind.u32.bits:Int)=4294967296:=by decide
 have e3:IntKind.u32.signed=false:=rfl;simp only[IntKind.wrap,e1,e3,Bool.false_and];simp;omega
theorem QPO(n:Nat)(h:n<18446744073709551616):IntKind.u64.wrap (n:Int)=n:=by
 have e1:(2 ^ IntKind.u64.bits:Int)=18446744073709551616:=by decide
 have e3:IntKind.u64.signed=false:=rfl;simp only[IntKind.wrap,e1,e3,Bool.false_and];simp;omega
theorem Qc2(n:Nat):IntKind.u8.wrap (n:Int)=((n % 256:Nat):Int):=by
 have e1:(2 ^ IntKind.u8.bits:Int)=256:=by decide
 have e3:IntKind.u8.signed=false:=rfl;simp only[IntKind.wrap,e1,e3,Bool.false_and];simp
def hdN(n:Nat):List UInt8:=[UInt8.ofNat (n / 256),UInt8.ofNat n]
def QWz(p:List UInt8):Nat:=QFZ (QFZ 0 (hdN p.length)) p
def Qep(r:Nat):List UInt8:=[UInt8.ofNat (r / 16777216),UInt8.ofNat (r / 65536),UInt8.ofNat (r / 256),UInt8.ofNat r]
def QAn(p:List UInt8):List UInt8:=hdN p.length++Qep (QWz p)++p
theorem QAr(m:Nat):IntKind.u8.wrap (m:Int)=((UInt8.ofNat m).toNat:Int):=by
 rw[Qc2,UInt8.toNat_ofNat']
theorem QCw(n:Nat)(d:Int)(D:Nat)(h:d=(D:Int)):Int.fdiv (n:Int) d=((n / D:Nat):Int):=by
 subst h;rw[Int.fdiv_eq_ediv_of_nonneg _ (by omega)];exact (Int.natCast_ediv n D).symm
def QFy(b:List UInt8):Nat:=(b.getD 0 0).toNat*256+(b.getD 1 0).toNat
def QV9(b:List UInt8):Nat:=(((b.getD 2 0).toNat*256+(b.getD 3 0).toNat)*256+(b.getD 4 0).toNat)*256+(b.getD 5 0).toNat
def QBN(b:List UInt8):List UInt8×Nat×Int:=
 if b.length<6 then ([],0,1)
 else if QFy b>1024 then ([],0,2)
 else if b.length<6+QFy b then ([],0,1)
 else if QV9 b=QWz ((b.take (6+QFy b)).drop 6) then ((b.take (6+QFy b)).drop 6,6+QFy b,0)
 else ([],0,5)
theorem QCf{b:List UInt8}{i:Nat}{x:UInt8}(h:b[i]? = some x):b.getD i 0=x:=by
 rw[List.getD_eq_getElem?_getD,h];rfl
def be8(v:Nat):List UInt8:=(List.range 8).map fun i=>UInt8.ofNat (v / 256 ^ (7 - i))
theorem QMn(v:Nat):(be8 v).length=8:=by simp[be8]
theorem QZr(v:Nat){i:Nat}(h:i<8):(be8 v)[i]? = some (UInt8.ofNat (v / 256 ^ (7 - i))):=by
 unfold be8;rw[List.getElem?_map,List.getElem?_range h];rfl
def beV(bs:List UInt8):Nat:=bs.foldl (fun v y=>v*256+y.toNat) 0
theorem QUJ(bs:List UInt8)(y:UInt8):beV (bs++[y])=beV bs*256+y.toNat:=by
 unfold beV;rw[List.foldl_append];rfl
theorem Qe6:∀(n:Nat) (bs:List UInt8),bs.length=n→beV bs<256 ^ n:=by
 intro n
 induction n with
 | zero=>intro bs h;have:=List.eq_nil_of_length_eq_zero h;subst this;decide
 | succ n ih=>
  intro bs h
  have hne:bs≠[]:=fun e=>by subst e;simp at h
  have e:=List.dropLast_concat_getLast hne
  have hl:bs.dropLast.length=n:=by simp;omega
  have:=ih _ hl;have hy:=QGe (bs.getLast hne);rw[←e,QUJ,Nat.pow_succ];omega
theorem Qd6(k:Nat)(h:k≤7):256 ^ k≤72057594037927936:=by
 have:(256:Nat) ^ k≤256 ^ 7:=Nat.pow_le_pow_right (by decide) h;simpa using this
def QKm(xs:List UInt8)(a:Nat):List UInt8:=(xs.take (a+8)).drop a
theorem QVV{xs:List UInt8}{a:Nat}(h:a+8≤xs.length):(QKm xs a).length=8:=by simp[QKm];omega
theorem QKp{q:List UInt8}{k:Nat}{y:UInt8}(h:q[k]? = some y):beV (q.take (k+1))=beV (q.take k)*256+y.toNat:=by
 rw[List.take_add_one,h];exact QUJ _ _
theorem QJH{q:List UInt8}{k:Nat}(hq:q.length=8)(hk:k<8):beV (q.take k)<72057594037927936:=by
 have h1:=Qe6 k (q.take k) (by simp;omega);have h2:=Qd6 k (by omega);omega
theorem QLS{b:List UInt8}(h:(QBN b).2.2=0):6≤(QBN b).2.1∧(QBN b).2.1≤b.length∧(QBN b).1.length+6=(QBN b).2.1∧(QBN b).1.length≤1024∧(QBN b).1=(b.take (QBN b).2.1).drop 6:=by
 unfold QBN at h⊢;split
 ·rename_i h1;rw[if_pos h1]at h;exact absurd h (by decide)
 rename_i h1
 rw[if_neg h1]at h;split
 ·rename_i h2;rw[if_pos h2]at h;exact absurd h (by decide)
 rename_i h2
 rw[if_neg h2]at h;split
 ·rename_i h3;rw[if_pos h3]at h;exact absurd h (by decide)
 rename_i h3
 rw[if_neg h3]at h;split
 ·refine⟨?_,?_,?_,?_,rfl⟩<;>simp<;>omega
 ·rename_i h4;rw[if_neg h4]at h;exact absurd h (by decide)
def QRG:Nat→List UInt8→List (List UInt8)×Nat
 | 0,_=>([],0)
 | n+1,b=>if (QBN b).2.2=0 then ((QBN b).1::(QRG n (b.drop (QBN b).2.1)).1,(QBN b).2.1+(QRG n (b.drop (QBN b).2.1)).2) else ([],0)
def QAv(b:List UInt8):List (List UInt8)×Nat:=QRG (b.length+1) b
theorem QVv:∀(n m:Nat) (b:List UInt8),b.length<n→b.length<m→QRG n b=QRG m b:=by
 intro n
 induction n with
 | zero=>intro m b h;omega
 | succ n ih=>
  intro m b h1 h2
  cases m with
  | zero=>omega
  | succ m=>
   unfold QRG;by_cases h:(QBN b).2.2=0
   ·obtain⟨a1,a2,_⟩:=QLS h;have hd:(b.drop (QBN b).2.1).length=b.length - (QBN b).2.1:=List.length_drop;rw[if_pos h,if_pos h,ih m _ (by omega) (by omega)]
   ·rw[if_neg h,if_neg h]
theorem QS8{b:List UInt8}(h:(QBN b).2.2=0):QAv b=((QBN b).1::(QAv (b.drop (QBN b).2.1)).1,(QBN b).2.1+(QAv (b.drop (QBN b).2.1)).2):=by
 obtain⟨a1,a2,_⟩:=QLS h;have hd:(b.drop (QBN b).2.1).length=b.length - (QBN b).2.1:=List.length_drop;unfold QAv
 conv=>lhs;unfold QRG
 rw[if_pos h,QVv b.length ((b.drop (QBN b).2.1).length+1) _ (by omega) (by omega)]
theorem QLw{b:List UInt8}(h:¬(QBN b).2.2=0):QAv b=([],0):=by
 unfold QAv QRG;rw[if_neg h]
theorem QIf:∀(n:Nat) (b:List UInt8),b.length≤n→(QAv b).2≤b.length∧(QAv b).1.length≤b.length∧∀p∈(QAv b).1,p.length≤1024:=by
 intro n
 induction n with
 | zero=>
  intro b h;have hb:b=[]:=List.eq_nil_of_length_eq_zero (by omega);subst hb;rw[QLw (by decide)];exact⟨Nat.le_refl _,Nat.le_refl _,by simp⟩
 | succ n ih=>
  intro b h;by_cases hg:(QBN b).2.2=0
  ·obtain⟨a1,a2,a3,a4,_⟩:=QLS hg;have hd:(b.drop (QBN b).2.1).length=b.length - (QBN b).2.1:=List.length_drop;obtain⟨h1,h2,h3⟩:=ih (b.drop (QBN b).2.1) (by omega);rw[QS8 hg];refine⟨by dsimp only;omega,by simp only[List.length_cons];omega,?_⟩;intro p hp;simp only[List.mem_cons]at hp;rcases hp with rfl|hp
   ·exact a4
   ·exact h3 p hp
  ·rw[QLw hg];exact⟨Nat.zero_le _,Nat.zero_le _,by simp⟩
theorem QK3(b:List UInt8):(QAv b).2≤b.length:=(QIf b.length b (Nat.le_refl _)).1
theorem QRc(p:List UInt8):(QAn p).length=6+p.length:=by unfold QAn;rw[List.length_append];rfl
def QCT(fs:List DF)(k:Key):Option DF:=fs.find? fun f=>f.key == k
theorem QUx{fs:List DF}(hs:Sorted fs){i j:Nat}{f g:DF}(hf:fs[i]? = some f)(hg:fs[j]? = some g)(hk:f.key=g.key):i=j:=by
 have h1:=(QEd hs hf rfl).1;have h2:=(QEd hs hg rfl).1;rw[hk]at h1;omega
theorem QED{fs:List DF}(hs:Sorted fs){k:Key}{f:DF}:QCT fs k=some f↔f∈fs∧f.key=k:=by
 unfold QCT;constructor
 ·intro h;exact⟨List.mem_of_find?_eq_some h,by simpa using List.find?_some h⟩
 ·rintro⟨hm,hk⟩
  cases h:fs.find? fun f=>f.key == k with
  | none=>
   have:=List.find?_eq_none.1 h f hm;simp[hk]at this
  | some g=>
   have hg:=List.mem_of_find?_eq_some h
   have hgk:g.key=k:=by simpa using List.find?_some h
   obtain⟨i,hi⟩:=List.mem_iff_getElem?.1 hm;obtain⟨j,hj⟩:=List.mem_iff_getElem?.1 hg;obtain rfl:=QUx hs hi hj (hk.trans hgk.symm);rw[hi]at hj;exact hj.symm
theorem QQd{fs:List DF}{k:Key}:QCT fs k=none↔∀f∈fs,f.key≠k:=by
 unfold QCT;rw[List.find?_eq_none];simp
theorem QCP{fs:List DF}{k:Key}{f:DF}(h:QCT fs k=some f):f.key=k:=by simpa using List.find?_some h
theorem QIq{fs:List DF}{k:Key}{f:DF}(h:QCT fs k=some f):f∈fs:=List.mem_of_find?_eq_some h
theorem QDN{fs:List DF}(hs:Sorted fs)(k:Key):QAh fs k=(QCT fs k).isSome:=by
 cases h:QCT fs k with
 | some f=>
  obtain⟨i,hi⟩:=List.mem_iff_getElem?.1 (QIq h);exact (QEd hs hi (QCP h)).2
 | none=>
  cases ht:QAh fs k with
  | false=>rfl
  | true=>
   obtain⟨f,hf,hk⟩:=QLP ht;exact absurd hk (QQd.1 h f (List.mem_of_getElem? hf))
theorem QC1{fs:List DF}(hs:Sorted fs){k:Key}{f:DF}(h:QCT fs k=some f):QAh fs k=true∧fs[QAT fs k]? = some f:=by
 obtain⟨i,hi⟩:=List.mem_iff_getElem?.1 (QIq h);obtain⟨h1,h2⟩:=QEd hs hi (QCP h);rw[h1];exact⟨h2,hi⟩
theorem QEa{fs:List DF}(hs:Sorted fs){k:Key}{f d:DF}(h:QCT fs k=some f):fs.getD (QAT fs k) d=f:=by
 simp[(QC1 hs h).2]
theorem QFq{fs:List DF}(hs:Sorted fs){i:Nat}{f g:DF}(hf:fs[i]? = some f)(hk:g.key=f.key)(k:Key):QCT (fs.set i g) k=if k=f.key then some g else QCT fs k:=by
 have hs':=QEG hf hk hs;have hi:=(List.getElem?_eq_some_iff.1 hf).1;split
 ·rename_i e
  exact (QED hs').2 ⟨List.mem_set hi g,hk.trans e.symm⟩
 ·rename_i e
  apply Option.ext;intro x;rw[QED hs',QED hs];constructor
  ·rintro⟨hm,hx⟩;rcases List.mem_or_eq_of_mem_set hm with hm|rfl
   ·exact⟨hm,hx⟩
   ·exact absurd (hx.symm.trans hk) e
  ·rintro⟨hm,hx⟩;refine⟨?_,hx⟩;obtain⟨j,hj⟩:=List.mem_iff_getElem?.1 hm
   have:i≠j:=by
    intro h;subst h;rw[hf]at hj;cases hj;exact e hx.symm
   exact List.mem_iff_getElem?.2 ⟨j,by rw[List.getElem?_set_ne this];exact hj⟩
theorem QU1{fs:List DF}(hs:Sorted fs){g:DF}(hn:QAh fs g.key=false)(k:Key):QCT (QMx fs (QAT fs g.key) g) k=if k=g.key then some g else QCT fs k:=by
 have hs':=QHI hs hn
 have memI:∀x,x∈QMx fs (QAT fs g.key) g↔x=g∨x∈fs:=by
  intro x;constructor
  ·exact QOf
  ·unfold QMx;rintro (rfl|h)
   ·simp
   ·have:x∈fs.take (QAT fs g.key)++fs.drop (QAT fs g.key):=by rw[List.take_append_drop];exact h
    rcases List.mem_append.1 this with h|h
    ·exact List.mem_append_left _ h
    ·exact List.mem_append_right _ (List.mem_cons_of_mem _ h)
 split
 ·rename_i e
  exact (QED hs').2 ⟨(memI _).2 (.inl rfl),e.symm⟩
 ·rename_i e
  apply Option.ext;intro x;rw[QED hs',QED hs,memI];constructor
  ·rintro⟨rfl|hm,hx⟩
   ·exact absurd hx.symm e
   ·exact⟨hm,hx⟩
  ·rintro⟨hm,hx⟩;exact⟨.inr hm,hx⟩
theorem QNb{fs:List DF}(hs:Sorted fs){i:Nat}{f:DF}(hf:fs[i]? = some f)(k:Key):QCT (fs.eraseIdx i) k=if k=f.key then none else QCT fs k:=by
 have hs':Sorted (fs.eraseIdx i):=QCj hs
 have memE:∀x,x∈fs.eraseIdx i↔x∈fs∧x.key≠f.key:=by
  intro x;rw[List.mem_eraseIdx_iff_getElem?];constructor
  ·rintro⟨j,hj,hx⟩;exact⟨List.mem_of_getElem? hx,fun e=>hj (QUx hs hx hf e)⟩
  ·rintro⟨hm,hk⟩;obtain⟨j,hj⟩:=List.mem_iff_getElem?.1 hm;refine⟨j,fun e=>?_,hj⟩;subst e;rw[hf]at hj;cases hj;exact hk rfl
 split
 ·rename_i e
  rw[QQd];intro x hx hk;exact ((memE x).1 hx).2 (hk.trans e)
 ·rename_i e
  apply Option.ext;intro x;rw[QED hs',QED hs,memE];constructor
  ·rintro⟨⟨hm,_⟩,hx⟩;exact⟨hm,hx⟩
  ·rintro⟨hm,hx⟩;exact⟨⟨hm,fun h=>e (hx.symm.trans h)⟩,hx⟩
structure Qdn(m:DM)(r:DM×Int)(fs:List DF):Prop where
 err:r.2=0
 files:r.1.fs=fs
 down:r.1.down=m.down
 room:r.1.room=m.room
 armed:m.armed=false→r.1.armed=false
def QVl(m:DM)(r:DM×Int):Prop:=m.armed=true∧r=({ m with down:=true },10)
theorem QHT(m:DM)(φ:List DF→List DF):QVl m (QE7 m fun m=>{ m with fs:=φ m.fs })∨Qdn m (QE7 m fun m=>{ m with fs:=φ m.fs }) (φ m.fs):=by
 unfold QE7;have hfs:=QCb m;by_cases h:(m.armed&&m.left == 0)=true
 ·have:QAu m=({ m with down:=true },false):=by unfold QAu;rw[if_pos h]
  rw[this];refine .inl ⟨?_,rfl⟩;simp only[Bool.and_eq_true]at h;exact h.1
 ·have hs:(QAu m).2=true∧(QAu m).1.down=m.down∧(m.armed=false→(QAu m).1.armed=false):=by
   unfold QAu;rw[if_neg h];split
   ·rename_i ha;exact⟨rfl,rfl,fun e=>by rw[ha]at e;cases e⟩
   ·exact⟨rfl,rfl,id⟩
  rw[hs.1];refine .inr ⟨rfl,?_,hs.2.1,hfs.2,hs.2.2⟩;show φ (QAu m).1.fs=_;rw[hfs.1]
theorem QPF{m:DM}(hI:DInv m){nm:ByteArray}{f:DF}(hd:m.down=false)(hf:QCT m.fs nm.toList=some f) :
  QVl m (QBK m nm)∨Qdn m (QBK m nm) (m.fs.set (QAT m.fs nm.toList) { f with sy:=f.b.length }):=by
 obtain⟨h1,h2⟩:=QC1 hI.sorted hf;have h3:=QEa (d:=⟨nm,[],0⟩) hI.sorted hf;unfold QBK QBk;rw[if_neg (by rw[hd];decide),if_neg (by rw[h1];decide),h3];exact QHT m fun fs=>fs.set (QAT m.fs nm.toList) { f with sy:=f.b.length }
theorem QOp{m:DM}(hI:DInv m){nm:ByteArray}{f:DF}{n:Int}(hd:m.down=false)(hf:QCT m.fs nm.toList=some f)(h0:0≤n)(hn:n≤f.b.length) :
  QVl m (QBR m nm n)∨Qdn m (QBR m nm n) (m.fs.set (QAT m.fs nm.toList) { f with b:=f.b.take n.toNat,sy:=if n<f.sy then n else f.sy }):=by
 obtain⟨h1,h2⟩:=QC1 hI.sorted hf;have h3:=QEa (d:=⟨nm,[],0⟩) hI.sorted hf;unfold QBR QBk;rw[if_neg (by rw[hd];decide),if_neg (by rw[h1];decide),h3]
 have hc:¬(n<0∨n>(f.b.length:Int)):=by omega
 simp only[if_neg hc];exact QHT m fun fs=>fs.set (QAT m.fs nm.toList) { f with b:=f.b.take n.toNat,sy:=if n<f.sy then n else f.sy }
theorem QLH{m:DM}(hI:DInv m){nm:ByteArray}{f:DF}(hd:m.down=false)(hf:QCT m.fs nm.toList=some f) :
  QVl m (QAV m nm)∨Qdn m (QAV m nm) (m.fs.eraseIdx (QAT m.fs nm.toList)):=by
 obtain⟨h1,h2⟩:=QC1 hI.sorted hf;have h3:=QEa (d:=⟨nm,[],0⟩) hI.sorted hf;unfold QAV QBk;rw[if_neg (by rw[hd];decide),if_neg (by rw[h1];decide),h3];exact QHT m fun fs=>fs.eraseIdx (QAT m.fs nm.toList)
theorem QG0{m:DM}(hI:DInv m){nm:ByteArray}(hf:QCT m.fs nm.toList=none):QAh m.fs nm.toList=false:=by rw[QDN hI.sorted,hf];rfl
theorem QYH{m:DM}(hI:DInv m){nm:ByteArray}(hd:m.down=false)(hf:QCT m.fs nm.toList=none):QBK m nm=(m,6):=by
 unfold QBK QBk;rw[if_neg (by rw[hd];decide),if_pos (by rw[QG0 hI hf];rfl)]
theorem QLy{m:DM}(hI:DInv m){nm:ByteArray}(hd:m.down=false)(hf:QCT m.fs nm.toList=none):QAV m nm=(m,6):=by
 unfold QAV QBk;rw[if_neg (by rw[hd];decide),if_pos (by rw[QG0 hI hf];rfl)]
theorem QJi{m:DM}(hd:m.down=true)(nm:ByteArray)(g:Nat→DF→DM→DM×Int):QBk m nm g=(m,10):=by unfold QBk;rw[if_pos hd]
theorem QMs{m:DM}(hI:DInv m){nm:ByteArray}{f:DF}(hf:QCT m.fs nm.toList=some f):QAW m nm=(f.b,0):=by
 unfold QAW;rw[if_neg (by rw[(QC1 hI.sorted hf).1];decide),QEa hI.sorted hf]
theorem QRH{m:DM}(hI:DInv m){nm:ByteArray}(hf:QCT m.fs nm.toList=none):QAW m nm=([],6):=by
 unfold QAW;rw[if_pos (by rw[QG0 hI hf];rfl)]
theorem QMo{m:DM}(hI:DInv m){nm:ByteArray}{b:List UInt8}(hn:QDT nm=true)(hd:m.down=false) :
  (QAM m nm b=(m,9)∧((QCT m.fs nm.toList=none∧m.fs.length=64)∨(b.length:Int)>m.room - QBs m.fs))∨QVl m (QAM m nm b) ∨
  (Qdn m (QAM m nm b) (QNA m.fs nm b)∧(b.length:Int)≤m.room - QBs m.fs∧(QCT m.fs nm.toList=none→m.fs.length<64)):=by
 have ht:=QDN hI.sorted nm.toList;have hl:=hI.len;by_cases hfull:((!(QAh m.fs nm.toList)&&decide ((m.fs.length:Int)≥64))||decide ((b.length:Int)>m.room - QBs m.fs))=true
 ·left;refine⟨by unfold QAM;rw[if_neg (by rw[hn];decide),if_neg (by rw[hd];decide),if_pos hfull],?_⟩;simp only[Bool.or_eq_true,Bool.and_eq_true,Bool.not_eq_true',decide_eq_true_eq]at hfull;rcases hfull with⟨h1,h2⟩|h
  ·rw[ht]at h1;exact .inl ⟨by simpa using h1,by omega⟩
  ·exact .inr h
 ·right
  have hu:QAM m nm b=QE7 m fun m=>{ m with fs:=QNA m.fs nm b }:=by
   unfold QAM QE7;rw[if_neg (by rw[hn];decide),if_neg (by rw[hd];decide),if_neg hfull];split
   ·rfl
   ·show (({ (QAu m).1 with fs:=QNA m.fs nm b }:DM),(0:Int))=({ (QAu m).1 with fs:=QNA (QAu m).1.fs nm b },0);rw[(QCb m).1]
  rw[hu];rcases QHT m fun fs=>QNA fs nm b with h|h
  ·exact .inl h
  ·refine .inr ⟨h,?_⟩;simp only[Bool.or_eq_true,Bool.and_eq_true,Bool.not_eq_true',decide_eq_true_eq,not_or,not_and]at hfull;refine⟨by omega,fun hn=>?_⟩;have:=hfull.1 (by rw[ht,hn];rfl);omega
theorem QUW{fs:List DF}(hs:Sorted fs)(nm:ByteArray)(b:List UInt8)(k:Key) :
  QCT (QNA fs nm b) k=if k=nm.toList then some { ((QCT fs nm.toList).getD ⟨nm,[],0⟩) with b:=((QCT fs nm.toList).getD ⟨nm,[],0⟩).b++b } else QCT fs k:=by
 unfold QNA
 cases h:QCT fs nm.toList with
 | some f=>
  obtain⟨h1,h2⟩:=QC1 hs h;rw[if_pos h1,QEa hs h];show QCT (fs.set (QAT fs nm.toList) { f with b:=f.b++b }) k=_;rw[QFq (g:={ f with b:=f.b++b }) hs h2 rfl,QCP h];rfl
 | none=>
  have h1:QAh fs nm.toList=false:=by rw[QDN hs,h];rfl
  rw[h1];simp only[Bool.false_eq_true,if_false,Option.getD_none];have hins:=QO6 fs (QAT fs nm.toList) ⟨nm,[],0⟩ (QFn _ _)
  have hgd:(QMx fs (QAT fs nm.toList) ⟨nm,[],0⟩).getD (QAT fs nm.toList) ⟨nm,[],0⟩=⟨nm,[],0⟩:=by simp[hins]
  rw[hgd];show QCT ((QMx fs (QAT fs nm.toList) ⟨nm,[],0⟩).set (QAT fs nm.toList) (⟨nm,[]++b,0⟩:DF)) k=_;rw[QFq (g:=(⟨nm,[]++b,0⟩:DF)) (QHI (g:=⟨nm,[],0⟩) hs h1) hins rfl];have:=QU1 hs (g:=⟨nm,[],0⟩) h1 k;simp only[DF.key]at this⊢;rw[this];split<;>rfl
def preL:List UInt8:=[108,111,103,45]
def fN(n:Int):ByteArray:=BA (preL++Lib.itoa n)
abbrev fK(n:Int):Key:=(fN n).toList
def QMX:ByteArray:=BA [104,101,97,100]
def QEj:ByteArray:=BA [104,101,97,100,46,110,101,119]
def QEM(l:List UInt8):Bool:=decide (5≤l.length)&&decide (l.length≤16)&&(l.take 4 == preL) && !(l[4]? == some 48)&&(l.drop 4).all QPP
abbrev QKg:Int:=999999999999
structure Sg where
 n:Int
 first:Int
 size:Int
 ps:List (List UInt8)
structure LM where
 n:Int
 first:Int
 segs:List Sg
 safe:Int
def Sg.next(s:Sg):Int:=s.first+s.ps.length
def LM.cur(l:LM):Option Sg:=l.segs.getLast?
def LM.next(l:LM):Int:=match l.cur with
 | some s=>s.next
 | none=>l.first
def LM.lo(l:LM):Int:=match l.segs with
 | []=>l.first
 | s::_=>s.first
def QAt(m:DM)(nm:ByteArray):DM×Int:=if (QAV m nm).2=6 then ((QAV m nm).1,0) else QAV m nm
def QC4(m:DM):Int×Int×Int:=
 if (QAW m QMX).2≠0 then (1,0,0)
 else
  let g:=QBN (QAW m QMX).1
  if g.2.2≠0∨g.2.1≠(QAW m QMX).1.length∨g.1.length≠16 then (0,0,30)
  else if beV (QKm g.1 0)<1∨beV (QKm g.1 0)>999999999999∨beV (QKm g.1 8)>1099511627776 then (0,0,30)
  else (beV (QKm g.1 0),beV (QKm g.1 8),0)
def QD6(m:DM)(n:Int):DM×Int:=
 let b:=(QAW m (fN n)).1
 let t:=if (QAv b).2<b.length then QBR m (fN n) (QAv b).2 else (m,0)
 if t.2≠0 then t else QBK t.1 (fN n)
def QLj:Nat→DM→Int→LM→DM×LM×Int
 | 0,m,_,l=>(m,l,0)
 | k+1,m,n,l=>
  if (QAW m (fN n)).2≠0 then (m,l,0)
  else if (QD6 m n).2≠0 then ((QD6 m n).1,l,(QD6 m n).2)
  else
   let b:=(QAW m (fN n)).1
   let l':={ l with segs:=l.segs++[⟨n,l.next,(QAv b).2,(QAv b).1⟩] }
   if (QAv b).2<b.length then ((QD6 m n).1,l',0) else QLj k (QD6 m n).1 (n+1) l'
def QRl(l:LM)(nm:ByteArray):Bool:=!(QEM nm.data.toList)||l.segs.any fun s=>fK s.n == nm.toList
def QC7(l:LM):List ByteArray→DM→DM×Int
 | [],m=>(m,0)
 | nm::r,m=>if QRl l nm then QC7 l r m else if (QAV m nm).2≠0 then QAV m nm else QC7 l r (QAV m nm).1
def QDk(m:DM):DM×Option LM×Int:=
 if (QAt m QEj).2≠0 then ((QAt m QEj).1,none,(QAt m QEj).2)
 else
  let m1:=(QAt m QEj).1
  let h:=QC4 m1
  if h.2.2≠0 then (m1,none,h.2.2)
  else
   let r:=QLj 70 m1 h.1 ⟨h.1,h.2.1,[],0⟩
   if r.2.2≠0 then (r.1,none,r.2.2)
   else
    let w:=QC7 r.2.1 (r.1.fs.map (·.nm)) r.1
    if w.2≠0 then (w.1,none,w.2) else (w.1,some { r.2.1 with safe:=r.2.1.next },0)
def QB2(m:DM)(l:LM):DM×LM×Int:=
 if m.down then (m,l,10)
 else if l.safe=l.next then (m,l,0)
 else
  let y:=QBK m (fN ((l.cur.map Sg.n).getD 0))
  if y.2≠0 then (y.1,l,y.2) else (y.1,{ l with safe:=l.next },0)
def LM.full(l:LM):Bool:=match l.cur with
 | some s=>decide (s.size≥1024)
 | none=>false
def LM.curN(l:LM):Int:=match l.cur with
 | some s=>s.n
 | none=>l.n
def QaU(ss:List Sg)(p:List UInt8):List Sg:=match ss.getLast? with
 | some s=>ss.dropLast++[{ s with size:=s.size+(QAn p).length,ps:=s.ps++[p] }]
 | none=>[]
def QCC(m:DM)(l:LM)(p:List UInt8):DM×LM×Int×Int:=
 if m.down then (m,l,0,10)
 else if p.length>1024 then (m,l,0,2)
 else if l.next≥1099511627776∨(l.full=true∧l.curN=QKg) then (m,l,0,12)
 else
  let y:=if l.full then QB2 m l else (m,l,0)
  if y.2.2≠0 then (y.1,y.2.1,0,y.2.2)
  else
   let n:=if l.full then l.curN+1 else l.curN
   let a:=QAM y.1 (fN n) (QAn p)
   if a.2≠0 then (a.1,y.2.1,0,a.2)
   else
    let ss:=if l.segs=[]∨l.full=true then l.segs++[⟨n,l.next,0,[]⟩] else l.segs
    (a.1,{ y.2.1 with segs:=QaU ss p },l.next,0)
def QGd(l:LM)(to keep:Int):Nat:=(l.segs.take (l.segs.length - (max keep 1).toNat)).takeWhile (fun s=>decide (s.next≤min to l.safe)) |>.length
def QhS(m:DM)(s:Sg):DM×Int:=
 let d:=QAt m QEj
 if d.2≠0 then d else
 let a:=QAM d.1 QEj (QAn (be8 s.n.toNat++be8 s.first.toNat))
 if a.2≠0 then a else
 let y:=QBK a.1 QEj
 if y.2≠0 then y else QCF y.1 QEj QMX
def Qeb:List Sg→DM→DM×Int
 | [],m=>(m,0)
 | s::r,m=>if (QAV m (fN s.n)).2≠0 then QAV m (fN s.n) else Qeb r (QAV m (fN s.n)).1
def Qa6(m:DM)(l:LM)(to keep:Int):DM×LM×Int:=
 if m.down then (m,l,10)
 else if QGd l to keep=0 then (m,l,0)
 else
  let y:=QhS m ((l.segs[QGd l to keep]?).getD ⟨0,0,0,[]⟩)
  if y.2≠0 then (y.1,l,y.2)
  else
   let g:=Qeb (l.segs.take (QGd l to keep)) y.1
   if g.2≠0 then (g.1,l,g.2) else (g.1,{ l with segs:=l.segs.drop (QGd l to keep) },0)
def QH6(l:LM)(n:Int):List UInt8×Int:=
 if n<l.lo then ([],31)
 else match l.segs.find? fun s=>decide (n<s.next) with
  | some s=>((s.ps[(n - s.first).toNat]?).getD [],0)
  | none=>([],6)
end Go.Cx
namespace Go.Cx
open Go Go.Cf
set_option linter.unusedVariables false
set_option maxRecDepth 100000
theorem QHy(n:Int):fK n=preL++Lib.itoa n:=by unfold fK fN;rw[QEb]
theorem QKl{n:Nat}(h:1≤n):Lib.itoa (n:Int)=Lib.decDigits n:=by unfold Lib.itoa;rw[if_neg (by omega),Int.toNat_natCast]
theorem Qay{a b:Nat}(ha:1≤a)(hb:1≤b)(h:Lib.itoa (a:Int)=Lib.itoa (b:Int)):a=b:=by
 rw[QKl ha,QKl hb]at h;have h1:=(QGZ a a (Nat.le_refl _)).2.2.1;have h2:=(QGZ b b (Nat.le_refl _)).2.2.1;rw[h,h2]at h1;exact h1.symm
theorem QVT{a b:Nat}(ha:1≤a)(hb:1≤b)(h:fK (a:Int)=fK (b:Int)):a=b:=by
 rw[QHy,QHy]at h;exact Qay ha hb (List.append_cancel_left h)
theorem QL5(n:Nat):1≤(Lib.decDigits n).length:=List.length_pos_iff.2 (QGZ n n (Nat.le_refl _)).1
theorem QXd{n:Nat}(h1:1≤n)(h2:n≤999999999999):QEM (fN (n:Int)).data.toList=true:=by
 unfold fN;rw[QOh,QKl h1];obtain⟨f1,f2,f3,f4,f5⟩:=QGZ n n (Nat.le_refl _);have hl:=QPl 11 n (by omega);have hp:=QL5 n;have hne:=f5 h1;unfold QEM;simp only[Bool.and_eq_true,decide_eq_true_eq,Bool.not_eq_true',beq_eq_false_iff_ne,ne_eq,beq_iff_eq,List.length_append];have e4:preL.length=4:=rfl;refine⟨⟨⟨⟨by omega,by omega⟩,?_⟩,?_⟩,?_⟩
 ·rw[←e4,List.take_left]
 ·rw[List.getElem?_append_right (by omega)];exact hne
 ·rw[←e4,List.drop_left];exact f2
theorem Qad{n:Nat}(h1:1≤n)(h2:n≤999999999999):QDT (fN (n:Int))=true:=by
 have:=QXd h1 h2;unfold QEM at this;simp only[Bool.and_eq_true,decide_eq_true_eq]at this
 have e:(fN (n:Int)).data.toList.length=(fN (n:Int)).size:=by rw[Array.length_toList];rfl
 unfold QDT;simp only[Bool.and_eq_true,decide_eq_true_eq];omega
end Go.Cx
namespace Go.Cx
open Go Go.Cf
set_option linter.unusedVariables false
set_option maxRecDepth 100000
end Go.Cx
namespace Go.Cx
open Go Go.Cf
set_option linter.unusedVariables false
set_option maxRecDepth 100000
theorem QJN{α:Type}[DecidableEq α]:∀{l m:List α},l.Nodup→(∀x∈l,x∈m)→l.length≤m.length
 | [],m,_,_=>by simp
 | x::l,m,hn,hs=>by
  obtain⟨h1,h2⟩:=List.nodup_cons.1 hn;have hx:=hs x (by simp)
  have:=QJN (l:=l) (m:=m.erase x) h2 fun y hy=>by
   have hne:y≠x:=fun e=>h1 (e ▸ hy);exact (List.mem_erase_of_ne hne).2 (hs y (by simp[hy]))
  rw[List.length_erase_of_mem hx]at this;have:=List.length_pos_of_mem hx;simp;omega
end Go.Cx
namespace Go.Cx
open Go Go.Cf
set_option linter.unusedVariables false
set_option maxRecDepth 100000
structure LInv(l:LM):Prop where
 n:1≤l.n∧l.n≤2000000000000
 first:0≤l.first∧l.first≤2199023255552
 segs:∀s∈l.segs,(1≤s.n∧s.n≤2000000000000)∧(0≤s.first∧s.first≤2199023255552)∧(0≤s.size∧s.size≤16777216)∧(s.ps.length:Int)≤s.size∧∀p∈s.ps,p.length≤1024
 few:l.segs.length≤64
 safe:0≤l.safe∧l.safe≤4398046511104
 chain:∀(k:Nat) s s',l.segs[k]? = some s→l.segs[k+1]? = some s'→s'.first=s.next
theorem LInv.next{l:LM}(h:LInv l):0≤l.next∧l.next≤4000000000000:=by
 unfold LM.next LM.cur
 cases e:l.segs.getLast? with
 | none=>have:=h.first;simp only;omega
 | some s=>
  obtain⟨h1,h2,h3,h4,_⟩:=h.segs s (List.mem_of_getLast? e);simp only[Sg.next];omega
theorem QUu{fs:List DF}(hs:Sorted fs){i:Nat}{f g:DF}(hf:fs[i]? = some f)(hk:g.key=f.key)(k:Key):(QCT (fs.set i g) k).isSome=(QCT fs k).isSome:=by
 rw[QFq hs hf hk];split
 ·rename_i e
  rw[e,(QED hs).2 ⟨List.mem_of_getElem? hf,rfl⟩];rfl
 ·rfl
theorem QZv{m:DM}{nm:ByteArray}{g:Nat→DF→DM→DM×Int}(hI:DInv m)(h:∀i f,m.fs[i]? = some f→∀k,(QCT (g i f m).1.fs k).isSome=(QCT m.fs k).isSome)(k:Key):(QCT (QBk m nm g).1.fs k).isSome=(QCT m.fs k).isSome:=by
 unfold QBk;split
 ·rfl
 split
 ·rfl
 ·rename_i ht
  exact h _ _ (QCO (by simpa using ht)).1 k
theorem QOG{m:DM}{φ:List DF→List DF}(h:∀k,(QCT (φ m.fs) k).isSome=(QCT m.fs k).isSome)(k:Key):(QCT (QE7 m fun m=>{ m with fs:=φ m.fs }).1.fs k).isSome=(QCT m.fs k).isSome:=by
 rcases QHT m φ with hx|hx
 ·rw[hx.2]
 ·rw[hx.files];exact h k
theorem QX6{m:DM}(hI:DInv m)(nm:ByteArray)(k:Key):(QCT (QBK m nm).1.fs k).isSome=(QCT m.fs k).isSome:=
 QZv hI (fun i f hf k=>QOG (φ:=fun fs=>fs.set i { f with sy:=f.b.length }) (fun k=>QUu (g:=⟨f.nm,f.b,(f.b.length:Int)⟩) hI.sorted hf rfl k) k) k
theorem QW0{m:DM}(hI:DInv m)(nm:ByteArray)(n:Int)(k:Key):(QCT (QBR m nm n).1.fs k).isSome=(QCT m.fs k).isSome:=by
 refine QZv hI (fun i f hf k=>?_) k;split
 ·rfl
 ·exact QOG (φ:=fun fs=>fs.set i { f with b:=f.b.take n.toNat,sy:=if n<f.sy then n else f.sy }) (fun k=>QUu (g:=⟨f.nm,f.b.take n.toNat,if n<f.sy then n else f.sy⟩) hI.sorted hf rfl k) k
theorem Qa0{m:DM}(hI:DInv m)(n:Int):DInv (QD6 m n).1:=by
 unfold QD6
 (try simp only)
 generalize ht:(if (QAv (QAW m (fN n)).1).2<(QAW m (fN n)).1.length then QBR m (fN n) (QAv (QAW m (fN n)).1).2 else (m,0))=t
 have hT:DInv t.1:=by
  rw[←ht];split
  ·exact QFd hI _ _
  ·exact hI
 split
 ·exact hT
 ·exact QPI hT _
theorem QRN{m:DM}(hI:DInv m)(n:Int)(k:Key):(QCT (QD6 m n).1.fs k).isSome=(QCT m.fs k).isSome:=by
 unfold QD6
 (try simp only)
 generalize ht:(if (QAv (QAW m (fN n)).1).2<(QAW m (fN n)).1.length then QBR m (fN n) (QAv (QAW m (fN n)).1).2 else (m,0))=t
 have hT:DInv t.1∧(QCT t.1.fs k).isSome=(QCT m.fs k).isSome:=by
  rw[←ht];split
  ·exact⟨QFd hI _ _,QW0 hI _ _ k⟩
  ·exact⟨hI,rfl⟩
 split
 ·exact hT.2
 ·rw[QX6 hT.1];exact hT.2
theorem Qcu{fs:List DF}{f:DF}(h:f∈fs):f.b.length≤QBs fs:=by
 obtain⟨i,hi⟩:=List.mem_iff_getElem?.1 h;have:=QBi hi;omega
theorem QPE{m:DM}(hI:DInv m)(nm:ByteArray):(QAW m nm).1.length≤16777216:=by
 cases h:QCT m.fs nm.toList with
 | none=>rw[QRH hI h];simp
 | some f=>
  rw[QMs hI h];have:=Qcu (QIq h);have:=hI.used;have:=hI.room;simp only;omega
theorem QVy{m:DM}(hI:DInv m){nm:ByteArray}(h:(QAW m nm).2=0):(QCT m.fs nm.toList).isSome=true:=by
 cases e:QCT m.fs nm.toList with
 | none=>rw[QRH hI e]at h;cases h
 | some f=>rfl
theorem QNa:∀(n:Nat) (b:List UInt8),b.length≤n→(QAv b).1.length≤(QAv b).2
 | 0,b,h=>by
  have hb:b=[]:=List.eq_nil_of_length_eq_zero (by omega);subst hb;rw[QLw (by decide)];simp
 | n+1,b,h=>by
  by_cases hg:(QBN b).2.2=0
  ·obtain⟨a1,a2,a3,a4,_⟩:=QLS hg;have hd:(b.drop (QBN b).2.1).length=b.length - (QBN b).2.1:=List.length_drop;have:=QNa n (b.drop (QBN b).2.1) (by omega);rw[QS8 hg];simp only[List.length_cons];omega
  ·rw[QLw hg];simp
structure ReadI(n0 f0:Int)(m:DM)(l:LM):Prop where
 inv:DInv m
 n:l.n=n0
 first:l.first=f0
 safe:l.safe=0
 segs:∀(j:Nat) s,l.segs[j]? = some s→s.n=n0+j∧(QCT m.fs (fK s.n)).isSome=true∧(0≤s.first∧s.first≤1099511627776+16777216*(j:Int))∧(0≤s.size∧s.size≤16777216)∧(s.ps.length:Int)≤s.size∧∀p∈s.ps,p.length≤1024
 next:0≤l.next∧l.next≤1099511627776+16777216*(l.segs.length:Int)
 chain:∀(k:Nat) s s',l.segs[k]? = some s→l.segs[k+1]? = some s'→s'.first=s.next
theorem QYa(l:LM)(s:Sg):({ l with segs:=l.segs++[s] }:LM).next=s.next:=by
 unfold LM.next LM.cur;simp
theorem QF3{α:Type}{l:List α}{x:α}(h:l.getLast? = some x):l[l.length - 1]? = some x:=by
 rw[List.getLast?_eq_getElem?]at h;exact h
theorem QRa{l:LM}{s:Sg}(h:l.segs[l.segs.length - 1]? = some s):l.next=s.next:=by
 unfold LM.next LM.cur;rw[List.getLast?_eq_getElem?,h]
theorem QOB{l:LM}{x:Sg}(h:∀(k:Nat) s s',l.segs[k]? = some s→l.segs[k+1]? = some s'→s'.first=s.next)(hx:x.first=l.next) :
  ∀(k:Nat) s s',(l.segs++[x])[k]? = some s→(l.segs++[x])[k+1]? = some s'→s'.first=s.next:=by
 intro k s s' h1 h2;have hk:=(List.getElem?_eq_some_iff.1 h2).1;simp at hk;rw[List.getElem?_append_left hk]at h1;by_cases e:k+1<l.segs.length
 ·rw[List.getElem?_append_left e]at h2;exact h k s s' h1 h2
 ·have:k+1=l.segs.length:=by omega
  rw[List.getElem?_append_right (by omega),this,Nat.sub_self]at h2;have h2:=Option.some.inj h2;subst h2;rw[hx,QRa (by rw[←this];exact h1)]
theorem ReadI.start{n0 f0:Int}{m:DM}(hI:DInv m)(hf:0≤f0∧f0≤1099511627776):ReadI n0 f0 m ⟨n0,f0,[],0⟩:=
 ⟨hI,rfl,rfl,rfl,fun j s h=>by simp at h,by show 0≤f0∧f0≤_;simp;omega,fun k s s' h=>by simp at h⟩
theorem QRV{fs:List DF}{n0:Nat}(h0:1≤n0){n:Nat}(h:∀i,i<n→(QCT fs (fK ((n0+i:Nat):Int))).isSome=true):n≤fs.length:=by
 have:=QJN (l:=(List.range n).map fun i=>fK ((n0+i:Nat):Int)) (m:=fs.map DF.key) (by
  refine List.pairwise_map.2 ?_
  exact List.nodup_range.imp fun {a b} hab e=>hab (by have:=QVT (by omega) (by omega) e;omega)) (fun x hx=>by
  obtain⟨i,hi,rfl⟩:=List.mem_map.1 hx;have:=h i (List.mem_range.1 hi);obtain⟨f,hf⟩:=Option.isSome_iff_exists.1 this
  exact List.mem_map.2 ⟨f,QIq hf,QCP hf⟩)
 simpa using this
theorem ReadI.few{n0 f0:Int}{m:DM}{l:LM}(h:ReadI n0 f0 m l)(h0:1≤n0):l.segs.length≤64:=by
 obtain⟨k,hk⟩:=Int.eq_ofNat_of_zero_le (show 0≤n0 by omega);subst hk
 have:=QRV (fs:=m.fs) (n0:=k) (by omega) (n:=l.segs.length) fun i hi=>by
  obtain⟨e,h2,_⟩:=h.segs i _ (List.getElem?_eq_getElem hi);rw[e]at h2;exact h2
 have:=h.inv.len;omega
theorem ReadI.more{n0 f0:Int}{m:DM}{l:LM}(h:ReadI n0 f0 m l)(h0:1≤n0)(hr:(QAW m (fN (n0+l.segs.length))).2=0) :
  ReadI n0 f0 (QD6 m (n0+l.segs.length)).1 { l with segs:=l.segs++[⟨n0+l.segs.length,l.next,(QAv (QAW m (fN (n0+l.segs.length))).1).2,(QAv (QAW m (fN (n0+l.segs.length))).1).1⟩] }:=by
 have hlen:=QPE h.inv (fN (n0+l.segs.length));obtain⟨u1,u2,u3⟩:=QIf _ (QAW m (fN (n0+l.segs.length))).1 (Nat.le_refl _);have u4:=QNa _ (QAW m (fN (n0+l.segs.length))).1 (Nat.le_refl _);refine⟨Qa0 h.inv _,h.n,h.first,h.safe,fun j s hs=>?_,?_,QOB h.chain rfl⟩
 ·by_cases hj:j<l.segs.length
  ·rw[List.getElem?_append_left hj]at hs;obtain⟨a1,a2,a3⟩:=h.segs j s hs;exact⟨a1,by rw[QRN h.inv];exact a2,a3⟩
  ·have hl:=(List.getElem?_eq_some_iff.1 hs).1;simp at hl
   obtain rfl:j=l.segs.length:=by omega
   rw[List.getElem?_append_right (Nat.le_refl _),Nat.sub_self]at hs;have hs:=Option.some.inj hs;subst hs;have:=h.next;refine⟨rfl,by rw[QRN h.inv];exact QVy h.inv hr,by simp only;omega,by simp only;omega,by simp only;omega,fun p hp=>u3 p hp⟩
 ·rw[QYa];have:=h.next;simp only[Sg.next,List.length_append,List.length_singleton];omega
theorem ReadI.linv{n0 f0:Int}{m:DM}{l:LM}(h:ReadI n0 f0 m l)(h0:1≤n0∧n0≤999999999999)(hf:0≤f0∧f0≤1099511627776):LInv l:=by
 have hfew:=h.few h0.1;refine⟨by rw[h.n];omega,by rw[h.first];omega,fun s hs=>?_,hfew,by rw[h.safe];omega,h.chain⟩;obtain⟨j,hj⟩:=List.mem_iff_getElem?.1 hs;obtain⟨a1,a2,a3,a4,a5,a6⟩:=h.segs j s hj;have:=(List.getElem?_eq_some_iff.1 hj).1;exact⟨by omega,by omega,a4,a5,a6⟩
theorem QMV(m:DM)(h:(QC4 m).2.2=0):(1≤(QC4 m).1∧(QC4 m).1≤999999999999)∧(0≤(QC4 m).2.1∧(QC4 m).2.1≤1099511627776):=by
 unfold QC4 at h⊢;split
 ·exact⟨by decide,by decide⟩
 rename_i h1
 rw[if_neg h1]at h;simp only at h⊢;split
 ·rename_i h2;rw[if_pos h2]at h;cases h
 rename_i h2
 rw[if_neg h2]at h;split
 ·rename_i h3;rw[if_pos h3]at h;cases h
 ·rename_i h3
  (try simp only)
  omega
end Go.Cx
namespace Go.Cx
open Go Go.Cf
set_option linter.unusedVariables false
set_option maxRecDepth 100000
end Go.Cx
namespace Go.Cx
open Go Go.Cf
set_option linter.unusedVariables false
set_option maxRecDepth 100000
end Go.Cx
namespace Go.Cx
open Go Go.Cf
set_option linter.unusedVariables false
set_option maxRecDepth 100000
abbrev KY:=Int×Int
def ltK(a b:KY):Bool:=decide (a.1<b.1)||(decide (a.1=b.1)&&decide (a.2<b.2))
theorem QPA{a b:KY}:ltK a b=true↔a.1<b.1∨(a.1=b.1∧a.2<b.2):=by
 unfold ltK;simp only[Bool.or_eq_true,Bool.and_eq_true,decide_eq_true_eq]
theorem QLg(a:KY):ltK a a=false:=by
 rw[Bool.eq_false_iff];intro h;rcases QPA.1 h with h|h<;>omega
theorem QIZ{a b c:KY}(h1:ltK a b=true)(h2:ltK b c=true):ltK a c=true:=by
 rw[QPA]at *;omega
theorem QTX(a b:KY):ltK a b=true∨a=b∨ltK b a=true:=by
 rw[QPA,QPA];by_cases h:a=b
 ·exact .inr (.inl h)
 ·have:a.1≠b.1∨a.2≠b.2:=by
   by_cases h1:a.1=b.1
   ·exact .inr fun h2=>h (Prod.ext h1 h2)
   ·exact .inl h1
  omega
theorem QIX{a b:KY}(h:ltK a b=true):ltK b a=false:=by
 rw[Bool.eq_false_iff];intro h2;have:=QIZ h h2;rw[QLg]at this;cases this
abbrev QTL(l:List KY):Prop:=l.Pairwise fun a b=>ltK a b=true
structure Pg(α:Type) where
 ks:List KY
 vs:List Int
 kids:List α
def PT:Nat→Type
 | 0=>Pg Empty
 | n+1=>Pg (PT n)
def mix:List KY→List (List KY)→List KY
 | ks,[]=>ks
 | [],l::_=>l
 | k::ks,l::ls=>l++k::mix ks ls
def QBf:(n:Nat)→PT n→List KY
 | 0,(p:Pg Empty)=>p.ks
 | n+1,(p:Pg (PT n))=>mix p.ks (p.kids.map (QBf n))
def QGA:(n:Nat)→PT n→Prop
 | 0,(p:Pg Empty)=>p.ks.length≤15∧p.vs.length=p.ks.length
 | n+1,(p:Pg (PT n))=>p.ks.length≤15∧p.vs.length=p.ks.length∧p.kids.length=p.ks.length+1∧∀k∈p.kids,QGA n k
def QMy:List KY→List (List KY)→Nat→List KY
 | k::ks,l::ls,i+1=>l++k::QMy ks ls i
 | _,_,_=>[]
def QLO:List KY→List (List KY)→Nat→List KY
 | k::ks,_::ls,i+1=>QLO ks ls i
 | k::ks,_::ls,0=>k::mix ks ls
 | _,_,_=>[]
theorem QN7:∀{ks:List KY}{ls:List (List KY)}(i:Nat) {x:List KY},ls.length=ks.length+1→ls[i]? = some x→mix ks ls=QMy ks ls i++(x++QLO ks ls i)
 | ks,[],i,x,h,hx=>by simp at h
 | [],[l],0,x,h,hx=>by
  obtain rfl:l=x:=by simpa using hx
  simp[mix,QMy,QLO]
 | [],[l],i+1,x,h,hx=>by simp at hx
 | [],l::l2::ls,i,x,h,hx=>by simp at h
 | k::ks,l::ls,0,x,h,hx=>by
  obtain rfl:l=x:=by simpa using hx
  simp[mix,QMy,QLO]
 | k::ks,l::ls,i+1,x,h,hx=>by
  have ih:=QN7 (ks:=ks) (ls:=ls) i (x:=x) (by simpa using h) (by simpa using hx);simp only[mix,QMy,QLO,ih,List.append_assoc,List.cons_append]
theorem QYA:∀{ks:List KY}{ls:List (List KY)}(i:Nat) (x:List KY),ls.length=ks.length+1→i<ls.length→mix ks (ls.set i x)=QMy ks ls i++(x++QLO ks ls i)
 | ks,[],i,x,h,hx=>by simp at h
 | [],[l],0,x,h,hx=>by simp[mix,QMy,QLO]
 | [],[l],i+1,x,h,hx=>by simp at hx
 | [],l::l2::ls,i,x,h,hx=>by simp at h
 | k::ks,l::ls,0,x,h,hx=>by simp[mix,QMy,QLO]
 | k::ks,l::ls,i+1,x,h,hx=>by
  have ih:=QYA (ks:=ks) (ls:=ls) i x (by simpa using h) (by simpa using hx);simp only[List.set_cons_succ,mix,QMy,QLO,ih,List.append_assoc,List.cons_append]
def QAw{α:Type}(l:List α)(i:Nat)(x:α):List α:=l.take i++x::l.drop i
theorem QCK{α:Type}(l:List α)(i:Nat)(x:α):(QAw l i x).length=l.length+1:=by
 unfold QAw;have:=congrArg List.length (List.take_append_drop i l);simp only[List.length_append,List.length_cons]at this⊢;omega
theorem QQn:∀{ks:List KY}{ls:List (List KY)}(i:Nat) (m:KY) (a b:List KY),ls.length=ks.length+1→i<ls.length→mix (QAw ks i m) (QAw (ls.set i a) (i+1) b)=QMy ks ls i++((a++m::b)++QLO ks ls i)
 | ks,[],i,m,a,b,h,hx=>by simp at h
 | [],[l],0,m,a,b,h,hx=>by simp[QAw,mix,QMy,QLO]
 | [],[l],i+1,m,a,b,h,hx=>by simp at hx
 | [],l::l2::ls,i,m,a,b,h,hx=>by simp at h
 | k::ks,l::ls,0,m,a,b,h,hx=>by
  cases ls with
  | nil=>simp at h
  | cons l2 ls=>simp[QAw,mix,QMy,QLO]
 | k::ks,l::ls,i+1,m,a,b,h,hx=>by
  have ih:=QQn (ks:=ks) (ls:=ls) i m a b (by simpa using h) (by simpa using hx);simp only[QAw]at ih;simp only[QAw,List.set_cons_succ,List.take_succ_cons,List.drop_succ_cons,List.cons_append,mix,QMy,QLO,ih,List.append_assoc]
theorem QT3:∀{ks:List KY}{ls:List (List KY)}(d:Nat) {m:KY},ls.length=ks.length+1→ks[d]? = some m→mix ks ls=mix (ks.take d) (ls.take (d+1))++m::mix (ks.drop (d+1)) (ls.drop (d+1))
 | [],ls,d,m,h,hm=>by simp at hm
 | ks,[],d,m,h,hm=>by simp at h
 | k::ks,[l],d,m,h,hm=>by simp at h
 | k::ks,l::l2::ls,0,m,h,hm=>by
  obtain rfl:k=m:=by simpa using hm
  simp[mix]
 | k::ks,l::l2::ls,d+1,m,h,hm=>by
  have ih:=QT3 (ks:=ks) (ls:=l2::ls) d (m:=m) (by simpa using h) (by simpa using hm);simp only[mix,List.take_succ_cons,List.drop_succ_cons,ih,List.append_assoc,List.cons_append]
theorem QRv:∀{ks:List KY}{ls:List (List KY)}(i:Nat) {k:KY},ls.length=ks.length+1→ks[i]? = some k→∃a,QMy ks ls (i+1)=a++[k]
 | [],ls,i,k,h,hk=>by simp at hk
 | k'::ks,[],i,k,h,hk=>by simp at h
 | k'::ks,l::ls,0,k,h,hk=>by
  obtain rfl:k'=k:=by simpa using hk
  exact⟨l,by cases ks<;>cases ls<;>simp[QMy]⟩
 | k'::ks,l::ls,i+1,k,h,hk=>by
  obtain⟨a,ha⟩:=QRv (ks:=ks) (ls:=ls) i (k:=k) (by simpa using h) (by simpa using hk);exact⟨l++k'::a,by rw[QMy,ha];simp⟩
theorem QXs(ks:List KY)(ls:List (List KY)):QMy ks ls 0=[]:=by cases ks<;>cases ls<;>simp[QMy]
theorem QMd:∀{ks:List KY}{ls:List (List KY)}(i:Nat) {k:KY},ls.length=ks.length+1→ks[i]? = some k→∃z,QLO ks ls i=k::z
 | [],ls,i,k,h,hk=>by simp at hk
 | k'::ks,[],i,k,h,hk=>by simp at h
 | k'::ks,l::ls,0,k,h,hk=>by
  obtain rfl:k'=k:=by simpa using hk
  exact⟨mix ks ls,rfl⟩
 | k'::ks,l::ls,i+1,k,h,hk=>by
  obtain⟨z,hz⟩:=QMd (ks:=ks) (ls:=ls) i (k:=k) (by simpa using h) (by simpa using hk);exact⟨z,by rw[QLO,hz]⟩
theorem QUK:∀{ks:List KY}{ls:List (List KY)}(i:Nat),ks.length≤i→QLO ks ls i=[]
 | [],ls,i,h=>by simp[QLO]
 | k::ks,[],i,h=>by simp[QLO]
 | k::ks,l::ls,0,h=>by simp at h
 | k::ks,l::ls,i+1,h=>by rw[QLO];exact QUK i (by simpa using h)
def QK0(k:KY)(l:List KY):List KY:=if k∈l then l else l.filter (ltK · k)++k::l.filter (ltK k ·)
theorem QX7{k:KY}{a x z:List KY}(ha:∀y∈a,ltK y k=true)(hz:∀y∈z,ltK k y=true):QK0 k (a++(x++z))=a++(QK0 k x++z):=by
 have na:k∉a:=fun h=>by have:=ha k h;rw[QLg]at this;cases this
 have nz:k∉z:=fun h=>by have:=hz k h;rw[QLg]at this;cases this
 unfold QK0;by_cases h:k∈x
 ·rw[if_pos (by simp[h]),if_pos h]
 ·rw[if_neg (by simp[h,na,nz]),if_neg h];have e1:a.filter (ltK · k)=a:=List.filter_eq_self.2 ha;have e2:z.filter (ltK k ·)=z:=List.filter_eq_self.2 hz
  have e3:z.filter (ltK · k)=[]:=List.filter_eq_nil_iff.2 fun y hy=>by rw[QIX (hz y hy)];decide
  have e4:a.filter (ltK k ·)=[]:=List.filter_eq_nil_iff.2 fun y hy=>by rw[QIX (ha y hy)];decide
  simp only[List.filter_append,e1,e2,e3,e4,List.append_nil,List.nil_append,List.append_assoc,List.cons_append]
theorem QJU{k:KY}{l:List KY}(h:k∈l):QK0 k l=l:=by unfold QK0;rw[if_pos h]
theorem QWl{a:List KY}{m k:KY}(hs:QTL (a++[m]))(hm:ltK m k=true):∀y∈a++[m],ltK y k=true:=by
 intro y hy;rcases List.mem_append.1 hy with h|h
 ·exact QIZ ((List.pairwise_append.1 hs).2.2 y h m (by simp)) hm
 ·obtain rfl:y=m:=by simpa using h
  exact hm
theorem QN6{z:List KY}{m k:KY}(hs:QTL (m::z))(hm:ltK k m=true):∀y∈m::z,ltK k y=true:=by
 intro y hy;rcases List.mem_cons.1 hy with rfl|h
 ·exact hm
 ·exact QIZ hm ((List.pairwise_cons.1 hs).1 y h)
theorem Qdz{k:KY}{l:List KY}{i:Nat}(h1:∀y∈l.take i,ltK y k=true)(h2:∀y∈l.drop i,ltK k y=true):QK0 k l=QAw l i k:=by
 have:=QX7 (k:=k) (a:=l.take i) (x:=[]) (z:=l.drop i) h1 h2;rw[List.nil_append,List.take_append_drop]at this;rw[this];rfl
theorem QY8{k:KY}{l:List KY}(h:QTL l):QTL (QK0 k l):=by
 unfold QK0;split
 ·exact h
 ·rename_i hk
  refine List.pairwise_append.2 ⟨h.filter _,List.pairwise_cons.2 ⟨fun y hy=>(List.mem_filter.1 hy).2,h.filter _⟩,fun a ha b hb=>?_⟩;have h1:=(List.mem_filter.1 ha).2;rcases List.mem_cons.1 hb with rfl|hb
  ·exact h1
  ·exact QIZ h1 (List.mem_filter.1 hb).2
theorem QMW{k:KY}:∀(l:List KY),k∉l→(l.filter (ltK · k)).length+(l.filter (ltK k ·)).length=l.length
 | [],_=>rfl
 | y::r,hk=>by
  have hr:k∉r:=fun h=>hk (List.mem_cons_of_mem _ h);have ih:=QMW r hr;have hy:y≠k:=fun e=>hk (by rw[e];exact List.mem_cons_self ..);rcases QTX y k with h1|e|h1
  ·rw[List.filter_cons_of_pos (p:=fun x=>ltK x k) h1,List.filter_cons_of_neg (p:=fun x=>ltK k x) (by rw[QIX h1];decide),List.length_cons,List.length_cons];omega
  ·exact absurd e hy
  ·rw[List.filter_cons_of_neg (p:=fun x=>ltK x k) (by rw[QIX h1];decide),List.filter_cons_of_pos (p:=fun x=>ltK k x) h1,List.length_cons,List.length_cons];omega
theorem QYj{k:KY}{l:List KY}(h:k∉l):(QK0 k l).length=l.length+1:=by
 unfold QK0;rw[if_neg h,List.length_append,List.length_cons];have:=QMW l h;omega
def Qg5(a b:KY)(l:List KY):List KY:=l.filter fun x=>!(ltK x a)&&ltK x b
def plK(ks:List KY)(k:KY):Nat:=(ks.takeWhile (ltK · k)).length
theorem QMR(ks:List KY)(k:KY):plK ks k≤ks.length:=(List.takeWhile_sublist _).length_le
theorem QVJ{ks:List KY}{k:KY}:∀j y,j<plK ks k→ks[j]? = some y→ltK y k=true:=by
 intro j y hj hy;have hp:ks.takeWhile (ltK · k) <+: ks:=List.takeWhile_prefix _
 have e:(ks.takeWhile (ltK · k))[j]? = some y:=by
  obtain⟨t,ht⟩:=hp;rw[←ht,List.getElem?_append_left hj]at hy;exact hy
 exact List.all_eq_true.1 (List.all_takeWhile (p:=fun x=>ltK x k) (l:=ks)) y (List.mem_of_getElem? e)
theorem QRb{ks:List KY}{k y:KY}(h:ks[plK ks k]? = some y):ltK y k=false:=by
 unfold plK at h
 induction ks with
 | nil=>simp at h
 | cons x r ih=>
  cases hx:ltK x k with
  | true=>
   rw[List.takeWhile_cons_of_pos (p:=fun x=>ltK x k) hx]at h;simp only[List.length_cons,List.getElem?_cons_succ]at h;exact ih h
  | false=>
   rw[List.takeWhile_cons_of_neg (p:=fun x=>ltK x k) (by rw[hx];decide)]at h
   obtain rfl:x=y:=by simpa using h
   exact hx
theorem Qbj{ks:List KY}{ls:List (List KY)}{k:KY}(hl:ls.length=ks.length+1)(hs:QTL (mix ks ls)):∀y∈QMy ks ls (plK ks k),ltK y k=true:=by
 cases hp:plK ks k with
 | zero=>rw[QXs];simp
 | succ i=>
  have hi:i<ks.length:=by have:=QMR ks k;omega
  have hk:ks[i]? = some ks[i]:=List.getElem?_eq_getElem hi;obtain⟨a,ha⟩:=QRv i hl hk;have hx:ls[i+1]? = some ls[i+1]:=List.getElem?_eq_getElem (by omega);rw[QN7 (i+1) hl hx,ha]at hs;rw[ha];exact QWl (List.pairwise_append.1 hs).1 (QVJ i _ (by omega) hk)
theorem QXu{ks:List KY}{ls:List (List KY)}{k:KY}(hl:ls.length=ks.length+1)(hs:QTL (mix ks ls))(hn:ks[plK ks k]?≠some k):∀y∈QLO ks ls (plK ks k),ltK k y=true:=by
 by_cases hp:plK ks k<ks.length
 ·have hk:ks[plK ks k]? = some ks[plK ks k]:=List.getElem?_eq_getElem hp;obtain⟨z,hz⟩:=QMd (plK ks k) hl hk;have hx:ls[plK ks k]? = some ls[plK ks k]:=List.getElem?_eq_getElem (by omega);rw[QN7 (plK ks k) hl hx,hz]at hs;rw[hz];refine QN6 (List.pairwise_append.1 (List.pairwise_append.1 hs).2.1).2.1 ?_;rcases QTX k ks[plK ks k]with h|h|h
  ·exact h
  ·rw[hk,←h]at hn;exact absurd rfl hn
  ·rw[QRb hk]at h;cases h
 ·rw[QUK _ (by omega)];simp
theorem QdV{ks:List KY}{ls:List (List KY)}{i:Nat}{k:KY}(hl:ls.length=ks.length+1)(hk:ks[i]? = some k):k∈mix ks ls:=by
 have hi:=(List.getElem?_eq_some_iff.1 hk).1;have hx:ls[i]? = some ls[i]:=List.getElem?_eq_getElem (by omega);obtain⟨z,hz⟩:=QMd i hl hk;rw[QN7 i hl hx,hz];simp
theorem QT8{ks:List KY}{k:KY}(hs:QTL ks)(hn:ks[plK ks k]?≠some k):QAw ks (plK ks k) k=QK0 k ks:=by
 refine (Qdz (fun y hy=>?_) fun y hy=>?_).symm
 ·obtain⟨j,hj⟩:=List.getElem?_of_mem hy;rw[List.getElem?_take]at hj;split at hj
  ·rename_i h;exact QVJ j y h hj
  ·cases hj
 ·by_cases hp:plK ks k<ks.length
  ·have hk:ks[plK ks k]? = some ks[plK ks k]:=List.getElem?_eq_getElem hp;rw[List.drop_eq_getElem_cons hp]at hy
   have hs':QTL (ks[plK ks k]::ks.drop (plK ks k+1)):=by
    rw[←List.drop_eq_getElem_cons hp];exact hs.sublist (List.drop_sublist _ _)
   refine QN6 hs' ?_ y hy;rcases QTX k ks[plK ks k]with h|h|h
   ·exact h
   ·rw[hk,←h]at hn;exact absurd rfl hn
   ·rw[QRb hk]at h;cases h
  ·rw[List.drop_of_length_le (by omega)]at hy;simp at hy
end Go.Cx
namespace Go.Cf
open Go
set_option linter.unusedVariables false
section
variable {P:Program}{t u ty e:TypeId}{sz by_:Nat}{w:World}
theorem QR3(hok:QH4 P t e sz by_=true)(hu:P.underlying u=some .string){str:ByteArray}{sc:Nat}{cs:List Value}(hf:(Builtin.firstCells sz str.size (.string str)).run P w=.ok cs.toArray w){sn:Nat}(hroom:sn+str.size≤sc) :
  (Builtin.append_ #[t,u] ty #[.slice none sn sc,.string str]).run P w=.ok (.slice none (sn+str.size) sc) w:=by
 obtain⟨i,z,ht,hi,hsize,hbytes,hpos,hz,hzs⟩:=QBq hok;subst hsize;simp[Builtin.append_,run_underlying ht,run_underlying hu,sizeOf,typeInfo,hi,Builtin.lenOf,hroom,hf]
theorem QQw(hok:QH4 P t e sz by_=true)(hu:P.underlying u=some .string){str:ByteArray}{a:Addr}{sn sc:Nat}{cs:List Value}(hf:(Builtin.firstCells sz str.size (.string str)).run P w=.ok cs.toArray w)(hroom:sn+str.size≤sc){w':World}
  (hs:(storeCells (a.add (sn*sz)) cs).run P w=.ok () w'):(Builtin.append_ #[t,u] ty #[.slice (some a) sn sc,(.string str)]).run P w=.ok (.slice (some a) (sn+str.size) sc) w':=by
 obtain⟨i,z,ht,hi,hsize,hbytes,hpos,hz,hzs⟩:=QBq hok;subst hsize;simp[Builtin.append_,run_underlying ht,run_underlying hu,sizeOf,typeInfo,hi,Builtin.lenOf,hroom,hf,hs]
theorem QP2(hok:QH4 P t e sz by_=true)(hu:P.underlying u=some .string){str:ByteArray}{p:Option Addr}{sn sc:Nat}{os cs:List Value}(hfs:∀w2:World,mem w2=mem w→(Builtin.firstCells sz sn (.slice p sn sc)).run P w2=.ok os.toArray w2)
  (hf:∀w2:World,mem w2=mem w→(Builtin.firstCells sz str.size (.string str)).run P w2=.ok cs.toArray w2) (hroom:¬sn+str.size≤sc) (hb:(sn+str.size)*by_≤140737488355328) {zl:List Value}(hzl:QEw P e=some zl) :
  ∃(k:Nat),sn+str.size≤k∧k≤9223372036854775807∧(Builtin.append_ #[t,u] ty #[.slice p sn sc,(.string str)]).run P w=.ok (.slice (some ⟨w.heap.size,0,none⟩) (sn+str.size) k) (w.drew.alloc (.cells (os++cs++QIQ zl (k - (sn+str.size))).toArray e)):=by
 obtain⟨i,z,ht,hi,hsize,hbytes,hpos,hz,hzs⟩:=QBq hok;subst hsize;subst hbytes;have h48:=growslice_fits (by omega:sc<sn+str.size) hb
 have h63:¬(9223372036854775807<((sn:Int)+(str.size:Int))):=by
  have:sn+str.size≤(sn+str.size)*i.bytes:=Nat.le_mul_of_pos_right _ hpos;omega
 have h48':¬(281474976710656<Builtin.nextslicecap (sn+str.size) sc*i.bytes):=by omega
 have hf1:=hf w.drew rfl;have hf2:=hfs w.drew rfl;obtain⟨i',z',hi',hz',rfl⟩:=QCM hzl
 obtain rfl:i'=i:=by rw[hi]at hi';exact (Option.some.inj hi').symm
 obtain rfl:z'=z:=by rw[hz]at hz';exact (Option.some.inj hz').symm
 have hzc:∀m,Builtin.zeroCells z'.cells m=(QIQ z'.cells.toList m).toArray:=fun m=>by rw[←QEH];rfl
 refine⟨grownCap w (sn+str.size) sc e,QXZ w _ _ _,QYQ w _ _ _ (by omega),?_⟩;simp[Builtin.append_,run_underlying ht,run_underlying hu,sizeOf,typeInfo,zeroValue,hi,hz,Builtin.lenOf,hroom,h63,h48',Question.forced,hf1,hf2,newRow,grownCap,hzc]
end
variable {B:QBE}{As:List HP}
theorem QQh{P:Program}{t u ty e:TypeId}{by_:Nat}(hok:QH4 P t e 1 by_=true)(hu:P.underlying u=some .string)(hz:QEw P e=some (U8.f U8.zero)){s:Sl}{str:ByteArray}{xs ys:List UInt8}(hst:ys=str.data.toList){F:List HP}{w:World}(hw:Sx B (Ar U8 s xs::F) w)
  (hb:(xs.length+ys.length)*by_≤140737488355328) :
  ∃s' w',(Builtin.append_ #[t,u] ty #[s.v,.string str]).run P w=.ok (Sl.v s') w'∧Sx B (Ar U8 s' (xs++ys)::F) w':=by
 obtain⟨p,sn,sc⟩:=s
 have hyn:ys.length=str.size:=by rw[hst];simp
 have hfy:∀w2:World,mem w2=mem w→(Builtin.firstCells U8.sz str.size (.string str)).run P w2=.ok (QAf U8 ys).toArray w2:=fun w2 _=>by
  have e:(str.extract 0 str.size).data.map (fun b=>Value.int .u8 (b.toNat:Int))=(QAf U8 ys).toArray:=by
   have e0:QAf U8 ys=ys.map fun b=>Value.int .u8 (b.toNat:Int):=(List.map_eq_flatMap ..).symm;rw[ByteArray.extract_zero_size,e0,hst];rw[←Array.toList_inj];simp
  show (pure _:Sem (Array Value)).run P w2=_;rw[e];rfl
 have hw0:=hw;obtain⟨g,⟨h1,h2,⟨zs,p1⟩,p2,dd,s1,s2⟩,hsub,hupd⟩:=hw;have hxr:RAr U8 ⟨p,sn,sc⟩ xs (mem w):=p1.read.mono (s1.trans hsub);have hfx:=fun(w2:World) (h:mem w2=mem w)=>RArr.first (P:=P) (w:=w2) (by rw[h];exact hxr.2)
 have hxn:xs.length=sn:=p1.1;have hxc:xs.length+zs.length=sc:=p1.2.1;by_cases hroom:sn+str.size≤sc
 ·cases p with
  | none=>
   have h0:sc=0:=by
    rcases p1.2.2 with⟨_,h⟩|⟨b,o,_,_,_,_,h,_⟩
    ·exact h
    ·cases h
   have hys:ys=[]:=List.eq_nil_of_length_eq_zero (by omega)
   have hn0:str.size=0:=by omega
   subst hys;refine⟨⟨none,sn+str.size,sc⟩,w,QR3 hok hu (hfy w rfl) hroom,?_⟩;rw[List.append_nil,hn0];exact hw0
  | some a=>
   rcases p1.2.2 with⟨h,_⟩|⟨b,o,pre,post,e1,fr,hp,hbk,ho,hfr,hM⟩
   ·cases h
   ·simp only[Option.some.injEq]at hp;subst hp;have hwb:w.heap[b]? = some (.cells (pre++QAf U8 (xs++zs)++post).toArray e1 fr):=hsub _ _ (s1 _ _ hbk);have hfl:=QAG U8 xs;have hfly:=QAG U8 ys
    have hzl:ys.length≤zs.length:=by omega
    have hzsplit:QAf U8 (xs++zs)=QAf U8 xs++QAf U8 (zs.take ys.length)++QAf U8 (zs.drop ys.length):=by
     rw[←QAP,←QAP,List.append_assoc,List.take_append_drop]
    obtain⟨w',r1,r2,r3,r4,r5,r6,r7⟩:=QCa (P:=P) b e1 fr (QAf U8 ys) (o+sn*U8.sz) 0 (pre++QAf U8 (xs++zs)++post) w hwb (by
     have:(xs.length+ys.length)*U8.sz≤(xs.length+zs.length)*U8.sz:=Nat.mul_le_mul_right _ (by omega);rw[Nat.add_mul]at this
     simp only[List.length_append,QAG,hfly,ho,←hxn];omega) hfr (QIW U8 ys)
    have hseg:QER (QAf U8 ys) (o+sn*U8.sz+0) (pre++QAf U8 (xs++zs)++post)=pre++QAf U8 (xs++ys++zs.drop ys.length)++post:=by
     have:=QFc (QAf U8 ys) (pre++QAf U8 xs) (QAf U8 (zs.take ys.length)) (QAf U8 (zs.drop ys.length)++post) (by rw[QAG,QAG,List.length_take,Nat.min_eq_left hzl]);rw[List.length_append,ho,hfl,hxn]at this;rw[Nat.add_zero,hzsplit,QAP,QAP];simp only[List.append_assoc]at this⊢;exact this
    rw[hseg]at r2;refine⟨⟨some ⟨b,o,none⟩,sn+str.size,sc⟩,w',QQw hok hu (hfy w rfl) hroom (by rw[QCR];exact r1),?_⟩;have hst:Sx B (Blk b (pre++QAf U8 (xs++zs)++post)::F) w:=⟨g,⟨h1,h2,⟨e1,fr,hbk,hfr⟩,p2,dd,s1,s2⟩,hsub,hupd⟩
    have:=hst.write (cs':=pre++QAf U8 (xs++ys++zs.drop ys.length)++post) hwb r3 r2 (by
     simp only[List.length_append,List.length_drop,QAG]
     have:xs.length+ys.length+(zs.length - ys.length)=xs.length+zs.length:=by omega
     rw[this]) r4 r5 r6 r7
    obtain⟨g',hg',hm',hu'⟩:=this;exact⟨g',QA2 (fun q hq=>⟨zs.drop ys.length,Ars.of_blk hq rfl ho (by simp;omega) (by simp;omega) hM⟩) hg',hm',hu'⟩
 ·obtain⟨k,hk,hkM,hrun⟩:=QP2 (ty:=ty) hok hu hfx hfy hroom (by rw[←hxn,←hyn];exact hb) hz;refine⟨⟨some ⟨w.heap.size,0,none⟩,sn+str.size,k⟩,_,hrun,?_⟩;have hd:Sx B (Ar U8 ⟨p,sn,sc⟩ xs::F) w.drew:=hw0.drew;have ha:=(hd.tail).alloc (QAf U8 xs++QAf U8 ys++QIQ (U8.f U8.zero) (k - (sn+str.size))) e;obtain⟨g',hg',hm',hu'⟩:=ha;refine⟨g',QA2 (fun q hq=>⟨List.replicate (k - (sn+str.size)) U8.zero,?_⟩) hg',hm',hu'⟩;rw[QEf,←QAP,←QAP]at hq;exact Ars.of_blk (pre:=[]) (post:=[]) (by simpa using hq) rfl rfl (by simp;omega) (by simp;omega) hkM
theorem Qfg{P:Program}{t u ty e:TypeId}{by_:Nat}{z:List Value}[a:QIH P t e 1 by_ z](hu:P.underlying u=some .string){s:Sl}{xs:List UInt8}{str:ByteArray}{upd:Sl→List UInt8→List HP}{rest:List HP}{K:Sl→WP}[o:OwnA s As U8 xs upd rest]
  (hz:U8.f U8.zero=z:=by rfl) (hb:(xs.length+str.size)*by_≤140737488355328) (h:∀s',Ent B (upd s' (xs++str.data.toList)) (K s')):Ent B As (QSR P t u ty s.v (.string str) K):=by
 intro w hw;obtain⟨s',w',hr,hx⟩:=QQh (ty:=ty) a.ok hu (by rw[hz];exact a.zero) rfl (hw.perm o.start) (by simpa using hb);exact⟨s',w',hr,h s' w' (hx.perm (o.perm _ _).symm)⟩
end Go.Cf
namespace Go.Cf
open Go
set_option linter.unusedVariables false
variable {B:QBE}{As:List HP}{α:Type}
end Go.Cf
namespace Go.Cf
open Go
class App(L G:List HP)(R:outParam (List HP)):Prop where
 eq:L++G=R
instance App.nil(G:List HP):App [] G G:=⟨rfl⟩
instance App.cons(P:HP)(L G R:List HP)[a:App L G R]:App (P::L) G (P::R):=⟨by rw[List.cons_append,a.eq]⟩
section
variable {B:QBE}{As pre G L R:List HP}{P:Program}{f:FuncId}{args:List Value}{rs:Rs}{s t u:Sh}{rd:HP}
theorem xd0{K:WP}[q:Split pre As G](sp:Ct P f args rs [] pre rd (fun _ Bs=>Bs=L))[r:Rdb B G rd][a:App L G R](h:Ent B R K):Ent B As (QAb P f args rs [] K):=
 xcl sp rdb fun x Bs hp=>by subst hp;rw[a.eq];exact h
theorem xd1{K:s.ty→WP}{v:s.ty}[q:Split pre As G](sp:Ct P f args rs [s] pre rd (fun t Bs=>t.1=v∧Bs=L))[r:Rdb B G rd][a:App L G R](h:Ent B R (K v)):Ent B As (QAb P f args rs [s] K):=
 xcl sp rdb fun x Bs hp=>by
  obtain⟨y,z⟩:=x;obtain⟨h1,rfl⟩:=hp;simp only at h1;subst h1;rw[a.eq];exact h
theorem xd2{K:s.ty→t.ty→WP}{v:s.ty}{w:t.ty}[q:Split pre As G](sp:Ct P f args rs [s,t] pre rd (fun x Bs=>x.1=v∧x.2.1=w∧Bs=L))[r:Rdb B G rd][a:App L G R](h:Ent B R (K v w)):Ent B As (QAb P f args rs [s,t] K):=
 xcl sp rdb fun x Bs hp=>by
  obtain⟨y,z,z'⟩:=x;obtain⟨h1,h2,rfl⟩:=hp;simp only at h1 h2;subst h1 h2;rw[a.eq];exact h
theorem xn1{K:s.ty→WP}{L:s.ty→List HP}{post:Tup [s]→List HP→Prop}[q:Split pre As G](sp:Ct P f args rs [s] pre rd post)(hp:∀x Bs,post (x,()) Bs→Bs=L x)[r:Rdb B G rd]{R:s.ty→List HP}[a:∀x,App (L x) G (R x)](h:∀x,Ent B (R x) (K x)):Ent B As (QAb P f args rs [s] K):=
 xcl sp rdb fun x Bs hq=>by
  obtain⟨y,z⟩:=x;obtain rfl:=hp y Bs hq;rw[(a y).eq];exact h y
theorem xn2{K:s.ty→t.ty→WP}{w:t.ty}{L:s.ty→List HP}{post:Tup [s,t]→List HP→Prop}[q:Split pre As G](sp:Ct P f args rs [s,t] pre rd post)(hp:∀x y Bs,post (x,y,()) Bs→y=w∧Bs=L x)[r:Rdb B G rd]{R:s.ty→List HP}[a:∀x,App (L x) G (R x)](h:∀x,Ent B (R x) (K x w)):Ent B As (QAb P f args rs [s,t] K):=
 xcl sp rdb fun x Bs hq=>by
  obtain⟨y,z,z'⟩:=x;obtain⟨rfl,rfl⟩:=hp y z Bs hq;rw[(a y).eq];exact h y
end
end Go.Cf
