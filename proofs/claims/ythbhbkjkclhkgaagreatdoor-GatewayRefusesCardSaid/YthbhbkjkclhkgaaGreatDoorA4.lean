/-
Bytes and numbers as words.
-/
import Derived.Test.YthbhbkjkclhkgaaGreatDoorA3
import Derived.Laws.Strings
import Derived.Lib.Atoi
import Derived.Lib.ItoaNum
import Derived.Laws.BitsAllLaws
namespace Go.Cx
open Go Go.Cf
set_option linter.unusedVariables false
set_option maxRecDepth 100000
def BA(l:List UInt8):ByteArray:=⟨l.toArray⟩
theorem QfJ(a b:List UInt8):BA a++BA b=BA (a++b):=by
 apply ByteArray.ext;simp[BA]
theorem QTi(a:List UInt8):(BA a).size=a.length:=by simp[BA,ByteArray.size]
theorem QOo(l:List UInt8):(BA l).data.toList=l:=by simp[BA]
theorem QEF(l:List UInt8):(BA l).toList=l:=by rw[ByteArray.toList_eq,QOo]
theorem QJc:ByteArray.empty.toList=[]:=by decide +kernel
theorem QR8{u:Nat}(h:u<10):Lib.decDigits u=[UInt8.ofNat (48+u)]:=by rw[Lib.decDigits,dif_pos h]
theorem QYm{u:Nat}(h:¬u<10):Lib.decDigits u=Lib.decDigits (u / 10)++[UInt8.ofNat (48+u % 10)]:=by rw[Lib.decDigits,dif_neg h]
theorem QOt:∀(k u:Nat),u<10 ^ (k+1)→(Lib.decDigits u).length≤k+1
 | k,u,h=>by
  by_cases hu:u<10
  ·rw[QR8 hu];simp
  ·cases k with
   | zero=>simp at h;omega
   | succ k=>
    rw[QYm hu,List.length_append,List.length_singleton];have:=QOt k (u / 10) (by rw[Nat.pow_succ]at h;omega);omega
theorem QaW{n:Int}(h0 : -9223372036854775808≤n)(h1:n≤9223372036854775807):(Lib.itoa n).length≤21:=by
 unfold Lib.itoa;split
 ·have:=QOt 19 n.natAbs (by simp;omega);simp;omega
 ·have:=QOt 19 n.toNat (by simp;omega);omega
def QPO(b:UInt8):Bool:=decide (48≤b.toNat)&&decide (b.toNat≤57)
def QfV(l:List UInt8):Nat:=l.foldl (fun a b=>a*10+(b.toNat - 48)) 0
theorem QYC(l:List UInt8)(b:UInt8):QfV (l++[b])=QfV l*10+(b.toNat - 48):=by
 unfold QfV;rw[List.foldl_append];rfl
theorem QGk:∀(n u:Nat),u≤n→Lib.decDigits u≠[]∧(Lib.decDigits u).all QPO=true∧QfV (Lib.decDigits u)=u∧((Lib.decDigits u).length>1→(Lib.decDigits u)[0]?≠some 48)∧(1≤u→(Lib.decDigits u)[0]?≠some 48)
 | n,u,hu=>by
  have hdig:∀k,k<10→QPO (UInt8.ofNat (48+k))=true∧(UInt8.ofNat (48+k)).toNat=48+k:=by
   intro k hk
   have:(UInt8.ofNat (48+k)).toNat=48+k:=by rw[UInt8.toNat_ofNat'];omega
   exact⟨by simp only[QPO,this,Bool.and_eq_true,decide_eq_true_eq];omega,this⟩
  by_cases h:u<10
  ·rw[QR8 h];obtain⟨h1,h2⟩:=hdig u h;refine⟨by simp,by simp only[List.all_cons,List.all_nil,Bool.and_true];exact h1,by simp only[QfV,List.foldl_cons,List.foldl_nil,h2];omega,by simp,fun h0 e=>?_⟩;have e:=Option.some.inj e;have:=congrArg UInt8.toNat e;rw[h2]at this;simp at this;omega
  ·match n with
   | 0=>omega
   | n+1=>
    obtain⟨i1,i2,i3,i4,i5⟩:=QGk n (u / 10) (by omega);obtain⟨h1,h2⟩:=hdig (u % 10) (by omega);rw[QYm h];refine⟨by simp,by rw[List.all_append,i2];simp only[List.all_cons,List.all_nil,Bool.and_true,Bool.true_and];exact h1,by rw[QYC,i3,h2];omega,fun _=>?_,fun _=>?_⟩
    all_goals
     have hlen:0<(Lib.decDigits (u / 10)).length:=List.length_pos_iff.2 i1;rw[List.getElem?_append_left hlen];exact i5 (by omega)
abbrev Key:=List UInt8
abbrev lt(a b:Key):Bool:=Op.bytesLess a b
theorem QcD(a b:UInt8)(h1:¬a<b)(h2:¬b<a):a=b:=by
 have h1':¬a.toNat<b.toNat:=fun h=>h1 (UInt8.lt_iff_toNat_lt.2 h);have h2':¬b.toNat<a.toNat:=fun h=>h2 (UInt8.lt_iff_toNat_lt.2 h);exact UInt8.toNat_inj.1 (by omega)
theorem lt_irrefl:∀a:Key,lt a a=false:=by
 intro a
 induction a with
 | nil=>rfl
 | cons x a ih=>
  have:¬x<x:=fun h=>by have:=UInt8.lt_iff_toNat_lt.1 h;omega
  simp[lt,Op.bytesLess,this,ih]
theorem lt_trans:∀{a b c:Key},lt a b=true→lt b c=true→lt a c=true:=by
 intro a
 induction a with
 | nil=>
  intro b c h1 h2
  cases c with
  | nil=>cases b<;>simp[lt,Op.bytesLess]at h2
  | cons=>rfl
 | cons x a ih=>
  intro b c h1 h2
  cases b with
  | nil=>simp[lt,Op.bytesLess]at h1
  | cons y b=>
   cases c with
   | nil=>simp[lt,Op.bytesLess]at h2
   | cons z c=>
    simp only[lt,Op.bytesLess,Bool.or_eq_true,decide_eq_true_eq,Bool.and_eq_true,beq_iff_eq]at h1 h2⊢;rcases h1 with h1|⟨rfl,h1⟩
    ·rcases h2 with h2|⟨rfl,h2⟩
     ·exact .inl (UInt8.lt_iff_toNat_lt.2 (Nat.lt_trans (UInt8.lt_iff_toNat_lt.1 h1) (UInt8.lt_iff_toNat_lt.1 h2)))
     ·exact .inl h1
    ·rcases h2 with h2|⟨rfl,h2⟩
     ·exact .inl h2
     ·exact .inr ⟨rfl,ih h1 h2⟩
theorem Qb6:∀{a b:Key},lt a b=false→lt b a=false→a=b:=by
 intro a
 induction a with
 | nil=>intro b h1 _;cases b with
  | nil=>rfl
  | cons=>simp[lt,Op.bytesLess]at h1
 | cons x a ih=>
  intro b h1 h2
  cases b with
  | nil=>simp[lt,Op.bytesLess]at h2
  | cons y b=>
   simp only[lt,Op.bytesLess,Bool.or_eq_false_iff,decide_eq_false_iff_not,Bool.and_eq_false_iff,beq_eq_false_iff_ne]at h1 h2;have e:=QcD x y h1.1 h2.1;subst e;rcases h1.2 with h|h
   ·exact absurd rfl h
   ·rcases h2.2 with h'|h'
    ·exact absurd rfl h'
    ·rw[ih h h']
structure DF where
 nm:ByteArray
 b:List UInt8
 sy:Int
abbrev DF.key(f:DF):Key:=f.nm.toList
structure DM where
 armed:Bool
 down:Bool
 left:Int
 room:Int
 fs:List DF
def QBo(fs:List DF):Nat:=(fs.map fun f=>f.b.length).sum
def QDX(s:ByteArray):Bool:=decide ((s.size:Int)≥1)&&decide ((s.size:Int)≤16)
def Sorted(fs:List DF):Prop:=fs.Pairwise fun f g=>lt f.key g.key=true
def QAT(fs:List DF)(k:Key):Nat:=(fs.takeWhile fun f=>lt f.key k).length
def QAi(fs:List DF)(k:Key):Bool:=match fs[QAT fs k]? with
 | some f=>f.key == k
 | none=>false
theorem QFf(fs:List DF)(k:Key):QAT fs k≤fs.length:=(List.takeWhile_sublist _).length_le
theorem QUZ{fs:List DF}{k:Key}{i:Nat}(hi:i≤fs.length)(h1:∀t f,t<i→fs[t]? = some f→lt f.key k=true)(h2:∀f,fs[i]? = some f→lt f.key k=false):QAT fs k=i:=by
 induction fs generalizing i with
 | nil=>simp at hi;subst hi;rfl
 | cons f fs ih=>
  cases i with
  | zero=>
   have:=h2 f rfl;simp[QAT,this]
  | succ i=>
   have h:=h1 0 f (by omega) rfl;have:=ih (i:=i) (by simpa using hi) (fun t g ht hg=>h1 (t+1) g (by omega) (by simpa using hg)) (fun g hg=>h2 g (by simpa using hg));simp only[QAT,List.takeWhile_cons,h,if_true,List.length_cons]at this⊢;omega
theorem Qad{fs:List DF}{k:Key}:∀{t:Nat}{f:DF},t<QAT fs k→fs[t]? = some f→lt f.key k=true:=by
 induction fs with
 | nil=>intro t f _ h;simp at h
 | cons g fs ih=>
  intro t f ht hf
  cases hg:lt g.key k with
  | false=>simp[QAT,hg]at ht
  | true=>
   cases t with
   | zero=>simp at hf;subst hf;exact hg
   | succ t=>
    refine ih (t:=t) ?_ (by simpa using hf);simp only[QAT,List.takeWhile_cons,hg,if_true,List.length_cons]at ht;simp only[QAT];omega
theorem Qay{fs:List DF}{k:Key}{f:DF}(h:fs[QAT fs k]? = some f):lt f.key k=false:=by
 induction fs with
 | nil=>simp at h
 | cons g fs ih=>
  cases hg:lt g.key k with
  | false=>simp[QAT,hg]at h;subst h;exact hg
  | true=>
   refine ih ?_;simpa [QAT,hg]using h
theorem Sorted.get{fs:List DF}(hs:Sorted fs){i j:Nat}{f g:DF}(hij:i<j)(hf:fs[i]? = some f)(hg:fs[j]? = some g):lt f.key g.key=true:=by
 obtain⟨h1,rfl⟩:=List.getElem?_eq_some_iff.1 hf;obtain⟨h2,rfl⟩:=List.getElem?_eq_some_iff.1 hg;exact List.pairwise_iff_getElem.1 hs i j h1 h2 hij
theorem Qaw{fs:List DF}(hs:Sorted fs){k:Key}{t:Nat}{f:DF}(ht:QAT fs k≤t)(hf:fs[t]? = some f):lt f.key k=false:=by
 have hlt:t<fs.length:=(List.getElem?_eq_some_iff.1 hf).1;have hg:=List.getElem?_eq_getElem (l:=fs) (i:=QAT fs k) (by omega);have h0:=Qay hg;rcases Nat.lt_or_ge (QAT fs k) t with h|h
 ·have h1:=hs.get h hg hf
  cases hk:lt f.key k with
  | false=>rfl
  | true=>have:=lt_trans h1 hk;rw[h0]at this;cases this
 ·obtain rfl:t=QAT fs k:=by omega
  rw[hg]at hf;cases hf;exact h0
theorem QEc{fs:List DF}(hs:Sorted fs){k:Key}{t:Nat}{f:DF}(hf:fs[t]? = some f)(hk:f.key=k):QAT fs k=t∧QAi fs k=true:=by
 have e:QAT fs k=t:=by
  refine QUZ (Nat.le_of_lt (List.getElem?_eq_some_iff.1 hf).1) (fun s g hs' hg=>?_) (fun g hg=>?_)
  ·rw[←hk];exact hs.get hs' hg hf
  ·rw[hf]at hg;cases hg;rw[←hk];exact lt_irrefl _
 refine⟨e,?_⟩;unfold QAi;rw[e,hf];simp[hk]
theorem QL3{fs:List DF}{k:Key}(h:QAi fs k=true):∃f,fs[QAT fs k]? = some f∧f.key=k:=by
 unfold QAi at h;split at h
 ·rename_i f hf;exact⟨f,hf,by simpa using h⟩
 ·cases h
theorem QXm{fs:List DF}(hs:Sorted fs){k:Key}(h:QAi fs k=false):∀f∈fs,f.key≠k:=by
 intro f hf hk;obtain⟨t,ht,rfl⟩:=List.getElem_of_mem hf;have:=(QEc hs (List.getElem?_eq_getElem ht) hk).2;rw[h]at this;cases this
def QLf(fs:List DF)(i:Nat)(f:DF):List DF:=fs.take i++f::fs.drop i
def QAp(m:DM):DM×Bool:=if m.armed&&m.left == 0 then ({ m with down:=true },false) else if m.armed then ({ m with left:=m.left - 1 },true) else (m,true)
def QAK(m:DM)(nm:ByteArray)(b:List UInt8):DM×Int:=
 if !(QDX nm) then (m,8)
 else if m.down then (m,10)
 else if (!(QAi m.fs nm.toList)&&decide ((m.fs.length:Int)≥64))||decide ((b.length:Int)>m.room - QBo m.fs) then (m,9)
 else if !(QAp m).2 then ((QAp m).1,10)
 else
  let i:=QAT m.fs nm.toList
  let fs:=if QAi m.fs nm.toList then m.fs else QLf m.fs i ⟨nm,[],0⟩
  let f:=fs.getD i ⟨nm,[],0⟩
  ({ (QAp m).1 with fs:=fs.set i { f with b:=f.b++b } },0)
def QBX(m:DM)(nm:ByteArray)(g:Nat→DF→DM→DM×Int):DM×Int:=
 if m.down then (m,10)
 else if !(QAi m.fs nm.toList) then (m,6)
 else g (QAT m.fs nm.toList) (m.fs.getD (QAT m.fs nm.toList) ⟨nm,[],0⟩) m
def QD3(m:DM)(g:DM→DM):DM×Int:=if !(QAp m).2 then ((QAp m).1,10) else (g (QAp m).1,0)
def QBE(m:DM)(nm:ByteArray):DM×Int:=QBX m nm fun i f m=>QD3 m fun m=>{ m with fs:=m.fs.set i { f with sy:=f.b.length } }
def QBP(m:DM)(nm:ByteArray)(n:Int):DM×Int:=QBX m nm fun i f m=>if n<0∨n>f.b.length then (m,3) else QD3 m fun m=>{ m with fs:=m.fs.set i { f with b:=f.b.take n.toNat,sy:=if n<f.sy then n else f.sy } }
def QAV(m:DM)(nm:ByteArray):DM×Int:=QBX m nm fun i f m=>QD3 m fun m=>{ m with fs:=m.fs.eraseIdx i }
def QQp(fs:List DF)(i:Nat)(f:DF)(to:ByteArray):List DF:=
 let es:=fs.eraseIdx i
 let k:=QAT es to.toList
 if QAi es to.toList then es.set k { f with nm:=to } else QLf es k { f with nm:=to }
def QCH(m:DM)(nm to:ByteArray):DM×Int:=if !(QDX to) then (m,8) else QBX m nm fun i f m=>QD3 m fun m=>{ m with fs:=QQp m.fs i f to }
def QAX(m:DM)(nm:ByteArray):List UInt8×Int:=if !(QAi m.fs nm.toList) then ([],6) else ((m.fs.getD (QAT m.fs nm.toList) ⟨nm,[],0⟩).b,0)
def QcX(m:DM)(n:Int):DM:={ m with armed:=decide (n≥0),left:=n }
def QJQ(keep:Int)(f:DF):Int:=f.sy+(if (f.b.length:Int) - f.sy<(if 0>keep then 0 else keep) then (f.b.length:Int) - f.sy else (if 0>keep then 0 else keep))
def QKg(keep:Int)(f:DF):DF:={ f with b:=f.b.take (QJQ keep f).toNat,sy:=QJQ keep f }
def QNF(m:DM)(keep:Int):DM:={ armed:=false,down:=false,left:=0,room:=m.room,fs:=m.fs.map (QKg keep) }
structure DInv(m:DM):Prop where
 sorted:Sorted m.fs
 names:∀f∈m.fs,QDX f.nm=true
 syn:∀f∈m.fs,0≤f.sy∧f.sy≤f.b.length
 used:(QBo m.fs:Int)≤m.room
 room:0≤m.room∧m.room≤16777216
 len:m.fs.length≤64
 left:i64 m.left∧(m.armed=true→0≤m.left)
end Go.Cx
namespace Go.Cx
open Go Go.Cf
set_option linter.unusedVariables false
theorem QGz{fs:List DF}{i:Nat}{f g:DF}(h:fs[i]? = some f):QBo (fs.set i g)+f.b.length=QBo fs+g.b.length:=by
 induction fs generalizing i with
 | nil=>simp at h
 | cons x fs ih=>
  cases i with
  | zero=>simp at h;subst h;simp[QBo];omega
  | succ i=>
   have:=ih (i:=i) (by simpa using h);simp[QBo]at this⊢;omega
theorem QBg{fs:List DF}{i:Nat}{f:DF}(h:fs[i]? = some f):QBo (fs.eraseIdx i)+f.b.length=QBo fs:=by
 induction fs generalizing i with
 | nil=>simp at h
 | cons x fs ih=>
  cases i with
  | zero=>simp at h;subst h;simp[QBo];omega
  | succ i=>
   have:=ih (i:=i) (by simpa using h);simp[QBo]at this⊢;omega
theorem QQl(fs:List DF)(i:Nat)(g:DF):QBo (QLf fs i g)=QBo fs+g.b.length:=by
 have e:QBo fs=QBo (fs.take i)+QBo (fs.drop i):=by
  conv=>lhs;rw[←List.take_append_drop i fs]
  unfold QBo;rw[List.map_append,List.sum_append]
 rw[e];simp[QBo,QLf];omega
theorem QPT{fs:List DF}{i:Nat}{g x:DF}(h:x∈QLf fs i g):x=g∨x∈fs:=by
 rcases List.mem_append.1 h with h|h
 ·exact .inr (List.mem_of_mem_take h)
 ·rcases List.mem_cons.1 h with h|h
  ·exact .inl h
  ·exact .inr (List.mem_of_mem_drop h)
theorem QML(fs:List DF)(i:Nat)(g:DF)(h:i≤fs.length):(QLf fs i g).length=fs.length+1:=by
 simp[QLf];omega
theorem QOp(fs:List DF)(i:Nat)(g:DF)(h:i≤fs.length):(QLf fs i g)[i]? = some g:=by
 unfold QLf;rw[List.getElem?_append_right (by simp;omega)];simp[Nat.min_eq_left h]
theorem QLZ{fs gs:List DF}(h:gs.map DF.key=fs.map DF.key)(hs:Sorted fs):Sorted gs:=by
 unfold Sorted at hs⊢;rw[←List.pairwise_map (f:=DF.key) (R:=fun a b=>lt a b=true)]at hs⊢;rw[h];exact hs
theorem QEB{fs:List DF}{i:Nat}{f g:DF}(h:fs[i]? = some f)(hk:g.key=f.key)(hs:Sorted fs):Sorted (fs.set i g):=by
 refine QLZ ?_ hs;rw[List.map_set,hk];apply List.ext_getElem?;intro j;by_cases e:i=j
 ·subst e;rw[List.getElem?_set_self (by simpa using (List.getElem?_eq_some_iff.1 h).1),List.getElem?_map,h];rfl
 ·rw[List.getElem?_set_ne e]
theorem QCg{fs:List DF}{i:Nat}(hs:Sorted fs):Sorted (fs.eraseIdx i):=List.Pairwise.sublist (List.eraseIdx_sublist _ _) hs
theorem QHT{fs:List DF}{g:DF}(hs:Sorted fs)(hn:QAi fs g.key=false):Sorted (QLf fs (QAT fs g.key) g):=by
 have h0:=QXm hs hn;have e:fs=fs.take (QAT fs g.key)++fs.drop (QAT fs g.key):=(List.take_append_drop _ _).symm;have hs':=hs;unfold Sorted at hs';rw[e,List.pairwise_append]at hs'
 have hlo:∀x∈fs.take (QAT fs g.key),lt x.key g.key=true:=fun x hx=>by
  obtain⟨j,hj,rfl⟩:=List.getElem_of_mem hx
  have hj':j<QAT fs g.key∧j<fs.length:=by simp at hj;omega
  rw[List.getElem_take];exact Qad hj'.1 (List.getElem?_eq_getElem hj'.2)
 have hhi:∀x∈fs.drop (QAT fs g.key),lt g.key x.key=true:=fun x hx=>by
  have hx':=List.mem_of_mem_drop hx;obtain⟨j,hj,rfl⟩:=List.getElem_of_mem hx
  have hj':QAT fs g.key+j<fs.length:=by simp at hj;omega
  rw[List.getElem_drop]at hx' ⊢;have h1:=Qaw hs (Nat.le_add_right _ j) (List.getElem?_eq_getElem hj')
  cases h2:lt g.key fs[QAT fs g.key+j].key with
  | true=>rfl
  | false=>exact absurd (Qb6 h1 h2) (h0 _ hx')
 unfold Sorted QLf;rw[List.pairwise_append];refine⟨hs'.1,List.pairwise_cons.2 ⟨hhi,hs'.2.1⟩,fun x hx y hy=>?_⟩;rcases List.mem_cons.1 hy with rfl|hy
 ·exact hlo x hx
 ·exact hs'.2.2 x hx y hy
theorem QCU(m:DM):(QAp m).1.fs=m.fs∧(QAp m).1.room=m.room:=by
 unfold QAp;split
 ·exact⟨rfl,rfl⟩
 ·split<;>exact⟨rfl,rfl⟩
theorem DInv.spend{m:DM}(h:DInv m):DInv (QAp m).1:=by
 obtain⟨h1,h2,h3,h4,h5,h6,h7,h8⟩:=h;unfold QAp;split
 ·exact⟨h1,h2,h3,h4,h5,h6,h7,h8⟩
 ·rename_i hne
  split
  ·rename_i ha
   refine⟨h1,h2,h3,h4,h5,h6,?_,fun _=>?_⟩
   ·have:=h8 ha;unfold i64 at h7⊢;simp only;omega
   ·have:=h8 ha;have:¬m.left=0:=fun e=>hne (by simp[ha,e]);simp only;omega
  ·exact⟨h1,h2,h3,h4,h5,h6,h7,h8⟩
theorem DInv.files{m:DM}(h:DInv m){fs:List DF}(hs:Sorted fs)(hf:∀f∈fs,f∈m.fs∨(QDX f.nm=true∧0≤f.sy∧f.sy≤f.b.length))(hu:(QBo fs:Int)≤m.room)(hl:fs.length≤64):DInv { m with fs:=fs }:=
 ⟨hs,fun f hm=>(hf f hm).elim (fun x=>h.names f x) (fun x=>x.1),fun f hm=>(hf f hm).elim (fun x=>h.syn f x) (fun x=>x.2),hu,h.room,hl,h.left⟩
theorem QCK{fs:List DF}{k:Key}{d:DF}(h:QAi fs k=true):fs[QAT fs k]? = some (fs.getD (QAT fs k) d)∧(fs.getD (QAT fs k) d).key=k:=by
 obtain⟨f,hf,hk⟩:=QL3 h
 have:fs.getD (QAT fs k) d=f:=by simp[hf]
 rw[this];exact⟨hf,hk⟩
theorem QHG{m:DM}{nm:ByteArray}{g:Nat→DF→DM→DM×Int}(h:DInv m)(hg:∀i f,m.fs[i]? = some f→DInv (g i f m).1):DInv (QBX m nm g).1:=by
 unfold QBX;split
 ·exact h
 split
 ·exact h
 ·rename_i ht
  exact hg _ _ (QCK (by simpa using ht)).1
theorem QIx{m:DM}{g:DM→DM}(h:DInv m)(hg:∀m',DInv m'→m'.fs=m.fs→m'.room=m.room→DInv (g m')):DInv (QD3 m g).1:=by
 unfold QD3;split
 ·exact h.spend
 ·exact hg _ h.spend (QCU m).1 (QCU m).2
theorem QO5{m:DM}(h:DInv m)(nm:ByteArray):DInv (QBE m nm).1:=by
 refine QHG h fun i f hf=>QIx h fun m' h' e1 e2=>?_;rw[←e1]at hf;have hm:=List.mem_of_getElem? hf;refine h'.files (QEB hf rfl h'.sorted) (fun x hx=>?_) ?_ (by rw[List.length_set];exact h'.len)
 ·rcases List.mem_or_eq_of_mem_set hx with hx|rfl
  ·exact .inl hx
  ·exact .inr ⟨h'.names f hm,by simp,by simp⟩
 ·have:=QGz (g:={ f with sy:=f.b.length }) hf;have:=h'.used;simp only at *;omega
theorem QFL{m:DM}(h:DInv m)(nm:ByteArray)(n:Int):DInv (QBP m nm n).1:=by
 refine QHG h fun i f hf=>?_;split
 ·exact h
 rename_i hn
 refine QIx h fun m' h' e1 e2=>?_;rw[←e1]at hf;have hm:=List.mem_of_getElem? hf;have hsy:=h'.syn f hm;refine h'.files (QEB hf rfl h'.sorted) (fun x hx=>?_) ?_ (by rw[List.length_set];exact h'.len)
 ·rcases List.mem_or_eq_of_mem_set hx with hx|rfl
  ·exact .inl hx
  ·refine .inr ⟨h'.names f hm,?_,?_⟩<;>simp only[List.length_take] <;> split<;>omega
 ·have h5:=QGz (g:={ f with b:=f.b.take n.toNat,sy:=if n<f.sy then n else f.sy }) hf;have h6:=h'.used
  have h7:(f.b.take n.toNat).length≤f.b.length:=by rw[List.length_take];omega
  simp only at h5⊢;omega
theorem QJY{m:DM}(h:DInv m)(nm:ByteArray):DInv (QAV m nm).1:=by
 refine QHG h fun i f hf=>QIx h fun m' h' e1 e2=>?_;rw[←e1]at hf;refine h'.files (QCg h'.sorted) (fun x hx=>.inl (List.mem_of_mem_eraseIdx hx)) ?_ ?_
 ·have:=QBg hf;have:=h'.used;omega
 ·rw[List.length_eraseIdx];have:=h'.len;split<;>omega
theorem QaR{m:DM}(h:DInv m){i:Nat}{f:DF}{to:ByteArray}(hf:m.fs[i]? = some f)(ht:QDX to=true):DInv { m with fs:=QQp m.fs i f to }:=by
 have hm:=List.mem_of_getElem? hf;have hu:=QBg hf;have hused:=h.used;have hlt:=(List.getElem?_eq_some_iff.1 hf).1
 have hlen:(m.fs.eraseIdx i).length=m.fs.length - 1:=by rw[List.length_eraseIdx,if_pos hlt]
 have hl:=h.len;unfold QQp
 (try simp only)
 cases hth:QAi (m.fs.eraseIdx i) to.toList with
 | true=>
  obtain⟨g,hg,hk⟩:=QL3 hth;have hgm:=List.mem_of_getElem? hg;rw[if_pos rfl];refine h.files (QEB hg (by simp only[DF.key]at hk⊢;exact hk.symm) (QCg h.sorted)) (fun x hx=>?_) ?_ (by rw[List.length_set,hlen];omega)
  ·rcases List.mem_or_eq_of_mem_set hx with hx|rfl
   ·exact .inl (List.mem_of_mem_eraseIdx hx)
   ·exact .inr ⟨ht,h.syn f hm⟩
  ·have:=QGz (g:={ f with nm:=to }) hg;simp only at this;omega
 | false=>
  rw[if_neg (by simp)];refine h.files (QHT (g:={ f with nm:=to }) (QCg h.sorted) hth) (fun x hx=>?_) ?_ ?_
  ·rcases QPT hx with rfl|hx
   ·exact .inr ⟨ht,h.syn f hm⟩
   ·exact .inl (List.mem_of_mem_eraseIdx hx)
  ·rw[QQl];simp only;omega
  ·rw[QML _ _ _ (QFf _ _),hlen];omega
theorem QOb{m:DM}(h:DInv m)(nm to:ByteArray):DInv (QCH m nm to).1:=by
 unfold QCH;split
 ·exact h
 rename_i hn
 refine QHG h fun i f hf=>QIx h fun m' h' e1 e2=>?_;rw[←e1]at hf;exact QaR h' hf (by simpa using hn)
def QM7(fs:List DF)(nm:ByteArray)(b:List UInt8):List DF:=
 (if QAi fs nm.toList then fs else QLf fs (QAT fs nm.toList) ⟨nm,[],0⟩).set (QAT fs nm.toList) { ((if QAi fs nm.toList then fs else QLf fs (QAT fs nm.toList) ⟨nm,[],0⟩).getD (QAT fs nm.toList) ⟨nm,[],0⟩) with b:=((if QAi fs nm.toList then fs else QLf fs (QAT fs nm.toList) ⟨nm,[],0⟩).getD (QAT fs nm.toList) ⟨nm,[],0⟩).b++b }
theorem QHU{m:DM}(h:DInv m)(nm:ByteArray)(b:List UInt8):DInv (QAK m nm b).1:=by
 unfold QAK;split
 ·exact h
 rename_i hn
 have hn:QDX nm=true:=by simpa using hn
 split
 ·exact h
 split
 ·exact h
 rename_i hfull
 simp only[Bool.or_eq_true,Bool.and_eq_true,Bool.not_eq_true',decide_eq_true_eq,not_or,not_and]at hfull;obtain⟨hf1,hf2⟩:=hfull;split
 ·exact h.spend
 have h':=h.spend;obtain⟨e1,e2⟩:=QCU m;show DInv { (QAp m).1 with fs:=QM7 m.fs nm b };unfold QM7;rw[←e1];rw[←e2]at hf2;rw[←e1]at hf1 hf2
 generalize (QAp m).1=m' at *
 cases ht:QAi m'.fs nm.toList with
 | true=>
  obtain⟨hg,hk⟩:=QCK (d:=⟨nm,[],0⟩) ht;have hgm:=List.mem_of_getElem? hg;simp only[if_true];refine h'.files (QEB hg rfl h'.sorted) (fun x hx=>?_) ?_ (by rw[List.length_set];exact h'.len)
  ·rcases List.mem_or_eq_of_mem_set hx with hx|rfl
   ·exact .inl hx
   ·have:=h'.syn _ hgm;exact .inr ⟨(h'.names _ hgm:_),this.1,by simp only[List.length_append];omega⟩
  ·have:=QGz (g:={ (m'.fs.getD (QAT m'.fs nm.toList) ⟨nm,[],0⟩) with b:=(m'.fs.getD (QAT m'.fs nm.toList) ⟨nm,[],0⟩).b++b }) hg;simp only[List.length_append]at this;omega
 | false=>
  have hins:=QOp m'.fs (QAT m'.fs nm.toList) ⟨nm,[],0⟩ (QFf _ _)
  have hgd:(QLf m'.fs (QAT m'.fs nm.toList) ⟨nm,[],0⟩).getD (QAT m'.fs nm.toList) ⟨nm,[],0⟩=⟨nm,[],0⟩:=by simp[hins]
  simp only[Bool.false_eq_true,if_false];rw[hgd];have hlen:=QML m'.fs (QAT m'.fs nm.toList) ⟨nm,[],0⟩ (QFf _ _);refine h'.files (QEB hins rfl (QHT (g:=⟨nm,[],0⟩) h'.sorted ht)) (fun x hx=>?_) ?_ ?_
  ·rcases List.mem_or_eq_of_mem_set hx with hx|rfl
   ·rcases QPT hx with rfl|hx
    ·exact .inr ⟨hn,by simp,by simp⟩
    ·exact .inl hx
   ·exact .inr ⟨hn,by simp,by simp⟩
  ·have:=QGz (g:={ (⟨nm,[],0⟩:DF) with b:=[]++b }) hins;have:=QQl m'.fs (QAT m'.fs nm.toList) ⟨nm,[],0⟩;simp only[List.length_append,List.length_nil]at *;omega
  ·rw[List.length_set,hlen];have:=hf1 ht;omega
theorem Qdu{m:DM}(h:DInv m){n:Int}(hn:i64 n):DInv (QcX m n):=
 ⟨h.sorted,h.names,h.syn,h.used,h.room,h.len,hn,fun ha=>by simpa [QcX]using ha⟩
theorem QP6{f:DF}(h:0≤f.sy∧f.sy≤f.b.length)(keep:Int):f.sy≤QJQ keep f∧QJQ keep f≤f.b.length:=by
 unfold QJQ;constructor<;>split<;>split<;>omega
theorem QaZ{m:DM}(h:DInv m)(keep:Int):DInv (QNF m keep):=by
 refine⟨QLZ (fs:=m.fs) (by simp[QNF,QKg,Function.comp_def]) h.sorted,fun f hf=>?_,fun f hf=>?_,?_,h.room,by simpa [QNF]using h.len,⟨⟨by simp[QNF],by simp[QNF]⟩,fun h=>by cases h⟩⟩
 ·obtain⟨g,hg,rfl⟩:=List.mem_map.1 hf;exact h.names g hg
 ·obtain⟨g,hg,rfl⟩:=List.mem_map.1 hf;have h1:=h.syn g hg;have:=QP6 h1 keep;simp only[QKg,List.length_take];omega
 ·have:QBo (m.fs.map (QKg keep))≤QBo m.fs:=by
   generalize m.fs=fs
   induction fs with
   | nil=>simp
   | cons f fs ih=>simp[QBo,QKg]at ih⊢;omega
  have:=h.used;simp only[QNF];omega
end Go.Cx
namespace Go.Cx
open Go Go.Cf
set_option linter.unusedVariables false
set_option maxRecDepth 100000
def Qdz(r:Nat):Nat:=if r % 2=1 then (r / 2) ^^^ 3988292384 else r / 2
def QS2:Nat→Nat→Nat
 | 0,r=>r
 | k+1,r=>Qdz (QS2 k r)
def QcH(r y:Nat):Nat:=QS2 8 (r ^^^ y)
def QaG(r:Nat)(bs:List UInt8):Nat:=bs.foldl (fun r y=>QcH r y.toNat) r
def QFZ(crc:Nat)(bs:List UInt8):Nat:=4294967295 ^^^ QaG (4294967295 ^^^ crc) bs
theorem QHQ{a b:Nat}(ha:a<4294967296)(hb:b<4294967296):a ^^^ b<4294967296:=Nat.xor_lt_two_pow (n:=32) ha hb
theorem QdN{r:Nat}(h:r<4294967296):Qdz r<4294967296:=by
 unfold Qdz;split
 ·exact QHQ (by omega) (by decide)
 ·omega
theorem QOv:∀(k:Nat) {r:Nat},r<4294967296→QS2 k r<4294967296
 | 0,_,h=>h
 | k+1,_,h=>QdN (QOv k h)
theorem QGh(y:UInt8):y.toNat<256:=y.toNat_lt
theorem QaY{r:Nat}(h:r<4294967296)(y:UInt8):QcH r y.toNat<4294967296:=QOv 8 (QHQ h (by have:=QGh y;omega))
theorem QTM:∀(bs:List UInt8) {r:Nat},r<4294967296→QaG r bs<4294967296
 | [],_,h=>h
 | y::bs,_,h=>QTM bs (QaY h y)
theorem QXo(bs:List UInt8)(r:Nat)(y:UInt8):QaG r (bs++[y])=QcH (QaG r bs) y.toNat:=by
 unfold QaG;rw[List.foldl_append];rfl
theorem QcJ{crc:Nat}(h:crc<4294967296)(bs:List UInt8):QFZ crc bs<4294967296:=QHQ (by decide) (QTM bs (QHQ (by decide) h))
theorem QEj(n:Nat)(h:n<4294967296):IntKind.u32.wrap (n:Int)=n:=by
 have e1:(2 ^ IntKind.u32.bits:Int)=4294967296:=by decide
 have e3:IntKind.u32.signed=false:=rfl;simp only[IntKind.wrap,e1,e3,Bool.false_and];simp;omega
theorem QO0(n:Nat)(h:n<18446744073709551616):IntKind.u64.wrap (n:Int)=n:=by
 have e1:(2 ^ IntKind.u64.bits:Int)=18446744073709551616:=by decide
 have e3:IntKind.u64.signed=false:=rfl;simp only[IntKind.wrap,e1,e3,Bool.false_and];simp;omega
theorem Qc1(n:Nat):IntKind.u8.wrap (n:Int)=((n % 256:Nat):Int):=by
 have e1:(2 ^ IntKind.u8.bits:Int)=256:=by decide
 have e3:IntKind.u8.signed=false:=rfl;simp only[IntKind.wrap,e1,e3,Bool.false_and];simp
def hdN(n:Nat):List UInt8:=[UInt8.ofNat (n / 256),UInt8.ofNat n]
def QWy(p:List UInt8):Nat:=QFZ (QFZ 0 (hdN p.length)) p
def QeT(r:Nat):List UInt8:=[UInt8.ofNat (r / 16777216),UInt8.ofNat (r / 65536),UInt8.ofNat (r / 256),UInt8.ofNat r]
def QAk(p:List UInt8):List UInt8:=hdN p.length++QeT (QWy p)++p
theorem QAr(m:Nat):IntKind.u8.wrap (m:Int)=((UInt8.ofNat m).toNat:Int):=by
 rw[Qc1,UInt8.toNat_ofNat']
theorem QCy(n:Nat)(d:Int)(D:Nat)(h:d=(D:Int)):Int.fdiv (n:Int) d=((n / D:Nat):Int):=by
 subst h;rw[Int.fdiv_eq_ediv_of_nonneg _ (by omega)];exact (Int.natCast_ediv n D).symm
def QGA(b:List UInt8):Nat:=(b.getD 0 0).toNat*256+(b.getD 1 0).toNat
def QWm(b:List UInt8):Nat:=(((b.getD 2 0).toNat*256+(b.getD 3 0).toNat)*256+(b.getD 4 0).toNat)*256+(b.getD 5 0).toNat
def QBN(b:List UInt8):List UInt8×Nat×Int:=
 if b.length<6 then ([],0,1)
 else if QGA b>1024 then ([],0,2)
 else if b.length<6+QGA b then ([],0,1)
 else if QWm b=QWy ((b.take (6+QGA b)).drop 6) then ((b.take (6+QGA b)).drop 6,6+QGA b,0)
 else ([],0,5)
theorem QCa{b:List UInt8}{i:Nat}{x:UInt8}(h:b[i]? = some x):b.getD i 0=x:=by
 rw[List.getD_eq_getElem?_getD,h];rfl
def be8(v:Nat):List UInt8:=(List.range 8).map fun i=>UInt8.ofNat (v / 256 ^ (7 - i))
theorem QK4(v:Nat):(be8 v).length=8:=by simp[be8]
theorem QYy(v:Nat){i:Nat}(h:i<8):(be8 v)[i]? = some (UInt8.ofNat (v / 256 ^ (7 - i))):=by
 unfold be8;rw[List.getElem?_map,List.getElem?_range h];rfl
def beV(bs:List UInt8):Nat:=bs.foldl (fun v y=>v*256+y.toNat) 0
theorem QU6(bs:List UInt8)(y:UInt8):beV (bs++[y])=beV bs*256+y.toNat:=by
 unfold beV;rw[List.foldl_append];rfl
theorem Qec:∀(n:Nat) (bs:List UInt8),bs.length=n→beV bs<256 ^ n:=by
 intro n
 induction n with
 | zero=>intro bs h;have:=List.eq_nil_of_length_eq_zero h;subst this;decide
 | succ n ih=>
  intro bs h
  have hne:bs≠[]:=fun e=>by subst e;simp at h
  have e:=List.dropLast_concat_getLast hne
  have hl:bs.dropLast.length=n:=by simp;omega
  have:=ih _ hl;have hy:=QGh (bs.getLast hne);rw[←e,QU6,Nat.pow_succ];omega
theorem Qeb(k:Nat)(h:k≤7):256 ^ k≤72057594037927936:=by
 have:(256:Nat) ^ k≤256 ^ 7:=Nat.pow_le_pow_right (by decide) h;simpa using this
def QKn(xs:List UInt8)(a:Nat):List UInt8:=(xs.take (a+8)).drop a
theorem QU3{xs:List UInt8}{a:Nat}(h:a+8≤xs.length):(QKn xs a).length=8:=by simp[QKn];omega
theorem QK0{q:List UInt8}{k:Nat}{y:UInt8}(h:q[k]? = some y):beV (q.take (k+1))=beV (q.take k)*256+y.toNat:=by
 rw[List.take_add_one,h];exact QU6 _ _
theorem QI7{q:List UInt8}{k:Nat}(hq:q.length=8)(hk:k<8):beV (q.take k)<72057594037927936:=by
 have h1:=Qec k (q.take k) (by simp;omega);have h2:=Qeb k (by omega);omega
theorem QMM{b:List UInt8}(h:(QBN b).2.2=0):6≤(QBN b).2.1∧(QBN b).2.1≤b.length∧(QBN b).1.length+6=(QBN b).2.1∧(QBN b).1.length≤1024∧(QBN b).1=(b.take (QBN b).2.1).drop 6:=by
 unfold QBN at h⊢;split
 ·rename_i h1;rw[if_pos h1]at h;exact absurd h (by decide)
 rename_i h1
 rw[if_neg h1]at h;split
 ·rename_i h2;rw[if_pos h2]at h;exact absurd h (by decide)
 rename_i h2
 rw[if_neg h2]at h;split
 ·rename_i h3;rw[if_pos h3]at h;exact absurd h (by decide)
 rename_i h3
 rw[if_neg h3]at h;split
 ·refine⟨?_,?_,?_,?_,rfl⟩<;>simp<;>omega
 ·rename_i h4;rw[if_neg h4]at h;exact absurd h (by decide)
def QQR:Nat→List UInt8→List (List UInt8)×Nat
 | 0,_=>([],0)
 | n+1,b=>if (QBN b).2.2=0 then ((QBN b).1::(QQR n (b.drop (QBN b).2.1)).1,(QBN b).2.1+(QQR n (b.drop (QBN b).2.1)).2) else ([],0)
def QAv(b:List UInt8):List (List UInt8)×Nat:=QQR (b.length+1) b
theorem QXI:∀(n m:Nat) (b:List UInt8),b.length<n→b.length<m→QQR n b=QQR m b:=by
 intro n
 induction n with
 | zero=>intro m b h;omega
 | succ n ih=>
  intro m b h1 h2
  cases m with
  | zero=>omega
  | succ m=>
   unfold QQR;by_cases h:(QBN b).2.2=0
   ·obtain⟨a1,a2,_⟩:=QMM h;have hd:(b.drop (QBN b).2.1).length=b.length - (QBN b).2.1:=List.length_drop;rw[if_pos h,if_pos h,ih m _ (by omega) (by omega)]
   ·rw[if_neg h,if_neg h]
theorem QS4{b:List UInt8}(h:(QBN b).2.2=0):QAv b=((QBN b).1::(QAv (b.drop (QBN b).2.1)).1,(QBN b).2.1+(QAv (b.drop (QBN b).2.1)).2):=by
 obtain⟨a1,a2,_⟩:=QMM h;have hd:(b.drop (QBN b).2.1).length=b.length - (QBN b).2.1:=List.length_drop;unfold QAv
 conv=>lhs;unfold QQR
 rw[if_pos h,QXI b.length ((b.drop (QBN b).2.1).length+1) _ (by omega) (by omega)]
theorem QMG{b:List UInt8}(h:¬(QBN b).2.2=0):QAv b=([],0):=by
 unfold QAv QQR;rw[if_neg h]
theorem QIl:∀(n:Nat) (b:List UInt8),b.length≤n→(QAv b).2≤b.length∧(QAv b).1.length≤b.length∧∀p∈(QAv b).1,p.length≤1024:=by
 intro n
 induction n with
 | zero=>
  intro b h;have hb:b=[]:=List.eq_nil_of_length_eq_zero (by omega);subst hb;rw[QMG (by decide)];exact⟨Nat.le_refl _,Nat.le_refl _,by simp⟩
 | succ n ih=>
  intro b h;by_cases hg:(QBN b).2.2=0
  ·obtain⟨a1,a2,a3,a4,_⟩:=QMM hg;have hd:(b.drop (QBN b).2.1).length=b.length - (QBN b).2.1:=List.length_drop;obtain⟨h1,h2,h3⟩:=ih (b.drop (QBN b).2.1) (by omega);rw[QS4 hg];refine⟨by dsimp only;omega,by simp only[List.length_cons];omega,?_⟩;intro p hp;simp only[List.mem_cons]at hp;rcases hp with rfl|hp
   ·exact a4
   ·exact h3 p hp
  ·rw[QMG hg];exact⟨Nat.zero_le _,Nat.zero_le _,by simp⟩
theorem QKh(b:List UInt8):(QAv b).2≤b.length:=(QIl b.length b (Nat.le_refl _)).1
theorem QRz(p:List UInt8):(QAk p).length=6+p.length:=by unfold QAk;rw[List.length_append];rfl
def QCP(fs:List DF)(k:Key):Option DF:=fs.find? fun f=>f.key == k
theorem QVC{fs:List DF}(hs:Sorted fs){i j:Nat}{f g:DF}(hf:fs[i]? = some f)(hg:fs[j]? = some g)(hk:f.key=g.key):i=j:=by
 have h1:=(QEc hs hf rfl).1;have h2:=(QEc hs hg rfl).1;rw[hk]at h1;omega
theorem QD8{fs:List DF}(hs:Sorted fs){k:Key}{f:DF}:QCP fs k=some f↔f∈fs∧f.key=k:=by
 unfold QCP;constructor
 ·intro h;exact⟨List.mem_of_find?_eq_some h,by simpa using List.find?_some h⟩
 ·rintro⟨hm,hk⟩
  cases h:fs.find? fun f=>f.key == k with
  | none=>
   have:=List.find?_eq_none.1 h f hm;simp[hk]at this
  | some g=>
   have hg:=List.mem_of_find?_eq_some h
   have hgk:g.key=k:=by simpa using List.find?_some h
   obtain⟨i,hi⟩:=List.mem_iff_getElem?.1 hm;obtain⟨j,hj⟩:=List.mem_iff_getElem?.1 hg;obtain rfl:=QVC hs hi hj (hk.trans hgk.symm);rw[hi]at hj;exact hj.symm
theorem QSG{fs:List DF}{k:Key}:QCP fs k=none↔∀f∈fs,f.key≠k:=by
 unfold QCP;rw[List.find?_eq_none];simp
theorem QCN{fs:List DF}{k:Key}{f:DF}(h:QCP fs k=some f):f.key=k:=by simpa using List.find?_some h
theorem QIV{fs:List DF}{k:Key}{f:DF}(h:QCP fs k=some f):f∈fs:=List.mem_of_find?_eq_some h
theorem QC8{fs:List DF}(hs:Sorted fs)(k:Key):QAi fs k=(QCP fs k).isSome:=by
 cases h:QCP fs k with
 | some f=>
  obtain⟨i,hi⟩:=List.mem_iff_getElem?.1 (QIV h);exact (QEc hs hi (QCN h)).2
 | none=>
  cases ht:QAi fs k with
  | false=>rfl
  | true=>
   obtain⟨f,hf,hk⟩:=QL3 ht;exact absurd hk (QSG.1 h f (List.mem_of_getElem? hf))
theorem QCt{fs:List DF}(hs:Sorted fs){k:Key}{f:DF}(h:QCP fs k=some f):QAi fs k=true∧fs[QAT fs k]? = some f:=by
 obtain⟨i,hi⟩:=List.mem_iff_getElem?.1 (QIV h);obtain⟨h1,h2⟩:=QEc hs hi (QCN h);rw[h1];exact⟨h2,hi⟩
theorem QEa{fs:List DF}(hs:Sorted fs){k:Key}{f d:DF}(h:QCP fs k=some f):fs.getD (QAT fs k) d=f:=by
 simp[(QCt hs h).2]
theorem QF1{fs:List DF}(hs:Sorted fs){i:Nat}{f g:DF}(hf:fs[i]? = some f)(hk:g.key=f.key)(k:Key):QCP (fs.set i g) k=if k=f.key then some g else QCP fs k:=by
 have hs':=QEB hf hk hs;have hi:=(List.getElem?_eq_some_iff.1 hf).1;split
 ·rename_i e
  exact (QD8 hs').2 ⟨List.mem_set hi g,hk.trans e.symm⟩
 ·rename_i e
  apply Option.ext;intro x;rw[QD8 hs',QD8 hs];constructor
  ·rintro⟨hm,hx⟩;rcases List.mem_or_eq_of_mem_set hm with hm|rfl
   ·exact⟨hm,hx⟩
   ·exact absurd (hx.symm.trans hk) e
  ·rintro⟨hm,hx⟩;refine⟨?_,hx⟩;obtain⟨j,hj⟩:=List.mem_iff_getElem?.1 hm
   have:i≠j:=by
    intro h;subst h;rw[hf]at hj;cases hj;exact e hx.symm
   exact List.mem_iff_getElem?.2 ⟨j,by rw[List.getElem?_set_ne this];exact hj⟩
theorem QU0{fs:List DF}(hs:Sorted fs){g:DF}(hn:QAi fs g.key=false)(k:Key):QCP (QLf fs (QAT fs g.key) g) k=if k=g.key then some g else QCP fs k:=by
 have hs':=QHT hs hn
 have memI:∀x,x∈QLf fs (QAT fs g.key) g↔x=g∨x∈fs:=by
  intro x;constructor
  ·exact QPT
  ·unfold QLf;rintro (rfl|h)
   ·simp
   ·have:x∈fs.take (QAT fs g.key)++fs.drop (QAT fs g.key):=by rw[List.take_append_drop];exact h
    rcases List.mem_append.1 this with h|h
    ·exact List.mem_append_left _ h
    ·exact List.mem_append_right _ (List.mem_cons_of_mem _ h)
 split
 ·rename_i e
  exact (QD8 hs').2 ⟨(memI _).2 (.inl rfl),e.symm⟩
 ·rename_i e
  apply Option.ext;intro x;rw[QD8 hs',QD8 hs,memI];constructor
  ·rintro⟨rfl|hm,hx⟩
   ·exact absurd hx.symm e
   ·exact⟨hm,hx⟩
  ·rintro⟨hm,hx⟩;exact⟨.inr hm,hx⟩
theorem QOZ{fs:List DF}(hs:Sorted fs){i:Nat}{f:DF}(hf:fs[i]? = some f)(k:Key):QCP (fs.eraseIdx i) k=if k=f.key then none else QCP fs k:=by
 have hs':Sorted (fs.eraseIdx i):=QCg hs
 have memE:∀x,x∈fs.eraseIdx i↔x∈fs∧x.key≠f.key:=by
  intro x;rw[List.mem_eraseIdx_iff_getElem?];constructor
  ·rintro⟨j,hj,hx⟩;exact⟨List.mem_of_getElem? hx,fun e=>hj (QVC hs hx hf e)⟩
  ·rintro⟨hm,hk⟩;obtain⟨j,hj⟩:=List.mem_iff_getElem?.1 hm;refine⟨j,fun e=>?_,hj⟩;subst e;rw[hf]at hj;cases hj;exact hk rfl
 split
 ·rename_i e
  rw[QSG];intro x hx hk;exact ((memE x).1 hx).2 (hk.trans e)
 ·rename_i e
  apply Option.ext;intro x;rw[QD8 hs',QD8 hs,memE];constructor
  ·rintro⟨⟨hm,_⟩,hx⟩;exact⟨hm,hx⟩
  ·rintro⟨hm,hx⟩;exact⟨⟨hm,fun h=>e (hx.symm.trans h)⟩,hx⟩
structure Qd8(m:DM)(r:DM×Int)(fs:List DF):Prop where
 err:r.2=0
 files:r.1.fs=fs
 down:r.1.down=m.down
 room:r.1.room=m.room
 armed:m.armed=false→r.1.armed=false
def QXA(m:DM)(r:DM×Int):Prop:=m.armed=true∧r=({ m with down:=true },10)
theorem QHC(m:DM)(φ:List DF→List DF):QXA m (QD3 m fun m=>{ m with fs:=φ m.fs })∨Qd8 m (QD3 m fun m=>{ m with fs:=φ m.fs }) (φ m.fs):=by
 unfold QD3;have hfs:=QCU m;by_cases h:(m.armed&&m.left == 0)=true
 ·have:QAp m=({ m with down:=true },false):=by unfold QAp;rw[if_pos h]
  rw[this];refine .inl ⟨?_,rfl⟩;simp only[Bool.and_eq_true]at h;exact h.1
 ·have hs:(QAp m).2=true∧(QAp m).1.down=m.down∧(m.armed=false→(QAp m).1.armed=false):=by
   unfold QAp;rw[if_neg h];split
   ·rename_i ha;exact⟨rfl,rfl,fun e=>by rw[ha]at e;cases e⟩
   ·exact⟨rfl,rfl,id⟩
  rw[hs.1];refine .inr ⟨rfl,?_,hs.2.1,hfs.2,hs.2.2⟩;show φ (QAp m).1.fs=_;rw[hfs.1]
theorem QPs{m:DM}(hI:DInv m){nm:ByteArray}{f:DF}(hd:m.down=false)(hf:QCP m.fs nm.toList=some f) :
  QXA m (QBE m nm)∨Qd8 m (QBE m nm) (m.fs.set (QAT m.fs nm.toList) { f with sy:=f.b.length }):=by
 obtain⟨h1,h2⟩:=QCt hI.sorted hf;have h3:=QEa (d:=⟨nm,[],0⟩) hI.sorted hf;unfold QBE QBX;rw[if_neg (by rw[hd];decide),if_neg (by rw[h1];decide),h3];exact QHC m fun fs=>fs.set (QAT m.fs nm.toList) { f with sy:=f.b.length }
theorem QP1{m:DM}(hI:DInv m){nm:ByteArray}{f:DF}{n:Int}(hd:m.down=false)(hf:QCP m.fs nm.toList=some f)(h0:0≤n)(hn:n≤f.b.length) :
  QXA m (QBP m nm n)∨Qd8 m (QBP m nm n) (m.fs.set (QAT m.fs nm.toList) { f with b:=f.b.take n.toNat,sy:=if n<f.sy then n else f.sy }):=by
 obtain⟨h1,h2⟩:=QCt hI.sorted hf;have h3:=QEa (d:=⟨nm,[],0⟩) hI.sorted hf;unfold QBP QBX;rw[if_neg (by rw[hd];decide),if_neg (by rw[h1];decide),h3]
 have hc:¬(n<0∨n>(f.b.length:Int)):=by omega
 simp only[if_neg hc];exact QHC m fun fs=>fs.set (QAT m.fs nm.toList) { f with b:=f.b.take n.toNat,sy:=if n<f.sy then n else f.sy }
theorem QMb{m:DM}(hI:DInv m){nm:ByteArray}{f:DF}(hd:m.down=false)(hf:QCP m.fs nm.toList=some f) :
  QXA m (QAV m nm)∨Qd8 m (QAV m nm) (m.fs.eraseIdx (QAT m.fs nm.toList)):=by
 obtain⟨h1,h2⟩:=QCt hI.sorted hf;have h3:=QEa (d:=⟨nm,[],0⟩) hI.sorted hf;unfold QAV QBX;rw[if_neg (by rw[hd];decide),if_neg (by rw[h1];decide),h3];exact QHC m fun fs=>fs.eraseIdx (QAT m.fs nm.toList)
theorem QG7{m:DM}(hI:DInv m){nm:ByteArray}(hf:QCP m.fs nm.toList=none):QAi m.fs nm.toList=false:=by rw[QC8 hI.sorted,hf];rfl
theorem QZN{m:DM}(hI:DInv m){nm:ByteArray}(hd:m.down=false)(hf:QCP m.fs nm.toList=none):QBE m nm=(m,6):=by
 unfold QBE QBX;rw[if_neg (by rw[hd];decide),if_pos (by rw[QG7 hI hf];rfl)]
theorem QK9{m:DM}(hI:DInv m){nm:ByteArray}(hd:m.down=false)(hf:QCP m.fs nm.toList=none):QAV m nm=(m,6):=by
 unfold QAV QBX;rw[if_neg (by rw[hd];decide),if_pos (by rw[QG7 hI hf];rfl)]
theorem QJb{m:DM}(hd:m.down=true)(nm:ByteArray)(g:Nat→DF→DM→DM×Int):QBX m nm g=(m,10):=by unfold QBX;rw[if_pos hd]
theorem QLv{m:DM}(hI:DInv m){nm:ByteArray}{f:DF}(hf:QCP m.fs nm.toList=some f):QAX m nm=(f.b,0):=by
 unfold QAX;rw[if_neg (by rw[(QCt hI.sorted hf).1];decide),QEa hI.sorted hf]
theorem QRi{m:DM}(hI:DInv m){nm:ByteArray}(hf:QCP m.fs nm.toList=none):QAX m nm=([],6):=by
 unfold QAX;rw[if_pos (by rw[QG7 hI hf];rfl)]
theorem QLJ{m:DM}(hI:DInv m){nm:ByteArray}{b:List UInt8}(hn:QDX nm=true)(hd:m.down=false) :
  (QAK m nm b=(m,9)∧((QCP m.fs nm.toList=none∧m.fs.length=64)∨(b.length:Int)>m.room - QBo m.fs))∨QXA m (QAK m nm b) ∨
  (Qd8 m (QAK m nm b) (QM7 m.fs nm b)∧(b.length:Int)≤m.room - QBo m.fs∧(QCP m.fs nm.toList=none→m.fs.length<64)):=by
 have ht:=QC8 hI.sorted nm.toList;have hl:=hI.len;by_cases hfull:((!(QAi m.fs nm.toList)&&decide ((m.fs.length:Int)≥64))||decide ((b.length:Int)>m.room - QBo m.fs))=true
 ·left;refine⟨by unfold QAK;rw[if_neg (by rw[hn];decide),if_neg (by rw[hd];decide),if_pos hfull],?_⟩;simp only[Bool.or_eq_true,Bool.and_eq_true,Bool.not_eq_true',decide_eq_true_eq]at hfull;rcases hfull with⟨h1,h2⟩|h
  ·rw[ht]at h1;exact .inl ⟨by simpa using h1,by omega⟩
  ·exact .inr h
 ·right
  have hu:QAK m nm b=QD3 m fun m=>{ m with fs:=QM7 m.fs nm b }:=by
   unfold QAK QD3;rw[if_neg (by rw[hn];decide),if_neg (by rw[hd];decide),if_neg hfull];split
   ·rfl
   ·show (({ (QAp m).1 with fs:=QM7 m.fs nm b }:DM),(0:Int))=({ (QAp m).1 with fs:=QM7 (QAp m).1.fs nm b },0);rw[(QCU m).1]
  rw[hu];rcases QHC m fun fs=>QM7 fs nm b with h|h
  ·exact .inl h
  ·refine .inr ⟨h,?_⟩;simp only[Bool.or_eq_true,Bool.and_eq_true,Bool.not_eq_true',decide_eq_true_eq,not_or,not_and]at hfull;refine⟨by omega,fun hn=>?_⟩;have:=hfull.1 (by rw[ht,hn];rfl);omega
theorem QUB{fs:List DF}(hs:Sorted fs)(nm:ByteArray)(b:List UInt8)(k:Key) :
  QCP (QM7 fs nm b) k=if k=nm.toList then some { ((QCP fs nm.toList).getD ⟨nm,[],0⟩) with b:=((QCP fs nm.toList).getD ⟨nm,[],0⟩).b++b } else QCP fs k:=by
 unfold QM7
 cases h:QCP fs nm.toList with
 | some f=>
  obtain⟨h1,h2⟩:=QCt hs h;rw[if_pos h1,QEa hs h];show QCP (fs.set (QAT fs nm.toList) { f with b:=f.b++b }) k=_;rw[QF1 (g:={ f with b:=f.b++b }) hs h2 rfl,QCN h];rfl
 | none=>
  have h1:QAi fs nm.toList=false:=by rw[QC8 hs,h];rfl
  rw[h1];simp only[Bool.false_eq_true,if_false,Option.getD_none];have hins:=QOp fs (QAT fs nm.toList) ⟨nm,[],0⟩ (QFf _ _)
  have hgd:(QLf fs (QAT fs nm.toList) ⟨nm,[],0⟩).getD (QAT fs nm.toList) ⟨nm,[],0⟩=⟨nm,[],0⟩:=by simp[hins]
  rw[hgd];show QCP ((QLf fs (QAT fs nm.toList) ⟨nm,[],0⟩).set (QAT fs nm.toList) (⟨nm,[]++b,0⟩:DF)) k=_;rw[QF1 (g:=(⟨nm,[]++b,0⟩:DF)) (QHT (g:=⟨nm,[],0⟩) hs h1) hins rfl];have:=QU0 hs (g:=⟨nm,[],0⟩) h1 k;simp only[DF.key]at this⊢;rw[this];split<;>rfl
def preL:List UInt8:=[108,111,103,45]
def fN(n:Int):ByteArray:=BA (preL++Lib.itoa n)
abbrev fK(n:Int):Key:=(fN n).toList
def QLj:ByteArray:=BA [104,101,97,100]
def QEo:ByteArray:=BA [104,101,97,100,46,110,101,119]
def QEb(l:List UInt8):Bool:=decide (5≤l.length)&&decide (l.length≤16)&&(l.take 4 == preL) && !(l[4]? == some 48)&&(l.drop 4).all QPO
abbrev QKW:Int:=999999999999
structure Sg where
 n:Int
 first:Int
 size:Int
 ps:List (List UInt8)
structure LM where
 n:Int
 first:Int
 segs:List Sg
 safe:Int
def Sg.next(s:Sg):Int:=s.first+s.ps.length
def LM.cur(l:LM):Option Sg:=l.segs.getLast?
def LM.next(l:LM):Int:=match l.cur with
 | some s=>s.next
 | none=>l.first
def LM.lo(l:LM):Int:=match l.segs with
 | []=>l.first
 | s::_=>s.first
def QAt(m:DM)(nm:ByteArray):DM×Int:=if (QAV m nm).2=6 then ((QAV m nm).1,0) else QAV m nm
def QCz(m:DM):Int×Int×Int:=
 if (QAX m QLj).2≠0 then (1,0,0)
 else
  let g:=QBN (QAX m QLj).1
  if g.2.2≠0∨g.2.1≠(QAX m QLj).1.length∨g.1.length≠16 then (0,0,30)
  else if beV (QKn g.1 0)<1∨beV (QKn g.1 0)>999999999999∨beV (QKn g.1 8)>1099511627776 then (0,0,30)
  else (beV (QKn g.1 0),beV (QKn g.1 8),0)
def QD7(m:DM)(n:Int):DM×Int:=
 let b:=(QAX m (fN n)).1
 let t:=if (QAv b).2<b.length then QBP m (fN n) (QAv b).2 else (m,0)
 if t.2≠0 then t else QBE t.1 (fN n)
def QLY:Nat→DM→Int→LM→DM×LM×Int
 | 0,m,_,l=>(m,l,0)
 | k+1,m,n,l=>
  if (QAX m (fN n)).2≠0 then (m,l,0)
  else if (QD7 m n).2≠0 then ((QD7 m n).1,l,(QD7 m n).2)
  else
   let b:=(QAX m (fN n)).1
   let l':={ l with segs:=l.segs++[⟨n,l.next,(QAv b).2,(QAv b).1⟩] }
   if (QAv b).2<b.length then ((QD7 m n).1,l',0) else QLY k (QD7 m n).1 (n+1) l'
def QRK(l:LM)(nm:ByteArray):Bool:=!(QEb nm.data.toList)||l.segs.any fun s=>fK s.n == nm.toList
def QC5(l:LM):List ByteArray→DM→DM×Int
 | [],m=>(m,0)
 | nm::r,m=>if QRK l nm then QC5 l r m else if (QAV m nm).2≠0 then QAV m nm else QC5 l r (QAV m nm).1
def QDb(m:DM):DM×Option LM×Int:=
 if (QAt m QEo).2≠0 then ((QAt m QEo).1,none,(QAt m QEo).2)
 else
  let m1:=(QAt m QEo).1
  let h:=QCz m1
  if h.2.2≠0 then (m1,none,h.2.2)
  else
   let r:=QLY 70 m1 h.1 ⟨h.1,h.2.1,[],0⟩
   if r.2.2≠0 then (r.1,none,r.2.2)
   else
    let w:=QC5 r.2.1 (r.1.fs.map (·.nm)) r.1
    if w.2≠0 then (w.1,none,w.2) else (w.1,some { r.2.1 with safe:=r.2.1.next },0)
def QBZ(m:DM)(l:LM):DM×LM×Int:=
 if m.down then (m,l,10)
 else if l.safe=l.next then (m,l,0)
 else
  let y:=QBE m (fN ((l.cur.map Sg.n).getD 0))
  if y.2≠0 then (y.1,l,y.2) else (y.1,{ l with safe:=l.next },0)
def LM.full(l:LM):Bool:=match l.cur with
 | some s=>decide (s.size≥1024)
 | none=>false
def LM.curN(l:LM):Int:=match l.cur with
 | some s=>s.n
 | none=>l.n
def Qae(ss:List Sg)(p:List UInt8):List Sg:=match ss.getLast? with
 | some s=>ss.dropLast++[{ s with size:=s.size+(QAk p).length,ps:=s.ps++[p] }]
 | none=>[]
def QBe(m:DM)(l:LM)(p:List UInt8):DM×LM×Int×Int:=
 if m.down then (m,l,0,10)
 else if p.length>1024 then (m,l,0,2)
 else if l.next≥1099511627776∨(l.full=true∧l.curN=QKW) then (m,l,0,12)
 else
  let y:=if l.full then QBZ m l else (m,l,0)
  if y.2.2≠0 then (y.1,y.2.1,0,y.2.2)
  else
   let n:=if l.full then l.curN+1 else l.curN
   let a:=QAK y.1 (fN n) (QAk p)
   if a.2≠0 then (a.1,y.2.1,0,a.2)
   else
    let ss:=if l.segs=[]∨l.full=true then l.segs++[⟨n,l.next,0,[]⟩] else l.segs
    (a.1,{ y.2.1 with segs:=Qae ss p },l.next,0)
def QGy(l:LM)(to keep:Int):Nat:=(l.segs.take (l.segs.length - (max keep 1).toNat)).takeWhile (fun s=>decide (s.next≤min to l.safe)) |>.length
def Qhd(m:DM)(s:Sg):DM×Int:=
 let d:=QAt m QEo
 if d.2≠0 then d else
 let a:=QAK d.1 QEo (QAk (be8 s.n.toNat++be8 s.first.toNat))
 if a.2≠0 then a else
 let y:=QBE a.1 QEo
 if y.2≠0 then y else QCH y.1 QEo QLj
def Qea:List Sg→DM→DM×Int
 | [],m=>(m,0)
 | s::r,m=>if (QAV m (fN s.n)).2≠0 then QAV m (fN s.n) else Qea r (QAV m (fN s.n)).1
def Qbq(m:DM)(l:LM)(to keep:Int):DM×LM×Int:=
 if m.down then (m,l,10)
 else if QGy l to keep=0 then (m,l,0)
 else
  let y:=Qhd m ((l.segs[QGy l to keep]?).getD ⟨0,0,0,[]⟩)
  if y.2≠0 then (y.1,l,y.2)
  else
   let g:=Qea (l.segs.take (QGy l to keep)) y.1
   if g.2≠0 then (g.1,l,g.2) else (g.1,{ l with segs:=l.segs.drop (QGy l to keep) },0)
def QHw(l:LM)(n:Int):List UInt8×Int:=
 if n<l.lo then ([],31)
 else match l.segs.find? fun s=>decide (n<s.next) with
  | some s=>((s.ps[(n - s.first).toNat]?).getD [],0)
  | none=>([],6)
end Go.Cx
namespace Go.Cx
open Go Go.Cf
set_option linter.unusedVariables false
set_option maxRecDepth 100000
theorem QIN(n:Int):fK n=preL++Lib.itoa n:=by unfold fK fN;rw[QEF]
theorem QKw{n:Nat}(h:1≤n):Lib.itoa (n:Int)=Lib.decDigits n:=by unfold Lib.itoa;rw[if_neg (by omega),Int.toNat_natCast]
theorem Qbr{a b:Nat}(ha:1≤a)(hb:1≤b)(h:Lib.itoa (a:Int)=Lib.itoa (b:Int)):a=b:=by
 rw[QKw ha,QKw hb]at h;have h1:=(QGk a a (Nat.le_refl _)).2.2.1;have h2:=(QGk b b (Nat.le_refl _)).2.2.1;rw[h,h2]at h1;exact h1.symm
theorem QT6{a b:Nat}(ha:1≤a)(hb:1≤b)(h:fK (a:Int)=fK (b:Int)):a=b:=by
 rw[QIN,QIN]at h;exact Qbr ha hb (List.append_cancel_left h)
theorem QMU(n:Nat):1≤(Lib.decDigits n).length:=List.length_pos_iff.2 (QGk n n (Nat.le_refl _)).1
theorem QYG{n:Nat}(h1:1≤n)(h2:n≤999999999999):QEb (fN (n:Int)).data.toList=true:=by
 unfold fN;rw[QOo,QKw h1];obtain⟨f1,f2,f3,f4,f5⟩:=QGk n n (Nat.le_refl _);have hl:=QOt 11 n (by omega);have hp:=QMU n;have hne:=f5 h1;unfold QEb;simp only[Bool.and_eq_true,decide_eq_true_eq,Bool.not_eq_true',beq_eq_false_iff_ne,ne_eq,beq_iff_eq,List.length_append];have e4:preL.length=4:=rfl;refine⟨⟨⟨⟨by omega,by omega⟩,?_⟩,?_⟩,?_⟩
 ·rw[←e4,List.take_left]
 ·rw[List.getElem?_append_right (by omega)];exact hne
 ·rw[←e4,List.drop_left];exact f2
theorem QbM{n:Nat}(h1:1≤n)(h2:n≤999999999999):QDX (fN (n:Int))=true:=by
 have:=QYG h1 h2;unfold QEb at this;simp only[Bool.and_eq_true,decide_eq_true_eq]at this
 have e:(fN (n:Int)).data.toList.length=(fN (n:Int)).size:=by rw[Array.length_toList];rfl
 unfold QDX;simp only[Bool.and_eq_true,decide_eq_true_eq];omega
end Go.Cx
namespace Go.Cx
open Go Go.Cf
set_option linter.unusedVariables false
set_option maxRecDepth 100000
end Go.Cx
namespace Go.Cx
open Go Go.Cf
set_option linter.unusedVariables false
set_option maxRecDepth 100000
theorem QIw{α:Type}[DecidableEq α]:∀{l m:List α},l.Nodup→(∀x∈l,x∈m)→l.length≤m.length
 | [],m,_,_=>by simp
 | x::l,m,hn,hs=>by
  obtain⟨h1,h2⟩:=List.nodup_cons.1 hn;have hx:=hs x (by simp)
  have:=QIw (l:=l) (m:=m.erase x) h2 fun y hy=>by
   have hne:y≠x:=fun e=>h1 (e ▸ hy);exact (List.mem_erase_of_ne hne).2 (hs y (by simp[hy]))
  rw[List.length_erase_of_mem hx]at this;have:=List.length_pos_of_mem hx;simp;omega
end Go.Cx
namespace Go.Cx
open Go Go.Cf
set_option linter.unusedVariables false
set_option maxRecDepth 100000
structure LInv(l:LM):Prop where
 n:1≤l.n∧l.n≤2000000000000
 first:0≤l.first∧l.first≤2199023255552
 segs:∀s∈l.segs,(1≤s.n∧s.n≤2000000000000)∧(0≤s.first∧s.first≤2199023255552)∧(0≤s.size∧s.size≤16777216)∧(s.ps.length:Int)≤s.size∧∀p∈s.ps,p.length≤1024
 few:l.segs.length≤64
 safe:0≤l.safe∧l.safe≤4398046511104
 chain:∀(k:Nat) s s',l.segs[k]? = some s→l.segs[k+1]? = some s'→s'.first=s.next
theorem LInv.next{l:LM}(h:LInv l):0≤l.next∧l.next≤4000000000000:=by
 unfold LM.next LM.cur
 cases e:l.segs.getLast? with
 | none=>have:=h.first;simp only;omega
 | some s=>
  obtain⟨h1,h2,h3,h4,_⟩:=h.segs s (List.mem_of_getLast? e);simp only[Sg.next];omega
theorem QVJ{fs:List DF}(hs:Sorted fs){i:Nat}{f g:DF}(hf:fs[i]? = some f)(hk:g.key=f.key)(k:Key):(QCP (fs.set i g) k).isSome=(QCP fs k).isSome:=by
 rw[QF1 hs hf hk];split
 ·rename_i e
  rw[e,(QD8 hs).2 ⟨List.mem_of_getElem? hf,rfl⟩];rfl
 ·rfl
theorem QXi{m:DM}{nm:ByteArray}{g:Nat→DF→DM→DM×Int}(hI:DInv m)(h:∀i f,m.fs[i]? = some f→∀k,(QCP (g i f m).1.fs k).isSome=(QCP m.fs k).isSome)(k:Key):(QCP (QBX m nm g).1.fs k).isSome=(QCP m.fs k).isSome:=by
 unfold QBX;split
 ·rfl
 split
 ·rfl
 ·rename_i ht
  exact h _ _ (QCK (by simpa using ht)).1 k
theorem QNY{m:DM}{φ:List DF→List DF}(h:∀k,(QCP (φ m.fs) k).isSome=(QCP m.fs k).isSome)(k:Key):(QCP (QD3 m fun m=>{ m with fs:=φ m.fs }).1.fs k).isSome=(QCP m.fs k).isSome:=by
 rcases QHC m φ with hx|hx
 ·rw[hx.2]
 ·rw[hx.files];exact h k
theorem QZT{m:DM}(hI:DInv m)(nm:ByteArray)(k:Key):(QCP (QBE m nm).1.fs k).isSome=(QCP m.fs k).isSome:=
 QXi hI (fun i f hf k=>QNY (φ:=fun fs=>fs.set i { f with sy:=f.b.length }) (fun k=>QVJ (g:=⟨f.nm,f.b,(f.b.length:Int)⟩) hI.sorted hf rfl k) k) k
theorem QWI{m:DM}(hI:DInv m)(nm:ByteArray)(n:Int)(k:Key):(QCP (QBP m nm n).1.fs k).isSome=(QCP m.fs k).isSome:=by
 refine QXi hI (fun i f hf k=>?_) k;split
 ·rfl
 ·exact QNY (φ:=fun fs=>fs.set i { f with b:=f.b.take n.toNat,sy:=if n<f.sy then n else f.sy }) (fun k=>QVJ (g:=⟨f.nm,f.b.take n.toNat,if n<f.sy then n else f.sy⟩) hI.sorted hf rfl k) k
theorem QbH{m:DM}(hI:DInv m)(n:Int):DInv (QD7 m n).1:=by
 unfold QD7
 (try simp only)
 generalize ht:(if (QAv (QAX m (fN n)).1).2<(QAX m (fN n)).1.length then QBP m (fN n) (QAv (QAX m (fN n)).1).2 else (m,0))=t
 have hT:DInv t.1:=by
  rw[←ht];split
  ·exact QFL hI _ _
  ·exact hI
 split
 ·exact hT
 ·exact QO5 hT _
theorem QQJ{m:DM}(hI:DInv m)(n:Int)(k:Key):(QCP (QD7 m n).1.fs k).isSome=(QCP m.fs k).isSome:=by
 unfold QD7
 (try simp only)
 generalize ht:(if (QAv (QAX m (fN n)).1).2<(QAX m (fN n)).1.length then QBP m (fN n) (QAv (QAX m (fN n)).1).2 else (m,0))=t
 have hT:DInv t.1∧(QCP t.1.fs k).isSome=(QCP m.fs k).isSome:=by
  rw[←ht];split
  ·exact⟨QFL hI _ _,QWI hI _ _ k⟩
  ·exact⟨hI,rfl⟩
 split
 ·exact hT.2
 ·rw[QZT hT.1];exact hT.2
theorem Qdk{fs:List DF}{f:DF}(h:f∈fs):f.b.length≤QBo fs:=by
 obtain⟨i,hi⟩:=List.mem_iff_getElem?.1 h;have:=QBg hi;omega
theorem QP0{m:DM}(hI:DInv m)(nm:ByteArray):(QAX m nm).1.length≤16777216:=by
 cases h:QCP m.fs nm.toList with
 | none=>rw[QRi hI h];simp
 | some f=>
  rw[QLv hI h];have:=Qdk (QIV h);have:=hI.used;have:=hI.room;simp only;omega
theorem QVr{m:DM}(hI:DInv m){nm:ByteArray}(h:(QAX m nm).2=0):(QCP m.fs nm.toList).isSome=true:=by
 cases e:QCP m.fs nm.toList with
 | none=>rw[QRi hI e]at h;cases h
 | some f=>rfl
theorem QNb:∀(n:Nat) (b:List UInt8),b.length≤n→(QAv b).1.length≤(QAv b).2
 | 0,b,h=>by
  have hb:b=[]:=List.eq_nil_of_length_eq_zero (by omega);subst hb;rw[QMG (by decide)];simp
 | n+1,b,h=>by
  by_cases hg:(QBN b).2.2=0
  ·obtain⟨a1,a2,a3,a4,_⟩:=QMM hg;have hd:(b.drop (QBN b).2.1).length=b.length - (QBN b).2.1:=List.length_drop;have:=QNb n (b.drop (QBN b).2.1) (by omega);rw[QS4 hg];simp only[List.length_cons];omega
  ·rw[QMG hg];simp
structure ReadI(n0 f0:Int)(m:DM)(l:LM):Prop where
 inv:DInv m
 n:l.n=n0
 first:l.first=f0
 safe:l.safe=0
 segs:∀(j:Nat) s,l.segs[j]? = some s→s.n=n0+j∧(QCP m.fs (fK s.n)).isSome=true∧(0≤s.first∧s.first≤1099511627776+16777216*(j:Int))∧(0≤s.size∧s.size≤16777216)∧(s.ps.length:Int)≤s.size∧∀p∈s.ps,p.length≤1024
 next:0≤l.next∧l.next≤1099511627776+16777216*(l.segs.length:Int)
 chain:∀(k:Nat) s s',l.segs[k]? = some s→l.segs[k+1]? = some s'→s'.first=s.next
theorem QYq(l:LM)(s:Sg):({ l with segs:=l.segs++[s] }:LM).next=s.next:=by
 unfold LM.next LM.cur;simp
theorem QFi{α:Type}{l:List α}{x:α}(h:l.getLast? = some x):l[l.length - 1]? = some x:=by
 rw[List.getLast?_eq_getElem?]at h;exact h
theorem QRw{l:LM}{s:Sg}(h:l.segs[l.segs.length - 1]? = some s):l.next=s.next:=by
 unfold LM.next LM.cur;rw[List.getLast?_eq_getElem?,h]
theorem QNq{l:LM}{x:Sg}(h:∀(k:Nat) s s',l.segs[k]? = some s→l.segs[k+1]? = some s'→s'.first=s.next)(hx:x.first=l.next) :
  ∀(k:Nat) s s',(l.segs++[x])[k]? = some s→(l.segs++[x])[k+1]? = some s'→s'.first=s.next:=by
 intro k s s' h1 h2;have hk:=(List.getElem?_eq_some_iff.1 h2).1;simp at hk;rw[List.getElem?_append_left hk]at h1;by_cases e:k+1<l.segs.length
 ·rw[List.getElem?_append_left e]at h2;exact h k s s' h1 h2
 ·have:k+1=l.segs.length:=by omega
  rw[List.getElem?_append_right (by omega),this,Nat.sub_self]at h2;have h2:=Option.some.inj h2;subst h2;rw[hx,QRw (by rw[←this];exact h1)]
theorem ReadI.start{n0 f0:Int}{m:DM}(hI:DInv m)(hf:0≤f0∧f0≤1099511627776):ReadI n0 f0 m ⟨n0,f0,[],0⟩:=
 ⟨hI,rfl,rfl,rfl,fun j s h=>by simp at h,by show 0≤f0∧f0≤_;simp;omega,fun k s s' h=>by simp at h⟩
theorem QR0{fs:List DF}{n0:Nat}(h0:1≤n0){n:Nat}(h:∀i,i<n→(QCP fs (fK ((n0+i:Nat):Int))).isSome=true):n≤fs.length:=by
 have:=QIw (l:=(List.range n).map fun i=>fK ((n0+i:Nat):Int)) (m:=fs.map DF.key) (by
  refine List.pairwise_map.2 ?_
  exact List.nodup_range.imp fun {a b} hab e=>hab (by have:=QT6 (by omega) (by omega) e;omega)) (fun x hx=>by
  obtain⟨i,hi,rfl⟩:=List.mem_map.1 hx;have:=h i (List.mem_range.1 hi);obtain⟨f,hf⟩:=Option.isSome_iff_exists.1 this
  exact List.mem_map.2 ⟨f,QIV hf,QCN hf⟩)
 simpa using this
theorem ReadI.few{n0 f0:Int}{m:DM}{l:LM}(h:ReadI n0 f0 m l)(h0:1≤n0):l.segs.length≤64:=by
 obtain⟨k,hk⟩:=Int.eq_ofNat_of_zero_le (show 0≤n0 by omega);subst hk
 have:=QR0 (fs:=m.fs) (n0:=k) (by omega) (n:=l.segs.length) fun i hi=>by
  obtain⟨e,h2,_⟩:=h.segs i _ (List.getElem?_eq_getElem hi);rw[e]at h2;exact h2
 have:=h.inv.len;omega
theorem ReadI.more{n0 f0:Int}{m:DM}{l:LM}(h:ReadI n0 f0 m l)(h0:1≤n0)(hr:(QAX m (fN (n0+l.segs.length))).2=0) :
  ReadI n0 f0 (QD7 m (n0+l.segs.length)).1 { l with segs:=l.segs++[⟨n0+l.segs.length,l.next,(QAv (QAX m (fN (n0+l.segs.length))).1).2,(QAv (QAX m (fN (n0+l.segs.length))).1).1⟩] }:=by
 have hlen:=QP0 h.inv (fN (n0+l.segs.length));obtain⟨u1,u2,u3⟩:=QIl _ (QAX m (fN (n0+l.segs.length))).1 (Nat.le_refl _);have u4:=QNb _ (QAX m (fN (n0+l.segs.length))).1 (Nat.le_refl _);refine⟨QbH h.inv _,h.n,h.first,h.safe,fun j s hs=>?_,?_,QNq h.chain rfl⟩
 ·by_cases hj:j<l.segs.length
  ·rw[List.getElem?_append_left hj]at hs;obtain⟨a1,a2,a3⟩:=h.segs j s hs;exact⟨a1,by rw[QQJ h.inv];exact a2,a3⟩
  ·have hl:=(List.getElem?_eq_some_iff.1 hs).1;simp at hl
   obtain rfl:j=l.segs.length:=by omega
   rw[List.getElem?_append_right (Nat.le_refl _),Nat.sub_self]at hs;have hs:=Option.some.inj hs;subst hs;have:=h.next;refine⟨rfl,by rw[QQJ h.inv];exact QVr h.inv hr,by simp only;omega,by simp only;omega,by simp only;omega,fun p hp=>u3 p hp⟩
 ·rw[QYq];have:=h.next;simp only[Sg.next,List.length_append,List.length_singleton];omega
theorem ReadI.linv{n0 f0:Int}{m:DM}{l:LM}(h:ReadI n0 f0 m l)(h0:1≤n0∧n0≤999999999999)(hf:0≤f0∧f0≤1099511627776):LInv l:=by
 have hfew:=h.few h0.1;refine⟨by rw[h.n];omega,by rw[h.first];omega,fun s hs=>?_,hfew,by rw[h.safe];omega,h.chain⟩;obtain⟨j,hj⟩:=List.mem_iff_getElem?.1 hs;obtain⟨a1,a2,a3,a4,a5,a6⟩:=h.segs j s hj;have:=(List.getElem?_eq_some_iff.1 hj).1;exact⟨by omega,by omega,a4,a5,a6⟩
theorem QLO(m:DM)(h:(QCz m).2.2=0):(1≤(QCz m).1∧(QCz m).1≤999999999999)∧(0≤(QCz m).2.1∧(QCz m).2.1≤1099511627776):=by
 unfold QCz at h⊢;split
 ·exact⟨by decide,by decide⟩
 rename_i h1
 rw[if_neg h1]at h;simp only at h⊢;split
 ·rename_i h2;rw[if_pos h2]at h;cases h
 rename_i h2
 rw[if_neg h2]at h;split
 ·rename_i h3;rw[if_pos h3]at h;cases h
 ·rename_i h3
  (try simp only)
  omega
end Go.Cx
namespace Go.Cx
open Go Go.Cf
set_option linter.unusedVariables false
set_option maxRecDepth 100000
end Go.Cx
namespace Go.Cx
open Go Go.Cf
set_option linter.unusedVariables false
set_option maxRecDepth 100000
end Go.Cx
namespace Go.Cx
open Go Go.Cf
set_option linter.unusedVariables false
set_option maxRecDepth 100000
abbrev KY:=Int×Int
def ltK(a b:KY):Bool:=decide (a.1<b.1)||(decide (a.1=b.1)&&decide (a.2<b.2))
theorem QPM{a b:KY}:ltK a b=true↔a.1<b.1∨(a.1=b.1∧a.2<b.2):=by
 unfold ltK;simp only[Bool.or_eq_true,Bool.and_eq_true,decide_eq_true_eq]
theorem QMo(a:KY):ltK a a=false:=by
 rw[Bool.eq_false_iff];intro h;rcases QPM.1 h with h|h<;>omega
theorem QJD{a b c:KY}(h1:ltK a b=true)(h2:ltK b c=true):ltK a c=true:=by
 rw[QPM]at *;omega
theorem QSY(a b:KY):ltK a b=true∨a=b∨ltK b a=true:=by
 rw[QPM,QPM];by_cases h:a=b
 ·exact .inr (.inl h)
 ·have:a.1≠b.1∨a.2≠b.2:=by
   by_cases h1:a.1=b.1
   ·exact .inr fun h2=>h (Prod.ext h1 h2)
   ·exact .inl h1
  omega
theorem QI2{a b:KY}(h:ltK a b=true):ltK b a=false:=by
 rw[Bool.eq_false_iff];intro h2;have:=QJD h h2;rw[QMo]at this;cases this
abbrev QSp(l:List KY):Prop:=l.Pairwise fun a b=>ltK a b=true
structure Pg(α:Type) where
 ks:List KY
 vs:List Int
 kids:List α
def PT:Nat→Type
 | 0=>Pg Empty
 | n+1=>Pg (PT n)
def mix:List KY→List (List KY)→List KY
 | ks,[]=>ks
 | [],l::_=>l
 | k::ks,l::ls=>l++k::mix ks ls
def QBl:(n:Nat)→PT n→List KY
 | 0,(p:Pg Empty)=>p.ks
 | n+1,(p:Pg (PT n))=>mix p.ks (p.kids.map (QBl n))
def QFs:(n:Nat)→PT n→Prop
 | 0,(p:Pg Empty)=>p.ks.length≤15∧p.vs.length=p.ks.length
 | n+1,(p:Pg (PT n))=>p.ks.length≤15∧p.vs.length=p.ks.length∧p.kids.length=p.ks.length+1∧∀k∈p.kids,QFs n k
def QMt:List KY→List (List KY)→Nat→List KY
 | k::ks,l::ls,i+1=>l++k::QMt ks ls i
 | _,_,_=>[]
def QLc:List KY→List (List KY)→Nat→List KY
 | k::ks,_::ls,i+1=>QLc ks ls i
 | k::ks,_::ls,0=>k::mix ks ls
 | _,_,_=>[]
theorem QNe:∀{ks:List KY}{ls:List (List KY)}(i:Nat) {x:List KY},ls.length=ks.length+1→ls[i]? = some x→mix ks ls=QMt ks ls i++(x++QLc ks ls i)
 | ks,[],i,x,h,hx=>by simp at h
 | [],[l],0,x,h,hx=>by
  obtain rfl:l=x:=by simpa using hx
  simp[mix,QMt,QLc]
 | [],[l],i+1,x,h,hx=>by simp at hx
 | [],l::l2::ls,i,x,h,hx=>by simp at h
 | k::ks,l::ls,0,x,h,hx=>by
  obtain rfl:l=x:=by simpa using hx
  simp[mix,QMt,QLc]
 | k::ks,l::ls,i+1,x,h,hx=>by
  have ih:=QNe (ks:=ks) (ls:=ls) i (x:=x) (by simpa using h) (by simpa using hx);simp only[mix,QMt,QLc,ih,List.append_assoc,List.cons_append]
theorem QZL:∀{ks:List KY}{ls:List (List KY)}(i:Nat) (x:List KY),ls.length=ks.length+1→i<ls.length→mix ks (ls.set i x)=QMt ks ls i++(x++QLc ks ls i)
 | ks,[],i,x,h,hx=>by simp at h
 | [],[l],0,x,h,hx=>by simp[mix,QMt,QLc]
 | [],[l],i+1,x,h,hx=>by simp at hx
 | [],l::l2::ls,i,x,h,hx=>by simp at h
 | k::ks,l::ls,0,x,h,hx=>by simp[mix,QMt,QLc]
 | k::ks,l::ls,i+1,x,h,hx=>by
  have ih:=QZL (ks:=ks) (ls:=ls) i x (by simpa using h) (by simpa using hx);simp only[List.set_cons_succ,mix,QMt,QLc,ih,List.append_assoc,List.cons_append]
def QAx{α:Type}(l:List α)(i:Nat)(x:α):List α:=l.take i++x::l.drop i
theorem QCI{α:Type}(l:List α)(i:Nat)(x:α):(QAx l i x).length=l.length+1:=by
 unfold QAx;have:=congrArg List.length (List.take_append_drop i l);simp only[List.length_append,List.length_cons]at this⊢;omega
theorem QQr:∀{ks:List KY}{ls:List (List KY)}(i:Nat) (m:KY) (a b:List KY),ls.length=ks.length+1→i<ls.length→mix (QAx ks i m) (QAx (ls.set i a) (i+1) b)=QMt ks ls i++((a++m::b)++QLc ks ls i)
 | ks,[],i,m,a,b,h,hx=>by simp at h
 | [],[l],0,m,a,b,h,hx=>by simp[QAx,mix,QMt,QLc]
 | [],[l],i+1,m,a,b,h,hx=>by simp at hx
 | [],l::l2::ls,i,m,a,b,h,hx=>by simp at h
 | k::ks,l::ls,0,m,a,b,h,hx=>by
  cases ls with
  | nil=>simp at h
  | cons l2 ls=>simp[QAx,mix,QMt,QLc]
 | k::ks,l::ls,i+1,m,a,b,h,hx=>by
  have ih:=QQr (ks:=ks) (ls:=ls) i m a b (by simpa using h) (by simpa using hx);simp only[QAx]at ih;simp only[QAx,List.set_cons_succ,List.take_succ_cons,List.drop_succ_cons,List.cons_append,mix,QMt,QLc,ih,List.append_assoc]
theorem QT7:∀{ks:List KY}{ls:List (List KY)}(d:Nat) {m:KY},ls.length=ks.length+1→ks[d]? = some m→mix ks ls=mix (ks.take d) (ls.take (d+1))++m::mix (ks.drop (d+1)) (ls.drop (d+1))
 | [],ls,d,m,h,hm=>by simp at hm
 | ks,[],d,m,h,hm=>by simp at h
 | k::ks,[l],d,m,h,hm=>by simp at h
 | k::ks,l::l2::ls,0,m,h,hm=>by
  obtain rfl:k=m:=by simpa using hm
  simp[mix]
 | k::ks,l::l2::ls,d+1,m,h,hm=>by
  have ih:=QT7 (ks:=ks) (ls:=l2::ls) d (m:=m) (by simpa using h) (by simpa using hm);simp only[mix,List.take_succ_cons,List.drop_succ_cons,ih,List.append_assoc,List.cons_append]
theorem QRS:∀{ks:List KY}{ls:List (List KY)}(i:Nat) {k:KY},ls.length=ks.length+1→ks[i]? = some k→∃a,QMt ks ls (i+1)=a++[k]
 | [],ls,i,k,h,hk=>by simp at hk
 | k'::ks,[],i,k,h,hk=>by simp at h
 | k'::ks,l::ls,0,k,h,hk=>by
  obtain rfl:k'=k:=by simpa using hk
  exact⟨l,by cases ks<;>cases ls<;>simp[QMt]⟩
 | k'::ks,l::ls,i+1,k,h,hk=>by
  obtain⟨a,ha⟩:=QRS (ks:=ks) (ls:=ls) i (k:=k) (by simpa using h) (by simpa using hk);exact⟨l++k'::a,by rw[QMt,ha];simp⟩
theorem QZc(ks:List KY)(ls:List (List KY)):QMt ks ls 0=[]:=by cases ks<;>cases ls<;>simp[QMt]
theorem QL2:∀{ks:List KY}{ls:List (List KY)}(i:Nat) {k:KY},ls.length=ks.length+1→ks[i]? = some k→∃z,QLc ks ls i=k::z
 | [],ls,i,k,h,hk=>by simp at hk
 | k'::ks,[],i,k,h,hk=>by simp at h
 | k'::ks,l::ls,0,k,h,hk=>by
  obtain rfl:k'=k:=by simpa using hk
  exact⟨mix ks ls,rfl⟩
 | k'::ks,l::ls,i+1,k,h,hk=>by
  obtain⟨z,hz⟩:=QL2 (ks:=ks) (ls:=ls) i (k:=k) (by simpa using h) (by simpa using hk);exact⟨z,by rw[QLc,hz]⟩
theorem QVO:∀{ks:List KY}{ls:List (List KY)}(i:Nat),ks.length≤i→QLc ks ls i=[]
 | [],ls,i,h=>by simp[QLc]
 | k::ks,[],i,h=>by simp[QLc]
 | k::ks,l::ls,0,h=>by simp at h
 | k::ks,l::ls,i+1,h=>by rw[QLc];exact QVO i (by simpa using h)
def QKo(k:KY)(l:List KY):List KY:=if k∈l then l else l.filter (ltK · k)++k::l.filter (ltK k ·)
theorem QZW{k:KY}{a x z:List KY}(ha:∀y∈a,ltK y k=true)(hz:∀y∈z,ltK k y=true):QKo k (a++(x++z))=a++(QKo k x++z):=by
 have na:k∉a:=fun h=>by have:=ha k h;rw[QMo]at this;cases this
 have nz:k∉z:=fun h=>by have:=hz k h;rw[QMo]at this;cases this
 unfold QKo;by_cases h:k∈x
 ·rw[if_pos (by simp[h]),if_pos h]
 ·rw[if_neg (by simp[h,na,nz]),if_neg h];have e1:a.filter (ltK · k)=a:=List.filter_eq_self.2 ha;have e2:z.filter (ltK k ·)=z:=List.filter_eq_self.2 hz
  have e3:z.filter (ltK · k)=[]:=List.filter_eq_nil_iff.2 fun y hy=>by rw[QI2 (hz y hy)];decide
  have e4:a.filter (ltK k ·)=[]:=List.filter_eq_nil_iff.2 fun y hy=>by rw[QI2 (ha y hy)];decide
  simp only[List.filter_append,e1,e2,e3,e4,List.append_nil,List.nil_append,List.append_assoc,List.cons_append]
theorem QJp{k:KY}{l:List KY}(h:k∈l):QKo k l=l:=by unfold QKo;rw[if_pos h]
theorem QWY{a:List KY}{m k:KY}(hs:QSp (a++[m]))(hm:ltK m k=true):∀y∈a++[m],ltK y k=true:=by
 intro y hy;rcases List.mem_append.1 hy with h|h
 ·exact QJD ((List.pairwise_append.1 hs).2.2 y h m (by simp)) hm
 ·obtain rfl:y=m:=by simpa using h
  exact hm
theorem QOR{z:List KY}{m k:KY}(hs:QSp (m::z))(hm:ltK k m=true):∀y∈m::z,ltK k y=true:=by
 intro y hy;rcases List.mem_cons.1 hy with rfl|h
 ·exact hm
 ·exact QJD hm ((List.pairwise_cons.1 hs).1 y h)
theorem QeF{k:KY}{l:List KY}{i:Nat}(h1:∀y∈l.take i,ltK y k=true)(h2:∀y∈l.drop i,ltK k y=true):QKo k l=QAx l i k:=by
 have:=QZW (k:=k) (a:=l.take i) (x:=[]) (z:=l.drop i) h1 h2;rw[List.nil_append,List.take_append_drop]at this;rw[this];rfl
theorem QX4{k:KY}{l:List KY}(h:QSp l):QSp (QKo k l):=by
 unfold QKo;split
 ·exact h
 ·rename_i hk
  refine List.pairwise_append.2 ⟨h.filter _,List.pairwise_cons.2 ⟨fun y hy=>(List.mem_filter.1 hy).2,h.filter _⟩,fun a ha b hb=>?_⟩;have h1:=(List.mem_filter.1 ha).2;rcases List.mem_cons.1 hb with rfl|hb
  ·exact h1
  ·exact QJD h1 (List.mem_filter.1 hb).2
theorem QLB{k:KY}:∀(l:List KY),k∉l→(l.filter (ltK · k)).length+(l.filter (ltK k ·)).length=l.length
 | [],_=>rfl
 | y::r,hk=>by
  have hr:k∉r:=fun h=>hk (List.mem_cons_of_mem _ h);have ih:=QLB r hr;have hy:y≠k:=fun e=>hk (by rw[e];exact List.mem_cons_self ..);rcases QSY y k with h1|e|h1
  ·rw[List.filter_cons_of_pos (p:=fun x=>ltK x k) h1,List.filter_cons_of_neg (p:=fun x=>ltK k x) (by rw[QI2 h1];decide),List.length_cons,List.length_cons];omega
  ·exact absurd e hy
  ·rw[List.filter_cons_of_neg (p:=fun x=>ltK x k) (by rw[QI2 h1];decide),List.filter_cons_of_pos (p:=fun x=>ltK k x) h1,List.length_cons,List.length_cons];omega
theorem QZp{k:KY}{l:List KY}(h:k∉l):(QKo k l).length=l.length+1:=by
 unfold QKo;rw[if_neg h,List.length_append,List.length_cons];have:=QLB l h;omega
def Qhb(a b:KY)(l:List KY):List KY:=l.filter fun x=>!(ltK x a)&&ltK x b
def plK(ks:List KY)(k:KY):Nat:=(ks.takeWhile (ltK · k)).length
theorem QMi(ks:List KY)(k:KY):plK ks k≤ks.length:=(List.takeWhile_sublist _).length_le
theorem QUz{ks:List KY}{k:KY}:∀j y,j<plK ks k→ks[j]? = some y→ltK y k=true:=by
 intro j y hj hy;have hp:ks.takeWhile (ltK · k) <+: ks:=List.takeWhile_prefix _
 have e:(ks.takeWhile (ltK · k))[j]? = some y:=by
  obtain⟨t,ht⟩:=hp;rw[←ht,List.getElem?_append_left hj]at hy;exact hy
 exact List.all_eq_true.1 (List.all_takeWhile (p:=fun x=>ltK x k) (l:=ks)) y (List.mem_of_getElem? e)
theorem QR7{ks:List KY}{k y:KY}(h:ks[plK ks k]? = some y):ltK y k=false:=by
 unfold plK at h
 induction ks with
 | nil=>simp at h
 | cons x r ih=>
  cases hx:ltK x k with
  | true=>
   rw[List.takeWhile_cons_of_pos (p:=fun x=>ltK x k) hx]at h;simp only[List.length_cons,List.getElem?_cons_succ]at h;exact ih h
  | false=>
   rw[List.takeWhile_cons_of_neg (p:=fun x=>ltK x k) (by rw[hx];decide)]at h
   obtain rfl:x=y:=by simpa using h
   exact hx
theorem Qa9{ks:List KY}{ls:List (List KY)}{k:KY}(hl:ls.length=ks.length+1)(hs:QSp (mix ks ls)):∀y∈QMt ks ls (plK ks k),ltK y k=true:=by
 cases hp:plK ks k with
 | zero=>rw[QZc];simp
 | succ i=>
  have hi:i<ks.length:=by have:=QMi ks k;omega
  have hk:ks[i]? = some ks[i]:=List.getElem?_eq_getElem hi;obtain⟨a,ha⟩:=QRS i hl hk;have hx:ls[i+1]? = some ls[i+1]:=List.getElem?_eq_getElem (by omega);rw[QNe (i+1) hl hx,ha]at hs;rw[ha];exact QWY (List.pairwise_append.1 hs).1 (QUz i _ (by omega) hk)
theorem QXt{ks:List KY}{ls:List (List KY)}{k:KY}(hl:ls.length=ks.length+1)(hs:QSp (mix ks ls))(hn:ks[plK ks k]?≠some k):∀y∈QLc ks ls (plK ks k),ltK k y=true:=by
 by_cases hp:plK ks k<ks.length
 ·have hk:ks[plK ks k]? = some ks[plK ks k]:=List.getElem?_eq_getElem hp;obtain⟨z,hz⟩:=QL2 (plK ks k) hl hk;have hx:ls[plK ks k]? = some ls[plK ks k]:=List.getElem?_eq_getElem (by omega);rw[QNe (plK ks k) hl hx,hz]at hs;rw[hz];refine QOR (List.pairwise_append.1 (List.pairwise_append.1 hs).2.1).2.1 ?_;rcases QSY k ks[plK ks k]with h|h|h
  ·exact h
  ·rw[hk,←h]at hn;exact absurd rfl hn
  ·rw[QR7 hk]at h;cases h
 ·rw[QVO _ (by omega)];simp
theorem Qde{ks:List KY}{ls:List (List KY)}{i:Nat}{k:KY}(hl:ls.length=ks.length+1)(hk:ks[i]? = some k):k∈mix ks ls:=by
 have hi:=(List.getElem?_eq_some_iff.1 hk).1;have hx:ls[i]? = some ls[i]:=List.getElem?_eq_getElem (by omega);obtain⟨z,hz⟩:=QL2 i hl hk;rw[QNe i hl hx,hz];simp
theorem QU4{ks:List KY}{k:KY}(hs:QSp ks)(hn:ks[plK ks k]?≠some k):QAx ks (plK ks k) k=QKo k ks:=by
 refine (QeF (fun y hy=>?_) fun y hy=>?_).symm
 ·obtain⟨j,hj⟩:=List.getElem?_of_mem hy;rw[List.getElem?_take]at hj;split at hj
  ·rename_i h;exact QUz j y h hj
  ·cases hj
 ·by_cases hp:plK ks k<ks.length
  ·have hk:ks[plK ks k]? = some ks[plK ks k]:=List.getElem?_eq_getElem hp;rw[List.drop_eq_getElem_cons hp]at hy
   have hs':QSp (ks[plK ks k]::ks.drop (plK ks k+1)):=by
    rw[←List.drop_eq_getElem_cons hp];exact hs.sublist (List.drop_sublist _ _)
   refine QOR hs' ?_ y hy;rcases QSY k ks[plK ks k]with h|h|h
   ·exact h
   ·rw[hk,←h]at hn;exact absurd rfl hn
   ·rw[QR7 hk]at h;cases h
  ·rw[List.drop_of_length_le (by omega)]at hy;simp at hy
end Go.Cx
namespace Go.Cf
open Go
set_option linter.unusedVariables false
section
variable {P:Program}{t u ty e:TypeId}{sz by_:Nat}{w:World}
theorem QRq(hok:QIK P t e sz by_=true)(hu:P.underlying u=some .string){str:ByteArray}{sc:Nat}{cs:List Value}(hf:(Builtin.firstCells sz str.size (.string str)).run P w=.ok cs.toArray w){sn:Nat}(hroom:sn+str.size≤sc) :
  (Builtin.append_ #[t,u] ty #[.slice none sn sc,.string str]).run P w=.ok (.slice none (sn+str.size) sc) w:=by
 obtain⟨i,z,ht,hi,hsize,hbytes,hpos,hz,hzs⟩:=QBs hok;subst hsize;simp[Builtin.append_,run_underlying ht,run_underlying hu,sizeOf,typeInfo,hi,Builtin.lenOf,hroom,hf]
theorem QRH(hok:QIK P t e sz by_=true)(hu:P.underlying u=some .string){str:ByteArray}{a:Addr}{sn sc:Nat}{cs:List Value}(hf:(Builtin.firstCells sz str.size (.string str)).run P w=.ok cs.toArray w)(hroom:sn+str.size≤sc){w':World}
  (hs:(storeCells (a.add (sn*sz)) cs).run P w=.ok () w'):(Builtin.append_ #[t,u] ty #[.slice (some a) sn sc,(.string str)]).run P w=.ok (.slice (some a) (sn+str.size) sc) w':=by
 obtain⟨i,z,ht,hi,hsize,hbytes,hpos,hz,hzs⟩:=QBs hok;subst hsize;simp[Builtin.append_,run_underlying ht,run_underlying hu,sizeOf,typeInfo,hi,Builtin.lenOf,hroom,hf,hs]
theorem QPf(hok:QIK P t e sz by_=true)(hu:P.underlying u=some .string){str:ByteArray}{p:Option Addr}{sn sc:Nat}{os cs:List Value}(hfs:∀w2:World,mem w2=mem w→(Builtin.firstCells sz sn (.slice p sn sc)).run P w2=.ok os.toArray w2)
  (hf:∀w2:World,mem w2=mem w→(Builtin.firstCells sz str.size (.string str)).run P w2=.ok cs.toArray w2) (hroom:¬sn+str.size≤sc) (hb:(sn+str.size)*by_≤140737488355328) {zl:List Value}(hzl:QEw P e=some zl) :
  ∃(k:Nat),sn+str.size≤k∧k≤9223372036854775807∧(Builtin.append_ #[t,u] ty #[.slice p sn sc,(.string str)]).run P w=.ok (.slice (some ⟨w.heap.size,0,none⟩) (sn+str.size) k) (w.drew.alloc (.cells (os++cs++QIO zl (k - (sn+str.size))).toArray e)):=by
 obtain⟨i,z,ht,hi,hsize,hbytes,hpos,hz,hzs⟩:=QBs hok;subst hsize;subst hbytes;have h48:=growslice_fits (by omega:sc<sn+str.size) hb
 have h63:¬(9223372036854775807<((sn:Int)+(str.size:Int))):=by
  have:sn+str.size≤(sn+str.size)*i.bytes:=Nat.le_mul_of_pos_right _ hpos;omega
 have h48':¬(281474976710656<Builtin.nextslicecap (sn+str.size) sc*i.bytes):=by omega
 have hf1:=hf w.drew rfl;have hf2:=hfs w.drew rfl;obtain⟨i',z',hi',hz',rfl⟩:=QCF hzl
 obtain rfl:i'=i:=by rw[hi]at hi';exact (Option.some.inj hi').symm
 obtain rfl:z'=z:=by rw[hz]at hz';exact (Option.some.inj hz').symm
 have hzc:∀m,Builtin.zeroCells z'.cells m=(QIO z'.cells.toList m).toArray:=fun m=>by rw[←QEC];rfl
 refine⟨grownCap w (sn+str.size) sc e,QY1 w _ _ _,QYF w _ _ _ (by omega),?_⟩;simp[Builtin.append_,run_underlying ht,run_underlying hu,sizeOf,typeInfo,zeroValue,hi,hz,Builtin.lenOf,hroom,h63,h48',Question.forced,hf1,hf2,newRow,grownCap,hzc]
end
variable {B:QBG}{As:List HP}
theorem QRr{P:Program}{t u ty e:TypeId}{by_:Nat}(hok:QIK P t e 1 by_=true)(hu:P.underlying u=some .string)(hz:QEw P e=some (U8.f U8.zero)){s:Sl}{str:ByteArray}{xs ys:List UInt8}(hst:ys=str.data.toList){F:List HP}{w:World}(hw:Sx B (Ar U8 s xs::F) w)
  (hb:(xs.length+ys.length)*by_≤140737488355328) :
  ∃s' w',(Builtin.append_ #[t,u] ty #[s.v,.string str]).run P w=.ok (Sl.v s') w'∧Sx B (Ar U8 s' (xs++ys)::F) w':=by
 obtain⟨p,sn,sc⟩:=s
 have hyn:ys.length=str.size:=by rw[hst];simp
 have hfy:∀w2:World,mem w2=mem w→(Builtin.firstCells U8.sz str.size (.string str)).run P w2=.ok (QAg U8 ys).toArray w2:=fun w2 _=>by
  have e:(str.extract 0 str.size).data.map (fun b=>Value.int .u8 (b.toNat:Int))=(QAg U8 ys).toArray:=by
   have e0:QAg U8 ys=ys.map fun b=>Value.int .u8 (b.toNat:Int):=(List.map_eq_flatMap ..).symm;rw[ByteArray.extract_zero_size,e0,hst];rw[←Array.toList_inj];simp
  show (pure _:Sem (Array Value)).run P w2=_;rw[e];rfl
 have hw0:=hw;obtain⟨g,⟨h1,h2,⟨zs,p1⟩,p2,dd,s1,s2⟩,hsub,hupd⟩:=hw;have hxr:RAr U8 ⟨p,sn,sc⟩ xs (mem w):=p1.read.mono (s1.trans hsub);have hfx:=fun(w2:World) (h:mem w2=mem w)=>RArr.first (P:=P) (w:=w2) (by rw[h];exact hxr.2)
 have hxn:xs.length=sn:=p1.1;have hxc:xs.length+zs.length=sc:=p1.2.1;by_cases hroom:sn+str.size≤sc
 ·cases p with
  | none=>
   have h0:sc=0:=by
    rcases p1.2.2 with⟨_,h⟩|⟨b,o,_,_,_,_,h,_⟩
    ·exact h
    ·cases h
   have hys:ys=[]:=List.eq_nil_of_length_eq_zero (by omega)
   have hn0:str.size=0:=by omega
   subst hys;refine⟨⟨none,sn+str.size,sc⟩,w,QRq hok hu (hfy w rfl) hroom,?_⟩;rw[List.append_nil,hn0];exact hw0
  | some a=>
   rcases p1.2.2 with⟨h,_⟩|⟨b,o,pre,post,e1,fr,hp,hbk,ho,hfr,hM⟩
   ·cases h
   ·simp only[Option.some.injEq]at hp;subst hp;have hwb:w.heap[b]? = some (.cells (pre++QAg U8 (xs++zs)++post).toArray e1 fr):=hsub _ _ (s1 _ _ hbk);have hfl:=QAG U8 xs;have hfly:=QAG U8 ys
    have hzl:ys.length≤zs.length:=by omega
    have hzsplit:QAg U8 (xs++zs)=QAg U8 xs++QAg U8 (zs.take ys.length)++QAg U8 (zs.drop ys.length):=by
     rw[←QAQ,←QAQ,List.append_assoc,List.take_append_drop]
    obtain⟨w',r1,r2,r3,r4,r5,r6,r7⟩:=QCT (P:=P) b e1 fr (QAg U8 ys) (o+sn*U8.sz) 0 (pre++QAg U8 (xs++zs)++post) w hwb (by
     have:(xs.length+ys.length)*U8.sz≤(xs.length+zs.length)*U8.sz:=Nat.mul_le_mul_right _ (by omega);rw[Nat.add_mul]at this
     simp only[List.length_append,QAG,hfly,ho,←hxn];omega) hfr (QIn U8 ys)
    have hseg:QEN (QAg U8 ys) (o+sn*U8.sz+0) (pre++QAg U8 (xs++zs)++post)=pre++QAg U8 (xs++ys++zs.drop ys.length)++post:=by
     have:=QFb (QAg U8 ys) (pre++QAg U8 xs) (QAg U8 (zs.take ys.length)) (QAg U8 (zs.drop ys.length)++post) (by rw[QAG,QAG,List.length_take,Nat.min_eq_left hzl]);rw[List.length_append,ho,hfl,hxn]at this;rw[Nat.add_zero,hzsplit,QAQ,QAQ];simp only[List.append_assoc]at this⊢;exact this
    rw[hseg]at r2;refine⟨⟨some ⟨b,o,none⟩,sn+str.size,sc⟩,w',QRH hok hu (hfy w rfl) hroom (by rw[QCM];exact r1),?_⟩;have hst:Sx B (Blk b (pre++QAg U8 (xs++zs)++post)::F) w:=⟨g,⟨h1,h2,⟨e1,fr,hbk,hfr⟩,p2,dd,s1,s2⟩,hsub,hupd⟩
    have:=hst.write (cs':=pre++QAg U8 (xs++ys++zs.drop ys.length)++post) hwb r3 r2 (by
     simp only[List.length_append,List.length_drop,QAG]
     have:xs.length+ys.length+(zs.length - ys.length)=xs.length+zs.length:=by omega
     rw[this]) r4 r5 r6 r7
    obtain⟨g',hg',hm',hu'⟩:=this;exact⟨g',QA2 (fun q hq=>⟨zs.drop ys.length,Ars.of_blk hq rfl ho (by simp;omega) (by simp;omega) hM⟩) hg',hm',hu'⟩
 ·obtain⟨k,hk,hkM,hrun⟩:=QPf (ty:=ty) hok hu hfx hfy hroom (by rw[←hxn,←hyn];exact hb) hz;refine⟨⟨some ⟨w.heap.size,0,none⟩,sn+str.size,k⟩,_,hrun,?_⟩;have hd:Sx B (Ar U8 ⟨p,sn,sc⟩ xs::F) w.drew:=hw0.drew;have ha:=(hd.tail).alloc (QAg U8 xs++QAg U8 ys++QIO (U8.f U8.zero) (k - (sn+str.size))) e;obtain⟨g',hg',hm',hu'⟩:=ha;refine⟨g',QA2 (fun q hq=>⟨List.replicate (k - (sn+str.size)) U8.zero,?_⟩) hg',hm',hu'⟩;rw[QEJ,←QAQ,←QAQ]at hq;exact Ars.of_blk (pre:=[]) (post:=[]) (by simpa using hq) rfl rfl (by simp;omega) (by simp;omega) hkM
theorem Qfu{P:Program}{t u ty e:TypeId}{by_:Nat}{z:List Value}[a:QH9 P t e 1 by_ z](hu:P.underlying u=some .string){s:Sl}{xs:List UInt8}{str:ByteArray}{upd:Sl→List UInt8→List HP}{rest:List HP}{K:Sl→WP}[o:OwnA s As U8 xs upd rest]
  (hz:U8.f U8.zero=z:=by rfl) (hb:(xs.length+str.size)*by_≤140737488355328) (h:∀s',Ent B (upd s' (xs++str.data.toList)) (K s')):Ent B As (QSO P t u ty s.v (.string str) K):=by
 intro w hw;obtain⟨s',w',hr,hx⟩:=QRr (ty:=ty) a.ok hu (by rw[hz];exact a.zero) rfl (hw.perm o.start) (by simpa using hb);exact⟨s',w',hr,h s' w' (hx.perm (o.perm _ _).symm)⟩
end Go.Cf
namespace Go.Cf
open Go
set_option linter.unusedVariables false
variable {B:QBG}{As:List HP}{α:Type}
end Go.Cf
namespace Go.Cf
open Go
class App(L G:List HP)(R:outParam (List HP)):Prop where
 eq:L++G=R
instance App.nil(G:List HP):App [] G G:=⟨rfl⟩
instance App.cons(P:HP)(L G R:List HP)[a:App L G R]:App (P::L) G (P::R):=⟨by rw[List.cons_append,a.eq]⟩
section
variable {B:QBG}{As pre G L R:List HP}{P:Program}{f:FuncId}{args:List Value}{rs:Rs}{s t u:Sh}{rd:HP}
theorem xd0{K:WP}[q:Split pre As G](sp:Ct P f args rs [] pre rd (fun _ Bs=>Bs=L))[r:Rdb B G rd][a:App L G R](h:Ent B R K):Ent B As (QAe P f args rs [] K):=
 xcl sp rdb fun x Bs hp=>by subst hp;rw[a.eq];exact h
theorem xd1{K:s.ty→WP}{v:s.ty}[q:Split pre As G](sp:Ct P f args rs [s] pre rd (fun t Bs=>t.1=v∧Bs=L))[r:Rdb B G rd][a:App L G R](h:Ent B R (K v)):Ent B As (QAe P f args rs [s] K):=
 xcl sp rdb fun x Bs hp=>by
  obtain⟨y,z⟩:=x;obtain⟨h1,rfl⟩:=hp;simp only at h1;subst h1;rw[a.eq];exact h
theorem xd2{K:s.ty→t.ty→WP}{v:s.ty}{w:t.ty}[q:Split pre As G](sp:Ct P f args rs [s,t] pre rd (fun x Bs=>x.1=v∧x.2.1=w∧Bs=L))[r:Rdb B G rd][a:App L G R](h:Ent B R (K v w)):Ent B As (QAe P f args rs [s,t] K):=
 xcl sp rdb fun x Bs hp=>by
  obtain⟨y,z,z'⟩:=x;obtain⟨h1,h2,rfl⟩:=hp;simp only at h1 h2;subst h1 h2;rw[a.eq];exact h
theorem xn1{K:s.ty→WP}{L:s.ty→List HP}{post:Tup [s]→List HP→Prop}[q:Split pre As G](sp:Ct P f args rs [s] pre rd post)(hp:∀x Bs,post (x,()) Bs→Bs=L x)[r:Rdb B G rd]{R:s.ty→List HP}[a:∀x,App (L x) G (R x)](h:∀x,Ent B (R x) (K x)):Ent B As (QAe P f args rs [s] K):=
 xcl sp rdb fun x Bs hq=>by
  obtain⟨y,z⟩:=x;obtain rfl:=hp y Bs hq;rw[(a y).eq];exact h y
theorem xn2{K:s.ty→t.ty→WP}{w:t.ty}{L:s.ty→List HP}{post:Tup [s,t]→List HP→Prop}[q:Split pre As G](sp:Ct P f args rs [s,t] pre rd post)(hp:∀x y Bs,post (x,y,()) Bs→y=w∧Bs=L x)[r:Rdb B G rd]{R:s.ty→List HP}[a:∀x,App (L x) G (R x)](h:∀x,Ent B (R x) (K x w)):Ent B As (QAe P f args rs [s,t] K):=
 xcl sp rdb fun x Bs hq=>by
  obtain⟨y,z,z'⟩:=x;obtain⟨rfl,rfl⟩:=hp y z Bs hq;rw[(a y).eq];exact h y
end
end Go.Cf
