/-
Bytes and numbers as words.
-/
import Derived.Test.YthbhbkjkclhkgaaGreatDoorA3
import Derived.Laws.Strings
import Derived.Lib.Atoi
import Derived.Lib.ItoaNum
import Derived.Laws.BitsAllLaws
namespace Go.Cx
open Go Go.Cf
set_option linter.unusedVariables false
set_option maxRecDepth 100000
def BA(l:Ab):ByteArray:=⟨l.toArray⟩
theorem QhD(a b:Ab):BA a++BA b=BA (a++b):=by
 apply ByteArray.ext;simp[BA]
theorem QU1(a:Ab):(BA a).size=a.length:=by simp[BA,ByteArray.size]
theorem QQY(l:Ab):(BA l).data.toList=l:=by simp[BA]
theorem QCq(l:Ab):(BA l).toList=l:=by rw[ByteArray.toList_eq,QQY]
theorem QKY:ByteArray.empty.toList=[]:=Dk
theorem QRg{u:Nat}(h:u<10):Lib.decDigits u=[UInt8.ofNat (48+u)]:=by rw[Lib.decDigits,dif_pos h]
theorem Qbo{u:Nat}(h:¬u<10):Lib.decDigits u=Lib.decDigits (u / 10)++[UInt8.ofNat (48+u % 10)]:=by rw[Lib.decDigits,dif_neg h]
theorem QPy:∀(k u:Nat),u<10 ^ (k+1)->(Lib.decDigits u).length<=k+1
 | k,u,h=>by
  by_cases a:u<10
  ·rw[QRg a];simp
  ·cases k with
   | zero=>simp at h;omega
   | succ k=>
    rw[Qbo a,Wd,W8];have:=QPy k (u / 10) (by rw[Nat.pow_succ]at h;omega);omega
theorem QcP{n:Int}(h0 : -9223372036854775808<=n)(h1:n<=9223372036854775807):(Lib.itoa n).length<=21:=by
 unfold Lib.itoa;split
 ·have:=QPy 19 n.natAbs (by simp;omega);simp;omega
 ·have:=QPy 19 n.toNat (by simp;omega);omega
def QP8(b:UInt8):Bool:=decide (48<=b.toNat)&&decide (b.toNat<=57)
def Qhl(l:Ab):Nat:=l.foldl (fun a b=>a*10+(b.toNat - 48)) 0
theorem QZ8(l:Ab)(b:UInt8):Qhl (l++[b])=Qhl l*10+(b.toNat - 48):=by
 unfold Qhl;rw[Uu];rfl
theorem QHn:∀(n u:Nat),u<=n->Lib.decDigits u≠[]/\(Lib.decDigits u).all QP8=true/\Qhl (Lib.decDigits u)=u/\((Lib.decDigits u).length>1->(Lib.decDigits u)[0]?≠some 48)/\(1<=u->(Lib.decDigits u)[0]?≠some 48)
 | n,u,hu=>by
  have b:∀k,k<10->QP8 (UInt8.ofNat (48+k))=true/\(UInt8.ofNat (48+k)).toNat=48+k:=by
   intro k g
   have:(UInt8.ofNat (48+k)).toNat=48+k:=by rw[Ub];omega
   exact⟨by simp only[QP8,this,Wf,Wq];omega,this⟩
  by_cases h:u<10
  ·rw[QRg h];obtain⟨h1,a⟩:=b u h;refine⟨by simp,by simp only[List.all_cons,List.all_nil,Bool.and_true];exact h1,by simp only[Qhl,Zr,List.foldl_nil,a];omega,by simp,fun h0 e=>?_⟩;have e:=W3 e;have:=Uh UInt8.toNat e;rw[a]at this;simp at this;omega
  ·match n with
   | 0=>omega
   | n+1=>
    obtain⟨c,i2,i3,i4,i5⟩:=QHn n (u / 10) Om;obtain⟨h1,a⟩:=b (u % 10) Om;rw[Qbo h];refine⟨by simp,by rw[List.all_append,i2];simp only[List.all_cons,List.all_nil,Bool.and_true,Bool.true_and];exact h1,by rw[QZ8,i3,a];omega,fun _=>?_,fun _=>?_⟩
    all_goals
     have d:0<(Lib.decDigits (u / 10)).length:=Km.2 c;rw[Wj d];exact i5 Om
abbrev Key:=Ab
abbrev lt(a b:Key):Bool:=Op.bytesLess a b
theorem Qcd(a b:UInt8)(h1:¬a<b)(c:¬b<a):a=b:=by
 have d:¬a.toNat<b.toNat:=fun h=>h1 (Zi.2 h);have g:¬b.toNat<a.toNat:=fun h=>c (Zi.2 h);exact Z8.1 Om
theorem lt_irrefl:∀a:Key,lt a a=false:=by
 intro a
 induction a with
 | nil=>rfl
 | cons x a ih=>
  have:¬x<x:=fun h=>by have:=Zi.1 h;omega
  simp[lt,Op.bytesLess,this,ih]
theorem lt_trans:∀{a b c:Key},lt a b=true->lt b c=true->lt a c=true:=by
 intro a
 induction a with
 | nil=>
  intro b c h1 d
  cases c with
  | nil=>cases b<;>simp[lt,Op.bytesLess]at d
  | cons=>rfl
 | cons x a ih=>
  intro b c h1 d
  cases b with
  | nil=>simp[lt,Op.bytesLess]at h1
  | cons y b=>
   cases c with
   | nil=>simp[lt,Op.bytesLess]at d
   | cons z c=>
    simp only[lt,Op.bytesLess,Oz,Wq,Wf,Zq]at h1 d|-;rcases h1 with h1|⟨rfl,h1⟩
    ·rcases d with d|⟨rfl,d⟩
     ·exact .inl (Zi.2 (Nat.lt_trans (Zi.1 h1) (Zi.1 d)))
     ·exact .inl h1
    ·rcases d with d|⟨rfl,d⟩
     ·exact .inl d
     ·exact .inr ⟨rfl,ih h1 d⟩
theorem QcU:∀{a b:Key},lt a b=false->lt b a=false->a=b:=by
 intro a
 induction a with
 | nil=>intro b h1 _;cases b with
  | nil=>rfl
  | cons=>simp[lt,Op.bytesLess]at h1
 | cons x a ih=>
  intro b h1 c
  cases b with
  | nil=>simp[lt,Op.bytesLess]at c
  | cons y b=>
   simp only[lt,Op.bytesLess,O0,Wx,Uc,U1]at h1 c;have e:=Qcd x y h1.1 c.1;subst e;rcases h1.2 with h|h
   ·exact absurd rfl h
   ·rcases c.2 with d|d
    ·exact absurd rfl d
    ·rw[ih h d]
structure DF where
 nm:ByteArray
 b:Ab
 sy:Int
abbrev DF.key(f:DF):Key:=f.nm.toList
structure DM where
 armed:Bool
 down:Bool
 left:Int
 room:Int
 fs:List DF
def QBu(fs:List DF):Nat:=(fs.map fun f=>f.b.length).sum
def QDN(s:ByteArray):Bool:=decide ((s.size:Int)>=1)&&decide ((s.size:Int)<=16)
def Sorted(fs:List DF):Prop:=fs.Pairwise fun f g=>lt f.key g.key=true
def QAR(fs:List DF)(k:Key):Nat:=(fs.takeWhile fun f=>lt f.key k).length
def QAk(fs:List DF)(k:Key):Bool:=match fs[QAR fs k]? with
 | some f=>f.key == k
 | none=>false
theorem QGW(fs:List DF)(k:Key):QAR fs k<=fs.length:=(Z2 _).length_le
theorem QVi{fs:List DF}{k:Key}{i:Nat}(hi:i<=fs.length)(h1:∀t f,t<i->fs[t]? = some f->lt f.key k=true)(b:∀f,fs[i]? = some f->lt f.key k=false):QAR fs k=i:=by
 induction fs generalizing i with
 | nil=>simp at hi;subst hi;rfl
 | cons f fs ih=>
  cases i with
  | zero=>
   have:=b f rfl;simp[QAR,this]
  | succ i=>
   have h:=h1 0 f Om rfl;have:=ih (i:=i) (Si hi) (fun t g c a=>h1 (t+1) g Om (Si a)) (fun g a=>b g (Si a));simp only[QAR,List.takeWhile_cons,h,O7,Wl]at this|-;omega
theorem Qck{fs:List DF}{k:Key}:∀{t:Nat}{f:DF},t<QAR fs k->fs[t]? = some f->lt f.key k=true:=by
 induction fs with
 | nil=>intro t f _ h;simp at h
 | cons g fs ih=>
  intro t f c a
  cases b:lt g.key k with
  | false=>simp[QAR,b]at c
  | true=>
   cases t with
   | zero=>simp at a;subst a;exact b
   | succ t=>
    refine ih (t:=t) ?_ (Si a);simp only[QAR,List.takeWhile_cons,b,O7,Wl]at c;simp only[QAR];omega
theorem Qc9{fs:List DF}{k:Key}{f:DF}(h:fs[QAR fs k]? = some f):lt f.key k=false:=by
 induction fs with
 | nil=>simp at h
 | cons g fs ih=>
  cases a:lt g.key k with
  | false=>simp[QAR,a]at h;subst h;exact a
  | true=>
   refine ih ?_;simpa [QAR,a]using h
theorem Sorted.get{fs:List DF}(b:Sorted fs){i j:Nat}{f g:DF}(c:i<j)(d:fs[i]? = some f)(h:fs[j]? = some g):lt f.key g.key=true:=by
 obtain⟨h1,rfl⟩:=Wc.1 d;obtain⟨a,rfl⟩:=Wc.1 h;exact Kg.1 b i j h1 a c
theorem Qcp{fs:List DF}(d:Sorted fs){k:Key}{t:Nat}{f:DF}(j:QAR fs k<=t)(a:fs[t]? = some f):lt f.key k=false:=by
 have g:t<fs.length:=(Wc.1 a).1;have b:=Wa (l:=fs) (i:=QAR fs k) Om;have h0:=Qc9 b;rcases Zb (QAR fs k) t with h|h
 ·have h1:=d.get h b a
  cases c:lt f.key k with
  | false=>rfl
  | true=>have:=lt_trans h1 c;rw[h0]at this;cases this
 ·obtain rfl:t=QAR fs k:=Om
  rw[b]at a;cases a;exact h0
theorem QEw{fs:List DF}(h:Sorted fs){k:Key}{t:Nat}{f:DF}(b:fs[t]? = some f)(c:f.key=k):QAR fs k=t/\QAk fs k=true:=by
 have e:QAR fs k=t:=by
  refine QVi (Nat.le_of_lt (Wc.1 b).1) (fun s g d a=>?_) (fun g a=>?_)
  ·rw[<-c];exact h.get d a b
  ·rw[b]at a;cases a;rw[<-c];exact lt_irrefl _
 refine⟨e,?_⟩;unfold QAk;rw[e,b];simp[c]
theorem QN5{fs:List DF}{k:Key}(h:QAk fs k=true):∃f,fs[QAR fs k]? = some f/\f.key=k:=by
 unfold QAk at h;split at h
 ·rename_i f a;exact⟨f,a,Si h⟩
 ·cases h
theorem QZu{fs:List DF}(d:Sorted fs){k:Key}(h:QAk fs k=false):∀f∈fs,f.key≠k:=by
 intro f a b;obtain⟨t,c,rfl⟩:=List.getElem_of_mem a;have:=(QEw d (Wa c) b).2;rw[h]at this;cases this
def QK1(fs:List DF)(i:Nat)(f:DF):List DF:=fs.take i++f::fs.drop i
def QAr(m:DM):DM×Bool:=if m.armed&&m.left == 0 then ({ m with down:=true },false) else if m.armed then ({ m with left:=m.left - 1 },true) else (m,true)
def QAF(m:DM)(nm:ByteArray)(b:Ab):DM×Int:=
 if !(QDN nm) then (m,8)
 else if m.down then (m,10)
 else if (!(QAk m.fs nm.toList)&&decide ((m.fs.length:Int)>=64))||decide ((b.length:Int)>m.room - QBu m.fs) then (m,9)
 else if !(QAr m).2 then ((QAr m).1,10)
 else
  let i:=QAR m.fs nm.toList
  let fs:=if QAk m.fs nm.toList then m.fs else QK1 m.fs i ⟨nm,[],0⟩
  let f:=fs.getD i ⟨nm,[],0⟩
  ({ (QAr m).1 with fs:=fs.set i { f with b:=f.b++b } },0)
def QBb(m:DM)(nm:ByteArray)(g:Nat->DF->DM->DM×Int):DM×Int:=
 if m.down then (m,10)
 else if !(QAk m.fs nm.toList) then (m,6)
 else g (QAR m.fs nm.toList) (m.fs.getD (QAR m.fs nm.toList) ⟨nm,[],0⟩) m
def QD3(m:DM)(g:DM->DM):DM×Int:=if !(QAr m).2 then ((QAr m).1,10) else (g (QAr m).1,0)
def QA0(m:DM)(nm:ByteArray):DM×Int:=QBb m nm fun i f m=>QD3 m fun m=>{ m with fs:=m.fs.set i { f with sy:=f.b.length } }
def QBc(m:DM)(nm:ByteArray)(n:Int):DM×Int:=QBb m nm fun i f m=>if n<0\/n>f.b.length then (m,3) else QD3 m fun m=>{ m with fs:=m.fs.set i { f with b:=f.b.take n.toNat,sy:=if n<f.sy then n else f.sy } }
def QAJ(m:DM)(nm:ByteArray):DM×Int:=QBb m nm fun i f m=>QD3 m fun m=>{ m with fs:=m.fs.eraseIdx i }
def QRs(fs:List DF)(i:Nat)(f:DF)(to:ByteArray):List DF:=
 let a:=fs.eraseIdx i
 let k:=QAR a to.toList
 if QAk a to.toList then a.set k { f with nm:=to } else QK1 a k { f with nm:=to }
def QBp(m:DM)(nm to:ByteArray):DM×Int:=if !(QDN to) then (m,8) else QBb m nm fun i f m=>QD3 m fun m=>{ m with fs:=QRs m.fs i f to }
def QAc(m:DM)(nm:ByteArray):Ab×Int:=if !(QAk m.fs nm.toList) then ([],6) else ((m.fs.getD (QAR m.fs nm.toList) ⟨nm,[],0⟩).b,0)
def Qe4(m:DM)(n:Int):DM:={ m with armed:=decide (n>=0),left:=n }
def QJY(keep:Int)(f:DF):Int:=f.sy+(if (f.b.length:Int) - f.sy<(if 0>keep then 0 else keep) then (f.b.length:Int) - f.sy else (if 0>keep then 0 else keep))
def QLi(keep:Int)(f:DF):DF:={ f with b:=f.b.take (QJY keep f).toNat,sy:=QJY keep f }
def QOP(m:DM)(keep:Int):DM:={ armed:=false,down:=false,left:=0,room:=m.room,fs:=m.fs.map (QLi keep) }
structure DInv(m:DM):Prop where
 sorted:Sorted m.fs
 names:∀f∈m.fs,QDN f.nm=true
 syn:∀f∈m.fs,0<=f.sy/\f.sy<=f.b.length
 used:(QBu m.fs:Int)<=m.room
 room:0<=m.room/\m.room<=16777216
 len:m.fs.length<=64
 left:i64 m.left/\(m.armed=true->0<=m.left)
end Go.Cx
namespace Go.Cx
open Go Go.Cf
set_option linter.unusedVariables false
theorem QHK{fs:List DF}{i:Nat}{f g:DF}(h:fs[i]? = some f):QBu (fs.set i g)+f.b.length=QBu fs+g.b.length:=by
 induction fs generalizing i with
 | nil=>simp at h
 | cons x fs ih=>
  cases i with
  | zero=>simp at h;subst h;simp[QBu];omega
  | succ i=>
   have:=ih (i:=i) (Si h);simp[QBu]at this|-;omega
theorem QBw{fs:List DF}{i:Nat}{f:DF}(h:fs[i]? = some f):QBu (fs.eraseIdx i)+f.b.length=QBu fs:=by
 induction fs generalizing i with
 | nil=>simp at h
 | cons x fs ih=>
  cases i with
  | zero=>simp at h;subst h;simp[QBu];omega
  | succ i=>
   have:=ih (i:=i) (Si h);simp[QBu]at this|-;omega
theorem QTL(fs:List DF)(i:Nat)(g:DF):QBu (QK1 fs i g)=QBu fs+g.b.length:=by
 have e:QBu fs=QBu (fs.take i)+QBu (fs.drop i):=by
  conv=>lhs;rw[<-Wu i fs]
  unfold QBu;rw[Uw,List.sum_append]
 rw[e];simp[QBu,QK1];omega
theorem QRW{fs:List DF}{i:Nat}{g x:DF}(h:x∈QK1 fs i g):x=g\/x∈fs:=by
 rcases W4.1 h with h|h
 ·exact .inr (Zm h)
 ·rcases W7.1 h with h|h
  ·exact .inl h
  ·exact .inr (Zn h)
theorem QNJ(fs:List DF)(i:Nat)(g:DF)(h:i<=fs.length):(QK1 fs i g).length=fs.length+1:=by
 simp[QK1];omega
theorem QRD(fs:List DF)(i:Nat)(g:DF)(h:i<=fs.length):(QK1 fs i g)[i]? = some g:=by
 unfold QK1;rw[Wr (by simp;omega)];simp[Ow h]
theorem QNz{fs d:List DF}(h:d.map DF.key=fs.map DF.key)(c:Sorted fs):Sorted d:=by
 unfold Sorted at c|-;rw[<-List.pairwise_map (f:=DF.key) (R:=fun a b=>lt a b=true)]at c|-;rw[h];exact c
theorem QEh{fs:List DF}{i:Nat}{f g:DF}(h:fs[i]? = some f)(a:g.key=f.key)(b:Sorted fs):Sorted (fs.set i g):=by
 refine QNz ?_ b;rw[Le,a];apply Uf;intro j;by_cases e:i=j
 ·subst e;rw[Wy (by simpa using (Wc.1 h).1),Ol,h];rfl
 ·rw[Oy e]
theorem QC2{fs:List DF}{i:Nat}(a:Sorted fs):Sorted (fs.eraseIdx i):=List.Pairwise.sublist (List.eraseIdx_sublist _ _) a
theorem QH8{fs:List DF}{g:DF}(d:Sorted fs)(hn:QAk fs g.key=false):Sorted (QK1 fs (QAR fs g.key) g):=by
 have h0:=QZu d hn;have e:fs=fs.take (QAR fs g.key)++fs.drop (QAR fs g.key):=(Wu _ _).symm;have a:=d;unfold Sorted at a;rw[e,Of]at a
 have i:∀x∈fs.take (QAR fs g.key),lt x.key g.key=true:=fun x hx=>by
  obtain⟨j,hj,rfl⟩:=List.getElem_of_mem hx
  have b:j<QAR fs g.key/\j<fs.length:=by simp at hj;omega
  rw[List.getElem_take];exact Qck b.1 (Wa b.2)
 have k:∀x∈fs.drop (QAR fs g.key),lt g.key x.key=true:=fun x hx=>by
  have h:=Zn hx;obtain⟨j,hj,rfl⟩:=List.getElem_of_mem hx
  have b:QAR fs g.key+j<fs.length:=by simp at hj;omega
  rw[List.getElem_drop]at h |-;have h1:=Qcp d (Ue _ j) (Wa b)
  cases l:lt g.key fs[QAR fs g.key+j].key with
  | true=>rfl
  | false=>exact absurd (QcU h1 l) (h0 _ h)
 unfold Sorted QK1;rw[Of];refine⟨a.1,Z7.2 ⟨k,a.2.1⟩,fun x hx y c=>?_⟩;rcases W7.1 c with rfl|c
 ·exact i x hx
 ·exact a.2.2 x hx y c
theorem QCm(m:DM):(QAr m).1.fs=m.fs/\(QAr m).1.room=m.room:=by
 unfold QAr;split
 ·exact⟨rfl,rfl⟩
 ·split<;>exact⟨rfl,rfl⟩
theorem DInv.spend{m:DM}(h:DInv m):DInv (QAr m).1:=by
 obtain⟨h1,c,d,g,i,j,k,a⟩:=h;unfold QAr;split
 ·exact⟨h1,c,d,g,i,j,k,a⟩
 ·rename_i l
  split
  ·rename_i b
   refine⟨h1,c,d,g,i,j,?_,fun _=>?_⟩
   ·have:=a b;unfold i64 at k|-;simp only;omega
   ·have:=a b;have:¬m.left=0:=fun e=>l (by simp[b,e]);simp only;omega
  ·exact⟨h1,c,d,g,i,j,k,a⟩
theorem DInv.files{m:DM}(h:DInv m){fs:List DF}(d:Sorted fs)(c:∀f∈fs,f∈m.fs\/(QDN f.nm=true/\0<=f.sy/\f.sy<=f.b.length))(g:(QBu fs:Int)<=m.room)(hl:fs.length<=64):DInv { m with fs:=fs }:=
 ⟨d,fun f a=>(c f a).elim (fun x=>h.names f x) (fun x=>x.1),fun f a=>(c f a).elim (fun x=>h.syn f x) (fun x=>x.2),g,h.room,hl,h.left⟩
theorem QCY{fs:List DF}{k:Key}{d:DF}(h:QAk fs k=true):fs[QAR fs k]? = some (fs.getD (QAR fs k) d)/\(fs.getD (QAR fs k) d).key=k:=by
 obtain⟨f,a,b⟩:=QN5 h
 have:fs.getD (QAR fs k) d=f:=by simp[a]
 rw[this];exact⟨a,b⟩
theorem QH3{m:DM}{nm:ByteArray}{g:Nat->DF->DM->DM×Int}(h:DInv m)(b:∀i f,m.fs[i]? = some f->DInv (g i f m).1):DInv (QBb m nm g).1:=by
 unfold QBb;split
 ·exact h
 split
 ·exact h
 ·rename_i a
  exact b _ _ (QCY (Si a)).1
theorem QJv{m:DM}{g:DM->DM}(h:DInv m)(a:∀m',DInv m'->m'.fs=m.fs->m'.room=m.room->DInv (g m')):DInv (QD3 m g).1:=by
 unfold QD3;split
 ·exact h.spend
 ·exact a _ h.spend (QCm m).1 (QCm m).2
theorem QRY{m:DM}(h:DInv m)(nm:ByteArray):DInv (QA0 m nm).1:=by
 refine QH3 h fun i f c=>QJv h fun m' a d k=>?_;rw[<-d]at c;have j:=Wp c;refine a.files (QEh c rfl a.sorted) (fun x hx=>?_) ?_ (by rw[Ob];exact a.len)
 ·rcases Ou hx with hx|rfl
  ·exact .inl hx
  ·exact .inr ⟨a.names f j,by simp,by simp⟩
 ·have:=QHK (g:={ f with sy:=f.b.length }) c;have:=a.used;simp only at *;omega
theorem QGH{m:DM}(h:DInv m)(nm:ByteArray)(n:Int):DInv (QBc m nm n).1:=by
 refine QH3 h fun i f c=>?_;split
 ·exact h
 rename_i hn
 refine QJv h fun m' a j l=>?_;rw[<-j]at c;have d:=Wp c;have o:=a.syn f d;refine a.files (QEh c rfl a.sorted) (fun x hx=>?_) ?_ (by rw[Ob];exact a.len)
 ·rcases Ou hx with hx|rfl
  ·exact .inl hx
  ·refine .inr ⟨a.names f d,?_,?_⟩<;>simp only[Ww] <;> split<;>omega
 ·have k:=QHK (g:={ f with b:=f.b.take n.toNat,sy:=if n<f.sy then n else f.sy }) c;have p:=a.used
  have q:(f.b.take n.toNat).length<=f.b.length:=by rw[Ww];omega
  simp only at k|-;omega
theorem QKX{m:DM}(h:DInv m)(nm:ByteArray):DInv (QAJ m nm).1:=by
 refine QH3 h fun i f b=>QJv h fun m' a c d=>?_;rw[<-c]at b;refine a.files (QC2 a.sorted) (fun x hx=>.inl (Lk hx)) ?_ ?_
 ·have:=QBw b;have:=a.used;omega
 ·rw[List.length_eraseIdx];have:=a.len;split<;>omega
theorem Qcn{m:DM}(h:DInv m){i:Nat}{f:DF}{to:ByteArray}(b:m.fs[i]? = some f)(l:QDN to=true):DInv { m with fs:=QRs m.fs i f to }:=by
 have d:=Wp b;have o:=QBw b;have p:=h.used;have n:=(Wc.1 b).1
 have j:(m.fs.eraseIdx i).length=m.fs.length - 1:=by rw[List.length_eraseIdx,We n]
 have hl:=h.len;unfold QRs
 (try simp only)
 cases k:QAk (m.fs.eraseIdx i) to.toList with
 | true=>
  obtain⟨g,a,c⟩:=QN5 k;have q:=Wp a;rw[We rfl];refine h.files (QEh a (by simp only[DF.key]at c|-;exact c.symm) (QC2 h.sorted)) (fun x hx=>?_) ?_ (by rw[Ob,j];omega)
  ·rcases Ou hx with hx|rfl
   ·exact .inl (Lk hx)
   ·exact .inr ⟨l,h.syn f d⟩
  ·have:=QHK (g:={ f with nm:=to }) a;simp only at this;omega
 | false=>
  rw[Wb (by simp)];refine h.files (QH8 (g:={ f with nm:=to }) (QC2 h.sorted) k) (fun x hx=>?_) ?_ ?_
  ·rcases QRW hx with rfl|hx
   ·exact .inr ⟨l,h.syn f d⟩
   ·exact .inl (Lk hx)
  ·rw[QTL];simp only;omega
  ·rw[QNJ _ _ _ (QGW _ _),j];omega
theorem QOh{m:DM}(h:DInv m)(nm to:ByteArray):DInv (QBp m nm to).1:=by
 unfold QBp;split
 ·exact h
 rename_i hn
 refine QH3 h fun i f a=>QJv h fun m' b c d=>?_;rw[<-c]at a;exact Qcn b a (Si hn)
def QOI(fs:List DF)(nm:ByteArray)(b:Ab):List DF:=
 (if QAk fs nm.toList then fs else QK1 fs (QAR fs nm.toList) ⟨nm,[],0⟩).set (QAR fs nm.toList) { ((if QAk fs nm.toList then fs else QK1 fs (QAR fs nm.toList) ⟨nm,[],0⟩).getD (QAR fs nm.toList) ⟨nm,[],0⟩) with b:=((if QAk fs nm.toList then fs else QK1 fs (QAR fs nm.toList) ⟨nm,[],0⟩).getD (QAR fs nm.toList) ⟨nm,[],0⟩).b++b }
theorem QHy{m:DM}(h:DInv m)(nm:ByteArray)(b:Ab):DInv (QAF m nm b).1:=by
 unfold QAF;split
 ·exact h
 rename_i hn
 have hn:QDN nm=true:=Si hn
 split
 ·exact h
 split
 ·exact h
 rename_i k
 simp only[Oz,Wf,W2,Wq,not_or,not_and]at k;obtain⟨l,n⟩:=k;split
 ·exact h.spend
 have a:=h.spend;obtain⟨o,q⟩:=QCm m;show DInv { (QAr m).1 with fs:=QOI m.fs nm b };unfold QOI;rw[<-o];rw[<-q]at n;rw[<-o]at l n
 generalize (QAr m).1=m' at *
 cases j:QAk m'.fs nm.toList with
 | true=>
  obtain⟨c,y⟩:=QCY (d:=⟨nm,[],0⟩) j;have p:=Wp c;simp only[O7];refine a.files (QEh c rfl a.sorted) (fun x hx=>?_) ?_ (by rw[Ob];exact a.len)
  ·rcases Ou hx with hx|rfl
   ·exact .inl hx
   ·have:=a.syn _ p;exact .inr ⟨(a.names _ p:_),this.1,by simp only[Wd];omega⟩
  ·have:=QHK (g:={ (m'.fs.getD (QAR m'.fs nm.toList) ⟨nm,[],0⟩) with b:=(m'.fs.getD (QAR m'.fs nm.toList) ⟨nm,[],0⟩).b++b }) c;simp only[Wd]at this;omega
 | false=>
  have i:=QRD m'.fs (QAR m'.fs nm.toList) ⟨nm,[],0⟩ (QGW _ _)
  have r:(QK1 m'.fs (QAR m'.fs nm.toList) ⟨nm,[],0⟩).getD (QAR m'.fs nm.toList) ⟨nm,[],0⟩=⟨nm,[],0⟩:=by simp[i]
  simp only[Wi,Oa];rw[r];have v:=QNJ m'.fs (QAR m'.fs nm.toList) ⟨nm,[],0⟩ (QGW _ _);refine a.files (QEh i rfl (QH8 (g:=⟨nm,[],0⟩) a.sorted j)) (fun x hx=>?_) ?_ ?_
  ·rcases Ou hx with hx|rfl
   ·rcases QRW hx with rfl|hx
    ·exact .inr ⟨hn,by simp,by simp⟩
    ·exact .inl hx
   ·exact .inr ⟨hn,by simp,by simp⟩
  ·have:=QHK (g:={ (⟨nm,[],0⟩:DF) with b:=[]++b }) i;have:=QTL m'.fs (QAR m'.fs nm.toList) ⟨nm,[],0⟩;simp only[Wd,O8]at *;omega
  ·rw[Ob,v];have:=l j;omega
theorem Qf3{m:DM}(h:DInv m){n:Int}(hn:i64 n):DInv (Qe4 m n):=
 ⟨h.sorted,h.names,h.syn,h.used,h.room,h.len,hn,fun a=>by simpa [Qe4]using a⟩
theorem QRI{f:DF}(h:0<=f.sy/\f.sy<=f.b.length)(keep:Int):f.sy<=QJY keep f/\QJY keep f<=f.b.length:=by
 unfold QJY;constructor<;>split<;>split<;>omega
theorem QdV{m:DM}(h:DInv m)(keep:Int):DInv (QOP m keep):=by
 refine⟨QNz (fs:=m.fs) (by simp[QOP,QLi,Function.comp_def]) h.sorted,fun f a=>?_,fun f a=>?_,?_,h.room,by simpa [QOP]using h.len,⟨⟨by simp[QOP],by simp[QOP]⟩,fun h=>by cases h⟩⟩
 ·obtain⟨g,b,rfl⟩:=Uz.1 a;exact h.names g b
 ·obtain⟨g,b,rfl⟩:=Uz.1 a;have h1:=h.syn g b;have:=QRI h1 keep;simp only[QLi,Ww];omega
 ·have:QBu (m.fs.map (QLi keep))<=QBu m.fs:=by
   generalize m.fs=fs
   induction fs with
   | nil=>simp
   | cons f fs ih=>simp[QBu,QLi]at ih|-;omega
  have:=h.used;simp only[QOP];omega
end Go.Cx
namespace Go.Cx
open Go Go.Cf
set_option linter.unusedVariables false
set_option maxRecDepth 100000
def QgQ(r:Nat):Nat:=if r % 2=1 then (r / 2) ^^^ 3988292384 else r / 2
def QUf:Nat->Nat->Nat
 | 0,r=>r
 | k+1,r=>QgQ (QUf k r)
def Qcs(r y:Nat):Nat:=QUf 8 (r ^^^ y)
def QcF(r:Nat)(a:Ab):Nat:=a.foldl (fun r y=>Qcs r y.toNat) r
def QFg(a:Nat)(b:Ab):Nat:=4294967295 ^^^ QcF (4294967295 ^^^ a) b
theorem QH0{a b:Nat}(c:a<4294967296)(hb:b<4294967296):a ^^^ b<4294967296:=Nat.xor_lt_two_pow (n:=32) c hb
theorem QfD{r:Nat}(h:r<4294967296):QgQ r<4294967296:=by
 unfold QgQ;split
 ·exact QH0 Om Dc
 ·omega
theorem QQr:∀(k:Nat) {r:Nat},r<4294967296->QUf k r<4294967296
 | 0,_,h=>h
 | k+1,_,h=>QfD (QQr k h)
theorem QHm(y:UInt8):y.toNat<256:=y.toNat_lt
theorem QdS{r:Nat}(h:r<4294967296)(y:UInt8):Qcs r y.toNat<4294967296:=QQr 8 (QH0 h (by have:=QHm y;omega))
theorem QUz:∀(a:Ab) {r:Nat},r<4294967296->QcF r a<4294967296
 | [],_,h=>h
 | y::a,_,h=>QUz a (QdS h y)
theorem QbM(a:Ab)(r:Nat)(y:UInt8):QcF r (a++[y])=Qcs (QcF r a) y.toNat:=by
 unfold QcF;rw[Uu];rfl
theorem Qc5{a:Nat}(h:a<4294967296)(b:Ab):QFg a b<4294967296:=QH0 Dc (QUz b (QH0 Dc h))
theorem QFU(n:Nat)(h:n<4294967296):IntKind.u32.wrap (n:Int)=n:=by
 have a:(2 ^ IntKind.u32.bits:Int)=4294967296:=Dc
 have b:IntKind.u32.signed=false:=rfl;simp only[IntKind.wrap,a,b,Bool.false_and];simp;omega
theorem QLw(n:Nat)(h:n<18446744073709551616):IntKind.u64.wrap (n:Int)=n:=by
 have a:(2 ^ IntKind.u64.bits:Int)=18446744073709551616:=Dc
 have b:IntKind.u64.signed=false:=rfl;simp only[IntKind.wrap,a,b,Bool.false_and];simp;omega
theorem QfV(n:Nat):IntKind.u8.wrap (n:Int)=((n % 256:Nat):Int):=by
 have a:(2 ^ IntKind.u8.bits:Int)=256:=Dc
 have b:IntKind.u8.signed=false:=rfl;simp only[IntKind.wrap,a,b,Bool.false_and];simp
def hdN(n:Nat):Ab:=[UInt8.ofNat (n / 256),UInt8.ofNat n]
def QXS(p:Ab):Nat:=QFg (QFg 0 (hdN p.length)) p
def QgV(r:Nat):Ab:=[UInt8.ofNat (r / 16777216),UInt8.ofNat (r / 65536),UInt8.ofNat (r / 256),UInt8.ofNat r]
def QAY(p:Ab):Ab:=hdN p.length++QgV (QXS p)++p
theorem QAu(m:Nat):IntKind.u8.wrap (m:Int)=((UInt8.ofNat m).toNat:Int):=by
 rw[QfV,Ub]
theorem QC7(n:Nat)(d:Int)(D:Nat)(h:d=(D:Int)):Int.fdiv (n:Int) d=((n / D:Nat):Int):=by
 subst h;rw[Kf _ Om];exact (Int.natCast_ediv n D).symm
def QGj(b:Ab):Nat:=(b.getD 0 0).toNat*256+(b.getD 1 0).toNat
def QYN(b:Ab):Nat:=(((b.getD 2 0).toNat*256+(b.getD 3 0).toNat)*256+(b.getD 4 0).toNat)*256+(b.getD 5 0).toNat
def QBX(b:Ab):Ab×Nat×Int:=
 if b.length<6 then ([],0,1)
 else if QGj b>1024 then ([],0,2)
 else if b.length<6+QGj b then ([],0,1)
 else if QYN b=QXS ((b.take (6+QGj b)).drop 6) then ((b.take (6+QGj b)).drop 6,6+QGj b,0)
 else ([],0,5)
theorem QCw{b:Ab}{i:Nat}{x:UInt8}(h:b[i]? = some x):b.getD i 0=x:=by
 rw[W0,h];rfl
def be8(v:Nat):Ab:=(List.range 8).map fun i=>UInt8.ofNat (v / 256 ^ (7 - i))
theorem QEq(v:Nat):(be8 v).length=8:=by simp[be8]
theorem QVb(v:Nat){i:Nat}(h:i<8):(be8 v)[i]? = some (UInt8.ofNat (v / 256 ^ (7 - i))):=by
 unfold be8;rw[Ol,K9 h];rfl
def beV(a:Ab):Nat:=a.foldl (fun v y=>v*256+y.toNat) 0
theorem QWb(a:Ab)(y:UInt8):beV (a++[y])=beV a*256+y.toNat:=by
 unfold beV;rw[Uu];rfl
theorem Qg6:∀(n:Nat) (a:Ab),a.length=n->beV a<256 ^ n:=by
 intro n
 induction n with
 | zero=>intro a h;have:=Wm h;subst this;decide
 | succ n ih=>
  intro a h
  have b:a≠[]:=fun e=>by subst e;simp at h
  have e:=K4 b
  have hl:a.dropLast.length=n:=by simp;omega
  have:=ih _ hl;have c:=QHm (a.getLast b);rw[<-e,QWb,Nat.pow_succ];omega
theorem Qge(k:Nat)(h:k<=7):256 ^ k<=72057594037927936:=by
 have:(256:Nat) ^ k<=256 ^ 7:=Nat.pow_le_pow_right Dc h;simpa using this
def QLo(xs:Ab)(a:Nat):Ab:=(xs.take (a+8)).drop a
theorem QWe{xs:Ab}{a:Nat}(h:a+8<=xs.length):(QLo xs a).length=8:=by simp[QLo];omega
theorem QJt{q:Ab}{k:Nat}{y:UInt8}(h:q[k]? = some y):beV (q.take (k+1))=beV (q.take k)*256+y.toNat:=by
 rw[Og,h];exact QWb _ _
theorem QJq{q:Ab}{k:Nat}(b:q.length=8)(c:k<8):beV (q.take k)<72057594037927936:=by
 have h1:=Qg6 k (q.take k) (by simp;omega);have a:=Qge k Om;omega
theorem QNq{b:Ab}(h:(QBX b).2.2=0):6<=(QBX b).2.1/\(QBX b).2.1<=b.length/\(QBX b).1.length+6=(QBX b).2.1/\(QBX b).1.length<=1024/\(QBX b).1=(b.take (QBX b).2.1).drop 6:=by
 unfold QBX at h|-;split
 ·rename_i h1;rw[We h1]at h;exact absurd h Dc
 rename_i h1
 rw[Wb h1]at h;split
 ·rename_i a;rw[We a]at h;exact absurd h Dc
 rename_i a
 rw[Wb a]at h;split
 ·rename_i c;rw[We c]at h;exact absurd h Dc
 rename_i c
 rw[Wb c]at h;split
 ·refine⟨?_,?_,?_,?_,rfl⟩<;>simp<;>omega
 ·rename_i d;rw[Wb d]at h;exact absurd h Dc
def QTk:Nat->Ab->List Ab×Nat
 | 0,_=>([],0)
 | n+1,b=>if (QBX b).2.2=0 then ((QBX b).1::(QTk n (b.drop (QBX b).2.1)).1,(QBX b).2.1+(QTk n (b.drop (QBX b).2.1)).2) else ([],0)
def QAx(b:Ab):List Ab×Nat:=QTk (b.length+1) b
theorem QX0:∀(n m:Nat) (b:Ab),b.length<n->b.length<m->QTk n b=QTk m b:=by
 intro n
 induction n with
 | zero=>intro m b h;omega
 | succ n ih=>
  intro m b h1 a
  cases m with
  | zero=>omega
  | succ m=>
   unfold QTk;by_cases h:(QBX b).2.2=0
   ·obtain⟨c,a2,_⟩:=QNq h;have d:(b.drop (QBX b).2.1).length=b.length - (QBX b).2.1:=Oc;rw[We h,We h,ih m _ Om Om]
   ·rw[Wb h,Wb h]
theorem QUd{b:Ab}(h:(QBX b).2.2=0):QAx b=((QBX b).1::(QAx (b.drop (QBX b).2.1)).1,(QBX b).2.1+(QAx (b.drop (QBX b).2.1)).2):=by
 obtain⟨a,a2,_⟩:=QNq h;have c:(b.drop (QBX b).2.1).length=b.length - (QBX b).2.1:=Oc;unfold QAx
 conv=>lhs;unfold QTk
 rw[We h,QX0 b.length ((b.drop (QBX b).2.1).length+1) _ Om Om]
theorem QNM{b:Ab}(h:¬(QBX b).2.2=0):QAx b=([],0):=by
 unfold QAx QTk;rw[Wb h]
theorem QJ0:∀(n:Nat) (b:Ab),b.length<=n->(QAx b).2<=b.length/\(QAx b).1.length<=b.length/\∀p∈(QAx b).1,p.length<=1024:=by
 intro n
 induction n with
 | zero=>
  intro b h;have hb:b=[]:=Wm Om;subst hb;rw[QNM Dc];exact⟨Wt _,Wt _,by simp⟩
 | succ n ih=>
  intro b h;by_cases c:(QBX b).2.2=0
  ·obtain⟨g,a2,a3,a4,_⟩:=QNq c;have j:(b.drop (QBX b).2.1).length=b.length - (QBX b).2.1:=Oc;obtain⟨h1,i,d⟩:=ih (b.drop (QBX b).2.1) Om;rw[QUd c];refine⟨by dsimp only;omega,by simp only[Wl];omega,?_⟩;intro p a;simp only[W7]at a;rcases a with rfl|a
   ·exact a4
   ·exact d p a
  ·rw[QNM c];exact⟨Ua _,Ua _,by simp⟩
theorem QL2(b:Ab):(QAx b).2<=b.length:=(QJ0 b.length b (Wt _)).1
theorem Qaz(v:Nat)(hv:v<18446744073709551616):beV (be8 v)=v:=by
 have h:∀k,k<=8->beV ((be8 v).take k)=v / 256 ^ (8 - k):=by
  intro k
  induction k with
  | zero=>
   intro _;have:v / 256 ^ 8=0:=Nat.div_eq_of_lt Om;show beV []=v / 256 ^ 8;rw[this];rfl
  | succ k ih=>
   intro a;rw[QJt (QVb v Om),ih Om,Ub,show 8 - k=(7 - k)+1 by omega,show 8 - (k+1)=7 - k by omega,Nat.pow_succ,<-Nat.div_div_eq_div_mul];omega
 have:=h 8 Om;rw[Wn (by rw[QEq];omega)]at this;simpa using this
theorem QRi(p:Ab):(QAY p).length=6+p.length:=by unfold QAY;rw[Wd];rfl
def QCa(fs:List DF)(k:Key):Option DF:=fs.find? fun f=>f.key == k
theorem QWs{fs:List DF}(a:Sorted fs){i j:Nat}{f g:DF}(b:fs[i]? = some f)(c:fs[j]? = some g)(d:f.key=g.key):i=j:=by
 have h1:=(QEw a b rfl).1;have h:=(QEw a c rfl).1;rw[d]at h1;omega
theorem QEV{fs:List DF}(l:Sorted fs){k:Key}{f:DF}:QCa fs k=some f↔f∈fs/\f.key=k:=by
 unfold QCa;constructor
 ·intro h;exact⟨Ki h,by simpa using List.find?_some h⟩
 ·rintro⟨a,b⟩
  cases h:fs.find? fun f=>f.key == k with
  | none=>
   have:=List.find?_eq_none.1 h f a;simp[b]at this
  | some g=>
   have c:=Ki h
   have d:g.key=k:=by simpa using List.find?_some h
   obtain⟨i,hi⟩:=Oh.1 a;obtain⟨j,hj⟩:=Oh.1 c;obtain rfl:=QWs l hi hj (b.trans d.symm);rw[hi]at hj;exact hj.symm
theorem QSe{fs:List DF}{k:Key}:QCa fs k=none↔∀f∈fs,f.key≠k:=by
 unfold QCa;rw[List.find?_eq_none];simp
theorem QCX{fs:List DF}{k:Key}{f:DF}(h:QCa fs k=some f):f.key=k:=by simpa using List.find?_some h
theorem QJ1{fs:List DF}{k:Key}{f:DF}(h:QCa fs k=some f):f∈fs:=Ki h
theorem QDU{fs:List DF}(d:Sorted fs)(k:Key):QAk fs k=(QCa fs k).isSome:=by
 cases h:QCa fs k with
 | some f=>
  obtain⟨i,hi⟩:=Oh.1 (QJ1 h);exact (QEw d hi (QCX h)).2
 | none=>
  cases c:QAk fs k with
  | false=>rfl
  | true=>
   obtain⟨f,a,b⟩:=QN5 c;exact absurd b (QSe.1 h f (Wp a))
theorem QDF{fs:List DF}(b:Sorted fs){k:Key}{f:DF}(h:QCa fs k=some f):QAk fs k=true/\fs[QAR fs k]? = some f:=by
 obtain⟨i,hi⟩:=Oh.1 (QJ1 h);obtain⟨h1,a⟩:=QEw b hi (QCX h);rw[h1];exact⟨a,hi⟩
theorem QEk{fs:List DF}(a:Sorted fs){k:Key}{f d:DF}(h:QCa fs k=some f):fs.getD (QAR fs k) d=f:=by
 simp[(QDF a h).2]
theorem QGT{fs:List DF}(l:Sorted fs){i:Nat}{f g:DF}(b:fs[i]? = some f)(c:g.key=f.key)(k:Key):QCa (fs.set i g) k=if k=f.key then some g else QCa fs k:=by
 have d:=QEh b c l;have hi:=(Wc.1 b).1;split
 ·rename_i e
  exact (QEV d).2 ⟨List.mem_set hi g,c.trans e.symm⟩
 ·rename_i e
  apply Option.ext;intro x;rw[QEV d,QEV l];constructor
  ·rintro⟨a,hx⟩;rcases Ou a with a|rfl
   ·exact⟨a,hx⟩
   ·exact absurd (hx.symm.trans c) e
  ·rintro⟨a,hx⟩;refine⟨?_,hx⟩;obtain⟨j,hj⟩:=Oh.1 a
   have:i≠j:=by
    intro h;subst h;rw[b]at hj;cases hj;exact e hx.symm
   exact Oh.2 ⟨j,by rw[Oy this];exact hj⟩
theorem QWH{fs:List DF}(d:Sorted fs){g:DF}(hn:QAk fs g.key=false)(k:Key):QCa (QK1 fs (QAR fs g.key) g) k=if k=g.key then some g else QCa fs k:=by
 have b:=QH8 d hn
 have c:∀x,x∈QK1 fs (QAR fs g.key) g↔x=g\/x∈fs:=by
  intro x;constructor
  ·exact QRW
  ·unfold QK1;rintro (rfl|h)
   ·simp
   ·have:x∈fs.take (QAR fs g.key)++fs.drop (QAR fs g.key):=by rw[Wu];exact h
    rcases W4.1 this with h|h
    ·exact Zp _ h
    ·exact Us _ (Wz _ h)
 split
 ·rename_i e
  exact (QEV b).2 ⟨(c _).2 (.inl rfl),e.symm⟩
 ·rename_i e
  apply Option.ext;intro x;rw[QEV b,QEV d,c];constructor
  ·rintro⟨rfl|a,hx⟩
   ·exact absurd hx.symm e
   ·exact⟨a,hx⟩
  ·rintro⟨a,hx⟩;exact⟨.inr a,hx⟩
theorem QOs{fs:List DF}(c:Sorted fs){i:Nat}{f:DF}(g:fs[i]? = some f)(k:Key):QCa (fs.eraseIdx i) k=if k=f.key then none else QCa fs k:=by
 have l:Sorted (fs.eraseIdx i):=QC2 c
 have d:∀x,x∈fs.eraseIdx i↔x∈fs/\x.key≠f.key:=by
  intro x;rw[List.mem_eraseIdx_iff_getElem?];constructor
  ·rintro⟨j,hj,hx⟩;exact⟨Wp hx,fun e=>hj (QWs c hx g e)⟩
  ·rintro⟨a,b⟩;obtain⟨j,hj⟩:=Oh.1 a;refine⟨j,fun e=>?_,hj⟩;subst e;rw[g]at hj;cases hj;exact b rfl
 split
 ·rename_i e
  rw[QSe];intro x hx b;exact ((d x).1 hx).2 (b.trans e)
 ·rename_i e
  apply Option.ext;intro x;rw[QEV l,QEV c,d];constructor
  ·rintro⟨⟨a,_⟩,hx⟩;exact⟨a,hx⟩
  ·rintro⟨a,hx⟩;exact⟨⟨a,fun h=>e (hx.symm.trans h)⟩,hx⟩
structure QgT(m:DM)(r:DM×Int)(fs:List DF):Prop where
 err:r.2=0
 files:r.1.fs=fs
 down:r.1.down=m.down
 room:r.1.room=m.room
 armed:m.armed=false->r.1.armed=false
def QYa(m:DM)(r:DM×Int):Prop:=m.armed=true/\r=({ m with down:=true },10)
theorem QIE(m:DM)(φ:List DF->List DF):QYa m (QD3 m fun m=>{ m with fs:=φ m.fs })\/QgT m (QD3 m fun m=>{ m with fs:=φ m.fs }) (φ m.fs):=by
 unfold QD3;have b:=QCm m;by_cases h:(m.armed&&m.left == 0)=true
 ·have:QAr m=({ m with down:=true },false):=by unfold QAr;rw[We h]
  rw[this];refine .inl ⟨?_,rfl⟩;simp only[Wf]at h;exact h.1
 ·have a:(QAr m).2=true/\(QAr m).1.down=m.down/\(m.armed=false->(QAr m).1.armed=false):=by
   unfold QAr;rw[Wb h];split
   ·rename_i c;exact⟨rfl,rfl,fun e=>by rw[c]at e;cases e⟩
   ·exact⟨rfl,rfl,id⟩
  rw[a.1];refine .inr ⟨rfl,?_,a.2.1,b.2,a.2.2⟩;show φ (QAr m).1.fs=_;rw[b.1]
theorem QQv{m:DM}(hI:DInv m){nm:ByteArray}{f:DF}(g:m.down=false)(a:QCa m.fs nm.toList=some f) :
  QYa m (QA0 m nm)\/QgT m (QA0 m nm) (m.fs.set (QAR m.fs nm.toList) { f with sy:=f.b.length }):=by
 obtain⟨h1,h⟩:=QDF hI.sorted a;have c:=QEk (d:=⟨nm,[],0⟩) hI.sorted a;unfold QA0 QBb;rw[Wb (by rw[g];decide),Wb (by rw[h1];decide),c];exact QIE m fun fs=>fs.set (QAR m.fs nm.toList) { f with sy:=f.b.length }
theorem QQD{m:DM}(hI:DInv m){nm:ByteArray}{f:DF}{n:Int}(g:m.down=false)(a:QCa m.fs nm.toList=some f)(h0:0<=n)(hn:n<=f.b.length) :
  QYa m (QBc m nm n)\/QgT m (QBc m nm n) (m.fs.set (QAR m.fs nm.toList) { f with b:=f.b.take n.toNat,sy:=if n<f.sy then n else f.sy }):=by
 obtain⟨h1,h⟩:=QDF hI.sorted a;have c:=QEk (d:=⟨nm,[],0⟩) hI.sorted a;unfold QBc QBb;rw[Wb (by rw[g];decide),Wb (by rw[h1];decide),c]
 have hc:¬(n<0\/n>(f.b.length:Int)):=Om
 simp only[Wb hc];exact QIE m fun fs=>fs.set (QAR m.fs nm.toList) { f with b:=f.b.take n.toNat,sy:=if n<f.sy then n else f.sy }
theorem QHW{m:DM}(hI:DInv m){nm:ByteArray}{f:DF}(c:m.down=false)(a:QCa m.fs nm.toList=some f) :
  QYa m (QAJ m nm)\/QgT m (QAJ m nm) (m.fs.eraseIdx (QAR m.fs nm.toList)):=by
 obtain⟨h1,g⟩:=QDF hI.sorted a;have b:=QEk (d:=⟨nm,[],0⟩) hI.sorted a;unfold QAJ QBb;rw[Wb (by rw[c];decide),Wb (by rw[h1];decide),b];exact QIE m fun fs=>fs.eraseIdx (QAR m.fs nm.toList)
theorem QHs{m:DM}(hI:DInv m){nm:ByteArray}(a:QCa m.fs nm.toList=none):QAk m.fs nm.toList=false:=by rw[QDU hI.sorted,a];rfl
theorem QaG{m:DM}(hI:DInv m){nm:ByteArray}(a:m.down=false)(b:QCa m.fs nm.toList=none):QA0 m nm=(m,6):=by
 unfold QA0 QBb;rw[Wb (by rw[a];decide),We (by rw[QHs hI b];rfl)]
theorem QMQ{m:DM}(hI:DInv m){nm:ByteArray}(a:m.down=false)(b:QCa m.fs nm.toList=none):QAJ m nm=(m,6):=by
 unfold QAJ QBb;rw[Wb (by rw[a];decide),We (by rw[QHs hI b];rfl)]
theorem QGc{m:DM}(a:m.down=true)(nm:ByteArray)(g:Nat->DF->DM->DM×Int):QBb m nm g=(m,10):=by unfold QBb;rw[We a]
theorem QNN{m:DM}(hI:DInv m){nm:ByteArray}{f:DF}(a:QCa m.fs nm.toList=some f):QAc m nm=(f.b,0):=by
 unfold QAc;rw[Wb (by rw[(QDF hI.sorted a).1];decide),QEk hI.sorted a]
theorem QTC{m:DM}(hI:DInv m){nm:ByteArray}(a:QCa m.fs nm.toList=none):QAc m nm=([],6):=by
 unfold QAc;rw[We (by rw[QHs hI a];rfl)]
theorem QMg{m:DM}(hI:DInv m){nm:ByteArray}{b:Ab}(hn:QDN nm=true)(d:m.down=false) :
  (QAF m nm b=(m,9)/\((QCa m.fs nm.toList=none/\m.fs.length=64)\/(b.length:Int)>m.room - QBu m.fs))\/QYa m (QAF m nm b) \/
  (QgT m (QAF m nm b) (QOI m.fs nm b)/\(b.length:Int)<=m.room - QBu m.fs/\(QCa m.fs nm.toList=none->m.fs.length<64)):=by
 have c:=QDU hI.sorted nm.toList;have hl:=hI.len;by_cases a:((!(QAk m.fs nm.toList)&&decide ((m.fs.length:Int)>=64))||decide ((b.length:Int)>m.room - QBu m.fs))=true
 ·left;refine⟨by unfold QAF;rw[Wb (by rw[hn];decide),Wb (by rw[d];decide),We a],?_⟩;simp only[Oz,Wf,W2,Wq]at a;rcases a with⟨h1,i⟩|h
  ·rw[c]at h1;exact .inl ⟨Si h1,Om⟩
  ·exact .inr h
 ·right
  have g:QAF m nm b=QD3 m fun m=>{ m with fs:=QOI m.fs nm b }:=by
   unfold QAF QD3;rw[Wb (by rw[hn];decide),Wb (by rw[d];decide),Wb a];split
   ·rfl
   ·show (({ (QAr m).1 with fs:=QOI m.fs nm b }:DM),(0:Int))=({ (QAr m).1 with fs:=QOI (QAr m).1.fs nm b },0);rw[(QCm m).1]
  rw[g];rcases QIE m fun fs=>QOI fs nm b with h|h
  ·exact .inl h
  ·refine .inr ⟨h,?_⟩;simp only[Oz,Wf,W2,Wq,not_or,not_and]at a;refine⟨Om,fun hn=>?_⟩;have:=a.1 (by rw[c,hn];rfl);omega
theorem QXB{fs:List DF}(a:Sorted fs)(nm:ByteArray)(b:Ab)(k:Key) :
  QCa (QOI fs nm b) k=if k=nm.toList then some { ((QCa fs nm.toList).getD ⟨nm,[],0⟩) with b:=((QCa fs nm.toList).getD ⟨nm,[],0⟩).b++b } else QCa fs k:=by
 unfold QOI
 cases h:QCa fs nm.toList with
 | some f=>
  obtain⟨h1,d⟩:=QDF a h;rw[We h1,QEk a h];show QCa (fs.set (QAR fs nm.toList) { f with b:=f.b++b }) k=_;rw[QGT (g:={ f with b:=f.b++b }) a d rfl,QCX h];rfl
 | none=>
  have h1:QAk fs nm.toList=false:=by rw[QDU a,h];rfl
  rw[h1];simp only[Wi,Oa,Option.getD_none];have c:=QRD fs (QAR fs nm.toList) ⟨nm,[],0⟩ (QGW _ _)
  have i:(QK1 fs (QAR fs nm.toList) ⟨nm,[],0⟩).getD (QAR fs nm.toList) ⟨nm,[],0⟩=⟨nm,[],0⟩:=by simp[c]
  rw[i];show QCa ((QK1 fs (QAR fs nm.toList) ⟨nm,[],0⟩).set (QAR fs nm.toList) (⟨nm,[]++b,0⟩:DF)) k=_;rw[QGT (g:=(⟨nm,[]++b,0⟩:DF)) (QH8 (g:=⟨nm,[],0⟩) a h1) c rfl];have:=QWH a (g:=⟨nm,[],0⟩) h1 k;simp only[DF.key]at this|-;rw[this];split<;>rfl
def preL:Ab:=[108,111,103,45]
def fN(n:Int):ByteArray:=BA (preL++Lib.itoa n)
abbrev fK(n:Int):Key:=(fN n).toList
def headN:ByteArray:=BA [104,101,97,100]
def newN:ByteArray:=BA [104,101,97,100,46,110,101,119]
def QE8(l:Ab):Bool:=decide (5<=l.length)&&decide (l.length<=16)&&(l.take 4 == preL) && !(l[4]? == some 48)&&(l.drop 4).all QP8
abbrev QLc:Int:=999999999999
structure Sg where
 n:Int
 first:Int
 size:Int
 ps:List Ab
structure LM where
 n:Int
 first:Int
 segs:List Sg
 safe:Int
def Sg.next(s:Sg):Int:=s.first+s.ps.length
def LM.cur(l:LM):Option Sg:=l.segs.getLast?
def LM.next(l:LM):Int:=match l.cur with
 | some s=>s.next
 | none=>l.first
def LM.lo(l:LM):Int:=match l.segs with
 | []=>l.first
 | s::_=>s.first
def QAj(m:DM)(nm:ByteArray):DM×Int:=if (QAJ m nm).2=6 then ((QAJ m nm).1,0) else QAJ m nm
def QDM(m:DM):Int×Int×Int:=
 if (QAc m headN).2≠0 then (1,0,0)
 else
  let g:=QBX (QAc m headN).1
  if g.2.2≠0\/g.2.1≠(QAc m headN).1.length\/g.1.length≠16 then (0,0,30)
  else if beV (QLo g.1 0)<1\/beV (QLo g.1 0)>999999999999\/beV (QLo g.1 8)>1099511627776 then (0,0,30)
  else (beV (QLo g.1 0),beV (QLo g.1 8),0)
def QEb(m:DM)(n:Int):DM×Int:=
 let b:=(QAc m (fN n)).1
 let t:=if (QAx b).2<b.length then QBc m (fN n) (QAx b).2 else (m,0)
 if t.2≠0 then t else QA0 t.1 (fN n)
def QNI:Nat->DM->Int->LM->DM×LM×Int
 | 0,m,_,l=>(m,l,0)
 | k+1,m,n,l=>
  if (QAc m (fN n)).2≠0 then (m,l,0)
  else if (QEb m n).2≠0 then ((QEb m n).1,l,(QEb m n).2)
  else
   let b:=(QAc m (fN n)).1
   let l':={ l with segs:=l.segs++[⟨n,l.next,(QAx b).2,(QAx b).1⟩] }
   if (QAx b).2<b.length then ((QEb m n).1,l',0) else QNI k (QEb m n).1 (n+1) l'
def QTb(l:LM)(nm:ByteArray):Bool:=!(QE8 nm.data.toList)||l.segs.any fun s=>fK s.n == nm.toList
def QDO(l:LM):List ByteArray->DM->DM×Int
 | [],m=>(m,0)
 | nm::r,m=>if QTb l nm then QDO l r m else if (QAJ m nm).2≠0 then QAJ m nm else QDO l r (QAJ m nm).1
def QD8(m:DM):DM×Option LM×Int:=
 if (QAj m newN).2≠0 then ((QAj m newN).1,none,(QAj m newN).2)
 else
  let a:=(QAj m newN).1
  let h:=QDM a
  if h.2.2≠0 then (a,none,h.2.2)
  else
   let r:=QNI 70 a h.1 ⟨h.1,h.2.1,[],0⟩
   if r.2.2≠0 then (r.1,none,r.2.2)
   else
    let w:=QDO r.2.1 (r.1.fs.map (·.nm)) r.1
    if w.2≠0 then (w.1,none,w.2) else (w.1,some { r.2.1 with safe:=r.2.1.next },0)
def QBP(m:DM)(l:LM):DM×LM×Int:=
 if m.down then (m,l,10)
 else if l.safe=l.next then (m,l,0)
 else
  let y:=QA0 m (fN ((l.cur.map Sg.n).getD 0))
  if y.2≠0 then (y.1,l,y.2) else (y.1,{ l with safe:=l.next },0)
def LM.full(l:LM):Bool:=match l.cur with
 | some s=>decide (s.size>=1024)
 | none=>false
def LM.curN(l:LM):Int:=match l.cur with
 | some s=>s.n
 | none=>l.n
def QVv(ss:List Sg)(p:Ab):List Sg:=match ss.getLast? with
 | some s=>ss.dropLast++[{ s with size:=s.size+(QAY p).length,ps:=s.ps++[p] }]
 | none=>[]
def QAy(m:DM)(l:LM)(p:Ab):DM×LM×Int×Int:=
 if m.down then (m,l,0,10)
 else if p.length>1024 then (m,l,0,2)
 else if l.next>=1099511627776\/(l.full=true/\l.curN=QLc) then (m,l,0,12)
 else
  let y:=if l.full then QBP m l else (m,l,0)
  if y.2.2≠0 then (y.1,y.2.1,0,y.2.2)
  else
   let n:=if l.full then l.curN+1 else l.curN
   let a:=QAF y.1 (fN n) (QAY p)
   if a.2≠0 then (a.1,y.2.1,0,a.2)
   else
    let ss:=if l.segs=[]\/l.full=true then l.segs++[⟨n,l.next,0,[]⟩] else l.segs
    (a.1,{ y.2.1 with segs:=QVv ss p },l.next,0)
def QCi(l:LM)(to keep:Int):Nat:=(l.segs.take (l.segs.length - (max keep 1).toNat)).takeWhile (fun s=>decide (s.next<=min to l.safe)) |>.length
def QVE(m:DM)(s:Sg):DM×Int:=
 let d:=QAj m newN
 if d.2≠0 then d else
 let a:=QAF d.1 newN (QAY (be8 s.n.toNat++be8 s.first.toNat))
 if a.2≠0 then a else
 let y:=QA0 a.1 newN
 if y.2≠0 then y else QBp y.1 newN headN
def QHD:List Sg->DM->DM×Int
 | [],m=>(m,0)
 | s::r,m=>if (QAJ m (fN s.n)).2≠0 then QAJ m (fN s.n) else QHD r (QAJ m (fN s.n)).1
def QC6(m:DM)(l:LM)(to keep:Int):DM×LM×Int:=
 if m.down then (m,l,10)
 else if QCi l to keep=0 then (m,l,0)
 else
  let y:=QVE m ((l.segs[QCi l to keep]?).getD ⟨0,0,0,[]⟩)
  if y.2≠0 then (y.1,l,y.2)
  else
   let g:=QHD (l.segs.take (QCi l to keep)) y.1
   if g.2≠0 then (g.1,l,g.2) else (g.1,{ l with segs:=l.segs.drop (QCi l to keep) },0)
def QCc(l:LM)(n:Int):Ab×Int:=
 if n<l.lo then ([],31)
 else match l.segs.find? fun s=>decide (n<s.next) with
  | some s=>((s.ps[(n - s.first).toNat]?).getD [],0)
  | none=>([],6)
end Go.Cx
namespace Go.Cx
open Go Go.Cf
set_option linter.unusedVariables false
set_option maxRecDepth 100000
theorem QFi(n:Int):fK n=preL++Lib.itoa n:=by unfold fK fN;rw[QCq]
theorem QL0{n:Nat}(h:1<=n):Lib.itoa (n:Int)=Lib.decDigits n:=by unfold Lib.itoa;rw[Wb Om,Wh]
theorem QdA{a b:Nat}(d:1<=a)(hb:1<=b)(h:Lib.itoa (a:Int)=Lib.itoa (b:Int)):a=b:=by
 rw[QL0 d,QL0 hb]at h;have h1:=(QHn a a (Wt _)).2.2.1;have c:=(QHn b b (Wt _)).2.2.1;rw[h,c]at h1;exact h1.symm
theorem QTY{a b:Nat}(c:1<=a)(hb:1<=b)(h:fK (a:Int)=fK (b:Int)):a=b:=by
 rw[QFi,QFi]at h;exact QdA c hb (List.append_cancel_left h)
theorem QZh(n:Int):fK n≠headN.toList:=by
 rw[QFi];unfold headN;rw[QCq];intro h;have:=Uh (fun l=>l[0]?) h;simp[preL]at this
theorem Qes(n:Int):fK n≠newN.toList:=by
 rw[QFi];unfold newN;rw[QCq];intro h;have:=Uh (fun l=>l[0]?) h;simp[preL]at this
theorem QNW(n:Nat):1<=(Lib.decDigits n).length:=Km.2 (QHn n n (Wt _)).1
theorem QaI{n:Nat}(h1:1<=n)(k:n<=999999999999):QE8 (fN (n:Int)).data.toList=true:=by
 unfold fN;rw[QQY,QL0 h1];obtain⟨g,b,h,i,c⟩:=QHn n n (Wt _);have hl:=QPy 11 n Om;have j:=QNW n;have d:=c h1;unfold QE8;simp only[Wf,Wq,W2,U1,ne_eq,Zq,Wd];have a:preL.length=4:=rfl;refine⟨⟨⟨⟨Om,Om⟩,?_⟩,?_⟩,?_⟩
 ·rw[<-a,Lg]
 ·rw[Wr Om];exact d
 ·rw[<-a,Z0];exact b
theorem Qcq{n:Nat}(h1:1<=n)(a:n<=999999999999):QDN (fN (n:Int))=true:=by
 have:=QaI h1 a;unfold QE8 at this;simp only[Wf,Wq]at this
 have e:(fN (n:Int)).data.toList.length=(fN (n:Int)).size:=by rw[Zy];rfl
 unfold QDN;simp only[Wf,Wq];omega
end Go.Cx
namespace Go.Cx
open Go Go.Cf
set_option linter.unusedVariables false
set_option maxRecDepth 100000
end Go.Cx
namespace Go.Cx
open Go Go.Cf
set_option linter.unusedVariables false
set_option maxRecDepth 100000
theorem QJc{α:Type}[DecidableEq α]:∀{l m:List α},l.Nodup->(∀x∈l,x∈m)->l.length<=m.length
 | [],m,_,_=>by simp
 | x::l,m,hn,hs=>by
  obtain⟨h1,b⟩:=List.nodup_cons.1 hn;have hx:=hs x (by simp)
  have:=QJc (l:=l) (m:=m.erase x) b fun y a=>by
   have c:y≠x:=fun e=>h1 (e ▸ a);exact (List.mem_erase_of_ne c).2 (hs y (by simp[a]))
  rw[List.length_erase_of_mem hx]at this;have:=List.length_pos_of_mem hx;simp;omega
end Go.Cx
namespace Go.Cx
open Go Go.Cf
set_option linter.unusedVariables false
set_option maxRecDepth 100000
structure LInv(l:LM):Prop where
 n:1<=l.n/\l.n<=2000000000000
 first:0<=l.first/\l.first<=2199023255552
 segs:∀s∈l.segs,(1<=s.n/\s.n<=2000000000000)/\(0<=s.first/\s.first<=2199023255552)/\(0<=s.size/\s.size<=16777216)/\(s.ps.length:Int)<=s.size/\∀p∈s.ps,p.length<=1024
 few:l.segs.length<=64
 safe:0<=l.safe/\l.safe<=4398046511104
 chain:∀(k:Nat) s s',l.segs[k]? = some s->l.segs[k+1]? = some s'->s'.first=s.next
theorem LInv.next{l:LM}(h:LInv l):0<=l.next/\l.next<=4000000000000:=by
 unfold LM.next LM.cur
 cases e:l.segs.getLast? with
 | none=>have:=h.first;simp only;omega
 | some s=>
  obtain⟨h1,a,b,c,_⟩:=h.segs s (Zo e);simp only[Sg.next];omega
theorem QVq{fs:List DF}(a:Sorted fs){i:Nat}{f g:DF}(b:fs[i]? = some f)(c:g.key=f.key)(k:Key):(QCa (fs.set i g) k).isSome=(QCa fs k).isSome:=by
 rw[QGT a b c];split
 ·rename_i e
  rw[e,(QEV a).2 ⟨Wp b,rfl⟩];rfl
 ·rfl
theorem Qbn{m:DM}{nm:ByteArray}{g:Nat->DF->DM->DM×Int}(hI:DInv m)(h:∀i f,m.fs[i]? = some f->∀k,(QCa (g i f m).1.fs k).isSome=(QCa m.fs k).isSome)(k:Key):(QCa (QBb m nm g).1.fs k).isSome=(QCa m.fs k).isSome:=by
 unfold QBb;split
 ·rfl
 split
 ·rfl
 ·rename_i a
  exact h _ _ (QCY (Si a)).1 k
theorem QO9{m:DM}{φ:List DF->List DF}(h:∀k,(QCa (φ m.fs) k).isSome=(QCa m.fs k).isSome)(k:Key):(QCa (QD3 m fun m=>{ m with fs:=φ m.fs }).1.fs k).isSome=(QCa m.fs k).isSome:=by
 rcases QIE m φ with hx|hx
 ·rw[hx.2]
 ·rw[hx.files];exact h k
theorem Qas{m:DM}(hI:DInv m)(nm:ByteArray)(k:Key):(QCa (QA0 m nm).1.fs k).isSome=(QCa m.fs k).isSome:=
 Qbn hI (fun i f a k=>QO9 (φ:=fun fs=>fs.set i { f with sy:=f.b.length }) (fun k=>QVq (g:=⟨f.nm,f.b,(f.b.length:Int)⟩) hI.sorted a rfl k) k) k
theorem QYZ{m:DM}(hI:DInv m)(nm:ByteArray)(n:Int)(k:Key):(QCa (QBc m nm n).1.fs k).isSome=(QCa m.fs k).isSome:=by
 refine Qbn hI (fun i f a k=>?_) k;split
 ·rfl
 ·exact QO9 (φ:=fun fs=>fs.set i { f with b:=f.b.take n.toNat,sy:=if n<f.sy then n else f.sy }) (fun k=>QVq (g:=⟨f.nm,f.b.take n.toNat,if n<f.sy then n else f.sy⟩) hI.sorted a rfl k) k
theorem QcQ{m:DM}(hI:DInv m)(n:Int):DInv (QEb m n).1:=by
 unfold QEb
 (try simp only)
 generalize b:(if (QAx (QAc m (fN n)).1).2<(QAc m (fN n)).1.length then QBc m (fN n) (QAx (QAc m (fN n)).1).2 else (m,0))=t
 have a:DInv t.1:=by
  rw[<-b];split
  ·exact QGH hI _ _
  ·exact hI
 split
 ·exact a
 ·exact QRY a _
theorem QSj{m:DM}(hI:DInv m)(n:Int)(k:Key):(QCa (QEb m n).1.fs k).isSome=(QCa m.fs k).isSome:=by
 unfold QEb
 (try simp only)
 generalize b:(if (QAx (QAc m (fN n)).1).2<(QAc m (fN n)).1.length then QBc m (fN n) (QAx (QAc m (fN n)).1).2 else (m,0))=t
 have a:DInv t.1/\(QCa t.1.fs k).isSome=(QCa m.fs k).isSome:=by
  rw[<-b];split
  ·exact⟨QGH hI _ _,QYZ hI _ _ k⟩
  ·exact⟨hI,rfl⟩
 split
 ·exact a.2
 ·rw[Qas a.1];exact a.2
theorem QfZ{fs:List DF}{f:DF}(h:f∈fs):f.b.length<=QBu fs:=by
 obtain⟨i,hi⟩:=Oh.1 h;have:=QBw hi;omega
theorem QQy{m:DM}(hI:DInv m)(nm:ByteArray):(QAc m nm).1.length<=16777216:=by
 cases h:QCa m.fs nm.toList with
 | none=>rw[QTC hI h];simp
 | some f=>
  rw[QNN hI h];have:=QfZ (QJ1 h);have:=hI.used;have:=hI.room;simp only;omega
theorem QZD{m:DM}(hI:DInv m){nm:ByteArray}(h:(QAc m nm).2=0):(QCa m.fs nm.toList).isSome=true:=by
 cases e:QCa m.fs nm.toList with
 | none=>rw[QTC hI e]at h;cases h
 | some f=>rfl
theorem QOm:∀(n:Nat) (b:Ab),b.length<=n->(QAx b).1.length<=(QAx b).2
 | 0,b,h=>by
  have hb:b=[]:=Wm Om;subst hb;rw[QNM Dc];simp
 | n+1,b,h=>by
  by_cases a:(QBX b).2.2=0
  ·obtain⟨c,a2,a3,a4,_⟩:=QNq a;have d:(b.drop (QBX b).2.1).length=b.length - (QBX b).2.1:=Oc;have:=QOm n (b.drop (QBX b).2.1) Om;rw[QUd a];simp only[Wl];omega
  ·rw[QNM a];simp
structure ReadI(n0 f0:Int)(m:DM)(l:LM):Prop where
 inv:DInv m
 n:l.n=n0
 first:l.first=f0
 safe:l.safe=0
 segs:∀(j:Nat) s,l.segs[j]? = some s->s.n=n0+j/\(QCa m.fs (fK s.n)).isSome=true/\(0<=s.first/\s.first<=1099511627776+16777216*(j:Int))/\(0<=s.size/\s.size<=16777216)/\(s.ps.length:Int)<=s.size/\∀p∈s.ps,p.length<=1024
 next:0<=l.next/\l.next<=1099511627776+16777216*(l.segs.length:Int)
 chain:∀(k:Nat) s s',l.segs[k]? = some s->l.segs[k+1]? = some s'->s'.first=s.next
theorem QbY(l:LM)(s:Sg):({ l with segs:=l.segs++[s] }:LM).next=s.next:=by
 unfold LM.next LM.cur;simp
theorem QGr{α:Type}{l:List α}{x:α}(h:l.getLast? = some x):l[l.length - 1]? = some x:=by
 rw[List.getLast?_eq_getElem?]at h;exact h
theorem QR6{l:LM}{s:Sg}(h:l.segs[l.segs.length - 1]? = some s):l.next=s.next:=by
 unfold LM.next LM.cur;rw[List.getLast?_eq_getElem?,h]
theorem QKs{l:LM}{x:Sg}(h:∀(k:Nat) s a,l.segs[k]? = some s->l.segs[k+1]? = some a->a.first=s.next)(hx:x.first=l.next) :
  ∀(k:Nat) s a,(l.segs++[x])[k]? = some s->(l.segs++[x])[k+1]? = some a->a.first=s.next:=by
 intro k s a h1 b;have c:=(Wc.1 b).1;simp at c;rw[Wj c]at h1;by_cases e:k+1<l.segs.length
 ·rw[Wj e]at b;exact h k s a h1 b
 ·have:k+1=l.segs.length:=Om
  rw[Wr Om,this,Ur]at b;have b:=W3 b;subst b;rw[hx,QR6 (by rw[<-this];exact h1)]
theorem ReadI.start{n0 f0:Int}{m:DM}(hI:DInv m)(b:0<=f0/\f0<=1099511627776):ReadI n0 f0 m ⟨n0,f0,[],0⟩:=
 ⟨hI,rfl,rfl,rfl,fun j s h=>by simp at h,by show 0<=f0/\f0<=_;simp;omega,fun k s a h=>by simp at h⟩
theorem QTS{fs:List DF}{n0:Nat}(h0:1<=n0){n:Nat}(h:∀i,i<n->(QCa fs (fK ((n0+i:Nat):Int))).isSome=true):n<=fs.length:=by
 have:=QJc (l:=(List.range n).map fun i=>fK ((n0+i:Nat):Int)) (m:=fs.map DF.key) (by
  refine List.pairwise_map.2 ?_
  exact List.nodup_range.imp fun {a b} d e=>d (by have:=QTY Om Om e;omega)) (fun x hx=>by
  obtain⟨i,hi,rfl⟩:=Uz.1 hx;have:=h i (Kh.1 hi);obtain⟨f,c⟩:=O5.1 this
  exact Uz.2 ⟨f,QJ1 c,QCX c⟩)
 simpa using this
theorem ReadI.few{n0 f0:Int}{m:DM}{l:LM}(h:ReadI n0 f0 m l)(h0:1<=n0):l.segs.length<=64:=by
 obtain⟨k,b⟩:=W1 (show 0<=n0 by omega);subst b
 have:=QTS (fs:=m.fs) (n0:=k) Om (n:=l.segs.length) fun i hi=>by
  obtain⟨e,a,_⟩:=h.segs i _ (Wa hi);rw[e]at a;exact a
 have:=h.inv.len;omega
theorem ReadI.more{n0 f0:Int}{m:DM}{l:LM}(h:ReadI n0 f0 m l)(h0:1<=n0)(g:(QAc m (fN (n0+l.segs.length))).2=0) :
  ReadI n0 f0 (QEb m (n0+l.segs.length)).1 { l with segs:=l.segs++[⟨n0+l.segs.length,l.next,(QAx (QAc m (fN (n0+l.segs.length))).1).2,(QAx (QAc m (fN (n0+l.segs.length))).1).1⟩] }:=by
 have o:=QQy h.inv (fN (n0+l.segs.length));obtain⟨i,k,c⟩:=QJ0 _ (QAc m (fN (n0+l.segs.length))).1 (Wt _);have q:=QOm _ (QAc m (fN (n0+l.segs.length))).1 (Wt _);refine⟨QcQ h.inv _,h.n,h.first,h.safe,fun j s a=>?_,?_,QKs h.chain rfl⟩
 ·by_cases hj:j<l.segs.length
  ·rw[Wj hj]at a;obtain⟨d,a2,a3⟩:=h.segs j s a;exact⟨d,by rw[QSj h.inv];exact a2,a3⟩
  ·have hl:=(Wc.1 a).1;simp at hl
   obtain rfl:j=l.segs.length:=Om
   rw[Wr (Wt _),Ur]at a;have a:=W3 a;subst a;have:=h.next;refine⟨rfl,by rw[QSj h.inv];exact QZD h.inv g,by simp only;omega,by simp only;omega,by simp only;omega,fun p b=>c p b⟩
 ·rw[QbY];have:=h.next;simp only[Sg.next,Wd,W8];omega
theorem ReadI.linv{n0 f0:Int}{m:DM}{l:LM}(h:ReadI n0 f0 m l)(h0:1<=n0/\n0<=999999999999)(g:0<=f0/\f0<=1099511627776):LInv l:=by
 have c:=h.few h0.1;refine⟨by rw[h.n];omega,by rw[h.first];omega,fun s a=>?_,c,by rw[h.safe];omega,h.chain⟩;obtain⟨j,hj⟩:=Oh.1 a;obtain⟨d,a2,a3,a4,a5,b⟩:=h.segs j s hj;have:=(Wc.1 hj).1;exact⟨Om,Om,a4,a5,b⟩
theorem QNB(m:DM)(h:(QDM m).2.2=0):(1<=(QDM m).1/\(QDM m).1<=999999999999)/\(0<=(QDM m).2.1/\(QDM m).2.1<=1099511627776):=by
 unfold QDM at h|-;split
 ·exact⟨Dc,Dc⟩
 rename_i h1
 rw[Wb h1]at h;simp only at h|-;split
 ·rename_i a;rw[We a]at h;cases h
 rename_i a
 rw[Wb a]at h;split
 ·rename_i b;rw[We b]at h;cases h
 ·rename_i b
  (try simp only)
  omega
end Go.Cx
namespace Go.Cx
open Go Go.Cf
set_option linter.unusedVariables false
set_option maxRecDepth 100000
end Go.Cx
namespace Go.Cx
open Go Go.Cf
set_option linter.unusedVariables false
set_option maxRecDepth 100000
end Go.Cx
namespace Go.Cx
open Go Go.Cf
set_option linter.unusedVariables false
set_option maxRecDepth 100000
abbrev KY:=Int×Int
def ltK(a b:KY):Bool:=decide (a.1<b.1)||(decide (a.1=b.1)&&decide (a.2<b.2))
theorem QP9{a b:KY}:ltK a b=true↔a.1<b.1\/(a.1=b.1/\a.2<b.2):=by
 unfold ltK;simp only[Oz,Wf,Wq]
theorem QKP(a:KY):ltK a a=false:=by
 rw[Zd];intro h;rcases QP9.1 h with h|h<;>omega
theorem QEr{a b c:KY}(h1:ltK a b=true)(d:ltK b c=true):ltK a c=true:=by
 rw[QP9]at *;omega
theorem QUM(a b:KY):ltK a b=true\/a=b\/ltK b a=true:=by
 rw[QP9,QP9];by_cases h:a=b
 ·exact .inr (.inl h)
 ·have:a.1≠b.1\/a.2≠b.2:=by
   by_cases h1:a.1=b.1
   ·exact .inr fun c=>h (Prod.ext h1 c)
   ·exact .inl h1
  omega
theorem QHx{a b:KY}(h:ltK a b=true):ltK b a=false:=by
 rw[Zd];intro c;have:=QEr h c;rw[QKP]at this;cases this
abbrev QKU(l:List KY):Prop:=l.Pairwise fun a b=>ltK a b=true
structure Pg(α:Type) where
 ks:List KY
 vs:Ae
 kids:List α
def PT:Nat->Type
 | 0=>Pg Empty
 | n+1=>Pg (PT n)
def mix:List KY->List (List KY)->List KY
 | ks,[]=>ks
 | [],l::_=>l
 | k::ks,l::ls=>l++k::mix ks ls
def QBZ:(n:Nat)->PT n->List KY
 | 0,(p:Pg Empty)=>p.ks
 | n+1,(p:Pg (PT n))=>mix p.ks (p.kids.map (QBZ n))
def QFG:(n:Nat)->PT n->Prop
 | 0,(p:Pg Empty)=>p.ks.length<=15/\p.vs.length=p.ks.length
 | n+1,(p:Pg (PT n))=>p.ks.length<=15/\p.vs.length=p.ks.length/\p.kids.length=p.ks.length+1/\∀k∈p.kids,QFG n k
def QHR:List KY->List (List KY)->Nat->List KY
 | k::ks,l::ls,i+1=>l++k::QHR ks ls i
 | _,_,_=>[]
def QKt:List KY->List (List KY)->Nat->List KY
 | k::ks,_::ls,i+1=>QKt ks ls i
 | k::ks,_::ls,0=>k::mix ks ls
 | _,_,_=>[]
theorem QLT:∀{ks:List KY}{ls:List (List KY)}(i:Nat) {x:List KY},ls.length=ks.length+1->ls[i]? = some x->mix ks ls=QHR ks ls i++(x++QKt ks ls i)
 | ks,[],i,x,h,hx=>by simp at h
 | [],[l],0,x,h,hx=>by
  obtain rfl:l=x:=Si hx
  simp[mix,QHR,QKt]
 | [],[l],i+1,x,h,hx=>by simp at hx
 | [],l::l2::ls,i,x,h,hx=>by simp at h
 | k::ks,l::ls,0,x,h,hx=>by
  obtain rfl:l=x:=Si hx
  simp[mix,QHR,QKt]
 | k::ks,l::ls,i+1,x,h,hx=>by
  have a:=QLT (ks:=ks) (ls:=ls) i (x:=x) (Si h) (Si hx);simp only[mix,QHR,QKt,a,Wk,Ul]
theorem QaS:∀{ks:List KY}{ls:List (List KY)}(i:Nat) (x:List KY),ls.length=ks.length+1->i<ls.length->mix ks (ls.set i x)=QHR ks ls i++(x++QKt ks ls i)
 | ks,[],i,x,h,hx=>by simp at h
 | [],[l],0,x,h,hx=>by simp[mix,QHR,QKt]
 | [],[l],i+1,x,h,hx=>by simp at hx
 | [],l::l2::ls,i,x,h,hx=>by simp at h
 | k::ks,l::ls,0,x,h,hx=>by simp[mix,QHR,QKt]
 | k::ks,l::ls,i+1,x,h,hx=>by
  have a:=QaS (ks:=ks) (ls:=ls) i x (Si h) (Si hx);simp only[List.set_cons_succ,mix,QHR,QKt,a,Wk,Ul]
def QA1{α:Type}(l:List α)(i:Nat)(x:α):List α:=l.take i++x::l.drop i
theorem QCP{α:Type}(l:List α)(i:Nat)(x:α):(QA1 l i x).length=l.length+1:=by
 unfold QA1;have:=Uh List.length (Wu i l);simp only[Wd,Wl]at this|-;omega
theorem QRp:∀{ks:List KY}{ls:List (List KY)}(i:Nat) (m:KY) (a b:List KY),ls.length=ks.length+1->i<ls.length->mix (QA1 ks i m) (QA1 (ls.set i a) (i+1) b)=QHR ks ls i++((a++m::b)++QKt ks ls i)
 | ks,[],i,m,a,b,h,hx=>by simp at h
 | [],[l],0,m,a,b,h,hx=>by simp[QA1,mix,QHR,QKt]
 | [],[l],i+1,m,a,b,h,hx=>by simp at hx
 | [],l::l2::ls,i,m,a,b,h,hx=>by simp at h
 | k::ks,l::ls,0,m,a,b,h,hx=>by
  cases ls with
  | nil=>simp at h
  | cons l2 ls=>simp[QA1,mix,QHR,QKt]
 | k::ks,l::ls,i+1,m,a,b,h,hx=>by
  have c:=QRp (ks:=ks) (ls:=ls) i m a b (Si h) (Si hx);simp only[QA1]at c;simp only[QA1,List.set_cons_succ,List.take_succ_cons,La,Ul,mix,QHR,QKt,c,Wk]
theorem QWf:∀{ks:List KY}{ls:List (List KY)}(d:Nat) {m:KY},ls.length=ks.length+1->ks[d]? = some m->mix ks ls=mix (ks.take d) (ls.take (d+1))++m::mix (ks.drop (d+1)) (ls.drop (d+1))
 | [],ls,d,m,h,hm=>by simp at hm
 | ks,[],d,m,h,hm=>by simp at h
 | k::ks,[l],d,m,h,hm=>by simp at h
 | k::ks,l::l2::ls,0,m,h,hm=>by
  obtain rfl:k=m:=Si hm
  simp[mix]
 | k::ks,l::l2::ls,d+1,m,h,hm=>by
  have a:=QWf (ks:=ks) (ls:=l2::ls) d (m:=m) (Si h) (Si hm);simp only[mix,List.take_succ_cons,La,a,Wk,Ul]
theorem QRj:∀{ks:List KY}{ls:List (List KY)}(i:Nat) {k:KY},ls.length=ks.length+1->ks[i]? = some k->∃a,QHR ks ls (i+1)=a++[k]
 | [],ls,i,k,h,hk=>by simp at hk
 | b::ks,[],i,k,h,hk=>by simp at h
 | b::ks,l::ls,0,k,h,hk=>by
  obtain rfl:b=k:=Si hk
  exact⟨l,by cases ks<;>cases ls<;>simp[QHR]⟩
 | b::ks,l::ls,i+1,k,h,hk=>by
  obtain⟨a,c⟩:=QRj (ks:=ks) (ls:=ls) i (k:=k) (Si h) (Si hk);exact⟨l++b::a,by rw[QHR,c];simp⟩
theorem Qak(ks:List KY)(ls:List (List KY)):QHR ks ls 0=[]:=by cases ks<;>cases ls<;>simp[QHR]
theorem QJO:∀{ks:List KY}{ls:List (List KY)}(i:Nat) {k:KY},ls.length=ks.length+1->ks[i]? = some k->∃z,QKt ks ls i=k::z
 | [],ls,i,k,h,hk=>by simp at hk
 | a::ks,[],i,k,h,hk=>by simp at h
 | a::ks,l::ls,0,k,h,hk=>by
  obtain rfl:a=k:=Si hk
  exact⟨mix ks ls,rfl⟩
 | a::ks,l::ls,i+1,k,h,hk=>by
  obtain⟨z,b⟩:=QJO (ks:=ks) (ls:=ls) i (k:=k) (Si h) (Si hk);exact⟨z,by rw[QKt,b]⟩
theorem QQh:∀{ks:List KY}{ls:List (List KY)}(i:Nat),ks.length<=i->QKt ks ls i=[]
 | [],ls,i,h=>by simp[QKt]
 | k::ks,[],i,h=>by simp[QKt]
 | k::ks,l::ls,0,h=>by simp at h
 | k::ks,l::ls,i+1,h=>by rw[QKt];exact QQh i (Si h)
theorem QSw:∀{ks:List KY}{ls:List (List KY)}(i:Nat) {k:KY}{x:List KY},ks[i]? = some k->ls[i]? = some x->QHR ks ls (i+1)=QHR ks ls i++(x++[k])
 | [],ls,i,k,x,hk,hx=>by simp at hk
 | a::ks,[],i,k,x,hk,hx=>by simp at hx
 | a::ks,l::ls,0,k,x,hk,hx=>by
  obtain rfl:a=k:=Si hk
  obtain rfl:l=x:=Si hx
  cases ks<;>cases ls<;>simp[QHR]
 | a::ks,l::ls,i+1,k,x,hk,hx=>by
  have b:=QSw (ks:=ks) (ls:=ls) i (k:=k) (x:=x) (Si hk) (Si hx);rw[QHR,b,QHR];simp
def QKv(k:KY)(l:List KY):List KY:=if k∈l then l else l.filter (ltK · k)++k::l.filter (ltK k ·)
theorem QZb{k:KY}{a x z:List KY}(c:∀y∈a,ltK y k=true)(d:∀y∈z,ltK k y=true):QKv k (a++(x++z))=a++(QKv k x++z):=by
 have g:k∉a:=fun h=>by have:=c k h;rw[QKP]at this;cases this
 have i:k∉z:=fun h=>by have:=d k h;rw[QKP]at this;cases this
 unfold QKv;by_cases h:k∈x
 ·rw[We (by simp[h]),We h]
 ·rw[Wb (by simp[h,g,i]),Wb h];have j:a.filter (ltK · k)=a:=Ko.2 c;have l:z.filter (ltK k ·)=z:=Ko.2 d
  have m:z.filter (ltK · k)=[]:=Z3.2 fun y b=>by rw[QHx (d y b)];decide
  have n:a.filter (ltK k ·)=[]:=Z3.2 fun y b=>by rw[QHx (c y b)];decide
  simp only[Kx,j,l,m,n,Oi,W6,Wk,Ul]
theorem QIm{k:KY}{l:List KY}(h:k∈l):QKv k l=l:=by unfold QKv;rw[We h]
theorem QYQ{a:List KY}{m k:KY}(d:QKU (a++[m]))(b:ltK m k=true):∀y∈a++[m],ltK y k=true:=by
 intro y c;rcases W4.1 c with h|h
 ·exact QEr ((Of.1 d).2.2 y h m (by simp)) b
 ·obtain rfl:y=m:=Si h
  exact b
theorem QPc{z:List KY}{m k:KY}(c:QKU (m::z))(a:ltK k m=true):∀y∈m::z,ltK k y=true:=by
 intro y b;rcases W7.1 b with rfl|h
 ·exact a
 ·exact QEr a ((Z7.1 c).1 y h)
theorem QhS{k:KY}{l:List KY}{i:Nat}(h1:∀y∈l.take i,ltK y k=true)(b:∀y∈l.drop i,ltK k y=true):QKv k l=QA1 l i k:=by
 have:=QZb (k:=k) (a:=l.take i) (x:=[]) (z:=l.drop i) h1 b;rw[W6,Wu]at this;rw[this];rfl
theorem QbW{k:KY}{l:List KY}(h:QKU l):QKU (QKv k l):=by
 unfold QKv;split
 ·exact h
 ·rename_i g
  refine Of.2 ⟨h.filter _,Z7.2 ⟨fun y c=>(Up.1 c).2,h.filter _⟩,fun a d b hb=>?_⟩;have h1:=(Up.1 d).2;rcases W7.1 hb with rfl|hb
  ·exact h1
  ·exact QEr h1 (Up.1 hb).2
theorem QNc{k:KY}:∀(l:List KY),k∉l->(l.filter (ltK · k)).length+(l.filter (ltK k ·)).length=l.length
 | [],_=>rfl
 | y::r,hk=>by
  have a:k∉r:=fun h=>hk (Wz _ h);have c:=QNc r a;have b:y≠k:=fun e=>hk (by rw[e];exact W5 ..);rcases QUM y k with h1|e|h1
  ·rw[Za (p:=fun x=>ltK x k) h1,Zx (p:=fun x=>ltK k x) (by rw[QHx h1];decide),Wl,Wl];omega
  ·exact absurd e b
  ·rw[Zx (p:=fun x=>ltK x k) (by rw[QHx h1];decide),Za (p:=fun x=>ltK k x) h1,Wl,Wl];omega
theorem QUi{k:KY}{l:List KY}(h:k∉l):(QKv k l).length=l.length+1:=by
 unfold QKv;rw[Wb h,Wd,Wl];have:=QNc l h;omega
def QGz(a b:KY)(l:List KY):List KY:=l.filter fun x=>!(ltK x a)&&ltK x b
theorem QFj(a b:KY)(l m:List KY):QGz a b (l++m)=QGz a b l++QGz a b m:=Kx _ _
theorem QfH{a b:KY}{l:List KY}(h:∀y∈l,ltK y a=true):QGz a b l=[]:=Z3.2 fun y c=>by rw[h y c];simp
theorem QWU{a b:KY}{l:List KY}(h:∀y∈l,ltK y b=false):QGz a b l=[]:=Z3.2 fun y c=>by rw[h y c,Bool.and_false];decide
theorem Qbm{a b k:KY}(h1:ltK k a=false)(c:ltK k b=true):QGz a b [k]=[k]:=by
 unfold QGz;rw[Za (by rw[h1,c];rfl)];rfl
theorem Qia{b m:KY}(h:ltK m b=false){z:List KY}(d:QKU (m::z)):∀y∈m::z,ltK y b=false:=by
 intro y a;rw[Zd];intro c;rcases W7.1 a with rfl|a
 ·rw[h]at c;cases c
 ·have:=QEr ((Z7.1 d).1 y a) c;rw[h]at this;cases this
def plK(ks:List KY)(k:KY):Nat:=(ks.takeWhile (ltK · k)).length
theorem QK0(ks:List KY)(k:KY):plK ks k<=ks.length:=(Z2 _).length_le
theorem QXH{ks:List KY}{k:KY}:∀j y,j<plK ks k->ks[j]? = some y->ltK y k=true:=by
 intro j y hj a;have c:ks.takeWhile (ltK · k) <+: ks:=List.takeWhile_prefix _
 have e:(ks.takeWhile (ltK · k))[j]? = some y:=by
  obtain⟨t,b⟩:=c;rw[<-b,Wj hj]at a;exact a
 exact Ot.1 (List.all_takeWhile (p:=fun x=>ltK x k) (l:=ks)) y (Wp e)
theorem QPA{ks:List KY}{k y:KY}(h:ks[plK ks k]? = some y):ltK y k=false:=by
 unfold plK at h
 induction ks with
 | nil=>simp at h
 | cons x r ih=>
  cases hx:ltK x k with
  | true=>
   rw[Lb (p:=fun x=>ltK x k) hx]at h;simp only[Wl,Kw]at h;exact ih h
  | false=>
   rw[Lc (p:=fun x=>ltK x k) (by rw[hx];decide)]at h
   obtain rfl:x=y:=Si h
   exact hx
theorem QWO{ks:List KY}{ls:List (List KY)}{k:KY}(hl:ls.length=ks.length+1)(d:QKU (mix ks ls)):∀y∈QHR ks ls (plK ks k),ltK y k=true:=by
 cases g:plK ks k with
 | zero=>rw[Qak];simp
 | succ i=>
  have hi:i<ks.length:=by have:=QK0 ks k;omega
  have c:ks[i]? = some ks[i]:=Wa hi;obtain⟨a,b⟩:=QRj i hl c;have hx:ls[i+1]? = some ls[i+1]:=Wa Om;rw[QLT (i+1) hl hx,b]at d;rw[b];exact QYQ (Of.1 d).1 (QXH i _ Om c)
theorem Qax{ks:List KY}{ls:List (List KY)}{k:KY}(hl:ls.length=ks.length+1)(c:QKU (mix ks ls))(hn:ks[plK ks k]?≠some k):∀y∈QKt ks ls (plK ks k),ltK k y=true:=by
 by_cases d:plK ks k<ks.length
 ·have a:ks[plK ks k]? = some ks[plK ks k]:=Wa d;obtain⟨z,b⟩:=QJO (plK ks k) hl a;have hx:ls[plK ks k]? = some ls[plK ks k]:=Wa Om;rw[QLT (plK ks k) hl hx,b]at c;rw[b];refine QPc (Of.1 (Of.1 c).2.1).2.1 ?_;rcases QUM k ks[plK ks k]with h|h|h
  ·exact h
  ·rw[a,<-h]at hn;exact absurd rfl hn
  ·rw[QPA a]at h;cases h
 ·rw[QQh _ Om];simp
theorem Qfo{ks:List KY}{ls:List (List KY)}{i:Nat}{k:KY}(hl:ls.length=ks.length+1)(a:ks[i]? = some k):k∈mix ks ls:=by
 have hi:=(Wc.1 a).1;have hx:ls[i]? = some ls[i]:=Wa Om;obtain⟨z,b⟩:=QJO i hl a;rw[QLT i hl hx,b];simp
theorem QWr{ks:List KY}{k:KY}(g:QKU ks)(hn:ks[plK ks k]?≠some k):QA1 ks (plK ks k) k=QKv k ks:=by
 refine (QhS (fun y a=>?_) fun y a=>?_).symm
 ·obtain⟨j,hj⟩:=List.getElem?_of_mem a;rw[List.getElem?_take]at hj;split at hj
  ·rename_i h;exact QXH j y h hj
  ·cases hj
 ·by_cases b:plK ks k<ks.length
  ·have c:ks[plK ks k]? = some ks[plK ks k]:=Wa b;rw[Ws b]at a
   have d:QKU (ks[plK ks k]::ks.drop (plK ks k+1)):=by
    rw[<-Ws b];exact g.sublist (List.drop_sublist _ _)
   refine QPc d ?_ y a;rcases QUM k ks[plK ks k]with h|h|h
   ·exact h
   ·rw[c,<-h]at hn;exact absurd rfl hn
   ·rw[QPA c]at h;cases h
  ·rw[Zg Om]at a;simp at a
end Go.Cx
namespace Go.Cf
open Go
set_option linter.unusedVariables false
section
variable {P:Program}{t u ty e:TypeId}{sz by_:Nat}{w:World}
theorem QSd(h:QI5 P t e sz by_=true)(j:P.underlying u=some .string){a:ByteArray}{b:Nat}{cs:Ad}(k:(Builtin.firstCells sz a.size (.string a)).run P w=.ok cs.toArray w){c:Nat}(l:c+a.size<=b) :
  (Builtin.append_ #[t,u] ty #[.slice none c b,.string a]).run P w=.ok (.slice none (c+a.size) b) w:=by
 obtain⟨i,z,d,hi,g,m,n,o,p⟩:=QB4 h;subst g;simp[Builtin.append_,run_underlying d,run_underlying j,sizeOf,typeInfo,hi,Builtin.lenOf,l,k]
theorem QSh(j:QI5 P t e sz by_=true)(k:P.underlying u=some .string){b:ByteArray}{a:Addr}{c d:Nat}{cs:Ad}(l:(Builtin.firstCells sz b.size (.string b)).run P w=.ok cs.toArray w)(m:c+b.size<=d){w':World}
  (n:(storeCells (a.add (c*sz)) cs).run P w=.ok () w'):(Builtin.append_ #[t,u] ty #[.slice (some a) c d,(.string b)]).run P w=.ok (.slice (some a) (c+b.size) d) w':=by
 obtain⟨i,z,g,hi,h,o,p,q,r⟩:=QB4 j;subst h;simp[Builtin.append_,run_underlying g,run_underlying k,sizeOf,typeInfo,hi,Builtin.lenOf,m,l,n]
theorem QQs(F:QI5 P t e sz by_=true)(H:P.underlying u=some .string){a:ByteArray}{p:Ac}{b d:Nat}{os cs:Ad}(I:∀c:World,mem c=mem w->(Builtin.firstCells sz b (.slice p b d)).run P c=.ok os.toArray c)
  (J:∀c:World,mem c=mem w->(Builtin.firstCells sz a.size (.string a)).run P c=.ok cs.toArray c) (K:¬b+a.size<=d) (hb:(b+a.size)*by_<=140737488355328) {n:Ad}(M:QFR P e=some n) :
  ∃(k:Nat),b+a.size<=k/\k<=9223372036854775807/\(Builtin.append_ #[t,u] ty #[.slice p b d,(.string a)]).run P w=.ok (.slice (some ⟨w.heap.size,0,none⟩) (b+a.size) k) (w.drew.alloc (.cells (os++cs++QJI n (k - (b+a.size))).toArray e)):=by
 obtain⟨i,z,o,hi,q,r,v,h,N⟩:=QB4 F;subst q;subst r;have O:=growslice_fits (by omega:d<b+a.size) hb
 have y:¬(9223372036854775807<((b:Int)+(a.size:Int))):=by
  have:b+a.size<=(b+a.size)*i.bytes:=Zv _ v;omega
 have A:¬(281474976710656<Builtin.nextslicecap (b+a.size) d*i.bytes):=Om
 have C:=J w.drew rfl;have D:=I w.drew rfl;obtain⟨x,g,j,l,rfl⟩:=QCQ M
 obtain rfl:x=i:=by rw[hi]at j;exact (W3 j).symm
 obtain rfl:g=z:=by rw[h]at l;exact (W3 l).symm
 have E:∀m,Builtin.zeroCells g.cells m=(QJI g.cells.toList m).toArray:=fun m=>by rw[<-QEg];rfl
 refine⟨grownCap w (b+a.size) d e,QZw w _ _ _,Qbe w _ _ _ Om,?_⟩;simp[Builtin.append_,run_underlying o,run_underlying H,sizeOf,typeInfo,zeroValue,hi,h,Builtin.lenOf,K,y,A,Question.forced,C,D,newRow,grownCap,E]
end
variable {B:QBJ}{As:List HP}
theorem QSg{P:Program}{t u ty e:TypeId}{V:Nat}(K:QI5 P t e 1 V=true)(M:P.underlying u=some .string)(c2:QFR P e=some (U8.f U8.zero)){s:Sl}{c:ByteArray}{xs ys:Ab}(n:ys=c.data.toList){F:List HP}{w:World}(W:Sx B (Ar U8 s xs::F) w)
  (hb:(xs.length+ys.length)*V<=140737488355328) :
  ∃U w',(Builtin.append_ #[t,u] ty #[s.v,.string c]).run P w=.ok (Sl.v U) w'/\Sx B (Ar U8 U (xs++ys)::F) w':=by
 obtain⟨p,d,j⟩:=s
 have b0:ys.length=c.size:=by rw[n];simp
 have H:∀i:World,mem i=mem w->(Builtin.firstCells U8.sz c.size (.string c)).run P i=.ok (QAi U8 ys).toArray i:=fun i _=>by
  have e:(c.extract 0 c.size).data.map (fun b=>Value.int .u8 (b.toNat:Int))=(QAi U8 ys).toArray:=by
   have b1:QAi U8 ys=ys.map fun b=>Value.int .u8 (b.toNat:Int):=(List.map_eq_flatMap ..).symm;rw[ByteArray.extract_zero_size,b1,n];rw[<-Array.toList_inj];simp
  show (pure _:Sem (Array Value)).run P i=_;rw[e];rfl
 have S:=W;obtain⟨g,⟨h1,X,⟨zs,l⟩,Y,Z,r,a0⟩,x,a1⟩:=W;have b2:RAr U8 ⟨p,d,j⟩ xs (mem w):=l.read.mono (r.trans x);have b3:=fun(i:World) (h:mem i=mem w)=>RArr.first (P:=P) (w:=i) (by rw[h];exact b2.2)
 have I:xs.length=d:=l.1;have c4:xs.length+zs.length=j:=l.2.1;by_cases J:d+c.size<=j
 ·cases p with
  | none=>
   have h0:j=0:=by
    rcases l.2.2 with⟨_,h⟩|⟨b,o,_,_,_,_,h,_⟩
    ·exact h
    ·cases h
   have b4:ys=[]:=Wm Om
   have b5:c.size=0:=Om
   subst b4;refine⟨⟨none,d+c.size,j⟩,w,QSd K M (H w rfl) J,?_⟩;rw[Oi,b5];exact S
  | some a=>
   rcases l.2.2 with⟨h,_⟩|⟨b,o,pre,post,D,fr,O,Q,E,hfr,a'⟩
   ·cases h
   ·simp only[Wg]at O;subst O;have T:w.heap[b]? = some (.cells (pre++QAi U8 (xs++zs)++post).toArray D fr):=x _ _ (r _ _ Q);have b6:=QAI U8 xs;have b7:=QAI U8 ys
    have b8:ys.length<=zs.length:=Om
    have b9:QAi U8 (xs++zs)=QAi U8 xs++QAi U8 (zs.take ys.length)++QAi U8 (zs.drop ys.length):=by
     rw[<-QAU,<-QAU,Wk,Wu]
    obtain⟨w',a2,N,a3,a4,a5,a6,a7⟩:=QCp (P:=P) b D fr (QAi U8 ys) (o+d*U8.sz) 0 (pre++QAi U8 (xs++zs)++post) w T (by
     have:(xs.length+ys.length)*U8.sz<=(xs.length+zs.length)*U8.sz:=Ux _ Om;rw[Nat.add_mul]at this
     simp only[Wd,QAI,b7,E,<-I];omega) hfr (QJk U8 ys)
    have b':QE6 (QAi U8 ys) (o+d*U8.sz+0) (pre++QAi U8 (xs++zs)++post)=pre++QAi U8 (xs++ys++zs.drop ys.length)++post:=by
     have:=QF4 (QAi U8 ys) (pre++QAi U8 xs) (QAi U8 (zs.take ys.length)) (QAi U8 (zs.drop ys.length)++post) (by rw[QAI,QAI,Ww,Ow b8]);rw[Wd,E,b6,I]at this;rw[Kq,b9,QAU,QAU];simp only[Wk]at this|-;exact this
    rw[b']at N;refine⟨⟨some ⟨b,o,none⟩,d+c.size,j⟩,w',QSh K M (H w rfl) J (by rw[QCV];exact a2),?_⟩;have n:Sx B (Blk b (pre++QAi U8 (xs++zs)++post)::F) w:=⟨g,⟨h1,X,⟨D,fr,Q,hfr⟩,Y,Z,r,a0⟩,x,a1⟩
    have:=n.write (cs':=pre++QAi U8 (xs++ys++zs.drop ys.length)++post) T a3 N (by
     simp only[Wd,Oc,QAI]
     have:xs.length+ys.length+(zs.length - ys.length)=xs.length+zs.length:=Om
     rw[this]) a4 a5 a6 a7
    obtain⟨y,z,A,C⟩:=this;exact⟨y,QA6 (fun q m=>⟨zs.drop ys.length,Ars.of_blk m rfl E (by simp;omega) (by simp;omega) a'⟩) z,A,C⟩
 ·obtain⟨k,c3,a8,a9⟩:=QQs (ty:=ty) K M b3 H J (by rw[<-I,<-b0];exact hb) c2;refine⟨⟨some ⟨w.heap.size,0,none⟩,d+c.size,k⟩,_,a9,?_⟩;have c0:Sx B (Ar U8 ⟨p,d,j⟩ xs::F) w.drew:=S.drew;have c1:=(c0.tail).alloc (QAi U8 xs++QAi U8 ys++QJI (U8.f U8.zero) (k - (d+c.size))) e;obtain⟨y,z,A,C⟩:=c1;refine⟨y,QA6 (fun q m=>⟨List.replicate (k - (d+c.size)) U8.zero,?_⟩) z,A,C⟩;rw[QEy,<-QAU,<-QAU]at m;exact Ars.of_blk (pre:=[]) (post:=[]) (Si m) rfl rfl (by simp;omega) (by simp;omega) a8
theorem Qii{P:Program}{t u ty e:TypeId}{d:Nat}{z:Ad}[a:QJH P t e 1 d z](j:P.underlying u=some .string){s:Sl}{xs:Ab}{c:ByteArray}{upd:Sl->Ab->List HP}{rest:List HP}{K:Sl->WP}[o:OwnA s As U8 xs upd rest]
  (k:U8.f U8.zero=z:=by rfl) (hb:(xs.length+c.size)*d<=140737488355328) (h:∀b,Ent B (upd b (xs++c.data.toList)) (K b)):Ent B As (QTn P t u ty s.v (.string c) K):=by
 intro w g;obtain⟨b,w',i,hx⟩:=QSg (ty:=ty) a.ok j (by rw[k];exact a.zero) rfl (g.perm o.start) (Si hb);exact⟨b,w',i,h b w' (hx.perm (o.perm _ _).symm)⟩
end Go.Cf
namespace Go.Cf
open Go
set_option linter.unusedVariables false
variable {B:QBJ}{As:List HP}{α:Type}
end Go.Cf
namespace Go.Cf
open Go
class App(L G:List HP)(R:outParam (List HP)):Prop where
 eq:L++G=R
instance App.nil(G:List HP):App [] G G:=⟨rfl⟩
instance App.cons(P:HP)(L G R:List HP)[a:App L G R]:App (P::L) G (P::R):=⟨by rw[Ul,a.eq]⟩
section
variable {B:QBJ}{As pre G L R:List HP}{P:Program}{f:FuncId}{args:Ad}{rs:Rs}{s t u:Sh}{rd:HP}
theorem xd0{K:WP}[q:Split pre As G](c:Ct P f args rs [] pre rd (fun _ Bs=>Bs=L))[r:Rdb B G rd][a:App L G R](h:Ent B R K):Ent B As (QAX P f args rs [] K):=
 xcl c rdb fun x Bs b=>by subst b;rw[a.eq];exact h
theorem xd1{K:s.ty->WP}{v:s.ty}[q:Split pre As G](c:Ct P f args rs [s] pre rd (fun t Bs=>t.1=v/\Bs=L))[r:Rdb B G rd][a:App L G R](h:Ent B R (K v)):Ent B As (QAX P f args rs [s] K):=
 xcl c rdb fun x Bs b=>by
  obtain⟨y,z⟩:=x;obtain⟨h1,rfl⟩:=b;simp only at h1;subst h1;rw[a.eq];exact h
theorem xd2{K:s.ty->t.ty->WP}{v:s.ty}{w:t.ty}[q:Split pre As G](d:Ct P f args rs [s,t] pre rd (fun x Bs=>x.1=v/\x.2.1=w/\Bs=L))[r:Rdb B G rd][a:App L G R](h:Ent B R (K v w)):Ent B As (QAX P f args rs [s,t] K):=
 xcl d rdb fun x Bs c=>by
  obtain⟨y,z,g⟩:=x;obtain⟨h1,b,rfl⟩:=c;simp only at h1 b;subst h1 b;rw[a.eq];exact h
theorem xn1{K:s.ty->WP}{L:s.ty->List HP}{post:Tup [s]->List HP->Prop}[q:Split pre As G](c:Ct P f args rs [s] pre rd post)(d:∀x Bs,post (x,()) Bs->Bs=L x)[r:Rdb B G rd]{R:s.ty->List HP}[a:∀x,App (L x) G (R x)](h:∀x,Ent B (R x) (K x)):Ent B As (QAX P f args rs [s] K):=
 xcl c rdb fun x Bs b=>by
  obtain⟨y,z⟩:=x;obtain rfl:=d y Bs b;rw[(a y).eq];exact h y
theorem xn2{K:s.ty->t.ty->WP}{w:t.ty}{L:s.ty->List HP}{post:Tup [s,t]->List HP->Prop}[q:Split pre As G](c:Ct P f args rs [s,t] pre rd post)(d:∀x y Bs,post (x,y,()) Bs->y=w/\Bs=L x)[r:Rdb B G rd]{R:s.ty->List HP}[a:∀x,App (L x) G (R x)](h:∀x,Ent B (R x) (K x w)):Ent B As (QAX P f args rs [s,t] K):=
 xcl c rdb fun x Bs b=>by
  obtain⟨y,z,g⟩:=x;obtain⟨rfl,rfl⟩:=d y z Bs b;rw[(a y).eq];exact h y
end
end Go.Cf
