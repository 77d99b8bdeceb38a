import Derived.Test.YthbhbkjkclhkgaaGreatDoorRX
import Derived.Test.YthbhbkjkclhkgaaGreatDoorHY
import Derived.Test.YthbhbkjkclhkgaaGreatDoorT1
import Derived.Test.YthbhbkjkclhkgaaGreatDoorDK
namespace Go.Cx
open Go Go.Cf
set_option linter.unusedVariables false
set_option maxRecDepth 100000
def QKi(fs:List DF)(k:Key):Option (List UInt8):=(QCT fs k).map (·.b)
structure Touch(m r:DM)(S:Key→Prop):Prop where
 inv:DInv r
 room:r.room=m.room
 keep:r.down=false→m.down=false∧∀k,S k→QKi r.fs k=QKi m.fs k
theorem Touch.refl{m:DM}(h:DInv m)(S:Key→Prop):Touch m m S:=⟨h,rfl,fun h=>⟨h,fun _ _=>rfl⟩⟩
theorem Touch.trans{a b c:DM}{S:Key→Prop}(h:Touch a b S)(k:Touch b c S):Touch a c S:=
 ⟨k.inv,by rw[k.room,h.room],fun hd=>by
  obtain⟨h1,h2⟩:=k.keep hd;obtain⟨h3,h4⟩:=h.keep h1
  exact⟨h3,fun x hx=>by rw[h2 x hx,h4 x hx]⟩⟩
theorem Touch.mono{a b:DM}{S T:Key→Prop}(h:Touch a b S)(hs:∀k,T k→S k):Touch a b T:=
 ⟨h.inv,h.room,fun hd=>⟨(h.keep hd).1,fun x hx=>(h.keep hd).2 x (hs x hx)⟩⟩
theorem QHX{m:DM}{r:DM×Int}{fs:List DF}{S:Key→Prop}(hI:DInv r.1)(hd:m.down=false)(h:QVl m r∨Qdn m r fs)(hS:∀k,S k→QKi fs k=QKi m.fs k):Touch m r.1 S:=by
 rcases h with h|h
 ·refine⟨hI,by rw[h.2],fun e=>by rw[h.2]at e;cases e⟩
 ·exact⟨hI,h.room,fun _=>⟨hd,fun k hk=>by rw[h.files];exact hS k hk⟩⟩
theorem QUo{fs:List DF}(hs:Sorted fs){i:Nat}{f g:DF}(hf:fs[i]? = some f)(hk:g.key=f.key){k:Key}(h:k≠f.key):QKi (fs.set i g) k=QKi fs k:=by
 unfold QKi;rw[QFq hs hf hk,if_neg h]
theorem QCq{m:DM}(hI:DInv m)(nm:ByteArray):Touch m (QBK m nm).1 fun _=>True:=by
 cases hd:m.down with
 | true=>rw[show QBK m nm=(m,10) from by unfold QBK;exact QJi hd _ _];exact Touch.refl hI _
 | false=>
  cases hf:QCT m.fs nm.toList with
  | none=>rw[QYH hI hd hf];exact Touch.refl hI _
  | some f=>
   refine QHX (QPI hI nm) hd (QPF hI hd hf) fun k _=>?_;obtain⟨h1,h2⟩:=QC1 hI.sorted hf;unfold QKi;rw[QFq hI.sorted h2 (g:={ f with sy:=f.b.length }) rfl];split
   ·rename_i e;rw[e,QCP hf,hf];rfl
   ·rfl
theorem QGV{m:DM}(hI:DInv m)(nm:ByteArray):Touch m (QAV m nm).1 fun k=>k≠nm.toList:=by
 cases hd:m.down with
 | true=>rw[show QAV m nm=(m,10) from by unfold QAV;exact QJi hd _ _];exact Touch.refl hI _
 | false=>
  cases hf:QCT m.fs nm.toList with
  | none=>rw[QLy hI hd hf];exact Touch.refl hI _
  | some f=>
   refine QHX (QJq hI nm) hd (QLH hI hd hf) fun k hk=>?_;obtain⟨h1,h2⟩:=QC1 hI.sorted hf;unfold QKi;rw[QNb hI.sorted h2,if_neg (by rw[QCP hf];exact hk)]
theorem QYt{m:DM}{nm:ByteArray}(hI:DInv m)(h:(QCT m.fs nm.toList).isSome=true∨m.down=true)(he:(QBK m nm).2≠0):(QBK m nm).2=10:=by
 cases hd:m.down with
 | true=>rw[show QBK m nm=(m,10) from by unfold QBK;exact QJi hd _ _]
 | false=>
  rcases h with h|h
  ·obtain⟨f,hf⟩:=Option.isSome_iff_exists.1 h;rcases QPF hI hd hf with e|e
   ·rw[e.2]
   ·exact absurd e.err he
  ·rw[hd]at h;cases h
theorem QL9{m:DM}(hI:DInv m)(nm:ByteArray)(n:Int):Touch m (QBR m nm n).1 fun k=>k≠nm.toList:=by
 cases hd:m.down with
 | true=>rw[show QBR m nm n=(m,10) from by unfold QBR;exact QJi hd _ _];exact Touch.refl hI _
 | false=>
  cases hf:QCT m.fs nm.toList with
  | none=>
   have:QBR m nm n=(m,6):=by unfold QBR QBk;rw[if_neg (by rw[hd];decide),if_pos (by rw[QG0 hI hf];rfl)]
   rw[this];exact Touch.refl hI _
  | some f=>
   obtain⟨h1,h2⟩:=QC1 hI.sorted hf;by_cases hc:n<0∨n>(f.b.length:Int)
   ·have:QBR m nm n=(m,3):=by
     unfold QBR QBk;rw[if_neg (by rw[hd];decide),if_neg (by rw[h1];decide),QEa hI.sorted hf];simp only[if_pos hc]
    rw[this];exact Touch.refl hI _
   ·refine QHX (QFd hI nm n) hd (QOp hI hd hf (by omega) (by omega)) fun k hk=>?_;exact QUo hI.sorted h2 (g:={ f with b:=f.b.take n.toNat,sy:=if n<f.sy then n else f.sy }) rfl (by rw[QCP hf];exact hk)
theorem QGk{m:DM}(hI:DInv m)(nm:ByteArray)(b:List UInt8):Touch m (QAM m nm b).1 fun k=>k≠nm.toList:=by
 cases hn:QDT nm with
 | false=>
  have:QAM m nm b=(m,8):=by unfold QAM;rw[if_pos (by rw[hn];rfl)]
  rw[this];exact Touch.refl hI _
 | true=>
  cases hd:m.down with
  | true=>
   have:QAM m nm b=(m,10):=by unfold QAM;rw[if_neg (by rw[hn];decide),if_pos hd]
   rw[this];exact Touch.refl hI _
  | false=>
   rcases QMo hI hn hd (b:=b) with⟨e,_⟩|e|⟨e,_⟩
   ·rw[e];exact Touch.refl hI _
   ·exact QHX (fs:=m.fs) (QHV hI nm b) hd (.inl e) fun _ _=>rfl
   ·refine QHX (QHV hI nm b) hd (.inr e) fun k hk=>?_;unfold QKi;rw[QUW hI.sorted,if_neg hk]
theorem QNg{m:DM}(hI:DInv m)(nm:ByteArray):Touch m (QAt m nm).1 fun k=>k≠nm.toList:=by
 have:=QGV hI nm;unfold QAt;split<;>exact this
theorem QQf{m:DM}(hI:DInv m)(nm to:ByteArray):Touch m (QCF m nm to).1 fun k=>k≠nm.toList∧k≠to.toList:=by
 have hinv:=QON hI nm to
 cases hn:QDT to with
 | false=>
  have:QCF m nm to=(m,8):=by unfold QCF;rw[if_pos (by rw[hn];rfl)]
  rw[this];exact Touch.refl hI _
 | true=>
  have h0:QCF m nm to=QBk m nm fun i f m=>QE7 m fun m=>{ m with fs:=QQx m.fs i f to }:=by unfold QCF;rw[if_neg (by rw[hn];decide)]
  cases hd:m.down with
  | true=>rw[h0,QJi hd];exact Touch.refl hI _
  | false=>
   cases hf:QCT m.fs nm.toList with
   | none=>
    have:QCF m nm to=(m,6):=by rw[h0];unfold QBk;rw[if_neg (by rw[hd];decide),if_pos (by rw[QG0 hI hf];rfl)]
    rw[this];exact Touch.refl hI _
   | some f=>
    obtain⟨h1,h2⟩:=QC1 hI.sorted hf
    have h3:QCF m nm to=QE7 m fun m'=>{ m' with fs:=QQx m'.fs (QAT m.fs nm.toList) f to }:=by
     rw[h0];unfold QBk;rw[if_neg (by rw[hd];decide),if_neg (by rw[h1];decide),QEa hI.sorted hf]
    have h4:=QHT m fun fs=>QQx fs (QAT m.fs nm.toList) f to;rw[←h3]at h4;refine QHX hinv hd h4 fun k hk=>?_;have hse:Sorted (m.fs.eraseIdx (QAT m.fs nm.toList)):=QCj hI.sorted
    have he:QKi (m.fs.eraseIdx (QAT m.fs nm.toList)) k=QKi m.fs k:=by
     unfold QKi;rw[QNb hI.sorted h2,if_neg (by rw[QCP hf];exact hk.1)]
    unfold QQx
    (try simp only)
    split
    ·rename_i ht
     rw[QDN hse]at ht;obtain⟨f2,hf2⟩:=Option.isSome_iff_exists.1 ht;obtain⟨q1,q2⟩:=QC1 hse hf2;rw[QUo hse q2 (g:={ f with nm:=to }) (QCP hf2).symm (by rw[QCP hf2];exact hk.2),he]
    ·rename_i ht
     have ht':QAh (m.fs.eraseIdx (QAT m.fs nm.toList)) ({ f with nm:=to }:DF).key=false:=by
      show QAh _ to.toList=false;simpa using ht
     have:=QU1 hse (g:={ f with nm:=to }) ht' k;unfold QKi at he⊢;rw[show QAT (m.fs.eraseIdx (QAT m.fs nm.toList)) to.toList=QAT (m.fs.eraseIdx (QAT m.fs nm.toList)) ({ f with nm:=to }:DF).key from rfl,this,if_neg (show k≠({ f with nm:=to }:DF).key from hk.2),he]
def HasF(m:DM)(s:Sg):Prop:=∃b,QKi m.fs (fK s.n)=some b∧s.size≤(b.length:Int)
structure Ldev(m:DM)(l:LM):Prop where
 inv:DInv m
 log:LInv l
 cur:l.curN≤999999999999
 safe:l.segs=[]→l.safe=l.next
 files:m.down=false→∀s∈l.segs,HasF m s
 ord:∃n0:Int,∀(i:Nat) s,l.segs[i]? = some s→s.n=n0+i
theorem HasF.some{m:DM}{s:Sg}(h:HasF m s):(QCT m.fs (fK s.n)).isSome=true:=by
 obtain⟨b,h,_⟩:=h;unfold QKi at h
 cases e:QCT m.fs (fK s.n) with
 | none=>rw[e]at h;cases h
 | some f=>rfl
theorem HasF.touch{m r:DM}{S:Key→Prop}{s:Sg}(h:HasF m s)(t:Touch m r S)(hd:r.down=false)(hs:S (fK s.n)):HasF r s:=by
 obtain⟨b,h1,h2⟩:=h;exact⟨b,by rw[(t.keep hd).2 _ hs];exact h1,h2⟩
theorem Ldev.touch{m r:DM}{l:LM}{S:Key→Prop}(h:Ldev m l)(t:Touch m r S)(hS:∀s∈l.segs,S (fK s.n)):Ldev r l:=
 ⟨t.inv,h.log,h.cur,h.safe,fun hd s hs=>(h.files (t.keep hd).1 s hs).touch t hd (hS s hs),h.ord⟩
theorem Ldev.relog{m:DM}{l l':LM}(h:Ldev m l)(hs:l'.segs=l.segs)(hn:l'.n=l.n)(hf:l'.first=l.first)(h1:0≤l'.safe∧l'.safe≤4398046511104)(h2:l.segs=[]→l'.safe=l'.next):Ldev m l':=by
 obtain⟨n0,ho⟩:=h.ord;refine⟨h.inv,⟨by rw[hn];exact h.log.n,by rw[hf];exact h.log.first,by rw[hs];exact h.log.segs,by rw[hs];exact h.log.few,h1,by rw[hs];exact h.log.chain⟩,?_,by rw[hs];exact h2,by rw[hs];exact h.files,n0,by rw[hs];exact ho⟩;have:=h.cur;unfold LM.curN LM.cur at this⊢;rw[hs,hn];exact this
theorem QHS{l:LM}(h:l.segs≠[]):∃s,l.segs.getLast? = some s∧s∈l.segs∧l.curN=s.n∧(l.cur.map Sg.n).getD 0=s.n:=by
 cases hc:l.segs.getLast? with
 | none=>exact absurd (List.getLast?_eq_none_iff.1 hc) h
 | some s=>exact⟨s,rfl,List.mem_of_getLast? hc,by unfold LM.curN LM.cur;rw[hc],by unfold LM.cur;rw[hc];rfl⟩
theorem Ldev.sync{m:DM}{l:LM}(h:Ldev m l):Ldev (QB2 m l).1 (QB2 m l).2.1∧((QB2 m l).2.2≠0→(QB2 m l).2.2=10)∧Touch m (QB2 m l).1 (fun _=>True):=by
 unfold QB2
 cases hd:m.down with
 | true=>rw[if_pos rfl];exact⟨h,fun _=>rfl,Touch.refl h.inv _⟩
 | false=>
  rw[if_neg (by decide)];by_cases hs:l.safe=l.next
  ·rw[if_pos hs];exact⟨h,fun e=>absurd rfl e,Touch.refl h.inv _⟩
  ·rw[if_neg hs];obtain⟨s,h1,h2,h3,h4⟩:=QHS (fun e=>hs (h.safe e));rw[h4];have ht:=QCq h.inv (fN s.n);have hL:=h.touch ht fun _ _=>trivial;have hc:=fun e=>QYt h.inv (nm:=fN s.n) (.inl (h.files hd s h2).some) e
   (try dsimp only)
   split
   ·rename_i he;exact⟨hL,fun _=>hc he,ht⟩
   ·have hnx:=h.log.next;exact⟨hL.relog (l':={ l with safe:=l.next }) rfl rfl rfl ⟨by simp only;omega,by simp only;omega⟩ (fun e=>rfl),fun e=>absurd rfl e,ht⟩
theorem QeA{m:DM}(hI:DInv m){k:Key}{b:List UInt8}(h:QKi m.fs k=some b):b.length≤16777216:=by
 unfold QKi at h;obtain⟨f,hf,rfl⟩:=Option.map_eq_some_iff.1 h;obtain⟨h1,h2⟩:=QC1 hI.sorted hf;have:=QBi h2;have h3:=hI.used;have h4:=hI.room;omega
theorem QeR{m:DM}{l:List Sg}(hI:DInv m){n0:Int}(h0:1≤n0)(ho:∀(i:Nat) s,l[i]? = some s→s.n=n0+i)(hf:∀s∈l,HasF m s):l.length≤64:=by
 obtain⟨k,rfl⟩:=Int.eq_ofNat_of_zero_le (show 0≤n0 by omega)
 have:=QRV (fs:=m.fs) (n0:=k) (by omega) (n:=l.length) fun i hi=>by
  have hg:=List.getElem?_eq_getElem hi;have h1:=ho i _ hg;have h2:=(hf _ (List.getElem_mem hi)).some;rw[h1]at h2;exact h2
 have:=hI.len;omega
theorem Qar{fs:List DF}(hs:Sorted fs)(nm:ByteArray)(b:List UInt8):∃c,QKi (QNA fs nm b) nm.toList=some (c++b)∧∀d,QKi fs nm.toList=some d→d=c:=by
 unfold QKi;rw[QUW hs,if_pos rfl];refine⟨_,rfl,fun d hd=>?_⟩;obtain⟨f,hf,rfl⟩:=Option.map_eq_some_iff.1 hd;rw[hf];rfl
theorem Qbo(a:List Sg)(x:Sg)(p:List UInt8):QaU (a++[x]) p=a++[{ x with size:=x.size+(QAn p).length,ps:=x.ps++[p] }]:=by
 unfold QaU;simp
theorem Ldev.append{m:DM}{l:LM}(h:Ldev m l)(p:List UInt8):Ldev (QCC m l p).1 (QCC m l p).2.1:=by
 obtain⟨g1,g2,g3⟩:=h.sync;obtain⟨k1,k2,k3⟩:=QQj m l;unfold QCC
 cases hd:m.down with
 | true=>rw[if_pos rfl];exact h
 | false=>
  rw[if_neg (by decide)];by_cases hlen:p.length>1024
  ·rw[if_pos hlen];exact h
  rw[if_neg hlen];by_cases hst:l.next≥1099511627776∨(l.full=true∧l.curN=QKg)
  ·rw[if_pos hst];exact h
  rw[if_neg hst]
  -- the device and log behind a Sync
  obtain⟨y,hy,gy,ky,nyE,fyE,ty⟩:∃y:DM×LM×Int,(if l.full then QB2 m l else (m,l,0))=y∧Ldev y.1 y.2.1∧y.2.1.segs=l.segs∧y.2.1.n=l.n∧y.2.1.first=l.first∧Touch m y.1 (fun _=>True):=by
   cases l.full with
   | true=>exact⟨_,rfl,g1,k1,k2,k3,g3⟩
   | false=>exact⟨_,rfl,h,rfl,rfl,rfl,Touch.refl h.inv _⟩
  rw[hy]
  (try dsimp only)
  by_cases he:y.2.2≠0
  ·rw[if_pos he];exact gy
  rw[if_neg he]
  generalize hn:(if l.full=true then l.curN+1 else l.curN)=n at *
  have hcur:=h.cur
  have hn1:n≤999999999999:=by
   have:QKg=999999999999:=rfl;rw[←hn];split
   ·rename_i hf
    have hne:l.curN≠QKg:=fun e=>hst (.inr ⟨hf,e⟩);omega
   ·omega
  have hcn:1≤l.curN:=by
   by_cases hs:l.segs=[]
   ·have:=h.log.n;unfold LM.curN LM.cur;rw[hs];exact this.1
   ·obtain⟨s,_,h2,h3,_⟩:=QHS hs;rw[h3];exact (h.log.segs s h2).1.1
  have hn0:1≤n:=by rw[←hn];split<;>omega
  obtain⟨N,hN⟩:=Int.eq_ofNat_of_zero_le (show 0≤n by omega)
  have hnamed:QDT (fN n)=true:=by rw[hN];exact Qad (by omega) (by omega)
  have hat:=QGk gy.inv (fN n) (QAn p)
  -- what the numbers of the segments are
  obtain⟨n0,ho⟩:=h.ord
  have hfresh:l.full=true→∀s∈l.segs,fK s.n≠fK n:=by
   intro hf s hs e;obtain⟨i,hi⟩:=List.mem_iff_getElem?.1 hs;have hl:=(List.getElem?_eq_some_iff.1 hi).1;obtain⟨z,z1,z2,z3,_⟩:=QHS (List.ne_nil_of_mem hs);have z4:=ho _ z (QF3 z1);have z5:=ho i s hi;have z6:=(h.log.segs s hs).1;rw[if_pos hf]at hn;obtain⟨A,hA⟩:=Int.eq_ofNat_of_zero_le (show 0≤s.n by omega);rw[hA,hN]at e;have:=QVT (by omega) (by omega) e;omega
  by_cases ha:(QAM y.1 (fN n) (QAn p)).2≠0
  ·rw[if_pos ha]
   -- refused, or the power is off: the log is as it was
   refine⟨hat.inv,gy.log,gy.cur,gy.safe,fun hd2 s hs=>?_,gy.ord⟩
   cases hyd:y.1.down with
   | true=>have:=(hat.keep hd2).1;rw[hyd]at this;cases this
   | false=>
    rcases QMo gy.inv hnamed hyd (b:=QAn p) with⟨e,_⟩|e|⟨e,_⟩
    ·rw[e];exact gy.files hyd s hs
    ·rw[e.2]at hd2;cases hd2
    ·exact absurd e.err ha
  rw[if_neg ha]
  have hyd:y.1.down=false:=by
   cases hyd:y.1.down with
   | false=>rfl
   | true=>
    have:QAM y.1 (fN n) (QAn p)=(y.1,10):=by unfold QAM;rw[if_neg (by rw[hnamed];decide),if_pos hyd]
    rw[this]at ha;simp at ha
  rcases QMo gy.inv hnamed hyd (b:=QAn p) with⟨e,_⟩|e|⟨e,_,_⟩
  ·rw[e]at ha;simp at ha
  ·rw[e.2]at ha;simp at ha
  have hfs:=e.files;have hrI:=QHV gy.inv (fN n) (QAn p)
  have hrd:(QAM y.1 (fN n) (QAn p)).1.down=false:=by rw[e.down];exact hyd
  generalize (QAM y.1 (fN n) (QAn p)).1=r at *
  obtain⟨c,hc1,hc2⟩:=Qar gy.inv.sorted (fN n) (QAn p);rw[←hfs]at hc1;have hclen:=QeA hrI hc1;rw[List.length_append]at hclen;have hfl:=QRc p;have hnx:=h.log.next;have hsafe:=gy.log.safe
  -- the segments behind it
  have key:∃(a:List Sg) (x:Sg),(if l.segs=[]∨l.full=true then l.segs++[⟨n,l.next,0,[]⟩] else l.segs)=a++[x]∧x.n=n∧(∀s∈a,s∈l.segs∧fK s.n≠fK n)∧(0≤x.first∧x.first≤2199023255552)∧0≤x.size∧x.size≤c.length∧(x.ps.length:Int)≤x.size∧(∀q∈x.ps,q.length≤1024)∧(∃n1:Int,1≤n1∧∀(i:Nat) s,(a++[x])[i]? = some s→s.n=n1+i)∧(∀(k:Nat) s s',(a++[x])[k]? = some s→(a++[x])[k+1]? = some s'→s'.first=s.next):=by
   by_cases hnew:l.segs=[]∨l.full=true
   ·rw[if_pos hnew];refine⟨l.segs,⟨n,l.next,0,[]⟩,rfl,rfl,fun s hs=>⟨hs,?_⟩,⟨by simp only;omega,by simp only;omega⟩,by simp,by simp,by simp,by simp,?_,QOB h.log.chain rfl⟩
    ·rcases hnew with e2|e2
     ·rw[e2]at hs;cases hs
     ·exact hfresh e2 s hs
    ·by_cases hs:l.segs=[]
     ·refine⟨n,hn0,fun i s hi=>?_⟩;rw[hs]at hi
      cases i with
      | zero => obtain rfl : (⟨n, l.next, 0, []⟩ : Sg) = s := by simpa using hi
                simp
      | succ i=>simp at hi
     ·have hf:l.full=true:=hnew.resolve_left hs;rw[if_pos hf]at hn;obtain⟨z,z1,z2,z3,_⟩:=QHS hs;have z4:=ho _ z (QF3 z1);have hpos:=List.length_pos_iff.2 hs;have h00:=ho 0 _ (List.getElem?_eq_getElem hpos);have h01:=(h.log.segs _ (List.getElem_mem hpos)).1.1;refine⟨n0,by omega,fun i s hi=>?_⟩;by_cases hil:i<l.segs.length
      ·rw[List.getElem?_append_left hil]at hi;exact ho i s hi
      ·have hl:=(List.getElem?_eq_some_iff.1 hi).1;simp at hl
       have:i=l.segs.length:=by omega
       rw[List.getElem?_append_right (by omega),this,Nat.sub_self]at hi
       obtain rfl:(⟨n,l.next,0,[]⟩:Sg)=s:=by simpa using hi
       (try simp only)
       omega
   ·rw[if_neg hnew];have hs:l.segs≠[]:=fun e2=>hnew (.inl e2);have hf:¬l.full=true:=fun e2=>hnew (.inr e2);rw[if_neg hf]at hn;obtain⟨a,x,hax⟩:=(List.eq_nil_or_concat l.segs).resolve_left hs;rw[List.concat_eq_append]at hax;obtain⟨z,z1,z2,z3,_⟩:=QHS hs
    have hzx:z=x:=by rw[hax]at z1;simpa using z1.symm
    subst hzx;have hzb:=h.log.segs z z2;have hpos:=List.length_pos_iff.2 hs;have h00:=ho 0 _ (List.getElem?_eq_getElem hpos);have h01:=(h.log.segs _ (List.getElem_mem hpos)).1.1;refine⟨a,z,hax,by omega,fun s hs2=>⟨by rw[hax];simp[hs2],fun e2=>?_⟩,hzb.2.1,hzb.2.2.1.1,?_,hzb.2.2.2.1,hzb.2.2.2.2,⟨n0,by omega,fun i s hi=>ho i s (by rw[hax];exact hi)⟩,by rw[←hax];exact h.log.chain⟩
    ·obtain⟨i,hi⟩:=List.mem_iff_getElem?.1 hs2;have hil:=(List.getElem?_eq_some_iff.1 hi).1;have q1:=ho i s (by rw[hax,List.getElem?_append_left hil];exact hi);have q2:=ho a.length z (by rw[hax];simp);have q3:=(h.log.segs s (by rw[hax];simp[hs2])).1;obtain⟨A,hA⟩:=Int.eq_ofNat_of_zero_le (show 0≤s.n by omega);rw[hA,hN]at e2;have:=QVT (by omega) (by omega) e2;omega
    ·obtain⟨d,hd1,hd2⟩:=(h.files hd z z2);have hyf:=(ty.keep hyd).2 (fK z.n) trivial;rw[show z.n=n by omega]at hyf hd1;rw[hd1]at hyf;rw[←hc2 d hyf];exact hd2
  obtain⟨a,x,hax,hxn,hxa,hx1,hx2,hx3,hx4,hx5,⟨n1,hn1',ho1⟩,hch⟩:=key;rw[hax,Qbo]
  generalize hx':({ x with size:=x.size+(QAn p).length,ps:=x.ps++[p] }:Sg)=x' at *
  have x'n:x'.n=n:=by rw[←hx'];exact hxn
  have x'f:x'.first=x.first:=by rw[←hx']
  have x's:x'.size=x.size+(QAn p).length:=by rw[←hx']
  have x'p:x'.ps=x.ps++[p]:=by rw[←hx']
  have hord:∀(i:Nat) s,(a++[x'])[i]? = some s→s.n=n1+i:=fun i s hi=>by
   by_cases hil:i<a.length
   ·rw[List.getElem?_append_left hil]at hi;exact ho1 i s (by rw[List.getElem?_append_left hil];exact hi)
   ·have hl:=(List.getElem?_eq_some_iff.1 hi).1;simp at hl
    have h3:i=a.length:=by omega
    rw[List.getElem?_append_right (by omega),h3,Nat.sub_self]at hi
    obtain rfl:x'=s:=by simpa using hi
    have:=ho1 a.length x (by simp);rw[x'n,←hxn,this,h3]
  have hfiles:∀s∈a++[x'],HasF r s:=by
   intro s hs;rcases List.mem_append.1 hs with hs|hs
   ·obtain⟨q1,q2⟩:=hxa s hs;have hy2:=(h.files hd s q1).touch ty hyd trivial;exact hy2.touch hat hrd q2
   ·obtain rfl:s=x':=by simpa using hs
    refine⟨_,by rw[x'n];exact hc1,?_⟩;rw[x's,List.length_append];omega
  refine⟨hrI,⟨by show 1≤y.2.1.n∧_;rw[nyE];exact h.log.n,by show 0≤y.2.1.first∧_;rw[fyE];exact h.log.first,fun s hs=>?_,QeR hrI hn1' hord hfiles,hsafe,?_⟩,?_,fun e2=>by simp at e2,fun _=>hfiles,n1,hord⟩
  ·rcases List.mem_append.1 hs with hs|hs
   ·exact h.log.segs s (hxa s hs).1
   ·obtain rfl:s=x':=by simpa using hs
    refine⟨by rw[x'n];omega,by rw[x'f];exact hx1,by rw[x's];omega,by rw[x's,x'p,List.length_append,List.length_singleton];omega,fun q hq=>?_⟩;rw[x'p]at hq;rcases List.mem_append.1 hq with hq|hq
    ·exact hx5 q hq
    ·obtain rfl:q=p:=by simpa using hq
     omega
  ·intro k s s' h1 h2;have hk:=(List.getElem?_eq_some_iff.1 h2).1;simp at hk;rw[List.getElem?_append_left (by omega)]at h1
   have q1:(a++[x])[k]? = some s:=by rw[List.getElem?_append_left (by omega)];exact h1
   by_cases e2:k+1<a.length
   ·rw[List.getElem?_append_left e2]at h2;exact hch k s s' q1 (by rw[List.getElem?_append_left e2];exact h2)
   ·have h3:k+1=a.length:=by omega
    rw[List.getElem?_append_right (by omega),h3,Nat.sub_self]at h2
    obtain rfl:x'=s':=by simpa using h2
    rw[x'f];exact hch k s x q1 (by rw[List.getElem?_append_right (by omega),h3,Nat.sub_self];rfl)
  ·unfold LM.curN LM.cur;simp only[List.getLast?_concat];rw[x'n];exact hn1
theorem QVj{m:DM}(hI:DInv m)(n:Int):Touch m (QD6 m n).1 fun k=>k≠fK n:=by
 have t1:Touch m (if (QAv (QAW m (fN n)).1).2<(QAW m (fN n)).1.length then QBR m (fN n) (QAv (QAW m (fN n)).1).2 else (m,0)).1 fun k=>k≠fK n:=by
  split
  ·exact QL9 hI _ _
  ·exact Touch.refl hI _
 unfold QD6
 (try dsimp only)
 generalize (if (QAv (QAW m (fN n)).1).2<(QAW m (fN n)).1.length then QBR m (fN n) (QAv (QAW m (fN n)).1).2 else (m,0))=T at t1⊢;split
 ·exact t1
 ·exact t1.trans ((QCq t1.inv (fN n)).mono fun _ _=>trivial)
theorem QXV{m:DM}(hI:DInv m)(hd:m.down=false){n:Int}(ht:QAh m.fs (fN n).toList=true)(h:(QD6 m n).2=0) :
  ∃c,QKi (QD6 m n).1.fs (fK n)=some c∧(QAv (QAW m (fN n)).1).2≤c.length:=by
 have hs:=ht;rw[QDN hI.sorted]at hs;obtain⟨f,hf⟩:=Option.isSome_iff_exists.1 hs;have hu:=QK3 (QAW m (fN n)).1;have hr:=QMs hI hf;have hal:=QNs hI hd ht h;unfold QD6 at h hal⊢;simp only at h hal⊢;by_cases hc:(QAv (QAW m (fN n)).1).2<(QAW m (fN n)).1.length
 ·rw[if_pos hc]at h hal⊢
  have hfl:(QAW m (fN n)).1=f.b:=by rw[hr]
  rw[hfl]at h hal hu hc⊢;rcases QOp hI hd hf (n:=((QAv f.b).2:Int)) (by omega) (by omega) with e|e
  ·rw[e.2]at h;simp at h
  ·rw[if_neg (by rw[e.err];decide)]at h hal⊢;have t2:=QCq (QFd hI (fN n) ((QAv f.b).2:Int)) (fN n);rw[(t2.keep hal).2 _ trivial,e.files];obtain⟨h1,h2⟩:=QC1 hI.sorted hf;unfold QKi;rw[QFq hI.sorted h2 (g:={ f with b:=f.b.take ((QAv f.b).2:Int).toNat,sy:=if ((QAv f.b).2:Int)<f.sy then ((QAv f.b).2:Int) else f.sy }) rfl,if_pos (QCP hf).symm];refine⟨_,rfl,?_⟩;simp only[List.length_take];omega
 ·rw[if_neg hc,if_neg (by simp)]at h hal⊢;simp only at h hal⊢;have t2:=QCq hI (fN n);rw[(t2.keep hal).2 _ trivial];unfold QKi;rw[show QCT m.fs (fK n)=some f from hf];exact⟨f.b,rfl,by rw[show (QAW m (fN n)).1=f.b by rw[hr]]at hu⊢;exact hu⟩
theorem QLr{n0 f0:Int}(h0:1≤n0):∀(fuel:Nat) (m:DM) (l:LM) (m2:DM) (l2:LM),ReadI n0 f0 m l→m.down=false→(∀s∈l.segs,HasF m s)→QLj fuel m (n0+l.segs.length) l=(m2,l2,0) →
  ReadI n0 f0 m2 l2∧m2.down=false∧(∀s∈l2.segs,HasF m2 s)∧m2.room=m.room
 | 0,m,l,m2,l2,hR,hd,hf,h=>by
  rw[QLj]at h;cases h;exact⟨hR,hd,hf,rfl⟩
 | fuel+1,m,l,m2,l2,hR,hd,hf,h=>by
  rw[QLj]at h;by_cases hr:(QAW m (fN (n0+l.segs.length))).2≠0
  ·rw[if_pos hr]at h;cases h;exact⟨hR,hd,hf,rfl⟩
  rw[if_neg hr]at h;by_cases hm:(QD6 m (n0+l.segs.length)).2≠0
  ·rw[if_pos hm]at h;exact absurd (congrArg (fun x:DM×LM×Int=>x.2.2) h) hm
  rw[if_neg hm]at h
  have hth:QAh m.fs (fN (n0+l.segs.length)).toList=true:=by
   cases e:QAh m.fs (fN (n0+l.segs.length)).toList with
   | true=>rfl
   | false=>exact absurd ((QWk m _).2 e) hr
  have hm0:(QD6 m (n0+l.segs.length)).2=0:=by simpa using hm
  have hmore:=hR.more h0 (by simpa using hr);have hd2:=QNs hR.inv hd hth hm0;have t:=QVj hR.inv (n0+l.segs.length);obtain⟨c,hc1,hc2⟩:=QXV hR.inv hd hth hm0
  have hf2:∀s∈l.segs++[⟨n0+l.segs.length,l.next,(QAv (QAW m (fN (n0+l.segs.length))).1).2,(QAv (QAW m (fN (n0+l.segs.length))).1).1⟩],HasF (QD6 m (n0+l.segs.length)).1 s:=by
   intro s hs;rcases List.mem_append.1 hs with hs|hs
   ·refine (hf s hs).touch t hd2 fun e=>?_;obtain⟨j,hj⟩:=List.mem_iff_getElem?.1 hs;have hjl:=(List.getElem?_eq_some_iff.1 hj).1;have:=(hR.segs j s hj).1;obtain⟨A,hA⟩:=Int.eq_ofNat_of_zero_le (show 0≤s.n by omega);obtain⟨C,hC⟩:=Int.eq_ofNat_of_zero_le (show 0≤n0+l.segs.length by omega);rw[hA,hC]at e;have:=QVT (by omega) (by omega) e;omega
   ·obtain rfl:=List.mem_singleton.1 hs;exact⟨c,hc1,by simp only;omega⟩
  dsimp only at h;split at h
  ·cases h;exact⟨hmore,hd2,hf2,t.room⟩
  ·have hl:({ l with segs:=l.segs++[⟨n0+l.segs.length,l.next,(QAv (QAW m (fN (n0+l.segs.length))).1).2,(QAv (QAW m (fN (n0+l.segs.length))).1).1⟩] }:LM).segs.length=l.segs.length+1:=by simp
   obtain⟨q1,q2,q3,q4⟩:=QLr h0 fuel (QD6 m (n0+l.segs.length)).1 { l with segs:=l.segs++[⟨n0+l.segs.length,l.next,(QAv (QAW m (fN (n0+l.segs.length))).1).2,(QAv (QAW m (fN (n0+l.segs.length))).1).1⟩] } m2 l2 hmore hd2 hf2 (by rw[hl,show n0+((l.segs.length+1:Nat):Int)=n0+(l.segs.length:Int)+1 by omega];exact h);exact⟨q1,q2,q3,by rw[q4,t.room]⟩
theorem QIJ{l:LM}:∀(nms:List ByteArray) (m:DM),DInv m→Touch m (QC7 l nms m).1 fun k=>∃s∈l.segs,k=fK s.n
 | [],m,hI=>Touch.refl hI _
 | nm::r,m,hI=>by
  rw[QC7];split
  ·exact QIJ r m hI
  ·rename_i hk
   have t:=(QGV hI nm).mono (T:=fun k=>∃s∈l.segs,k=fK s.n) fun k ⟨s,hs,e⟩ e2=>hk (by
    unfold QRl;rw[Bool.or_eq_true];right
    exact List.any_eq_true.2 ⟨s,hs,by rw[beq_iff_eq,←e,e2]⟩)
   split
   ·exact t
   ·exact t.trans (QIJ r _ t.inv)
theorem QH8{l:LM}:∀(nms:List ByteArray) (m:DM),DInv m→m.down=false→(QC7 l nms m).2=0→(QC7 l nms m).1.down=false
 | [],m,_,hd,_=>hd
 | nm::r,m,hI,hd,h=>by
  rw[QC7]at h⊢;split
  ·rename_i hk;rw[if_pos hk]at h;exact QH8 r m hI hd h
  ·rename_i hk
   rw[if_neg hk]at h;split
   ·rename_i he;rw[if_pos he]at h;exact absurd h he
   ·rename_i he
    rw[if_neg he]at h;refine QH8 r _ (QJq hI nm) ?_ h
    cases hf:QCT m.fs nm.toList with
    | none=>rw[QLy hI hd hf]at he;simp at he
    | some f=>
     rcases QLH hI hd hf with e|e
     ·rw[e.2]at he;simp at he
     ·rw[e.down,hd]
theorem QaG(n k:Nat)(h:(Lib.decDigits n).length≤k):n<10 ^ k:=by
 induction k generalizing n with
 | zero=>
  have:=QL5 n;omega
 | succ k ih=>
  by_cases h1:n<10
  ·have:10≤10 ^ (k+1):=by rw[Nat.pow_succ];have:=Nat.pow_pos (n:=k) (show 0<10 by decide);omega
   omega
  ·rw[Qbh n (by omega),List.length_append,List.length_singleton]at h;have:=ih (n / 10) (by omega);rw[Nat.pow_succ];omega
theorem QXX{m:DM}(hI:DInv m){l:LM}(h:(QDk m).2.1=some l):Ldev (QDk m).1 l∧(QDk m).1.room=m.room∧m.down=false∧(QDk m).1.down=false:=by
 have h1:¬(QAt m QEj).2≠0:=fun e=>by rw[QZm e]at h;cases h
 have h2:¬(QC4 (QAt m QEj).1).2.2≠0:=fun e=>by rw[QY5 h1 e]at h;cases h
 have t0:=QNg hI QEj
 have hmd:m.down=false:=by
  cases hd:m.down with
  | false=>rfl
  | true=>
   have hr:QAV m QEj=(m,10):=by unfold QAV;exact QJi hd _ _
   have hdr:QAt m QEj=(m,10):=by unfold QAt;rw[hr];rfl
   rw[hdr]at h1;simp at h1
 have hd1:=QWb hI hmd (nm:=QEj) (by simpa using h1);have hb:=QMV (QAt m QEj).1 (by simpa using h2);have he3:=fun {m' l e} h3 he=>QYM (m:=m) h1 h2 (m':=m') (l:=l) (e:=e) h3 he;have he4:=fun {m' l} h3 {w} hw=>QYy (m:=m) h1 h2 (m':=m') (l:=l) h3 (w:=w) hw;have hIm:=t0.inv;have hroom:=t0.room
 generalize (QAt m QEj).1=m1 at *
 generalize (QC4 m1).1=n0 at *
 generalize (QC4 m1).2.1=f0 at *
 obtain⟨hb1,hb2⟩:=hb
 cases hR:QLj 70 m1 n0 ⟨n0,f0,[],0⟩ with
 | mk m' r=>
 obtain⟨l',e⟩:=r;by_cases he:e=0
 ·subst he;obtain⟨q1,q2,q3,q4⟩:=QLr (n0:=n0) (f0:=f0) hb1.1 70 m1 ⟨n0,f0,[],0⟩ m' l' (ReadI.start hIm hb2) hd1 (fun s hs=>by cases hs) (by simpa using hR);have hE:=he4 hR (w:=QC7 l' (m'.fs.map (·.nm)) m') rfl;have tw:=QIJ (l:=l') (m'.fs.map (·.nm)) m' q1.inv;rw[hE]at h⊢;by_cases hw:(QC7 l' (m'.fs.map (·.nm)) m').2≠0
  ·rw[if_pos hw]at h;cases h
  ·rw[if_neg hw]at h⊢;obtain rfl:=Option.some.inj h;have hL:=q1.linv hb1 hb2;have hnx:=hL.next
   have hcur:l'.curN≤999999999999:=by
    by_cases hs:l'.segs=[]
    ·unfold LM.curN LM.cur;rw[hs];show l'.n≤_;rw[q1.n];exact hb1.2
    ·obtain⟨z,z1,z2,z3,_⟩:=QHS hs;obtain⟨b,hb,_⟩:=q3 z z2;rw[z3]
     -- a file of that name is there, so the name is a right one
     unfold QKi at hb;obtain⟨f,hf,_⟩:=Option.map_eq_some_iff.1 hb;have hnm:=q1.inv.names f (QIq hf);have hk:f.nm.toList=fK z.n:=QCP hf;have hzp:=(hL.segs z z2).1;obtain⟨A,hA⟩:=Int.eq_ofNat_of_zero_le (show 0≤z.n by omega);unfold QDT at hnm;simp only[Bool.and_eq_true,decide_eq_true_eq]at hnm
     have hsz:f.nm.size≤16:=by omega
     have hln:f.nm.toList.length=f.nm.size:=by rw[ByteArray.toList_eq,Array.length_toList];rfl
     rw[hk,QHy,List.length_append,hA,QKl (by omega)]at hln;have hpl:preL.length=4:=rfl
     have hdl:(Lib.decDigits A).length≤12:=by omega
     have:=QaG A 12 hdl;omega
   have halive:(QC7 l' (m'.fs.map (·.nm)) m').1.down=false:=QH8 _ _ q1.inv q2 (by simpa using hw);refine⟨⟨tw.inv,⟨hL.n,hL.first,hL.segs,hL.few,by simp only;omega,hL.chain⟩,hcur,fun _=>rfl,fun hd s hs=>(q3 s hs).touch tw hd ⟨s,hs,rfl⟩,n0,fun i s hi=>(q1.segs i s hi).1⟩,by rw[tw.room,q4,hroom],hmd,halive⟩
 ·rw[he3 hR he]at h;cases h
variable {B:QBE}{As F:List HP}
end Go.Cx
namespace Go.Cx
open Go Go.Cf
set_option linter.unusedVariables false
set_option maxRecDepth 100000
variable {B:QBE}{As F:List HP}{α:Type}
theorem QE4(a b:Sl)(xs ys:List UInt8)(hm:xs.length≤140737488355328) :
  Ct Pr 49 [a.v,b.v] .one [.bool] [] ((RAr U8 a xs).and (RAr U8 b ys)) (fun t Bs=>t.1=decide (xs=ys)∧Bs=[]):=by
 refine sp1 (QIz _ _) fun B hr=>?_;have fa:Fro B a U8 xs:=⟨hr.1⟩;have fb:Fro B b U8 ys:=⟨hr.2⟩;have ha:=hr.1.1;have hb:=hr.2.1;unfold QIz mf;dsimp only;refine xif (fun h=>?_) (fun h=>?_)
 ·refine QAD ⟨?_,rfl⟩
  have:xs≠ys:=fun e=>by subst e;simp[←ha,←hb]at h
  simp[this]
 ·have hl:xs.length=ys.length:=by simp at h;omega
  refine QBP (fun n i As=>∃k:Nat,i=(k:Int)∧n=xs.length - k∧k≤xs.length∧xs.take k=ys.take k∧As=[]) xs.length ⟨0,rfl,rfl,by omega,rfl,rfl⟩ ?_;rintro n _ _ K ⟨k,rfl,rfl,hk,he,rfl⟩ hK;refine QAA (fun h=>?_) (fun h=>?_)
  ·refine QAO (QAH rfl (by omega) fun x hx=>QAN hx rfl rfl (QAH rfl (by omega) fun y hy=>QAN hy rfl rfl ?_));rw[QM5];refine xif (fun h=>?_) (fun h=>?_)
   ·refine QAD ⟨?_,rfl⟩
    have:xs≠ys:=fun e=>by subst e;rw[hx]at hy;simp at hy h;exact h hy
    simp[this]
   ·rw[QAF k (by omega)];refine hK (xs.length - (k+1)) _ _ (by omega) ⟨k+1,rfl,rfl,by omega,?_,rfl⟩;rw[List.take_add_one,List.take_add_one,he,hx,hy];simp at h;rw[h]
  ·refine QAD ⟨?_,rfl⟩
   have:k=xs.length:=by omega
   subst this;rw[List.take_length,hl,List.take_length]at he;simp[he]
theorem QbT(p:Option Addr)(m:DM)(n:Int)(hn:i64 n):Ct Pr 47 [.pointer p,.I n] (.tup []) [] [QAC p m] emp (fun t Bs=>Bs=[QAC p (QcS m n)]):=by
 refine sp0 (QGC _ _) fun B _=>?_;unfold QGC mf;dsimp only;refine QZn 0 fun hi b s cs hp sf hsn=>?_;subst hp;exact QAQ (xsq (QAQ (xsq (QCE 0 0 0 b s cs (QcS m n) (Qcl hi hn) (fun _ h=>h) (QAD rfl)))))
theorem QRM(p:Option Addr)(m:DM)(keep:Int):Ct Pr 16 [.pointer p,.I keep] (.tup []) [] [QAC p m] emp (fun t Bs=>Bs=[QAC p (QI1 m keep)]):=by
 refine sp0 (QEs _ _) fun B _=>?_;unfold QEs mf;dsimp only;refine QZn 0 fun hi b s cs hp sf hsn=>?_;subst hp;have hinv:=QaJ hi keep;have hlen:=hi.len;have hcl:=sf.len;refine QAQ (xgq ?_);refine QBP (fun n i As=>∃(k:Nat) (cs':List CF),i=(k:Int)∧n=m.fs.length - k∧k≤m.fs.length∧cs'.length=m.fs.length∧As=[Blk b (QBB m s),Ar FILE s cs',Each QCB cs' ((m.fs.map (QKj keep)).take k++m.fs.drop k)]) m.fs.length ⟨0,cs,rfl,rfl,by omega,hcl,rfl⟩ ?_;rintro n _ _ K ⟨k,cs',rfl,rfl,hk,hl',rfl⟩ hK;refine QAA (fun h=>?_) (fun h=>?_)
 ·refine QBx 2 (fun g hg=>QbF hg) fun sf'=>?_
  have hkl:k<m.fs.length:=by omega
  have hf0:=List.getElem?_eq_getElem hkl;have hsy:=hi.syn _ (List.getElem_mem hkl)
  have hfb:m.fs[k].b.length≤16777216:=by
   have h1:=QBi hf0;have h2:=hi.used;have h3:=hi.room;omega
  have hf:((m.fs.map (QKj keep)).take k++m.fs.drop k)[k]? = some m.fs[k]:=by
   rw[List.getElem?_append_right (by simp;omega)];simp[Nat.min_eq_left (Nat.le_of_lt hkl),hf0]
  have hset:((m.fs.map (QKj keep)).take k++m.fs.drop k).set k (QKj keep m.fs[k])=(m.fs.map (QKj keep)).take (k+1)++m.fs.drop (k+1):=by
   have hlt:((m.fs.map (QKj keep)).take k).length=k:=by simp;omega
   rw[List.drop_eq_getElem_cons hkl,List.set_append_right _ _ (by omega),hlt,Nat.sub_self,List.set_cons_zero,List.take_add_one,List.getElem?_map,hf0];simp only[Option.map_some,Option.toList_some,List.append_assoc,List.singleton_append]
  generalize m.fs[k]=f at *
  have hc:=List.getElem?_eq_getElem (l:=cs') (i:=k) (by omega);generalize cs'[k]=c at hc;obtain⟨e1,e2,e3,e4⟩:=sf'.each _ _ _ hc hf;have hkn:=QP7 hsy keep;refine QAQ (xgq ?_);refine QAH (h1:=by omega) (h:=fun _ _=>QAO (QAQ ?_));refine QAZ hc (h:=QAQ ?_);refine QAZ hc (h:=QAQ ?_);refine QAZ hc (h:=QAQ ?_);rw[e2,e3,Qc8 keep hsy hfb];refine QCx (c.1,c.2.1,QI9 keep f) hc (hj:=by decide) (hv:=rfl) (h:=QAO (QAQ ?_));have hc2:(cs'.set k (c.1,c.2.1,QI9 keep f))[k]? = some (c.1,c.2.1,QI9 keep f):=List.getElem?_set_self (by omega);refine QAZ hc2 (h:=QAQ ?_);refine QAZ hc2 (h:=?_)
  (try dsimp only)
  refine QX3 rfl (by omega) (by omega) (QAQ ?_);refine QCx (c.1,⟨c.2.1.p,(QI9 keep f).toNat,c.2.1.c⟩,QI9 keep f) hc2 (hj:=by decide) (hv:=rfl) (h:=?_);rw[List.set_set,QAF k (by omega)];refine QAe 2 (QPW (c':=(c.1,⟨c.2.1.p,(QI9 keep f).toNat,c.2.1.c⟩,QI9 keep f)) (f':=QKj keep f) hc hf (fun g h=>⟨h.1,rfl,Qce (by omega) h.2.2⟩)) ?_;rw[hset];exact QfK 0 (hK (m.fs.length - (k+1)) _ _ (by omega) ⟨k+1,_,rfl,rfl,by omega,by simpa using hl',rfl⟩)
 ·have hk':k=m.fs.length:=by omega
  subst hk';rw[List.take_of_length_le (by simp),List.drop_length,List.append_nil];refine QAQ (xsq (xsq (xsq ?_)));exact QCE 0 0 0 b s cs' (QI1 m keep) hinv (fun _ h=>h) (QAD rfl)
theorem QIU{p:Option Addr}{m:DM}{g:QBe}(h:QAC p m g):∃b,p=some ⟨b,0,none⟩:=by
 obtain⟨_,b,_,_,h,_⟩:=h;exact⟨b,h⟩
def GBeh:HP:=fun h=>∃e fr,h 0=some (.cells #[.I 1099511627777,.I 0] e fr)
theorem GBeh.mono:∀g f,GBeh g→Sub g f→GBeh f:=fun _ _ ⟨e,fr,h⟩ s=>⟨e,fr,s _ _ h⟩
theorem Qb7{B:QBE}(h:GBeh (frz B.W B.h0)):Qfm B GBeh:=⟨h,fun _ _ h s=>GBeh.mono _ _ h s⟩
def Qec(lo:Int)(d:List KY):XM:=d.foldl (fun X k=>if k.2≥lo then QVW X k.1 k.2 else X) xm0
abbrev QUw(m:XM)(lo:Int):XM:=Qec lo m.L
def XTime(X:XM):Prop:=∀y∈X.L,(0≤y.1∧y.1≤1099511627776)∧0≤y.2
def kb(k:KY):List UInt8:=be8 (Qfu k.1)++be8 (Qfu k.2)
def stB(s:List UInt8×List UInt8)(k:KY):List UInt8×List UInt8:=if (s.2++kb k).length=1024 then (s.1++QAn (s.2++kb k),[]) else (s.1,s.2++kb k)
def QfX(d:List KY):List UInt8×List UInt8:=d.foldl stB ([],[])
def Qgx(d:List KY):List UInt8:=if 0<(QfX d).2.length then (QfX d).1++QAn (QfX d).2 else (QfX d).1
abbrev Qg1:ByteArray:=⟨#[105,100,120]⟩
def Qgm(m:DM)(b:List UInt8):DM×Int:=
 if (QAM m idxNew b).2≠0 then QAM m idxNew b
 else if (QBK (QAM m idxNew b).1 idxNew).2≠0 then QBK (QAM m idxNew b).1 idxNew
 else QCF (QBK (QAM m idxNew b).1 idxNew).1 idxNew Qg1
def saveM(m:DM)(lo:Int)(X:XM):DM×XM×Int:=
 if m.down=true then (m,X,10) else
 if (QAt m idxNew).2≠0 then ((QAt m idxNew).1,QUw X lo,10) else
 ((Qgm (QAt m idxNew).1 (Qgx (QUw X lo).L)).1,QUw X lo,(Qgm (QAt m idxNew).1 (Qgx (QUw X lo).L)).2)
theorem QYK(n:Int):fK n≠idxNew.toList:=by
 rw[QHy];show preL++_≠(BA [105,100,120,46,110,101,119]).toList;rw[QEb];intro h;have:=congrArg (fun l=>l[0]?) h;simp[preL]at this
theorem QZb{k y:KY}{l:List KY}(h:y∈QK0 k l):y=k∨y∈l:=by
 unfold QK0 at h;split at h
 ·exact .inr h
 ·simp only[List.mem_append,List.mem_cons,List.mem_filter]at h;rcases h with h|h|h
  ·exact .inr h.1
  ·exact .inl h
  ·exact .inr h.1
theorem XTime.put{X:XM}(h:XTime X){t n:Int}(h1:0≤t∧t≤1099511627776)(h2:0≤n):XTime (QVW X t n):=by
 intro y hy;rcases QZb hy with rfl|hy
 ·exact⟨h1,h2⟩
 ·exact h y hy
theorem QYZ{r:RE}(h:QCo r=0):0≤r.time∧r.time≤1099511627776:=by
 unfold QCo at h;split at h
 ·cases h
 split at h
 ·cases h
 split at h
 ·cases h
 rename_i h2
 have:QB7 r.time 0 1099511627776=true:=by simpa using h2
 unfold QB7 at this;simp only[Bool.and_eq_true,decide_eq_true_eq]at this;omega
end Go.Cx
