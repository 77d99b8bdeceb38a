/-
A log and its device: what is so of both, whatever is done.
-/
import Derived.Test.YthbhbkjkclhkgaaGreatDoorRX
import Derived.Test.YthbhbkjkclhkgaaGreatDoorHY
import Derived.Test.YthbhbkjkclhkgaaGreatDoorT1
import Derived.Test.YthbhbkjkclhkgaaGreatDoorDK
set_option linter.unusedVariables false
set_option maxRecDepth 100000
open Go Go.Cf
namespace Go.Cx
def QLZ(fs:List DF)(k:Key):Option Ab:=(QCa fs k).map (·.b)
structure Touch(m r:DM)(S:Key->Prop):Prop where
 inv:DInv r
 room:r.room=m.room
 keep:r.down=false->m.down=false/\∀k,S k->QLZ r.fs k=QLZ m.fs k
theorem Touch.refl{m:DM}(h:DInv m)(S:Key->Prop):Touch m m S:=⟨h,rfl,fun h=>⟨h,fun _ _=>rfl⟩⟩
theorem Touch.trans{a b c:DM}{S:Key->Prop}(h:Touch a b S)(k:Touch b c S):Touch a c S:=
 ⟨k.inv,by rw[k.room,h.room],fun d=>by
  obtain⟨h1,e⟩:=k.keep d;obtain⟨f,g⟩:=h.keep h1
  exact⟨f,fun x hx=>by rw[e x hx,g x hx]⟩⟩
theorem Touch.mono{a b:DM}{S T:Key->Prop}(h:Touch a b S)(d:∀k,T k->S k):Touch a b T:=
 ⟨h.inv,h.room,fun c=>⟨(h.keep c).1,fun x hx=>(h.keep c).2 x (d x hx)⟩⟩
theorem QHz{m:DM}{r:DM×Int}{fs:List DF}{S:Key->Prop}(hI:DInv r.1)(b:m.down=false)(h:QYa m r\/QgT m r fs)(hS:∀k,S k->QLZ fs k=QLZ m.fs k):Touch m r.1 S:=by
 rcases h with h|h
 ·refine⟨hI,by rw[h.2],fun e=>by rw[h.2]at e;cases e⟩
 ·exact⟨hI,h.room,fun _=>⟨b,fun k a=>by rw[h.files];exact hS k a⟩⟩
theorem QWh{fs:List DF}(a:Sorted fs){i:Nat}{f g:DF}(b:fs[i]? = some f)(c:g.key=f.key){k:Key}(h:k≠f.key):QLZ (fs.set i g) k=QLZ fs k:=by
 unfold QLZ;rw[QGT a b c,Wb h]
theorem QCF{m:DM}(hI:DInv m)(nm:ByteArray):Touch m (QA0 m nm).1 fun _=>True:=by
 cases c:m.down with
 | true=>rw[show QA0 m nm=(m,10) from by unfold QA0;exact QGc c _ _];exact Touch.refl hI _
 | false=>
  cases a:QCa m.fs nm.toList with
  | none=>rw[QaG hI c a];exact Touch.refl hI _
  | some f=>
   refine QHz (QRY hI nm) c (QQv hI c a) fun k _=>?_;obtain⟨h1,d⟩:=QDF hI.sorted a;unfold QLZ;rw[QGT hI.sorted d (g:={ f with sy:=f.b.length }) rfl];split
   ·rename_i e;rw[e,QCX a,a];rfl
   ·rfl
theorem QDp{m:DM}(hI:DInv m)(nm:ByteArray):Touch m (QAJ m nm).1 fun k=>k≠nm.toList:=by
 cases a:m.down with
 | true=>rw[show QAJ m nm=(m,10) from by unfold QAJ;exact QGc a _ _];exact Touch.refl hI _
 | false=>
  cases b:QCa m.fs nm.toList with
  | none=>rw[QMQ hI a b];exact Touch.refl hI _
  | some f=>
   refine QHz (QKX hI nm) a (QHW hI a b) fun k c=>?_;obtain⟨h1,d⟩:=QDF hI.sorted b;unfold QLZ;rw[QOs hI.sorted d,Wb (by rw[QCX b];exact c)]
theorem QMy{m:DM}{nm:ByteArray}(hI:DInv m)(h:(QCa m.fs nm.toList).isSome=true\/m.down=true)(he:(QAJ m nm).2≠0):(QAJ m nm).2=10:=by
 cases a:m.down with
 | true=>rw[show QAJ m nm=(m,10) from by unfold QAJ;exact QGc a _ _]
 | false=>
  rcases h with h|h
  ·obtain⟨f,b⟩:=O5.1 h;rcases QHW hI a b with e|e
   ·rw[e.2]
   ·exact absurd e.err he
  ·rw[a]at h;cases h
theorem QaC{m:DM}{nm:ByteArray}(hI:DInv m)(h:(QCa m.fs nm.toList).isSome=true\/m.down=true)(he:(QA0 m nm).2≠0):(QA0 m nm).2=10:=by
 cases a:m.down with
 | true=>rw[show QA0 m nm=(m,10) from by unfold QA0;exact QGc a _ _]
 | false=>
  rcases h with h|h
  ·obtain⟨f,b⟩:=O5.1 h;rcases QQv hI a b with e|e
   ·rw[e.2]
   ·exact absurd e.err he
  ·rw[a]at h;cases h
theorem QMe{m:DM}(hI:DInv m)(nm:ByteArray)(n:Int):Touch m (QBc m nm n).1 fun k=>k≠nm.toList:=by
 cases a:m.down with
 | true=>rw[show QBc m nm n=(m,10) from by unfold QBc;exact QGc a _ _];exact Touch.refl hI _
 | false=>
  cases c:QCa m.fs nm.toList with
  | none=>
   have:QBc m nm n=(m,6):=by unfold QBc QBb;rw[Wb (by rw[a];decide),We (by rw[QHs hI c];rfl)]
   rw[this];exact Touch.refl hI _
  | some f=>
   obtain⟨h1,e⟩:=QDF hI.sorted c;by_cases hc:n<0\/n>(f.b.length:Int)
   ·have:QBc m nm n=(m,3):=by
     unfold QBc QBb;rw[Wb (by rw[a];decide),Wb (by rw[h1];decide),QEk hI.sorted c];simp only[We hc]
    rw[this];exact Touch.refl hI _
   ·refine QHz (QGH hI nm n) a (QQD hI a c Om Om) fun k d=>?_;exact QWh hI.sorted e (g:={ f with b:=f.b.take n.toNat,sy:=if n<f.sy then n else f.sy }) rfl (by rw[QCX c];exact d)
theorem QDl{m:DM}(hI:DInv m)(nm:ByteArray)(b:Ab):Touch m (QAF m nm b).1 fun k=>k≠nm.toList:=by
 cases hn:QDN nm with
 | false=>
  have:QAF m nm b=(m,8):=by unfold QAF;rw[We (by rw[hn];rfl)]
  rw[this];exact Touch.refl hI _
 | true=>
  cases a:m.down with
  | true=>
   have:QAF m nm b=(m,10):=by unfold QAF;rw[Wb (by rw[hn];decide),We a]
   rw[this];exact Touch.refl hI _
  | false=>
   rcases QMg hI hn a (b:=b) with⟨e,_⟩|e|⟨e,_⟩
   ·rw[e];exact Touch.refl hI _
   ·exact QHz (fs:=m.fs) (QHy hI nm b) a (.inl e) fun _ _=>rfl
   ·refine QHz (QHy hI nm b) a (.inr e) fun k c=>?_;unfold QLZ;rw[QXB hI.sorted,Wb c]
theorem QH6{m:DM}(hI:DInv m)(nm:ByteArray):Touch m (QAj m nm).1 fun k=>k≠nm.toList:=by
 have:=QDp hI nm;unfold QAj;split<;>exact this
theorem QHo{m:DM}(hI:DInv m)(nm to:ByteArray):Touch m (QBp m nm to).1 fun k=>k≠nm.toList/\k≠to.toList:=by
 have o:=QOh hI nm to
 cases hn:QDN to with
 | false=>
  have:QBp m nm to=(m,8):=by unfold QBp;rw[We (by rw[hn];rfl)]
  rw[this];exact Touch.refl hI _
 | true=>
  have h0:QBp m nm to=QBb m nm fun i f m=>QD3 m fun m=>{ m with fs:=QRs m.fs i f to }:=by unfold QBp;rw[Wb (by rw[hn];decide)]
  cases c:m.down with
  | true=>rw[h0,QGc c];exact Touch.refl hI _
  | false=>
   cases d:QCa m.fs nm.toList with
   | none=>
    have:QBp m nm to=(m,6):=by rw[h0];unfold QBb;rw[Wb (by rw[c];decide),We (by rw[QHs hI d];rfl)]
    rw[this];exact Touch.refl hI _
   | some f=>
    obtain⟨h1,l⟩:=QDF hI.sorted d
    have p:QBp m nm to=QD3 m fun m'=>{ m' with fs:=QRs m'.fs (QAR m.fs nm.toList) f to }:=by
     rw[h0];unfold QBb;rw[Wb (by rw[c];decide),Wb (by rw[h1];decide),QEk hI.sorted d]
    have j:=QIE m fun fs=>QRs fs (QAR m.fs nm.toList) f to;rw[<-p]at j;refine QHz o c j fun k e=>?_;have b:Sorted (m.fs.eraseIdx (QAR m.fs nm.toList)):=QC2 hI.sorted
    have he:QLZ (m.fs.eraseIdx (QAR m.fs nm.toList)) k=QLZ m.fs k:=by
     unfold QLZ;rw[QOs hI.sorted l,Wb (by rw[QCX d];exact e.1)]
    unfold QRs
    (try simp only)
    split
    ·rename_i a
     rw[QDU b]at a;obtain⟨r,h⟩:=O5.1 a;obtain⟨s,n⟩:=QDF b h;rw[QWh b n (g:={ f with nm:=to }) (QCX h).symm (by rw[QCX h];exact e.2),he]
    ·rename_i a
     have q:QAk (m.fs.eraseIdx (QAR m.fs nm.toList)) ({ f with nm:=to }:DF).key=false:=by
      show QAk _ to.toList=false;simpa using a
     have:=QWH b (g:={ f with nm:=to }) q k;unfold QLZ at he|-;rw[show QAR (m.fs.eraseIdx (QAR m.fs nm.toList)) to.toList=QAR (m.fs.eraseIdx (QAR m.fs nm.toList)) ({ f with nm:=to }:DF).key from rfl,this,Wb (show k≠({ f with nm:=to }:DF).key from e.2),he]
def HasF(m:DM)(s:Sg):Prop:=∃b,QLZ m.fs (fK s.n)=some b/\s.size<=(b.length:Int)
structure Ldev(m:DM)(l:LM):Prop where
 inv:DInv m
 log:LInv l
 cur:l.curN<=999999999999
 safe:l.segs=[]->l.safe=l.next
 files:m.down=false->∀s∈l.segs,HasF m s
 ord:∃n0:Int,∀(i:Nat) s,l.segs[i]? = some s->s.n=n0+i
theorem HasF.some{m:DM}{s:Sg}(h:HasF m s):(QCa m.fs (fK s.n)).isSome=true:=by
 obtain⟨b,h,_⟩:=h;unfold QLZ at h
 cases e:QCa m.fs (fK s.n) with
 | none=>rw[e]at h;cases h
 | some f=>rfl
theorem HasF.touch{m r:DM}{S:Key->Prop}{s:Sg}(h:HasF m s)(t:Touch m r S)(c:r.down=false)(d:S (fK s.n)):HasF r s:=by
 obtain⟨b,h1,a⟩:=h;exact⟨b,by rw[(t.keep c).2 _ d];exact h1,a⟩
theorem Ldev.touch{m r:DM}{l:LM}{S:Key->Prop}(h:Ldev m l)(t:Touch m r S)(hS:∀s∈l.segs,S (fK s.n)):Ldev r l:=
 ⟨t.inv,h.log,h.cur,h.safe,fun a s b=>(h.files (t.keep a).1 s b).touch t a (hS s b),h.ord⟩
theorem Ldev.relog{m:DM}{l l':LM}(h:Ldev m l)(a:l'.segs=l.segs)(hn:l'.n=l.n)(c:l'.first=l.first)(h1:0<=l'.safe/\l'.safe<=4398046511104)(d:l.segs=[]->l'.safe=l'.next):Ldev m l':=by
 obtain⟨n0,b⟩:=h.ord;refine⟨h.inv,⟨by rw[hn];exact h.log.n,by rw[c];exact h.log.first,by rw[a];exact h.log.segs,by rw[a];exact h.log.few,h1,by rw[a];exact h.log.chain⟩,?_,by rw[a];exact d,by rw[a];exact h.files,n0,by rw[a];exact b⟩;have:=h.cur;unfold LM.curN LM.cur at this|-;rw[a,hn];exact this
theorem QIC{l:LM}(h:l.segs≠[]):∃s,l.segs.getLast? = some s/\s∈l.segs/\l.curN=s.n/\(l.cur.map Sg.n).getD 0=s.n:=by
 cases hc:l.segs.getLast? with
 | none=>exact absurd (Kj.1 hc) h
 | some s=>exact⟨s,rfl,Zo hc,by unfold LM.curN LM.cur;rw[hc],by unfold LM.cur;rw[hc];rfl⟩
theorem Ldev.sync{m:DM}{l:LM}(h:Ldev m l):Ldev (QBP m l).1 (QBP m l).2.1/\((QBP m l).2.2≠0->(QBP m l).2.2=10)/\Touch m (QBP m l).1 (fun _=>True):=by
 unfold QBP
 cases g:m.down with
 | true=>rw[We rfl];exact⟨h,fun _=>rfl,Touch.refl h.inv _⟩
 | false=>
  rw[Wb Dc];by_cases a:l.safe=l.next
  ·rw[We a];exact⟨h,fun e=>absurd rfl e,Touch.refl h.inv _⟩
  ·rw[Wb a];obtain⟨s,h1,d,i,f⟩:=QIC (fun e=>a (h.safe e));rw[f];have b:=QCF h.inv (fN s.n);have c:=h.touch b fun _ _=>trivial;have hc:=fun e=>QaC h.inv (nm:=fN s.n) (.inl (h.files g s d).some) e
   (try dsimp only)
   split
   ·rename_i he;exact⟨c,fun _=>hc he,b⟩
   ·have j:=h.log.next;exact⟨c.relog (l':={ l with safe:=l.next }) rfl rfl rfl ⟨by simp only;omega,by simp only;omega⟩ (fun e=>rfl),fun e=>absurd rfl e,b⟩
theorem Qgd{m:DM}(hI:DInv m){k:Key}{b:Ab}(h:QLZ m.fs k=some b):b.length<=16777216:=by
 unfold QLZ at h;obtain⟨f,a,rfl⟩:=Option.map_eq_some_iff.1 h;obtain⟨h1,c⟩:=QDF hI.sorted a;have:=QBw c;have d:=hI.used;have e:=hI.room;omega
theorem Qh5{m:DM}{l:List Sg}(hI:DInv m){n0:Int}(h0:1<=n0)(c:∀(i:Nat) s,l[i]? = some s->s.n=n0+i)(d:∀s∈l,HasF m s):l.length<=64:=by
 obtain⟨k,rfl⟩:=W1 (show 0<=n0 by omega)
 have:=QTS (fs:=m.fs) (n0:=k) Om (n:=l.length) fun i hi=>by
  have b:=Wa hi;have h1:=c i _ b;have a:=(d _ (U7 hi)).some;rw[h1]at a;exact a
 have:=hI.len;omega
theorem Qdq{fs:List DF}(g:Sorted fs)(nm:ByteArray)(b:Ab):∃c,QLZ (QOI fs nm b) nm.toList=some (c++b)/\∀d,QLZ fs nm.toList=some d->d=c:=by
 unfold QLZ;rw[QXB g,We rfl];refine⟨_,rfl,fun d a=>?_⟩;obtain⟨f,e,rfl⟩:=Option.map_eq_some_iff.1 a;rw[e];rfl
theorem QdY(a:List Sg)(x:Sg)(p:Ab):QVv (a++[x]) p=a++[{ x with size:=x.size+(QAY p).length,ps:=x.ps++[p] }]:=by
 unfold QVv;simp
theorem Ldev.append{m:DM}{l:LM}(h:Ldev m l)(p:Ab):Ldev (QAy m l p).1 (QAy m l p).2.1:=by
 obtain⟨b4,d5,g3⟩:=h.sync;obtain⟨b5,b6,b7⟩:=QSp m l;unfold QAy
 cases b3:m.down with
 | true=>rw[We rfl];exact h
 | false=>
  rw[Wb Dc];by_cases a9:p.length>1024
  ·rw[We a9];exact h
  rw[Wb a9];by_cases X:l.next>=1099511627776\/(l.full=true/\l.curN=QLc)
  ·rw[We X];exact h
  rw[Wb X]
  -- the device and log behind a Sync
  obtain⟨y,b8,j,d6,b9,b',ty⟩:∃y:DM×LM×Int,(if l.full then QBP m l else (m,l,0))=y/\Ldev y.1 y.2.1/\y.2.1.segs=l.segs/\y.2.1.n=l.n/\y.2.1.first=l.first/\Touch m y.1 (fun _=>True):=by
   cases l.full with
   | true=>exact⟨_,rfl,b4,b5,b6,b7,g3⟩
   | false=>exact⟨_,rfl,h,rfl,rfl,rfl,Touch.refl h.inv _⟩
  rw[b8]
  (try dsimp only)
  by_cases he:y.2.2≠0
  ·rw[We he];exact j
  rw[Wb he]
  generalize hn:(if l.full=true then l.curN+1 else l.curN)=n at *
  have d':=h.cur
  have c4:n<=999999999999:=by
   have:QLc=999999999999:=rfl;rw[<-hn];split
   ·rename_i C
    have e0:l.curN≠QLc:=fun e=>X (.inr ⟨C,e⟩);omega
   ·omega
  have e1:1<=l.curN:=by
   by_cases f:l.segs=[]
   ·have:=h.log.n;unfold LM.curN LM.cur;rw[f];exact this.1
   ·obtain⟨s,_,D,E,_⟩:=QIC f;rw[E];exact (h.log.segs s D).1.1
  have c5:1<=n:=by rw[<-hn];split<;>omega
  obtain⟨N,U⟩:=W1 (show 0<=n by omega)
  have Y:QDN (fN n)=true:=by rw[U];exact Qcq Om Om
  have Z:=QDl j.inv (fN n) (QAY p)
  -- what the numbers of the segments are
  obtain⟨n0,v⟩:=h.ord
  have c6:l.full=true->∀s∈l.segs,fK s.n≠fK n:=by
   intro C s f e;obtain⟨i,hi⟩:=Oh.1 f;have hl:=(Wc.1 hi).1;obtain⟨z,H,z2,z3,_⟩:=QIC (List.ne_nil_of_mem f);have z4:=v _ z (QGr H);have z5:=v i s hi;have e2:=(h.log.segs s f).1;rw[We C]at hn;obtain⟨A,V⟩:=W1 (show 0<=s.n by omega);rw[V,U]at e;have:=QTY Om Om e;omega
  by_cases w:(QAF y.1 (fN n) (QAY p)).2≠0
  ·rw[We w]
   -- refused, or the power is off: the log is as it was
   refine⟨Z.inv,j.log,j.cur,j.safe,fun K s f=>?_,j.ord⟩
   cases u:y.1.down with
   | true=>have:=(Z.keep K).1;rw[u]at this;cases this
   | false=>
    rcases QMg j.inv Y u (b:=QAY p) with⟨e,_⟩|e|⟨e,_⟩
    ·rw[e];exact j.files u s f
    ·rw[e.2]at K;cases K
    ·exact absurd e.err w
  rw[Wb w]
  have u:y.1.down=false:=by
   cases u:y.1.down with
   | false=>rfl
   | true=>
    have:QAF y.1 (fN n) (QAY p)=(y.1,10):=by unfold QAF;rw[Wb (by rw[Y];decide),We u]
    rw[this]at w;simp at w
  rcases QMg j.inv Y u (b:=QAY p) with⟨e,_⟩|e|⟨e,_,_⟩
  ·rw[e]at w;simp at w
  ·rw[e.2]at w;simp at w
  have c7:=e.files;have a0:=QHy j.inv (fN n) (QAY p)
  have c8:(QAF y.1 (fN n) (QAY p)).1.down=false:=by rw[e.down];exact u
  generalize (QAF y.1 (fN n) (QAY p)).1=r at *
  obtain⟨c,W,c0⟩:=Qdq j.inv.sorted (fN n) (QAY p);rw[<-c7]at W;have c9:=Qgd a0 W;rw[Wd]at c9;have e3:=QRi p;have e4:=h.log.next;have c':=j.log.safe
  -- the segments behind it
  have key:∃(a:List Sg) (x:Sg),(if l.segs=[]\/l.full=true then l.segs++[⟨n,l.next,0,[]⟩] else l.segs)=a++[x]/\x.n=n/\(∀s∈a,s∈l.segs/\fK s.n≠fK n)/\(0<=x.first/\x.first<=2199023255552)/\0<=x.size/\x.size<=c.length/\(x.ps.length:Int)<=x.size/\(∀q∈x.ps,q.length<=1024)/\(∃M:Int,1<=M/\∀(i:Nat) s,(a++[x])[i]? = some s->s.n=M+i)/\(∀(k:Nat) s L,(a++[x])[k]? = some s->(a++[x])[k+1]? = some L->L.first=s.next):=by
   by_cases I:l.segs=[]\/l.full=true
   ·rw[We I];refine⟨l.segs,⟨n,l.next,0,[]⟩,rfl,rfl,fun s f=>⟨f,?_⟩,⟨by simp only;omega,by simp only;omega⟩,by simp,by simp,by simp,by simp,?_,QKs h.log.chain rfl⟩
    ·rcases I with g|g
     ·rw[g]at f;cases f
     ·exact c6 g s f
    ·by_cases f:l.segs=[]
     ·refine⟨n,c5,fun i s hi=>?_⟩;rw[f]at hi
      cases i with
      | zero => obtain rfl : (⟨n, l.next, 0, []⟩ : Sg) = s := Si hi;simp
      | succ i=>simp at hi
     ·have C:l.full=true:=I.resolve_left f;rw[We C]at hn;obtain⟨z,H,z2,z3,_⟩:=QIC f;have z4:=v _ z (QGr H);have P:=Km.2 f;have d0:=v 0 _ (Wa P);have d1:=(h.log.segs _ (U7 P)).1.1;refine⟨n0,Om,fun i s hi=>?_⟩;by_cases J:i<l.segs.length
      ·rw[Wj J]at hi;exact v i s hi
      ·have hl:=(Wc.1 hi).1;simp at hl
       have:i=l.segs.length:=Om
       rw[Wr Om,this,Ur]at hi
       obtain rfl:(⟨n,l.next,0,[]⟩:Sg)=s:=Si hi
       (try simp only)
       omega
   ·rw[Wb I];have f:l.segs≠[]:=fun g=>I (.inl g);have C:¬l.full=true:=fun g=>I (.inr g);rw[Wb C]at hn;obtain⟨a,x,o⟩:=(List.eq_nil_or_concat l.segs).resolve_left f;rw[List.concat_eq_append]at o;obtain⟨z,H,z2,z3,_⟩:=QIC f
    have d2:z=x:=by rw[o]at H;simpa using H.symm
    subst d2;have Q:=h.log.segs z z2;have P:=Km.2 f;have d0:=v 0 _ (Wa P);have d1:=(h.log.segs _ (U7 P)).1.1;refine⟨a,z,o,Om,fun s T=>⟨by rw[o];simp[T],fun g=>?_⟩,Q.2.1,Q.2.2.1.1,?_,Q.2.2.2.1,Q.2.2.2.2,⟨n0,Om,fun i s hi=>v i s (by rw[o];exact hi)⟩,by rw[<-o];exact h.log.chain⟩
    ·obtain⟨i,hi⟩:=Oh.1 T;have J:=(Wc.1 hi).1;have O:=v i s (by rw[o,Wj J];exact hi);have a8:=v a.length z (by rw[o];simp);have e5:=(h.log.segs s (by rw[o];simp[T])).1;obtain⟨A,V⟩:=W1 (show 0<=s.n by omega);rw[V,U]at g;have:=QTY Om Om g;omega
    ·obtain⟨d,a3,K⟩:=(h.files b3 z z2);have a1:=(ty.keep u).2 (fK z.n) trivial;rw[show z.n=n by omega]at a1 a3;rw[a3]at a1;rw[<-c0 d a1];exact K
  obtain⟨a,x,o,a4,a5,c1,d7,d8,d9,c2,⟨M,c3,a6⟩,a7⟩:=key;rw[o,QdY]
  generalize S:({ x with size:=x.size+(QAY p).length,ps:=x.ps++[p] }:Sg)=t at *
  have R:t.n=n:=by rw[<-S];exact a4
  have a':t.first=x.first:=by rw[<-S]
  have a2:t.size=x.size+(QAY p).length:=by rw[<-S]
  have b0:t.ps=x.ps++[p]:=by rw[<-S]
  have b1:∀(i:Nat) s,(a++[t])[i]? = some s->s.n=M+i:=fun i s hi=>by
   by_cases J:i<a.length
   ·rw[Wj J]at hi;exact a6 i s (by rw[Wj J];exact hi)
   ·have hl:=(Wc.1 hi).1;simp at hl
    have E:i=a.length:=Om
    rw[Wr Om,E,Ur]at hi
    obtain rfl:t=s:=Si hi
    have:=a6 a.length x (by simp);rw[R,<-a4,this,E]
  have b2:∀s∈a++[t],HasF r s:=by
   intro s f;rcases W4.1 f with f|f
   ·obtain⟨O,a8⟩:=a5 s f;have d3:=(h.files b3 s O).touch ty u trivial;exact d3.touch Z c8 a8
   ·obtain rfl:s=t:=Si f
    refine⟨_,by rw[R];exact W,?_⟩;rw[a2,Wd];omega
  refine⟨a0,⟨by show 1<=y.2.1.n/\_;rw[b9];exact h.log.n,by show 0<=y.2.1.first/\_;rw[b'];exact h.log.first,fun s f=>?_,Qh5 a0 c3 b1 b2,c',?_⟩,?_,fun g=>by simp at g,fun _=>b2,M,b1⟩
  ·rcases W4.1 f with f|f
   ·exact h.log.segs s (a5 s f).1
   ·obtain rfl:s=t:=Si f
    refine⟨by rw[R];omega,by rw[a'];exact c1,by rw[a2];omega,by rw[a2,b0,Wd,W8];omega,fun q G=>?_⟩;rw[b0]at G;rcases W4.1 G with G|G
    ·exact c2 q G
    ·obtain rfl:q=p:=Si G
     omega
  ·intro k s L h1 D;have d4:=(Wc.1 D).1;simp at d4;rw[Wj Om]at h1
   have O:(a++[x])[k]? = some s:=by rw[Wj Om];exact h1
   by_cases g:k+1<a.length
   ·rw[Wj g]at D;exact a7 k s L O (by rw[Wj g];exact D)
   ·have E:k+1=a.length:=Om
    rw[Wr Om,E,Ur]at D
    obtain rfl:t=L:=Si D
    rw[a'];exact a7 k s x O (by rw[Wr Om,E,Ur];rfl)
  ·unfold LM.curN LM.cur;simp only[List.getLast?_concat];rw[R];exact c4
theorem QSi{m:DM}(hI:DInv m)(s:Sg):Touch m (QVE m s).1 fun k=>k≠newN.toList/\k≠headN.toList:=by
 have a:=(QH6 hI newN).mono (T:=fun k=>k≠newN.toList/\k≠headN.toList) fun k h=>h.1;unfold QVE
 (try dsimp only)
 split
 ·exact a
 have t2:=a.trans ((QDl a.inv newN (QAY (be8 s.n.toNat++be8 s.first.toNat))).mono (T:=fun k=>k≠newN.toList/\k≠headN.toList) fun k h=>h.1);split
 ·exact t2
 have t3:=t2.trans ((QCF t2.inv newN).mono (T:=fun k=>k≠newN.toList/\k≠headN.toList) fun k h=>trivial);split
 ·exact t3
 exact t3.trans (QHo t3.inv newN headN)
theorem QKo:∀(L:List Sg) (m:DM),DInv m->(m.down=false->∀s∈L,HasF m s)->L.Pairwise (fun a b=>fK a.n≠fK b.n) ->
  Touch m (QHD L m).1 (fun k=>∀s∈L,k≠fK s.n)/\((QHD L m).2≠0->(QHD L m).2=10)
 | [],m,hI,_,_=>⟨Touch.refl hI _,fun e=>absurd rfl e⟩
 | s::L,m,hI,hf,hp=>by
  have g:=Z7.1 hp
  have hc:(QAJ m (fN s.n)).2≠0->(QAJ m (fN s.n)).2=10:=by
   intro e
   cases c:m.down with
   | true=>exact QMy hI (.inr c) e
   | false=>exact QMy hI (.inl (hf c s W5).some) e
  have t:=QDp hI (fN s.n);rw[QHD];split
  ·rename_i he
   exact⟨t.mono fun k h=>h s W5,fun _=>hc he⟩
  ·obtain⟨i,j⟩:=QKo L (QAJ m (fN s.n)).1 t.inv (fun c d f=>(hf (t.keep c).1 d (Wz _ f)).touch t c (fun e=>g.1 d f e.symm)) g.2;exact⟨(t.mono fun k h=>h s W5).trans (i.mono fun k h d f=>h d (Wz _ f)),j⟩
theorem QRn:∀(L:List Sg) (m:DM),DInv m->(m.down=false->∀s∈L,HasF m s)->L.Pairwise (fun a b=>fK a.n≠fK b.n)->(QHD L m).2≠0->(QHD L m).1.down=true
 | [],m,_,_,_,e=>absurd rfl e
 | s::L,m,hI,hf,hp,e=>by
  have i:=Z7.1 hp;have t:=QDp hI (fN s.n);rw[QHD]at e|-;split
  ·rename_i he
   cases c:m.down with
   | true=>rw[show QAJ m (fN s.n)=(m,10) from by unfold QAJ;exact QGc c _ _];exact c
   | false=>
    obtain⟨f,j⟩:=O5.1 (hf c s W5).some;rcases QHW hI c j with d|d
    ·rw[d.2]
    ·exact absurd d.err he
  ·rename_i he
   rw[Wb he]at e;exact QRn L (QAJ m (fN s.n)).1 t.inv (fun c g h=>(hf (t.keep c).1 g (Wz _ h)).touch t c (fun e=>i.1 g h e.symm)) i.2 e
theorem Ldev.keys{m:DM}{l:LM}(h:Ldev m l):l.segs.Pairwise (fun a b=>fK a.n≠fK b.n):=by
 obtain⟨n0,c⟩:=h.ord;refine Kg.2 fun i j hi hj g e=>?_;have h1:=c i _ (Wa hi);have k:=c j _ (Wa hj);have o:=(h.log.segs _ (U7 hi)).1;have p:=(h.log.segs _ (U7 hj)).1;obtain⟨A,d⟩:=W1 (show 0<=l.segs[i].n by omega);obtain⟨C,f⟩:=W1 (show 0<=l.segs[j].n by omega);rw[d,f]at e;have:=QTY Om Om e;omega
theorem Qcw(l:LM)(to keep:Int):QCi l to keep<=l.segs.length - 1:=by
 unfold QCi;refine Oq (Z2 _).length_le ?_;rw[Ww];omega
theorem Ldev.gone{m:DM}{l:LM}(h:Ldev m l)(to keep:Int)(a:Sg):(QHD (l.segs.take (QCi l to keep)) (QVE m a).1).2≠0->(QHD (l.segs.take (QCi l to keep)) (QVE m a).1).2=10:=by
 have t:=QSi h.inv a;have hl:=h.touch t fun s _=>⟨Qes s.n,QZh s.n⟩;exact (QKo _ _ t.inv (fun b s c=>hl.files b s (Zm c)) (h.keys.sublist (List.take_sublist _ _))).2
theorem Ldev.trim{m:DM}{l:LM}(h:Ldev m l)(to keep:Int):Ldev (QC6 m l to keep).1 (QC6 m l to keep).2.1:=by
 have a:=QXL h.log m to keep;unfold QC6 at a|-;split
 ·exact h
 rename_i d
 rw[Wb d]at a;split
 ·exact h
 rename_i p
 rw[Wb p]at a;dsimp only at a|-;have C:=Qcw l to keep
 generalize z:QCi l to keep=k at *
 obtain⟨c,q⟩:∃c,l.segs[k]? = some c:=⟨_,Wa Om⟩;rw[q]at a|-;simp only[Uy]at a|-;have t:=QSi h.inv c;have hl:=h.touch t fun s _=>⟨Qes s.n,QZh s.n⟩;split
 ·exact hl
 rename_i he
 rw[Wb he]at a;obtain⟨t2,_⟩:=QKo (l.segs.take k) (QVE m c).1 t.inv (fun d s b=>hl.files d s (Zm b)) (h.keys.sublist (List.take_sublist _ _));split
 ·rename_i g
  -- the power failed amid the files' going
  refine⟨t2.inv,h.log,h.cur,h.safe,fun f s b=>?_,h.ord⟩
  have:(QHD (l.segs.take k) (QVE m c).1).1.down=true:=by
   have u:=h.gone to keep c;rw[z]at u;exact QRn _ _ t.inv (fun d s b=>hl.files d s (Zm b)) (h.keys.sublist (List.take_sublist _ _)) g
  rw[this]at f;cases f
 ·rename_i g
  rw[Wb g]at a;obtain⟨n0,r⟩:=h.ord
  have v:({ l with segs:=l.segs.drop k }:LM).curN=l.curN:=by
   unfold LM.curN LM.cur
   (try simp only)
   rw[List.getLast?_drop,Wb Om]
  refine⟨t2.inv,a,by rw[v];exact h.cur,fun e=>?_,fun f s b=>?_,n0+k,fun i s hi=>?_⟩
  ·have:=Uh List.length (show l.segs.drop k=[] from e);rw[Oc,O8]at this;omega
  ·have w:s∈l.segs:=Zn b;refine (hl.files (t2.keep f).1 s w).touch t2 f fun A o e=>?_;obtain⟨i,hi⟩:=Oh.1 b;obtain⟨j,hj⟩:=Oh.1 o;rw[Zk]at hi;have x:=(Wc.1 hj).1;rw[Ww]at x;rw[Ut Om]at hj;have y:=(Wc.1 hi).1;have:=Kg.1 h.keys j (k+i) Om y Om;rw[(Wc.1 hi).2,(Wc.1 hj).2]at this;exact this e.symm
  ·rw[Zk]at hi;have:=r _ s hi;rw[this];omega
theorem QYH{m:DM}(hI:DInv m)(n:Int):Touch m (QEb m n).1 fun k=>k≠fK n:=by
 have a:Touch m (if (QAx (QAc m (fN n)).1).2<(QAc m (fN n)).1.length then QBc m (fN n) (QAx (QAc m (fN n)).1).2 else (m,0)).1 fun k=>k≠fK n:=by
  split
  ·exact QMe hI _ _
  ·exact Touch.refl hI _
 unfold QEb
 (try dsimp only)
 generalize (if (QAx (QAc m (fN n)).1).2<(QAc m (fN n)).1.length then QBc m (fN n) (QAx (QAc m (fN n)).1).2 else (m,0))=T at a|-;split
 ·exact a
 ·exact a.trans ((QCF a.inv (fN n)).mono fun _ _=>trivial)
theorem QbL{m:DM}(hI:DInv m)(l:m.down=false){n:Int}(o:QAk m.fs (fN n).toList=true)(h:(QEb m n).2=0) :
  ∃c,QLZ (QEb m n).1.fs (fK n)=some c/\(QAx (QAc m (fN n)).1).2<=c.length:=by
 have j:=o;rw[QDU hI.sorted]at j;obtain⟨f,d⟩:=O5.1 j;have i:=QL2 (QAc m (fN n)).1;have k:=QNN hI d;have a:=QPG hI l o h;unfold QEb at h a|-;simp only at h a|-;by_cases hc:(QAx (QAc m (fN n)).1).2<(QAc m (fN n)).1.length
 ·rw[We hc]at h a|-
  have q:(QAc m (fN n)).1=f.b:=by rw[k]
  rw[q]at h a i hc|-;rcases QQD hI l d (n:=((QAx f.b).2:Int)) Om Om with e|e
  ·rw[e.2]at h;simp at h
  ·rw[Wb (by rw[e.err];decide)]at h a|-;have t2:=QCF (QGH hI (fN n) ((QAx f.b).2:Int)) (fN n);rw[(t2.keep a).2 _ trivial,e.files];obtain⟨h1,p⟩:=QDF hI.sorted d;unfold QLZ;rw[QGT hI.sorted p (g:={ f with b:=f.b.take ((QAx f.b).2:Int).toNat,sy:=if ((QAx f.b).2:Int)<f.sy then ((QAx f.b).2:Int) else f.sy }) rfl,We (QCX d).symm];refine⟨_,rfl,?_⟩;simp only[Ww];omega
 ·rw[Wb hc,Wb (by simp)]at h a|-;simp only at h a|-;have t2:=QCF hI (fN n);rw[(t2.keep a).2 _ trivial];unfold QLZ;rw[show QCa m.fs (fK n)=some f from d];exact⟨f.b,rfl,by rw[show (QAc m (fN n)).1=f.b by rw[k]]at i|-;exact i⟩
theorem QNO{n0 f0:Int}(h0:1<=n0):∀(k:Nat) (m:DM) (l:LM) (a:DM) (d:LM),ReadI n0 f0 m l->m.down=false->(∀s∈l.segs,HasF m s)->QNI k m (n0+l.segs.length) l=(a,d,0) ->
  ReadI n0 f0 a d/\a.down=false/\(∀s∈d.segs,HasF a s)/\a.room=m.room
 | 0,m,l,a,d,hR,hd,hf,h=>by
  rw[QNI]at h;cases h;exact⟨hR,hd,hf,rfl⟩
 | k+1,m,l,a,d,hR,hd,hf,h=>by
  rw[QNI]at h;by_cases f:(QAc m (fN (n0+l.segs.length))).2≠0
  ·rw[We f]at h;cases h;exact⟨hR,hd,hf,rfl⟩
  rw[Wb f]at h;by_cases g:(QEb m (n0+l.segs.length)).2≠0
  ·rw[We g]at h;exact absurd (Uh (fun x:DM×LM×Int=>x.2.2) h) g
  rw[Wb g]at h
  have o:QAk m.fs (fN (n0+l.segs.length)).toList=true:=by
   cases e:QAk m.fs (fN (n0+l.segs.length)).toList with
   | true=>rfl
   | false=>exact absurd ((QXh m _).2 e) f
  have p:(QEb m (n0+l.segs.length)).2=0:=Si g
  have q:=hR.more h0 (Si f);have i:=QPG hR.inv hd o p;have t:=QYH hR.inv (n0+l.segs.length);obtain⟨c,u,G⟩:=QbL hR.inv hd o p
  have r:∀s∈l.segs++[⟨n0+l.segs.length,l.next,(QAx (QAc m (fN (n0+l.segs.length))).1).2,(QAx (QAc m (fN (n0+l.segs.length))).1).1⟩],HasF (QEb m (n0+l.segs.length)).1 s:=by
   intro s b;rcases W4.1 b with b|b
   ·refine (hf s b).touch t i fun e=>?_;obtain⟨j,hj⟩:=Oh.1 b;have H:=(Wc.1 hj).1;have:=(hR.segs j s hj).1;obtain⟨A,v⟩:=W1 (show 0<=s.n by omega);obtain⟨C,w⟩:=W1 (show 0<=n0+l.segs.length by omega);rw[v,w]at e;have:=QTY Om Om e;omega
   ·obtain rfl:=Oe.1 b;exact⟨c,u,by simp only;omega⟩
  dsimp only at h;split at h
  ·cases h;exact⟨q,i,r,t.room⟩
  ·have hl:({ l with segs:=l.segs++[⟨n0+l.segs.length,l.next,(QAx (QAc m (fN (n0+l.segs.length))).1).2,(QAx (QAc m (fN (n0+l.segs.length))).1).1⟩] }:LM).segs.length=l.segs.length+1:=by simp
   obtain⟨y,z,D,E⟩:=QNO h0 k (QEb m (n0+l.segs.length)).1 { l with segs:=l.segs++[⟨n0+l.segs.length,l.next,(QAx (QAc m (fN (n0+l.segs.length))).1).2,(QAx (QAc m (fN (n0+l.segs.length))).1).1⟩] } a d q i r (by rw[hl,show n0+((l.segs.length+1:Nat):Int)=n0+(l.segs.length:Int)+1 by omega];exact h);exact⟨y,z,D,by rw[E,t.room]⟩
theorem QI2{l:LM}:∀(d:List ByteArray) (m:DM),DInv m->Touch m (QDO l d m).1 fun k=>∃s∈l.segs,k=fK s.n
 | [],m,hI=>Touch.refl hI _
 | nm::r,m,hI=>by
  rw[QDO];split
  ·exact QI2 r m hI
  ·rename_i c
   have t:=(QDp hI nm).mono (T:=fun k=>∃s∈l.segs,k=fK s.n) fun k ⟨s,a,e⟩ b=>c (by
    unfold QTb;rw[Oz];right
    exact List.any_eq_true.2 ⟨s,a,by rw[Zq,<-e,b]⟩)
   split
   ·exact t
   ·exact t.trans (QI2 r _ t.inv)
theorem QI4{l:LM}:∀(c:List ByteArray) (m:DM),DInv m->m.down=false->(QDO l c m).2=0->(QDO l c m).1.down=false
 | [],m,_,hd,_=>hd
 | nm::r,m,hI,hd,h=>by
  rw[QDO]at h|-;split
  ·rename_i a;rw[We a]at h;exact QI4 r m hI hd h
  ·rename_i a
   rw[Wb a]at h;split
   ·rename_i he;rw[We he]at h;exact absurd h he
   ·rename_i he
    rw[Wb he]at h;refine QI4 r _ (QKX hI nm) ?_ h
    cases b:QCa m.fs nm.toList with
    | none=>rw[QMQ hI hd b]at he;simp at he
    | some f=>
     rcases QHW hI hd b with e|e
     ·rw[e.2]at he;simp at he
     ·rw[e.down,hd]
theorem Qc3(n k:Nat)(h:(Lib.decDigits n).length<=k):n<10 ^ k:=by
 induction k generalizing n with
 | zero=>
  have:=QNW n;omega
 | succ k ih=>
  by_cases h1:n<10
  ·have:10<=10 ^ (k+1):=by rw[Nat.pow_succ];have:=Nat.pow_pos (n:=k) (show 0<10 by decide);omega
   omega
  ·rw[QeM n Om,Wd,W8]at h;have:=ih (n / 10) Om;rw[Nat.pow_succ];omega
theorem Qag{m:DM}(hI:DInv m){l:LM}(h:(QD8 m).2.1=some l):Ldev (QD8 m).1 l/\(QD8 m).1.room=m.room/\m.down=false/\(QD8 m).1.down=false:=by
 have h1:¬(QAj m newN).2≠0:=fun e=>by rw[QZW e]at h;cases h
 have q:¬(QDM (QAj m newN).1).2.2≠0:=fun e=>by rw[QZp h1 e]at h;cases h
 have t0:=QH6 hI newN
 have C:m.down=false:=by
  cases o:m.down with
  | false=>rfl
  | true=>
   have I:QAJ m newN=(m,10):=by unfold QAJ;exact QGc o _ _
   have J:QAj m newN=(m,10):=by unfold QAj;rw[I];rfl
   rw[J]at h1;simp at h1
 have K:=QYm hI C (nm:=newN) (Si h1);have hb:=QNB (QAj m newN).1 (Si q);have L:=fun {m' l e} k he=>QbE (m:=m) h1 q (m':=m') (l:=l) (e:=e) k he;have M:=fun {m' l} k {w} g=>QbT (m:=m) h1 q (m':=m') (l:=l) k (w:=w) g;have N:=t0.inv;have O:=t0.room
 generalize (QAj m newN).1=j at *
 generalize (QDM j).1=n0 at *
 generalize (QDM j).2.1=f0 at *
 obtain⟨p,v⟩:=hb
 cases u:QNI 70 j n0 ⟨n0,f0,[],0⟩ with
 | mk m' r=>
 obtain⟨l',e⟩:=r;by_cases he:e=0
 ·subst he;obtain⟨d,E,x,G⟩:=QNO (n0:=n0) (f0:=f0) p.1 70 j ⟨n0,f0,[],0⟩ m' l' (ReadI.start N v) K (fun s a=>by cases a) (Si u);have P:=M u (w:=QDO l' (m'.fs.map (·.nm)) m') rfl;have t:=QI2 (l:=l') (m'.fs.map (·.nm)) m' d.inv;rw[P]at h|-;by_cases g:(QDO l' (m'.fs.map (·.nm)) m').2≠0
  ·rw[We g]at h;cases h
  ·rw[Wb g]at h|-;obtain rfl:=W3 h;have c:=d.linv p v;have W:=c.next
   have Q:l'.curN<=999999999999:=by
    by_cases a:l'.segs=[]
    ·unfold LM.curN LM.cur;rw[a];show l'.n<=_;rw[d.n];exact p.2
    ·obtain⟨z,V,z2,z3,_⟩:=QIC a;obtain⟨b,hb,_⟩:=x z z2;rw[z3]
     -- a file of that name is there, so the name is a right one
     unfold QLZ at hb;obtain⟨f,y,_⟩:=Option.map_eq_some_iff.1 hb;have D:=d.inv.names f (QJ1 y);have R:f.nm.toList=fK z.n:=QCX y;have X:=(c.segs z z2).1;obtain⟨A,H⟩:=W1 (show 0<=z.n by omega);unfold QDN at D;simp only[Wf,Wq]at D
     have hsz:f.nm.size<=16:=Om
     have S:f.nm.toList.length=f.nm.size:=by rw[ByteArray.toList_eq,Zy];rfl
     rw[R,QFi,Wd,H,QL0 Om]at S;have Y:preL.length=4:=rfl
     have T:(Lib.decDigits A).length<=12:=Om
     have:=Qc3 A 12 T;omega
   have U:(QDO l' (m'.fs.map (·.nm)) m').1.down=false:=QI4 _ _ d.inv E (Si g);refine⟨⟨t.inv,⟨c.n,c.first,c.segs,c.few,by simp only;omega,c.chain⟩,Q,fun _=>rfl,fun o s a=>(x s a).touch t o ⟨s,a,rfl⟩,n0,fun i s hi=>(d.segs i s hi).1⟩,by rw[t.room,G,O],C,U⟩
 ·rw[L u he]at h;cases h
variable {B:QBJ}{As F:List HP}
variable {B:QBJ}{As F:List HP}{α:Type}
theorem QYD(b:Nat)(p:Ac)(l:LM)(s:Sl)(cs:List CS)(to keep:Int)(P:i64 keep)(a5:s.n=cs.length)(r:LF cs l.segs)(hi:LInv l):Ct Pr 332 [.pointer (some ⟨b,0,none⟩),.I to,.I keep] .one [.I] [Blk b (QAe p l s),Ar SEG s cs] emp
  (fun t Bs=>t.1=(QCi l to keep:Int)/\Bs=[Blk b (QAe p l s),Ar SEG s cs]):=by
 refine sp1 (QIW _ _ _) fun B _=>?_;unfold QIW mf;dsimp only;have a2:=hi.few;have hl:=r.len;refine QAP (QAO (xgq ?_));obtain⟨R,S⟩:=P
 have A:(if (1:Int)>keep then (1:Int) else keep)=max keep 1:=by rw[Int.max_def];split<;>split<;>omega
 have C:max keep 1=(((max keep 1).toNat:Nat):Int):=Om
 have a3:1<=(max keep 1).toNat:=Om
 have a4:max keep 1<=9223372036854775807:=Om
 rw[A]
 generalize O:(max keep 1).toNat=M at *
 rw[C];rw[QAC _ Om Om];have D:(max keep 1).toNat=M:=O;generalize q:l.segs.take (l.segs.length - M)=L
 have G:QCi l to keep=(L.takeWhile fun s=>decide (s.next<=min to l.safe)).length:=by unfold QCi;rw[D,q]
 have m:∀k:Nat,L[k]? = if k<cs.length - M then l.segs[k]? else none:=fun k=>by
  rw[<-q,List.getElem?_take,hl]
 rw[G];refine QBa (fun n (x:Int) As'=>∃k:Nat,x=(k:Int)/\n=cs.length - k/\k<=cs.length/\k<=(L.takeWhile fun s=>decide (s.next<=min to l.safe)).length/\As'=[Blk b (QAe p l s),Ar SEG s cs]) cs.length ⟨0,rfl,rfl,Om,Om,rfl⟩ ?_;rintro n _ _ K ⟨k,rfl,rfl,T,f,rfl⟩ u;refine QAP (QAV (fun(c:Bool) As'=>(c=true->k+1<=(L.takeWhile fun s=>decide (s.next<=min to l.safe)).length/\k+1<=cs.length)/\(c=false->(L.takeWhile fun s=>decide (s.next<=min to l.safe)).length=k)/\As'=[Blk b (QAe p l s),Ar SEG s cs]) (fun Q i=>?_) ?_)
 ·refine QAB (fun h=>?_) (fun h=>?_)
  ·have H:k<cs.length - M:=Om
   obtain⟨c,hc⟩:∃c,cs[k]? = some c:=⟨_,Wa Om⟩;obtain⟨a,g⟩:∃a,l.segs[k]? = some a:=⟨_,Wa Om⟩;obtain⟨U,v,g3,g4,V⟩:=r.each k c a hc g;obtain⟨W,X,Y,Z,a0⟩:=hi.segs a (Wp g)
   have o:L[k]? = some a:=by rw[m,We H,g]
   refine QAO (xgq ?_);refine QAH (E:=SEG) (xs:=cs) (s:=s) (h1:=Om) (h:=fun _ _=>?_);refine QAN (E:=SEG) (xs:=cs) hc (h:=?_);iterate 3 (refine QAa (E:=SEG) (xs:=cs) hc (h:=?_))
   refine QAO (xgq ?_);refine QAS (QHu c.1 c.2.1 c.2.2.1 c.2.2.2) rdb ?_;rintro⟨t,_⟩ _ ⟨j,rfl⟩;simp only at j;subst j
   have J:IntKind.i64.wrap (c.2.1+(c.2.2.2.n:Int))=a.next:=by
    rw[QAC _ Om Om,v,g4];rfl
   refine QA2 (ca1 (QDK (h:=?_)));rw[J]
   have N:(decide (a.next<=if l.safe<to then l.safe else to))=decide (a.next<=min to l.safe):=by
    congr 1;rw[Int.min_def];split<;>split <;> (first|rfl|(apply propext;constructor<;>intro<;>omega))
   rw[N]
   exact i _ _ ⟨fun e=>⟨QZm f o e,Om⟩,fun e=>QVS f fun y d=>by
    rw[o]at d;obtain rfl:=W3 d
    exact e,rfl⟩
  ·refine i _ _ ⟨fun e=>(by cases e),fun _=>QVS f fun y d=>?_,rfl⟩;rw[m,Wb Om]at d;cases d
 ·rintro c _ ⟨h1,w,rfl⟩;refine xif (fun h=>?_) (fun h=>?_)
  ·obtain⟨z,a1⟩:=h1 h;rw[QAE k Om];exact u (cs.length - (k+1)) _ _ Om ⟨k+1,rfl,rfl,Om,z,rfl⟩
  ·exact QAD ⟨by rw[w h],rfl⟩
theorem QRQ(q p:Ac)(m:DM)(l:LM)(to keep:Int)(b5:i64 keep):Ct Pr 236 [.pointer q,.I to,.I keep] .one [.I] [QAQ q p l,QAA p m] GTab
  (fun t Bs=>t.1=(QC6 m l to keep).2.2/\Bs=[QAQ q p (QC6 m l to keep).2.1,QAA p (QC6 m l to keep).1]):=by
 refine sp1 (QJM _ _ _) fun B X=>?_;haveI:=QKj X;unfold QJM mf;dsimp only;refine QB6 0 (P1:=QAQ q p l) (fun g d=>d.1) fun Y=>?_;have o:=QXL Y m to keep;unfold QC6 at o|-;dsimp only at o|-;refine QZQ 0 fun hi b s cs Z y H=>?_;subst Z
 have A:∀{As:List HP}(m':DM) {G S:List HP} [q:Split [Blk b (QAe p l s),Ar SEG s cs,Each QEf cs l.segs] As G] [T:Find (QAA p m') G S] {x:Int},Ent B As (Ret B (ss:=[.I]) (fun t Bs=>t.1=x/\Bs=[QAQ (some ⟨b,0,none⟩) p l,QAA p m']) (x,())):=by
  intro As m' G S q T x;refine QAw (p:=p) (l:=l) b s cs hi ?_;exact QAK [QAQ (some ⟨b,0,none⟩) p l,QAA p m'] (QAD ⟨rfl,rfl⟩)
 refine xcl (QMz b p m l s) rdb ?_;rintro⟨t,_⟩ _ ⟨a,rfl⟩;simp only at a
 cases R:m.down with
 | true=>
  rw[R]at a;obtain rfl:t=10:=a;rw[We rfl];exact QBK (ca1 (QCC rfl (A m)))
 | false=>
 rw[R]at a;obtain rfl:t=0:=a;rw[Wb Dc];rw[R,Wb Dc]at o;refine QBK (ca1 (QBH rfl ?_));refine xcl (QYD b p l s cs to keep b5 H y hi) rdb ?_;rintro⟨t,_⟩ _ ⟨a,rfl⟩;simp only at a;subst a
 have d1:QCi l to keep<=l.segs.length - 1:=by
  unfold QCi;refine Oq (Z2 _).length_le ?_;rw[Ww];omega
 refine QBK (ca1 (xif (fun h=>?_) (fun h=>?_)))
 ·have P:QCi l to keep=0:=by have:=eq_of_beq h;omega
  rw[We P];exact A m
 have P:QCi l to keep≠0:=fun e=>by rw[e]at h;simp at h
 rw[Wb P]at o|-
 generalize d6:QCi l to keep=k at *
 have d2:=hi.few;have d3:=y.len
 have b2:k<l.segs.length:=Om
 obtain⟨u,M⟩:∃u,l.segs[k]? = some u:=⟨_,Wa b2⟩;obtain⟨c,hc⟩:∃c,cs[k]? = some c:=⟨_,Wa Om⟩;rw[M]at o|-;simp only[Uy]at o|-;obtain⟨a4,a5,g3,g4,b'⟩:=y.each k c u hc M;obtain⟨c0,c1,c2,c3,a1⟩:=hi.segs u (Wp M);refine QAO (xgq ?_);refine QAH (E:=SEG) (xs:=cs) (s:=s) (h1:=Om) (h:=fun _ _=>?_);refine QAN (E:=SEG) (xs:=cs) hc (h:=?_);iterate 3 (refine QAa (E:=SEG) (xs:=cs) hc (h:=?_))
 rw[a4,a5,g3];refine xcl (QUj b p m l s c.2.2.2 u ⟨Om,Om⟩ ⟨Om,Om⟩) rdb ?_;rintro⟨t,_⟩ _ ⟨a,rfl⟩;simp only at a;subst a;refine QBK (ca1 (xif (fun h=>?_) (fun h=>?_)))
 ·rw[We (Si h)];exact A (QVE m u).1
 have b3:¬(QVE m u).2≠0:=Si h
 rw[Wb b3]at o|-
 generalize (QVE m u).1=Q at *
 refine QCl (E:=SEG) (xs:=cs) s fun b6 b7=>?_;refine QAO (QAh (h:=QXx rfl Om Om ?_));simp only[Wh]
 have d4:(l.segs.take k).length=k:=by simp;omega
 refine QAK [Blk b (QAe p l s),Ar SEG s cs,Each QEf cs l.segs,QAA p Q] ?_;refine QBa (fun n (x:Int) As'=>∃(j:Nat) (f:DM),x=(j:Int)/\n=k - j/\j<=k/\QHD (l.segs.take k) Q=QHD ((l.segs.take k).drop j) f/\As'=[Blk b (QAe p l s),Ar SEG s cs,Each QEf cs l.segs,QAA p f]) k ⟨0,Q,rfl,rfl,Om,rfl,rfl⟩ ?_;rintro n _ _ K ⟨j,f,rfl,rfl,hj,d,rfl⟩ a6;refine QAB (fun v=>?_) (fun v=>?_)
 ·have C:j<k:=by
   have v:(j:Int)<(k:Int):=v;omega
  obtain⟨i,N⟩:∃x,l.segs[j]? = some x:=⟨_,Wa Om⟩;obtain⟨U,V⟩:∃x,cs[j]? = some x:=⟨_,Wa Om⟩;obtain⟨a7,T,c4,c5,c6⟩:=y.each j U i V N;obtain⟨c7,c8,c9,c',d0⟩:=hi.segs i (Wp N)
  have W:(cs.take k)[j]? = some U:=by rw[Ut C];exact V
  have b4:(l.segs.take k).drop j=i::(l.segs.take k).drop (j+1):=by
   rw[Ws Om]
   have:(l.segs.take k)[j]? = some i:=by rw[Ut C];exact N
   rw[Wa Om]at this;rw[W3 this]
  rw[b4,QHD]at d
  have rd:RdA B [Blk b (QAe p l s),Ar SEG s cs,Each QEf cs l.segs,QAA p f] ⟨s.p,k,s.c⟩ SEG (cs.take k):=⟨fun w a0=>by
   obtain⟨g,⟨a8,a9,_,⟨a2,a',z,_,_,t2,_⟩,_,_,O⟩,L,_⟩:=a0
   have d5:s.n<=s.c:=by obtain⟨zs,b0⟩:=z;exact b0.cap
   have:=(z.read.mono (t2.trans (O.trans L))).cut 0 k s.c Om Om Om;rw[Kk,show SEG.sz=4 from rfl,QGf]at this
   exact this⟩
  refine QAH (r:=rd) (E:=SEG) (xs:=cs.take k) (s:=⟨s.p,k,s.c⟩) (h1:=by rw[Ww];omega) (h:=fun _ _=>?_);refine QAN (r:=rd) (E:=SEG) (xs:=cs.take k) W (h:=?_);iterate 3 (refine QAa (r:=rd) (E:=SEG) (xs:=cs.take k) W (h:=?_))
  refine QAL fun a1=>?_;iterate 4 (refine xsq ?_)
  refine QAP (QAO (xgq (xgq ?_)));rw[a7];refine QUV Om Om ?_;refine QDK (h:=?_);refine xcl (QFA p f (fN i.n)) rdb ?_;rintro⟨t,_⟩ _ ⟨a,rfl⟩;simp only at a;subst a;refine QAz (ca1 (xif (fun J=>?_) (fun J=>?_)))
  ·have D:(QAJ f (fN i.n)).2≠0:=Si J
   rw[We D]at d;rw[d,We D];exact A (QAJ f (fN i.n)).1
  ·have D:¬(QAJ f (fN i.n)).2≠0:=Si J
   rw[Wb D]at d;rw[QAE j Om];exact QGO (a6 (k - (j+1)) _ _ Om ⟨j+1,(QAJ f (fN i.n)).1,rfl,rfl,Om,d,rfl⟩)
 ·have C:j=k:=by
   have v:¬(j:Int)<(k:Int):=v;omega
  subst C;rw[Zh Om,QHD]at d;rw[d,Wb (by simp)]at o|-;refine QAO (xgq ?_);refine QCl (E:=SEG) (xs:=cs) s fun b8 a3=>?_;refine QEi Om Om Om Om ?_;simp only[Wh];refine xcl (pre:=[]) (QQf (s.cut j s.n s.c 4) (cs.drop j) (by rw[Oc];omega) (by rw[Oc];omega)) (QIX fun g _ b9 H L=>?_) ?_
  ·obtain⟨a8,a9,_,⟨a2,a',z,_,_,t2,_⟩,_,_,O⟩:=H;have:=(z.read.mono (t2.trans (O.trans L))).cut j s.n s.c Om a3 Om;rw[Wn Om]at this;exact this
  rintro⟨b1,_⟩ _ rfl;refine QAz (ca1 (QAO (xsq ?_)));refine Qc1 3 (P1:=Each QEf cs l.segs) [Each QEf (cs.take j) (l.segs.take j),Each QEf (cs.drop j) (l.segs.drop j)] (fun g d=>QMS j d) (QBK ?_);refine QAw (p:=p) (l:={ l with segs:=l.segs.drop j }) b b1 (cs.drop j) o ?_;exact QAK [QAQ (some ⟨b,0,none⟩) p { l with segs:=l.segs.drop j },QAA p f] (QAD ⟨rfl,rfl⟩)
theorem QFd(a b:Sl)(xs ys:Ab)(o:xs.length<=140737488355328) :
  Ct Pr 49 [a.v,b.v] .one [.bool] [] ((RAr U8 a xs).and (RAr U8 b ys)) (fun t Bs=>t.1=decide (xs=ys)/\Bs=[]):=by
 refine sp1 (QKA _ _) fun B d=>?_;have l:Fro B a U8 xs:=⟨d.1⟩;have m:Fro B b U8 ys:=⟨d.2⟩;have g:=d.1.1;have hb:=d.2.1;unfold QKA mf;dsimp only;refine xif (fun h=>?_) (fun h=>?_)
 ·refine QAD ⟨?_,rfl⟩
  have:xs≠ys:=fun e=>by subst e;simp[<-g,<-hb]at h
  simp[this]
 ·have hl:xs.length=ys.length:=by simp at h;omega
  refine QBa (fun n i As=>∃k:Nat,i=(k:Int)/\n=xs.length - k/\k<=xs.length/\xs.take k=ys.take k/\As=[]) xs.length ⟨0,rfl,rfl,Om,rfl,rfl⟩ ?_;rintro n _ _ K ⟨k,rfl,rfl,j,he,rfl⟩ f;refine QAB (fun h=>?_) (fun h=>?_)
  ·refine QAP (QAH rfl Om fun x hx=>QAN hx rfl rfl (QAH rfl Om fun y c=>QAN c rfl rfl ?_));rw[QOE];refine xif (fun h=>?_) (fun h=>?_)
   ·refine QAD ⟨?_,rfl⟩
    have:xs≠ys:=fun e=>by subst e;rw[hx]at c;simp at c h;exact h c
    simp[this]
   ·rw[QAE k Om];refine f (xs.length - (k+1)) _ _ Om ⟨k+1,rfl,rfl,Om,?_,rfl⟩;rw[Og,Og,he,hx,c];simp at h;rw[h]
  ·refine QAD ⟨?_,rfl⟩
   have:k=xs.length:=Om
   subst this;rw[Uk,hl,Uk]at he;simp[he]
theorem QeK(p:Ac)(m:DM)(n:Int)(hn:i64 n):Ct Pr 47 [.pointer p,.I n] (.tup []) [] [QAA p m] emp (fun t Bs=>Bs=[QAA p (Qe4 m n)]):=by
 refine sp0 (QG4 _ _) fun B _=>?_;unfold QG4 mf;dsimp only;refine QbK 0 fun hi b s cs a c d=>?_;subst a;exact QAO (xsq (QAO (xsq (QCK 0 0 0 b s cs (Qe4 m n) (Qf3 hi hn) (fun _ h=>h) (QAD rfl)))))
theorem QaN(p:Ac)(m:DM)(keep:Int):Ct Pr 16 [.pointer p,.I keep] (.tup []) [] [QAA p m] emp (fun t Bs=>Bs=[QAA p (QOP m keep)]):=by
 refine sp0 (QFQ _ _) fun B _=>?_;unfold QFQ mf;dsimp only;refine QbK 0 fun hi b s cs q r J=>?_;subst q;have A:=QdV hi keep;have O:=hi.len;have C:=r.len;refine QAO (xgq ?_);refine QBa (fun n i As=>∃(k:Nat) (cs':List CF),i=(k:Int)/\n=m.fs.length - k/\k<=m.fs.length/\cs'.length=m.fs.length/\As=[Blk b (QBG m s),Ar FILE s cs',Each QCH cs' ((m.fs.map (QLi keep)).take k++m.fs.drop k)]) m.fs.length ⟨0,cs,rfl,rfl,Om,C,rfl⟩ ?_;rintro n _ _ K ⟨k,cs',rfl,rfl,L,w,rfl⟩ x;refine QAB (fun h=>?_) (fun h=>?_)
 ·refine QB6 2 (fun g u=>Qdy u) fun v=>?_
  have a:k<m.fs.length:=Om
  have d:=Wa a;have j:=hi.syn _ (U7 a)
  have D:m.fs[k].b.length<=16777216:=by
   have h1:=QBw d;have P:=hi.used;have Q:=hi.room;omega
  have o:((m.fs.map (QLi keep)).take k++m.fs.drop k)[k]? = some m.fs[k]:=by
   rw[Wr (by simp;omega)];simp[Ow (Nat.le_of_lt a),d]
  have E:((m.fs.map (QLi keep)).take k++m.fs.drop k).set k (QLi keep m.fs[k])=(m.fs.map (QLi keep)).take (k+1)++m.fs.drop (k+1):=by
   have G:((m.fs.map (QLi keep)).take k).length=k:=by simp;omega
   rw[Ws a,U5 _ _ Om,G,Ur,Ld,Og,Ol,d];simp only[U4,Option.toList_some,Wk,List.singleton_append]
  generalize m.fs[k]=f at *
  have hc:=Wa (l:=cs') (i:=k) Om;generalize cs'[k]=c at hc;obtain⟨M,y,z,N⟩:=v.each _ _ _ hc o;have R:=QRI j keep;refine QAO (xgq ?_);refine QAH (h1:=Om) (h:=fun _ _=>QAP (QAO ?_));refine QAa hc (h:=QAO ?_);refine QAa hc (h:=QAO ?_);refine QAa hc (h:=QAO ?_);rw[y,z,QfP keep j D];refine QDB (c.1,c.2.1,QJY keep f) hc (hj:=Dc) (hv:=rfl) (h:=QAP (QAO ?_));have e:(cs'.set k (c.1,c.2.1,QJY keep f))[k]? = some (c.1,c.2.1,QJY keep f):=Wy Om;refine QAa e (h:=QAO ?_);refine QAa e (h:=?_)
  (try dsimp only)
  refine QXx rfl Om Om (QAO ?_);refine QDB (c.1,⟨c.2.1.p,(QJY keep f).toNat,c.2.1.c⟩,QJY keep f) e (hj:=Dc) (hv:=rfl) (h:=?_);rw[Zc,QAE k Om];refine QAg 2 (QRB (c':=(c.1,⟨c.2.1.p,(QJY keep f).toNat,c.2.1.c⟩,QJY keep f)) (f':=QLi keep f) hc o (fun g h=>⟨h.1,rfl,Qek Om h.2.2⟩)) ?_;rw[E];exact QiE 0 (x (m.fs.length - (k+1)) _ _ Om ⟨k+1,_,rfl,rfl,Om,Si w,rfl⟩)
 ·have H:k=m.fs.length:=Om
  subst H;rw[Wn (by simp),List.drop_length,Oi];refine QAO (xsq (xsq (xsq ?_)));exact QCK 0 0 0 b s cs' (QOP m keep) A (fun _ h=>h) (QAD rfl)
theorem QJh{p:Ac}{m:DM}{g:QBs}(h:QAA p m g):∃b,p=some ⟨b,0,none⟩:=by
 obtain⟨_,b,_,_,h,_⟩:=h;exact⟨b,h⟩
def GBeh:HP:=fun h=>∃e fr,h 0=some (.cells #[.I 1099511627777,.I 0] e fr)
theorem GBeh.mono:∀g f,GBeh g->Sub g f->GBeh f:=fun _ _ ⟨e,fr,h⟩ s=>⟨e,fr,s _ _ h⟩
theorem Qbx{B:QBJ}(h:GBeh (frz B.W B.h0)):Qhj B GBeh:=⟨h,fun _ _ h s=>GBeh.mono _ _ h s⟩
theorem Qhh[f:Qhj B GBeh]{K:Int->WP}(h:Ent B As (K 1099511627777)):Ent B As (QAn (.I) ⟨0,0,none⟩ K):=by
 intro w a;obtain⟨e,fr,hb⟩:=GBeh.mono _ _ f.now a.frz;have b:w.heap[0]? = some (.cells #[.I 1099511627777,.I 0] e fr):=hb;refine⟨1099511627777,?_,h w a⟩;simp only[World.cell?,b];rfl
theorem Qhr[f:Qhj B GBeh]{K:Int->WP}(h:Ent B As (K 0)):Ent B As (QAn (.I) ⟨0,1,none⟩ K):=by
 intro w a;obtain⟨e,fr,hb⟩:=GBeh.mono _ _ f.now a.frz;have b:w.heap[0]? = some (.cells #[.I 1099511627777,.I 0] e fr):=hb;refine⟨0,?_,h w a⟩;simp only[World.cell?,b];rfl
def QCM(lo:Int)(d:List KY):XM:=d.foldl (fun X k=>if k.2>=lo then QTB X k.1 k.2 else X) xm0
abbrev QB9(m:XM)(lo:Int):XM:=QCM lo m.L
theorem QJA(lo:Int)(d:List KY)(k:KY):QCM lo (d++[k])=if k.2>=lo then QTB (QCM lo d) k.1 k.2 else QCM lo d:=by unfold QCM;rw[Uu];rfl
theorem QQ6{P:List KY->Prop}(h0:P [])(h1:∀d k,P d->P (d++[k]))(d:List KY):P d:=by
 have h:∀e:List KY,P e.reverse:=by
  intro e
  induction e with
  | nil=>exact h0
  | cons a e ih=>rw[List.reverse_cons];exact h1 _ _ ih
 have h:=h d.reverse
 rwa [List.reverse_reverse]at h
theorem Qe9{k:KY}{L:List KY}(h:∀y∈L,ltK y k=true):QKv k L=L++[k]:=by
 have c:k∉L:=fun a=>by have:=h k a;rw[QKP]at this;cases this
 unfold QKv;rw[Wb c,Ko.2 h];congr 1;rw[Z3.2 fun y b=>by rw[QHx (h y b)];decide]
theorem QOl(lo:Int)(d:List KY):(QCM lo d).L.length<=d.length:=by
 induction d using QQ6 with
 | h0=>exact Wt 0
 | h1 d k ih=>
  rw[QJA,Wd,W8];split
  ·unfold QTB
   (try simp only)
   by_cases a:(k.1,k.2)∈(QCM lo d).L
   ·rw[QIm a];omega
   ·rw[QUi a];omega
  ·omega
theorem QN9(lo:Int):∀(d:List KY),QKU d->(∀y∈d,0<=y.2)->(QCM lo d).L=d.filter (fun k=>decide (k.2>=lo))/\(∀y∈(QCM lo d).L,y.2<=(QCM lo d).last)/\(((QCM lo d).L=[]/\(QCM lo d).last = -1)\/∃y∈(QCM lo d).L,y.2=(QCM lo d).last):=by
 intro d
 induction d using QQ6 with
 | h0=>intro _ _;exact⟨rfl,(fun y a=>(by cases a)),Or.inl ⟨rfl,rfl⟩⟩
 | h1 d k ih=>
  intro i c;have h:=Of.1 i;have n:=c k (by simp);obtain⟨h1,f,g⟩:=ih h.1 (fun y a=>c y (by simp[a]));rw[QJA,Kx];by_cases b:k.2>=lo
  ·rw[We b,Za (Si b),List.filter_nil]
   have m:QKv (k.1,k.2) (QCM lo d).L=(QCM lo d).L++[k]:=Qe9 fun y a=>by
    rw[h1]at a;exact h.2.2 y (Up.1 a).1 k (by simp)
   unfold QTB
   (try simp only)
   rw[m,<-h1];refine⟨rfl,fun y a=>?_,.inr ?_⟩
   ·rcases W4.1 a with a|a
    ·have:=f y a;split<;>omega
    ·obtain rfl:=Oe.1 a;split<;>omega
   ·by_cases hl:k.2>(QCM lo d).last
    ·exact⟨k,by simp,by rw[We hl]⟩
    ·rw[Wb hl];rcases g with⟨e,j⟩|⟨y,a,l⟩
     ·rw[j]at hl;exact⟨k,by simp,Om⟩
     ·exact⟨y,by simp[a],l⟩
  ·rw[Wb b,Zx (Si b),List.filter_nil,Oi];exact⟨h1,f,g⟩
def XTime(X:XM):Prop:=∀y∈X.L,(0<=y.1/\y.1<=1099511627776)/\0<=y.2
theorem QaV{X:XM}(h:XTime X):QGz (0,0) (1099511627777,0) X.L=X.L:=by
 unfold QGz;refine Ko.2 fun y a=>?_;obtain⟨h1,b⟩:=h y a;unfold ltK;simp only[Wf,W2,O0,Uc,Oz,Wq,Wx];omega
theorem QTy(xb:Nat)(d l e:Ac)(X:XM)(a:LM)(E:XTime X)(M:X.L.length<=4000000000000):Ct Pr 330 [.pointer (some ⟨xb,0,none⟩)] (.tup []) [] [QAs (some ⟨xb,0,none⟩) d l X,QAQ l e a] GBeh
  (fun _ Bs=>Bs=[QAs (some ⟨xb,0,none⟩) d l (QB9 X a.lo),QAQ l e a]):=by
 refine Qh1 QIu fun B f=>?_;haveI:=Qbx f;unfold QDc;refine QAL fun i=>xgq ?_;refine QHi 1 fun o q hx=>?_
 obtain rfl:xb=o:=by cases hx;rfl
 refine QAO (xgq (xgq ?_));refine xcl (QPR xb d l q X.last) rdb ?_;rintro _ _ rfl;refine QAz (ca0 (Qhh (Qhr ?_)));refine QAS (QPV (to:=(1099511627777,0)) q (0,0)) rdb ?_;rintro⟨v,_⟩ _ ⟨r,tb,s,hv,rfl⟩;simp only at hv;subst hv;refine QLn (ca1 (Qjl QWt (xrf fun j D n p hn x=>?_)));show Ent B _ (QAX Pr 485 [QWI j,pv r,pv tb,pv s] (.tup []) [] _)
 let St:List KY->HP:=fun b h=>QBr [QAQ l e a,QAs (some ⟨xb,0,none⟩) d l (QCM a.lo b),Blk i [.pointer (some ⟨xb,0,none⟩)]] h
 have J:(QGz (0,0) (1099511627777,0) X.L).length<=X.L.length:=Kd _ _
 have C:YOk j n (QGz (0,0) (1099511627777,0) X.L).length St:=by
  intro b k v I;refine x _ [St b] emp (fun y=>y=[St (b++[k])]) rfl fun G _=>?_;rw[QHE];refine QAL fun c=>xsq (xsq ?_);refine Qh3 1 p (QAP (xgq ?_));refine QEZ 2 (P1:=St b) (fun Bs=>Bs=[QAQ l e a,QAs (some ⟨xb,0,none⟩) d l (QCM a.lo b),Blk i [.pointer (some ⟨xb,0,none⟩)]]) (fun g f=>⟨_,rfl,f⟩) ?_;rintro _ rfl;refine QLn (xgq (QAO ?_));refine QHi 1 fun o z hx=>?_
  obtain rfl:xb=o:=by cases hx;rfl
  refine xgq (QBk xb z d l (QCM a.lo b) ?_);refine xcl (QEl l e a) rdb ?_;rintro⟨t,_⟩ _ ⟨u,rfl⟩;simp only at u;subst u;refine QAz (ca1 (QDK (h:=?_)));have K:=QOl a.lo b;refine QBh (fun As'=>As'=[QDL j { n with state:=.busy },QAQ l e a,QAs (some ⟨xb,0,none⟩) d l (QCM a.lo (b++[k])),Blk i [.pointer (some ⟨xb,0,none⟩)]]) (fun H m=>?_) ?_
  ·rw[QJA]at m;refine QAB (fun h=>?_) (fun h=>?_)
   ·rw[We h]at m;refine xgq (xgq (xgq ?_));refine xcl (QMv (some ⟨xb,0,none⟩) d l (QCM a.lo b) k.1 k.2 Om) rdb ?_;rintro _ _ rfl;exact QAz (ca0 (QGO (m _ rfl)))
   ·rw[Wb h]at m;exact QGO (m _ rfl)
  ·rintro _ rfl;refine Qee 0 p hn ?_;refine QBO [QAQ l e a,QAs (some ⟨xb,0,none⟩) d l (QCM a.lo (b++[k])),Blk i [.pointer (some ⟨xb,0,none⟩)]] (St (b++[k])) (fun g f=>f) ?_;exact QAK [QDL j n,St (b++[k])] fun w A=>⟨_,rfl,A⟩
 refine QBO [QAQ l e a,QAs (some ⟨xb,0,none⟩) d l xm0,Blk i [.pointer (some ⟨xb,0,none⟩)]] (St []) (fun g f=>f) ?_;refine xcl (QMP j n _ St C r tb s (0,0) (1099511627777,0) q X.L [] (by simp)) rdb ?_;rintro _ _ rfl;refine Qjv (ca0 (QVr 0 p hn ?_));rw[W6,QaV E];refine QEZ 0 (P1:=St X.L) (fun Bs=>Bs=[QAQ l e a,QAs (some ⟨xb,0,none⟩) d l (QCM a.lo X.L),Blk i [.pointer (some ⟨xb,0,none⟩)]]) (fun g f=>⟨_,rfl,f⟩) ?_;rintro _ rfl;refine QLn ?_;refine QFt (P:=Qce D) 7 ?_;refine Qgh 0 ?_;exact QAK [QAs (some ⟨xb,0,none⟩) d l (QB9 X a.lo),QAQ l e a] (QAD rfl)
theorem Qj0{a b c d e:HP}{F:List HP}{φ:WP}(h:Ent B (a::b::c::d::e::F) φ):Ent B ([a,b,c,d,e]++F) φ:=h
def kb(k:KY):Ab:=be8 (Qa5 k.1)++be8 (Qa5 k.2)
theorem QMR(k:KY):(kb k).length=16:=by unfold kb;rw[Wd,QEq,QEq]
def stB(s:Ab×Ab)(k:KY):Ab×Ab:=if (s.2++kb k).length=1024 then (s.1++QAY (s.2++kb k),[]) else (s.1,s.2++kb k)
def QGk(d:List KY):Ab×Ab:=d.foldl stB ([],[])
theorem QMF(d:List KY)(k:KY):QGk (d++[k])=stB (QGk d) k:=by unfold QGk;rw[Uu];rfl
def QUo(d:List KY):Ab:=if 0<(QGk d).2.length then (QGk d).1++QAY (QGk d).2 else (QGk d).1
theorem QPq(p:Ab):(QAY p).length=6+p.length:=by
 unfold QAY hdN QgV;simp only[Wd,Wl,O8]
theorem QSz(d:List KY):(QGk d).2.length=16*(d.length % 64):=by
 induction d using QQ6 with
 | h0=>rfl
 | h1 d k ih=>
  rw[QMF,Wd,W8];unfold stB;rw[Wd,QMR,ih];split
  ·simp only[O8];omega
  ·rw[Wd,QMR,ih];omega
theorem QXO(d:List KY):(QGk d).1.length+(QGk d).2.length<=22*d.length:=by
 induction d using QQ6 with
 | h0=>exact Wt 0
 | h1 d k ih=>
  rw[QMF,Wd,W8];unfold stB;split
  ·simp only[Wd,QPq,QMR,O8];omega
  ·simp only[Wd,QMR];omega
theorem QOf(d e:Nat)(g i:Sl)(b f:Ab)(j:b.length<=1024)(k:f.length<=100000000000000):Ct Pr 426 [.pointer (some ⟨d,0,none⟩),.pointer (some ⟨e,0,none⟩)] (.tup []) []
  [Blk d [g.v],Ar U8 g b,Blk e [i.v],Ar U8 i f] emp (fun _ Bs=>∃a:Sl,Bs=[Blk d [.slice none 0 0],Blk e [a.v],Ar U8 a (f++QAY b)]):=by
 refine sp0 (QFC _ _) fun B _=>?_;unfold QFC mf;dsimp only;refine xgq ?_;refine xcl (QDD g b j) rdb ?_;rintro⟨t,c,_⟩ _ ⟨h,rfl⟩;simp only at h;subst h;refine QAz (ca2 ?_);refine xgq ?_;refine QHU (E:=U8) (hb:=by rw[QPq];omega) (h:=fun a=>?_);refine xsq (xsq ?_);exact QAK [Blk d [.slice none 0 0],Blk e [a.v],Ar U8 a (f++QAY b)] (QAD ⟨a,rfl⟩)
theorem QVo:QBN Pr 426=true:=Kr
theorem QUP(x d l:Ac)(X:XM)(S:XTime X)(W:X.L.length<=4000000000000):Ct Pr 331 [.pointer x] .one [.slice] [QAs x d l X] GBeh (fun t Bs=>Bs=[QAs x d l X,Ar U8 t.1 (QUo X.L)]):=by
 refine QG9 QJG fun B y=>?_;haveI:=Qbx y;unfold QDg;refine QAL fun i=>QAL fun j=>QAL fun m=>xsq (QAP ?_);refine QHi 3 fun xb q hx=>?_;subst hx;refine QAO (xgq ?_);refine Qhh (Qhr ?_);refine QAS (QPV (to:=(1099511627777,0)) q (0,0)) rdb ?_;rintro⟨v,_⟩ _ ⟨G,tb,H,hv,rfl⟩;simp only at hv;subst hv;refine QLn (ca1 (Qjl QWt (xrf fun n D s z hn J=>?_)));show Ent B _ (QAX Pr 485 [QWI n,pv G,pv tb,pv H] (.tup []) [] _)
 let r:Value:=.func (.func 426) #[] #[.pointer (some ⟨j,0,none⟩),.pointer (some ⟨i,0,none⟩)]
 let St:List KY->HP:=fun a h=>∃f b:Sl,QBr [Blk m [r],Blk j [f.v],Ar U8 f (QGk a).2,Blk i [b.v],Ar U8 b (QGk a).1] h
 have I:∀(a:List KY) g,St a g->∃Bs,(∃f b:Sl,Bs=[Blk m [r],Blk j [f.v],Ar U8 f (QGk a).2,Blk i [b.v],Ar U8 b (QGk a).1])/\QBr Bs g:=fun a g ⟨f,b,K⟩=>⟨_,⟨f,b,rfl⟩,K⟩;have V:(QGz (0,0) (1099511627777,0) X.L).length<=X.L.length:=Kd _ _
 have P:YOk n s (QGz (0,0) (1099511627777,0) X.L).length St:=by
  intro a k v U;refine J _ [St a] emp (fun M=>M=[St (a++[k])]) rfl fun T _=>?_;rw[QG6];refine QAL fun c=>xsq (xsq ?_);refine Qh3 1 z ?_;refine QEZ 2 (P1:=St a) _ (I a) ?_;rintro _ ⟨f,b,rfl⟩;have Q:=QSz a;have R:=QXO a;refine Qj0 (xgq (xgq ?_));rw[(QQP k.1).2];refine xcl (QDx f (QGk a).2 (Qa5 k.1) (QQP k.1).1 Om) rdb ?_;rintro⟨t,e,_⟩ _ ⟨h,rfl⟩;simp only at h;subst h;refine QAz (ca2 (xsq (xgq (xgq ?_))));rw[(QQP k.2).2];refine xcl (QDx t ((QGk a).2++be8 (Qa5 k.1)) (Qa5 k.2) (QQP k.2).1 (by rw[Wd,QEq];omega)) rdb ?_;rintro⟨t2,e,_⟩ _ ⟨h,rfl⟩;simp only at h;subst h;refine QAz (ca2 (xsq (xgq ?_)));rw[show (QGk a).2++be8 (Qa5 k.1)++be8 (Qa5 k.2)=(QGk a).2++kb k from Wk _ _ _];refine QCl (E:=U8) (xs:=(QGk a).2++kb k) t2 fun C _=>?_;rw[Wd,QMR]at C;refine QAK [QDL n { s with state:=.busy },Blk m [r],Blk j [t2.v],Ar U8 t2 ((QGk a).2++kb k),Blk i [b.v],Ar U8 b (QGk a).1] ?_;refine QBh (fun As'=>∃f b:Sl,As'=[QDL n { s with state:=.busy },Blk m [r],Blk j [f.v],Ar U8 f (QGk (a++[k])).2,Blk i [b.v],Ar U8 b (QGk (a++[k])).1]) (fun N o=>?_) ?_
  ·have u:QGk (a++[k])=stB (QGk a) k:=QMF a k;unfold stB at u;rw[Wd,QMR]at u;refine xif (fun h=>?_) (fun h=>?_)
   ·have A:(QGk a).2.length+16=1024:=by simp at h;omega
    rw[We A]at u;refine xgq (QjZ QVo ?_);refine xcl (QOf j i t2 b ((QGk a).2++kb k) (QGk a).1 (by rw[Wd,QMR];omega) Om) rdb ?_;rintro _ _ ⟨p,rfl⟩;refine QLn (ca0 (QAf U8 ?_));rw[u]at o;exact QAK [QDL n { s with state:=.busy },Blk m [r],Blk j [.slice none 0 0],Ar U8 ⟨none,0,0⟩ [],Blk i [p.v],Ar U8 p ((QGk a).1++QAY ((QGk a).2++kb k))] (o _ ⟨⟨none,0,0⟩,p,rfl⟩)
   ·have A:¬(QGk a).2.length+16=1024:=by simp at h;omega
    rw[Wb A]at u;rw[u]at o;exact o _ ⟨t2,b,rfl⟩
  ·rintro _ ⟨f,b,rfl⟩;refine Qee 0 z hn ?_;refine QBO [Blk m [r],Blk j [f.v],Ar U8 f (QGk (a++[k])).2,Blk i [b.v],Ar U8 b (QGk (a++[k])).1] (St (a++[k])) (fun g y=>⟨f,b,y⟩) ?_;exact QAK [QDL n s,St (a++[k])] fun w O=>⟨_,rfl,O⟩
 refine QAf U8 (QAf U8 ?_);refine QBO [Blk m [r],Blk j [.slice none 0 0],Ar U8 ⟨none,0,0⟩ [],Blk i [.slice none 0 0],Ar U8 ⟨none,0,0⟩ []] (St []) (fun g y=>⟨⟨none,0,0⟩,⟨none,0,0⟩,y⟩) ?_;refine xcl (QMP n s _ St P G tb H (0,0) (1099511627777,0) q X.L [] (by simp)) rdb ?_;rintro _ _ rfl;refine Qjv (ca0 (QVr 0 z hn ?_));rw[W6,QaV S];refine QEZ 0 (P1:=St X.L) _ (I _) ?_;rintro _ ⟨f,b,rfl⟩;have Q:=QSz X.L;have R:=QXO X.L;refine Qj0 (xgq ?_);refine QCl (E:=U8) (xs:=(QGk X.L).2) f fun C _=>?_;refine QBk xb q d l X ?_;refine QBh (fun As'=>∃b:Sl,As'=[Qce D,Blk i [b.v],Ar U8 b (QUo X.L),QAs (some ⟨xb,0,none⟩) d l X]) (fun N o=>?_) ?_
 ·refine QAB (fun h=>?_) (fun h=>?_)
  ·refine xgq (QjZ QVo ?_);refine xcl (QOf j i f b (QGk X.L).2 (QGk X.L).1 Om Om) rdb ?_;rintro _ _ ⟨p,rfl⟩;refine QLn (ca0 ?_)
   have e:QUo X.L=(QGk X.L).1++QAY (QGk X.L).2:=by unfold QUo;rw[We Om]
   rw[<-e];exact QAK [Qce D,Blk i [p.v],Ar U8 p (QUo X.L),QAs (some ⟨xb,0,none⟩) d l X] (o _ ⟨p,rfl⟩)
  ·have e:QUo X.L=(QGk X.L).1:=by unfold QUo;rw[Wb Om]
   rw[<-e];exact QAK [Qce D,Blk i [b.v],Ar U8 b (QUo X.L),QAs (some ⟨xb,0,none⟩) d l X] (o _ ⟨b,rfl⟩)
 ·rintro _ ⟨b,rfl⟩;refine xgq ?_;refine Qgh 0 ?_;exact QAK [QAs (some ⟨xb,0,none⟩) d l X,Ar U8 b (QUo X.L)] (QAD rfl)
abbrev idxN:ByteArray:=⟨#[105,100,120]⟩
def QYL(m:DM)(b:Ab):DM×Int:=
 if (QAF m idxNew b).2≠0 then QAF m idxNew b
 else if (QA0 (QAF m idxNew b).1 idxNew).2≠0 then QA0 (QAF m idxNew b).1 idxNew
 else QBp (QA0 (QAF m idxNew b).1 idxNew).1 idxNew idxN
def saveM(m:DM)(lo:Int)(X:XM):DM×XM×Int:=
 if m.down=true then (m,X,10) else
 if (QAj m idxNew).2≠0 then ((QAj m idxNew).1,QB9 X lo,10) else
 ((QYL (QAj m idxNew).1 (QUo (QB9 X lo).L)).1,QB9 X lo,(QYL (QAj m idxNew).1 (QUo (QB9 X lo).L)).2)
theorem XTime.pruneG{X:XM}(h:XTime X)(b:QKU X.L)(lo:Int):XTime (QB9 X lo):=by
 intro y a;rw[(QN9 lo X.L b (fun y a=>(h y a).2)).1]at a;exact h y (Up.1 a).1
theorem Qi7{p:Ac}{m:DM}{h:QBs}(c:QAA p m h):∃b,p=some ⟨b,0,none⟩:=by
 obtain⟨_,b,_,_,a,_⟩:=c;exact⟨b,a⟩
theorem QVF(xb:Nat)(d l:Ac)(m:DM)(a:LM)(X:XM)(r:XTime X)(w:QKU X.L)(s:X.L.length<=4000000000000):Ct Pr 235 [.pointer (some ⟨xb,0,none⟩)] .one [.I] [QAs (some ⟨xb,0,none⟩) d l X,QAA d m,QAQ l d a] GBeh
  (fun t Bs=>t.1=(saveM m a.lo X).2.2/\Bs=[QAs (some ⟨xb,0,none⟩) d l (saveM m a.lo X).2.1,QAA d (saveM m a.lo X).1,QAQ l d a]):=by
 refine sp1 (QGt _) fun B o=>?_;haveI:=Qbx o;unfold QGt mf;dsimp only;have u:(QB9 X a.lo).L.length<=4000000000000:=Oq (QOl a.lo X.L) s;refine QB6 1 (P1:=QAA d m) (fun g o=>Qi7 o) fun ⟨b,n⟩=>?_;subst n;refine QHi 0 fun j q hx=>?_
 obtain rfl:xb=j:=by cases hx;rfl
 refine QAO (xgq (QAO ?_));refine QBk xb q (some ⟨b,0,none⟩) l X ?_;refine xcl (QJW (some ⟨b,0,none⟩) m) rdb ?_;rintro⟨t,_⟩ _ ⟨i,rfl⟩;simp only at i;subst i;refine QAz (ca1 (xif (fun n=>?_) (fun n=>?_)))
 ·have e:saveM m a.lo X=(m,X,10):=by unfold saveM;rw[We n]
  rw[e];exact QAK [QAs (some ⟨xb,0,none⟩) (some ⟨b,0,none⟩) l X,QAA (some ⟨b,0,none⟩) m,QAQ l (some ⟨b,0,none⟩) a] (QAD ⟨rfl,rfl⟩)
 have p:¬m.down=true:=by rw[n];decide
 refine xcl (QTy xb (some ⟨b,0,none⟩) l (some ⟨b,0,none⟩) X a r s) rdb ?_;rintro _ _ rfl;refine QBK (ca0 ?_);refine QHi 0 fun j q hx=>?_
 obtain rfl:xb=j:=by cases hx;rfl
 refine QAO (xgq ?_);refine QBk xb q (some ⟨b,0,none⟩) l (QB9 X a.lo) ?_;refine xcl (QPv (some ⟨b,0,none⟩) m idxNew) rdb ?_;rintro⟨t,_⟩ _ ⟨i,rfl⟩;simp only at i;subst i;refine QAz (ca1 (xif (fun h=>?_) (fun h=>?_)))
 ·have k:(QAj m idxNew).2≠0:=Si h
  have e:saveM m a.lo X=((QAj m idxNew).1,QB9 X a.lo,10):=by unfold saveM;rw[Wb p,We k]
  rw[e,Qap k];exact QAK [QAs (some ⟨xb,0,none⟩) (some ⟨b,0,none⟩) l (QB9 X a.lo),QAA (some ⟨b,0,none⟩) (QAj m idxNew).1,QAQ l (some ⟨b,0,none⟩) a] (QAD ⟨rfl,rfl⟩)
 have h0:¬(QAj m idxNew).2≠0:=Si h
 have e:saveM m a.lo X=((QYL (QAj m idxNew).1 (QUo (QB9 X a.lo).L)).1,QB9 X a.lo,(QYL (QAj m idxNew).1 (QUo (QB9 X a.lo).L)).2):=by unfold saveM;rw[Wb p,Wb h0]
 rw[e];generalize (QAj m idxNew).1=c;refine QAP ?_;refine QHi 1 fun j q hx=>?_
 obtain rfl:xb=j:=by cases hx;rfl
 refine QAO (xgq ?_);refine QBk xb q (some ⟨b,0,none⟩) l (QB9 X a.lo) ?_;refine xcl (QUP (some ⟨xb,0,none⟩) (some ⟨b,0,none⟩) l (QB9 X a.lo) (r.pruneG w a.lo) u) rdb ?_;rintro⟨t,_⟩ _ rfl;refine QBK (ca1 ?_);refine QHi 0 fun j q hx=>?_
 obtain rfl:xb=j:=by cases hx;rfl
 refine QDK (h:=?_);refine QBk xb q (some ⟨b,0,none⟩) l (QB9 X a.lo) ?_;generalize hb:QUo (QB9 X a.lo).L=f;refine xcl (QE3 (some ⟨b,0,none⟩) c idxNew t f) rdb ?_;rintro⟨t2,_⟩ _ ⟨i,rfl⟩;simp only at i;subst i;refine QAz (ca1 (xif (fun h=>?_) (fun h=>?_)))
 ·have k:(QAF c idxNew f).2≠0:=Si h
  have e:QYL c f=QAF c idxNew f:=by unfold QYL;rw[We k]
  rw[e];exact QAK [QAs (some ⟨xb,0,none⟩) (some ⟨b,0,none⟩) l (QB9 X a.lo),QAA (some ⟨b,0,none⟩) (QAF c idxNew f).1,QAQ l (some ⟨b,0,none⟩) a] (QAD ⟨rfl,rfl⟩)
 have h1:¬(QAF c idxNew f).2≠0:=Si h
 refine QHi 1 fun j q hx=>?_
 obtain rfl:xb=j:=by cases hx;rfl
 refine QAO (xgq ?_);refine QBk xb q (some ⟨b,0,none⟩) l (QB9 X a.lo) ?_;refine xcl (QE0 (some ⟨b,0,none⟩) (QAF c idxNew f).1 idxNew) rdb ?_;rintro⟨t2,_⟩ _ ⟨i,rfl⟩;simp only at i;subst i;refine QAz (ca1 (xif (fun h=>?_) (fun h=>?_)))
 ·have k:(QA0 (QAF c idxNew f).1 idxNew).2≠0:=Si h
  have e:QYL c f=QA0 (QAF c idxNew f).1 idxNew:=by unfold QYL;rw[Wb h1,We k]
  rw[e];exact QAK [QAs (some ⟨xb,0,none⟩) (some ⟨b,0,none⟩) l (QB9 X a.lo),QAA (some ⟨b,0,none⟩) (QA0 (QAF c idxNew f).1 idxNew).1,QAQ l (some ⟨b,0,none⟩) a] (QAD ⟨rfl,rfl⟩)
 have v:¬(QA0 (QAF c idxNew f).1 idxNew).2≠0:=Si h
 have e:QYL c f=QBp (QA0 (QAF c idxNew f).1 idxNew).1 idxNew idxN:=by unfold QYL;rw[Wb h1,Wb v]
 rw[e];refine QHi 1 fun j q hx=>?_
 obtain rfl:xb=j:=by cases hx;rfl
 refine QAO (xgq ?_);refine QBk xb q (some ⟨b,0,none⟩) l (QB9 X a.lo) ?_;refine xcl (QIo (some ⟨b,0,none⟩) (QA0 (QAF c idxNew f).1 idxNew).1 idxNew idxN) rdb ?_;rintro⟨t2,_⟩ _ ⟨i,rfl⟩;simp only at i;subst i;refine QAz (ca1 ?_);exact QAK [QAs (some ⟨xb,0,none⟩) (some ⟨b,0,none⟩) l (QB9 X a.lo),QAA (some ⟨b,0,none⟩) (QBp (QA0 (QAF c idxNew f).1 idxNew).1 idxNew idxN).1,QAQ l (some ⟨b,0,none⟩) a] (QAD ⟨rfl,rfl⟩)
theorem QTm(n:Int):fK n≠idxNew.toList:=by
 rw[QFi];show preL++_≠(BA [105,100,120,46,110,101,119]).toList;rw[QCq];intro h;have:=Uh (fun l=>l[0]?) h;simp[preL]at this
theorem Qg2(n:Int):fK n≠idxN.toList:=by
 rw[QFi];show preL++_≠(BA [105,100,120]).toList;rw[QCq];intro h;have:=Uh (fun l=>l[0]?) h;simp[preL]at this
theorem QXs{m:DM}(hI:DInv m)(b:Ab):Touch m (QYL m b).1 fun k=>k≠idxNew.toList/\k≠idxN.toList:=by
 have a:=(QDl hI idxNew b).mono (T:=fun k=>k≠idxNew.toList/\k≠idxN.toList) fun k h=>h.1;unfold QYL;split
 ·exact a
 have t2:=a.trans ((QCF a.inv idxNew).mono (T:=fun k=>k≠idxNew.toList/\k≠idxN.toList) fun k h=>trivial);split
 ·exact t2
 exact t2.trans (QHo t2.inv idxNew idxN)
theorem QYO{m:DM}(hI:DInv m)(lo:Int)(X:XM):Touch m (saveM m lo X).1 fun k=>k≠idxNew.toList/\k≠idxN.toList:=by
 unfold saveM;split
 ·exact Touch.refl hI _
 have t:=(QH6 hI idxNew).mono (T:=fun k=>k≠idxNew.toList/\k≠idxN.toList) fun k h=>h.1;split
 ·exact t
 exact t.trans (QXs t.inv _)
theorem Ldev.save{m:DM}{l:LM}(h:Ldev m l)(lo:Int)(X:XM):Ldev (saveM m lo X).1 l:=h.touch (QYO h.inv lo X) fun s _=>⟨QTm s.n,Qg2 s.n⟩
theorem QZi{k y:KY}{l:List KY}(h:y∈QKv k l):y=k\/y∈l:=by
 unfold QKv at h;split at h
 ·exact .inr h
 ·simp only[W4,W7,Up]at h;rcases h with h|h|h
  ·exact .inr h.1
  ·exact .inl h
  ·exact .inr h.1
theorem XTime.put{X:XM}(h:XTime X){t n:Int}(h1:0<=t/\t<=1099511627776)(b:0<=n):XTime (QTB X t n):=by
 intro y a;rcases QZi a with rfl|a
 ·exact⟨h1,b⟩
 ·exact h y a
theorem Qam{r:RE}(h:QCL r=0):0<=r.time/\r.time<=1099511627776:=by
 unfold QCL at h;split at h
 ·cases h
 split at h
 ·cases h
 split at h
 ·cases h
 rename_i a
 have:QA4 r.time 0 1099511627776=true:=Si a
 unfold QA4 at this;simp only[Wf,Wq]at this;omega
end Go.Cx
