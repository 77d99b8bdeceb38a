/-
What a log tells: kept by Sync, Append and Trim.
-/
import Derived.Test.YthbhbkjkclhkgaaGreatDoorMX
import Derived.Test.YthbhbkjkclhkgaaGreatDoorBA
import Derived.Test.YthbhbkjkclhkgaaGreatDoorGK
set_option linter.unusedVariables false
set_option maxRecDepth 100000
set_option synthInstance.maxSize 8000
set_option synthInstance.maxHeartbeats 400000
open Go Go.Cf
variable {B:QBJ}{As F:List HP}
namespace Go.Cx
abbrev Chn(L:List Sg):Prop:=∀(k:Nat) s s',L[k]? = some s->L[k+1]? = some s'->s'.first=s.next
theorem Chn.tail{a:Sg}{r:List Sg}(h:Chn (a::r)):Chn r:=fun k s b h1 c=>h (k+1) s b (Si h1) (Si c)
theorem Sg.mono(s:Sg):s.first<=s.next:=by unfold Sg.next;omega
theorem QL4:∀{L:List Sg}(h:Chn L) {i j:Nat}{s t:Sg},i<j->L[i]? = some s->L[j]? = some t->s.next<=t.first:=by
 intro L h i j s t f c b
 induction j generalizing t with
 | zero=>omega
 | succ j ih=>
  have hj:=(Wc.1 b).1;have a:L[j]? = some L[j]:=Wa Om;have e:=h j _ t a b;by_cases d:i=j
  ·subst d;rw[c]at a;cases a;omega
  ·have:=ih Om a;have:=L[j].mono;omega
structure AtS(L:List Sg)(n:Int)(k:Nat)(s:Sg):Prop where
 at_:L[k]? = some s
 lo:s.first<=n
 hi:n<s.next
 ahead:∀(j:Nat) t,j<k->L[j]? = some t->t.next<=n
theorem QhI:∀{L:List Sg}(h:Chn L) {n:Int},(∀a,L.head? = some a->a.first<=n)->(∃z,L.getLast? = some z/\n<z.next)->∃k s,AtS L n k s
 | [],_,n,h1,d=>by obtain⟨z,c,_⟩:=d;cases c
 | a::r,h,n,h1,d=>by
  have h1:=h1 a rfl;by_cases hn:n<a.next
  ·exact⟨0,a,rfl,h1,hn,fun j t hj=>absurd hj (Nat.not_lt_zero j)⟩
  obtain⟨z,c,d⟩:=d
  cases r with
  | nil=>simp at c;subst c;omega
  | cons b r'=>
   have hb:b.first=a.next:=h 0 a b rfl rfl
   obtain⟨k,s,q⟩:=QhI h.tail (n:=n) (fun x hx=>by cases hx;omega) ⟨z,by rw[List.getLast?_cons_cons]at c;exact c,d⟩;refine⟨k+1,s,Si q.at_,q.lo,q.hi,fun j t hj e=>?_⟩
   cases j with
   | zero=>simp at e;subst e;omega
   | succ j=>exact q.ahead j t Om (Si e)
theorem AtS.get{l:LM}{n:Int}{k:Nat}{s:Sg}(h:AtS l.segs n k s)(b:l.lo<=n):QCc l n=((s.ps[(n - s.first).toNat]?).getD [],0):=by
 unfold QCc;rw[Wb Om]
 have e:l.segs.find? (fun s=>decide (n<s.next))=some s:=by
  rw[List.find?_eq_some_iff_getElem];obtain⟨a,e⟩:=Wc.1 h.at_;refine⟨Si h.hi,k,a,e,fun j hj=>?_⟩;have:=h.ahead j _ hj (Wa Om);simp;omega
 rw[e]
theorem LM.at_{l:LM}(h:Chn l.segs){n:Int}(h1:l.lo<=n)(b:n<l.next):∃k s,AtS l.segs n k s:=by
 unfold LM.lo at h1;unfold LM.next LM.cur at b;refine QhI h (fun a c=>?_) ?_
 ·cases e:l.segs<;>rw[e]at h1 c<;>cases c;exact h1
 ·cases e:l.segs.getLast? with
  | some z=>rw[e]at b;exact⟨z,rfl,b⟩
  | none=>
   rw[e]at b;rw[Kj.1 e]at h1;simp only at h1 b;omega
theorem Qgc{l:LM}(h:Chn l.segs){n:Int}(h1:l.lo<=n)(a:n<l.next):(QCc l n).2=0:=by
 obtain⟨k,s,q⟩:=l.at_ h h1 a;rw[q.get h1]
theorem AtS.pay{L:List Sg}{n:Int}{k:Nat}{s:Sg}(h:AtS L n k s):(n - s.first).toNat<s.ps.length:=by
 have h1:=h.lo;have a:=h.hi;unfold Sg.next at a;omega
theorem Qaa(r:List Sg)(s:Sg)(p:Ab):QVv (r++[s]) p=r++[{ s with size:=s.size+(QAY p).length,ps:=s.ps++[p] }]:=by
 unfold QVv;simp
structure Qju(l:LM)(p:Ab)(l':LM):Prop where
 chain:Chn l'.segs
 next:l'.next=l.next+1
 lo:l'.lo=l.lo
 last:QCc l' l.next=(p,0)
 old:∀n,l.lo<=n->n<l.next->QCc l' n=QCc l n
theorem QW3{l l':LM}{p:Ab}{r:List Sg}{s:Sg}(P:l'.first=l.first)(L:Chn (r++[s]))(c:l.segs=r++[s]\/(l.segs=r/\s.first=l.next/\s.ps=[]))(h:l'.segs=QVv (r++[s]) p):Qju l p l':=by
 rw[Qaa]at h;generalize K:({ s with size:=s.size+(QAY p).length,ps:=s.ps++[p] }:Sg)=o at h
 have g:o.first=s.first:=by rw[<-K]
 have D:o.ps=s.ps++[p]:=by rw[<-K]
 have H:o.next=s.next+1:=by unfold Sg.next;rw[g,D];simp;omega
 have x:l'.segs.length=r.length+1:=by rw[h];simp
 have v:∀j,j<r.length->l'.segs[j]? = r[j]?:=fun j hj=>by rw[h,Wj hj]
 have i:l'.segs[r.length]? = some o:=by rw[h];simp
 have y:Chn l'.segs:=by
  intro k a b h1 f;have E:=(Wc.1 f).1;rw[x]at E;rw[v k Om]at h1
  have I:(r++[s])[k]? = some a:=by rw[Wj Om];exact h1
  by_cases d:k+1<r.length
  ·rw[v _ d]at f;exact L k a b I (by rw[Wj d];exact f)
  ·have d:k+1=r.length:=Om
   rw[d,i]at f;cases f;rw[g];exact L k a s I (by rw[d];simp)
 have z:l.next=s.next:=by
  rcases c with c|⟨c,f,C⟩
  ·unfold LM.next LM.cur;rw[c];simp
  ·unfold Sg.next;rw[C,<-f];simp
 have J:l'.next=o.next:=by unfold LM.next LM.cur;rw[h];simp
 have G:l'.lo=l.lo:=by
  unfold LM.lo;rw[h,P]
  cases r with
  | nil=>
   rcases c with c|⟨c,f,C⟩
   ·rw[c];exact g
   ·rw[c];simp only[W6];rw[g,f];unfold LM.next LM.cur;rw[c];rfl
  | cons a r'=>
   rcases c with c|⟨c,_,_⟩<;>rw[c] <;> rfl
 have N:∀n,l.lo<=n->n<l.next->QCc l' n=QCc l n:=by
  intro n w Q;obtain⟨k,t,q⟩:=l'.at_ y (by rw[G];exact w) (by rw[J,H,<-z];omega);rw[q.get (by rw[G];exact w)];have E:=(Wc.1 q.at_).1;rw[x]at E;by_cases d:k<r.length
  ·have A:AtS l.segs n k t:=by
    refine⟨?_,q.lo,q.hi,fun j u hj m=>q.ahead j u hj ?_⟩
    ·have:=q.at_;rw[v k d]at this;rcases c with c|⟨c,_,_⟩<;>rw[c]
     ·rw[Wj d];exact this
     ·exact this
    ·rw[v j Om];rcases c with c|⟨c,_,_⟩<;>rw[c]at m
     ·rw[Wj Om]at m;exact m
     ·exact m
   rw[A.get w]
  ·have d:k=r.length:=Om
   subst d;have:=q.at_;rw[i]at this;cases this;have hl:=q.lo;rw[g]at hl;rcases c with c|⟨c,f,C⟩
   ·have A:AtS l.segs n r.length s:=by
     refine⟨by rw[c];simp,hl,Om,fun j u hj m=>q.ahead j u hj ?_⟩;rw[v j hj];rw[c,Wj hj]at m;exact m
    rw[A.get w,g,D,Wj A.pay]
   ·omega
 refine⟨y,by rw[J,H,z],G,?_,N⟩
 have q:AtS l'.segs l.next r.length o:=by
  refine⟨i,?_,Om,fun j t hj M=>?_⟩
  ·rw[g,z];exact s.mono
  ·have:=QL4 y hj M i;rw[g]at this;have:=s.mono;omega
 have hl:l'.lo<=l.next:=by
  cases e:l'.segs with
  | nil=>rw[e]at x;simp at x
  | cons a t=>
   have O:l'.lo=a.first:=by unfold LM.lo;rw[e]
   rw[O];by_cases d:r.length=0
   ·rw[d,e]at i;simp at i;subst i;exact q.lo
   ·have h0:l'.segs[0]? = some a:=by rw[e];rfl
    have:=QL4 y Om h0 i;have:=a.mono;have:=q.lo;omega
 rw[q.get hl,g,D]
 have:(l.next - s.first).toNat=s.ps.length:=by rw[z];unfold Sg.next;omega
 rw[this];simp
theorem QSQ(m:DM)(l:LM):(QBP m l).2.1.segs=l.segs/\(QBP m l).2.1.first=l.first/\(QBP m l).2.1.n=l.n/\((QBP m l).2.1.safe=l.safe\/(QBP m l).2.1.safe=l.next):=by
 unfold QBP;split
 ·exact⟨rfl,rfl,rfl,.inl rfl⟩
 split
 ·exact⟨rfl,rfl,rfl,.inl rfl⟩
 (try simp only)
 split
 ·exact⟨rfl,rfl,rfl,.inl rfl⟩
 ·exact⟨rfl,rfl,rfl,.inr rfl⟩
theorem QW4{l l':LM}(h:l'.segs=l.segs)(b:l'.first=l.first):l'.next=l.next/\l'.lo=l.lo/\∀n,QCc l' n=QCc l n:=by
 have h1:l'.next=l.next:=by unfold LM.next LM.cur;rw[h,b]
 have a:l'.lo=l.lo:=by unfold LM.lo;rw[h,b]
 exact⟨h1,a,fun n=>by unfold QCc;rw[a,h]⟩
structure QcJ(l l':LM):Prop where
 chain:Chn l'.segs
 next:l.next<=l'.next
 lo:l'.lo=l.lo
 safe:l'.safe=l.safe\/l'.safe=l.next
 old:∀n,l.lo<=n->n<l.next->QCc l' n=QCc l n
theorem QXX{m:DM}{l:LM}(hc:Chn l.segs)(p:Ab):QcJ l (QAy m l p).2.1/\((QAy m l p).2.2.2≠0->(QAy m l p).2.1.next=l.next)/\((QAy m l p).2.2.2=0->(QAy m l p).2.1.next=l.next+1/\QCc (QAy m l p).2.1 l.next=(p,0)):=by
 have b:∀{x:DM×LM×Int×Int},x.2.1.segs=l.segs->x.2.1.first=l.first->(x.2.1.safe=l.safe\/x.2.1.safe=l.next)->x.2.2.2≠0->QcJ l x.2.1/\(x.2.2.2≠0->x.2.1.next=l.next)/\(x.2.2.2=0->x.2.1.next=l.next+1/\QCc x.2.1 l.next=(p,0)):=by
  intro x h1 g i j;have:=QW4 h1 g;exact⟨⟨by rw[h1];exact hc,Om,this.2.1,i,fun n _ _=>this.2.2 n⟩,fun _=>this.1,fun e=>absurd e j⟩
 unfold QAy;split
 ·exact b rfl rfl (.inl rfl) (show (10:Int)≠0 by decide)
 split
 ·exact b rfl rfl (.inl rfl) (show (2:Int)≠0 by decide)
 split
 ·exact b rfl rfl (.inl rfl) (show (12:Int)≠0 by decide)
 (try simp only)
 generalize k:(if l.full=true then QBP m l else (m,l,0))=y
 have a:y.2.1.segs=l.segs/\y.2.1.first=l.first/\(y.2.1.safe=l.safe\/y.2.1.safe=l.next):=by
  rw[<-k];split
  ·have:=QSQ m l;exact⟨this.1,this.2.1,this.2.2.2⟩
  ·exact⟨rfl,rfl,.inl rfl⟩
 generalize (if l.full=true then l.curN+1 else l.curN)=o;split
 ·rename_i h;exact b a.1 a.2.1 a.2.2 h
 split
 ·rename_i h;exact b a.1 a.2.1 a.2.2 h
 generalize c:(if l.segs=[]\/l.full=true then l.segs++[⟨o,l.next,0,[]⟩] else l.segs)=ss
 have key:Qju l p { y.2.1 with segs:=QVv ss p }:=by
  by_cases d:l.segs=[]\/l.full=true
  ·rw[We d]at c;rw[<-c];exact QW3 (r:=l.segs) a.2.1 (QKs hc rfl) (.inr ⟨rfl,rfl,rfl⟩) rfl
  ·rw[Wb d]at c;rw[<-c];have f:l.segs≠[]:=fun e=>d (.inl e);have e:=K4 f;refine QW3 (r:=l.segs.dropLast) (s:=l.segs.getLast f) a.2.1 ?_ (.inl e.symm) (by rw[e]);rw[e];exact hc
 exact⟨⟨key.chain,by rw[key.next];omega,key.lo,a.2.2,key.old⟩,fun e=>absurd rfl e,fun _=>⟨key.next,key.last⟩⟩
theorem QdX(m:DM){l:LM}(hc:Chn l.segs):QcJ l (QBP m l).2.1/\(QBP m l).2.1.next=l.next:=by
 have h:=QSQ m l;have:=QW4 h.1 h.2.1;exact⟨⟨by rw[h.1];exact hc,Om,this.2.1,h.2.2.2,fun n _ _=>this.2.2 n⟩,this.1⟩
theorem QdG(m:DM){l:LM}(hc:Chn l.segs)(to keep:Int):Chn (QC6 m l to keep).2.1.segs/\(QC6 m l to keep).2.1.next=l.next/\(QC6 m l to keep).2.1.safe=l.safe/\((QC6 m l to keep).2.1.lo=l.lo\/(QC6 m l to keep).2.1.lo<=to)/\l.lo<=(QC6 m l to keep).2.1.lo/\∀n,(QC6 m l to keep).2.1.lo<=n->n<l.next->QCc (QC6 m l to keep).2.1 n=QCc l n:=by
 have g:Chn l.segs/\l.next=l.next/\l.safe=l.safe/\(l.lo=l.lo\/l.lo<=to)/\l.lo<=l.lo/\∀n,l.lo<=n->n<l.next->QCc l n=QCc l n:=⟨hc,rfl,rfl,.inl rfl,Om,fun _ _ _=>rfl⟩;unfold QC6;split
 ·exact g
 split
 ·exact g
 rename_i C
 (try simp only)
 split
 ·exact g
 split
 ·exact g
 generalize z:QCi l to keep=d at C
 have f:d<l.segs.length:=by
  have h1:d<=(l.segs.take (l.segs.length - (max keep 1).toNat)).length:=by rw[<-z];exact (Z2 _).length_le
  simp at h1
  have b:1<=(max keep 1).toNat:=Om
  omega
 have D:∀(j:Nat) t,j<d->l.segs[j]? = some t->t.next<=to:=by
  intro j t hj o;have h1:(l.segs.take (l.segs.length - (max keep 1).toNat)).takeWhile (fun s=>decide (s.next<=min to l.safe)) <+: l.segs:=(List.takeWhile_prefix _).trans (List.take_prefix _ _)
  have r:j<((l.segs.take (l.segs.length - (max keep 1).toNat)).takeWhile (fun s=>decide (s.next<=min to l.safe))).length:=by rw[<-z]at hj;exact hj
  have b:=h1.getElem r;have E:=U7 r;have w:=Ot.1 List.all_takeWhile _ E;rw[b]at w;rw[Wa Om]at o;cases o;simp at w;omega
 have h:∀k,(l.segs.drop d)[k]? = l.segs[d+k]?:=fun k=>by rw[Zk]
 have x:Chn (l.segs.drop d):=fun k s A h1 b=>hc (d+k) s A (by rw[<-h];exact h1) (by rw[Ln,<-h];exact b);obtain⟨s,c⟩:∃s,l.segs[d]? = some s:=⟨_,Wa f⟩
 have i:({ l with segs:=l.segs.drop d }:LM).lo=s.first:=by
  unfold LM.lo;rw[Ws f];rw[Wa f]at c;cases c;rfl
 have y:({ l with segs:=l.segs.drop d }:LM).next=l.next:=by
  unfold LM.next LM.cur;simp only[List.getLast?_drop];rw[Wb Om]
 obtain⟨u,p⟩:∃u,l.segs[d - 1]? = some u:=⟨_,Wa Om⟩;have G:s.first=u.next:=hc (d - 1) u s p (by rw[Nat.sub_add_cancel Om];exact c)
 have H:l.lo<=s.first:=by
  cases e:l.segs with
  | nil=>rw[e]at f;simp at f
  | cons a t=>
   have K:l.lo=a.first:=by unfold LM.lo;rw[e]
   have h0:l.segs[0]? = some a:=by rw[e];rfl
   have:=QL4 hc (show 0<d by omega) h0 c;have:=a.mono;omega
 refine⟨x,y,rfl,.inr ?_,?_,fun n h1 b=>?_⟩
 ·rw[i,G];exact D (d - 1) u Om p
 ·rw[i];exact H
 ·obtain⟨k,t,q⟩:=({ l with segs:=l.segs.drop d }:LM).at_ x h1 (by rw[y];exact b);rw[q.get h1];rw[i]at h1
  have I:AtS l.segs n (d+k) t:=by
   refine⟨by rw[<-h];exact q.at_,q.lo,q.hi,fun j v hj hv=>?_⟩;by_cases J:j<d
   ·have:=QL4 hc J hv c;omega
   ·exact q.ahead (j - d) v Om (by rw[h,Nat.add_sub_cancel' Om];exact hv)
  rw[I.get Om]
theorem QZo(n:Nat):byU (n:Int)=UInt8.ofNat n:=by
 apply Z8.1;have h:=QJs (n:Int)
 have a:(2 ^ IntKind.u8.bits:Int)=256:=Dc
 have b:IntKind.u8.signed=false:=rfl;simp only[IntKind.wrap,a,b,Bool.false_and]at h;rw[Ub];simp at h;omega
theorem QYs(v:Int)(h0:0<=v):QBo v=be8 v.toNat:=by
 obtain⟨n,rfl⟩:=W1 h0;unfold QBo be8;refine List.map_congr_left fun j hj=>?_;have hj:j<8:=Kh.1 hj;unfold QXt;rw[show min (56 - 8*j) 64=8*(7 - j) by omega,Kf _ (by have:=Int.pow_pos (n:=2) (m:=8*(7 - j)) Dc;omega),Wh,<-QZo];congr 1;rw[Int.pow_mul]
 norm_cast
theorem QeV(v:Int)(h0:0<=v)(h1:v<=1099511627776)(r:Ab)(sh:Bool):QFp (QBo v++r) sh=(v,r,sh):=by
 have hl:=QF5 v;unfold QFp;rw[Wb (by rw[Wd,hl];omega),Kv hl,Zs hl,QYs v h0,Qaz _ Om,QAC _ Om Om,Int.toNat_of_nonneg h0]
theorem QPQ{r:RE}(h:QCL r=0):QW6 r [] false=(r,0):=by
 unfold QW6;rw[Wb Dc,Wb Dc,Wb (by rw[h];decide)]
theorem QWW{r:RE}(d:r.kind=1\/r.kind=3\/r.kind=4)(hc:QCL r=0)(c:0<=r.time/\r.time<=1099511627776)(hv:0<=r.val/\r.val<=1099511627776)(hi:r.id=0)(f:r.kind≠1->r.tag=ByteArray.empty)(i:r.tag.size<=200):QD1 (QLb r).1=(r,0):=by
 obtain⟨k,t,tag,v,id⟩:=r;simp only at d c hv hi f i;subst hi
 have e:(QLb ⟨k,t,tag,v,0⟩).1=QcD ⟨k,t,tag,v,0⟩:=by unfold QLb;rw[Wb (by rw[hc];decide)]
 rw[e];unfold QcD
 (try simp only)
 have hn:∀r,QFp (QBo t++r) false=(t,r,false):=fun r=>QeV t c.1 c.2 r false;have a:=QeV v hv.1 hv.2 [] false;rw[Oi]at a;rcases d with rfl|rfl|rfl
 ·rw[We (.inl rfl),Ul,QQ2 Dc,hn]
  have g:((byU 1).toNat:Int)=1:=Dc
  unfold QfW;rw[g,We (.inl rfl)];unfold QSn;rw[Ul]
  (try simp only)
  have h:(byU (tag.size:Int)).toNat=tag.size:=by rw[QZo,Ub];omega
  have b:tag.data.toList.length=tag.size:=Zy;rw[h,Wb (by rw[Wd,b];omega),Kv b,Zs b,a];exact QPQ hc
 all_goals
  obtain rfl:=f Dc;rw[Wb Dc,Wb Dc,Wb Dc,Ul,QQ2 Dc,hn];unfold QfW;rw[Wb Dc,Wb Dc,Wb Dc]
  (try simp only)
  rw[a];exact QPQ hc
theorem QVA(xs:Ab):QDw (QLB xs)=(0,xs):=by
 unfold QDw QLB
 have hl:(xs++QZR (QFg 0 xs)).length=xs.length+4:=by simp[QZR]
 rw[hl,Wb Om,show xs.length+4 - 4=xs.length by omega,Z0,Lg,We rfl]
theorem QQd(xs:Ab):(QLB xs).length=xs.length+4:=by unfold QLB;simp[QZR]
theorem QQb(v:Int)(h0:0<=v)(h1:v<=1099511627776)(r:Ab):QLd (QGY v.toNat++r)=v:=by
 unfold QLd;rw[Kv (QH4 _),QfL,Qaz _ Om,QAC _ Om Om,Int.toNat_of_nonneg h0]
theorem QXD{p:PkV}(d:p.kind=1\/p.kind=2)(hc:pkE p p.body.length=0)(m:p.id=0)(n:p.code=0)(hb:p.kind=2->p.body=[]):QAo (QW0 p)=(p,0):=by
 have f:=QhW (p:=p) (fun h=>Om) hc;obtain⟨k,e,q,id,code,body⟩:=p;simp only at d m n hb;subst m n
 have o:(1<=e/\e<=1099511627776)/\(0<=q/\q<=1099511627776):=by
  unfold QjW at f;simp only at f;omega
 obtain⟨he,a⟩:=o;unfold QAo QW0;rw[QQd,QVA];have g:=QH4 e.toNat;have i:=QH4 q.toNat
 have r:QgP ⟨k,e,q,0,0,body⟩=UInt8.ofNat k.toNat::(QGY e.toNat++(QGY q.toNat++body)):=by
  unfold QgP Qef
  (try simp only)
  rw[Wb Om,Wb Om];simp
 rw[r];generalize v:UInt8.ofNat k.toNat=u
 have j:(u::(QGY e.toNat++(QGY q.toNat++body))).length=17+body.length:=by simp[g,i];omega
 have l:(u::(QGY e.toNat++(QGY q.toNat++body))).drop 1=QGY e.toNat++(QGY q.toNat++body):=rfl
 have b:(u::(QGY e.toNat++(QGY q.toNat++body))).drop 9=QGY q.toNat++body:=by
  rw[show 9=8+1 from rfl,La,Zs g]
 have s:(u::(QGY e.toNat++(QGY q.toNat++body))).drop 17=body:=by
  rw[show 17=9+8 from rfl,<-Lh,b,Zs i]
 have t:u.toNat=k.toNat:=by rw[<-v];rcases d with rfl|rfl<;>rfl
 rw[j,Wb Om,Wb (fun h=>h rfl)];simp only[List.getD_cons_zero,t];rw[j];rcases d with rfl|rfl
 ·have c:pkF (Int.toNat 1) (u::(QGY e.toNat++(QGY q.toNat++body)))=⟨1,e,q,0,0,body⟩:=by
   unfold pkF;rw[We (.inl rfl),We (show Int.toNat 1=1 from rfl),l,b,s,QQb e Om he.2,QQb q a.1 a.2];rfl
  rw[Wb Dc,Wb (by show ¬17+body.length<17;omega),Wb (by rintro⟨h,_⟩;rcases h with h|h<;>exact absurd h Dc),c,Wb (by rw[hc];decide)]
 ·obtain rfl:=hb rfl
  have c:pkF (Int.toNat 2) (u::(QGY e.toNat++(QGY q.toNat++[])))=⟨2,e,q,0,0,[]⟩:=by
   unfold pkF;rw[We (.inr rfl),Wb Dc,l,b,QQb e Om he.2,QQb q a.1 a.2];rfl
  rw[Wb Dc,Wb Dc,Wb (by rintro⟨_,h⟩;exact absurd h Dc),c,Wb (by rw[hc];decide)]
structure SeI(m:SeM)(safe:Int):Prop where
 sent:m.base<=m.sent
 top:m.sent<=m.top
 safe:m.top<=safe
theorem QRF{m:SeM}{now safe:Int}(h:SeI m safe):SeI (QHa m now safe).1 safe/\(QHa m now safe).1.base=m.base/\∀n∈(QHa m now safe).2,m.base<=n/\n<safe:=by
 obtain⟨h1,c,d⟩:=h;unfold QHa;split
 ·exact⟨⟨h1,c,d⟩,rfl,fun n hn=>by cases hn⟩
 (try simp only)
 generalize e:(if m.sent>m.base/\now>=m.since+m.resend then ({ ({ m with top:=if safe>m.top then safe else m.top }:SeM) with sent:=m.base }:SeM) else { m with top:=if safe>m.top then safe else m.top })=b
 have a:b.base=m.base/\m.base<=b.sent/\b.sent<=m.sent/\b.top=safe:=by
  rw[<-e];split <;> (refine⟨rfl,?_,?_,?_⟩<;>simp only <;> (try split)<;>omega)
 obtain⟨a,k,l,o⟩:=a;generalize f:(if m.base+m.window<safe then m.base+m.window else safe)=g
 have hl:g<=safe:=by rw[<-f];split<;>omega
 split
 ·exact⟨⟨by simp only;omega,by simp only;omega,by simp only;omega⟩,a,fun n hn=>by cases hn⟩
 ·rename_i j
  refine⟨⟨by simp only;omega,by simp only;omega,by simp only;omega⟩,a,fun n hn=>?_⟩;obtain⟨i,hi,rfl⟩:=Uz.1 hn;have hi:=Kh.1 hi;omega
theorem Qdn{b:BM}{M:GM}{n:Int}(h1:(QCc M.k.log n).2=0)(d:n<M.k.log.safe){o:QCj}(a:o∈QMY M.epoch M.k.log n):∃x,QWp M b o={ b with sent:=x }:=by
 unfold QMY upM at a;split at a
 ·rename_i c
  rw[Oe]at a;subst a;have e:=QXD (p:=⟨1,M.epoch,n,0,0,(QCc M.k.log n).1⟩) (.inl rfl) c rfl rfl (fun h=>absurd h (show ¬(1:Int)=2 by decide));unfold QWp;rw[Wb (show ¬(2:Int)=1 by decide),We rfl];unfold upB;simp only[e];rw[Wb (by rintro (h|⟨h,_⟩)<;>exact h rfl),Wb (show ¬(1:Int)=4 by decide)];unfold upW
  (try simp only)
  rw[Wb (by rintro (h|h|h|h)<;>first|exact h rfl|omega)];exact⟨_,rfl⟩
 ·cases a
theorem QWn{M:GM}:∀(os:List QCj) (b:BM),(∀b,∀o∈os,∃x,QWp M b o={ b with sent:=x })->∃x,QQt b M os={ b with sent:=x }
 | [],b,_=>⟨b.sent,rfl⟩
 | o::os,b,h=>by
  obtain⟨x,hx⟩:=h b o (.head _);obtain⟨y,c⟩:=QWn os (QWp M b o) fun b o a=>h b o (.tail _ a);refine⟨y,?_⟩;show QQt (QWp M b o) M os=_;rw[c,hx]
structure QgL(M:GM):Prop where
 chain:Chn M.k.log.segs
 lo:M.k.log.lo<=M.acked
 acked:M.acked<=M.m.base
 se:SeI M.m M.k.log.safe
 safe:M.k.log.safe<=M.k.log.next
theorem QV1{M c:GM}(hI:QgL M)(h1:c.k=M.k)(d:c.epoch=M.epoch)(b:BM):∃x,QQt b c (QBf M.epoch M.clock M.k.log M.m).2={ b with sent:=x }:=by
 refine QWn _ _ fun b o a=>?_;unfold QBf at a;obtain⟨n,hn,a⟩:=List.mem_flatMap.1 a;have q:=(QRF hI.se).2.2 n hn;have:=hI.lo;have:=hI.acked;have:=hI.safe;rw[<-h1,<-d]at a;exact Qdn (by rw[h1];exact Qgc hI.chain Om Om) (by rw[h1];exact q.2) a
theorem QR3{M:GM}(hI:QgL M):SeI (QBf M.epoch M.clock M.k.log M.m).1 M.k.log.safe/\(QBf M.epoch M.clock M.k.log M.m).1.base=M.m.base:=⟨(QRF hI.se).1,(QRF hI.se).2.1⟩
def QUl(M:GM)(e:EvV):Bool:=decide (e.kind≠4)&&decide (e.kind≠5)
theorem QRC{M:GM}{e:EvV}(h:QUl M e=true):e.kind≠4/\e.kind≠5:=by
 unfold QUl at h;simpa using h
theorem QaL(g:Nat)(a:GwA)(M:GM)(hM:MOk M)(hok:M.ok=true)(hos:M.os.length<=800000)(hts:M.ts.length<=1000000)(e:EvV)(s:Sl)(hx:e.data.length<=1000000)(hnm:e.name.size<=1000000)(hcap:s.n<=s.c)(hl:QUl M e=true) :
  Ct Pr 96 [.pointer (some ⟨g,0,none⟩),.agg #[.I e.kind,.I e.now,s.v,.string e.name]] .one [.I] (GwL g a M) ((GTab.and GBeh).and (RAr U8 s e.data))
  (fun t Bs=>t.1=(if (QFe M e).ok=true then 0 else 10)/\MOk (QFe M e)/\∃a',a'.dev=a.dev/\Bs=GwL g a' (QFe M e)):=by
 refine QG9 (QHC Qb5) fun B hr=>?_;obtain⟨⟨hg1,hg2⟩,hg3⟩:=hr;haveI:=QKj hg1;haveI:=Qbx hg2;haveI:Fro B s U8 e.data:=⟨hg3⟩;obtain⟨N,hN⟩:∃N,QFe M e=N:=⟨_,rfl⟩;rw[hN];unfold QFe at hN;obtain⟨hk4,hk5⟩:=QRC hl;unfold QCg;refine QAL fun b=>QAL fun b1=>QBh (fun As'=>∃a',N.ok=false/\MOk N/\a'.dev=a.dev/\As'=Blk b1 [.I 0]::GwL g a' N) (fun Q hQ=>?_) ?_
 ·refine xgq ?_;refine QBh (fun As'=>∃a',N.ok=true/\MOk N/\a'.dev=a.dev/\As'=Blk b1 [.I 0]::GwL g a' N) (fun K hK=>?_) ?_
  ·refine xif (fun h1=>?_) (fun h1=>?_)
   ·rw[We (eq_of_beq h1)]at hN;refine xgq ?_;refine QTq (QaP g a M hM hok hos e.now) rdb ?_ ?_
    ·rintro _ _ ⟨ho,hm,a',hd,rfl⟩;rw[hN]at ho hm|-;exact QFE (ca0 (QAK (Blk b1 [.I 0]::GwL g a' N) (hK _ ⟨a',ho,hm,hd,rfl⟩)))
    ·rintro _ ⟨ho,hm,a',hd,rfl⟩;rw[hN]at ho hm|-;exact QFE (QAK (Blk b1 [.I 0]::GwL g a' N) (hQ _ ⟨a',ho,hm,hd,rfl⟩))
   rw[Wb (Wv h1)]at hN;refine QAM (xif (fun h2=>?_) (fun h2=>?_))
   ·rw[We (eq_of_beq h2)]at hN;unfold QY4 at hN;obtain⟨hw16,hcase⟩:=QXF M.ma e.data;have hsp:=fun q=>QTl q M.ma s e.data hcap
    generalize QFc M.ma e.data=H at *
    obtain⟨o,ma'⟩:=H;simp only at hN hw16 hcase
    have hM0:MOk { M with ma:=ma' }:=by
     rcases hcase with⟨_,rfl⟩|⟨_,_,rfl⟩
     ·exact hM
     ·exact hM.stopped
    have tail:∀{b2:Nat}{s1 s2:Sl}{R:List HP},o.r.files=[]->s2.n<=s2.c->Ent B (Blk b2 [.I o.what,.I o.r.exc,s1.v,s2.v,nilS.v,.I o.tries]::Ar BL s1 o.r.on::Ar W16 s2 o.r.set::Blk b1 [.I 0]::GwR g a { M with ma:=ma' } R)
      (QBW [] (fun(K'2:WP)=>XIf o.is (QAn (.I) ⟨b2,0,none⟩ fun(n2:Int)=>QAn (.I) ⟨b2,1,none⟩ fun(n3:Int)=>QAn .slice ⟨b2,2,none⟩ fun s4=>QAn .slice ⟨b2,3,none⟩ fun s5=>QAn .slice ⟨b2,4,none⟩ fun s6=>QAn (.I) ⟨b2,5,none⟩ fun(n4:Int)=>QGA Q 151 [.pointer (some ⟨g,0,none⟩),.agg #[.I n2,.I n3,s4.v,s5.v,s6.v,.I n4]] (.tup []) []<|K'2) (K'2))<|K):=by
     intro b2 s1 s2 R hf hc2;refine QAM (xif (fun h=>?_) (fun h=>?_))
     ·rw[We h]at hN;obtain⟨_,htr,rfl⟩:=hcase.resolve_left (fun q=>by rw[q.1]at h;cases h);refine xgq (xgq (xgS s1 (xgS s2 (xgT (h:=xgq ?_)))));refine QTq (QPg g a { M with ma:=QCU M.ma } hM0 hok (Uo 0) (fun q=>hM.busy htr q) (show M.os.length<=900000 by omega) o hf hw16 s1 s2 hc2) rdb ?_ ?_
      ·rintro _ _ ⟨ho,hm,rfl⟩;rw[hN]at ho hm|-;exact QFE (ca0 (QAK (Blk b1 [.I 0]::GwL g a.noCmd N) (hK _ ⟨a.noCmd,ho,hm,rfl,rfl⟩)))
      ·rintro _ ⟨ho,hm,rfl⟩;rw[hN]at ho hm|-;exact QFE (QAK (Blk b1 [.I 0]::GwL g a.noCmd N) (hQ _ ⟨a.noCmd,ho,hm,rfl,rfl⟩))
     ·rw[Wb (by rw[h];decide)]at hN;subst hN;exact QAK (Blk b1 [.I 0]::GwL g a { M with ma:=ma' }) (hK _ ⟨a,hok,hM0,rfl,rfl⟩)
    refine QAP (xgf (h:=xgS s (QZK ?_ ?_)))
    ·refine xcl (hsp a.line) rdb ?_;rintro⟨v0,v1,s1,s2,v4,v5,v6,_⟩ _ ⟨rfl,rfl,h3,hf,rfl,rfl,rfl⟩;simp only at h3;subst h3;refine QLn (ca7 (QAL fun b2=>?_));iterate 6 (refine xsq ?_)
     refine QAb [Ar W16 s2 o.r.set] (QCl (E:=W16) (xs:=o.r.set) s2 fun _ hs2c=>?_);refine QAb (Blk b2 [.I o.what,.I o.r.exc,s1.v,s2.v,nilS.v,.I o.tries]::Ar BL s1 o.r.on::Ar W16 s2 o.r.set::Blk b1 [.I 0]::GwL g a { M with ma:=ma' }) ?_;exact tail hf hs2c
    ·refine QAL fun b3=>?_;refine xcl (hsp a.line) rdb ?_;rintro⟨v0,v1,s1,s2,v4,v5,v6,_⟩ _ ⟨rfl,rfl,h3,hf,rfl,rfl,rfl⟩;simp only at h3;subst h3;refine QLn (ca7 ?_);iterate 6 (refine xsq ?_)
     refine QAb [Ar W16 s2 o.r.set] (QCl (E:=W16) (xs:=o.r.set) s2 fun _ hs2c=>?_);refine QAb (Blk b3 [.I o.what,.I o.r.exc,s1.v,s2.v,nilS.v,.I o.tries]::Ar BL s1 o.r.on::Ar W16 s2 o.r.set::Blk b1 [.I 0]::GwL g a { M with ma:=ma' }) ?_;exact tail hf hs2c
   rw[Wb (Wv h2)]at hN;refine QAM (xif (fun h3=>?_) (fun h3=>?_))
   ·rw[We (eq_of_beq h3)]at hN;refine xgS s ?_;refine QTq (QaW g a M hM hok hos s e.data hx hcap) rdb ?_ ?_
    ·rintro _ _ ⟨ho,hm,a',hd,rfl⟩;rw[hN]at ho hm|-;exact QFE (ca0 (QAK (Blk b1 [.I 0]::GwL g a' N) (hK _ ⟨a',ho,hm,hd,rfl⟩)))
    ·rintro _ ⟨ho,hm,a',hd,rfl⟩;rw[hN]at ho hm|-;exact QFE (QAK (Blk b1 [.I 0]::GwL g a' N) (hQ _ ⟨a',ho,hm,hd,rfl⟩))
   rw[Wb (Wv h3)]at hN;refine QAM (xif (fun h4=>?_) (fun h4=>?_))
   ·exact absurd (eq_of_beq h4) hk4
   rw[Wb (Wv h4)]at hN;refine QAM (xif (fun h5=>?_) (fun h5=>?_))
   ·exact absurd (eq_of_beq h5) hk5
   rw[Wb (Wv h5)]at hN;subst hN;exact QAK (Blk b1 [.I 0]::GwL g a M) (hK _ ⟨a,hok,hM,rfl,rfl⟩)
  rintro _ ⟨a',ho,hm,hd,rfl⟩;refine xsq (xgq ?_);exact QAK (GwL g a' N) (QAD ⟨by rw[We ho],hm,a',hd,rfl⟩)
 rintro _ ⟨a',ho,hm,hd,rfl⟩;refine QAL fun b2=>xsq (xgq ?_);exact QAK (GwL g a' N) (QAD ⟨by rw[Wb (by rw[ho];decide)],hm,a',hd,rfl⟩)
theorem QcZ(g:Nat)(a:GwA)(M:GM)(w:MOk M)(K:M.stopped=false->M.ok=true)(L:M.ts.length<=1000000)(e:EvV)(s:Sl)(hx:e.data.length<=1000000)(O:e.name.size<=1000000)(P:s.n<=s.c)(hl:QUl { M with os:=[] } e=true) :
  Ct Pr 33 [.pointer (some ⟨g,0,none⟩),.agg #[.I e.kind,.I e.now,s.v,.string e.name]] .one [.slice] (GwL g a M) ((GTab.and GBeh).and (RAr U8 s e.data))
  (fun t Bs=>MOk (QB2 M e).1/\∃j,j.dev=a.dev/\Bs=QP3 t.1 (QB2 M e).2::GwL g j (QB2 M e).1):=by
 refine sp1 (QFI _ _ _ _ _) fun B x=>?_;obtain⟨⟨y,z⟩,A⟩:=x;haveI:=QKj y;haveI:=Qbx z;haveI:Fro B s U8 e.data:=⟨A⟩;obtain⟨N,i⟩:∃N,QB2 M e=N:=⟨_,rfl⟩;rw[i];unfold QB2 at i;unfold QFI mf;dsimp only;refine QAL fun b=>xgf (h:=xif (fun h=>?_) (fun h=>?_))
 ·rw[We h]at i;subst i;exact QYI (QAK (QP3 nilS []::GwL g a M) (QAD ⟨w,a,rfl,rfl⟩))
 rw[Wb (by rw[show M.stopped=false from h];decide)]at i;refine xgw 1 fun p=>QAO ?_;rw[QA8];refine xsq (QYI (QRa g (cOf a { M with os:=[] }) [] nilS ?_));refine xgq (xgq (xgS s (xgq ?_)));have C:MOk { M with os:=[] }:=w.core M.k M.lost M.J M.m [] M.ok;have E:=QaL g a { M with os:=[] } C (K h) (Ua _) L e s hx O P hl
 generalize QFe { M with os:=[] } e=D at *
 refine xcl E rdb ?_;rintro⟨r,_⟩ _ ⟨l,f,j,u,rfl⟩;simp only at l;refine QFE (ca1 (xgs (cOf j { D with stopped:=(r != 0) }) (h:=?_)));refine xgw 0 fun p=>QAO ?_;rw[QA8];refine xgS p (QAO ?_);rw[QA8];refine xsq (QYI (QRa g (cOf j { D with stopped:=(r != 0),os:=[] }) [] nilS ?_));have o:MOk { D with os:=[],stopped:=(r != 0) }:=⟨f.clock,f.keep,f.slots,f.polls,f.tags,f.held,f.al,f.queue,f.poll,f.busy⟩;refine xgf (h:=xif (fun d=>?_) (fun d=>?_))
 ·have d:(r != 0)=true:=d
  have G:D.ok=false:=by
   cases q:D.ok with
   | false=>rfl
   | true=>rw[q]at l;rw[l]at d;cases d
  rw[G]at i;rw[d]at o|-;subst i;exact QYI (QAK (QP3 nilS []::GwL g j { D with os:=[],stopped:=true }) (QAD ⟨o,j,u,rfl⟩))
 ·have d:(r != 0)=false:=d
  have H:D.ok=true:=by
   cases q:D.ok with
   | true=>rfl
   | false=>rw[q]at l;rw[l]at d;cases d
  rw[H]at i;rw[d]at o|-;subst i;exact QAK (QP3 p D.os::GwL g j { D with os:=[],stopped:=false }) (QAD ⟨o,j,u,rfl⟩)
theorem QdT(k:Nat)(ts:Sl)(d:Ac)(g:Nat)(a:GwA)(M:GM)(b:BM)(i:GFit M)(e:EvV)(s:Sl)(hx:e.data.length<=1000000)(E:e.name.size<=1000000)(G:s.n<=s.c)(H:QUl { M with os:=[] } e=true) :
  Ct Pr 43 [.pointer (some ⟨k,0,none⟩),.agg #[.I e.kind,.I e.now,s.v,.string e.name]] (.tup []) [] (BnO k ts d (some ⟨g,0,none⟩) b::GwL g a M) ((GTab.and GBeh).and (RAr U8 s e.data))
  (fun _ Bs=>GFit (QB2 M e).1/\∃h,h.dev=a.dev/\Bs=BnO k ts d (some ⟨g,0,none⟩) (doB b M e)::GwL g h (QB2 M e).1):=by
 refine sp0 (QIb _ _ _ _ _) fun B r=>?_;obtain⟨⟨w,x⟩,y⟩:=r;haveI:=QKj w;haveI:=Qbx x;haveI:Fro B s U8 e.data:=⟨y⟩;unfold QIb mf;dsimp only;refine QB6 5 (P1:=QBF a.line M.ma) (fun f j=>j.1) fun l=>?_;refine QB6 4 (P1:=QBD a.up M.m) (fun f j=>j.1) fun t=>?_;refine xbn 0 fun p ls fs u hl=>?_;refine QAL fun J=>QAP (xng (xgq (xgq (xgq (xgS s (xgq ?_))))));refine xcl (QcZ g a M i.ok i.run i.ts e s hx E G H) rdb ?_;rintro⟨z,_⟩ _ ⟨A,h,C,rfl⟩;have D:=Qde t i.ok.clock e;have o:=(QWD M l.fr e).2.2;have q:=i.step l.fr e A;unfold doB
 generalize QB2 M e=N at *
 obtain⟨N,os⟩:=N;simp only at D o q;refine Qa6 (ca1 ?_);refine QMn k ts d (some ⟨g,0,none⟩) b p ls fs u hl ?_;refine xcl (QWV k ts d g h N b z os o Om) rdb ?_;rintro _ _ rfl;refine Qa6 (ca0 ?_);exact QAK (BnO k ts d (some ⟨g,0,none⟩) (QQt b N os)::GwL g h N) (QAD ⟨q,h,C,rfl⟩)
def QYb(b:BM)(M:GM)(c a:Int):Bool:=match QKi b (QCB c 10) a with
 | none=>true
 | some (_,e)=>QUl { M with os:=[] } e
theorem QaF(k:Nat)(ts:Sl)(d:Ac)(g:Nat)(a:GwA)(a0:a.dev=d)(M:GM)(b:BM)(a7:GFit M)(D j:Int)(m:QYb b M D j=true) :
  Ct Pr 14 [.pointer (some ⟨k,0,none⟩),.agg #[.I D,.I j]] .one [.bool] (BnO k ts d (some ⟨g,0,none⟩) b::Ar Pn.TG ts b.cf.tags::GwL g a M) (GTab.and GBeh) (QPE k ts d b.cf.tags (QZ9 b M D j)):=by
 refine sp1 (QG3 _ _ _) fun B b'=>?_;obtain⟨c1,c2⟩:=b';haveI:=QKj c1;haveI:=Qbx c2;obtain⟨N,i⟩:∃N,QZ9 b M D j=N:=⟨_,rfl⟩;rw[i];unfold QZ9 at i;unfold QYb at m;unfold QG3 mf;dsimp only;refine QAL fun a8=>xgq ?_;refine xcl (QC0 D 10 ⟨Dc,Dc⟩) rdb ?_;have e0:=QL8 (k:=D) (n:=10) Dc
 generalize QCB D 10=r at *
 rintro⟨(G:Int),_⟩ _ ⟨b0,rfl⟩;simp only at b0;subst b0;refine QA2 (ca1 ?_)
 have a5:∀{o:BM}{C:GM}{z:GwA}{R:List HP},some (o,C)=N->GFit C->z.dev=d->Ent B (BnO k ts d (some ⟨g,0,none⟩) o::Ar Pn.TG ts b.cf.tags::GwR g z C R) (Ret B (ss:=[.bool]) (QPE k ts d b.cf.tags N) (true,())):=by
  intro o C z R h1 a1 a2;exact QAK (BnO k ts d (some ⟨g,0,none⟩) o::Ar Pn.TG ts b.cf.tags::GwL g z C) (QAD (.inr ⟨rfl,o,C,g,z,h1.symm,a1,a2,rfl⟩))
 have Y:∀{o:BM}{e:EvV}{s:Sl}{R:List HP},some (doB o M e,(QB2 M e).1)=N->e.data.length<=1000000->e.name.size<=1000000->s.n<=s.c->Rds B (Ar Pn.TG ts b.cf.tags::R) (RAr U8 s e.data)->QUl { M with os:=[] } e=true ->
   Ent B (BnO k ts d (some ⟨g,0,none⟩) o::GwR g a M (Ar Pn.TG ts b.cf.tags::R)) (QAX Pr 43 [.pointer (some ⟨k,0,none⟩),.agg #[.I e.kind,.I e.now,s.v,.string e.name]] (.tup []) []<|Ret B (ss:=[.bool]) (QPE k ts d b.cf.tags N) (true,())):=by
  intro o e s R h1 a1 a2 w A y;refine xcl (QdT k ts d g a M o a7 e s a1 a2 w y) (QDY (QDY rdb rdb) A) ?_;rintro _ _ ⟨J,z,a3,rfl⟩;refine Qa6 (ca0 ?_);refine QAb (BnO k ts d (some ⟨g,0,none⟩) (doB o M e)::Ar Pn.TG ts b.cf.tags::GwL g z (QB2 M e).1) ?_;exact a5 h1 J (a3.trans a0)
 have b6:∀{F:List HP}{b9:Ab},b9=[]->Rds B F (RAr U8 nilS b9):=fun h=>by rw[h];exact QIX fun _ _ _ _ _=>⟨rfl,rfl,fun h=>absurd h (Zu 0)⟩
 refine QAV (fun(x:Bool) As'=>(x=true↔(G=0\/G=1))/\As'=Blk a8 [.I D,.I j]::BnO k ts d (some ⟨g,0,none⟩) b::Ar Pn.TG ts b.cf.tags::GwL g a M) (fun K S=>?_) ?_
 ·refine xif (fun h=>S _ _ ⟨⟨fun _=>.inl (eq_of_beq h),fun _=>h⟩,rfl⟩) (fun h=>S _ _ ⟨?_,rfl⟩);have h:=Wv h;rw[Zq];exact⟨.inr,fun q=>q.resolve_left h⟩
 rintro x _ ⟨hx,rfl⟩;refine QAM (xif (fun h=>?_) (fun h=>?_))
 ·have c5:=hx.1 h;rw[Wb Om,Wb Om]at i;unfold QKi at i m;rw[We c5]at i m;refine QAP (xbn 1 fun p ls fs u hl=>xng (xgq (xgq ?_)));refine xcl (QC0 j 6 ⟨Dc,Dc⟩) rdb ?_;rintro⟨d0,_⟩ _ ⟨b1,rfl⟩;simp only at b1;subst b1;refine QA2 (ca1 ?_);rw[QA8];refine QDK (h:=xns (xsq (xng (xgq ?_))));refine QMn k ts d (some ⟨g,0,none⟩) { b with now:=IntKind.i64.wrap (b.now+QCB j 6) } p ls fs ⟨u.f,u.n,u.h⟩ (hl.same rfl rfl) ?_;refine QAb (BnO k ts d (some ⟨g,0,none⟩) { b with now:=IntKind.i64.wrap (b.now+QCB j 6) } :: GwR g a M [Ar Pn.TG ts b.cf.tags]) ?_;exact Y (e:=⟨1,IntKind.i64.wrap (b.now+QCB j 6),[],ByteArray.empty⟩) (s:=nilS) i (by simp) (by simp) (Wt _) (b6 rfl) m
 have Z:¬(G=0\/G=1):=fun q=>by rw[hx.2 q]at h;cases h
 refine QAV (fun(x:Bool) As'=>(x=true↔(G=2\/G=3))/\As'=Blk a8 [.I D,.I j]::BnO k ts d (some ⟨g,0,none⟩) b::Ar Pn.TG ts b.cf.tags::GwL g a M) (fun K S=>?_) ?_
 ·refine xif (fun h=>S _ _ ⟨⟨fun _=>.inl (eq_of_beq h),fun _=>h⟩,rfl⟩) (fun h=>S _ _ ⟨?_,rfl⟩);have h:=Wv h;rw[Zq];exact⟨.inr,fun q=>q.resolve_left h⟩
 rintro d1 _ ⟨b2,rfl⟩;refine QAM (xif (fun h=>?_) (fun h=>?_))
 ·have c6:=b2.1 h;rw[Wb Om,Wb Om]at i;unfold QKi at i m;rw[Wb Z,We c6]at i m;refine xgq ?_;refine xcl (QC0 j 65536 ⟨Dc,Dc⟩) rdb ?_;rintro⟨d2,_⟩ _ ⟨b3,rfl⟩;simp only at b3;subst b3;refine QA2 (ca1 ?_);refine xcl (QRS k ts d (some ⟨g,0,none⟩) b (QCB j 65536)) rdb ?_;rintro⟨s,_⟩ _ rfl;have e1:=Qda b.last (QCB j 65536)
  generalize QcB b.last (QCB j 65536)=W at *
  refine QBK (ca1 (QAb [Ar U8 s W] (QCl (E:=U8) (xs:=W) s fun a9 T=>?_)));refine QAM (QAB (fun h=>?_) (fun h=>?_))
  ·rw[We Om]at i m;refine xbn 1 fun p ls fs u hl=>xns (xsq ?_);refine QMn k ts d (some ⟨g,0,none⟩) { b with last:=[] } p nilS fs ⟨u.f,u.n,u.h⟩ ⟨.inl ⟨rfl,rfl⟩,hl.len,hl.each,hl.short⟩ ?_;refine QAb (BnO k ts d (some ⟨g,0,none⟩) { b with last:=[] } :: GwR g a M [Ar Pn.TG ts b.cf.tags,Ar U8 s W]) ?_;exact Y (e:=⟨2,0,W,ByteArray.empty⟩) (s:=s) i (by show W.length<=_;omega) (by simp) T rdb m
  ·rw[Wb Om]at i;exact QAb (BnO k ts d (some ⟨g,0,none⟩) b::Ar Pn.TG ts b.cf.tags::GwL g a M) (a5 i a7 a0)
 have a6:¬(G=2\/G=3):=fun q=>by rw[b2.2 q]at h;cases h
 refine QAM (xif (fun w=>?_) (fun w=>?_))
 ·have w:=eq_of_beq w;rw[Wb Om,Wb Om]at i;unfold QKi at i m;rw[Wb Z,Wb a6,We w]at i m;refine QAP (xbn 1 fun p ls fs u hl=>xng (xgq (xng (xgq ?_))));refine xcl (pre:=[]) (QSO (QWF b) (by intro q;rcases q with q|q<;>cases q) nilS) (b6 rfl) ?_;rintro⟨s,_⟩ _ rfl;have c7:=QPI (QWF b);refine QAz (ca1 (QCl (E:=U8) (xs:=QBI (QWF b)) s fun a9 T=>?_));refine QMn k ts d (some ⟨g,0,none⟩) b p ls fs u hl ?_;refine QAb (BnO k ts d (some ⟨g,0,none⟩) b::GwR g a M [Ar Pn.TG ts b.cf.tags,Ar U8 s (QBI (QWF b))]) ?_;exact Y (e:=⟨3,0,QBI (QWF b),ByteArray.empty⟩) (s:=s) i (by show (QBI (QWF b)).length<=_;omega) (by simp) T rdb m
 have w:=Wv w;refine QAM (xif (fun A=>?_) (fun A=>?_))
 ·have A:=eq_of_beq A;rw[Wb Om,Wb Om]at i;unfold QKi at i m;rw[Wb Z,Wb a6,Wb w,We A]at i m;refine xgq ?_;refine xcl (QC0 j 12 ⟨Dc,Dc⟩) rdb ?_;rintro⟨O,_⟩ _ ⟨U,rfl⟩;simp only at U;subst U;refine QA2 (ca1 ?_)
  generalize IntKind.i64.wrap (1+QCB j 12)=id at *
  refine xcl (QYG id) rdb ?_;rintro⟨v0,d3,v2,t0,c3,t2,_⟩ _ ⟨rfl,rfl,rfl,g4,b4,rfl⟩;simp only at g4 b4;subst g4 b4;refine QAz (Pn.ca6 ?_);refine xcl (pre:=[]) (QUb (QdU id) (by intro v hv;rw[Oe.1 hv];exact Qe3 id) nilS c3 nilS) (QDY (Qhf (E:=BL)) (QDY rdb (Qhf (E:=PaE)))) ?_;have b7:=QT6 (QdU id)
  generalize QDV (QdU id)=P at *
  obtain⟨Q,d4⟩:=P;simp only at i b7;rintro⟨d5,d6,d7,d8,d9,b5,d',_⟩ _ ⟨rfl,rfl,rfl,rfl,rfl,_,rfl⟩;refine QAz (ca7 (QAL fun c'=>?_));iterate 6 (refine xsq ?_)
  iterate 5 (refine xgq ?_)
  refine xgS b5 ?_;refine xcl (QSO Q b7 b5) rdb ?_;rintro⟨s,_⟩ _ rfl;have c7:=QPI Q;refine QAz (ca1 (QCl (E:=U8) (xs:=QBI Q) s fun a9 T=>?_));refine QAb (BnO k ts d (some ⟨g,0,none⟩) b::GwR g a M [Ar Pn.TG ts b.cf.tags,Ar U8 s (QBI Q)]) ?_;exact Y (e:=⟨3,0,QBI Q,ByteArray.empty⟩) (s:=s) i (by show (QBI Q).length<=_;omega) (by simp) T rdb m
 have A:=Wv A;refine QAM (xif (fun y=>?_) (fun y=>?_))
 ·have y:=eq_of_beq y;rw[We y]at i;subst a0;refine QAP (xbn 1 fun p ls fs u hl=>xng (xgq ?_));refine QG8 5 fun H=>?_;refine QB6 0 (P1:=QAA a.dev M.k.dev) (fun f J=>QJh J) fun ⟨c0,a'⟩=>?_
  have c8:∀{As:List HP}{K:Addr->WP},Ent B As (K ⟨c0,0,none⟩)->Ent B As (QC3 a.dev K):=fun h=>by rw[a'];exact QAO h
  refine c8 (xgq ?_);refine xcl (QC0 j 40 ⟨Dc,Dc⟩) rdb ?_;have e2:=QL8 (k:=j) (n:=40) Dc
  generalize QCB j 40=n at *
  rintro⟨(O:Int),_⟩ _ ⟨U,rfl⟩;simp only at U;subst U;refine QA2 (ca1 ?_);rw[QA8];refine QDK (h:=?_);rw[<-a'];refine xcl (QeK a.dev M.k.dev O ⟨Om,Om⟩) rdb ?_;rintro _ _ rfl;refine QAz (ca0 ?_);refine QB6 0 (P1:=QAA a.dev (Qe4 M.k.dev O)) (fun f J=>J.1) fun hI=>?_;have c9:KOk ⟨Qe4 M.k.dev O,M.k.log,M.k.X⟩:=⟨⟨hI,H.ldev.log,H.ldev.cur,H.ldev.safe,H.ldev.files,H.ldev.ord⟩,H.idx⟩;refine QCh a.dev a.log a.idx ⟨Qe4 M.k.dev O,M.k.log,M.k.X⟩ c9 ?_;refine QMn k ts a.dev (some ⟨g,0,none⟩) b p ls fs u hl ?_;exact QAb (BnO k ts a.dev (some ⟨g,0,none⟩) b::Ar Pn.TG ts b.cf.tags::GwL g a (Qie M O)) (a5 i (a7.arm O) rfl)
 have y:=Wv y;refine xif (fun L=>?_) (fun L=>?_)
 ·have L:=eq_of_beq L;rw[Wb y,We L]at i;subst a0;refine QAP (xbn 1 fun p ls fs u hl=>xng (xgq (xgq ?_)));refine QG8 5 fun H=>?_;refine xcl (QaN a.dev M.k.dev j) rdb ?_;rintro _ _ rfl;refine QAz (ca0 ?_);refine QMn k ts a.dev (some ⟨g,0,none⟩) b p ls fs u hl ?_;refine xcl (QPj k ts a.dev (some ⟨g,0,none⟩) b (QOP M.k.dev j)) rdb ?_;rw[i];rintro⟨t,_⟩ Bs hb;rcases hb with⟨V,hn,rfl⟩|⟨V,o,C,a4,z,c4,J,a3,rfl⟩
  ·simp only at V;subst V;exact QA2 (ca1 (QAd (l:=[]) (QAD (.inl ⟨rfl,hn,rfl⟩))))
  ·simp only at V;subst V;refine QLk (ca1 ?_);exact QAK (BnO k ts a.dev (some ⟨a4,0,none⟩) o::Ar Pn.TG ts b.cf.tags::GwL a4 z C) (QAD (.inr ⟨rfl,o,C,a4,z,c4,J,a3,rfl⟩))
 have L:=Wv L;rw[Wb y,Wb L]at i;unfold QKi at i m;rw[Wb Z,Wb a6,Wb w,Wb A]at i m;exfalso;by_cases b8:G=8
 ·rw[We b8]at m;exact (QRC m).1 rfl
 ·rw[Wb b8]at m;exact (QRC m).2 rfl
abbrev QDJ(b:BM)(M:GM)(c a:Int):BM×GM:=Qgx b M (QKi b c a)
theorem Qiv{P:Program}{f:FuncId}{args:Ad}{rs:Rs}{ss:List Sh}{rd:HP}{pre:List HP}{post a:Tup ss->List HP->Prop}(c:Ct P f args rs ss pre rd post)(h:∀t Bs,post t Bs->a t Bs):Ct P f args rs ss pre rd a:=
 fun w g b d e=>(c w g b d e).mono fun _ _ ⟨t,Bs,he,i,hx⟩=>⟨t,Bs,he,h t Bs i,hx⟩
theorem QdI(b:BM)(p:Ab):(QKh b p).cf=b.cf:=by
 unfold QKh;repeat' split
 all_goals rfl
theorem Qhc(b:BM)(a:LM)(e s:Int)(p:Ab):(upB b a e s p).cf=b.cf:=by
 unfold upB;repeat' split
 all_goals rfl
theorem QfF(M:GM)(b:BM)(o:QCj):(QWp M b o).cf=b.cf:=by
 unfold QWp;repeat' split
 ·exact QdI _ _
 ·exact Qhc _ _ _ _ _
 ·rfl
theorem QUZ(M:GM):∀(os:List QCj) (b:BM),(QQt b M os).cf=b.cf
 | [],b=>rfl
 | o::os,b=>(QUZ M os (QWp M b o)).trans (QfF M b o)
theorem QIA(b:BM)(M:GM)(c a:Int):(QDJ b M c a).1.cf=b.cf:=by
 unfold QDJ QKi;repeat' split
 all_goals first|rfl|exact QUZ _ _ _
theorem QeB{b a:BM}{m:DM}{M:GM}(h:QTA b m=some (a,M)):a.cf=b.cf:=by
 unfold QTA at h;split at h
 ·cases h
 ·unfold Qcg at h;repeat' split at h
  ·cases h
  ·cases h
  ·injection h with h;injection h with h1 c;rw[<-h1];exact QUZ _ _ _
theorem QbF{c:Cfg}{room:Int}{a:BM}{M:GM}(h:QK8 c room=some (a,M)):a.cf=c:=by
 unfold QK8 at h;split at h
 ·cases h
 ·exact QeB h
theorem QI8(k:Nat)(ts:Sl)(d:Ac)(g:Nat)(a:GwA)(n:a.dev=d)(M:GM)(b:BM)(o:GFit M)(c e:Int)(h:QCB c 10=c)(p:c≠6)(q:c≠7)(hl:QYb b M c e=true) :
  Ct Pr 14 [.pointer (some ⟨k,0,none⟩),.agg #[.I c,.I e]] .one [.bool] (BnO k ts d (some ⟨g,0,none⟩) b::Ar Pn.TG ts b.cf.tags::GwL g a M) (GTab.and GBeh)
  (fun _ Bs=>GFit (QDJ b M c e).2/\∃f i,i.dev=d/\Bs=BnO k ts d (some ⟨f,0,none⟩) (QDJ b M c e).1::Ar Pn.TG ts b.cf.tags::GwL f i (QDJ b M c e).2):=by
 refine Qiv (QaF k ts d g a n M b o c e hl) ?_
 have m:QZ9 b M c e=some (QDJ b M c e):=by
  unfold QZ9;rw[h,Wb p,Wb q]
 rw[m];rintro t Bs (⟨_,h,_⟩|⟨_,r,s,f,i,h,j,l,rfl⟩)
 ·cases h
 ·injection h with h;rw[h];exact⟨j,f,i,l,rfl⟩
theorem QRE{a b N:Bool}(h:(a&&b)=N)(c:true=N):a=true/\b=N:=by
 subst c;exact Bool.and_eq_true_iff.1 h
def QiZ(s:StV)(a b d e f g h:Int)(c:Bool):Bool:=(s.next == a)&&((s.safe == b)&&((s.first == d)&&((s.acked == e)&&((s.epoch == f)&&((s.boots == g)&&((s.lost == h)&&((s.busy == c)&&true)))))))
def Qen(x:BM×GM):Bool:=(!x.1.wrong&&x.1.sent == 2)&&QiZ (QYE x.2) 2 2 0 2 1 1 0 true
def QeS(x:BM×GM):Bool:=QYb x.1 x.2 0 1&&QYb (QDJ x.1 x.2 0 1).1 (QDJ x.1 x.2 0 1).2 4 0&&Qen (QDJ (QDJ x.1 x.2 0 1).1 (QDJ x.1 x.2 0 1).2 4 0)
def Qfk(r:RE)(k t:Int)(n:ByteArray)(v i:Int):Bool:=(r.kind == k)&&((r.time == t)&&((r.tag == n)&&((r.val == v)&&((r.id == i)&&true))))
def Qel(x:BM×GM):Bool:=
 if (QCc x.2.k.log 1).2≠0\/(QD1 (QCc x.2.k.log 1).1).2≠0 then false
 else if Qfk (QD1 (QCc x.2.k.log 1).1).1 1 1 tName 7 0=false then false
 else QeS x
def QeY(x:BM×GM):Bool:=
 if x.1.last.length≠8\/x.1.last.take 6≠[1,4,0,5,0,1] then false
 else QYb x.1 x.2 2 7&&Qel (QDJ x.1 x.2 2 7)
def Qex(x:BM×GM):Bool:=
 if x.1.sent≠1\/QiZ (QYE x.2) 1 1 0 0 1 1 0 false=false then false
 else QYb x.1 x.2 0 1&&QeY (QDJ x.1 x.2 0 1)
def QWi:Bool:=match QK8 (QIM 1) 100000 with
 | none=>false
 | some x=>Qex x
theorem knownB_true:QWi=true:=Dk
theorem Qi5{b:Bool}(h:(!b)=true):b=false:=by cases b<;>first|rfl|cases h
theorem QjF{b:Bool}(h:(!b)=false):b=true:=by cases b<;>first|rfl|cases h
theorem QYu:Ct Pr 15 [] .one [.bool] [] (GTab.and GBeh) (fun t Bs=>t.1=QWi/\Bs=[]):=by
 refine QG9 QQg fun B c'=>?_;obtain⟨d5,d6⟩:=c';haveI:=QKj d5;haveI:=Qbx d6;obtain⟨N,i,a9⟩:∃N,QWi=N/\true=N:=⟨_,rfl,knownB_true.symm⟩;rw[i];unfold QWi at i;have G:∀{c:Bool}{As:List HP},c=N->Ent B As (Ret B (ss:=[.bool]) (fun t Bs=>t.1=N/\Bs=[]) (c,())):=fun h=>QAd (l:=[]) (QAD ⟨h,rfl⟩);unfold QI1;refine xcl (QTJ 1) rdb ?_;rintro⟨r,f1,f2,f3,f4,f5,s,_⟩ _ ⟨h1,H,b6,b7,b8,P,rfl⟩;simp only at h1 H b6 b7 b8 P;subst h1 H b6 b7 b8 P;refine QAz (ca7 ?_);refine xcl (QMG (QIM 1) s 100000) rdb ?_;have a8:=@QbF (QIM 1) 100000
 generalize QK8 (QIM 1) 100000=X at *
 rintro⟨q,_⟩ _ h;rcases h with⟨R,rfl,rfl⟩|⟨k,b,M,g,a,R,rfl,c6,rfl⟩
 ·simp only at R;subst R;exact QA2 (ca1 (QAM (QCC rfl (QAM (QCC rfl (QCC rfl (G i)))))))
 simp only at R i;subst R;have a8:=a8 rfl;obtain⟨d,a'⟩:∃d,a.dev=d:=⟨_,rfl⟩;rw[a',<-a8];clear a8;refine QLk (ca1 (QAM (QBH rfl ?_)));refine xbn 0 fun p ls fs o hl=>xng (xgq ?_);refine QMn k s d (some ⟨g,0,none⟩) b p ls fs o hl ?_;clear o hl;unfold Qex at i;refine QAM (xif (fun h=>QCC rfl (G ?_)) (fun h=>?_))
 ·rw[We (.inl (On.1 h))]at i;exact i
 have c7:b.sent=1:=Si h
 refine xbn 0 fun p ls fs o hl=>xng (xgq ?_);refine QMn k s d (some ⟨g,0,none⟩) b p ls fs o hl ?_;clear o hl;refine xcl (QDd g a M) rdb ?_;rintro⟨J,d7,d8,d9,d',e0,e1,c,_⟩ _ ⟨L,rfl⟩;simp only at L;rw[<-L]at i;refine QFE (ca8 (xif (fun h=>G ?_) (fun h=>?_)))
 ·rw[We (.inr (Qi5 h))]at i;exact i
 rw[Wb (by
  intro z;rcases z with z|z
  ·exact z c7
  ·rw[show QiZ ⟨J,d7,d8,d9,d',e0,e1,c⟩ 1 1 0 0 1 1 0 false=true from QjF h]at z;cases z)]at i
 clear L h c7;refine QAb (BnO k s d (some ⟨g,0,none⟩) b::Ar Pn.TG s b.cf.tags::GwL g a M) ?_;obtain⟨hl,i⟩:=QRE i a9;refine xcl (QI8 k s d g a a' M b c6 0 1 Dc Dc Dc hl) rdb ?_;have b2:=QIA b M 0 1
 generalize QDJ b M 0 1=e6 at *
 obtain⟨u,O⟩:=e6;rintro _ _ ⟨b0,C,T,b9,A⟩;simp only at b2 b0 A;subst A;rw[<-b2];clear c6 a' b2;refine QLk (ca1 ?_);refine xbn 0 fun p ls fs o hl=>xng (xgS ls ?_);refine QB6 1 (P1:=QAt p) (fun f d0=>QMh hl.last d0) fun d1=>?_;unfold QeY at i;simp only at i;refine QAV (fun(c:Bool) As'=>(c=true↔(u.last.length≠8\/u.last.take 6≠[1,4,0,5,0,1]))/\As'=BnO k s d (some ⟨C,0,none⟩) u::Ar Pn.TG s u.cf.tags::GwL C T O) (fun K D=>?_) ?_
 ·refine xif (fun h=>?_) (fun h=>?_)
  ·refine QMn k s d (some ⟨C,0,none⟩) u p ls fs o hl ?_;have h:=On.1 h;exact QAK (BnO k s d (some ⟨C,0,none⟩) u::Ar Pn.TG s u.cf.tags::GwL C T O) (D _ _ ⟨⟨fun _=>.inl Om,fun _=>rfl⟩,rfl⟩)
  ·have h:(ls.n:Int)=8:=Si h
   refine xng (xgS ls ?_);refine QEi Om Om Om Om (QAL fun j=>?_);refine QAg (Q:=Ar U8 ⟨some ⟨j,0,none⟩,6,6⟩ [1,4,0,5,0,1]) 0 (fun g d2=>⟨[],QAp [1,4,0,5,0,1] 6 rfl rfl d2⟩) ?_
   refine xcl (QFd (ls.cut 0 6 ls.c 1) ⟨some ⟨j,0,none⟩,6,6⟩ (u.last.take 6) [1,4,0,5,0,1] (by rw[Ww];omega)) (QDY (fun w a b c d e f g=>by
    have:=(QKb (B:=B) hl.last 2 w a b c d e f g).cut 0 6 ls.c Om Om Om
    exact this) rdb) ?_
   rintro⟨f6,_⟩ _ ⟨b',rfl⟩;simp only at b';subst b';refine QA2 (ca1 ?_);refine QMn k s d (some ⟨C,0,none⟩) u p ls fs o hl ?_;refine QAK (BnO k s d (some ⟨C,0,none⟩) u::Ar Pn.TG s u.cf.tags::GwL C T O) (D _ _ ⟨?_,rfl⟩);rw[W2,Wx];exact⟨.inr,fun z=>z.resolve_left fun y=>y Om⟩
 rintro c _ ⟨hc,rfl⟩;refine xif (fun h=>G ?_) (fun h=>?_)
 ·rw[We (hc.1 h)]at i;exact i
 rw[Wb (fun z=>by rw[hc.2 z]at h;cases h)]at i;clear hc h;obtain⟨hl,i⟩:=QRE i a9;refine xcl (QI8 k s d C T b9 O u b0 2 7 Dc Dc Dc hl) rdb ?_;have b3:=QIA u O 2 7
 generalize QDJ u O 2 7=e7 at *
 obtain⟨j,x⟩:=e7;rintro _ _ ⟨c0,v,a2,e2,A⟩;simp only at b3 c0 A;subst A;rw[<-b3];clear b0 b9 b3 d1;refine QLk (ca1 ?_);refine xbn 0 fun p ls fs o hl=>xng (xgq ?_);refine QMn k s d (some ⟨v,0,none⟩) j p ls fs o hl ?_;clear o hl;refine xcl (QQF v a2 x) rdb ?_;rintro⟨f7,_⟩ _ ⟨c1,rfl⟩;simp only at c1;subst c1;refine QFE (ca1 ?_);refine QG8 1 fun b5=>?_;refine xcl (QFu a2.log a2.dev x.k.log 1 ⟨Dc,Dc⟩) rdb ?_;rintro⟨U,f8,_⟩ _ ⟨P,rfl⟩;simp only at P;subst P;refine QBK (ca2 ?_);refine QCh a2.dev a2.log a2.idx x.k b5 ?_;have c8:=QJe b5.ldev.log 1;unfold Qel at i
 generalize QCc x.k.log 1=e8 at *
 obtain⟨m,J⟩:=e8;simp only at i c8|-;refine QAb (Ar U8 U m::BnO k s d (some ⟨v,0,none⟩) j::Ar Pn.TG s j.cf.tags::GwL v a2 x) ?_;refine QCl (E:=U8) (xs:=m) U fun f0 d3=>?_;refine xcl (QUp U m d3 Om) rdb ?_;rintro⟨t0,f9,t2,t3,t4,t5,_⟩ _ e3;obtain⟨rfl,rfl,rfl,rfl,rfl,rfl,rfl⟩:=e3;refine QA2 (Pn.ca6 (QAL fun d4=>?_));iterate 5 (refine xsq ?_)
 refine QAb (Blk d4 [.I (QD1 m).1.kind,.I (QD1 m).1.time,.string (QD1 m).1.tag,.I (QD1 m).1.val,.I (QD1 m).1.id]::Ar U8 U m::BnO k s d (some ⟨v,0,none⟩) j::Ar Pn.TG s j.cf.tags::GwL v a2 x) ?_;refine QAV (fun(c:Bool) As'=>(c=true↔(J≠0\/(QD1 m).2≠0\/Qfk (QD1 m).1 1 1 tName 7 0=false))/\As'=BnO k s d (some ⟨v,0,none⟩) j::Ar Pn.TG s j.cf.tags::GwL v a2 x) (fun K D=>?_) ?_
 ·refine xif (fun h=>?_) (fun h=>?_)
  ·refine QAK (BnO k s d (some ⟨v,0,none⟩) j::Ar Pn.TG s j.cf.tags::GwL v a2 x) (D _ _ ⟨⟨fun _=>?_,fun _=>rfl⟩,rfl⟩);rcases Bool.or_eq_true_iff.1 h with h|h
   ·exact .inl (On.1 h)
   ·exact .inr (.inl (On.1 h))
  ·iterate 5 (refine xgq ?_)
   refine QAK (BnO k s d (some ⟨v,0,none⟩) j::Ar Pn.TG s j.cf.tags::GwL v a2 x) (D _ _ ⟨?_,rfl⟩);obtain⟨h1,H⟩:=O0.1 h
   have h1:J=0:=Si h1
   have H:(QD1 m).2=0:=Si H
   rw[W2];exact⟨fun z=>.inr (.inr z),fun z=>(z.resolve_left fun y=>y h1).resolve_left fun y=>y H⟩
 rintro c _ ⟨hc,rfl⟩;refine xif (fun h=>G ?_) (fun h=>?_)
 ·rcases hc.1 h with z|z|z
  ·rw[We (.inl z)]at i;exact i
  ·rw[We (.inr z)]at i;exact i
  ·rw[We z]at i;by_cases q:J≠0\/(QD1 m).2≠0
   ·rw[We q]at i;exact i
   ·rw[Wb q]at i;exact i
 have b4:¬(J≠0\/(QD1 m).2≠0\/Qfk (QD1 m).1 1 1 tName 7 0=false):=fun z=>by rw[hc.2 z]at h;cases h
 rw[Wb (fun z=>b4 (z.imp id .inl)),Wb (fun z=>b4 (.inr (.inr z)))]at i;clear b4 hc h c8;unfold QeS at i;simp only at i;obtain⟨hl,i⟩:=QRE i a9;obtain⟨hl,c2⟩:=Bool.and_eq_true_iff.1 hl;refine xcl (QI8 k s d v a2 e2 x j c0 0 1 Dc Dc Dc hl) rdb ?_;have c9:=QIA j x 0 1
 generalize QDJ j x 0 1=e9 at *
 obtain⟨b1,c3⟩:=e9;rintro _ _ ⟨c4,g3,a3,e4,A⟩;simp only at c9 c4 A i c2;subst A;rw[<-c9];refine QLk (ca1 ?_);refine xcl (QI8 k s d g3 a3 e4 c3 b1 c4 4 0 Dc Dc Dc c2) rdb ?_
 generalize QDJ b1 c3 4 0=e' at *
 obtain⟨V,c5⟩:=e';rintro _ _ ⟨e5,g4,a4,f',A⟩;simp only at e5 A i;subst A;refine QLk (ca1 ?_);refine xbn 0 fun p ls fs o hl=>xng (xgq ?_);refine QMn k s d (some ⟨g4,0,none⟩) V p ls fs o hl ?_;refine xcl (QDd g4 a4 c5) rdb ?_;rintro⟨W,Y,Z,a0,a1,a5,a6,a7,_⟩ _ ⟨L,rfl⟩;simp only at L;unfold Qen at i;simp only at i;rw[<-L]at i;refine QFE (ca8 (QAL fun S=>?_));iterate 8 (refine xsq ?_)
 refine QAb (Blk S [.I W,.I Y,.I Z,.I a0,.I a1,.I a5,.I a6,.bool a7]::BnO k s d (some ⟨g4,0,none⟩) V::Ar Pn.TG s b1.cf.tags::GwL g4 a4 c5) ?_;refine xbn 1 fun p ls fs o hl=>xng (xgq ?_);refine QAV (fun(c:Bool) As'=>c=(!V.wrong&&V.sent == 2)/\As'=[Blk S [.I W,.I Y,.I Z,.I a0,.I a1,.I a5,.I a6,.bool a7]]) (fun K D=>?_) ?_
 ·refine xif (fun h=>xng (xgq (QAK [Blk S [.I W,.I Y,.I Z,.I a0,.I a1,.I a5,.I a6,.bool a7]] (D _ _ ⟨?_,rfl⟩)))) (fun h=>QAK [Blk S [.I W,.I Y,.I Z,.I a0,.I a1,.I a5,.I a6,.bool a7]] (D _ _ ⟨?_,rfl⟩))
  ·rw[h];rfl
  ·rw[h];rfl
 rintro c _ ⟨hc,rfl⟩;rw[<-hc]at i;refine QAM (xif (fun h=>?_) (fun h=>G ?_))
 ·iterate 8 (refine xgq ?_)
  refine G ?_;rw[<-i,h];rfl
 ·rw[<-i,h];rfl
end Go.Cx
namespace Go.Cx.Cm
open Go.Cx
def Clm(m:DM):Prop:=m.armed=false/\m.down=false
structure ClmR(m:DM)(r:DM×Int):Prop where
 calm:Clm r.1
 err:r.2≠10
 room:r.1.room=m.room
theorem QEe{m:DM}(h:Clm m):QAr m=(m,true):=by
 unfold QAr;rw[h.1];rfl
theorem ClmR.same{m:DM}(h:Clm m){e:Int}(he:e≠10):ClmR m (m,e):=⟨h,he,rfl⟩
theorem ClmR.trans{m:DM}{x y:DM×Int}(h:ClmR m x)(g:ClmR x.1 y):ClmR m y:=⟨g.calm,g.err,g.room.trans h.room⟩
theorem append_calm{m:DM}(h:Clm m)(nm:ByteArray)(b:Ab):ClmR m (QAF m nm b)/\m.fs.length<=(QAF m nm b).1.fs.length:=by
 unfold QAF;rw[QEe h,h.2];simp only[K5,Wi,Oa];split
 ·exact⟨.same h Dc,Wt _⟩
 split
 ·exact⟨.same h Dc,Wt _⟩
 refine⟨⟨⟨h.1,h.2⟩,(show (0:Int)≠10 by decide),rfl⟩,?_⟩;rw[Ob];split
 ·exact Wt _
 ·unfold QK1;rw[Wd,Wl,Ww,Oc];omega
theorem QMW{m:DM}(h:Clm m)(nm:ByteArray){g:Nat->DF->DM->DM×Int}(a:∀i f,ClmR m (g i f m)):ClmR m (QBb m nm g):=by
 unfold QBb;rw[h.2];simp only[Wi,Oa];split
 ·exact .same h Dc
 ·exact a _ _
theorem QKw{m:DM}(h:Clm m){g:DM->DM}(h1:(g m).armed=false)(a:(g m).down=false)(b:(g m).room=m.room):ClmR m (QD3 m g):=by
 unfold QD3;rw[QEe h];exact⟨⟨h1,a⟩,(show (0:Int)≠10 by decide),b⟩
theorem sync_calm{m:DM}(h:Clm m)(nm:ByteArray):ClmR m (QA0 m nm):=QMW h nm fun i f=>QKw h h.1 h.2 rfl
theorem QeE{m:DM}(h:Clm m)(nm:ByteArray):(QA0 m nm).1.fs.length=m.fs.length:=by
 unfold QA0 QBb QD3
 (try simp only)
 rw[QEe h,h.2];simp only[K5,Wi,Oa];split
 ·rfl
 ·exact Ob
theorem QIv{m:DM}(h:Clm m)(nm:ByteArray):ClmR m (QAJ m nm):=QMW h nm fun i f=>QKw h h.1 h.2 rfl
theorem rename_calm{m:DM}(h:Clm m)(nm to:ByteArray):ClmR m (QBp m nm to):=by
 unfold QBp;split
 ·exact .same h Dc
 ·exact QMW h nm fun i f=>QKw h h.1 h.2 rfl
theorem drop_calm{m:DM}(h:Clm m)(nm:ByteArray):ClmR m (QAj m nm):=by
 have:=QIv h nm;unfold QAj;split
 ·exact⟨this.calm,(show (0:Int)≠10 by decide),this.room⟩
 ·exact this
theorem syncL_calm{m:DM}(h:Clm m)(l:LM):ClmR m ((QBP m l).1,(QBP m l).2.2)/\m.fs.length<=(QBP m l).1.fs.length:=by
 unfold QBP;rw[h.2];simp only[Wi,Oa];split
 ·exact⟨.same h (show (0:Int)≠10 by decide),Wt _⟩
 have:=sync_calm h (fN ((l.cur.map Sg.n).getD 0));have hl:=QeE h (fN ((l.cur.map Sg.n).getD 0));split
 ·exact⟨this,Nat.le_of_eq hl.symm⟩
 ·exact⟨⟨this.calm,(show (0:Int)≠10 by decide),this.room⟩,by show _<=(QA0 _ _).1.fs.length;omega⟩
theorem QTT{m:DM}(h:Clm m)(l:LM)(p:Ab):ClmR m ((QAy m l p).1,(QAy m l p).2.2.2)/\m.fs.length<=(QAy m l p).1.fs.length:=by
 unfold QAy;rw[h.2];simp only[Wi,Oa];split
 ·exact⟨.same h (show (2:Int)≠10 by decide),Wt _⟩
 split
 ·exact⟨.same h (show (12:Int)≠10 by decide),Wt _⟩
 have b:ClmR m ((if l.full=true then QBP m l else (m,l,0)).1,(if l.full=true then QBP m l else (m,l,0)).2.2)/\m.fs.length<=(if l.full=true then QBP m l else (m,l,0)).1.fs.length:=by
  split
  ·exact syncL_calm h l
  ·exact⟨.same h (show (0:Int)≠10 by decide),Wt _⟩
 generalize (if l.full=true then QBP m l else (m,l,0))=y at *
 obtain⟨b,c⟩:=b;split
 ·exact⟨b,c⟩
 obtain⟨d,e⟩:=append_calm b.calm (fN (if l.full=true then l.curN+1 else l.curN)) (QAY p)
 generalize QAF y.1 (fN (if l.full=true then l.curN+1 else l.curN)) (QAY p)=a at *
 split
 ·exact⟨b.trans d,Oq c e⟩
 ·exact⟨⟨d.calm,(show (0:Int)≠10 by decide),d.room.trans b.room⟩,Oq c e⟩
theorem QSX:∀(ss:List Sg) {m:DM},Clm m->ClmR m (QHD ss m)
 | [],m,h=>.same h Dc
 | s::r,m,h=>by
  have:=QIv h (fN s.n);unfold QHD;split
  ·exact this
  ·exact this.trans (QSX r this.calm)
theorem QeI{m:DM}(h:Clm m)(s:Sg):ClmR m (QVE m s):=by
 unfold QVE;have h1:=drop_calm h newN
 (try simp only)
 split
 ·exact h1
 have a:=(append_calm h1.calm newN (QAY (be8 s.n.toNat++be8 s.first.toNat))).1;split
 ·exact h1.trans a
 have b:=sync_calm a.calm newN;split
 ·exact h1.trans (a.trans b)
 ·exact h1.trans (a.trans (b.trans (rename_calm b.calm _ _)))
theorem trimL_calm{m:DM}(h:Clm m)(l:LM)(to keep:Int):ClmR m ((QC6 m l to keep).1,(QC6 m l to keep).2.2):=by
 unfold QC6;rw[h.2];simp only[Wi,Oa];split
 ·exact .same h (show (0:Int)≠10 by decide)
 have h1:=QeI h ((l.segs[QCi l to keep]?).getD ⟨0,0,0,[]⟩);split
 ·exact h1
 have a:=QSX (l.segs.take (QCi l to keep)) h1.calm;split
 ·exact h1.trans a
 ·exact⟨a.calm,(show (0:Int)≠10 by decide),(h1.trans a).room⟩
theorem saveC_calm{m:DM}(h:Clm m)(c:Cu):ClmR m (Csr.saveM m c):=by
 unfold Csr.saveM;have h1:=QIv h Csr.newCu;have a:=(append_calm h1.calm Csr.newCu (Csr.fileC c)).1;have b:=sync_calm a.calm Csr.newCu;split
 ·exact .same h Dc
 split
 ·rename_i q;exact absurd q h1.err
 split
 ·exact⟨a.calm,a.err,a.room.trans h1.room⟩
 split
 ·exact⟨b.calm,b.err,b.room.trans (a.room.trans h1.room)⟩
 ·have d:=rename_calm b.calm Csr.newCu Csr.curN;exact⟨d.calm,d.err,d.room.trans (b.room.trans (a.room.trans h1.room))⟩
theorem QZy{k:Kn}(h:Clm k.dev)(clock:Int)(r:RE):ClmR k.dev ((QHX clock k r).1.dev,(QHX clock k r).2)/\k.dev.fs.length<=(QHX clock k r).1.dev.fs.length:=by
 have:=QTT h k.log (QLb { r with time:=clock }).1;unfold QHX
 (try simp only)
 split
 ·rename_i q;exact⟨⟨this.1.calm,(show (0:Int)≠10 by decide),this.1.room⟩,this.2⟩
 ·exact this
end Go.Cx.Cm
