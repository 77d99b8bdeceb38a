/-
The tree of keys: what its calls do.
-/
import Derived.Test.YthbhbkjkclhkgaaGreatDoorDK
import Derived.Test.YthbhbkjkclhkgaaGreatDoorA3
import Derived.Test.YthbhbkjkclhkgaaGreatDoorS1
set_option linter.unusedSimpArgs false
set_option linter.unusedVariables false
set_option maxRecDepth 100000
set_option maxHeartbeats 2000000
open Go Go.Cf
namespace Go.Cx
variable {B:QBJ}{As F:List HP}
def KE:Enc KY:=⟨fun k=>[.I k.1,.I k.2],2,fun _=>rfl,fun x v h=>by simp at h;rcases h with rfl|rfl<;>rfl,Dc,(0,0)⟩
def PE:Enc Ac:=⟨fun a=>[.pointer a],1,fun _=>rfl,fun x v h=>by simp at h;subst h;rfl,Dc,none⟩
theorem QPm(a b:KY):Ct Pr 445 [.agg #[.I a.1,.I a.2],.agg #[.I b.1,.I b.2]] .one [.bool] [] emp (fun t Bs=>t.1=ltK a b/\Bs=[]):=by
 refine sp1 (QPT _ _ _ _) fun B _=>?_;have d:∀{x:Bool}{As:List HP},x=ltK a b->Ent B As (Ret B (ss:=[.bool]) (fun t Bs=>t.1=ltK a b/\Bs=[]) (x,())):=fun h=>QAd (l:=[]) (QAD ⟨h,rfl⟩);unfold QPT mf;dsimp only;refine QAL fun f=>QAL fun g=>xgq (xgq (QAM (QAB (fun h=>d ?_) (fun h=>xgq (xgq (QAM (xif (fun c=>xgq (xgq (d ?_))) (fun c=>d ?_))))))))
 ·unfold ltK;simp[h]
 ·have e:a.1=b.1:=Si c
  unfold ltK;simp[h,e]
 ·have e:a.1≠b.1:=Si c
  unfold ltK;simp[h,e]
theorem QWw{ks:List KY}{k y:KY}{j:Nat}(h:j<=plK ks k)(a:ks[j]? = some y)(hl:ltK y k=true):j+1<=plK ks k:=by
 rcases Zb j (plK ks k) with h1|h1
 ·exact h1
 ·obtain rfl:j=plK ks k:=Om
  rw[QPA a]at hl;cases hl
theorem QRA{ks:List KY}{k y:KY}{j:Nat}(h:j<=plK ks k)(a:ks[j]? = some y)(hl:ltK y k=false):plK ks k=j:=by
 rcases Zb j (plK ks k) with h1|h1
 ·rw[QXH j y h1 a]at hl;cases hl
 ·omega
theorem QNE(b:Nat)(s:Sl)(v c:Value)(l:List KY)(k:KY)(hl:l.length<=1000):Ct Pr 360 [.pointer (some ⟨b,0,none⟩),.agg #[.I k.1,.I k.2]] (.tup [none,none]) [.I,.bool] [Blk b [s.v,v,c],Ar KE s l] emp
  (fun t Bs=>t.1=(plK l k:Int)/\t.2.1=decide (l[plK l k]? = some k)/\Bs=[Blk b [s.v,v,c],Ar KE s l]):=by
 refine Qhp QKf fun B _=>?_;unfold QHQ;refine QAL fun g=>?_;refine QCl (E:=KE) (xs:=l) s fun hn _=>?_;refine QBa (fun n x As'=>∃j:Nat,x=(j:Int)/\n=l.length - j/\j<=plK l k/\As'=[Blk g [.I k.1,.I k.2],Blk b [s.v,v,c],Ar KE s l]) l.length ⟨0,rfl,rfl,Om,rfl⟩ ?_;rintro n x As' K ⟨j,rfl,rfl,hj,rfl⟩ o;have r:=QK0 l k;refine QAP (QAV (fun(f:Bool) As'=>(f=true->j+1<=plK l k)/\(f=false->plK l k=j)/\As'=[Blk g [.I k.1,.I k.2],Blk b [s.v,v,c],Ar KE s l]) (fun q i=>?_) ?_)
 ·refine QAO (xgq (QAB (fun h=>?_) (fun h=>?_)))
  ·have d:j<l.length:=Om
   have u:=Wa d;refine QAO (xgq ?_);refine QAH (E:=KE) (xs:=l) (s:=s) (h1:=d) (h:=fun y a=>?_);refine QAN (E:=KE) (xs:=l) a (h:=?_);refine QAa (E:=KE) (xs:=l) a (h:=xgq (xgq ?_));refine QAS (QPm y k) rdb ?_;rintro⟨t,_⟩ _ ⟨m,rfl⟩;simp only at m;subst m;exact QA2 (ca1 (i _ _ ⟨fun e=>QWw hj a e,fun e=>QRA hj a e,rfl⟩))
  ·exact i _ _ ⟨fun e=>(by cases e),fun _=>Om,rfl⟩
 ·rintro f As2 ⟨h1,p,rfl⟩;refine xif (fun h=>?_) (fun h=>?_)
  ·have:=h1 h;rw[QAE j Om];exact o _ _ _ Om ⟨j+1,rfl,rfl,Om,rfl⟩
  ·have e:=p h;refine QAP (QAM (QAO (xgq (QAB (fun h=>?_) (fun h=>?_)))))
   ·have d:j<l.length:=Om
    refine QAO (xgq ?_);refine QAH (E:=KE) (xs:=l) (s:=s) (h1:=d) (h:=fun y a=>?_);refine QAN (E:=KE) (xs:=l) a (h:=?_);refine QAa (E:=KE) (xs:=l) a (h:=xgq (xgq ?_));refine QCD 0 (QAD ⟨by rw[e],?_,rfl⟩);rw[e,a,Oo];simp[Prod.ext_iff]
   ·refine QCD 0 (QAD ⟨by rw[e],?_,rfl⟩);rw[e,Ui Om];simp
def QS4{α:Type}(xs:List α)(i:Nat)(x:α):List α:=(xs++[x]).take (i+1)++xs.drop i
theorem QVI{α:Type}{xs:List α}{i:Nat}{x:α}(h:i<=xs.length):(QS4 xs i x).set i x=QA1 xs i x:=by
 apply Uf;intro j;unfold QS4 QA1;rcases Nat.lt_trichotomy j i with hj|hj|hj
 ·rw[Oy Om,Wj (by simp;omega),Ut Om,Wj Om,Wj (by simp;omega),Ut hj]
 ·subst hj;rw[Wy (by simp;omega),Wr (by simp;omega),Ww,Ow h];simp
 ·rw[Oy Om,Wr (by simp;omega),Wr (by simp;omega)];simp only[Ww,Wd,W8,Ow h];rw[Ow Om,show j - i=(j - (i+1))+1 by omega,Kw]
theorem QVT{α:Type}{xs:List α}{i:Nat}{x:α}(h:i<=xs.length):∃y,(QS4 xs i x)[i]? = some y:=⟨_,Wa (by unfold QS4;simp;omega)⟩
theorem QiW{P:Program}{t ty e:TypeId}{sz u:Nat}{z:Ad}[a:QJH P t e sz u z]{α:Type}{E:Enc α}{s:Sl}{xs:List α}{x:α}{i:Nat}{K:Int->WP}(hi:i<=xs.length)(C:xs.length<4611686018427387904)(hsz:E.sz=sz:=by rfl)
  (h:∀n,Ent B (Ar E s (QS4 xs i x)::F) (K n)):Ent B (Ar E s (xs++[x])::F) (QOx s (IntKind.i64.wrap ((i:Int)+1)) s.n s.c sz fun d=>QOx s (i:Int) s.n s.c sz fun f=>QdQ P t t ty d.v f.v fun n=>K n):=by
 subst hsz;refine QCl (E:=E) (xs:=xs++[x]) s fun hn hc=>?_
 have y:xs.length+1=s.n:=Si hn
 rw[QAC _ Om Om];refine Qhx 0 fun zs _ j=>?_;refine QEi Om Om Om Om ?_;refine QEi Om Om Om Om ?_
 have o:((i:Int)+1).toNat=i+1:=Om
 rw[o,show ((i:Int)).toNat=i by omega,show ((s.n:Int)).toNat=s.n by omega,show ((s.c:Int)).toNat=s.c by omega]
 have A:xs.length+1+zs.length=s.c:=Si j
 have p:((xs++[x]).drop i).length=xs.length+1 - i:=by simp
 have b:min ((xs++[x]).drop i).length (s.n - (i+1))=xs.length - i:=by rw[p];omega
 refine QSW (E:=E) (ys:=(xs++[x]).drop i) (xs:=xs++[x]) (zs:=zs) (fun w k=>?_) (QS4 xs i x) zs rfl hc ?_ ?_ ?_ (fun n=>xar (h n))
 ·obtain⟨g,l,m⟩:=k.head;have:=(l.read.mono m).cut i s.n s.c Om hc (by simp;omega);rw[Wn (by simp;omega)]at this;exact this
 ·rw[b];simp;omega
 ·unfold QS4;simp;omega
 ·rw[b,U6 (l₁:=xs++[x]) (by simp;omega)]
  have q:((xs++[x]).drop i).take (xs.length - i)=xs.drop i:=by
   rw[Kz hi,U6 (by simp),Wn (by simp)]
  have r:(xs++[x]++zs).drop (i+1+(xs.length - i))=zs:=by
   rw[show i+1+(xs.length - i)=(xs++[x]).length by simp;omega,Z0]
  rw[q,r];rfl
theorem QTX(s:Sl)(l:List KY)(i:Nat)(k:KY)(hi:i<=l.length)(j:l.length<=1000):Ct Pr 361 [s.v,.I (i:Int),.agg #[.I k.1,.I k.2]] .one [.slice] [Ar KE s l] emp (fun t Bs=>Bs=[Ar KE t.1 (QA1 l i k)]):=by
 refine sp1 (QGJ _ _ _ _) fun B _=>?_;unfold QGJ mf;dsimp only;refine QAL fun b=>xgq (xgq (QAL fun g=>?_));refine QE4 (E:=KE) k (hb:=Om) (h:=fun f=>QAP ?_);refine QFt 1 ?_;refine QiW (E:=KE) hi Om (h:=fun n=>?_);refine xgq (xgq ?_);obtain⟨y,c⟩:=QVT (x:=k) hi;have e:i<(QS4 l i k).length:=(Wc.1 c).1;refine QAH (E:=KE) (xs:=QS4 l i k) (s:=f) (h1:=e) (h:=fun a d=>?_)
 obtain rfl:a=y:=by rw[c]at d;exact (W3 d).symm
 refine QIJ (E:=KE) (xs:=QS4 l i k) (k.1,a.2) c (hv:=rfl) (h:=?_);refine QDB (E:=KE) (xs:=(QS4 l i k).set i (k.1,a.2)) (x:=(k.1,a.2)) k (Wy e) (hj:=Dc) (hv:=rfl) (h:=?_);rw[Zc,QVI hi];exact QCD 1 (QAD rfl)
theorem QSA(s:Sl)(l:Ae)(i:Nat)(k:Int)(hi:i<=l.length)(g:l.length<=1000):Ct Pr 362 [s.v,.I (i:Int),.I k] .one [.slice] [Ar I64 s l] emp (fun t Bs=>Bs=[Ar I64 t.1 (QA1 l i k)]):=by
 refine sp1 (QJp _ _ _) fun B _=>?_;unfold QJp mf;dsimp only;refine QAL fun b=>?_;refine QE4 (E:=I64) k (hb:=Om) (h:=fun a=>QAP ?_);refine QiW (E:=I64) hi Om (h:=fun n=>?_);obtain⟨y,d⟩:=QVT (x:=k) hi;have e:i<(QS4 l i k).length:=(Wc.1 d).1;refine QAH (E:=I64) (xs:=QS4 l i k) (s:=a) (h1:=e) (h:=fun f c=>?_);refine QIJ (E:=I64) (xs:=QS4 l i k) k c (hv:=rfl) (h:=?_);rw[QVI hi];exact QAD rfl
theorem QbD(s:Sl)(l:List Ac)(i:Nat)(k:Ac)(hi:i<=l.length)(g:l.length<=1000):Ct Pr 444 [s.v,.I (i:Int),.pointer k] .one [.slice] [Ar PE s l] emp (fun t Bs=>Bs=[Ar PE t.1 (QA1 l i k)]):=by
 refine sp1 (QEK _ _ _) fun B _=>?_;unfold QEK mf;dsimp only;refine QAL fun b=>?_;refine QE4 (E:=PE) k (hb:=Om) (h:=fun a=>QAP ?_);refine QiW (E:=PE) hi Om (h:=fun n=>?_);obtain⟨y,d⟩:=QVT (x:=k) hi;have e:i<(QS4 l i k).length:=(Wc.1 d).1;refine QAH (E:=PE) (xs:=QS4 l i k) (s:=a) (h1:=e) (h:=fun f c=>?_);refine QIJ (E:=PE) (xs:=QS4 l i k) k c (hv:=rfl) (h:=?_);rw[QVI hi];exact QAD rfl
theorem Ars.clip{α:Type}{E:Enc α}{p:Ac}{n c:Nat}{xs zs:List α}{h:QBs}(j:Ars E ⟨p,n,c⟩ xs zs h)(r:Nat)(l:r<=xs.length)(h0:0<r):Ars E ⟨p,r,r⟩ (xs.take r) [] h:=by
 obtain⟨h1,f,a⟩:=j;simp only at h1 f a;refine⟨by simp;omega,by simp;omega,?_⟩;rcases a with⟨_,h⟩|⟨b,o,pre,post,e,fr,g,hb,i,hfr,k⟩
 ·omega
 ·have d:pre++QAi E (xs.take r++[])++(QAi E (xs.drop r++zs)++post)=pre++QAi E (xs++zs)++post:=by
   have:QAi E (xs++zs)=QAi E (xs.take r)++QAi E (xs.drop r++zs):=by rw[<-QAU,<-Wk,Wu]
   rw[this,Oi];simp only[Wk]
  exact .inr ⟨b,o,pre,QAi E (xs.drop r++zs)++post,e,fr,g,by rw[d];exact hb,i,by rw[d];exact hfr,by simp only;omega⟩
theorem Qfq{α:Type}{E:Enc α}{s:Sl}{xs:List α}{r sz:Nat}{b:Int}{upd:Sl->List α->List HP}{rest:List HP}[o:OwnA s As E xs upd rest]{K:Sl->WP}(f:b=(r:Int))(h0:0<r)(i:r<=xs.length)(h:Ent B (upd ⟨s.p,r,r⟩ (xs.take r)) (K ⟨s.p,r,r⟩)):Ent B As (QOx s 0 b b sz K):=by
 subst f;refine QCl (E:=E) (xs:=xs) s fun hn hc=>?_;refine QEi Om Om Om Om ?_
 have e:s.cut (0:Int).toNat ((r:Int)).toNat ((r:Int)).toNat sz=⟨s.p,r,r⟩:=by
  unfold Sl.cut;rw[show ((r:Int)).toNat=r by omega,Wb (by simp;omega)];cases s.p<;>simp[Addr.add]
 rw[e];refine Ent.perm o.start (QId (fun g d=>?_) h);refine QFx (o.perm _ _).symm (QA6 (fun q a=>?_) d);obtain⟨zs,a⟩:=a;obtain⟨p,n,c⟩:=s;exact⟨[],Ars.clip a r i h0⟩
theorem QNA{α:Type}{E:Enc α}{s:Sl}{xs:List α}{sz:Nat}{upd:Sl->List α->List HP}{rest:List HP}[o:OwnA s As E xs upd rest](l:Nat)(hl:l<=xs.length)(hsz:E.sz=sz:=by rfl):RdA B As (s.cut l s.n s.c sz) E (xs.drop l):=⟨fun w b=>by
 subst hsz;obtain⟨g,a,d⟩:=(b.perm o.start).head;have hn:=a.read.1;obtain⟨zs,e⟩:=id a;have:=(a.read.mono d).cut l s.n s.c Om e.cap Om;rw[Wn Om]at this
 exact this⟩
def PageR{α:Type}(R:Ac->α->HP)(p:Ac)(pg:Pg α):HP:=fun h=>∃b ks vs cs kp,p=some ⟨b,0,none⟩/\QBr [Blk b [ks.v,vs.v,cs.v],Ar KE ks pg.ks,Ar I64 vs pg.vs,Ar PE cs kp,Each R kp pg.kids] h
def ER:Ac->Empty->HP:=fun _ e=>e.elim
def PageO:(n:Nat)->Ac->PT n->HP
 | 0=>fun p (pg:Pg Empty)=>PageR ER p pg
 | n+1=>fun p (pg:Pg (PT n))=>PageR (PageO n) p pg
theorem QU4(i:Nat){α:Type}{R:Ac->α->HP}{p:Ac}{pg:Pg α}{F:List HP}[q:Pick i As (PageR R p pg) F]{φ:WP}
  (k:∀b ks vs cs kp,p=some ⟨b,0,none⟩->kp.length=pg.kids.length->cs.n=pg.kids.length->Ent B (Blk b [ks.v,vs.v,cs.v]::Ar KE ks pg.ks::Ar I64 vs pg.vs::Ar PE cs kp::Each R kp pg.kids::F) φ):Ent B As φ:=by
 refine Ent.perm q.perm ?_;rintro w ⟨g,⟨a,c,⟨b,ks,vs,cs,kp,f,e⟩,h,d,j,l⟩,m,o⟩
 have hl:kp.length=pg.kids.length/\cs.n=pg.kids.length:=by
  obtain⟨_,_,_,⟨_,_,_,⟨_,_,_,⟨_,_,r,⟨_,_,s,_⟩,_⟩,_⟩,_⟩,_⟩:=e;have:=s.length;exact⟨this,by rw[<-r.read.1,this]⟩
 exact k b ks vs cs kp f hl.1 hl.2 w ⟨g,(QAl [_,_,_,_,_] F).2 ⟨a,c,e,h,d,j,l⟩,m,o⟩
theorem QB0(b:Nat)(ks vs cs:Sl)(kp:List Ac){α:Type}{R:Ac->α->HP}{pg:Pg α}{G:List HP}[q:Split [Blk b [ks.v,vs.v,cs.v],Ar KE ks pg.ks,Ar I64 vs pg.vs,Ar PE cs kp,Each R kp pg.kids] As G]{φ:WP}
  (k:Ent B (PageR R (some ⟨b,0,none⟩) pg::G) φ):Ent B As φ:=
 QBO [Blk b [ks.v,vs.v,cs.v],Ar KE ks pg.ks,Ar I64 vs pg.vs,Ar PE cs kp,Each R kp pg.kids] (PageR R (some ⟨b,0,none⟩) pg) (fun g a=>⟨b,ks,vs,cs,kp,rfl,a⟩) k
theorem QNe{α j:Type}{R:α->j->HP}{x:α}{y:j}:∀{xs:List α}{ys:List j}{i:Nat}{h:QBs},i<=xs.length->QBr [R x y,Each R xs ys] h->Each R (QA1 xs i x) (QA1 ys i y) h
 | [],ys,i,h,hi,hh=>by
  obtain⟨a,b,k,⟨c,d,f,_,_,p,_⟩,l,m,n⟩:=hh
  cases ys with
  | cons=>exact f.elim
  | nil=>
   obtain rfl:i=0:=Si hi
   exact⟨a,b,k,QCe (P:=Each R [] []) trivial,l,m,n⟩
 | x'::xs,[],i,h,hi,hh=>by
  obtain⟨a,b,k,⟨c,d,f,_⟩,_⟩:=hh;exact f.elim
 | x'::xs,y'::ys,0,h,hi,hh=>hh
 | x'::xs,y'::ys,i+1,h,hi,hh=>by
  have h1:QBr ([R x' y',Each R xs ys]++[R x y]) h:=QF1 (fun g e=>e) (QDz hh);have o:QBr [R x' y',R x y,Each R xs ys] h:=QBC (fun g e=>QDz e) h1;exact QBC (l':=[Each R (QA1 xs i x) (QA1 ys i y)]) (fun g e=>QCe (QNe (Si hi) e)) o
theorem QMS{α d:Type}{R:α->d->HP}:∀{xs:List α}{ys:List d}(n:Nat) {h:QBs},Each R xs ys h->QBr [Each R (xs.take n) (ys.take n),Each R (xs.drop n) (ys.drop n)] h
 | [],[],n,h,hh=>by simp only[List.take_nil,List.drop_nil];exact⟨fun _=>none,h,trivial,QCe trivial,fun _=>.inl rfl,fun _ _ e=>(by cases e),Sub.refl _⟩
 | [],_::_,n,h,hh=>hh.elim
 | _::_,[],n,h,hh=>hh.elim
 | x::xs,y::ys,0,h,hh=>⟨fun _=>none,h,trivial,QCe hh,fun _=>.inl rfl,fun _ _ e=>(by cases e),Sub.refl _⟩
 | x::xs,y::ys,n+1,h,hh=>by
  have h1:QBr [R x y,Each R (xs.take n) (ys.take n),Each R (xs.drop n) (ys.drop n)] h:=QBC (fun g c=>by
   obtain⟨a,b,f,_,_,i,_⟩:=c
   exact QCn _ (QMS n f) i) hh
  have j:QBr ([R x y,Each R (xs.take n) (ys.take n)]++[Each R (xs.drop n) (ys.drop n)]) h:=h1;exact QDf (l:=[R x y,Each R (xs.take n) (ys.take n)]) (P:=Each R ((x::xs).take (n+1)) ((y::ys).take (n+1))) (fun g c=>c) j
abbrev QUk{α:Type}(k:Pg α):Pg α:=⟨k.ks.take 7,k.vs.take 7,k.kids.take 8⟩
abbrev Qab{α:Type}(k:Pg α):Pg α:=⟨k.ks.drop 8,k.vs.drop 8,k.kids.drop 8⟩
abbrev QbN{α:Type}(pg:Pg (Pg α))(i:Nat)(a:Pg α)(m:KY)(v:Int):Pg (Pg α):=⟨QA1 pg.ks i m,QA1 pg.vs i v,QA1 (pg.kids.set i (QUk a)) (i+1) (Qab a)⟩
theorem QOo{α:Type}(R:Ac->α->HP)(p:Ac)(pg:Pg (Pg α))(i:Nat)(a:Pg α)(m:KY)(v:Int)(X:pg.kids[i]? = some a)(c2:a.ks.length=15)(c3:a.vs.length=15)(a8:a.kids=[]\/a.kids.length=16)
  (a9:a.ks[7]? = some m) (hv:a.vs[7]? = some v) (c4:pg.ks.length<=100) (c5:pg.vs.length=pg.ks.length) (c6:pg.kids.length=pg.ks.length+1) :
  Ct Pr 359 [.pointer p,.I (i:Int),.I 8] (.tup []) [] [PageR (PageR R) p pg] emp (fun t Bs=>Bs=[PageR (PageR R) p (QbN pg i a m v)]):=by
 refine sp0 (QHb _ _ _) fun B _=>?_;unfold QHb mf;dsimp only;have hi:i<pg.kids.length:=(Wc.1 X).1;refine QU4 0 fun b ks vs cs kp Y a' b0=>?_;subst Y;obtain⟨q,T⟩:∃q,kp[i]? = some q:=⟨_,Wa Om⟩;refine Qc1 4 (P1:=Each (PageR R) kp pg.kids) [PageR R q a,Each (PageR R) (kp.eraseIdx i) (pg.kids.eraseIdx i)] (fun g o=>QCA o T X) (QBK ?_);refine QU4 0 fun C f d w k Z b1 b2=>?_;subst Z;refine QAO (xgq ?_);refine QAH (E:=PE) (xs:=kp) (s:=cs) (h1:=Om) (h:=fun b3 b4=>?_);refine QAN (E:=PE) (xs:=kp) T (h:=QAP ?_)
 have a3:IntKind.i64.wrap ((8:Int) - 1)=((7:Nat):Int):=Dc
 rw[a3];refine QCl (E:=KE) (xs:=a.ks) f fun b5 b6=>?_;refine QCl (E:=I64) (xs:=a.vs) d fun b7 b8=>?_
 refine QAV (fun(right:Ac) As'=>∃H L M,right=some ⟨H,0,none⟩/\As'=[Blk H [(L:Sl).v,(M:Sl).v,.slice none 0 0],Ar KE L (a.ks.drop 8),Ar I64 M (a.vs.drop 8),Blk b [ks.v,vs.v,cs.v],Ar KE ks pg.ks,Ar I64 vs pg.vs,Ar PE cs kp,Each (PageR R) (kp.eraseIdx i) (pg.kids.eraseIdx i),
   Blk C [f.v,d.v,w.v],Ar KE f a.ks,Ar I64 d a.vs,Ar PE w k,Each R k a.kids]) (fun U N=>?_) ?_
 ·refine QAO (xgq ?_);refine QEi Om Om Om Om ?_;refine QAO (xgq ?_);refine QEi Om Om Om Om ?_;rw[show (8:Int).toNat=8 from rfl,show ((f.n:Int)).toNat=f.n by omega,show ((f.c:Int)).toNat=f.c by omega,show ((d.n:Int)).toNat=d.n by omega,show ((d.c:Int)).toNat=d.c by omega]
  have W:∀(x z:Nat),Ent B [Blk x [],Blk z [],Blk C [f.v,d.v,w.v],Ar KE f a.ks,Ar I64 d a.vs,Ar PE w k,Each R k a.kids,Each (PageR R) (kp.eraseIdx i) (pg.kids.eraseIdx i),Blk b [ks.v,vs.v,cs.v],Ar KE ks pg.ks,Ar I64 vs pg.vs,Ar PE cs kp]
    (QTn Pr 386 386 386 (.slice ((some ⟨z,0,none⟩)) 0 0) ((f.cut 8 f.n f.c 2).v) fun D=>QKR (⟨C,1,none⟩) (d.v)<|QTn Pr 161 161 161 (.slice ((some ⟨x,0,none⟩)) 0 0) ((d.cut 8 d.n d.c 1).v) fun G=>QCz [D.v,G.v,.slice none 0 0] 443 fun J=>U (some ⟨J,0,none⟩)):=by
   intro x z;refine QAg 1 (Q:=Ar KE ⟨some ⟨z,0,none⟩,0,0⟩ []) (fun g o=>⟨[],QAp [] 0 rfl rfl o⟩) ?_;refine QAg 1 (Q:=Ar I64 ⟨some ⟨x,0,none⟩,0,0⟩ []) (fun g o=>⟨[],QAp [] 0 rfl rfl o⟩) ?_;refine QHU (E:=KE) (s:=⟨some ⟨z,0,none⟩,0,0⟩) (r:=QNA (E:=KE) (s:=f) (xs:=a.ks) 8 Om) (hb:=by simp;omega) (h:=fun D=>QDK (h:=?_));refine QHU (E:=I64) (s:=⟨some ⟨x,0,none⟩,0,0⟩) (r:=QNA (E:=I64) (s:=d) (xs:=a.vs) 8 Om) (hb:=by simp;omega) (h:=fun G=>QAL fun J=>?_);rw[W6,W6]
   exact QAK [Blk J [D.v,G.v,.slice none 0 0],Ar KE D (a.ks.drop 8),Ar I64 G (a.vs.drop 8),Blk b [ks.v,vs.v,cs.v],Ar KE ks pg.ks,Ar I64 vs pg.vs,Ar PE cs kp,Each (PageR R) (kp.eraseIdx i) (pg.kids.eraseIdx i),
    Blk C [f.v,d.v,w.v],Ar KE f a.ks,Ar I64 d a.vs,Ar PE w k,Each R k a.kids] (N _ _ ⟨J,D,G,rfl,rfl⟩)
  refine QZK (QAL fun z=>QZK ?_ (QAL fun x=>?_)) (QAL fun x=>QAL fun z=>?_)
  ·refine QAg 0 (Q:=Ar KE ⟨some ⟨z,0,none⟩,0,0⟩ []) (fun g o=>⟨[],QAp [] 0 rfl rfl o⟩) ?_;refine QHU (E:=KE) (s:=⟨some ⟨z,0,none⟩,0,0⟩) (r:=QNA (E:=KE) (s:=f) (xs:=a.ks) 8 Om) (hb:=by simp;omega) (h:=fun D=>QDK (h:=?_));refine QAL fun x=>?_;refine QAg 0 (Q:=Ar I64 ⟨some ⟨x,0,none⟩,0,0⟩ []) (fun g o=>⟨[],QAp [] 0 rfl rfl o⟩) ?_;refine QHU (E:=I64) (s:=⟨some ⟨x,0,none⟩,0,0⟩) (r:=QNA (E:=I64) (s:=d) (xs:=a.vs) 8 Om) (hb:=by simp;omega) (h:=fun G=>QAL fun J=>?_);rw[W6,W6]
   exact QAK [Blk J [D.v,G.v,.slice none 0 0],Ar KE D (a.ks.drop 8),Ar I64 G (a.vs.drop 8),Blk b [ks.v,vs.v,cs.v],Ar KE ks pg.ks,Ar I64 vs pg.vs,Ar PE cs kp,Each (PageR R) (kp.eraseIdx i) (pg.kids.eraseIdx i),
    Blk C [f.v,d.v,w.v],Ar KE f a.ks,Ar I64 d a.vs,Ar PE w k,Each R k a.kids] (N _ _ ⟨J,D,G,rfl,rfl⟩)
  ·exact QGO (W x z)
  ·exact QGO (W x z)
 ·rintro right As2 ⟨H,L,M,rfl,rfl⟩;refine QAO (xgq ?_)
  have a4:1<=a.kids.length->a.kids.length=16:=fun h=>by
   rcases a8 with e|e
   ·rw[e]at h;simp at h
   ·exact e
  refine QBh (fun As'=>∃K S,As'=[Blk H [(L:Sl).v,(M:Sl).v,(K:Sl).v],Ar PE K (k.drop 8),Each R (k.drop 8) (a.kids.drop 8),Ar KE L (a.ks.drop 8),Ar I64 M (a.vs.drop 8),
   Blk C [f.v,d.v,(S:Sl).v],Ar PE S (k.take 8),Each R (k.take 8) (a.kids.take 8),Ar KE f a.ks,Ar I64 d a.vs,Blk b [ks.v,vs.v,cs.v],Ar KE ks pg.ks,Ar I64 vs pg.vs,Ar PE cs kp,Each (PageR R) (kp.eraseIdx i) (pg.kids.eraseIdx i)]) (fun U N=>?_) ?_
  ·refine QAB (fun h=>?_) (fun h=>?_)
   ·have c1:=a4 Om;refine QCl (E:=PE) (xs:=k) w fun b9 b'=>?_;refine QAL fun V=>?_;refine QAO (xgq ?_);refine QEi Om Om Om Om ?_;rw[show (8:Int).toNat=8 from rfl,show ((w.n:Int)).toNat=w.n by omega,show ((w.c:Int)).toNat=w.c by omega];refine QAg 0 (Q:=Ar PE ⟨some ⟨V,0,none⟩,0,0⟩ []) (fun g o=>⟨[],QAp [] 0 rfl rfl o⟩) ?_;refine QHU (E:=PE) (s:=⟨some ⟨V,0,none⟩,0,0⟩) (r:=QNA (E:=PE) (s:=w) (xs:=k) 8 Om) (hb:=by simp;omega) (h:=fun K=>?_);rw[W6];refine QAO (xsq (QAO (xgq ?_)));refine Qfq (E:=PE) (xs:=k) (s:=w) (r:=8) rfl Om Om ?_;refine QAO (xsq ?_);refine Qc1 13 (P1:=Each R k a.kids) [Each R (k.take 8) (a.kids.take 8),Each R (k.drop 8) (a.kids.drop 8)] (fun g o=>QMS 8 o) (QBK ?_);exact QGO (N _ ⟨K,⟨w.p,8,8⟩,rfl⟩)
   ·have a5:a.kids=[]:=Wm Om;have a6:k=[]:=Wm Om;refine QAf PE ?_;have:=N _ ⟨⟨none,0,0⟩,w,rfl⟩;rw[a5,a6]at this|-;simp only[List.drop_nil,List.take_nil]at this|-;rw[show (⟨none,0,0⟩:Sl).v=.slice none 0 0 from rfl]at this;refine QZM (A:=Each R [] []) trivial ?_;exact QGO this
  ·rintro As2 ⟨K,S,rfl⟩;refine QAP (QAO (xgq ?_));refine QAH (E:=KE) (xs:=a.ks) (s:=f) (h1:=Om) (h:=fun y O=>?_)
   obtain rfl:y=m:=by rw[a9]at O;exact (W3 O).symm
   refine QAN (E:=KE) (xs:=a.ks) O (h:=?_);refine QAa (E:=KE) (xs:=a.ks) O (h:=QAO (xgq ?_));refine QAH (E:=I64) (xs:=a.vs) (s:=d) (h1:=Om) (h:=fun u P=>?_)
   obtain rfl:u=v:=by rw[hv]at P;exact (W3 P).symm
   refine QAN (E:=I64) (xs:=a.vs) P (h:=?_);refine QAL fun c0=>xsq (xsq ?_);refine QOC (E:=I64) (xs:=a.vs) P (h:=QDK (h:=QAP (QAO (xgq ?_))));refine Qfq (E:=KE) (xs:=a.ks) (s:=f) (r:=7) rfl Om Om ?_;refine QAO (xgq ?_);refine Qfq (E:=I64) (xs:=a.vs) (s:=d) (r:=7) rfl Om Om ?_;refine QAO (xsq (QAO (xsq (QAP (QAO (xgq (xgq (xgq (QAO (xgq (QAO (xgq ?_))))))))))));refine xcl (QTX ks pg.ks i y Om Om) rdb ?_;rintro⟨a0,_⟩ _ rfl;refine QAz (ca1 (QDK (h:=QDK (h:=?_))));refine xcl (QSA vs pg.vs i u Om Om) rdb ?_;rintro⟨a1,_⟩ _ rfl;refine QAz (ca1 (QDK (h:=?_)));rw[QAE i Om];refine xcl (QbD cs kp (i+1) (some ⟨H,0,none⟩) Om Om) rdb ?_;rintro⟨a2,_⟩ _ rfl;refine QAz (ca1 (QAO (xsq (QAO (xsq (QAO (xsq ?_)))))));refine QB0 H L M K (k.drop 8) (pg:=Qab a) (R:=R) ?_;refine QB0 C ⟨f.p,7,7⟩ ⟨d.p,7,7⟩ S (k.take 8) (pg:=QUk a) (R:=R) ?_
   have a7:kp.set i (some ⟨C,0,none⟩)=kp:=by
    apply Uf;intro j;by_cases e:i=j
    ·subst e;rw[Wy Om,T]
    ·rw[Oy e]
   refine QBO [PageR R (some ⟨C,0,none⟩) (QUk a),Each (PageR R) (kp.eraseIdx i) (pg.kids.eraseIdx i)] (Each (PageR R) kp (pg.kids.set i (QUk a))) (fun g o=>by
    have:=QC9 Om hi o
    rwa [a7]at this) ?_
   refine QBO [PageR R (some ⟨H,0,none⟩) (Qab a),Each (PageR R) kp (pg.kids.set i (QUk a))] (Each (PageR R) (QA1 kp (i+1) (some ⟨H,0,none⟩)) (QbN pg i a y u).kids) (fun g o=>QNe Om o) ?_;refine QB0 b a0 a1 a2 (QA1 kp (i+1) (some ⟨H,0,none⟩)) (pg:=QbN pg i a y u) (R:=PageR R) ?_;exact QAd (l:=[_]) (QAD rfl)
def QFF:(n:Nat)->PT n->List KY
 | 0,(p:Pg Empty)=>p.ks
 | _+1,(p:Pg (PT _))=>p.ks
def QdZ:(n:Nat)->PT n->KY->Bool
 | 0,_,_=>false
 | n+1,(p:Pg (PT n)),k=>match p.kids[plK p.ks k]? with
  | some kid=>(QFF n kid).length == 15
  | none=>false
theorem QW5:∀{n:Nat}{pg:PT n},QFG n pg->(QFF n pg).length<=15
 | 0,pg,h=>h.1
 | n+1,pg,h=>h.1
theorem QNb:∀(n:Nat) (p:Ac) (pg:Pg (PT n)) (i:Nat) (c:PT n),QFG (n+1) pg->pg.ks.length<15->pg.kids[i]? = some c->(QFF n c).length=15 ->
  Ct Pr 359 [.pointer p,.I (i:Int),.I 8] (.tup []) [] [PageO (n+1) p pg] emp
   (fun t Bs=>∃d:Pg (PT n),Bs=[PageO (n+1) p d]/\QFG (n+1) d/\QBZ (n+1) d=QBZ (n+1) pg/\∃(m:KY) (a b:PT n),d.ks=QA1 pg.ks i m/\d.kids=QA1 (pg.kids.set i a) (i+1) b/\(QFF n a).length=7/\(QFF n b).length=7):=by
 intro n p pg i c H N f z;obtain⟨h1,A,C,u⟩:pg.ks.length<=15/\pg.vs.length=pg.ks.length/\pg.kids.length=pg.ks.length+1/\∀k∈pg.kids,QFG n k:=H;have hi:=(Wc.1 f).1;have E:QFG n c:=u c (Wp f)
 -- what the split page is, as a law
 have G:∀(m:KY) (v:Int) (a b:PT n),QFG n a->QFG n b->QBZ n c=QBZ n a++m::QBZ n b->(QFF n a).length=7->(QFF n b).length=7 ->
   ∀d:Pg (PT n),d=⟨QA1 pg.ks i m,QA1 pg.vs i v,QA1 (pg.kids.set i a) (i+1) b⟩->QFG (n+1) d/\QBZ (n+1) d=QBZ (n+1) pg/\∃(m:KY) (a b:PT n),d.ks=QA1 pg.ks i m/\d.kids=QA1 (pg.kids.set i a) (i+1) b/\(QFF n a).length=7/\(QFF n b).length=7:=by
  rintro m v a b D J K L M _ rfl;refine⟨⟨?_,?_,?_,?_⟩,?_,m,a,b,rfl,rfl,L,M⟩
  ·show (QA1 pg.ks i m).length<=15;rw[QCP];omega
  ·show (QA1 pg.vs i v).length=(QA1 pg.ks i m).length;rw[QCP,QCP];omega
  ·show (QA1 (pg.kids.set i a) (i+1) b).length=(QA1 pg.ks i m).length+1;rw[QCP,QCP,Ob];omega
  ·intro k j;have j:k∈QA1 (pg.kids.set i a) (i+1) b:=j;unfold QA1 at j;rcases W4.1 j with h|h
   ·rcases Ou (Zm h) with h|h
    ·exact u k h
    ·exact h ▸ D
   ·rcases W7.1 h with h|h
    ·exact h ▸ J
    ·rcases Ou (Zn h) with h|h
     ·exact u k h
     ·exact h ▸ D
  ·show mix (QA1 pg.ks i m) ((QA1 (pg.kids.set i a) (i+1) b).map (QBZ n))=mix pg.ks (pg.kids.map (QBZ n))
   have e:(QA1 (pg.kids.set i a) (i+1) b).map (QBZ n)=QA1 ((pg.kids.map (QBZ n)).set i (QBZ n a)) (i+1) (QBZ n b):=by
    unfold QA1;rw[Uw,U9,List.map_take,List.map_drop,Le]
   rw[e,QRp i m _ _ (by simp;omega) (by simp;omega),QLT i (x:=QBZ n c) (by simp;omega) (by rw[Ol,f];rfl),K]
 cases n with
 | zero=>
  have y:(c:Pg Empty).ks.length=15:=z;have Q:(c:Pg Empty).vs.length=(c:Pg Empty).ks.length:=E.2;have o:=Wa (l:=(c:Pg Empty).ks) (i:=7) Om;have hv:=Wa (l:=(c:Pg Empty).vs) (i:=7) Om;have hc:=QOo (α:=Empty) ER p pg i c _ _ f y Om (.inl (by cases h:(c:Pg Empty).kids with|nil=>rfl|cons e _=>exact e.elim)) o hv Om A C;intro w g q r s;refine (hc w g q r s).mono ?_;rintro e w' ⟨t,Bs,he,rfl,hx⟩;refine⟨t,_,he,⟨_,rfl,?_⟩,hx⟩;refine G _ _ (QUk (c:Pg Empty)) (Qab (c:Pg Empty)) ⟨?_,?_⟩ ⟨?_,?_⟩ ?_ ?_ ?_ _ rfl
  ·show ((c:Pg Empty).ks.take 7).length<=15;simp;omega
  ·show ((c:Pg Empty).vs.take 7).length=((c:Pg Empty).ks.take 7).length;simp;omega
  ·show ((c:Pg Empty).ks.drop 8).length<=15;simp;omega
  ·show ((c:Pg Empty).vs.drop 8).length=((c:Pg Empty).ks.drop 8).length;simp;omega
  ·show (c:Pg Empty).ks=(c:Pg Empty).ks.take 7++(c:Pg Empty).ks[7]::(c:Pg Empty).ks.drop 8;rw[<-Ws,Wu]
  ·show ((c:Pg Empty).ks.take 7).length=7;simp;omega
  ·show ((c:Pg Empty).ks.drop 8).length=7;simp;omega
 | succ n=>
  obtain⟨O,P,g3,g4⟩:(c:Pg (PT n)).ks.length<=15/\(c:Pg (PT n)).vs.length=(c:Pg (PT n)).ks.length/\(c:Pg (PT n)).kids.length=(c:Pg (PT n)).ks.length+1/\∀k∈(c:Pg (PT n)).kids,QFG n k:=E;have y:(c:Pg (PT n)).ks.length=15:=z;have o:=Wa (l:=(c:Pg (PT n)).ks) (i:=7) Om;have hv:=Wa (l:=(c:Pg (PT n)).vs) (i:=7) Om;have hc:=QOo (α:=PT n) (PageO n) p pg i c _ _ f y Om (.inr Om) o hv Om A C;intro w g q r s;refine (hc w g q r s).mono ?_;rintro e w' ⟨t,Bs,he,rfl,hx⟩;refine⟨t,_,he,⟨_,rfl,?_⟩,hx⟩;refine G _ _ (QUk (c:Pg (PT n))) (Qab (c:Pg (PT n))) ⟨?_,?_,?_,?_⟩ ⟨?_,?_,?_,?_⟩ ?_ ?_ ?_ _ rfl
  ·show ((c:Pg (PT n)).ks.take 7).length<=15;simp;omega
  ·show ((c:Pg (PT n)).vs.take 7).length=((c:Pg (PT n)).ks.take 7).length;simp;omega
  ·show ((c:Pg (PT n)).kids.take 8).length=((c:Pg (PT n)).ks.take 7).length+1;simp;omega
  ·exact fun k f=>g4 k (Zm f)
  ·show ((c:Pg (PT n)).ks.drop 8).length<=15;simp;omega
  ·show ((c:Pg (PT n)).vs.drop 8).length=((c:Pg (PT n)).ks.drop 8).length;simp;omega
  ·show ((c:Pg (PT n)).kids.drop 8).length=((c:Pg (PT n)).ks.drop 8).length+1;simp;omega
  ·exact fun k f=>g4 k (Zn f)
  ·show mix (c:Pg (PT n)).ks ((c:Pg (PT n)).kids.map (QBZ n))=mix ((c:Pg (PT n)).ks.take 7) (((c:Pg (PT n)).kids.take 8).map (QBZ n))++(c:Pg (PT n)).ks[7]::mix ((c:Pg (PT n)).ks.drop 8) (((c:Pg (PT n)).kids.drop 8).map (QBZ n));rw[QWf 7 (by simp;omega) o,List.map_take,List.map_drop]
  ·show ((c:Pg (PT n)).ks.take 7).length=7;simp;omega
  ·show ((c:Pg (PT n)).ks.drop 8).length=7;simp;omega
def QTQ(rp:Ac)(L:List KY):HP:=fun h=>(rp=none/\L=[])\/∃(N:Nat) (pg:PT N),QFG N pg/\QBZ N pg=L/\PageO N rp pg h
def QDG(q:Ac)(L:List KY):HP:=fun h=>QKU L/\∃b rp,q=some ⟨b,0,none⟩/\QBr [Blk b [.I 8,.pointer rp,.I (L.length:Int)],QTQ rp L] h
theorem QgX(i:Nat){q:Ac}{L:List KY}{F:List HP}[p:Pick i As (QDG q L) F]{φ:WP}
  (k:QKU L->∀b rp,q=some ⟨b,0,none⟩->Ent B (Blk b [.I 8,.pointer rp,.I (L.length:Int)]::QTQ rp L::F) φ):Ent B As φ:=by
 refine Ent.perm p.perm ?_;rintro w ⟨g,⟨a,c,⟨e,b,rp,f,h⟩,j,d,l,m⟩,n,o⟩;exact k e b rp f w ⟨g,(QAl [_,_] F).2 ⟨a,c,h,j,d,l,m⟩,n,o⟩
theorem QIB(b:Nat)(rp:Ac)(L:List KY)(c:QKU L){G:List HP}[p:Split [Blk b [.I 8,.pointer rp,.I (L.length:Int)],QTQ rp L] As G]{φ:WP}
  (k:Ent B (QDG (some ⟨b,0,none⟩) L::G) φ):Ent B As φ:=
 QBO [Blk b [.I 8,.pointer rp,.I (L.length:Int)],QTQ rp L] (QDG (some ⟨b,0,none⟩) L) (fun g a=>⟨c,b,rp,rfl,a⟩) k
theorem Qci:Ct Pr 265 [.I 8] (.tup [none,none]) [.ptr,.I] [] emp (fun t Bs=>t.2.1=0/\Bs=[QDG t.1 []]):=by
 refine sp2 (QVm _) fun B _=>?_;unfold QVm mf;dsimp only;refine QBH Dc (QAL fun b=>?_);refine QZM (A:=QTQ none []) (.inl ⟨rfl,rfl⟩) ?_;exact QIB b none [] List.Pairwise.nil (QAD ⟨rfl,rfl⟩)
theorem QgY(i:Nat):∀{n:Nat}{q:Ac}{pg:PT n}{As F:List HP} [p:Pick i As (PageO n q pg) F] {K:Sl->WP},(∀s:Sl,s.n=(QFF n pg).length->Ent B (PageO n q pg::F) (K s))->Ent B As (QC3 q fun a=>QAn .slice a fun s=>K s)
 | 0,q,(pg:Pg Empty),As,F,p,K,h=>by
  have d:Pick i As (PageR ER q pg) F:=p;refine QU4 i fun b ks vs cs kp c _ _=>?_;subst c;refine QAO (xgq (QCl (E:=KE) (xs:=pg.ks) ks fun hn _=>?_));refine QB0 b ks vs cs kp (pg:=pg) (R:=ER) ?_;exact h ks hn.symm
 | n+1,q,(pg:Pg (PT n)),As,F,p,K,h=>by
  have d:Pick i As (PageR (PageO n) q pg) F:=p;refine QU4 i fun b ks vs cs kp c _ _=>?_;subst c;refine QAO (xgq (QCl (E:=KE) (xs:=pg.ks) ks fun hn _=>?_));refine QB0 b ks vs cs kp (pg:=pg) (R:=PageO n) ?_;exact h ks hn.symm
theorem QVl{α:Type}{l:List α}{i j:Nat}{x:α}(h:j<i)(hi:i<=l.length):(QA1 l i x)[j]? = l[j]?:=by
 unfold QA1;rw[Wj (by simp;omega),Ut h]
theorem QV6{α:Type}{l:List α}{i:Nat}{x:α}(hi:i<=l.length):(QA1 l i x)[i]? = some x:=by
 unfold QA1;rw[Wr (by simp;omega)];simp[Ow hi]
theorem Qdf{α:Type}{l:List α}{i j:Nat}{x:α}(h:i<=j)(hi:i<=l.length):(QA1 l i x)[j+1]? = l[j]?:=by
 unfold QA1;rw[Wr (by simp;omega),Ww,Ow hi,show j+1 - i=(j - i)+1 by omega,Kw,Zk,show i+(j - i)=j by omega]
theorem QX7{ks:List KY}{k m:KY}:plK ks k<=plK (QA1 ks (plK ks k) m) k:=by
 have hi:=QK0 ks k;generalize c:plK (QA1 ks (plK ks k) m) k=p;rcases Zb p (plK ks k) with h1|h1
 ·exfalso
  have a:p<ks.length:=Om
  have b:=QPA (ks:=QA1 ks (plK ks k) m) (k:=k) (y:=ks[p]) (by rw[c,QVl h1 hi,Wa a]);rw[QXH p _ h1 (Wa a)]at b;cases b
 ·exact h1
theorem QeQ{ks:List KY}{k m:KY}:plK (QA1 ks (plK ks k) m) k=plK ks k\/plK (QA1 ks (plK ks k) m) k=plK ks k+1:=by
 have hi:=QK0 ks k;have a:=QX7 (ks:=ks) (k:=k) (m:=m);have b:=QV6 (x:=m) hi;by_cases h:ltK m k=true
 ·right;have d:=QWw a b h;rcases Zb (plK ks k) ks.length with hl|hl
  ·have c:=Qdf (x:=m) (Wt _) hi;rw[Wa hl]at c;exact QRA d c (QPA (Wa hl))
  ·have:=QK0 (QA1 ks (plK ks k) m) k;rw[QCP]at this;omega
 ·left;exact QRA a b (Si h)
theorem QXj{n:Nat}{pg c:Pg (PT n)}{k m:KY}{a b:PT n}(hl:plK pg.ks k<pg.kids.length)(h1:c.ks=QA1 pg.ks (plK pg.ks k) m)(d:c.kids=QA1 (pg.kids.set (plK pg.ks k) a) (plK pg.ks k+1) b)(h:(QFF n a).length=7)(hb:(QFF n b).length=7):QdZ (n+1) c k=false:=by
 have f:c.kids[plK pg.ks k]? = some a:=by
  rw[d,QVl Om (by simp;omega),Wy hl]
 have g:c.kids[plK pg.ks k+1]? = some b:=by
  rw[d,QV6 (by simp;omega)]
 show (match c.kids[plK c.ks k]? with
  | some kid=>(QFF n kid).length == 15
  | none=>false)=false
 rcases QeQ (ks:=pg.ks) (k:=k) (m:=m) with e|e
 ·rw[h1,e,f];simp[h]
 ·rw[h1,e,g];simp[hb]
def room(n:Nat)(pg:PT n)(k:KY):Prop:=(QFF n pg).length<15\/(n≠0/\QdZ n pg k=false)
def mes(n:Nat)(pg:PT n)(k:KY):Nat:=2*n+(if QdZ n pg k=true then 1 else 0)
def QjP(n:Nat)(p rp:Ac)(W:HP)(pre a:List KY):Prop:=∀(pg':PT n) g,QFG n pg'->QBr [PageO n p pg',W] g->∃(N:Nat) (r:PT N),QFG N r/\QBZ N r=pre++(QBZ n pg'++a)/\PageO N rp r g
def QkS(b tb:Nat)(k:KY)(rp:Ac)(L:List KY)(m:Nat)(p:Ac)(As':List HP):Prop:=∃(n:Nat) (pg:PT n) (W:HP) (pre a:List KY),QFG n pg/\L=pre++(QBZ n pg++a)/\(∀y∈pre,ltK y k=true)/\(∀y∈a,ltK k y=true)/\room n pg k/\m=mes n pg k/\QjP n p rp W pre a /\
 As'=[Blk b [.I k.1,.I k.2],Blk tb [.I 8,.pointer rp,.I (L.length:Int)],PageO n p pg,W]
theorem PageR.mono{α:Type}{R:Ac->α->HP}{p:Ac}{pg:Pg α}{g h:QBs}(a:PageR R p pg g)(s:Sub g h):PageR R p pg h:=by
 obtain⟨b,ks,vs,cs,kp,c,d⟩:=a;exact⟨b,ks,vs,cs,kp,c,QCn _ d s⟩
theorem PageO.mono:∀{n:Nat}{p:Ac}{pg:PT n}{g h:QBs},PageO n p pg g->Sub g h->PageO n p pg h
 | 0,p,pg,g,h,a,s=>PageR.mono a s
 | n+1,p,pg,g,h,a,s=>PageR.mono a s
theorem PageO.some:∀{n:Nat}{p:Ac}{pg:PT n}{g:QBs},PageO n p pg g->∃b,p=some ⟨b,0,none⟩
 | 0,p,pg,g,⟨b,_,_,_,_,h,_⟩=>⟨b,h⟩
 | n+1,p,pg,g,⟨b,_,_,_,_,h,_⟩=>⟨b,h⟩
theorem QKH{α:Type}{l:List α}{i:Nat}{x:α}(h:l[i]? = some x):l.set i x=l:=by
 apply Uf;intro j;by_cases e:i=j
 ·subst e;rw[Wy (Wc.1 h).1,h]
 ·rw[Oy e]
theorem QPa{α:Type}{R:Ac->α->HP}(pg:Pg α)(i:Nat)(hi:i<pg.vs.length)(v:Int)(a:Nat)(ks vs cs:Sl)(kp:List Ac){K:WP}(h:Ent B (PageR R (some ⟨a,0,none⟩) ⟨pg.ks,pg.vs.set i v,pg.kids⟩::F) K) :
  Ent B (Blk a [ks.v,vs.v,cs.v]::Ar KE ks pg.ks::Ar I64 vs pg.vs::Ar PE cs kp::Each R kp pg.kids::F) (QC3 (some ⟨a,0,none⟩) fun c=>QAn .slice (c.add 1) fun b=>QLG b.p b.n (i:Int) 1 fun d=>QBE d (.I v)<|K):=by
 refine QAO (xgq ?_);refine QAH (E:=I64) (xs:=pg.vs) (s:=vs) (h1:=hi) (h:=fun y e=>?_);refine QIJ (E:=I64) (xs:=pg.vs) v e (hv:=rfl) (h:=?_);exact QB0 a ks vs cs kp (pg:=⟨pg.ks,pg.vs.set i v,pg.kids⟩) (R:=R) h
theorem QeG{n:Nat}{pg:PT n}{L pre b:List KY}(a:QKU L)(h:L=pre++(QBZ n pg++b)):QKU (QBZ n pg):=by
 rw[h]at a;exact (Of.1 (Of.1 a).2.1).1
theorem QT9{n:Nat}{p rp:Ac}{W:HP}{pre b L:List KY}{tb:Nat}{k:KY}(h:QKU L)(a:PT n)(i:QFG n a)(j:QjP n p rp W pre b)(l:pre++(QBZ n a++b)=QKv k L){c:Int}(hc:c=((QKv k L).length:Int)){G:List HP}{x:Bool}
  [q:Split [PageO n p a,W,Blk tb [.I 8,.pointer rp,.I c]] As G]:Ent B As (Ret B (ss:=[.bool]) (fun t Bs=>Bs=[QDG (some ⟨tb,0,none⟩) (QKv k L)]) (x,())):=by
 subst hc;refine QAK [PageO n p a,W,Blk tb [.I 8,.pointer rp,.I ((QKv k L).length:Int)]] ?_;refine QBO [PageO n p a,W] (QTQ rp (QKv k L)) (fun g d=>?_) ?_
 ·obtain⟨N,r,h1,e,f⟩:=j a g i d;exact .inr ⟨N,r,h1,e.trans l,f⟩
 ·exact QIB tb rp (QKv k L) (QbW h) (QAD rfl)
theorem Qd8(q:Ac)(L:List KY)(k:KY)(v:Int)(f5:L.length<=4000000000000000):Ct Pr 266 [.pointer q,.agg #[.I k.1,.I k.2],.I v] .one [.bool] [QDG q L] emp (fun t Bs=>Bs=[QDG q (QKv k L)]):=by
 refine sp1 (QJ6 _ _ _ _) fun B _=>?_;unfold QJ6 mf;dsimp only;refine QAL fun b=>QgX 1 fun a6 tb rp G=>?_;subst G;refine QAO (xgq (QAO (xgq ?_)));refine QBh (fun As'=>∃(rp:Ac) (N:Nat) (pg:PT N),QFG N pg/\QBZ N pg=L/\As'=[Blk b [.I k.1,.I k.2],Blk tb [.I 8,.pointer rp,.I (L.length:Int)],PageO N rp pg]) (fun c6 X=>?_) ?_
 ·refine QEZ 1 (fun Bs=>(rp=none/\L=[]/\Bs=[])\/∃(N:Nat) (pg:PT N),QFG N pg/\QBZ N pg=L/\rp≠none/\Bs=[PageO N rp pg]) (fun g f=>?_) ?_
  ·rcases f with⟨h1,M⟩|⟨N,pg,h1,M,T⟩
   ·exact⟨[],.inl ⟨h1,M,rfl⟩,trivial⟩
   ·obtain⟨f2,c'⟩:=T.some;exact⟨_,.inr ⟨N,pg,h1,M,by rw[c'];simp,rfl⟩,QCe T⟩
  ·rintro Bs (⟨rfl,rfl,rfl⟩|⟨N,pg,h1,M,T,rfl⟩)
   ·refine QA2 (QCC rfl (QAL fun Y=>QAO (xsq ?_)));refine QAg 0 (Q:=Blk Y [(⟨none,0,0⟩:Sl).v,(⟨none,0,0⟩:Sl).v,(⟨none,0,0⟩:Sl).v]) (fun g f=>f) ?_;refine QAf KE (QAf I64 (QAf PE ?_));refine QZM (A:=Each ER [] []) trivial ?_;refine QB0 Y ⟨none,0,0⟩ ⟨none,0,0⟩ ⟨none,0,0⟩ [] (pg:=(⟨[],[],[]⟩:Pg Empty)) (R:=ER) ?_;exact QAK [Blk b [.I k.1,.I k.2],Blk tb [.I 8,.pointer (some ⟨Y,0,none⟩),.I 0],PageR ER (some ⟨Y,0,none⟩) (⟨[],[],[]⟩:Pg Empty)] (X _ ⟨some ⟨Y,0,none⟩,0,(⟨[],[],[]⟩:Pg Empty),⟨by simp,rfl⟩,rfl,rfl⟩)
   ·refine QAz (QBH (by cases rp with|none=>exact absurd rfl T|some a=>rfl) ?_);exact QAK [Blk b [.I k.1,.I k.2],Blk tb [.I 8,.pointer rp,.I (L.length:Int)],PageO N rp pg] (X _ ⟨rp,N,pg,h1,M,rfl⟩)
 rintro As1 ⟨rp,N,pg,f,U,rfl⟩;refine QAO (xgq (QgY 2 fun s H=>?_))
 have e2:IntKind.i64.wrap ((IntKind.i64.wrap (2*8)) - 1)=15:=Dc
 rw[e2];have e3:=QW5 f;refine QBh (fun As'=>∃(rp:Ac) (N:Nat) (pg:PT N),QFG N pg/\QBZ N pg=L/\(QFF N pg).length<15/\As'=[Blk b [.I k.1,.I k.2],Blk tb [.I 8,.pointer rp,.I (L.length:Int)],PageO N rp pg]) (fun c6 X=>?_) ?_
 ·refine xif (fun h=>?_) (fun h=>?_)
  ·have b6:(QFF N pg).length=15:=by have:=eq_of_beq h;omega
   refine QAO (xgq (QAL fun b2=>QAL fun J=>QAO (xsq (QAP (QAO (xgq (QAO (xgq ?_))))))));refine QAg 0 (Q:=Blk J [(⟨none,0,0⟩:Sl).v,(⟨none,0,0⟩:Sl).v,(⟨some ⟨b2,0,none⟩,1,1⟩:Sl).v]) (fun g f=>f) ?_;refine QAg 1 (Q:=Ar PE ⟨some ⟨b2,0,none⟩,1,1⟩ [rp]) (fun g f=>⟨[],QAp [rp] 1 rfl rfl f⟩) ?_
   refine QBO [PageO N rp pg] (Each (PageO N) [rp] [pg]) (fun g f=>by
    obtain⟨a,c,Z,f3,d,a0,b4⟩:=f
    exact⟨a,c,Z,QCe trivial,d,a0,b4⟩) ?_
   refine QAf KE (QAf I64 ?_);refine QB0 J ⟨none,0,0⟩ ⟨none,0,0⟩ ⟨some ⟨b2,0,none⟩,1,1⟩ [rp] (pg:=(⟨[],[],[pg]⟩:Pg (PT N))) (R:=PageO N) ?_
   have hc:=QNb N (some ⟨J,0,none⟩) (⟨[],[],[pg]⟩:Pg (PT N)) 0 pg ⟨by simp,rfl,rfl,fun x hx=>by
    obtain rfl:x=pg:=Si hx
    exact f⟩ (by simp) rfl b6
   refine xcl (pre:=[PageR (PageO N) (some ⟨J,0,none⟩) (⟨[],[],[pg]⟩:Pg (PT N))]) hc rdb ?_;rintro _ _ ⟨z,rfl,a1,a2,m,a,c,g3,_⟩;refine QAz (ca0 ?_)
   have O:(QFF (N+1) z).length<15:=by
    show z.ks.length<15;rw[g3,QCP];simp
   have e4:QBZ (N+1) z=L:=by
    rw[a2];exact U
   exact QAK [Blk b [.I k.1,.I k.2],Blk tb [.I 8,.pointer (some ⟨J,0,none⟩),.I (L.length:Int)],PageO (N+1) (some ⟨J,0,none⟩) z] (X _ ⟨some ⟨J,0,none⟩,N+1,z,a1,e4,O,rfl⟩)
  ·have b6:(QFF N pg).length≠15:=fun e=>by
    have:((s.n:Int) == 15)=true:=by rw[H,e];rfl
    rw[this]at h;cases h
   exact QAK [Blk b [.I k.1,.I k.2],Blk tb [.I 8,.pointer rp,.I (L.length:Int)],PageO N rp pg] (X _ ⟨rp,N,pg,f,U,Om,rfl⟩)
 clear f U e3 H s pg N rp;rintro As1 ⟨rp,N,pg,f,U,a8,rfl⟩;refine QAO (xgq ?_);refine QZM (A:=fun _=>True) trivial (QiE 0 ?_);refine QBa (fun m x As'=>QkS b tb k rp L m x As') (mes N pg k) ⟨N,pg,_,[],[],f,by simp[U],by simp,by simp,.inl a8,rfl,?_,rfl⟩ ?_
 ·rintro z g S ⟨a,c,Z,_,_,a0,_⟩;exact⟨N,z,S,by simp,Z.mono a0⟩
 clear f U a8 pg N;rintro m p As' K ⟨n,pg,W,pre,b5,f,D,a9,a',b',rfl,a3,rfl⟩ c0;have H:=QeG a6 D;refine QAM (xgq (xgq ?_))
 cases n with
 | zero=>
  change Pg Empty at pg;have S:pg.ks.length<=15/\pg.vs.length=pg.ks.length:=f;refine QAg 2 (P1:=PageO 0 p pg) (Q:=PageR ER p pg) (fun g f=>f) ?_;refine QU4 0 (R:=ER) (pg:=pg) fun i ks vs cs kp b3 b8 b9=>?_;subst b3;refine xcl (QNE i ks vs.v cs.v pg.ks k Om) rdb ?_;rintro⟨r,c,_⟩ _ ⟨O,hc,rfl⟩;simp only at O hc;subst O hc;refine QBK (ca2 (xif (fun h=>?_) (fun h=>?_)))
  ·have C:pg.ks[plK pg.ks k]? = some k:=Ox h;have hi:=(Wc.1 C).1
   have a4:k∈L:=by rw[D];exact Us _ (Zp _ (Wp C))
   refine QGO (QPa (R:=ER) (F:=[Blk tb [.I 8,.pointer rp,.I (L.length:Int)],W]) pg (plK pg.ks k) Om v i ks vs cs kp ?_);refine QAg 0 (Q:=PageO 0 (some ⟨i,0,none⟩) (⟨pg.ks,pg.vs.set (plK pg.ks k) v,pg.kids⟩:Pg Empty)) (fun g f=>f) ?_;exact QT9 (n:=0) (p:=some ⟨i,0,none⟩) (rp:=rp) (tb:=tb) (c:=(L.length:Int)) a6 (⟨pg.ks,pg.vs.set (plK pg.ks k) v,pg.kids⟩:Pg Empty) ⟨S.1,by simp[S.2]⟩ a3 (by rw[QIm a4];exact D.symm) (by rw[QIm a4])
  ·have C:pg.ks[plK pg.ks k]?≠some k:=Uv h;have c2:=QK0 pg.ks k
   have b6:pg.ks.length<15:=by
    rcases b' with h|⟨h,_⟩
    ·exact h
    ·exact absurd rfl h
   have e5:(pg.kids).length=0:=by cases e:pg.kids with|nil=>rfl|cons x _=>exact x.elim
   refine QAO (QAh (h:=QCC (by rw[b9,e5];rfl) (QAP (QAO (xgq (xgq (xgq (QAO (xgq ?_)))))))));refine xcl (QTX ks pg.ks (plK pg.ks k) k c2 Om) rdb ?_;rintro⟨d0,_⟩ _ rfl;refine QAz (ca1 (QDK (h:=?_)));refine xcl (QSA vs pg.vs (plK pg.ks k) v Om Om) rdb ?_;rintro⟨d1,_⟩ _ rfl;refine QAz (ca1 (QAO (xsq (QAO (xsq (QAO (xgq (QAO (xsq ?_)))))))));refine QB0 i d0 d1 cs kp (pg:=(⟨QA1 pg.ks (plK pg.ks k) k,QA1 pg.vs (plK pg.ks k) v,pg.kids⟩:Pg Empty)) (R:=ER) ?_
   have e6:k∉pg.ks:=fun w=>by
    have:=QWr (ks:=pg.ks) H C;have hl:(QA1 pg.ks (plK pg.ks k) k).length=(QKv k pg.ks).length:=Uh List.length this;rw[QCP,QIm w]at hl;omega
   have e7:k∉L:=fun w=>by
    rw[D]at w;rcases W4.1 w with w|w
    ·have:=a9 k w;rw[QKP]at this;cases this
    ·rcases W4.1 w with w|w
     ·exact e6 w
     ·have:=a' k w;rw[QKP]at this;cases this
   refine QAg 0 (Q:=PageO 0 (some ⟨i,0,none⟩) (⟨QA1 pg.ks (plK pg.ks k) k,QA1 pg.vs (plK pg.ks k) v,pg.kids⟩:Pg Empty)) (fun g f=>f) ?_;refine QT9 (n:=0) (p:=some ⟨i,0,none⟩) (rp:=rp) (tb:=tb) (c:=IntKind.i64.wrap ((L.length:Int)+1)) a6 (⟨QA1 pg.ks (plK pg.ks k) k,QA1 pg.vs (plK pg.ks k) v,pg.kids⟩:Pg Empty) ⟨?_,?_⟩ a3 ?_ ?_
   ·show (QA1 pg.ks (plK pg.ks k) k).length<=15;rw[QCP];omega
   ·show (QA1 pg.vs (plK pg.ks k) v).length=(QA1 pg.ks (plK pg.ks k) k).length;rw[QCP,QCP];omega
   ·show pre++(QA1 pg.ks (plK pg.ks k) k++b5)=_;rw[QWr (ks:=pg.ks) H C,D,QZb a9 a'];rfl
   ·rw[QUi e7];exact QAE _ Om
 | succ n=>
  change Pg (PT n) at pg;obtain⟨a1,a2,g3,g4⟩:pg.ks.length<=15/\pg.vs.length=pg.ks.length/\pg.kids.length=pg.ks.length+1/\∀k∈pg.kids,QFG n k:=f;refine QAg 2 (P1:=PageO (n+1) p pg) (Q:=PageR (PageO n) p pg) (fun g f=>f) ?_;refine QU4 0 (R:=PageO n) (pg:=pg) fun i ks vs cs kp b3 b8 b9=>?_;subst b3;refine xcl (QNE i ks vs.v cs.v pg.ks k Om) rdb ?_;rintro⟨r,c,_⟩ _ ⟨O,hc,rfl⟩;simp only at O hc;subst O hc;have c2:=QK0 pg.ks k
  have a5:(pg.kids.map (QBZ n)).length=pg.ks.length+1:=Si g3
  refine QBK (ca2 (xif (fun h=>?_) (fun h=>?_)))
  ·have C:pg.ks[plK pg.ks k]? = some k:=Ox h;have hi:=(Wc.1 C).1
   have a4:k∈L:=by rw[D];exact Us _ (Zp _ (Qfo a5 C))
   refine QGO (QPa (R:=PageO n) (F:=[Blk tb [.I 8,.pointer rp,.I (L.length:Int)],W]) pg (plK pg.ks k) Om v i ks vs cs kp ?_);refine QAg 0 (Q:=PageO (n+1) (some ⟨i,0,none⟩) (⟨pg.ks,pg.vs.set (plK pg.ks k) v,pg.kids⟩:Pg (PT n))) (fun g f=>f) ?_;exact QT9 (n:=n+1) (p:=some ⟨i,0,none⟩) (rp:=rp) (tb:=tb) (c:=(L.length:Int)) a6 (⟨pg.ks,pg.vs.set (plK pg.ks k) v,pg.kids⟩:Pg (PT n)) ⟨a1,by simp[a2],g3,g4⟩ a3 (by rw[QIm a4];exact D.symm) (by rw[QIm a4])
  ·have C:pg.ks[plK pg.ks k]?≠some k:=Uv h;obtain⟨j,V⟩:∃x,pg.kids[plK pg.ks k]? = some x:=⟨_,Wa Om⟩;obtain⟨q,G⟩:∃x,kp[plK pg.ks k]? = some x:=⟨_,Wa Om⟩;have c3:=g4 j (Wp V)
   have c4:QdZ (n+1) pg k=((QFF n j).length == 15):=by
    show (match pg.kids[plK pg.ks k]? with
     | some j=>(QFF n j).length == 15
     | none=>false)=_
    rw[V]
   have a8:plK pg.ks k<kp.length:=by rw[b8,g3];omega
   refine QAO (QAh (h:=QBH (by rw[U1];omega) (QAO (xgq ?_))));refine QAH (E:=PE) (xs:=kp) (s:=cs) (h1:=a8) (h:=fun y o=>?_);refine QAN (E:=PE) (xs:=kp) G (h:=?_);refine Qc1 4 (P1:=Each (PageO n) kp pg.kids) [PageO n q j,Each (PageO n) (kp.eraseIdx (plK pg.ks k)) (pg.kids.eraseIdx (plK pg.ks k))] (fun g f=>QCA f G V) (QBK ?_);refine QgY 0 fun c7 c8=>?_;refine xif (fun a7=>?_) (fun a7=>?_)
   ·have b0:(QFF n j).length=15:=by have:=eq_of_beq a7;omega
    have e8:pg.ks.length<15:=by
     rcases b' with h|⟨_,h⟩
     ·exact h
     ·rw[c4,b0]at h;cases h
    refine QAO (xgq ?_)
    refine QBO [PageO n q j,Each (PageO n) (kp.eraseIdx (plK pg.ks k)) (pg.kids.eraseIdx (plK pg.ks k))] (Each (PageO n) kp pg.kids) (fun g f=>by
     have:=QC9 Om Om f
     rwa [QKH G,QKH V]at this) ?_
    refine QB0 i ks vs cs kp (pg:=pg) (R:=PageO n) ?_;refine xcl (pre:=[PageR (PageO n) (some ⟨i,0,none⟩) pg]) (QNb n (some ⟨i,0,none⟩) pg (plK pg.ks k) j ⟨a1,a2,g3,g4⟩ e8 V b0) rdb ?_;rintro _ _ ⟨z,rfl,d2,d3,m,a,c,d4,d5,d6,d7⟩;refine QAz (ca0 ?_);have c5:=QXj (k:=k) Om d4 d5 d6 d7;refine QAK [Blk b [.I k.1,.I k.2],Blk tb [.I 8,.pointer rp,.I (L.length:Int)],PageO (n+1) (some ⟨i,0,none⟩) z,W] (c0 (mes (n+1) z k) _ _ ?_ ⟨n+1,z,W,pre,b5,d2,by rw[d3];exact D,a9,a',.inr ⟨Om,c5⟩,rfl,a3,rfl⟩);unfold mes;rw[c5,c4,b0];simp
   ·have b0:(QFF n j).length≠15:=fun e=>by
     have:((c7.n:Int) == 15)=true:=by rw[c8,e];rfl
     rw[this]at a7;cases a7
    have f4:=QW5 c3;refine QAO (xgq ?_);refine QAH (E:=PE) (xs:=kp) (s:=cs) (h1:=Om) (h:=fun y o=>?_);refine QAN (E:=PE) (xs:=kp) G (h:=?_)
    have e9:(pg.kids.map (QBZ n))[plK pg.ks k]? = some (QBZ n j):=by rw[Ol,V];rfl
    have e':QBZ (n+1) pg=QHR pg.ks (pg.kids.map (QBZ n)) (plK pg.ks k)++(QBZ n j++QKt pg.ks (pg.kids.map (QBZ n)) (plK pg.ks k)):=QLT _ a5 e9
    let b7:HP:=QBr [Blk i [ks.v,vs.v,cs.v],Ar KE ks pg.ks,Ar I64 vs pg.vs,Ar PE cs kp,Each (PageO n) (kp.eraseIdx (plK pg.ks k)) (pg.kids.eraseIdx (plK pg.ks k)),W]
    refine QBO [Blk i [ks.v,vs.v,cs.v],Ar KE ks pg.ks,Ar I64 vs pg.vs,Ar PE cs kp,Each (PageO n) (kp.eraseIdx (plK pg.ks k)) (pg.kids.eraseIdx (plK pg.ks k)),W] b7 (fun g f=>f) ?_;refine QAK [Blk b [.I k.1,.I k.2],Blk tb [.I 8,.pointer rp,.I (L.length:Int)],PageO n q j,b7] (c0 (mes n j k) _ _ ?_ ⟨n,j,b7,pre++QHR pg.ks (pg.kids.map (QBZ n)) (plK pg.ks k),QKt pg.ks (pg.kids.map (QBZ n)) (plK pg.ks k)++b5,c3,?_,?_,?_,.inl Om,rfl,?_,rfl⟩)
    ·unfold mes;split<;>split<;>omega
    ·rw[D,e'];simp only[Wk]
    ·intro y o;rcases W4.1 o with o|o
     ·exact a9 y o
     ·exact QWO a5 H y o
    ·intro y o;rcases W4.1 o with o|o
     ·exact Qax a5 H C y o
     ·exact a' y o
    ·intro u g c9 S
     have h1:QBr ([PageO n q u]++[Blk i [ks.v,vs.v,cs.v],Ar KE ks pg.ks,Ar I64 vs pg.vs,Ar PE cs kp,Each (PageO n) (kp.eraseIdx (plK pg.ks k)) (pg.kids.eraseIdx (plK pg.ks k)),W]) g:=by
      obtain⟨a,c,Z,⟨d,e,d8,_,_,c1,_⟩,d9,a0,b4⟩:=S;exact (QAl [PageO n q u] _).2 ⟨a,d,QCe Z,d8,d9.sub (Sub.refl _) c1,a0,c1.trans b4⟩
     have f0:([PageO n q u,Blk i [ks.v,vs.v,cs.v],Ar KE ks pg.ks,Ar I64 vs pg.vs,Ar PE cs kp,Each (PageO n) (kp.eraseIdx (plK pg.ks k)) (pg.kids.eraseIdx (plK pg.ks k)),W]:List HP).Perm
       ([PageO n q u,Each (PageO n) (kp.eraseIdx (plK pg.ks k)) (pg.kids.eraseIdx (plK pg.ks k))]++[Blk i [ks.v,vs.v,cs.v],Ar KE ks pg.ks,Ar I64 vs pg.vs,Ar PE cs kp,W]):=
      (inferInstance:Split [PageO n q u,Each (PageO n) (kp.eraseIdx (plK pg.ks k)) (pg.kids.eraseIdx (plK pg.ks k))] _ _).perm
     have M:=QDf (P:=Each (PageO n) kp (pg.kids.set (plK pg.ks k) u)) (fun g f=>by
      have:=QC9 Om Om f
      rwa [QKH G]at this) (QFx f0 h1)
     let b1:Pg (PT n):=⟨pg.ks,pg.vs,pg.kids.set (plK pg.ks k) u⟩
     have f1:([Each (PageO n) kp (pg.kids.set (plK pg.ks k) u),Blk i [ks.v,vs.v,cs.v],Ar KE ks pg.ks,Ar I64 vs pg.vs,Ar PE cs kp,W]:List HP).Perm
       ([Blk i [ks.v,vs.v,cs.v],Ar KE ks pg.ks,Ar I64 vs pg.vs,Ar PE cs kp,Each (PageO n) kp (pg.kids.set (plK pg.ks k) u)]++[W]):=
      (inferInstance:Split [Blk i [ks.v,vs.v,cs.v],Ar KE ks pg.ks,Ar I64 vs pg.vs,Ar PE cs kp,Each (PageO n) kp (pg.kids.set (plK pg.ks k) u)] _ _).perm
     have T:QBr [PageO (n+1) (some ⟨i,0,none⟩) b1,W] g:=QDf (l:=[Blk i [ks.v,vs.v,cs.v],Ar KE ks pg.ks,Ar I64 vs pg.vs,Ar PE cs kp,Each (PageO n) kp (pg.kids.set (plK pg.ks k) u)]) (P:=PageO (n+1) (some ⟨i,0,none⟩) b1) (fun g f=>⟨i,ks,vs,cs,kp,rfl,f⟩) (QFx f1 M)
     obtain⟨N,r,d',e0,e1⟩:=a3 b1 g ⟨a1,a2,by show (pg.kids.set _ _).length=_;simpa using g3,fun x hx=>by
      rcases Ou hx with h|h
      ·exact g4 x h
      ·exact h ▸ c9⟩ T
     refine⟨N,r,d',?_,e1⟩;rw[e0]
     have:QBZ (n+1) b1=QHR pg.ks (pg.kids.map (QBZ n)) (plK pg.ks k)++(QBZ n u++QKt pg.ks (pg.kids.map (QBZ n)) (plK pg.ks k)):=by
      show mix pg.ks ((pg.kids.set (plK pg.ks k) u).map (QBZ n))=_;rw[Le,QaS _ _ a5 (by simp;omega)]
     rw[this];simp only[Wk]
theorem Qah:QBN Pr 486=true:=Kr
theorem QWt:QBN Pr 485=true:=Kr
abbrev QZI(k:KY):Ad:=[.I k.1,.I k.2]
abbrev pv(b:Nat):Value:=.pointer (some ⟨b,0,none⟩)
abbrev Qin(a b tb c:Nat):Value:=.func (.func 486) #[] #[pv a,pv b,pv tb,pv c]
abbrev QWI(l:Nat):Value:=.func (.yield l) #[] #[]
def YOk(l:Nat)(b:Loop)(N:Nat)(St:List KY->HP):Prop:=∀(d:List KY) (k:KY) (v:Int),d.length<N->CtY Pr l [.agg #[.I k.1,.I k.2],.I v] [QDL l b,St d] emp (fun Bs=>∃a,Bs=QDL l b::a/\a=[St (d++[k])])
abbrev QcG(l:Nat)(d:Loop)(a b tb c:Nat)(e to:KY):List HP:=[QDL l d,Blk a (QZI e),Blk b [Qin a b tb c],Blk tb (QZI to),Blk c [QWI l]]
def QLz(X:HP)(St:List KY->HP)(l:Nat)(c:Loop)(e f tb g:Nat)(a to:KY)(d b:List KY):Tup [.bool]->List HP->Prop:=fun t Bs=>(t.1=false->∃y∈b,ltK y to=false)/\Bs=X::St (d++QGz a to b)::QcG l c e f tb g a to
theorem Qja{a b c d e f g:HP}{F:List HP}{φ:WP}(h:Ent B (a::b::c::d::e::f::g::F) φ):Ent B ([a,b,c,d,e,f,g]++F) φ:=h
theorem mix_sub:∀{ks:List KY}{ls:List (List KY)},ks.Sublist (mix ks ls)
 | ks,[]=>by unfold mix;exact List.Sublist.refl _
 | [],l::ls=>List.nil_sublist _
 | k::ks,l::ls=>by
  show (k::ks).Sublist (l++k::mix ks ls);exact (mix_sub.cons_cons k).trans (List.sublist_append_right _ _)
theorem QeA{ks:List KY}{ls:List (List KY)}(a:QKU (mix ks ls)):QKU ks:=a.sublist mix_sub
theorem QZ5{a x z:List KY}(d:QKU (a++(x++z))){to y:KY}(e:y∈x)(h:ltK y to=false):∀u∈z,ltK u to=false:=by
 intro u b;have:=(Of.1 (Of.1 d).2.1).2.2 y e u b;rw[Zd];intro c;rw[QEr this c]at h;cases h
theorem QWz{α:Type}(R:Ac->α->HP)(l:Nat)(w:Loop)(N:Nat)(St:List KY->HP)(b7:YOk l w N St)(i m tb o:Nat)(b to:KY)(pg:Pg α)(ls:List (List KY))(Z:ls.length=pg.ks.length+1)(c6:pg.ks.length<=15)(hv:pg.vs.length=pg.ks.length)(M:QKU (mix pg.ks ls))
  (b8:pg.kids=[]/\(∀x∈ls,x=[])\/(pg.kids.length=pg.ks.length+1/\∀(j:Nat) (q:Ac) (H:α) (f:List KY) (d:List KY),pg.kids[j]? = some H->ls[j]? = some f->d.length+(QGz b to f).length<=N->Ct Pr 486 [.pointer q,pv i,pv m,pv tb,pv o] .one [.bool] (R q H::St d::QcG l w i m tb o b to) emp (QLz (R q H) St l w i m tb o b to d f)))
  (p:Ac) (d:List KY) (a7:d.length+(QGz b to (mix pg.ks ls)).length<=N):Ct Pr 486 [.pointer p,pv i,pv m,pv tb,pv o] .one [.bool] (PageR R p pg::St d::QcG l w i m tb o b to) emp (QLz (PageR R p pg) St l w i m tb o b to d (mix pg.ks ls)):=by
 refine sp1 (QEx _ _ _ _ _) fun B _=>?_;unfold QEx mf;dsimp only;refine xgq (xgq ?_);refine QU4 0 fun A ks vs cs kp a8 b9 a9=>?_;subst a8;refine xcl (QNE A ks vs.v cs.v pg.ks b Om) rdb ?_;rintro⟨r,c,_⟩ _ ⟨a3,_,rfl⟩;simp only at a3;subst a3;refine QBK (ca2 ?_);have b3:=QK0 pg.ks b;refine QCl (E:=KE) (xs:=pg.ks) ks fun b' _=>?_;refine QAK (Blk A [ks.v,vs.v,cs.v]::Ar KE ks pg.ks::Ar I64 vs pg.vs::Ar PE cs kp::Each R kp pg.kids::St d::QcG l w i m tb o b to) ?_
 -- how it ends
 have Y:∀(V:List KY) (c:Bool),(c=false->∃y∈mix pg.ks ls,ltK y to=false)->V=d++QGz b to (mix pg.ks ls) ->
   Ent B (Blk A [ks.v,vs.v,cs.v]::Ar KE ks pg.ks::Ar I64 vs pg.vs::Ar PE cs kp::Each R kp pg.kids::St V::QcG l w i m tb o b to) (Ret B (ss:=[.bool]) (QLz (PageR R (some ⟨A,0,none⟩) pg) St l w i m tb o b to d (mix pg.ks ls)) (c,())):=by
  rintro V c hc rfl;refine QB0 A ks vs cs kp (pg:=pg) (R:=R) ?_;exact QAD ⟨hc,rfl⟩
 refine QAM ?_
 refine QBa (fun n x As'=>∃j:Nat,x=(j:Int)/\n=pg.ks.length+1 - j/\plK pg.ks b<=j/\j<=pg.ks.length/\As'=Blk A [ks.v,vs.v,cs.v]::Ar KE ks pg.ks::Ar I64 vs pg.vs::Ar PE cs kp::Each R kp pg.kids::St (d++QGz b to (QHR pg.ks ls j))::QcG l w i m tb o b to)
  (pg.ks.length+1 - plK pg.ks b) ⟨_,rfl,rfl,Wt _,b3,?_⟩ ?_
 ·rw[QfH (QWO Z M),Oi]
 rintro n x As' K ⟨j,rfl,rfl,b0,c4,rfl⟩ b1;obtain⟨f,O⟩:∃x,ls[j]? = some x:=⟨_,Wa Om⟩;have G:=QLT (ks:=pg.ks) j Z O
 have c5:d.length+((QGz b to (QHR pg.ks ls j)).length+((QGz b to f).length+(QGz b to (QKt pg.ks ls j)).length))<=N:=by
  rw[G,QFj,QFj,Wd,Wd]at a7;exact a7
 refine QAO (QAh (h:=QCC (by simp;omega) (QAP ?_)))
 -- the kid
 refine QAV (fun(a0:Bool) As'=>(a0=true->∃y∈f,ltK y to=false)/\As'=Blk A [ks.v,vs.v,cs.v]::Ar KE ks pg.ks::Ar I64 vs pg.vs::Ar PE cs kp::Each R kp pg.kids::St (d++QGz b to (QHR pg.ks ls j)++QGz b to f)::QcG l w i m tb o b to) (fun c0 a1=>?_) ?_
 ·refine QAO (xgq ?_);rcases b8 with⟨h0,h1⟩|⟨h0,h1⟩
  ·refine QBH (by rw[a9,h0];rfl) ?_;have e:f=[]:=h1 f (Wp O);refine a1 _ _ ⟨fun h=>(by cases h),?_⟩;rw[e];show _=Blk A _::_::_::_::_::St (_++[])::_;rw[Oi]
  ·refine QCC (by simp;omega) ?_;obtain⟨H,W⟩:∃x,pg.kids[j]? = some x:=⟨_,Wa Om⟩;obtain⟨q,X⟩:∃x,kp[j]? = some x:=⟨_,Wa Om⟩;refine QAh (s:=.val) (h:=QAO (xgq ?_));refine QAH (E:=PE) (xs:=kp) (s:=cs) (h1:=Om) (h:=fun y C=>?_);refine QAN (E:=PE) (xs:=kp) X (h:=?_);refine Qc1 4 (P1:=Each R kp pg.kids) [R q H,Each R (kp.eraseIdx j) (pg.kids.eraseIdx j)] (fun g Q=>QCA Q X W) (QBK ?_);refine QYT Qah ?_;show Ent B _ (QAX Pr 486 [.pointer q,pv i,pv m,pv tb,pv o] .one [.bool] _);refine xcl (h1 j q H f (d++QGz b to (QHR pg.ks ls j)) W O (by rw[Wd];omega)) rdb ?_;rintro⟨c,_⟩ _ ⟨hc,rfl⟩;refine Qja (ca1 ?_)
   refine QBO [R q H,Each R (kp.eraseIdx j) (pg.kids.eraseIdx j)] (Each R kp pg.kids) (fun g Q=>by
    have:=QC9 Om Om Q
    rwa [QKH X,QKH W]at this) ?_
   exact QGO (a1 _ _ ⟨fun h=>hc (Si h),rfl⟩)
 ·rintro a0 As2 ⟨b2,rfl⟩;refine xif (fun h=>?_) (fun h=>?_)
  ·obtain⟨y,C,a4⟩:=b2 h;refine Y _ _ (fun _=>⟨y,by rw[G];exact Us _ (Zp _ C),a4⟩) ?_;rw[G,QFj,QFj,QWU (QZ5 (a:=QHR pg.ks ls j) (x:=f) (z:=QKt pg.ks ls j) (by rw[<-G];exact M) C a4),Oi,Wk]
  ·refine QAO (xgq (xif (fun S=>?_) (fun S=>?_)))
   ·have hj:j=pg.ks.length:=by have:=eq_of_beq S;omega
    refine Y _ _ (fun h=>(by cases h)) ?_;rw[G,QQh j Om,Oi,QFj,Wk]
   ·have hj:j<pg.ks.length:=by
     have:(j:Int)≠ks.n:=Si S
     omega
    obtain⟨k,I⟩:∃x,pg.ks[j]? = some x:=⟨_,Wa hj⟩
    have a6:ltK k b=false:=by
     rw[Zd];intro U
     have D:plK pg.ks b<pg.ks.length:=Om
     have L:=QPA (k:=b) (Wa D);rcases Nat.eq_or_lt_of_le b0 with e|e
     ·subst e;rw[Wa D]at I;obtain rfl:=W3 I;rw[L]at U;cases U
     ·have b4:QKU pg.ks:=QeA M;have J:=Kg.1 b4 _ _ D hj e
      have b5:pg.ks[j]=k:=by rw[Wa hj]at I;exact W3 I
      rw[b5]at J;rw[QEr J U]at L;cases L
    obtain⟨z,P⟩:=QJO j Z I
    refine QAP (QAV (fun(T:Bool) As'=>(T=true->ltK k to=false/\As'=Blk A [ks.v,vs.v,cs.v]::Ar KE ks pg.ks::Ar I64 vs pg.vs::Ar PE cs kp::Each R kp pg.kids::St (d++QGz b to (QHR pg.ks ls j)++QGz b to f)::QcG l w i m tb o b to) /\
     (T=false->ltK k to=true/\As'=Blk A [ks.v,vs.v,cs.v]::Ar KE ks pg.ks::Ar I64 vs pg.vs::Ar PE cs kp::Each R kp pg.kids::St (d++QGz b to (QHR pg.ks ls j)++QGz b to f++[k])::QcG l w i m tb o b to)) (fun c1 a2=>?_) ?_)
    ·refine QAO (xgq ?_);refine QAH (E:=KE) (xs:=pg.ks) (s:=ks) (h1:=hj) (h:=fun y C=>?_)
     obtain rfl:y=k:=by rw[I]at C;exact (W3 C).symm
     refine QAN (E:=KE) (xs:=pg.ks) C (h:=?_);refine QAa (E:=KE) (xs:=pg.ks) C (h:=xgq (xgq ?_));refine QAS (QPm y to) rdb ?_;rintro⟨t,_⟩ _ ⟨a5,rfl⟩;simp only at a5;subst a5;refine QA2 (ca1 (xif (fun D=>?_) (fun D=>?_)))
     ·exact a2 _ _ ⟨fun _=>⟨Si D,rfl⟩,fun h=>(by cases h)⟩
     ·refine QAh (s:=.val) (h:=QAO (xgq ?_));refine QAH (E:=KE) (xs:=pg.ks) (s:=ks) (h1:=hj) (h:=fun c2 c3=>?_);refine QAN (E:=KE) (xs:=pg.ks) C (h:=?_);refine QAa (E:=KE) (xs:=pg.ks) C (h:=QAO (xgq ?_));refine QAH (E:=I64) (xs:=pg.vs) (s:=vs) (h1:=Om) (h:=fun u a'=>?_);refine QAN (E:=I64) (xs:=pg.vs) a' (h:=?_);refine Qib ?_
      refine Qg7 (pre:=[QDL l w,St (d++QGz b to (QHR pg.ks ls j)++QGz b to f)]) (b7 _ y u (by
       have e:(QGz b to (QKt pg.ks ls j)).length=1+(QGz b to z).length:=by
        rw[P,show y::z=[y]++z from rfl,QFj,Qbm a6 (Si D),Wd];rfl
       rw[Wd,Wd];omega)) (Split.perm) rdb ?_
      rintro _ ⟨_,rfl,rfl⟩;refine QBK ?_;exact QGO (a2 _ _ ⟨fun h=>(by cases h),fun _=>⟨Si D,rfl⟩⟩)
    ·rintro T As3 ⟨D,L⟩;refine xif (fun h=>?_) (fun h=>?_)
     ·obtain⟨J,rfl⟩:=D h
      have b6:k∈QKt pg.ks ls j:=by rw[P];simp
      refine Y _ _ (fun _=>⟨k,by rw[G];exact Us _ (Us _ b6),J⟩) ?_
      have hsz:QKU (k::z):=by
       rw[G,P]at M;exact (Of.1 (Of.1 M).2.1).2.1
      rw[G,QFj,QFj,P,QWU (Qia J hsz),Oi,Wk]
     ·obtain⟨J,rfl⟩:=L h;rw[QAE j Om];refine b1 (pg.ks.length+1 - (j+1)) _ _ Om ⟨j+1,rfl,rfl,Om,Om,?_⟩;rw[QSw j I O,QFj,QFj,Qbm a6 J];simp only[Wk]
theorem QSZ:∀(ks:List KY),mix ks (List.replicate (ks.length+1) [])=ks
 | []=>rfl
 | k::ks=>by
  show []++k::mix ks (List.replicate (ks.length+1) [])=k::ks;rw[QSZ ks];rfl
theorem QSk(l:Nat)(a:Loop)(N:Nat)(St:List KY->HP)(r:YOk l a N St)(b c tb f:Nat)(g to:KY):∀(n:Nat) (pg:PT n) (p:Ac) (d:List KY),QFG n pg->QKU (QBZ n pg)->d.length+(QGz g to (QBZ n pg)).length<=N ->
  Ct Pr 486 [.pointer p,pv b,pv c,pv tb,pv f] .one [.bool] (PageO n p pg::St d::QcG l a b c tb f g to) emp (QLz (PageO n p pg) St l a b c tb f g to d (QBZ n pg))
 | 0,(pg:Pg Empty),p,d,hg,hs,hN=>by
  have t:pg.ks.length<=15/\pg.vs.length=pg.ks.length:=hg;have e:=QSZ pg.ks;have h:=QWz ER l a N St r b c tb f g to pg (List.replicate (pg.ks.length+1) []) (by simp) t.1 t.2 (by rw[e];exact hs) (.inl ⟨by cases h:pg.kids with|nil=>rfl|cons x _=>exact x.elim,fun x hx=>(List.mem_replicate.1 hx).2⟩) p d (by rw[e];exact hN);rw[e]at h;exact h
 | n+1,(pg:Pg (PT n)),p,d,hg,hs,hN=>by
  obtain⟨y,z,g3,g4⟩:pg.ks.length<=15/\pg.vs.length=pg.ks.length/\pg.kids.length=pg.ks.length+1/\∀k∈pg.kids,QFG n k:=hg
  have u:(pg.kids.map (QBZ n)).length=pg.ks.length+1:=Si g3
  have o:QKU (mix pg.ks (pg.kids.map (QBZ n))):=hs;refine QWz (PageO n) l a N St r b c tb f g to pg (pg.kids.map (QBZ n)) u y z o (.inr ⟨g3,fun j q i v d s m w=>?_⟩) p d hN
  have e:v=QBZ n i:=by
   rw[Ol,s]at m;exact (W3 m).symm
  subst e;refine QSk l a N St r b c tb f g to n i q d (g4 i (Wp s)) ?_ w;rw[QLT j u m]at o;exact (Of.1 (Of.1 o).2.1).1
theorem QMP(l:Nat)(j:Loop)(N:Nat)(St:List KY->HP)(z:YOk l j N St)(i tb m:Nat)(f to:KY)(q:Ac)(L:List KY)(d:List KY)(C:d.length+(QGz f to L).length<=N) :
  Ct Pr 485 [QWI l,pv i,pv tb,pv m] (.tup []) [] [QDL l j,St d,Blk i (QZI f),Blk tb (QZI to),Blk m [.pointer q],QDG q L] emp
   (fun _ Bs=>Bs=[QDL l j,St (d++QGz f to L),Blk i (QZI f),Blk tb (QZI to),Blk m [.pointer q],QDG q L]):=by
 refine Qh1 QIf fun B _=>?_;unfold QGE;refine QAL fun r=>QAL fun t=>xsq (xgq ?_);refine QgX 7 fun o b rp v=>?_;subst v;refine QAO (xgq ?_);refine QBh (fun As'=>As'=[QDL l j,St (d++QGz f to L),Blk i (QZI f),Blk tb (QZI to),Blk m [pv b],QDG (some ⟨b,0,none⟩) L]) (fun D u=>?_) ?_
 ·refine QEZ 1 (fun Bs=>(rp=none/\L=[]/\Bs=[])\/∃(n:Nat) (pg:PT n),QFG n pg/\QBZ n pg=L/\rp≠none/\Bs=[PageO n rp pg]) (fun g p=>?_) ?_
  ·rcases p with⟨h1,e⟩|⟨n,pg,h1,e,k⟩
   ·exact⟨[],.inl ⟨h1,e,rfl⟩,trivial⟩
   ·obtain⟨E,w⟩:=k.some;exact⟨_,.inr ⟨n,pg,h1,e,by rw[w];simp,rfl⟩,QCe k⟩
  ·rintro Bs (⟨rfl,rfl,rfl⟩|⟨n,pg,h1,e,k,rfl⟩)
   ·refine QA2 (QBH rfl ?_);refine QZM (A:=QTQ none []) (.inl ⟨rfl,rfl⟩) ?_;refine QIB b none [] o ?_;have:=u _ rfl;rw[show QGz f to []=[] from rfl,Oi]at this;exact QGO this
   ·refine QAz (QCC (by cases rp with|none=>exact absurd rfl k|some a=>rfl) (QAP (QAh (s:=.val) (h:=xgq ?_))));refine QAO (xgq (QYT Qah ?_));show Ent B _ (QAX Pr 486 [.pointer rp,pv i,pv t,pv tb,pv r] .one [.bool] _);refine xcl (QSk l j N St z i t tb r f to n pg rp d h1 (by rw[e];exact o) (by rw[e];exact C)) rdb ?_;rintro⟨c,_⟩ _ ⟨_,rfl⟩;rw[e];refine Qja (ca1 ?_);refine QBO [PageO n rp pg] (QTQ rp L) (fun g p=>?_) ?_
    ·obtain⟨a,_,x,_,_,y,_⟩:=p;exact .inr ⟨n,pg,h1,e,x.mono y⟩
    ·refine QIB b rp L o ?_;exact QGO (u _ rfl)
 ·rintro As2 rfl;exact QAD rfl
theorem QPV(q:Ac)(a to:KY):Ct Pr 425 [.pointer q,.agg #[.I a.1,.I a.2],.agg #[.I to.1,.I to.2]] .one [.val] [] emp
  (fun t Bs=>∃e tb f,t.1=.func (.func 485) #[] #[pv e,pv tb,pv f]/\Bs=[Blk e (QZI a),Blk tb (QZI to),Blk f [.pointer q]]):=by
 refine sp1 (QHN _ _ _ _ _) fun B _=>?_;unfold QHN mf;dsimp only;refine QAL fun b=>QAL fun c=>QAL fun d=>?_;exact QAK [Blk c (QZI a),Blk d (QZI to),Blk b [.pointer q]] (QAD ⟨c,d,b,rfl,rfl⟩)
variable {B:QBJ}{As:List HP}
def QKg(b:UInt8):Bool:=(decide (97<=b.toNat)&&decide (b.toNat<=122))||(decide (65<=b.toNat)&&decide (b.toNat<=90))
def Qac(b:UInt8):Bool:=(decide (48<=b.toNat)&&decide (b.toNat<=57))||b.toNat == 95||b.toNat == 46||b.toNat == 45
def Qdl(s:ByteArray)(i:Nat):Bool:=match s.data.toList[i]? with
 | none=>true
 | some b=>QKg b||(decide (0<i)&&Qac b)
def QDQ(s:ByteArray):Bool:=decide (1<=s.size)&&decide (s.size<=16)&&(List.range s.size).all (Qdl s)
theorem QHh{s:ByteArray}{k:Nat}(a:k<s.size)(h:Qdl s k=false):QDQ s=false:=by
 unfold QDQ
 have:(List.range s.size).all (Qdl s)=false:=by
  rw[Zd];intro e;have:=Ot.1 e k (Kh.2 a);rw[h]at this;cases this
 rw[this];simp
theorem QXg{s:ByteArray}(h:∀i,i<s.size->Qdl s i=true):QDQ s=(decide (1<=s.size)&&decide (s.size<=16)):=by
 unfold QDQ;have:(List.range s.size).all (Qdl s)=true:=Ot.2 fun i hi=>h i (Kh.1 hi);rw[this];simp
theorem QfY{s:ByteArray}{k:Nat}(a:k<s.size):∃b,s.data.toList[k]? = some b:=⟨_,Wa (Si a)⟩
theorem QSx(s:ByteArray):Ct Pr 113 [.string s] .one [.bool] [] emp (fun r Bs=>r.1=QDQ s/\Bs=[]):=by
 refine QG9 QUh fun B _=>?_;have c:∀{x:Bool}{As:List HP},x=QDQ s->Ent B As (Ret B (ss:=[.bool]) (fun r Bs=>r.1=QDQ s/\Bs=[]) (x,())):=fun h=>QAd (l:=[]) (QAD ⟨h,rfl⟩);unfold QSy;refine Qhb Kr fun r=>?_;refine Qhy (fun n As'=>∃k,n=s.size - k/\k<=s.size/\As'=[QVM r s k]/\∀i,i<k->Qdl s i=true) s.size ⟨0,Om,Om,rfl,fun i hi=>Om⟩ ?_;rintro n As' K ⟨k,rfl,t,rfl,j⟩ q;refine Qiu (fun a=>?_) (fun a=>?_)
 ·refine QBH rfl (c ?_);rw[QXg (fun i hi=>j i Om),Oo];simp only[Wf,Wq];omega
 obtain⟨b,hb⟩:=QfY a
 have d:Qdl s k=(QKg b||(decide (0<k)&&Qac b)):=by simp only[Qdl,hb]
 refine QCC rfl ?_;by_cases m:b.toNat<128
 ·rw[Go.Cf.decode_ascii hb m]
  (try dsimp only)
  have next:Qdl s k=true->Ent B [QVM r s (k+1)] K:=fun h=>q (s.size - (k+1)) _ Om ⟨k+1,rfl,Om,rfl,fun i hi=>by
   by_cases e:i=k
   ·subst e;exact h
   ·exact j i Om⟩
  refine QAV (fun(x:Bool) As'=>As'=[QVM r s (k+1)]/\x=QKg b) (fun p h1=>xif (fun e=>h1 _ _ ⟨rfl,?_⟩) (fun e=>h1 _ _ ⟨rfl,?_⟩)) ?_
  ·rw[e];symm;simp[QKg]at *;omega
  ·rw[Oo];simp[QKg]at *;omega
  rintro x As2 ⟨rfl,rfl⟩;refine QAM (xif (fun e=>next (by rw[d,e];rfl)) (fun e=>QAM (xif (fun g=>?_) (fun g=>?_))))
  ·refine xif (fun f=>next ?_) (fun f=>c ?_)
   ·rw[d];simp[Qac]at *;omega
   ·symm;refine QHh a ?_;rw[d,e];simp[Qac]at *;omega
  ·refine QBH rfl (c ?_);symm;refine QHh a ?_;rw[d,e];simp at *;omega
 ·have u:=Go.Cf.decode_other hb m;have o:QDQ s=false:=QHh a (by rw[d];simp[QKg,Qac]at *;omega);refine QAV (fun(x:Bool) As'=>x=false) (fun p h1=>xif (fun e=>h1 _ _ ?_) (fun e=>h1 _ _ ?_)) ?_
  ·simp at e;omega
  ·simp;omega
  rintro x As2 rfl;refine QAM (QBH rfl (QAM (xif (fun g=>xif (fun f=>?_) (fun f=>c o.symm)) (fun g=>QBH rfl (c o.symm)))));simp at f;omega
variable {B:QBJ}{As F:List HP}
theorem QhQ{s t u v x:Sh}{body:(s.ty->t.ty->u.ty->v.ty->x.ty->WP)->WP}{rest:s.ty->t.ty->u.ty->v.ty->x.ty->WP}(J:s.ty->t.ty->u.ty->v.ty->x.ty->List HP->Prop)
  (h1:∀K:s.ty->t.ty->u.ty->v.ty->x.ty->WP,(∀a b c d e As',J a b c d e As'->Ent B As' (K a b c d e))->Ent B As (body K)) (f:∀a b c d e As',J a b c d e As'->Ent B As' (rest a b c d e)):Ent B As (QBW [s,t,u,v,x] body rest):=h1 rest f
structure RE where
 kind:Int
 time:Int
 tag:ByteArray
 val:Int
 id:Int
abbrev rec0:RE:=⟨0,0,ByteArray.empty,0,0⟩
abbrev RE.v(r:RE):Value:=.agg #[.I r.kind,.I r.time,.string r.tag,.I r.val,.I r.id]
abbrev RE.cells(r:RE):Ad:=[.I r.kind,.I r.time,.string r.tag,.I r.val,.I r.id]
def QA4(v lo hi:Int):Bool:=decide (v>=lo)&&decide (v<=hi)
def QSU(k:Int):Option (Bool×Bool×Bool×Int×Int):=
 if k=1 then some (true,true,false,-1099511627776,1099511627776)
 else if k=2 then some (true,true,false,1,4)
 else if k=3\/k=4 then some (false,true,false,1,1099511627776)
 else if k=5 then some (false,false,true,1,1099511627776)
 else if k=6 then some (false,true,true,0,255)
 else none
def QCL(r:RE):Int:=match QSU r.kind with
 | none=>28
 | some (tg,vl,ids,lo,hi)=>
  if ((!tg && !(r.tag.toList == ByteArray.empty.toList))||((!vl&&r.val != 0)||(!ids&&r.id != 0)))=true then 23
  else if (!QA4 r.time 0 1099511627776)=true then 3
  else if (tg && !QDQ r.tag)=true then 8
  else if ((vl && !QA4 r.val lo hi)||(ids && !QA4 r.id 1 1099511627776))=true then 3
  else 0
theorem QBx(v lo hi:Int):Ct Pr 54 [.I v,.I lo,.I hi] .one [.bool] [] emp (fun t Bs=>t.1=QA4 v lo hi/\Bs=[]):=by
 refine sp1 (QJa _ _ _) fun B _=>?_;unfold QJa mf;dsimp only;exact QAD ⟨rfl,rfl⟩
theorem QMt(r:RE):Ct Pr 55 [r.v] .one [.I] [] emp (fun t Bs=>t.1=QCL r/\Bs=[]):=by
 refine sp1 (QK2 _ _ _ _ _) fun B _=>?_;have f:∀{x:Int}{As:List HP},x=QCL r->Ent B As (Ret B (ss:=[.I]) (fun t Bs=>t.1=QCL r/\Bs=[]) (x,())):=fun h=>QAd (l:=[]) (QAD ⟨h,rfl⟩);unfold QK2 mf;dsimp only;refine QAL fun b=>xgq ?_
 -- behind the kinds
 refine QhQ (fun(e:Bool) (lo hi:Int) (c ids:Bool) As'=>QSU r.kind=some (e,c,ids,lo,hi)/\As'=[Blk b r.cells]) (fun K a=>?_) ?_
 ·refine xif (fun h=>a _ _ _ _ _ _ ⟨?_,rfl⟩) (fun h=>QAM (xif (fun g=>a _ _ _ _ _ _ ⟨?_,rfl⟩) (fun g=>QAV (fun(x:Bool) As'=>x=(r.kind == 3||r.kind == 4)/\As'=[Blk b r.cells]) (fun s p=>xif (fun d=>p _ _ ⟨?_,rfl⟩) (fun d=>p _ _ ⟨?_,rfl⟩)) ?_)))
  ·have:=eq_of_beq h;unfold QSU;rw[We this]
  ·have:=eq_of_beq g;unfold QSU;rw[Wb (Si h),We this]
  ·rw[d];rfl
  ·rw[d];rfl
  ·rintro x _ ⟨rfl,rfl⟩
   have j:r.kind≠1:=Si h
   have k:r.kind≠2:=Si g
   refine QAM (xif (fun d=>a _ _ _ _ _ _ ⟨?_,rfl⟩) (fun d=>?_))
   ·unfold QSU;rw[Wb j,Wb k,We (Si d)]
   have o:¬(r.kind=3\/r.kind=4):=Si d
   refine QAM (xif (fun i=>a _ _ _ _ _ _ ⟨?_,rfl⟩) (fun i=>xif (fun m=>a _ _ _ _ _ _ ⟨?_,rfl⟩) (fun m=>f ?_)))
   ·have:=eq_of_beq i;unfold QSU;rw[Wb j,Wb k,Wb o,We this]
   ·have:=eq_of_beq m;unfold QSU;rw[Wb j,Wb k,Wb o,Wb (Si i),We this]
   ·unfold QCL QSU;rw[Wb j,Wb k,Wb o,Wb (Si i),Wb (Si m)]
 rintro e lo hi c ids _ ⟨q,rfl⟩
 have hc:QCL r=if ((!e && !(r.tag.toList == ByteArray.empty.toList))||((!c&&r.val != 0)||(!ids&&r.id != 0)))=true then 23
  else if (!QA4 r.time 0 1099511627776)=true then 3
  else if (e && !QDQ r.tag)=true then 8
  else if ((c && !QA4 r.val lo hi)||(ids && !QA4 r.id 1 1099511627776))=true then 3
  else 0:=by unfold QCL;rw[q]
 clear q;refine QAV (fun(x:Bool) As'=>x=(!e && !(r.tag.toList == ByteArray.empty.toList))/\As'=[Blk b r.cells]) (fun K a=>xif (fun h=>QAh (h:=a _ _ ⟨by rw[h];rfl,rfl⟩)) (fun h=>a _ _ ⟨by rw[h];rfl,rfl⟩)) ?_;rintro _ _ ⟨rfl,rfl⟩;refine QAV (fun(x:Bool) As'=>x=((!e && !(r.tag.toList == ByteArray.empty.toList))||((!c&&r.val != 0)||(!ids&&r.id != 0)))/\As'=[Blk b r.cells]) (fun K a=>xif (fun h=>a _ _ ⟨by rw[h];rfl,rfl⟩) (fun h=>?_)) ?_
 ·refine QAV (fun(x:Bool) As'=>x=(!c&&r.val != 0)/\As'=[Blk b r.cells]) (fun K a=>xif (fun h=>QAh (h:=a _ _ ⟨by rw[h];rfl,rfl⟩)) (fun h=>a _ _ ⟨by rw[h];rfl,rfl⟩)) ?_;rintro _ _ ⟨rfl,rfl⟩;refine QAV (fun(x:Bool) As'=>x=((!c&&r.val != 0)||(!ids&&r.id != 0))/\As'=[Blk b r.cells]) (fun K a=>xif (fun h=>a _ _ ⟨by rw[h];rfl,rfl⟩) (fun h1=>QAM (xif (fun h=>QAh (h:=a _ _ ⟨by rw[h1,h];rfl,rfl⟩)) (fun h=>a _ _ ⟨by rw[h1,h];rfl,rfl⟩)))) ?_;rintro _ _ ⟨rfl,rfl⟩;exact a _ _ ⟨by rw[h];rfl,rfl⟩
 rintro _ _ ⟨rfl,rfl⟩;refine xif (fun h=>f (by rw[hc,We h])) (fun h1=>xgq ?_);rw[Wb (by rw[h1];simp)]at hc;refine QAS (QBx _ _ _) rdb ?_;rintro⟨x,_⟩ _ ⟨hx,rfl⟩;simp only at hx;subst hx;refine QA2 (ca1 (xif (fun h=>f (by rw[hc,We h])) (fun g=>?_)));rw[Wb (by rw[g];simp)]at hc;refine QAV (fun(x:Bool) As'=>x=(e && !QDQ r.tag)/\As'=[Blk b r.cells]) (fun K a=>xif (fun h=>xgq ?_) (fun h=>a _ _ ⟨by rw[h];rfl,rfl⟩)) ?_
 ·refine QAS (QSx _) rdb ?_;rintro⟨x,_⟩ _ ⟨hx,rfl⟩;simp only at hx;subst hx;exact QA2 (ca1 (a _ _ ⟨by rw[h];rfl,rfl⟩))
 rintro _ _ ⟨rfl,rfl⟩;refine xif (fun h=>f (by rw[hc,We h])) (fun d=>?_);rw[Wb (by rw[d];simp)]at hc;refine QAV (fun(x:Bool) As'=>x=(c && !QA4 r.val lo hi)/\As'=[Blk b r.cells]) (fun K a=>xif (fun h=>xgq ?_) (fun h=>a _ _ ⟨by rw[h];rfl,rfl⟩)) ?_
 ·refine QAS (QBx _ _ _) rdb ?_;rintro⟨x,_⟩ _ ⟨hx,rfl⟩;simp only at hx;subst hx;exact QA2 (ca1 (a _ _ ⟨by rw[h];rfl,rfl⟩))
 rintro _ _ ⟨rfl,rfl⟩;refine QAV (fun(x:Bool) As'=>x=((c && !QA4 r.val lo hi)||(ids && !QA4 r.id 1 1099511627776))/\As'=[Blk b r.cells]) (fun K a=>xif (fun h=>a _ _ ⟨by rw[h];rfl,rfl⟩) (fun h=>QAM (xif (fun n=>xgq ?_) (fun n=>a _ _ ⟨by rw[h,n];rfl,rfl⟩)))) ?_
 ·refine QAS (QBx _ _ _) rdb ?_;rintro⟨x,_⟩ _ ⟨hx,rfl⟩;simp only at hx;subst hx;exact QA2 (ca1 (a _ _ ⟨by rw[h,n];rfl,rfl⟩))
 rintro _ _ ⟨rfl,rfl⟩;exact xif (fun h=>f (by rw[hc,We h])) (fun h=>f (by rw[hc,Wb (by rw[h];simp)]))
def QFp(rest:Ab)(sh:Bool):Int×Ab×Bool:=if rest.length<8 then (0,rest,true) else (IntKind.i64.wrap ((beV (rest.take 8):Nat):Int),rest.drop 8,sh)
def QW6(r:RE)(rest:Ab)(sh:Bool):RE×Int:=if sh=true then (rec0,1) else if 0<rest.length then (rec0,2) else if QCL r≠0 then (rec0,QCL r) else (r,0)
def QSn(k:Int)(a:Int×Ab×Bool):RE×Int:=match a.2.1 with
 | []=>(rec0,1)
 | n::r2=>if r2.length<n.toNat then (rec0,1) else
  QW6 ⟨k,a.1,⟨(r2.take n.toNat).toArray⟩,(QFp (r2.drop n.toNat) a.2.2).1,0⟩ (QFp (r2.drop n.toNat) a.2.2).2.1 (QFp (r2.drop n.toNat) a.2.2).2.2
def QfW(k:Int)(a:Int×Ab×Bool):RE×Int:=
 if k=1\/k=2 then QSn k a
 else if k=5 then QW6 ⟨k,a.1,ByteArray.empty,0,(QFp a.2.1 a.2.2).1⟩ (QFp a.2.1 a.2.2).2.1 (QFp a.2.1 a.2.2).2.2
 else if k=6 then QW6 ⟨k,a.1,ByteArray.empty,(QFp (QFp a.2.1 a.2.2).2.1 (QFp a.2.1 a.2.2).2.2).1,(QFp a.2.1 a.2.2).1⟩ (QFp (QFp a.2.1 a.2.2).2.1 (QFp a.2.1 a.2.2).2.2).2.1 (QFp (QFp a.2.1 a.2.2).2.1 (QFp a.2.1 a.2.2).2.2).2.2
 else QW6 ⟨k,a.1,ByteArray.empty,(QFp a.2.1 a.2.2).1,0⟩ (QFp a.2.1 a.2.2).2.1 (QFp a.2.1 a.2.2).2.2
def QD1(a:Ab):RE×Int:=match a with
 | []=>(rec0,1)
 | k::rest=>if QA4 (k.toNat:Int) 1 6=true then QfW k.toNat (QFp rest false) else (rec0,28)
theorem QWT{k:UInt8}{rest:Ab}(h:QA4 (k.toNat:Int) 1 6=false):QD1 (k::rest)=(rec0,28):=by
 show (if QA4 (k.toNat:Int) 1 6=true then _ else _)=_;rw[Wb (by rw[h];simp)]
theorem QQ2{k:UInt8}{rest:Ab}(h:QA4 (k.toNat:Int) 1 6=true):QD1 (k::rest)=QfW k.toNat (QFp rest false):=by
 show (if QA4 (k.toNat:Int) 1 6=true then _ else _)=_;rw[We h]
theorem QWy(rest:Ab)(sh:Bool):(QFp rest sh).2.1.length<=rest.length:=by
 unfold QFp;split<;>simp
theorem QDX(b d:Nat)(s:Sl)(rest:Ab)(sh:Bool)(hc:s.n<=s.c)(y:rest.length<=140737488351232) :
  Ct Pr 53 [.pointer (some ⟨b,0,none⟩),.pointer (some ⟨d,0,none⟩)] .one [.I] [Blk b [s.v],Blk d [.bool sh]] (RAr U8 s rest)
   (fun t Bs=>t.1=(QFp rest sh).1/\∃a:Sl,Bs=[Blk b [a.v],Blk d [.bool (QFp rest sh).2.2]]/\a.n<=a.c/\∀g,RAr U8 s rest g->RAr U8 a (QFp rest sh).2.1 g):=by
 refine sp1 (QLJ _ _) fun B m=>?_;have hn:=m.1;unfold QLJ mf;dsimp only;refine xgq (QAB (fun h=>?_) (fun h=>?_))
 ·have e:QFp rest sh=(0,rest,true):=by unfold QFp;rw[We Om]
  refine QTt (h:=QAD ⟨by rw[e],s,by rw[e],hc,fun g f=>by rw[e];exact f⟩)
 have q:8<=rest.length:=Om
 have e:QFp rest sh=(IntKind.i64.wrap ((beV (rest.take 8):Nat):Int),rest.drop 8,sh):=by unfold QFp;rw[Wb Om]
 refine QAh (h:=QEi Om Om Om Om ?_);simp only[Wh];have o:=m.cut 0 8 s.c Om Om q;rw[Kk]at o;have r:Fro B (s.cut (Int.toNat 0) (Int.toNat 8) s.c 1) U8 (rest.take 8):=⟨o⟩
 have u:(rest.take 8).length=8:=by simp;omega
 have x:=r.rd.1;refine QBt (fun(n:Nat) (v:Int) (i:Int) As=>∃k:Nat,i=(k:Int)/\v=((beV ((rest.take 8).take k):Nat):Int)/\n=8 - k/\k<=8/\As=[Blk b [s.v],Blk d [.bool sh]]) 8 ⟨0,rfl,rfl,rfl,Om,rfl⟩ ?_;rintro n _ _ _ K ⟨k,rfl,rfl,rfl,w,rfl⟩ p;refine QAB (fun h=>?_) (fun h=>?_)
 ·have j:k<8:=Om
  have hx:=Wa (l:=rest.take 8) (i:=k) Om;refine QAH (h1:=Om) (h:=fun _ _=>?_);refine QAN hx (h:=QBA Dc ?_);rw[QiH _ _ (QJq u j),QAE k Om];exact p (8 - (k+1)) _ _ _ Om ⟨k+1,rfl,by rw[QJt hx],rfl,Om,rfl⟩
 ·have j:k=8:=Om
  subst j;rw[Wn (l:=rest.take 8) Om];refine QAh (h:=QEi Om Om Om Om (xsq ?_));rw[show (8:Int).toNat=8 from rfl,show ((s.n:Int)).toNat=s.n by omega,show ((s.c:Int)).toNat=s.c by omega];refine QAD ⟨by rw[e],s.cut 8 s.n s.c 1,by rw[e],by show s.n - 8<=s.c - 8;omega,fun g f=>?_⟩;have:=f.cut 8 s.n s.c Om hc Om;rw[Wn Om]at this;rw[e];exact this
theorem Qil{P:Program}{t d e:TypeId}{s:Sl}{xs:Ab}{K:ByteArray->WP}[r:RdA B As s U8 xs]{a:Addr}(f:s.p=some a)(g:P.underlying t=some (.slice e))(he:P.underlying e=some (.int .u8))(i:P.underlying d=some .string)(h:Ent B As (K ⟨xs.toArray⟩)) :
  Ent B As (QLu P (convert t d s.v) .str K):=by
 by_cases h0:0<xs.length
 ·exact Qj2 h0 g he i h
 ·intro w b;have hn:=(r.rd w b).1;obtain rfl:xs=[]:=Wm Om;obtain⟨p,n,c⟩:=s;simp only at f hn;subst f;obtain rfl:n=0:=hn.symm;exact⟨⟨#[]⟩,w,run_convert_bytes_back w t d e a c [] g he i fun j hj=>absurd hj (Nat.not_lt_zero _),h w b⟩
def QNU(a:Ab):Tup [.I,.I,.str,.I,.I,.I]->List HP->Prop:=fun t Bs=>t.1=(QD1 a).1.kind/\t.2.1=(QD1 a).1.time/\t.2.2.1=(QD1 a).1.tag/\t.2.2.2.1=(QD1 a).1.val/\t.2.2.2.2.1=(QD1 a).1.id/\t.2.2.2.2.2.1=(QD1 a).2/\Bs=[]
theorem QUp(b:Sl)(w:Ab)(hc:b.n<=b.c)(d8:w.length<=140737488351232):Ct Pr 20 [b.v] (.tup [some 5,none]) [.I,.I,.str,.I,.I,.I] [] (RAr U8 b w) (QNU w):=by
 refine QAm (ss:=[.I,.I,.str,.I,.I,.I]) QSS fun B M=>?_;have c8:Fro B b U8 w:=⟨M⟩;have hn:=M.1;have G:∀{r:RE}{e:Int}{As:List HP},QD1 w=(r,e)->Ent B As (Ret B (QNU w) (r.kind,r.time,r.tag,r.val,r.id,e,())):=fun h=>QAd (l:=[]) (QAD (by unfold QNU;rw[h];exact⟨rfl,rfl,rfl,rfl,rfl,rfl,rfl⟩));show Ent B [] (QKc b fun k a6 a7 v i e=>Ret B (QNU w) (k,a6,a7,v,i,e,()));unfold QKc;refine QAL fun N=>xif (fun h=>?_) (fun h=>?_)
 ·have e:w=[]:=Wm (by have:=eq_of_beq h;omega);iterate 5 (refine xsq ?_)
  iterate 5 (refine xgq ?_)
  exact G (r:=rec0) (by rw[e];rfl)
 cases w with
 | nil=>exact absurd h (by rw[<-hn];simp)
 | cons k rest=>
 have hl:rest.length+1=b.n:=Si hn
 refine QEi Om Om Om Om ?_;rw[show (1:Int).toNat=1 from rfl,show ((b.n:Int)).toNat=b.n by omega,show ((b.c:Int)).toNat=b.c by omega];have Y:=M.cut 1 b.n b.c Om hc (by simp;omega);rw[Wn (by simp;omega),La,Kk]at Y;generalize a3:b.cut 1 b.n b.c 1=J
 have b6:J.n<=J.c:=by rw[<-a3];show b.n - 1<=b.c - 1;omega
 have Z:RAr U8 J rest (frz B.W B.h0):=by rw[<-a3];exact Y
 refine QAL fun m=>QAL fun o=>xsq (xsq ?_);refine Qb7 (E:=U8) (xs:=k::rest) (s:=b) (h0:=Dc) (h1:=by simp) (h:=fun y a8=>?_)
 obtain rfl:y=k:=Si a8.symm
 refine QAN (E:=U8) (xs:=y::rest) (x:=y) rfl (h:=?_);refine QAL fun O=>?_;iterate 5 (refine xsq ?_)
 have c9:y.toNat<256:=by have:=y.toNat_lt;omega
 rw[QAC _ Om Om];refine xgq ?_;refine QAS (QBx _ _ _) rdb ?_;rintro⟨x,_⟩ _ ⟨hx,rfl⟩;simp only at hx;subst hx;refine QA2 (ca1 (xif (fun h=>?_) (fun h=>?_)))
 ·iterate 5 (refine xsq ?_)
  iterate 5 (refine xgq ?_)
  exact G (r:=rec0) (QWT (Si h))
 have g:=QQ2 (k:=y) (rest:=rest) (Si h);have c':Fro B J U8 rest:=⟨Z⟩;have a0:=QWy rest false;refine xcl (QDX m o J rest false b6 Om) rdb ?_;rintro⟨r,_⟩ _ ⟨f,d,rfl,S,a'⟩;simp only at f;subst f
 generalize d7:QFp rest false=a at *
 have t:=a' _ Z;have a1:Fro B d U8 a.2.1:=⟨t⟩;have H:=t.1;refine QBK (ca1 (xsq (xgq ?_)));refine QAV (fun(x:Bool) As'=>x=((y.toNat:Int) == 1||(y.toNat:Int) == 2)/\As'=[Blk m [d.v],Blk o [.bool a.2.2],Blk O (RE.cells ⟨y.toNat,a.1,ByteArray.empty,0,0⟩),Blk N rec0.cells]) (fun a9 A=>xif (fun h=>A _ _ ⟨by rw[h];rfl,rfl⟩) (fun h=>A _ _ ⟨by rw[h];rfl,rfl⟩)) ?_;rintro _ _ ⟨rfl,rfl⟩;refine QBh (fun As'=>∃(r:RE) (L:Sl) (a4:Ab) (a5:Bool),QD1 (y::rest)=QW6 r a4 a5/\L.n<=L.c/\RAr U8 L a4 (frz B.W B.h0)/\As'=[Blk m [L.v],Blk o [.bool a5],Blk O r.cells,Blk N rec0.cells]) (fun a9 A=>?_) ?_
 ·refine xif (fun hx=>?_) (fun hx=>?_)
  ·have T:(y.toNat:Int)=1\/(y.toNat:Int)=2:=Si hx
   rw[QfW,We T]at g
   refine QAP (QAV (fun(c:Bool) As'=>(match a.2.1 with
    | []=>c=true
    | n::r2=>c=decide (r2.length<n.toNat))/\As'=[Blk m [d.v],Blk o [.bool a.2.2],Blk O (RE.cells ⟨y.toNat,a.1,ByteArray.empty,0,0⟩),Blk N rec0.cells]) (fun c3 V=>?_) ?_)
   ·refine xgq (xif (fun h0=>V _ _ ⟨?_,rfl⟩) (fun h0=>?_))
    ·have:a.2.1=[]:=Wm (by have:=eq_of_beq h0;omega);rw[this]
    ·cases he:a.2.1 with
     | nil=>rw[he]at H;exact absurd h0 (by rw[<-H];simp)
     | cons n r2=>
      rw[he]at a1 H
      have b7:r2.length+1=d.n:=Si H
      have b8:n.toNat<256:=by have:=n.toNat_lt;omega
      refine xgq (xgq ?_);refine Qb7 (E:=U8) (xs:=n::r2) (s:=d) (h0:=Dc) (h1:=by simp) (h:=fun u P=>?_)
      obtain rfl:u=n:=Si P.symm
      refine QAN (E:=U8) (xs:=u::r2) (x:=u) rfl (h:=V _ _ ⟨?_,rfl⟩);rw[he];show _=decide (r2.length<u.toNat);rw[QAC (u.toNat:Int) Om Om,QAC _ Om Om,Oo];simp only[Wq];omega
   ·rintro c _ ⟨j,rfl⟩;refine xif (fun h0=>?_) (fun h0=>?_)
    ·iterate 5 (refine xsq ?_)
     iterate 5 (refine xgq ?_)
     refine G (r:=rec0) ?_;rw[g];unfold QSn
     cases he:a.2.1 with
     | nil=>rfl
     | cons n r2=>
      rw[he]at j;have:decide (r2.length<n.toNat)=true:=j.symm.trans h0;show (if _ then _ else _)=_;rw[We (Ox this)]
    ·cases he:a.2.1 with
     | nil=>
      rw[he]at j;have j:c=true:=j;rw[j]at h0;cases h0
     | cons n r2=>
      rw[he]at j a1 H t;have j:c=decide (r2.length<n.toNat):=j
      have d0:n.toNat<=r2.length:=by
       have:¬r2.length<n.toNat:=Uv (j.symm.trans h0);omega
      have b9:QD1 (y::rest)=QW6 ⟨y.toNat,a.1,⟨(r2.take n.toNat).toArray⟩,(QFp (r2.drop n.toNat) a.2.2).1,0⟩ (QFp (r2.drop n.toNat) a.2.2).2.1 (QFp (r2.drop n.toNat) a.2.2).2.2:=by
       rw[g];unfold QSn;rw[he];show (if _ then _ else _)=_;rw[Wb Om]
      have b7:r2.length+1=d.n:=Si H
      have b8:n.toNat<256:=by have:=n.toNat_lt;omega
      have d1:r2.length<=rest.length:=by rw[he]at a0;simp at a0;omega
      refine xgq ?_;refine Qb7 (E:=U8) (xs:=n::r2) (s:=d) (h0:=Dc) (h1:=by simp) (h:=fun u P=>?_)
      obtain rfl:u=n:=Si P.symm
      refine QAN (E:=U8) (xs:=u::r2) (x:=u) rfl (h:=QAP (xgq ?_));rw[QAC (u.toNat:Int) Om Om,QAC (1+(u.toNat:Int)) Om Om,show 1+(u.toNat:Int)=((u.toNat+1:Nat):Int) by omega];refine QEi Om Om Om Om (QAh (h:=QEi Om Om Om Om ?_));simp only[Wh];have a2:=t.cut 1 (u.toNat+1) d.c Om Om (by simp;omega);have U:=t.cut (u.toNat+1) d.n d.c Om Om (by simp;omega)
      have b':((u::r2).take (u.toNat+1)).drop 1=r2.take u.toNat:=by simp
      have c0:((u::r2).take d.n).drop (u.toNat+1)=r2.drop u.toNat:=by
       rw[Wn (by simp;omega)];simp
      rw[b']at a2;rw[c0]at U;have d2:Fro B (d.cut (Int.toNat 1) (u.toNat+1) d.c 1) U8 (r2.take u.toNat):=⟨a2⟩
      obtain⟨X,b0⟩:∃X,(d.cut (Int.toNat 1) (u.toNat+1) d.c 1).p=some X:=by
       obtain⟨_,_,b1⟩:=t;obtain⟨c4,c5,_,_,_,_,b2,_⟩:=b1 Om;unfold Sl.cut;rw[b2];split
       ·exact⟨_,rfl⟩
       ·exact⟨_,rfl⟩
      refine Qil (e:=5) b0 Kr Kr Kr ?_;refine QDK (h:=xsq (QDK (h:=xsq ?_)));have d3:Fro B (d.cut (u.toNat+1) d.n d.c 1) U8 (r2.drop u.toNat):=⟨U⟩
      have c1:(d.cut (u.toNat+1) d.n d.c 1).n<=(d.cut (u.toNat+1) d.n d.c 1).c:=by show d.n - _<=d.c - _;omega
      refine xcl (QDX m o (d.cut (u.toNat+1) d.n d.c 1) (r2.drop u.toNat) a.2.2 c1 (by simp;omega)) rdb ?_;rintro⟨r,_⟩ _ ⟨f,q,rfl,z,C⟩;simp only at f;subst f;refine QBK (ca1 (xsq ?_));exact A _ ⟨_,q,_,_,b9,z,C _ U,rfl⟩
  ·have T:¬((y.toNat:Int)=1\/(y.toNat:Int)=2):=Si hx
   rw[QfW,Wb T]at g;have d4:=QWy a.2.1 a.2.2;refine QAM (xif (fun Q=>?_) (fun Q=>?_))
   ·rw[We (eq_of_beq Q)]at g;refine xcl (QDX m o d a.2.1 a.2.2 S Om) rdb ?_;rintro⟨r,_⟩ _ ⟨f,q,rfl,z,C⟩;simp only at f;subst f;refine QBK (ca1 (xsq ?_));exact A _ ⟨_,q,_,_,g,z,C _ t,rfl⟩
   ·have c2:¬(y.toNat:Int)=5:=Si Q
    rw[Wb c2]at g;refine QAM (xif (fun R=>?_) (fun R=>?_))
    ·rw[We (eq_of_beq R)]at g;refine xcl (QDX m o d a.2.1 a.2.2 S Om) rdb ?_;rintro⟨r,_⟩ _ ⟨f,q,rfl,z,C⟩;simp only at f;subst f;refine QBK (ca1 (xsq ?_));have K:=C _ t;have d5:Fro B q U8 (QFp a.2.1 a.2.2).2.1:=⟨K⟩;refine xcl (QDX m o q (QFp a.2.1 a.2.2).2.1 (QFp a.2.1 a.2.2).2.2 z Om) rdb ?_;rintro⟨r,_⟩ _ ⟨f,b3,rfl,b4,b5⟩;simp only at f;subst f;refine QBK (ca1 (xsq ?_));exact A _ ⟨_,b3,_,_,g,b4,b5 _ K,rfl⟩
    ·rw[Wb (Si R)]at g;refine xcl (QDX m o d a.2.1 a.2.2 S Om) rdb ?_;rintro⟨r,_⟩ _ ⟨f,q,rfl,z,C⟩;simp only at f;subst f;refine QBK (ca1 (xsq ?_));exact A _ ⟨_,q,_,_,g,z,C _ t,rfl⟩
 rintro _ ⟨r,q,c6,c7,D,z,K,rfl⟩;rw[QW6]at D;have d6:=K.1;refine xgq (xif (fun h0=>?_) (fun h0=>?_))
 ·iterate 5 (refine xsq ?_)
  iterate 5 (refine xgq ?_)
  exact G (r:=rec0) (by rw[D,We h0])
 rw[Wb (by rw[h0];simp)]at D;refine xgq (QAB (fun h0=>?_) (fun h0=>?_))
 ·iterate 5 (refine xsq ?_)
  iterate 5 (refine xgq ?_)
  exact G (r:=rec0) (by rw[D,We Om])
 rw[Wb Om]at D;iterate 5 (refine xgq ?_)
 refine QAS (QMt r) rdb ?_;rintro⟨x,_⟩ _ ⟨hx,rfl⟩;simp only at hx;subst hx;refine QA2 (ca1 (xif (fun h0=>?_) (fun h0=>?_)))
 ·iterate 5 (refine xsq ?_)
  iterate 5 (refine xgq ?_)
  exact G (r:=rec0) (by rw[D,We (Si h0)])
 ·iterate 5 (refine xgq ?_)
  iterate 5 (refine xsq ?_)
  iterate 5 (refine xgq ?_)
  exact G (r:=r) (by rw[D,Wb (Si h0)])
theorem Qjv{a b c d e f:HP}{F:List HP}{φ:WP}(h:Ent B (a::b::c::d::e::f::F) φ):Ent B ([a,b,c,d,e,f]++F) φ:=h
structure XM where
 L:List KY
 last:Int
abbrev xm0:XM:=⟨[],-1⟩
abbrev QTB(x:XM)(t n:Int):XM:=⟨QKv (t,n) x.L,if n>x.last then n else x.last⟩
def QTI(l:LM)(x:XM)(n:Int):XM:=if (QD1 (QCc l n).1).2=0 then QTB x (QD1 (QCc l n).1).1.time n else x
def QDy(l:LM)(k:Nat):XM:=(List.range k).foldl (fun x (i:Nat)=>QTI l x (l.lo+i)) xm0
def QJQ(l:LM):XM:=QDy l (l.next - l.lo).toNat
theorem QIw(l:LM)(k:Nat):QDy l (k+1)=QTI l (QDy l k) (l.lo+k):=by
 unfold QDy;rw[Kc,Uu];rfl
theorem QPP(l:LM):∀k:Nat,(QDy l k).L.length<=k
 | 0=>by simp[QDy]
 | k+1=>by
  have b:=QPP l k;rw[QIw];unfold QTI;split
  ·unfold QTB
   (try simp only)
   by_cases a:((QD1 (QCc l (l.lo+k)).1).1.time,(l.lo+k:Int))∈(QDy l k).L
   ·rw[QIm a];omega
   ·rw[QUi a];omega
  ·omega
def QAs(x d l:Ac)(m:XM):HP:=fun h=>∃b q,x=some ⟨b,0,none⟩/\QBr [Blk b [.pointer d,.pointer l,.pointer q,.I m.last],QDG q m.L] h
theorem QHi(i:Nat){x d l:Ac}{m:XM}{F:List HP}[p:Pick i As (QAs x d l m) F]{φ:WP}
  (k:∀b q,x=some ⟨b,0,none⟩->Ent B (Blk b [.pointer d,.pointer l,.pointer q,.I m.last]::QDG q m.L::F) φ):Ent B As φ:=by
 refine Ent.perm p.perm ?_;rintro w ⟨g,⟨a,c,⟨b,q,e,f⟩,h,d,j,n⟩,o,r⟩;exact k b q e w ⟨g,(QAl [_,_] F).2 ⟨a,c,f,h,d,j,n⟩,o,r⟩
theorem QBk(b:Nat)(q d l:Ac)(m:XM){G:List HP}[p:Split [Blk b [.pointer d,.pointer l,.pointer q,.I m.last],QDG q m.L] As G]{φ:WP}
  (k:Ent B (QAs (some ⟨b,0,none⟩) d l m::G) φ):Ent B As φ:=
 QBO [Blk b [.pointer d,.pointer l,.pointer q,.I m.last],QDG q m.L] (QAs (some ⟨b,0,none⟩) d l m) (fun g a=>⟨b,q,rfl,a⟩) k
theorem QMv(x d l:Ac)(m:XM)(t n:Int)(a:m.L.length<=4000000000000000):Ct Pr 188 [.pointer x,.I t,.I n] (.tup []) [] [QAs x d l m] emp (fun _ Bs=>Bs=[QAs x d l (QTB m t n)]):=by
 refine sp0 (QHJ _ _ _) fun B _=>?_;unfold QHJ mf;dsimp only;refine QHi 0 fun b q hx=>?_;subst hx;refine QAO (xgq ?_);refine xcl (Qd8 q m.L (t,n) n a) rdb ?_;rintro⟨c,_⟩ _ rfl;refine QAz (ca1 (QAO (xgq (QAO (xsq ?_)))));exact QBk b q d l (QTB m t n) (QAD rfl)
theorem QPR(b:Nat)(d l q:Ac)(n:Int):Ct Pr 187 [.pointer (some ⟨b,0,none⟩)] (.tup []) [] [Blk b [.pointer d,.pointer l,.pointer q,.I n]] emp (fun _ Bs=>Bs=[QAs (some ⟨b,0,none⟩) d l xm0]):=by
 refine sp0 (QFz _) fun B _=>?_;unfold QFz mf;dsimp only;refine xcl Qci rdb ?_;rintro⟨a,e,_⟩ _ ⟨_,rfl⟩;refine QAz (ca2 (QAO (xsq (QAO (xsq ?_)))));exact QBk b a d l xm0 (QAD rfl)
theorem QPv(p:Ac)(m:DM)(nm:ByteArray):Ct Pr 186 [.pointer p,.string nm] .one [.I] [QAA p m] emp (fun t Bs=>t.1=(QAj m nm).2/\Bs=[QAA p (QAj m nm).1]):=by
 refine sp1 (QPw _ _) fun B _=>?_;unfold QPw mf;dsimp only;refine xcl (QFA p m nm) rdb ?_;rintro⟨t,_⟩ _ ⟨a,rfl⟩;simp only at a;subst a;unfold QAj;refine QAz (ca1 (xif (fun h=>?_) (fun h=>?_)))
 ·have h:¬(QAJ m nm).2=6:=Si h
  rw[Wb h];exact QAD ⟨rfl,rfl⟩
 ·have h:(QAJ m nm).2=6:=Si h
  rw[We h];exact QAD ⟨rfl,rfl⟩
theorem LInv.lo{l:LM}(h:LInv l):0<=l.lo/\l.lo<=4000000000000:=by
 unfold LM.lo
 cases e:l.segs with
 | nil=>have:=h.first;simp only;omega
 | cons s r=>have:=(h.segs s (by rw[e];simp)).2.1;simp only;omega
theorem QJe{l:LM}(hi:LInv l)(n:Int):(QCc l n).1.length<=1024:=by
 unfold QCc;split
 ·simp
 ·split
  ·rename_i s a
   have b:=(hi.segs s (Ki a)).2.2.2.2
   cases e:s.ps[(n - s.first).toNat]? with
   | none=>simp
   | some p=>exact b p (Wp e)
  ·simp
theorem Qjr{s:Sl}{xs:Ab}{F:List HP}{K:Int->Int->ByteArray->Int->Int->Int->WP}(hl:xs.length<=1000000)(h:Ent B (Ar U8 s xs::F) (K (QD1 xs).1.kind (QD1 xs).1.time (QD1 xs).1.tag (QD1 xs).1.val (QD1 xs).1.id (QD1 xs).2)) :
  Ent B (Ar U8 s xs::F) (QAX Pr 20 [s.v] (.tup [some 5,none]) [.I,.I,.str,.I,.I,.I] K):=by
 refine QCl (E:=U8) (xs:=xs) s fun _ hc=>?_;refine QAS (QUp s xs hc Om) rdb ?_;rintro⟨k,t,g,v,i,e,_⟩ _ ⟨h1,a,b,c,d,f,rfl⟩;simp only at h1 a b c d f;subst h1 a b c d f;exact h
abbrev idxNew:ByteArray:=⟨#[105,100,120,46,110,101,119]⟩
theorem QYM(d l:Ac)(m:DM)(a:LM):Ct Pr 119 [.pointer d,.pointer l] (.tup [none,none]) [.ptr,.I] [QAA d m,QAQ l d a] emp
  (fun t Bs=>t.2.1=(QAj m idxNew).2/\((QAj m idxNew).2≠0->t.1=none/\Bs=[QAA d (QAj m idxNew).1,QAQ l d a]) /\
   ((QAj m idxNew).2=0->t.1≠none/\Bs=[QAA d (QAj m idxNew).1,QAQ l d a,QAs t.1 d l (QJQ a)])):=by
 refine sp2 (QPs _ _) fun B _=>?_;unfold QPs mf;dsimp only;refine xcl (QPv d m idxNew) rdb ?_;rintro⟨e,_⟩ _ ⟨he,rfl⟩;simp only at he;subst he;refine QAz (ca1 (xif (fun h=>?_) (fun h=>?_)))
 ·have i:(QAj m idxNew).2≠0:=Si h
  exact QAD ⟨rfl,fun _=>⟨rfl,rfl⟩,fun e=>absurd e i⟩
 have i:(QAj m idxNew).2=0:=Si h
 refine QAL fun b=>?_;refine xcl (QPR b d l none 0) rdb ?_;rintro _ _ rfl;refine QAz (ca0 ?_);refine xcl (QEl l d a) rdb ?_;rintro⟨t,_⟩ _ ⟨f,rfl⟩;simp only at f;subst f;refine QAz (ca1 ?_);refine QB6 0 (P1:=QAQ l d a) (fun g p=>p.1) fun hi=>?_;have w:=hi.next;refine QAK [QAA d (QAj m idxNew).1,QAQ l d a,QAs (some ⟨b,0,none⟩) d l xm0] ?_;have y:=hi.lo;refine QBa (fun n (x:Int) As'=>∃k:Nat,x=a.lo+k/\n=(a.next - a.lo).toNat - k/\k<=(a.next - a.lo).toNat/\As'=[QAA d (QAj m idxNew).1,QAQ l d a,QAs (some ⟨b,0,none⟩) d l (QDy a k)]) (a.next - a.lo).toNat ⟨0,by simp,rfl,Om,rfl⟩ ?_;rintro n x As' K ⟨k,rfl,rfl,v,rfl⟩ q;refine xcl (QF9 l d a) rdb ?_;rintro⟨t,_⟩ _ ⟨f,rfl⟩;simp only at f;subst f;refine QAz (ca1 (QAB (fun h1=>?_) (fun h1=>?_)))
 ·refine xcl (QFu l d a (a.lo+k) ⟨Om,Om⟩) rdb ?_;rintro⟨s,e,_⟩ _ ⟨_,rfl⟩;refine QBK (ca2 (QFt 1 (Qjr (by have:=QJe hi (a.lo+k);omega) (QAL fun r=>?_))));iterate 5 (refine xsq ?_)
  refine QBh (fun As'=>As'=[QAA d (QAj m idxNew).1,QAQ l d a,QAs (some ⟨b,0,none⟩) d l (QDy a (k+1))]) (fun u c=>?_) ?_
  ·rw[QIw]at c;refine xif (fun j=>?_) (fun j=>?_)
   ·have o:QTI a (QDy a k) (a.lo+k)=QTB (QDy a k) (QD1 (QCc a (a.lo+k)).1).1.time (a.lo+k):=by unfold QTI;rw[We (eq_of_beq j)]
    rw[o]at c;refine xgq ?_;have z:=QPP a k;refine xcl (QMv (some ⟨b,0,none⟩) d l (QDy a k) _ _ Om) rdb ?_;rintro _ _ rfl;exact QAz (ca0 (QGO (c _ rfl)))
   ·have o:QTI a (QDy a k) (a.lo+k)=QDy a k:=by unfold QTI;rw[Wb (Si j)]
    rw[o]at c;exact QGO (c _ rfl)
  ·rintro _ rfl;rw[QAC _ Om Om];exact q ((a.next - a.lo).toNat - (k+1)) _ _ Om ⟨k+1,Om,rfl,Om,rfl⟩
 ·have e:k=(a.next - a.lo).toNat:=Om
  refine QAK [QAA d (QAj m idxNew).1,QAQ l d a,QAs (some ⟨b,0,none⟩) d l (QDy a k)] (QAD ⟨i.symm,fun e=>absurd i e,fun _=>⟨by simp,?_⟩⟩);rw[e];rfl
def QkH(a:Int)(d:List KY):Ae:=(d.filter fun k=>decide (k.2>=a)).map (·.2)
def QkK(m:XM)(a b c:Int):Ae:=QkH c (QGz (a,0) (b,0) m.L)
theorem Qf8{r:RE}{rest:Ab}{sh:Bool}(h:(QW6 r rest sh).2=0):(QW6 r rest sh).1=r/\QCL r=0:=by
 unfold QW6 at h|-;split at h
 ·cases h
 ·rename_i h1
  rw[Wb h1];split at h
  ·cases h
  ·rename_i b
   rw[Wb b];split at h
   ·rename_i a;exact absurd h a
   ·rename_i a
    rw[Wb a];exact⟨rfl,Si a⟩
theorem QOd{e:Ab}(h:(QD1 e).2=0):QCL (QD1 e).1=0:=by
 have c:∀{r:RE}{rest:Ab}{sh:Bool},(QW6 r rest sh).2=0->QCL (QW6 r rest sh).1=0:=fun h=>by
  obtain⟨h1,b⟩:=Qf8 h;rw[h1];exact b
 cases e with
 | nil=>cases h
 | cons k rest=>
  cases f:QA4 (k.toNat:Int) 1 6 with
  | false=>rw[QWT f]at h;cases h
  | true=>
   rw[QQ2 f]at h|-
   generalize QFp rest false=a at *
   unfold QfW at h|-;split at h
   ·rename_i h1
    rw[We h1];unfold QSn at h|-
    cases he:a.2.1 with
    | nil=>rw[he]at h;cases h
    | cons n r2=>
     rw[he]at h;simp only at h|-;split at h
     ·cases h
     ·rename_i b
      rw[Wb b];exact c h
   ·rename_i h1
    rw[Wb h1];split at h
    ·rename_i b;rw[We b];exact c h
    ·rename_i b
     rw[Wb b];split at h
     ·rename_i d;rw[We d];exact c h
     ·rename_i d;rw[Wb d];exact c h
variable {B:QBJ}{As F:List HP}
end Go.Cx
