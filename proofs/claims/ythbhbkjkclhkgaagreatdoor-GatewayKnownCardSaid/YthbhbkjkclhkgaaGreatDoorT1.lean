import Derived.Test.YthbhbkjkclhkgaaGreatDoorDK
import Derived.Test.YthbhbkjkclhkgaaGreatDoorA3
import Derived.Test.YthbhbkjkclhkgaaGreatDoorS1
namespace Go.Cx
open Go Go.Cf
set_option linter.unusedVariables false
set_option maxRecDepth 100000
variable {B:QBE}{As F:List HP}
def KE:Enc KY:=⟨fun k=>[.I k.1,.I k.2],2,fun _=>rfl,fun x v h=>by simp at h;rcases h with rfl|rfl<;>rfl,by decide,(0,0)⟩
def PE:Enc (Option Addr):=⟨fun a=>[.pointer a],1,fun _=>rfl,fun x v h=>by simp at h;subst h;rfl,by decide,none⟩
theorem QWx(a b:KY):Ct Pr 445 [.agg #[.I a.1,.I a.2],.agg #[.I b.1,.I b.2]] .one [.bool] [] emp (fun t Bs=>t.1=ltK a b∧Bs=[]):=by
 refine sp1 (QNl _ _ _ _) fun B _=>?_;have fin:∀{x:Bool}{As:List HP},x=ltK a b→Ent B As (Ret B (ss:=[.bool]) (fun t Bs=>t.1=ltK a b∧Bs=[]) (x,())):=fun h=>QAa (l:=[]) (QAD ⟨h,rfl⟩);unfold QNl mf;dsimp only;refine QAL fun b1=>QAL fun b2=>xgq (xgq (QAJ (QAA (fun h=>fin ?_) (fun h=>xgq (xgq (QAJ (xif (fun h2=>xgq (xgq (fin ?_))) (fun h2=>fin ?_))))))))
 ·unfold ltK;simp[h]
 ·have h2':a.1=b.1:=by simpa using h2
  unfold ltK;simp[h,h2']
 ·have h2':a.1≠b.1:=by simpa using h2
  unfold ltK;simp[h,h2']
theorem QUR{ks:List KY}{k y:KY}{j:Nat}(h:j≤plK ks k)(hy:ks[j]? = some y)(hl:ltK y k=true):j+1≤plK ks k:=by
 rcases Nat.lt_or_ge j (plK ks k) with h1|h1
 ·exact h1
 ·obtain rfl:j=plK ks k:=by omega
  rw[QRb hy]at hl;cases hl
theorem QOx{ks:List KY}{k y:KY}{j:Nat}(h:j≤plK ks k)(hy:ks[j]? = some y)(hl:ltK y k=false):plK ks k=j:=by
 rcases Nat.lt_or_ge j (plK ks k) with h1|h1
 ·rw[QVJ j y h1 hy]at hl;cases hl
 ·omega
theorem QQ6(b:Nat)(s:Sl)(v c:Value)(l:List KY)(k:KY)(hl:l.length≤1000):Ct Pr 360 [.pointer (some ⟨b,0,none⟩),.agg #[.I k.1,.I k.2]] (.tup [none,none]) [.I,.bool] [Blk b [s.v,v,c],Ar KE s l] emp
  (fun t Bs=>t.1=(plK l k:Int)∧t.2.1=decide (l[plK l k]? = some k)∧Bs=[Blk b [s.v,v,c],Ar KE s l]):=by
 refine QeH QJz fun B _=>?_;unfold QGT;refine QAL fun b0=>?_;refine QCm (E:=KE) (xs:=l) s fun hn _=>?_;refine QBP (fun n x As'=>∃j:Nat,x=(j:Int)∧n=l.length - j∧j≤plK l k∧As'=[Blk b0 [.I k.1,.I k.2],Blk b [s.v,v,c],Ar KE s l]) l.length ⟨0,rfl,rfl,by omega,rfl⟩ ?_;rintro n x As' K ⟨j,rfl,rfl,hj,rfl⟩ hK;have hpl:=QMR l k;refine QAO (QAS (fun(c1:Bool) As'=>(c1=true→j+1≤plK l k)∧(c1=false→plK l k=j)∧As'=[Blk b0 [.I k.1,.I k.2],Blk b [s.v,v,c],Ar KE s l]) (fun K1 hK1=>?_) ?_)
 ·refine QAQ (xgq (QAA (fun h=>?_) (fun h=>?_)))
  ·have hlt:j<l.length:=by omega
   have hy:=List.getElem?_eq_getElem hlt;refine QAQ (xgq ?_);refine QAH (E:=KE) (xs:=l) (s:=s) (h1:=hlt) (h:=fun y hy'=>?_);refine QAN (E:=KE) (xs:=l) hy' (h:=?_);refine QAZ (E:=KE) (xs:=l) hy' (h:=xgq (xgq ?_));refine QAR (QWx y k) rdb ?_;rintro⟨t,_⟩ _ ⟨ht,rfl⟩;simp only at ht;subst ht;exact QAy (ca1 (hK1 _ _ ⟨fun e=>QUR hj hy' e,fun e=>QOx hj hy' e,rfl⟩))
  ·exact hK1 _ _ ⟨fun e=>(by cases e),fun _=>by omega,rfl⟩
 ·rintro c1 As2 ⟨h1,h2,rfl⟩;refine xif (fun h=>?_) (fun h=>?_)
  ·have:=h1 h;rw[QAF j (by omega)];exact hK _ _ _ (by omega) ⟨j+1,rfl,rfl,by omega,rfl⟩
  ·have e:=h2 h;refine QAO (QAJ (QAQ (xgq (QAA (fun h=>?_) (fun h=>?_)))))
   ·have hlt:j<l.length:=by omega
    refine QAQ (xgq ?_);refine QAH (E:=KE) (xs:=l) (s:=s) (h1:=hlt) (h:=fun y hy'=>?_);refine QAN (E:=KE) (xs:=l) hy' (h:=?_);refine QAZ (E:=KE) (xs:=l) hy' (h:=xgq (xgq ?_));refine QB5 0 (QAD ⟨by rw[e],?_,rfl⟩);rw[e,hy',Bool.eq_iff_iff];simp[Prod.ext_iff]
   ·refine QB5 0 (QAD ⟨by rw[e],?_,rfl⟩);rw[e,List.getElem?_eq_none (by omega)];simp
def QQS{α:Type}(xs:List α)(i:Nat)(x:α):List α:=(xs++[x]).take (i+1)++xs.drop i
theorem QSj{α:Type}{xs:List α}{i:Nat}{x:α}(h:i≤xs.length):(QQS xs i x).set i x=QAw xs i x:=by
 apply List.ext_getElem?;intro j;unfold QQS QAw;rcases Nat.lt_trichotomy j i with hj|hj|hj
 ·rw[List.getElem?_set_ne (by omega),List.getElem?_append_left (by simp;omega),List.getElem?_take_of_lt (by omega),List.getElem?_append_left (by omega),List.getElem?_append_left (by simp;omega),List.getElem?_take_of_lt hj]
 ·subst hj;rw[List.getElem?_set_self (by simp;omega),List.getElem?_append_right (by simp;omega),List.length_take,Nat.min_eq_left h];simp
 ·rw[List.getElem?_set_ne (by omega),List.getElem?_append_right (by simp;omega),List.getElem?_append_right (by simp;omega)];simp only[List.length_take,List.length_append,List.length_singleton,Nat.min_eq_left h];rw[Nat.min_eq_left (by omega),show j - i=(j - (i+1))+1 by omega,List.getElem?_cons_succ]
theorem QTI{α:Type}{xs:List α}{i:Nat}{x:α}(h:i≤xs.length):∃y,(QQS xs i x)[i]? = some y:=⟨_,List.getElem?_eq_getElem (by unfold QQS;simp;omega)⟩
theorem Qfo{P:Program}{t ty e:TypeId}{sz by_:Nat}{z:List Value}[a:QIH P t e sz by_ z]{α:Type}{E:Enc α}{s:Sl}{xs:List α}{x:α}{i:Nat}{K:Int→WP}(hi:i≤xs.length)(hm:xs.length<4611686018427387904)(hsz:E.sz=sz:=by rfl)
  (h:∀n,Ent B (Ar E s (QQS xs i x)::F) (K n)):Ent B (Ar E s (xs++[x])::F) (QQU s (IntKind.i64.wrap ((i:Int)+1)) s.n s.c sz fun s1=>QQU s (i:Int) s.n s.c sz fun s2=>QbH P t t ty s1.v s2.v fun n=>K n):=by
 subst hsz;refine QCm (E:=E) (xs:=xs++[x]) s fun hn hc=>?_
 have hn':xs.length+1=s.n:=by simpa using hn
 rw[QAB _ (by omega) (by omega)];refine Qd8 0 fun zs _ hzc=>?_;refine QEh (by omega) (by omega) (by omega) (by omega) ?_;refine QEh (by omega) (by omega) (by omega) (by omega) ?_
 have e1:((i:Int)+1).toNat=i+1:=by omega
 rw[e1,show ((i:Int)).toNat=i by omega,show ((s.n:Int)).toNat=s.n by omega,show ((s.c:Int)).toNat=s.c by omega]
 have hxc:xs.length+1+zs.length=s.c:=by simpa using hzc
 have hyl:((xs++[x]).drop i).length=xs.length+1 - i:=by simp
 have hmin:min ((xs++[x]).drop i).length (s.n - (i+1))=xs.length - i:=by rw[hyl];omega
 refine QRY (E:=E) (ys:=(xs++[x]).drop i) (xs:=xs++[x]) (zs:=zs) (fun w hw=>?_) (QQS xs i x) zs rfl hc ?_ ?_ ?_ (fun n=>xar (h n))
 ·obtain⟨g,hg,hs⟩:=hw.head;have:=(hg.read.mono hs).cut i s.n s.c (by omega) hc (by simp;omega);rw[List.take_of_length_le (by simp;omega)]at this;exact this
 ·rw[hmin];simp;omega
 ·unfold QQS;simp;omega
 ·rw[hmin,List.take_append_of_le_length (l₁:=xs++[x]) (by simp;omega)]
  have e2:((xs++[x]).drop i).take (xs.length - i)=xs.drop i:=by
   rw[List.drop_append_of_le_length hi,List.take_append_of_le_length (by simp),List.take_of_length_le (by simp)]
  have e3:(xs++[x]++zs).drop (i+1+(xs.length - i))=zs:=by
   rw[show i+1+(xs.length - i)=(xs++[x]).length by simp;omega,List.drop_left]
  rw[e2,e3];rfl
theorem QRi(s:Sl)(l:List KY)(i:Nat)(k:KY)(hi:i≤l.length)(hm:l.length≤1000):Ct Pr 361 [s.v,.I (i:Int),.agg #[.I k.1,.I k.2]] .one [.slice] [Ar KE s l] emp (fun t Bs=>Bs=[Ar KE t.1 (QAw l i k)]):=by
 refine sp1 (QFF _ _ _ _) fun B _=>?_;unfold QFF mf;dsimp only;refine QAL fun b=>xgq (xgq (QAL fun b1=>?_));refine QEc (E:=KE) k (hb:=by omega) (h:=fun s'=>QAO ?_);refine QGD 1 ?_;refine Qfo (E:=KE) hi (by omega) (h:=fun n=>?_);refine xgq (xgq ?_);obtain⟨y,hy⟩:=QTI (x:=k) hi;have hml:i<(QQS l i k).length:=(List.getElem?_eq_some_iff.1 hy).1;refine QAH (E:=KE) (xs:=QQS l i k) (s:=s') (h1:=hml) (h:=fun y' hy'=>?_)
 obtain rfl:y'=y:=by rw[hy]at hy';exact (Option.some.inj hy').symm
 refine QHd (E:=KE) (xs:=QQS l i k) (k.1,y'.2) hy (hv:=rfl) (h:=?_);refine QCx (E:=KE) (xs:=(QQS l i k).set i (k.1,y'.2)) (x:=(k.1,y'.2)) k (List.getElem?_set_self hml) (hj:=by decide) (hv:=rfl) (h:=?_);rw[List.set_set,QSj hi];exact QB5 1 (QAD rfl)
theorem QQc(s:Sl)(l:List Int)(i:Nat)(k:Int)(hi:i≤l.length)(hm:l.length≤1000):Ct Pr 362 [s.v,.I (i:Int),.I k] .one [.slice] [Ar I64 s l] emp (fun t Bs=>Bs=[Ar I64 t.1 (QAw l i k)]):=by
 refine sp1 (QIw _ _ _) fun B _=>?_;unfold QIw mf;dsimp only;refine QAL fun b=>?_;refine QEc (E:=I64) k (hb:=by omega) (h:=fun s'=>QAO ?_);refine Qfo (E:=I64) hi (by omega) (h:=fun n=>?_);obtain⟨y,hy⟩:=QTI (x:=k) hi;have hml:i<(QQS l i k).length:=(List.getElem?_eq_some_iff.1 hy).1;refine QAH (E:=I64) (xs:=QQS l i k) (s:=s') (h1:=hml) (h:=fun y' hy'=>?_);refine QHd (E:=I64) (xs:=QQS l i k) k hy' (hv:=rfl) (h:=?_);rw[QSj hi];exact QAD rfl
theorem QXl(s:Sl)(l:List (Option Addr))(i:Nat)(k:Option Addr)(hi:i≤l.length)(hm:l.length≤1000):Ct Pr 444 [s.v,.I (i:Int),.pointer k] .one [.slice] [Ar PE s l] emp (fun t Bs=>Bs=[Ar PE t.1 (QAw l i k)]):=by
 refine sp1 (QDw _ _ _) fun B _=>?_;unfold QDw mf;dsimp only;refine QAL fun b=>?_;refine QEc (E:=PE) k (hb:=by omega) (h:=fun s'=>QAO ?_);refine Qfo (E:=PE) hi (by omega) (h:=fun n=>?_);obtain⟨y,hy⟩:=QTI (x:=k) hi;have hml:i<(QQS l i k).length:=(List.getElem?_eq_some_iff.1 hy).1;refine QAH (E:=PE) (xs:=QQS l i k) (s:=s') (h1:=hml) (h:=fun y' hy'=>?_);refine QHd (E:=PE) (xs:=QQS l i k) k hy' (hv:=rfl) (h:=?_);rw[QSj hi];exact QAD rfl
theorem Ars.clip{α:Type}{E:Enc α}{p:Option Addr}{n c:Nat}{xs zs:List α}{h:QBe}(ha:Ars E ⟨p,n,c⟩ xs zs h)(r:Nat)(hr:r≤xs.length)(h0:0<r):Ars E ⟨p,r,r⟩ (xs.take r) [] h:=by
 obtain⟨h1,h2,h3⟩:=ha;simp only at h1 h2 h3;refine⟨by simp;omega,by simp;omega,?_⟩;rcases h3 with⟨_,h⟩|⟨b,o,pre,post,e,fr,hp,hb,ho,hfr,hM⟩
 ·omega
 ·have e0:pre++QAf E (xs.take r++[])++(QAf E (xs.drop r++zs)++post)=pre++QAf E (xs++zs)++post:=by
   have:QAf E (xs++zs)=QAf E (xs.take r)++QAf E (xs.drop r++zs):=by rw[←QAP,←List.append_assoc,List.take_append_drop]
   rw[this,List.append_nil];simp only[List.append_assoc]
  exact .inr ⟨b,o,pre,QAf E (xs.drop r++zs)++post,e,fr,hp,by rw[e0];exact hb,ho,by rw[e0];exact hfr,by simp only;omega⟩
theorem QdQ{α:Type}{E:Enc α}{s:Sl}{xs:List α}{r sz:Nat}{ri:Int}{upd:Sl→List α→List HP}{rest:List HP}[o:OwnA s As E xs upd rest]{K:Sl→WP}(hri:ri=(r:Int))(h0:0<r)(hr:r≤xs.length)(h:Ent B (upd ⟨s.p,r,r⟩ (xs.take r)) (K ⟨s.p,r,r⟩)):Ent B As (QQU s 0 ri ri sz K):=by
 subst hri;refine QCm (E:=E) (xs:=xs) s fun hn hc=>?_;refine QEh (by omega) (by omega) (by omega) (by omega) ?_
 have e:s.cut (0:Int).toNat ((r:Int)).toNat ((r:Int)).toNat sz=⟨s.p,r,r⟩:=by
  unfold Sl.cut;rw[show ((r:Int)).toNat=r by omega,if_neg (by simp;omega)];cases s.p<;>simp[Addr.add]
 rw[e];refine Ent.perm o.start (QHn (fun g hg=>?_) h);refine QFW (o.perm _ _).symm (QA2 (fun q hq=>?_) hg);obtain⟨zs,hq⟩:=hq;obtain⟨p,n,c⟩:=s;exact⟨[],Ars.clip hq r hr h0⟩
theorem QMC{α:Type}{E:Enc α}{s:Sl}{xs:List α}{sz:Nat}{upd:Sl→List α→List HP}{rest:List HP}[o:OwnA s As E xs upd rest](l:Nat)(hl:l≤xs.length)(hsz:E.sz=sz:=by rfl):RdA B As (s.cut l s.n s.c sz) E (xs.drop l):=⟨fun w hw=>by
 subst hsz;obtain⟨g,hg,hs⟩:=(hw.perm o.start).head;have hn:=hg.read.1;obtain⟨zs,hz⟩:=id hg;have:=(hg.read.mono hs).cut l s.n s.c (by omega) hz.cap (by omega);rw[List.take_of_length_le (by omega)]at this
 exact this⟩
def PageR{α:Type}(R:Option Addr→α→HP)(p:Option Addr)(pg:Pg α):HP:=fun h=>∃b ks vs cs kp,p=some ⟨b,0,none⟩∧QBl [Blk b [ks.v,vs.v,cs.v],Ar KE ks pg.ks,Ar I64 vs pg.vs,Ar PE cs kp,Each R kp pg.kids] h
def ER:Option Addr→Empty→HP:=fun _ e=>e.elim
def PageO:(n:Nat)→Option Addr→PT n→HP
 | 0=>fun p (pg:Pg Empty)=>PageR ER p pg
 | n+1=>fun p (pg:Pg (PT n))=>PageR (PageO n) p pg
theorem QVn(i:Nat){α:Type}{R:Option Addr→α→HP}{p:Option Addr}{pg:Pg α}{F:List HP}[q:Pick i As (PageR R p pg) F]{φ:WP}
  (k:∀b ks vs cs kp,p=some ⟨b,0,none⟩→kp.length=pg.kids.length→cs.n=pg.kids.length→Ent B (Blk b [ks.v,vs.v,cs.v]::Ar KE ks pg.ks::Ar I64 vs pg.vs::Ar PE cs kp::Each R kp pg.kids::F) φ):Ent B As φ:=by
 refine Ent.perm q.perm ?_;rintro w ⟨g,⟨a,c,⟨b,ks,vs,cs,kp,hp,pa⟩,pc,d,sa,sc⟩,hm,hu⟩
 have hl:kp.length=pg.kids.length∧cs.n=pg.kids.length:=by
  obtain⟨_,_,_,⟨_,_,_,⟨_,_,_,⟨_,_,par,⟨_,_,pe,_⟩,_⟩,_⟩,_⟩,_⟩:=pa;have:=pe.length;exact⟨this,by rw[←par.read.1,this]⟩
 exact k b ks vs cs kp hp hl.1 hl.2 w ⟨g,(QAj [_,_,_,_,_] F).2 ⟨a,c,pa,pc,d,sa,sc⟩,hm,hu⟩
theorem QB6(b:Nat)(ks vs cs:Sl)(kp:List (Option Addr)){α:Type}{R:Option Addr→α→HP}{pg:Pg α}{G:List HP}[q:Split [Blk b [ks.v,vs.v,cs.v],Ar KE ks pg.ks,Ar I64 vs pg.vs,Ar PE cs kp,Each R kp pg.kids] As G]{φ:WP}
  (k:Ent B (PageR R (some ⟨b,0,none⟩) pg::G) φ):Ent B As φ:=
 QBQ [Blk b [ks.v,vs.v,cs.v],Ar KE ks pg.ks,Ar I64 vs pg.vs,Ar PE cs kp,Each R kp pg.kids] (PageR R (some ⟨b,0,none⟩) pg) (fun g hg=>⟨b,ks,vs,cs,kp,rfl,hg⟩) k
theorem QK9{α β:Type}{R:α→β→HP}{x:α}{y:β}:∀{xs:List α}{ys:List β}{i:Nat}{h:QBe},i≤xs.length→QBl [R x y,Each R xs ys] h→Each R (QAw xs i x) (QAw ys i y) h
 | [],ys,i,h,hi,hh=>by
  obtain⟨a,b,pa,⟨c,d,pc,_,_,sc,_⟩,dd,sa,sb⟩:=hh
  cases ys with
  | cons=>exact pc.elim
  | nil=>
   obtain rfl:i=0:=by simpa using hi
   exact⟨a,b,pa,QCh (P:=Each R [] []) trivial,dd,sa,sb⟩
 | x'::xs,[],i,h,hi,hh=>by
  obtain⟨a,b,pa,⟨c,d,pc,_⟩,_⟩:=hh;exact pc.elim
 | x'::xs,y'::ys,0,h,hi,hh=>hh
 | x'::xs,y'::ys,i+1,h,hi,hh=>by
  have h1:QBl ([R x' y',Each R xs ys]++[R x y]) h:=QFL (fun g hg=>hg) (QDV hh);have h2:QBl [R x' y',R x y,Each R xs ys] h:=QBC (fun g hg=>QDV hg) h1;exact QBC (l':=[Each R (QAw xs i x) (QAw ys i y)]) (fun g hg=>QCh (QK9 (by simpa using hi) hg)) h2
theorem QRq{α β:Type}{R:α→β→HP}:∀{xs:List α}{ys:List β}(n:Nat) {h:QBe},Each R xs ys h→QBl [Each R (xs.take n) (ys.take n),Each R (xs.drop n) (ys.drop n)] h
 | [],[],n,h,hh=>by simp only[List.take_nil,List.drop_nil];exact⟨fun _=>none,h,trivial,QCh trivial,fun _=>.inl rfl,fun _ _ e=>(by cases e),Sub.refl _⟩
 | [],_::_,n,h,hh=>hh.elim
 | _::_,[],n,h,hh=>hh.elim
 | x::xs,y::ys,0,h,hh=>⟨fun _=>none,h,trivial,QCh hh,fun _=>.inl rfl,fun _ _ e=>(by cases e),Sub.refl _⟩
 | x::xs,y::ys,n+1,h,hh=>by
  have h1:QBl [R x y,Each R (xs.take n) (ys.take n),Each R (xs.drop n) (ys.drop n)] h:=QBC (fun g hg=>by
   obtain⟨a,b,pa,_,_,sa,_⟩:=hg
   exact QCc _ (QRq n pa) sa) hh
  have h2:QBl ([R x y,Each R (xs.take n) (ys.take n)]++[Each R (xs.drop n) (ys.drop n)]) h:=h1;exact QDL (l:=[R x y,Each R (xs.take n) (ys.take n)]) (P:=Each R ((x::xs).take (n+1)) ((y::ys).take (n+1))) (fun g hg=>hg) h2
abbrev QTn{α:Type}(k:Pg α):Pg α:=⟨k.ks.take 7,k.vs.take 7,k.kids.take 8⟩
abbrev QXr{α:Type}(k:Pg α):Pg α:=⟨k.ks.drop 8,k.vs.drop 8,k.kids.drop 8⟩
abbrev QYW{α:Type}(pg:Pg (Pg α))(i:Nat)(kid:Pg α)(m:KY)(v:Int):Pg (Pg α):=⟨QAw pg.ks i m,QAw pg.vs i v,QAw (pg.kids.set i (QTn kid)) (i+1) (QXr kid)⟩
theorem QNk{α:Type}(R:Option Addr→α→HP)(p:Option Addr)(pg:Pg (Pg α))(i:Nat)(kid:Pg α)(m:KY)(v:Int)(hk:pg.kids[i]? = some kid)(h15:kid.ks.length=15)(hv15:kid.vs.length=15)(hks:kid.kids=[]∨kid.kids.length=16)
  (hm:kid.ks[7]? = some m) (hv:kid.vs[7]? = some v) (hpk:pg.ks.length≤100) (hpv:pg.vs.length=pg.ks.length) (hpd:pg.kids.length=pg.ks.length+1) :
  Ct Pr 359 [.pointer p,.I (i:Int),.I 8] (.tup []) [] [PageR (PageR R) p pg] emp (fun t Bs=>Bs=[PageR (PageR R) p (QYW pg i kid m v)]):=by
 refine sp0 (QG2 _ _ _) fun B _=>?_;unfold QG2 mf;dsimp only;have hi:i<pg.kids.length:=(List.getElem?_eq_some_iff.1 hk).1;refine QVn 0 fun b ks vs cs kp hp hkl hcs=>?_;subst hp;obtain⟨q,hq⟩:∃q,kp[i]? = some q:=⟨_,List.getElem?_eq_getElem (by omega)⟩;refine QdZ 4 (P1:=Each (PageR R) kp pg.kids) [PageR R q kid,Each (PageR R) (kp.eraseIdx i) (pg.kids.eraseIdx i)] (fun g hg=>QCI hg hq hk) (QBM ?_);refine QVn 0 fun lb lks lvs lcs lkp hlp hlkl hlcs=>?_;subst hlp;refine QAQ (xgq ?_);refine QAH (E:=PE) (xs:=kp) (s:=cs) (h1:=by omega) (h:=fun q' hq'=>?_);refine QAN (E:=PE) (xs:=kp) hq (h:=QAO ?_)
 have e7:IntKind.i64.wrap ((8:Int) - 1)=((7:Nat):Int):=by decide
 rw[e7];refine QCm (E:=KE) (xs:=kid.ks) lks fun hkn hkc=>?_;refine QCm (E:=I64) (xs:=kid.vs) lvs fun hvn hvc=>?_
 refine QAS (fun(right:Option Addr) As'=>∃rb s5 s6,right=some ⟨rb,0,none⟩∧As'=[Blk rb [(s5:Sl).v,(s6:Sl).v,.slice none 0 0],Ar KE s5 (kid.ks.drop 8),Ar I64 s6 (kid.vs.drop 8),Blk b [ks.v,vs.v,cs.v],Ar KE ks pg.ks,Ar I64 vs pg.vs,Ar PE cs kp,Each (PageR R) (kp.eraseIdx i) (pg.kids.eraseIdx i),
   Blk lb [lks.v,lvs.v,lcs.v],Ar KE lks kid.ks,Ar I64 lvs kid.vs,Ar PE lcs lkp,Each R lkp kid.kids]) (fun K1 hK1=>?_) ?_
 ·refine QAQ (xgq ?_);refine QEh (by omega) (by omega) (by omega) (by omega) ?_;refine QAQ (xgq ?_);refine QEh (by omega) (by omega) (by omega) (by omega) ?_;rw[show (8:Int).toNat=8 from rfl,show ((lks.n:Int)).toNat=lks.n by omega,show ((lks.c:Int)).toNat=lks.c by omega,show ((lvs.n:Int)).toNat=lvs.n by omega,show ((lvs.c:Int)).toNat=lvs.c by omega]
  have tail:∀(b5 b6:Nat),Ent B [Blk b5 [],Blk b6 [],Blk lb [lks.v,lvs.v,lcs.v],Ar KE lks kid.ks,Ar I64 lvs kid.vs,Ar PE lcs lkp,Each R lkp kid.kids,Each (PageR R) (kp.eraseIdx i) (pg.kids.eraseIdx i),Blk b [ks.v,vs.v,cs.v],Ar KE ks pg.ks,Ar I64 vs pg.vs,Ar PE cs kp]
    (QSR Pr 386 386 386 (.slice ((some ⟨b6,0,none⟩)) 0 0) ((lks.cut 8 lks.n lks.c 2).v) fun s9=>QKv (⟨lb,1,none⟩) (lvs.v)<|QSR Pr 161 161 161 (.slice ((some ⟨b5,0,none⟩)) 0 0) ((lvs.cut 8 lvs.n lvs.c 1).v) fun s10=>QDE [s9.v,s10.v,.slice none 0 0] 443 fun b7=>K1 (some ⟨b7,0,none⟩)):=by
   intro b5 b6;refine QAe 1 (Q:=Ar KE ⟨some ⟨b6,0,none⟩,0,0⟩ []) (fun g hg=>⟨[],QAm [] 0 rfl rfl hg⟩) ?_;refine QAe 1 (Q:=Ar I64 ⟨some ⟨b5,0,none⟩,0,0⟩ []) (fun g hg=>⟨[],QAm [] 0 rfl rfl hg⟩) ?_;refine QHb (E:=KE) (s:=⟨some ⟨b6,0,none⟩,0,0⟩) (r:=QMC (E:=KE) (s:=lks) (xs:=kid.ks) 8 (by omega)) (hb:=by simp;omega) (h:=fun s9=>QC6 (h:=?_));refine QHb (E:=I64) (s:=⟨some ⟨b5,0,none⟩,0,0⟩) (r:=QMC (E:=I64) (s:=lvs) (xs:=kid.vs) 8 (by omega)) (hb:=by simp;omega) (h:=fun s10=>QAL fun b7=>?_);rw[List.nil_append,List.nil_append]
   exact QAK [Blk b7 [s9.v,s10.v,.slice none 0 0],Ar KE s9 (kid.ks.drop 8),Ar I64 s10 (kid.vs.drop 8),Blk b [ks.v,vs.v,cs.v],Ar KE ks pg.ks,Ar I64 vs pg.vs,Ar PE cs kp,Each (PageR R) (kp.eraseIdx i) (pg.kids.eraseIdx i),
    Blk lb [lks.v,lvs.v,lcs.v],Ar KE lks kid.ks,Ar I64 lvs kid.vs,Ar PE lcs lkp,Each R lkp kid.kids] (hK1 _ _ ⟨b7,s9,s10,rfl,rfl⟩)
  refine QXT (QAL fun b6=>QXT ?_ (QAL fun b5=>?_)) (QAL fun b5=>QAL fun b6=>?_)
  ·refine QAe 0 (Q:=Ar KE ⟨some ⟨b6,0,none⟩,0,0⟩ []) (fun g hg=>⟨[],QAm [] 0 rfl rfl hg⟩) ?_;refine QHb (E:=KE) (s:=⟨some ⟨b6,0,none⟩,0,0⟩) (r:=QMC (E:=KE) (s:=lks) (xs:=kid.ks) 8 (by omega)) (hb:=by simp;omega) (h:=fun s9=>QC6 (h:=?_));refine QAL fun b5=>?_;refine QAe 0 (Q:=Ar I64 ⟨some ⟨b5,0,none⟩,0,0⟩ []) (fun g hg=>⟨[],QAm [] 0 rfl rfl hg⟩) ?_;refine QHb (E:=I64) (s:=⟨some ⟨b5,0,none⟩,0,0⟩) (r:=QMC (E:=I64) (s:=lvs) (xs:=kid.vs) 8 (by omega)) (hb:=by simp;omega) (h:=fun s10=>QAL fun b7=>?_);rw[List.nil_append,List.nil_append]
   exact QAK [Blk b7 [s9.v,s10.v,.slice none 0 0],Ar KE s9 (kid.ks.drop 8),Ar I64 s10 (kid.vs.drop 8),Blk b [ks.v,vs.v,cs.v],Ar KE ks pg.ks,Ar I64 vs pg.vs,Ar PE cs kp,Each (PageR R) (kp.eraseIdx i) (pg.kids.eraseIdx i),
    Blk lb [lks.v,lvs.v,lcs.v],Ar KE lks kid.ks,Ar I64 lvs kid.vs,Ar PE lcs lkp,Each R lkp kid.kids] (hK1 _ _ ⟨b7,s9,s10,rfl,rfl⟩)
  ·exact QKd (tail b5 b6)
  ·exact QKd (tail b5 b6)
 ·rintro right As2 ⟨rb,s5,s6,rfl,rfl⟩;refine QAQ (xgq ?_)
  have hp8:1≤kid.kids.length→kid.kids.length=16:=fun h=>by
   rcases hks with e|e
   ·rw[e]at h;simp at h
   ·exact e
  refine QBu (fun As'=>∃s14 lcs',As'=[Blk rb [(s5:Sl).v,(s6:Sl).v,(s14:Sl).v],Ar PE s14 (lkp.drop 8),Each R (lkp.drop 8) (kid.kids.drop 8),Ar KE s5 (kid.ks.drop 8),Ar I64 s6 (kid.vs.drop 8),
   Blk lb [lks.v,lvs.v,(lcs':Sl).v],Ar PE lcs' (lkp.take 8),Each R (lkp.take 8) (kid.kids.take 8),Ar KE lks kid.ks,Ar I64 lvs kid.vs,Blk b [ks.v,vs.v,cs.v],Ar KE ks pg.ks,Ar I64 vs pg.vs,Ar PE cs kp,Each (PageR R) (kp.eraseIdx i) (pg.kids.eraseIdx i)]) (fun K1 hK1=>?_) ?_
  ·refine QAA (fun h=>?_) (fun h=>?_)
   ·have h16:=hp8 (by omega);refine QCm (E:=PE) (xs:=lkp) lcs fun hln hlc=>?_;refine QAL fun b8=>?_;refine QAQ (xgq ?_);refine QEh (by omega) (by omega) (by omega) (by omega) ?_;rw[show (8:Int).toNat=8 from rfl,show ((lcs.n:Int)).toNat=lcs.n by omega,show ((lcs.c:Int)).toNat=lcs.c by omega];refine QAe 0 (Q:=Ar PE ⟨some ⟨b8,0,none⟩,0,0⟩ []) (fun g hg=>⟨[],QAm [] 0 rfl rfl hg⟩) ?_;refine QHb (E:=PE) (s:=⟨some ⟨b8,0,none⟩,0,0⟩) (r:=QMC (E:=PE) (s:=lcs) (xs:=lkp) 8 (by omega)) (hb:=by simp;omega) (h:=fun s14=>?_);rw[List.nil_append];refine QAQ (xsq (QAQ (xgq ?_)));refine QdQ (E:=PE) (xs:=lkp) (s:=lcs) (r:=8) rfl (by omega) (by omega) ?_;refine QAQ (xsq ?_);refine QdZ 13 (P1:=Each R lkp kid.kids) [Each R (lkp.take 8) (kid.kids.take 8),Each R (lkp.drop 8) (kid.kids.drop 8)] (fun g hg=>QRq 8 hg) (QBM ?_);exact QKd (hK1 _ ⟨s14,⟨lcs.p,8,8⟩,rfl⟩)
   ·have e0:kid.kids=[]:=List.eq_nil_of_length_eq_zero (by omega);have e1:lkp=[]:=List.eq_nil_of_length_eq_zero (by omega);refine QAd PE ?_;have:=hK1 _ ⟨⟨none,0,0⟩,lcs,rfl⟩;rw[e0,e1]at this⊢;simp only[List.drop_nil,List.take_nil]at this⊢;rw[show (⟨none,0,0⟩:Sl).v=.slice none 0 0 from rfl]at this;refine QX1 (A:=Each R [] []) trivial ?_;exact QKd this
  ·rintro As2 ⟨s14,lcs',rfl⟩;refine QAO (QAQ (xgq ?_));refine QAH (E:=KE) (xs:=kid.ks) (s:=lks) (h1:=by omega) (h:=fun y hy=>?_)
   obtain rfl:y=m:=by rw[hm]at hy;exact (Option.some.inj hy).symm
   refine QAN (E:=KE) (xs:=kid.ks) hy (h:=?_);refine QAZ (E:=KE) (xs:=kid.ks) hy (h:=QAQ (xgq ?_));refine QAH (E:=I64) (xs:=kid.vs) (s:=lvs) (h1:=by omega) (h:=fun u hu=>?_)
   obtain rfl:u=v:=by rw[hv]at hu;exact (Option.some.inj hu).symm
   refine QAN (E:=I64) (xs:=kid.vs) hu (h:=?_);refine QAL fun b9=>xsq (xsq ?_);refine QM1 (E:=I64) (xs:=kid.vs) hu (h:=QC6 (h:=QAO (QAQ (xgq ?_))));refine QdQ (E:=KE) (xs:=kid.ks) (s:=lks) (r:=7) rfl (by omega) (by omega) ?_;refine QAQ (xgq ?_);refine QdQ (E:=I64) (xs:=kid.vs) (s:=lvs) (r:=7) rfl (by omega) (by omega) ?_;refine QAQ (xsq (QAQ (xsq (QAO (QAQ (xgq (xgq (xgq (QAQ (xgq (QAQ (xgq ?_))))))))))));refine xcl (QRi ks pg.ks i y (by omega) (by omega)) rdb ?_;rintro⟨s26,_⟩ _ rfl;refine QA5 (ca1 (QC6 (h:=QC6 (h:=?_))));refine xcl (QQc vs pg.vs i u (by omega) (by omega)) rdb ?_;rintro⟨s27,_⟩ _ rfl;refine QA5 (ca1 (QC6 (h:=?_)));rw[QAF i (by omega)];refine xcl (QXl cs kp (i+1) (some ⟨rb,0,none⟩) (by omega) (by omega)) rdb ?_;rintro⟨s28,_⟩ _ rfl;refine QA5 (ca1 (QAQ (xsq (QAQ (xsq (QAQ (xsq ?_)))))));refine QB6 rb s5 s6 s14 (lkp.drop 8) (pg:=QXr kid) (R:=R) ?_;refine QB6 lb ⟨lks.p,7,7⟩ ⟨lvs.p,7,7⟩ lcs' (lkp.take 8) (pg:=QTn kid) (R:=R) ?_
   have hset:kp.set i (some ⟨lb,0,none⟩)=kp:=by
    apply List.ext_getElem?;intro j;by_cases e:i=j
    ·subst e;rw[List.getElem?_set_self (by omega),hq]
    ·rw[List.getElem?_set_ne e]
   refine QBQ [PageR R (some ⟨lb,0,none⟩) (QTn kid),Each (PageR R) (kp.eraseIdx i) (pg.kids.eraseIdx i)] (Each (PageR R) kp (pg.kids.set i (QTn kid))) (fun g hg=>by
    have:=QDP (by omega) hi hg
    rwa [hset]at this) ?_
   refine QBQ [PageR R (some ⟨rb,0,none⟩) (QXr kid),Each (PageR R) kp (pg.kids.set i (QTn kid))] (Each (PageR R) (QAw kp (i+1) (some ⟨rb,0,none⟩)) (QYW pg i kid y u).kids) (fun g hg=>QK9 (by omega) hg) ?_;refine QB6 b s26 s27 s28 (QAw kp (i+1) (some ⟨rb,0,none⟩)) (pg:=QYW pg i kid y u) (R:=PageR R) ?_;exact QAa (l:=[_]) (QAD rfl)
def QEi:(n:Nat)→PT n→List KY
 | 0,(p:Pg Empty)=>p.ks
 | _+1,(p:Pg (PT _))=>p.ks
def QbM:(n:Nat)→PT n→KY→Bool
 | 0,_,_=>false
 | n+1,(p:Pg (PT n)),k=>match p.kids[plK p.ks k]? with
  | some kid=>(QEi n kid).length == 15
  | none=>false
theorem QVI:∀{n:Nat}{pg:PT n},QGA n pg→(QEi n pg).length≤15
 | 0,pg,h=>h.1
 | n+1,pg,h=>h.1
theorem QMK:∀(n:Nat) (p:Option Addr) (pg:Pg (PT n)) (i:Nat) (kid:PT n),QGA (n+1) pg→pg.ks.length<15→pg.kids[i]? = some kid→(QEi n kid).length=15 →
  Ct Pr 359 [.pointer p,.I (i:Int),.I 8] (.tup []) [] [PageO (n+1) p pg] emp
   (fun t Bs=>∃pg':Pg (PT n),Bs=[PageO (n+1) p pg']∧QGA (n+1) pg'∧QBf (n+1) pg'=QBf (n+1) pg∧∃(m:KY) (a b:PT n),pg'.ks=QAw pg.ks i m∧pg'.kids=QAw (pg.kids.set i a) (i+1) b∧(QEi n a).length=7∧(QEi n b).length=7):=by
 intro n p pg i kid hg hpl hk hf;obtain⟨h1,h2,h3,h4⟩:pg.ks.length≤15∧pg.vs.length=pg.ks.length∧pg.kids.length=pg.ks.length+1∧∀k∈pg.kids,QGA n k:=hg;have hi:=(List.getElem?_eq_some_iff.1 hk).1;have hgk:QGA n kid:=h4 kid (List.mem_of_getElem? hk)
 -- what the split page is, as a law
 have law:∀(m:KY) (v:Int) (a b:PT n),QGA n a→QGA n b→QBf n kid=QBf n a++m::QBf n b→(QEi n a).length=7→(QEi n b).length=7 →
   ∀pg':Pg (PT n),pg'=⟨QAw pg.ks i m,QAw pg.vs i v,QAw (pg.kids.set i a) (i+1) b⟩→QGA (n+1) pg'∧QBf (n+1) pg'=QBf (n+1) pg∧∃(m:KY) (a b:PT n),pg'.ks=QAw pg.ks i m∧pg'.kids=QAw (pg.kids.set i a) (i+1) b∧(QEi n a).length=7∧(QEi n b).length=7:=by
  rintro m v a b ga gb hab la lb _ rfl;refine⟨⟨?_,?_,?_,?_⟩,?_,m,a,b,rfl,rfl,la,lb⟩
  ·show (QAw pg.ks i m).length≤15;rw[QCK];omega
  ·show (QAw pg.vs i v).length=(QAw pg.ks i m).length;rw[QCK,QCK];omega
  ·show (QAw (pg.kids.set i a) (i+1) b).length=(QAw pg.ks i m).length+1;rw[QCK,QCK,List.length_set];omega
  ·intro k hk';have hk':k∈QAw (pg.kids.set i a) (i+1) b:=hk';unfold QAw at hk';rcases List.mem_append.1 hk' with h|h
   ·rcases List.mem_or_eq_of_mem_set (List.mem_of_mem_take h) with h|h
    ·exact h4 k h
    ·exact h ▸ ga
   ·rcases List.mem_cons.1 h with h|h
    ·exact h ▸ gb
    ·rcases List.mem_or_eq_of_mem_set (List.mem_of_mem_drop h) with h|h
     ·exact h4 k h
     ·exact h ▸ ga
  ·show mix (QAw pg.ks i m) ((QAw (pg.kids.set i a) (i+1) b).map (QBf n))=mix pg.ks (pg.kids.map (QBf n))
   have e:(QAw (pg.kids.set i a) (i+1) b).map (QBf n)=QAw ((pg.kids.map (QBf n)).set i (QBf n a)) (i+1) (QBf n b):=by
    unfold QAw;rw[List.map_append,List.map_cons,List.map_take,List.map_drop,List.map_set]
   rw[e,QQn i m _ _ (by simp;omega) (by simp;omega),QN7 i (x:=QBf n kid) (by simp;omega) (by rw[List.getElem?_map,hk];rfl),hab]
 cases n with
 | zero=>
  have hf':(kid:Pg Empty).ks.length=15:=hf;have hvl:(kid:Pg Empty).vs.length=(kid:Pg Empty).ks.length:=hgk.2;have hm:=List.getElem?_eq_getElem (l:=(kid:Pg Empty).ks) (i:=7) (by omega);have hv:=List.getElem?_eq_getElem (l:=(kid:Pg Empty).vs) (i:=7) (by omega);have hc:=QNk (α:=Empty) ER p pg i kid _ _ hk hf' (by omega) (.inl (by cases h:(kid:Pg Empty).kids with|nil=>rfl|cons e _=>exact e.elim)) hm hv (by omega) h2 h3;intro w g hs hmem hr;refine (hc w g hs hmem hr).mono ?_;rintro e w' ⟨t,Bs,he,rfl,hx⟩;refine⟨t,_,he,⟨_,rfl,?_⟩,hx⟩;refine law _ _ (QTn (kid:Pg Empty)) (QXr (kid:Pg Empty)) ⟨?_,?_⟩ ⟨?_,?_⟩ ?_ ?_ ?_ _ rfl
  ·show ((kid:Pg Empty).ks.take 7).length≤15;simp;omega
  ·show ((kid:Pg Empty).vs.take 7).length=((kid:Pg Empty).ks.take 7).length;simp;omega
  ·show ((kid:Pg Empty).ks.drop 8).length≤15;simp;omega
  ·show ((kid:Pg Empty).vs.drop 8).length=((kid:Pg Empty).ks.drop 8).length;simp;omega
  ·show (kid:Pg Empty).ks=(kid:Pg Empty).ks.take 7++(kid:Pg Empty).ks[7]::(kid:Pg Empty).ks.drop 8;rw[←List.drop_eq_getElem_cons,List.take_append_drop]
  ·show ((kid:Pg Empty).ks.take 7).length=7;simp;omega
  ·show ((kid:Pg Empty).ks.drop 8).length=7;simp;omega
 | succ n=>
  obtain⟨g1,g2,g3,g4⟩:(kid:Pg (PT n)).ks.length≤15∧(kid:Pg (PT n)).vs.length=(kid:Pg (PT n)).ks.length∧(kid:Pg (PT n)).kids.length=(kid:Pg (PT n)).ks.length+1∧∀k∈(kid:Pg (PT n)).kids,QGA n k:=hgk;have hf':(kid:Pg (PT n)).ks.length=15:=hf;have hm:=List.getElem?_eq_getElem (l:=(kid:Pg (PT n)).ks) (i:=7) (by omega);have hv:=List.getElem?_eq_getElem (l:=(kid:Pg (PT n)).vs) (i:=7) (by omega);have hc:=QNk (α:=PT n) (PageO n) p pg i kid _ _ hk hf' (by omega) (.inr (by omega)) hm hv (by omega) h2 h3;intro w g hs hmem hr;refine (hc w g hs hmem hr).mono ?_;rintro e w' ⟨t,Bs,he,rfl,hx⟩;refine⟨t,_,he,⟨_,rfl,?_⟩,hx⟩;refine law _ _ (QTn (kid:Pg (PT n))) (QXr (kid:Pg (PT n))) ⟨?_,?_,?_,?_⟩ ⟨?_,?_,?_,?_⟩ ?_ ?_ ?_ _ rfl
  ·show ((kid:Pg (PT n)).ks.take 7).length≤15;simp;omega
  ·show ((kid:Pg (PT n)).vs.take 7).length=((kid:Pg (PT n)).ks.take 7).length;simp;omega
  ·show ((kid:Pg (PT n)).kids.take 8).length=((kid:Pg (PT n)).ks.take 7).length+1;simp;omega
  ·exact fun k hk=>g4 k (List.mem_of_mem_take hk)
  ·show ((kid:Pg (PT n)).ks.drop 8).length≤15;simp;omega
  ·show ((kid:Pg (PT n)).vs.drop 8).length=((kid:Pg (PT n)).ks.drop 8).length;simp;omega
  ·show ((kid:Pg (PT n)).kids.drop 8).length=((kid:Pg (PT n)).ks.drop 8).length+1;simp;omega
  ·exact fun k hk=>g4 k (List.mem_of_mem_drop hk)
  ·show mix (kid:Pg (PT n)).ks ((kid:Pg (PT n)).kids.map (QBf n))=mix ((kid:Pg (PT n)).ks.take 7) (((kid:Pg (PT n)).kids.take 8).map (QBf n))++(kid:Pg (PT n)).ks[7]::mix ((kid:Pg (PT n)).ks.drop 8) (((kid:Pg (PT n)).kids.drop 8).map (QBf n));rw[QT3 7 (by simp;omega) hm,List.map_take,List.map_drop]
  ·show ((kid:Pg (PT n)).ks.take 7).length=7;simp;omega
  ·show ((kid:Pg (PT n)).ks.drop 8).length=7;simp;omega
def QVb(rp:Option Addr)(L:List KY):HP:=fun h=>(rp=none∧L=[])∨∃(N:Nat) (pg:PT N),QGA N pg∧QBf N pg=L∧PageO N rp pg h
def QEN(q:Option Addr)(L:List KY):HP:=fun h=>QTL L∧∃b rp,q=some ⟨b,0,none⟩∧QBl [Blk b [.I 8,.pointer rp,.I (L.length:Int)],QVb rp L] h
theorem Qf9(i:Nat){q:Option Addr}{L:List KY}{F:List HP}[p:Pick i As (QEN q L) F]{φ:WP}
  (k:QTL L→∀b rp,q=some ⟨b,0,none⟩→Ent B (Blk b [.I 8,.pointer rp,.I (L.length:Int)]::QVb rp L::F) φ):Ent B As φ:=by
 refine Ent.perm p.perm ?_;rintro w ⟨g,⟨a,c,⟨hs,b,rp,hq,pa⟩,pc,d,sa,sc⟩,hm,hu⟩;exact k hs b rp hq w ⟨g,(QAj [_,_] F).2 ⟨a,c,pa,pc,d,sa,sc⟩,hm,hu⟩
theorem QNc(b:Nat)(rp:Option Addr)(L:List KY)(hs:QTL L){G:List HP}[p:Split [Blk b [.I 8,.pointer rp,.I (L.length:Int)],QVb rp L] As G]{φ:WP}
  (k:Ent B (QEN (some ⟨b,0,none⟩) L::G) φ):Ent B As φ:=
 QBQ [Blk b [.I 8,.pointer rp,.I (L.length:Int)],QVb rp L] (QEN (some ⟨b,0,none⟩) L) (fun g hg=>⟨hs,b,rp,rfl,hg⟩) k
theorem Qac:Ct Pr 265 [.I 8] (.tup [none,none]) [.ptr,.I] [] emp (fun t Bs=>t.2.1=0∧Bs=[QEN t.1 []]):=by
 refine sp2 (QT4 _) fun B _=>?_;unfold QT4 mf;dsimp only;refine QBF (by decide) (QAL fun b=>?_);refine QX1 (A:=QVb none []) (.inl ⟨rfl,rfl⟩) ?_;exact QNc b none [] List.Pairwise.nil (QAD ⟨rfl,rfl⟩)
theorem QeX(i:Nat):∀{n:Nat}{q:Option Addr}{pg:PT n}{As F:List HP} [p:Pick i As (PageO n q pg) F] {K:Sl→WP},(∀s:Sl,s.n=(QEi n pg).length→Ent B (PageO n q pg::F) (K s))→Ent B As (QCe q fun a=>QAq .slice a fun s=>K s)
 | 0,q,(pg:Pg Empty),As,F,p,K,h=>by
  have p':Pick i As (PageR ER q pg) F:=p;refine QVn i fun b ks vs cs kp hq _ _=>?_;subst hq;refine QAQ (xgq (QCm (E:=KE) (xs:=pg.ks) ks fun hn _=>?_));refine QB6 b ks vs cs kp (pg:=pg) (R:=ER) ?_;exact h ks hn.symm
 | n+1,q,(pg:Pg (PT n)),As,F,p,K,h=>by
  have p':Pick i As (PageR (PageO n) q pg) F:=p;refine QVn i fun b ks vs cs kp hq _ _=>?_;subst hq;refine QAQ (xgq (QCm (E:=KE) (xs:=pg.ks) ks fun hn _=>?_));refine QB6 b ks vs cs kp (pg:=pg) (R:=PageO n) ?_;exact h ks hn.symm
theorem QVB{α:Type}{l:List α}{i j:Nat}{x:α}(h:j<i)(hi:i≤l.length):(QAw l i x)[j]? = l[j]?:=by
 unfold QAw;rw[List.getElem?_append_left (by simp;omega),List.getElem?_take_of_lt h]
theorem QUY{α:Type}{l:List α}{i:Nat}{x:α}(hi:i≤l.length):(QAw l i x)[i]? = some x:=by
 unfold QAw;rw[List.getElem?_append_right (by simp;omega)];simp[Nat.min_eq_left hi]
theorem Qbg{α:Type}{l:List α}{i j:Nat}{x:α}(h:i≤j)(hi:i≤l.length):(QAw l i x)[j+1]? = l[j]?:=by
 unfold QAw;rw[List.getElem?_append_right (by simp;omega),List.length_take,Nat.min_eq_left hi,show j+1 - i=(j - i)+1 by omega,List.getElem?_cons_succ,List.getElem?_drop,show i+(j - i)=j by omega]
theorem QWT{ks:List KY}{k m:KY}:plK ks k≤plK (QAw ks (plK ks k) m) k:=by
 have hi:=QMR ks k;generalize hp:plK (QAw ks (plK ks k) m) k=p;rcases Nat.lt_or_ge p (plK ks k) with h1|h1
 ·exfalso
  have hlt:p<ks.length:=by omega
  have h2:=QRb (ks:=QAw ks (plK ks k) m) (k:=k) (y:=ks[p]) (by rw[hp,QVB h1 hi,List.getElem?_eq_getElem hlt]);rw[QVJ p _ h1 (List.getElem?_eq_getElem hlt)]at h2;cases h2
 ·exact h1
theorem Qaq{ks:List KY}{k m:KY}:plK (QAw ks (plK ks k) m) k=plK ks k∨plK (QAw ks (plK ks k) m) k=plK ks k+1:=by
 have hi:=QMR ks k;have ge:=QWT (ks:=ks) (k:=k) (m:=m);have hy:=QUY (x:=m) hi;by_cases h:ltK m k=true
 ·right;have g1:=QUR ge hy h;rcases Nat.lt_or_ge (plK ks k) ks.length with hl|hl
  ·have hz:=Qbg (x:=m) (Nat.le_refl _) hi;rw[List.getElem?_eq_getElem hl]at hz;exact QOx g1 hz (QRb (List.getElem?_eq_getElem hl))
  ·have:=QMR (QAw ks (plK ks k) m) k;rw[QCK]at this;omega
 ·left;exact QOx ge hy (by simpa using h)
theorem QVk{n:Nat}{pg pg':Pg (PT n)}{k m:KY}{a b:PT n}(hl:plK pg.ks k<pg.kids.length)(h1:pg'.ks=QAw pg.ks (plK pg.ks k) m)(h2:pg'.kids=QAw (pg.kids.set (plK pg.ks k) a) (plK pg.ks k+1) b)(ha:(QEi n a).length=7)(hb:(QEi n b).length=7):QbM (n+1) pg' k=false:=by
 have e0:pg'.kids[plK pg.ks k]? = some a:=by
  rw[h2,QVB (by omega) (by simp;omega),List.getElem?_set_self hl]
 have e1:pg'.kids[plK pg.ks k+1]? = some b:=by
  rw[h2,QUY (by simp;omega)]
 show (match pg'.kids[plK pg'.ks k]? with
  | some kid=>(QEi n kid).length == 15
  | none=>false)=false
 rcases Qaq (ks:=pg.ks) (k:=k) (m:=m) with e|e
 ·rw[h1,e,e0];simp[ha]
 ·rw[h1,e,e1];simp[hb]
def room(n:Nat)(pg:PT n)(k:KY):Prop:=(QEi n pg).length<15∨(n≠0∧QbM n pg k=false)
def mes(n:Nat)(pg:PT n)(k:KY):Nat:=2*n+(if QbM n pg k=true then 1 else 0)
def Qgp(n:Nat)(p rp:Option Addr)(W:HP)(pre suf:List KY):Prop:=∀(pg':PT n) g,QGA n pg'→QBl [PageO n p pg',W] g→∃(N:Nat) (r:PT N),QGA N r∧QBf N r=pre++(QBf n pg'++suf)∧PageO N rp r g
def QhF(b tb:Nat)(k:KY)(rp:Option Addr)(L:List KY)(m:Nat)(p:Option Addr)(As':List HP):Prop:=∃(n:Nat) (pg:PT n) (W:HP) (pre suf:List KY),QGA n pg∧L=pre++(QBf n pg++suf)∧(∀y∈pre,ltK y k=true)∧(∀y∈suf,ltK k y=true)∧room n pg k∧m=mes n pg k∧Qgp n p rp W pre suf ∧
 As'=[Blk b [.I k.1,.I k.2],Blk tb [.I 8,.pointer rp,.I (L.length:Int)],PageO n p pg,W]
theorem PageR.mono{α:Type}{R:Option Addr→α→HP}{p:Option Addr}{pg:Pg α}{g h:QBe}(a:PageR R p pg g)(s:Sub g h):PageR R p pg h:=by
 obtain⟨b,ks,vs,cs,kp,hp,ha⟩:=a;exact⟨b,ks,vs,cs,kp,hp,QCc _ ha s⟩
theorem PageO.mono:∀{n:Nat}{p:Option Addr}{pg:PT n}{g h:QBe},PageO n p pg g→Sub g h→PageO n p pg h
 | 0,p,pg,g,h,a,s=>PageR.mono a s
 | n+1,p,pg,g,h,a,s=>PageR.mono a s
theorem PageO.some:∀{n:Nat}{p:Option Addr}{pg:PT n}{g:QBe},PageO n p pg g→∃b,p=some ⟨b,0,none⟩
 | 0,p,pg,g,⟨b,_,_,_,_,h,_⟩=>⟨b,h⟩
 | n+1,p,pg,g,⟨b,_,_,_,_,h,_⟩=>⟨b,h⟩
theorem QPM{α:Type}{l:List α}{i:Nat}{x:α}(h:l[i]? = some x):l.set i x=l:=by
 apply List.ext_getElem?;intro j;by_cases e:i=j
 ·subst e;rw[List.getElem?_set_self (List.getElem?_eq_some_iff.1 h).1,h]
 ·rw[List.getElem?_set_ne e]
theorem QNY{α:Type}{R:Option Addr→α→HP}(pg:Pg α)(i:Nat)(hi:i<pg.vs.length)(v:Int)(pb:Nat)(ks vs cs:Sl)(kp:List (Option Addr)){K:WP}(h:Ent B (PageR R (some ⟨pb,0,none⟩) ⟨pg.ks,pg.vs.set i v,pg.kids⟩::F) K) :
  Ent B (Blk pb [ks.v,vs.v,cs.v]::Ar KE ks pg.ks::Ar I64 vs pg.vs::Ar PE cs kp::Each R kp pg.kids::F) (QCe (some ⟨pb,0,none⟩) fun a10=>QAq .slice (a10.add 1) fun s1=>QKB s1.p s1.n (i:Int) 1 fun a11=>QBG a11 (.I v)<|K):=by
 refine QAQ (xgq ?_);refine QAH (E:=I64) (xs:=pg.vs) (s:=vs) (h1:=hi) (h:=fun y hy=>?_);refine QHd (E:=I64) (xs:=pg.vs) v hy (hv:=rfl) (h:=?_);exact QB6 pb ks vs cs kp (pg:=⟨pg.ks,pg.vs.set i v,pg.kids⟩) (R:=R) h
theorem Qap{n:Nat}{pg:PT n}{L pre suf:List KY}(hs:QTL L)(h:L=pre++(QBf n pg++suf)):QTL (QBf n pg):=by
 rw[h]at hs;exact (List.pairwise_append.1 (List.pairwise_append.1 hs).2.1).1
theorem QTO{n:Nat}{p rp:Option Addr}{W:HP}{pre suf L:List KY}{tb:Nat}{k:KY}(hs:QTL L)(pg':PT n)(hg':QGA n pg')(hW:Qgp n p rp W pre suf)(hk:pre++(QBf n pg'++suf)=QK0 k L){c:Int}(hc:c=((QK0 k L).length:Int)){G:List HP}{x:Bool}
  [q:Split [PageO n p pg',W,Blk tb [.I 8,.pointer rp,.I c]] As G]:Ent B As (Ret B (ss:=[.bool]) (fun t Bs=>Bs=[QEN (some ⟨tb,0,none⟩) (QK0 k L)]) (x,())):=by
 subst hc;refine QAK [PageO n p pg',W,Blk tb [.I 8,.pointer rp,.I ((QK0 k L).length:Int)]] ?_;refine QBQ [PageO n p pg',W] (QVb rp (QK0 k L)) (fun g hg=>?_) ?_
 ·obtain⟨N,r,h1,h2,h3⟩:=hW pg' g hg' hg;exact .inr ⟨N,r,h1,h2.trans hk,h3⟩
 ·exact QNc tb rp (QK0 k L) (QY8 hs) (QAD rfl)
theorem Qb1(q:Option Addr)(L:List KY)(k:KY)(v:Int)(hL:L.length≤4000000000000000):Ct Pr 266 [.pointer q,.agg #[.I k.1,.I k.2],.I v] .one [.bool] [QEN q L] emp (fun t Bs=>Bs=[QEN q (QK0 k L)]):=by
 refine sp1 (QI4 _ _ _ _) fun B _=>?_;unfold QI4 mf;dsimp only;refine QAL fun b=>Qf9 1 fun hs tb rp hq=>?_;subst hq;refine QAQ (xgq (QAQ (xgq ?_)));refine QBu (fun As'=>∃(rp:Option Addr) (N:Nat) (pg:PT N),QGA N pg∧QBf N pg=L∧As'=[Blk b [.I k.1,.I k.2],Blk tb [.I 8,.pointer rp,.I (L.length:Int)],PageO N rp pg]) (fun K1 hK1=>?_) ?_
 ·refine QFI 1 (fun Bs=>(rp=none∧L=[]∧Bs=[])∨∃(N:Nat) (pg:PT N),QGA N pg∧QBf N pg=L∧rp≠none∧Bs=[PageO N rp pg]) (fun g hg=>?_) ?_
  ·rcases hg with⟨h1,h2⟩|⟨N,pg,h1,h2,h3⟩
   ·exact⟨[],.inl ⟨h1,h2,rfl⟩,trivial⟩
   ·obtain⟨rb,hrb⟩:=h3.some;exact⟨_,.inr ⟨N,pg,h1,h2,by rw[hrb];simp,rfl⟩,QCh h3⟩
  ·rintro Bs (⟨rfl,rfl,rfl⟩|⟨N,pg,h1,h2,h3,rfl⟩)
   ·refine QAy (QBz rfl (QAL fun b1=>QAQ (xsq ?_)));refine QAe 0 (Q:=Blk b1 [(⟨none,0,0⟩:Sl).v,(⟨none,0,0⟩:Sl).v,(⟨none,0,0⟩:Sl).v]) (fun g hg=>hg) ?_;refine QAd KE (QAd I64 (QAd PE ?_));refine QX1 (A:=Each ER [] []) trivial ?_;refine QB6 b1 ⟨none,0,0⟩ ⟨none,0,0⟩ ⟨none,0,0⟩ [] (pg:=(⟨[],[],[]⟩:Pg Empty)) (R:=ER) ?_;exact QAK [Blk b [.I k.1,.I k.2],Blk tb [.I 8,.pointer (some ⟨b1,0,none⟩),.I 0],PageR ER (some ⟨b1,0,none⟩) (⟨[],[],[]⟩:Pg Empty)] (hK1 _ ⟨some ⟨b1,0,none⟩,0,(⟨[],[],[]⟩:Pg Empty),⟨by simp,rfl⟩,rfl,rfl⟩)
   ·refine QA5 (QBF (by cases rp with|none=>exact absurd rfl h3|some a=>rfl) ?_);exact QAK [Blk b [.I k.1,.I k.2],Blk tb [.I 8,.pointer rp,.I (L.length:Int)],PageO N rp pg] (hK1 _ ⟨rp,N,pg,h1,h2,rfl⟩)
 rintro As1 ⟨rp,N,pg,hg,hk,rfl⟩;refine QAQ (xgq (QeX 2 fun s hsn=>?_))
 have e15:IntKind.i64.wrap ((IntKind.i64.wrap (2*8)) - 1)=15:=by decide
 rw[e15];have hlen:=QVI hg;refine QBu (fun As'=>∃(rp:Option Addr) (N:Nat) (pg:PT N),QGA N pg∧QBf N pg=L∧(QEi N pg).length<15∧As'=[Blk b [.I k.1,.I k.2],Blk tb [.I 8,.pointer rp,.I (L.length:Int)],PageO N rp pg]) (fun K1 hK1=>?_) ?_
 ·refine xif (fun h=>?_) (fun h=>?_)
  ·have h15:(QEi N pg).length=15:=by have:=eq_of_beq h;omega
   refine QAQ (xgq (QAL fun b2=>QAL fun b3=>QAQ (xsq (QAO (QAQ (xgq (QAQ (xgq ?_))))))));refine QAe 0 (Q:=Blk b3 [(⟨none,0,0⟩:Sl).v,(⟨none,0,0⟩:Sl).v,(⟨some ⟨b2,0,none⟩,1,1⟩:Sl).v]) (fun g hg=>hg) ?_;refine QAe 1 (Q:=Ar PE ⟨some ⟨b2,0,none⟩,1,1⟩ [rp]) (fun g hg=>⟨[],QAm [rp] 1 rfl rfl hg⟩) ?_
   refine QBQ [PageO N rp pg] (Each (PageO N) [rp] [pg]) (fun g hg=>by
    obtain⟨a,c,pa,pc,d,sa,sc⟩:=hg
    exact⟨a,c,pa,QCh trivial,d,sa,sc⟩) ?_
   refine QAd KE (QAd I64 ?_);refine QB6 b3 ⟨none,0,0⟩ ⟨none,0,0⟩ ⟨some ⟨b2,0,none⟩,1,1⟩ [rp] (pg:=(⟨[],[],[pg]⟩:Pg (PT N))) (R:=PageO N) ?_
   have hc:=QMK N (some ⟨b3,0,none⟩) (⟨[],[],[pg]⟩:Pg (PT N)) 0 pg ⟨by simp,rfl,rfl,fun x hx=>by
    obtain rfl:x=pg:=by simpa using hx
    exact hg⟩ (by simp) rfl h15
   refine xcl (pre:=[PageR (PageO N) (some ⟨b3,0,none⟩) (⟨[],[],[pg]⟩:Pg (PT N))]) hc rdb ?_;rintro _ _ ⟨pg',rfl,g1,g2,m,a,c,g3,_⟩;refine QA5 (ca0 ?_)
   have hr:(QEi (N+1) pg').length<15:=by
    show pg'.ks.length<15;rw[g3,QCK];simp
   have hk2:QBf (N+1) pg'=L:=by
    rw[g2];exact hk
   exact QAK [Blk b [.I k.1,.I k.2],Blk tb [.I 8,.pointer (some ⟨b3,0,none⟩),.I (L.length:Int)],PageO (N+1) (some ⟨b3,0,none⟩) pg'] (hK1 _ ⟨some ⟨b3,0,none⟩,N+1,pg',g1,hk2,hr,rfl⟩)
  ·have h15:(QEi N pg).length≠15:=fun e=>by
    have:((s.n:Int) == 15)=true:=by rw[hsn,e];rfl
    rw[this]at h;cases h
   exact QAK [Blk b [.I k.1,.I k.2],Blk tb [.I 8,.pointer rp,.I (L.length:Int)],PageO N rp pg] (hK1 _ ⟨rp,N,pg,hg,hk,by omega,rfl⟩)
 clear hg hk hlen hsn s pg N rp;rintro As1 ⟨rp,N,pg,hg,hk,hlt,rfl⟩;refine QAQ (xgq ?_);refine QX1 (A:=fun _=>True) trivial (QfK 0 ?_);refine QBP (fun m x As'=>QhF b tb k rp L m x As') (mes N pg k) ⟨N,pg,_,[],[],hg,by simp[hk],by simp,by simp,.inl hlt,rfl,?_,rfl⟩ ?_
 ·rintro pg' g hg' ⟨a,c,pa,_,_,sa,_⟩;exact⟨N,pg',hg',by simp,pa.mono sa⟩
 clear hg hk hlt pg N;rintro m p As' K ⟨n,pg,W,pre,suf,hg,hLe,hpre,hsuf,hroom,rfl,hW,rfl⟩ hK;have hsn:=Qap hs hLe;refine QAJ (xgq (xgq ?_))
 cases n with
 | zero=>
  change Pg Empty at pg;have hg':pg.ks.length≤15∧pg.vs.length=pg.ks.length:=hg;refine QAe 2 (P1:=PageO 0 p pg) (Q:=PageR ER p pg) (fun g hg=>hg) ?_;refine QVn 0 (R:=ER) (pg:=pg) fun pb ks vs cs kp hp hkl hcs=>?_;subst hp;refine xcl (QQ6 pb ks vs.v cs.v pg.ks k (by omega)) rdb ?_;rintro⟨r,c,_⟩ _ ⟨hr,hc,rfl⟩;simp only at hr hc;subst hr hc;refine QBM (ca2 (xif (fun h=>?_) (fun h=>?_)))
  ·have h':pg.ks[plK pg.ks k]? = some k:=of_decide_eq_true h;have hi:=(List.getElem?_eq_some_iff.1 h').1
   have hmem:k∈L:=by rw[hLe];exact List.mem_append_right _ (List.mem_append_left _ (List.mem_of_getElem? h'))
   refine QKd (QNY (R:=ER) (F:=[Blk tb [.I 8,.pointer rp,.I (L.length:Int)],W]) pg (plK pg.ks k) (by omega) v pb ks vs cs kp ?_);refine QAe 0 (Q:=PageO 0 (some ⟨pb,0,none⟩) (⟨pg.ks,pg.vs.set (plK pg.ks k) v,pg.kids⟩:Pg Empty)) (fun g hg=>hg) ?_;exact QTO (n:=0) (p:=some ⟨pb,0,none⟩) (rp:=rp) (tb:=tb) (c:=(L.length:Int)) hs (⟨pg.ks,pg.vs.set (plK pg.ks k) v,pg.kids⟩:Pg Empty) ⟨hg'.1,by simp[hg'.2]⟩ hW (by rw[QJU hmem];exact hLe.symm) (by rw[QJU hmem])
  ·have h':pg.ks[plK pg.ks k]?≠some k:=of_decide_eq_false h;have hpl:=QMR pg.ks k
   have h15:pg.ks.length<15:=by
    rcases hroom with h|⟨h,_⟩
    ·exact h
    ·exact absurd rfl h
   have hk0:(pg.kids).length=0:=by cases e:pg.kids with|nil=>rfl|cons x _=>exact x.elim
   refine QAQ (QAE (h:=QBz (by rw[hcs,hk0];rfl) (QAO (QAQ (xgq (xgq (xgq (QAQ (xgq ?_)))))))));refine xcl (QRi ks pg.ks (plK pg.ks k) k hpl (by omega)) rdb ?_;rintro⟨s5,_⟩ _ rfl;refine QA5 (ca1 (QC6 (h:=?_)));refine xcl (QQc vs pg.vs (plK pg.ks k) v (by omega) (by omega)) rdb ?_;rintro⟨s6,_⟩ _ rfl;refine QA5 (ca1 (QAQ (xsq (QAQ (xsq (QAQ (xgq (QAQ (xsq ?_)))))))));refine QB6 pb s5 s6 cs kp (pg:=(⟨QAw pg.ks (plK pg.ks k) k,QAw pg.vs (plK pg.ks k) v,pg.kids⟩:Pg Empty)) (R:=ER) ?_
   have hnk:k∉pg.ks:=fun hm=>by
    have:=QT8 (ks:=pg.ks) hsn h';have hl:(QAw pg.ks (plK pg.ks k) k).length=(QK0 k pg.ks).length:=congrArg List.length this;rw[QCK,QJU hm]at hl;omega
   have hnot:k∉L:=fun hm=>by
    rw[hLe]at hm;rcases List.mem_append.1 hm with hm|hm
    ·have:=hpre k hm;rw[QLg]at this;cases this
    ·rcases List.mem_append.1 hm with hm|hm
     ·exact hnk hm
     ·have:=hsuf k hm;rw[QLg]at this;cases this
   refine QAe 0 (Q:=PageO 0 (some ⟨pb,0,none⟩) (⟨QAw pg.ks (plK pg.ks k) k,QAw pg.vs (plK pg.ks k) v,pg.kids⟩:Pg Empty)) (fun g hg=>hg) ?_;refine QTO (n:=0) (p:=some ⟨pb,0,none⟩) (rp:=rp) (tb:=tb) (c:=IntKind.i64.wrap ((L.length:Int)+1)) hs (⟨QAw pg.ks (plK pg.ks k) k,QAw pg.vs (plK pg.ks k) v,pg.kids⟩:Pg Empty) ⟨?_,?_⟩ hW ?_ ?_
   ·show (QAw pg.ks (plK pg.ks k) k).length≤15;rw[QCK];omega
   ·show (QAw pg.vs (plK pg.ks k) v).length=(QAw pg.ks (plK pg.ks k) k).length;rw[QCK,QCK];omega
   ·show pre++(QAw pg.ks (plK pg.ks k) k++suf)=_;rw[QT8 (ks:=pg.ks) hsn h',hLe,QX7 hpre hsuf];rfl
   ·rw[QYj hnot];exact QAF _ (by omega)
 | succ n=>
  change Pg (PT n) at pg;obtain⟨g1,g2,g3,g4⟩:pg.ks.length≤15∧pg.vs.length=pg.ks.length∧pg.kids.length=pg.ks.length+1∧∀k∈pg.kids,QGA n k:=hg;refine QAe 2 (P1:=PageO (n+1) p pg) (Q:=PageR (PageO n) p pg) (fun g hg=>hg) ?_;refine QVn 0 (R:=PageO n) (pg:=pg) fun pb ks vs cs kp hp hkl hcs=>?_;subst hp;refine xcl (QQ6 pb ks vs.v cs.v pg.ks k (by omega)) rdb ?_;rintro⟨r,c,_⟩ _ ⟨hr,hc,rfl⟩;simp only at hr hc;subst hr hc;have hpl:=QMR pg.ks k
  have hml:(pg.kids.map (QBf n)).length=pg.ks.length+1:=by simpa using g3
  refine QBM (ca2 (xif (fun h=>?_) (fun h=>?_)))
  ·have h':pg.ks[plK pg.ks k]? = some k:=of_decide_eq_true h;have hi:=(List.getElem?_eq_some_iff.1 h').1
   have hmem:k∈L:=by rw[hLe];exact List.mem_append_right _ (List.mem_append_left _ (QdV hml h'))
   refine QKd (QNY (R:=PageO n) (F:=[Blk tb [.I 8,.pointer rp,.I (L.length:Int)],W]) pg (plK pg.ks k) (by omega) v pb ks vs cs kp ?_);refine QAe 0 (Q:=PageO (n+1) (some ⟨pb,0,none⟩) (⟨pg.ks,pg.vs.set (plK pg.ks k) v,pg.kids⟩:Pg (PT n))) (fun g hg=>hg) ?_;exact QTO (n:=n+1) (p:=some ⟨pb,0,none⟩) (rp:=rp) (tb:=tb) (c:=(L.length:Int)) hs (⟨pg.ks,pg.vs.set (plK pg.ks k) v,pg.kids⟩:Pg (PT n)) ⟨g1,by simp[g2],g3,g4⟩ hW (by rw[QJU hmem];exact hLe.symm) (by rw[QJU hmem])
  ·have h':pg.ks[plK pg.ks k]?≠some k:=of_decide_eq_false h;obtain⟨kid,hkid⟩:∃x,pg.kids[plK pg.ks k]? = some x:=⟨_,List.getElem?_eq_getElem (by omega)⟩;obtain⟨q,hq⟩:∃x,kp[plK pg.ks k]? = some x:=⟨_,List.getElem?_eq_getElem (by omega)⟩;have hgk:=g4 kid (List.mem_of_getElem? hkid)
   have hfull:QbM (n+1) pg k=((QEi n kid).length == 15):=by
    show (match pg.kids[plK pg.ks k]? with
     | some kid=>(QEi n kid).length == 15
     | none=>false)=_
    rw[hkid]
   have hlt:plK pg.ks k<kp.length:=by rw[hkl,g3];omega
   refine QAQ (QAE (h:=QBF (by rw[beq_eq_false_iff_ne];omega) (QAQ (xgq ?_))));refine QAH (E:=PE) (xs:=kp) (s:=cs) (h1:=hlt) (h:=fun y hy=>?_);refine QAN (E:=PE) (xs:=kp) hq (h:=?_);refine QdZ 4 (P1:=Each (PageO n) kp pg.kids) [PageO n q kid,Each (PageO n) (kp.eraseIdx (plK pg.ks k)) (pg.kids.eraseIdx (plK pg.ks k))] (fun g hg=>QCI hg hq hkid) (QBM ?_);refine QeX 0 fun s8 hs8=>?_;refine xif (fun hf=>?_) (fun hf=>?_)
   ·have hf':(QEi n kid).length=15:=by have:=eq_of_beq hf;omega
    have hl15:pg.ks.length<15:=by
     rcases hroom with h|⟨_,h⟩
     ·exact h
     ·rw[hfull,hf']at h;cases h
    refine QAQ (xgq ?_)
    refine QBQ [PageO n q kid,Each (PageO n) (kp.eraseIdx (plK pg.ks k)) (pg.kids.eraseIdx (plK pg.ks k))] (Each (PageO n) kp pg.kids) (fun g hg=>by
     have:=QDP (by omega) (by omega) hg
     rwa [QPM hq,QPM hkid]at this) ?_
    refine QB6 pb ks vs cs kp (pg:=pg) (R:=PageO n) ?_;refine xcl (pre:=[PageR (PageO n) (some ⟨pb,0,none⟩) pg]) (QMK n (some ⟨pb,0,none⟩) pg (plK pg.ks k) kid ⟨g1,g2,g3,g4⟩ hl15 hkid hf') rdb ?_;rintro _ _ ⟨pg',rfl,p1,p2,m,a,c,p3,p4,p5,p6⟩;refine QA5 (ca0 ?_);have hfu:=QVk (k:=k) (by omega) p3 p4 p5 p6;refine QAK [Blk b [.I k.1,.I k.2],Blk tb [.I 8,.pointer rp,.I (L.length:Int)],PageO (n+1) (some ⟨pb,0,none⟩) pg',W] (hK (mes (n+1) pg' k) _ _ ?_ ⟨n+1,pg',W,pre,suf,p1,by rw[p2];exact hLe,hpre,hsuf,.inr ⟨by omega,hfu⟩,rfl,hW,rfl⟩);unfold mes;rw[hfu,hfull,hf'];simp
   ·have hf':(QEi n kid).length≠15:=fun e=>by
     have:((s8.n:Int) == 15)=true:=by rw[hs8,e];rfl
     rw[this]at hf;cases hf
    have hkl15:=QVI hgk;refine QAQ (xgq ?_);refine QAH (E:=PE) (xs:=kp) (s:=cs) (h1:=by omega) (h:=fun y hy=>?_);refine QAN (E:=PE) (xs:=kp) hq (h:=?_)
    have hmk:(pg.kids.map (QBf n))[plK pg.ks k]? = some (QBf n kid):=by rw[List.getElem?_map,hkid];rfl
    have hkn:QBf (n+1) pg=QMy pg.ks (pg.kids.map (QBf n)) (plK pg.ks k)++(QBf n kid++QLO pg.ks (pg.kids.map (QBf n)) (plK pg.ks k)):=QN7 _ hml hmk
    let W':HP:=QBl [Blk pb [ks.v,vs.v,cs.v],Ar KE ks pg.ks,Ar I64 vs pg.vs,Ar PE cs kp,Each (PageO n) (kp.eraseIdx (plK pg.ks k)) (pg.kids.eraseIdx (plK pg.ks k)),W]
    refine QBQ [Blk pb [ks.v,vs.v,cs.v],Ar KE ks pg.ks,Ar I64 vs pg.vs,Ar PE cs kp,Each (PageO n) (kp.eraseIdx (plK pg.ks k)) (pg.kids.eraseIdx (plK pg.ks k)),W] W' (fun g hg=>hg) ?_;refine QAK [Blk b [.I k.1,.I k.2],Blk tb [.I 8,.pointer rp,.I (L.length:Int)],PageO n q kid,W'] (hK (mes n kid k) _ _ ?_ ⟨n,kid,W',pre++QMy pg.ks (pg.kids.map (QBf n)) (plK pg.ks k),QLO pg.ks (pg.kids.map (QBf n)) (plK pg.ks k)++suf,hgk,?_,?_,?_,.inl (by omega),rfl,?_,rfl⟩)
    ·unfold mes;split<;>split<;>omega
    ·rw[hLe,hkn];simp only[List.append_assoc]
    ·intro y hy;rcases List.mem_append.1 hy with hy|hy
     ·exact hpre y hy
     ·exact Qbj hml hsn y hy
    ·intro y hy;rcases List.mem_append.1 hy with hy|hy
     ·exact QXu hml hsn h' y hy
     ·exact hsuf y hy
    ·intro kid' g hgk' hg'
     have h1:QBl ([PageO n q kid']++[Blk pb [ks.v,vs.v,cs.v],Ar KE ks pg.ks,Ar I64 vs pg.vs,Ar PE cs kp,Each (PageO n) (kp.eraseIdx (plK pg.ks k)) (pg.kids.eraseIdx (plK pg.ks k)),W]) g:=by
      obtain⟨a,c,pa,⟨d,e,pd,_,_,sd,_⟩,dd,sa,sc⟩:=hg';exact (QAj [PageO n q kid'] _).2 ⟨a,d,QCh pa,pd,dd.sub (Sub.refl _) sd,sa,sd.trans sc⟩
     have hperm:([PageO n q kid',Blk pb [ks.v,vs.v,cs.v],Ar KE ks pg.ks,Ar I64 vs pg.vs,Ar PE cs kp,Each (PageO n) (kp.eraseIdx (plK pg.ks k)) (pg.kids.eraseIdx (plK pg.ks k)),W]:List HP).Perm
       ([PageO n q kid',Each (PageO n) (kp.eraseIdx (plK pg.ks k)) (pg.kids.eraseIdx (plK pg.ks k))]++[Blk pb [ks.v,vs.v,cs.v],Ar KE ks pg.ks,Ar I64 vs pg.vs,Ar PE cs kp,W]):=
      (inferInstance:Split [PageO n q kid',Each (PageO n) (kp.eraseIdx (plK pg.ks k)) (pg.kids.eraseIdx (plK pg.ks k))] _ _).perm
     have h2:=QDL (P:=Each (PageO n) kp (pg.kids.set (plK pg.ks k) kid')) (fun g hg=>by
      have:=QDP (by omega) (by omega) hg
      rwa [QPM hq]at this) (QFW hperm h1)
     let pg2:Pg (PT n):=⟨pg.ks,pg.vs,pg.kids.set (plK pg.ks k) kid'⟩
     have hperm2:([Each (PageO n) kp (pg.kids.set (plK pg.ks k) kid'),Blk pb [ks.v,vs.v,cs.v],Ar KE ks pg.ks,Ar I64 vs pg.vs,Ar PE cs kp,W]:List HP).Perm
       ([Blk pb [ks.v,vs.v,cs.v],Ar KE ks pg.ks,Ar I64 vs pg.vs,Ar PE cs kp,Each (PageO n) kp (pg.kids.set (plK pg.ks k) kid')]++[W]):=
      (inferInstance:Split [Blk pb [ks.v,vs.v,cs.v],Ar KE ks pg.ks,Ar I64 vs pg.vs,Ar PE cs kp,Each (PageO n) kp (pg.kids.set (plK pg.ks k) kid')] _ _).perm
     have h3:QBl [PageO (n+1) (some ⟨pb,0,none⟩) pg2,W] g:=QDL (l:=[Blk pb [ks.v,vs.v,cs.v],Ar KE ks pg.ks,Ar I64 vs pg.vs,Ar PE cs kp,Each (PageO n) kp (pg.kids.set (plK pg.ks k) kid')]) (P:=PageO (n+1) (some ⟨pb,0,none⟩) pg2) (fun g hg=>⟨pb,ks,vs,cs,kp,rfl,hg⟩) (QFW hperm2 h2)
     obtain⟨N,r,r1,r2,r3⟩:=hW pg2 g ⟨g1,g2,by show (pg.kids.set _ _).length=_;simpa using g3,fun x hx=>by
      rcases List.mem_or_eq_of_mem_set hx with h|h
      ·exact g4 x h
      ·exact h ▸ hgk'⟩ h3
     refine⟨N,r,r1,?_,r3⟩;rw[r2]
     have:QBf (n+1) pg2=QMy pg.ks (pg.kids.map (QBf n)) (plK pg.ks k)++(QBf n kid'++QLO pg.ks (pg.kids.map (QBf n)) (plK pg.ks k)):=by
      show mix pg.ks ((pg.kids.set (plK pg.ks k) kid').map (QBf n))=_;rw[List.map_set,QYA _ _ hml (by simp;omega)]
     rw[this];simp only[List.append_assoc]
end Go.Cx
namespace Go.Cx
open Go Go.Cf
set_option linter.unusedVariables false
variable {B:QBE}{As:List HP}
def QJu(b:UInt8):Bool:=(decide (97≤b.toNat)&&decide (b.toNat≤122))||(decide (65≤b.toNat)&&decide (b.toNat≤90))
def QYe(b:UInt8):Bool:=(decide (48≤b.toNat)&&decide (b.toNat≤57))||b.toNat == 95||b.toNat == 46||b.toNat == 45
def QbK(s:ByteArray)(i:Nat):Bool:=match s.data.toList[i]? with
 | none=>true
 | some b=>QJu b||(decide (0<i)&&QYe b)
def QEQ(s:ByteArray):Bool:=decide (1≤s.size)&&decide (s.size≤16)&&(List.range s.size).all (QbK s)
theorem QG3{s:ByteArray}{k:Nat}(hk:k<s.size)(h:QbK s k=false):QEQ s=false:=by
 unfold QEQ
 have:(List.range s.size).all (QbK s)=false:=by
  rw[Bool.eq_false_iff];intro e;have:=List.all_eq_true.1 e k (List.mem_range.2 hk);rw[h]at this;cases this
 rw[this];simp
theorem QWO{s:ByteArray}(h:∀i,i<s.size→QbK s i=true):QEQ s=(decide (1≤s.size)&&decide (s.size≤16)):=by
 unfold QEQ;have:(List.range s.size).all (QbK s)=true:=List.all_eq_true.2 fun i hi=>h i (List.mem_range.1 hi);rw[this];simp
theorem Qch{s:ByteArray}{k:Nat}(hk:k<s.size):∃b,s.data.toList[k]? = some b:=⟨_,List.getElem?_eq_getElem (by simpa using hk)⟩
theorem QQ7(s:ByteArray):Ct Pr 113 [.string s] .one [.bool] [] emp (fun r Bs=>r.1=QEQ s∧Bs=[]):=by
 refine QGr QTd fun B _=>?_;have fin:∀{x:Bool}{As:List HP},x=QEQ s→Ent B As (Ret B (ss:=[.bool]) (fun r Bs=>r.1=QEQ s∧Bs=[]) (x,())):=fun h=>QAa (l:=[]) (QAD ⟨h,rfl⟩);unfold QRg;refine Qex (by kernel_rfl) fun r=>?_;refine QfE (fun n As'=>∃k,n=s.size - k∧k≤s.size∧As'=[QTi r s k]∧∀i,i<k→QbK s i=true) s.size ⟨0,by omega,by omega,rfl,fun i hi=>by omega⟩ ?_;rintro n As' K ⟨k,rfl,hk,rfl,hall⟩ hK;refine Qf4 (fun hp=>?_) (fun hp=>?_)
 ·refine QBF rfl (fin ?_);rw[QWO (fun i hi=>hall i (by omega)),Bool.eq_iff_iff];simp only[Bool.and_eq_true,decide_eq_true_eq];omega
 obtain⟨b,hb⟩:=Qch hp
 have hok:QbK s k=(QJu b||(decide (0<k)&&QYe b)):=by simp only[QbK,hb]
 refine QBz rfl ?_;by_cases ha:b.toNat<128
 ·rw[Go.Cf.decode_ascii hb ha]
  (try dsimp only)
  have next:QbK s k=true→Ent B [QTi r s (k+1)] K:=fun h=>hK (s.size - (k+1)) _ (by omega) ⟨k+1,rfl,by omega,rfl,fun i hi=>by
   by_cases e:i=k
   ·subst e;exact h
   ·exact hall i (by omega)⟩
  refine QAS (fun(x:Bool) As'=>As'=[QTi r s (k+1)]∧x=QJu b) (fun K1 h1=>xif (fun e=>h1 _ _ ⟨rfl,?_⟩) (fun e=>h1 _ _ ⟨rfl,?_⟩)) ?_
  ·rw[e];symm;simp[QJu]at *;omega
  ·rw[Bool.eq_iff_iff];simp[QJu]at *;omega
  rintro x As2 ⟨rfl,rfl⟩;refine QAJ (xif (fun e=>next (by rw[hok,e];rfl)) (fun e=>QAJ (xif (fun e0=>?_) (fun e0=>?_))))
  ·refine xif (fun e1=>next ?_) (fun e1=>fin ?_)
   ·rw[hok];simp[QYe]at *;omega
   ·symm;refine QG3 hp ?_;rw[hok,e];simp[QYe]at *;omega
  ·refine QBF rfl (fin ?_);symm;refine QG3 hp ?_;rw[hok,e];simp at *;omega
 ·have h128:=Go.Cf.decode_other hb ha;have hbad:QEQ s=false:=QG3 hp (by rw[hok];simp[QJu,QYe]at *;omega);refine QAS (fun(x:Bool) As'=>x=false) (fun K1 h1=>xif (fun e=>h1 _ _ ?_) (fun e=>h1 _ _ ?_)) ?_
  ·simp at e;omega
  ·simp;omega
  rintro x As2 rfl;refine QAJ (QBF rfl (QAJ (xif (fun e0=>xif (fun e1=>?_) (fun e1=>fin hbad.symm)) (fun e0=>QBF rfl (fin hbad.symm)))));simp at e1;omega
end Go.Cx
namespace Go.Cx
open Go Go.Cf
set_option linter.unusedVariables false
set_option maxRecDepth 100000
variable {B:QBE}{As F:List HP}
theorem Qer{s t u v x:Sh}{body:(s.ty→t.ty→u.ty→v.ty→x.ty→WP)→WP}{rest:s.ty→t.ty→u.ty→v.ty→x.ty→WP}(J:s.ty→t.ty→u.ty→v.ty→x.ty→List HP→Prop)
  (h1:∀K:s.ty→t.ty→u.ty→v.ty→x.ty→WP,(∀a b c d e As',J a b c d e As'→Ent B As' (K a b c d e))→Ent B As (body K)) (h2:∀a b c d e As',J a b c d e As'→Ent B As' (rest a b c d e)):Ent B As (QBc [s,t,u,v,x] body rest):=h1 rest h2
structure RE where
 kind:Int
 time:Int
 tag:ByteArray
 val:Int
 id:Int
abbrev rec0:RE:=⟨0,0,ByteArray.empty,0,0⟩
abbrev RE.v(r:RE):Value:=.agg #[.I r.kind,.I r.time,.string r.tag,.I r.val,.I r.id]
abbrev RE.cells(r:RE):List Value:=[.I r.kind,.I r.time,.string r.tag,.I r.val,.I r.id]
def QB7(v lo hi:Int):Bool:=decide (v≥lo)&&decide (v≤hi)
def QRd(k:Int):Option (Bool×Bool×Bool×Int×Int):=
 if k=1 then some (true,true,false,-1099511627776,1099511627776)
 else if k=2 then some (true,true,false,1,4)
 else if k=3∨k=4 then some (false,true,false,1,1099511627776)
 else if k=5 then some (false,false,true,1,1099511627776)
 else if k=6 then some (false,true,true,0,255)
 else none
def QCo(r:RE):Int:=match QRd r.kind with
 | none=>28
 | some (tg,vl,ids,lo,hi)=>
  if ((!tg && !(r.tag.toList == ByteArray.empty.toList))||((!vl&&r.val != 0)||(!ids&&r.id != 0)))=true then 23
  else if (!QB7 r.time 0 1099511627776)=true then 3
  else if (tg && !QEQ r.tag)=true then 8
  else if ((vl && !QB7 r.val lo hi)||(ids && !QB7 r.id 1 1099511627776))=true then 3
  else 0
theorem QBg(v lo hi:Int):Ct Pr 54 [.I v,.I lo,.I hi] .one [.bool] [] emp (fun t Bs=>t.1=QB7 v lo hi∧Bs=[]):=by
 refine sp1 (QJI _ _ _) fun B _=>?_;unfold QJI mf;dsimp only;exact QAD ⟨rfl,rfl⟩
theorem QMg(r:RE):Ct Pr 55 [r.v] .one [.I] [] emp (fun t Bs=>t.1=QCo r∧Bs=[]):=by
 refine sp1 (QJ5 _ _ _ _ _) fun B _=>?_;have fin:∀{x:Int}{As:List HP},x=QCo r→Ent B As (Ret B (ss:=[.I]) (fun t Bs=>t.1=QCo r∧Bs=[]) (x,())):=fun h=>QAa (l:=[]) (QAD ⟨h,rfl⟩);unfold QJ5 mf;dsimp only;refine QAL fun b=>xgq ?_
 -- behind the kinds
 refine Qer (fun(tg:Bool) (lo hi:Int) (vl ids:Bool) As'=>QRd r.kind=some (tg,vl,ids,lo,hi)∧As'=[Blk b r.cells]) (fun K hK=>?_) ?_
 ·refine xif (fun h=>hK _ _ _ _ _ _ ⟨?_,rfl⟩) (fun h=>QAJ (xif (fun h2=>hK _ _ _ _ _ _ ⟨?_,rfl⟩) (fun h2=>QAS (fun(x:Bool) As'=>x=(r.kind == 3||r.kind == 4)∧As'=[Blk b r.cells]) (fun K1 hK1=>xif (fun h3=>hK1 _ _ ⟨?_,rfl⟩) (fun h3=>hK1 _ _ ⟨?_,rfl⟩)) ?_)))
  ·have:=eq_of_beq h;unfold QRd;rw[if_pos this]
  ·have:=eq_of_beq h2;unfold QRd;rw[if_neg (by simpa using h),if_pos this]
  ·rw[h3];rfl
  ·rw[h3];rfl
  ·rintro x _ ⟨rfl,rfl⟩
   have n1:r.kind≠1:=by simpa using h
   have n2:r.kind≠2:=by simpa using h2
   refine QAJ (xif (fun h3=>hK _ _ _ _ _ _ ⟨?_,rfl⟩) (fun h3=>?_))
   ·unfold QRd;rw[if_neg n1,if_neg n2,if_pos (by simpa using h3)]
   have n3:¬(r.kind=3∨r.kind=4):=by simpa using h3
   refine QAJ (xif (fun h5=>hK _ _ _ _ _ _ ⟨?_,rfl⟩) (fun h5=>xif (fun h6=>hK _ _ _ _ _ _ ⟨?_,rfl⟩) (fun h6=>fin ?_)))
   ·have:=eq_of_beq h5;unfold QRd;rw[if_neg n1,if_neg n2,if_neg n3,if_pos this]
   ·have:=eq_of_beq h6;unfold QRd;rw[if_neg n1,if_neg n2,if_neg n3,if_neg (by simpa using h5),if_pos this]
   ·unfold QCo QRd;rw[if_neg n1,if_neg n2,if_neg n3,if_neg (by simpa using h5),if_neg (by simpa using h6)]
 rintro tg lo hi vl ids _ ⟨hk,rfl⟩
 have hc:QCo r=if ((!tg && !(r.tag.toList == ByteArray.empty.toList))||((!vl&&r.val != 0)||(!ids&&r.id != 0)))=true then 23
  else if (!QB7 r.time 0 1099511627776)=true then 3
  else if (tg && !QEQ r.tag)=true then 8
  else if ((vl && !QB7 r.val lo hi)||(ids && !QB7 r.id 1 1099511627776))=true then 3
  else 0:=by unfold QCo;rw[hk]
 clear hk;refine QAS (fun(x:Bool) As'=>x=(!tg && !(r.tag.toList == ByteArray.empty.toList))∧As'=[Blk b r.cells]) (fun K hK=>xif (fun h=>QAE (h:=hK _ _ ⟨by rw[h];rfl,rfl⟩)) (fun h=>hK _ _ ⟨by rw[h];rfl,rfl⟩)) ?_;rintro _ _ ⟨rfl,rfl⟩;refine QAS (fun(x:Bool) As'=>x=((!tg && !(r.tag.toList == ByteArray.empty.toList))||((!vl&&r.val != 0)||(!ids&&r.id != 0)))∧As'=[Blk b r.cells]) (fun K hK=>xif (fun h=>hK _ _ ⟨by rw[h];rfl,rfl⟩) (fun h=>?_)) ?_
 ·refine QAS (fun(x:Bool) As'=>x=(!vl&&r.val != 0)∧As'=[Blk b r.cells]) (fun K hK=>xif (fun h=>QAE (h:=hK _ _ ⟨by rw[h];rfl,rfl⟩)) (fun h=>hK _ _ ⟨by rw[h];rfl,rfl⟩)) ?_;rintro _ _ ⟨rfl,rfl⟩;refine QAS (fun(x:Bool) As'=>x=((!vl&&r.val != 0)||(!ids&&r.id != 0))∧As'=[Blk b r.cells]) (fun K hK=>xif (fun h=>hK _ _ ⟨by rw[h];rfl,rfl⟩) (fun h1=>QAJ (xif (fun h=>QAE (h:=hK _ _ ⟨by rw[h1,h];rfl,rfl⟩)) (fun h=>hK _ _ ⟨by rw[h1,h];rfl,rfl⟩)))) ?_;rintro _ _ ⟨rfl,rfl⟩;exact hK _ _ ⟨by rw[h];rfl,rfl⟩
 rintro _ _ ⟨rfl,rfl⟩;refine xif (fun h=>fin (by rw[hc,if_pos h])) (fun h1=>xgq ?_);rw[if_neg (by rw[h1];simp)]at hc;refine QAR (QBg _ _ _) rdb ?_;rintro⟨x,_⟩ _ ⟨hx,rfl⟩;simp only at hx;subst hx;refine QAy (ca1 (xif (fun h=>fin (by rw[hc,if_pos h])) (fun h2=>?_)));rw[if_neg (by rw[h2];simp)]at hc;refine QAS (fun(x:Bool) As'=>x=(tg && !QEQ r.tag)∧As'=[Blk b r.cells]) (fun K hK=>xif (fun h=>xgq ?_) (fun h=>hK _ _ ⟨by rw[h];rfl,rfl⟩)) ?_
 ·refine QAR (QQ7 _) rdb ?_;rintro⟨x,_⟩ _ ⟨hx,rfl⟩;simp only at hx;subst hx;exact QAy (ca1 (hK _ _ ⟨by rw[h];rfl,rfl⟩))
 rintro _ _ ⟨rfl,rfl⟩;refine xif (fun h=>fin (by rw[hc,if_pos h])) (fun h3=>?_);rw[if_neg (by rw[h3];simp)]at hc;refine QAS (fun(x:Bool) As'=>x=(vl && !QB7 r.val lo hi)∧As'=[Blk b r.cells]) (fun K hK=>xif (fun h=>xgq ?_) (fun h=>hK _ _ ⟨by rw[h];rfl,rfl⟩)) ?_
 ·refine QAR (QBg _ _ _) rdb ?_;rintro⟨x,_⟩ _ ⟨hx,rfl⟩;simp only at hx;subst hx;exact QAy (ca1 (hK _ _ ⟨by rw[h];rfl,rfl⟩))
 rintro _ _ ⟨rfl,rfl⟩;refine QAS (fun(x:Bool) As'=>x=((vl && !QB7 r.val lo hi)||(ids && !QB7 r.id 1 1099511627776))∧As'=[Blk b r.cells]) (fun K hK=>xif (fun h=>hK _ _ ⟨by rw[h];rfl,rfl⟩) (fun h=>QAJ (xif (fun h4=>xgq ?_) (fun h4=>hK _ _ ⟨by rw[h,h4];rfl,rfl⟩)))) ?_
 ·refine QAR (QBg _ _ _) rdb ?_;rintro⟨x,_⟩ _ ⟨hx,rfl⟩;simp only at hx;subst hx;exact QAy (ca1 (hK _ _ ⟨by rw[h,h4];rfl,rfl⟩))
 rintro _ _ ⟨rfl,rfl⟩;exact xif (fun h=>fin (by rw[hc,if_pos h])) (fun h=>fin (by rw[hc,if_neg (by rw[h];simp)]))
def QGL(rest:List UInt8)(sh:Bool):Int×List UInt8×Bool:=if rest.length<8 then (0,rest,true) else (IntKind.i64.wrap ((beV (rest.take 8):Nat):Int),rest.drop 8,sh)
def QXL(r:RE)(rest:List UInt8)(sh:Bool):RE×Int:=if sh=true then (rec0,1) else if 0<rest.length then (rec0,2) else if QCo r≠0 then (rec0,QCo r) else (r,0)
def QU5(k:Int)(a:Int×List UInt8×Bool):RE×Int:=match a.2.1 with
 | []=>(rec0,1)
 | n::r2=>if r2.length<n.toNat then (rec0,1) else
  QXL ⟨k,a.1,⟨(r2.take n.toNat).toArray⟩,(QGL (r2.drop n.toNat) a.2.2).1,0⟩ (QGL (r2.drop n.toNat) a.2.2).2.1 (QGL (r2.drop n.toNat) a.2.2).2.2
def Qeo(k:Int)(a:Int×List UInt8×Bool):RE×Int:=
 if k=1∨k=2 then QU5 k a
 else if k=5 then QXL ⟨k,a.1,ByteArray.empty,0,(QGL a.2.1 a.2.2).1⟩ (QGL a.2.1 a.2.2).2.1 (QGL a.2.1 a.2.2).2.2
 else if k=6 then QXL ⟨k,a.1,ByteArray.empty,(QGL (QGL a.2.1 a.2.2).2.1 (QGL a.2.1 a.2.2).2.2).1,(QGL a.2.1 a.2.2).1⟩ (QGL (QGL a.2.1 a.2.2).2.1 (QGL a.2.1 a.2.2).2.2).2.1 (QGL (QGL a.2.1 a.2.2).2.1 (QGL a.2.1 a.2.2).2.2).2.2
 else QXL ⟨k,a.1,ByteArray.empty,(QGL a.2.1 a.2.2).1,0⟩ (QGL a.2.1 a.2.2).2.1 (QGL a.2.1 a.2.2).2.2
def QE6(bs:List UInt8):RE×Int:=match bs with
 | []=>(rec0,1)
 | k::rest=>if QB7 (k.toNat:Int) 1 6=true then Qeo k.toNat (QGL rest false) else (rec0,28)
theorem QU3{k:UInt8}{rest:List UInt8}(h:QB7 (k.toNat:Int) 1 6=false):QE6 (k::rest)=(rec0,28):=by
 show (if QB7 (k.toNat:Int) 1 6=true then _ else _)=_;rw[if_neg (by rw[h];simp)]
theorem QXy{k:UInt8}{rest:List UInt8}(h:QB7 (k.toNat:Int) 1 6=true):QE6 (k::rest)=Qeo k.toNat (QGL rest false):=by
 show (if QB7 (k.toNat:Int) 1 6=true then _ else _)=_;rw[if_pos h]
theorem QUv(rest:List UInt8)(sh:Bool):(QGL rest sh).2.1.length≤rest.length:=by
 unfold QGL;split<;>simp
theorem QDI(b2 b3:Nat)(s:Sl)(rest:List UInt8)(sh:Bool)(hc:s.n≤s.c)(hm:rest.length≤140737488351232) :
  Ct Pr 53 [.pointer (some ⟨b2,0,none⟩),.pointer (some ⟨b3,0,none⟩)] .one [.I] [Blk b2 [s.v],Blk b3 [.bool sh]] (RAr U8 s rest)
   (fun t Bs=>t.1=(QGL rest sh).1∧∃s':Sl,Bs=[Blk b2 [s'.v],Blk b3 [.bool (QGL rest sh).2.2]]∧s'.n≤s'.c∧∀g,RAr U8 s rest g→RAr U8 s' (QGL rest sh).2.1 g):=by
 refine sp1 (QJ6 _ _) fun B hr=>?_;have hn:=hr.1;unfold QJ6 mf;dsimp only;refine xgq (QAA (fun h=>?_) (fun h=>?_))
 ·have e:QGL rest sh=(0,rest,true):=by unfold QGL;rw[if_pos (by omega)]
  refine QSP (h:=QAD ⟨by rw[e],s,by rw[e],hc,fun g hg=>by rw[e];exact hg⟩)
 have h8:8≤rest.length:=by omega
 have e:QGL rest sh=(IntKind.i64.wrap ((beV (rest.take 8):Nat):Int),rest.drop 8,sh):=by unfold QGL;rw[if_neg (by omega)]
 refine QAE (h:=QEh (by omega) (by omega) (by omega) (by omega) ?_);simp only[Int.toNat_natCast];have hcut:=hr.cut 0 8 s.c (by omega) (by omega) h8;rw[List.drop_zero]at hcut;have fc:Fro B (s.cut (Int.toNat 0) (Int.toNat 8) s.c 1) U8 (rest.take 8):=⟨hcut⟩
 have hq:(rest.take 8).length=8:=by simp;omega
 have hsn:=fc.rd.1;refine QBb (fun(n:Nat) (v:Int) (i:Int) As=>∃k:Nat,i=(k:Int)∧v=((beV ((rest.take 8).take k):Nat):Int)∧n=8 - k∧k≤8∧As=[Blk b2 [s.v],Blk b3 [.bool sh]]) 8 ⟨0,rfl,rfl,rfl,by omega,rfl⟩ ?_;rintro n _ _ _ K ⟨k,rfl,rfl,rfl,hk,rfl⟩ hK;refine QAA (fun h=>?_) (fun h=>?_)
 ·have hk8:k<8:=by omega
  have hx:=List.getElem?_eq_getElem (l:=rest.take 8) (i:=k) (by omega);refine QAH (h1:=by omega) (h:=fun _ _=>?_);refine QAN hx (h:=QA6 (by decide) ?_);rw[QfW _ _ (QJH hq hk8),QAF k (by omega)];exact hK (8 - (k+1)) _ _ _ (by omega) ⟨k+1,rfl,by rw[QKp hx],rfl,by omega,rfl⟩
 ·have hk8:k=8:=by omega
  subst hk8;rw[List.take_of_length_le (l:=rest.take 8) (by omega)];refine QAE (h:=QEh (by omega) (by omega) (by omega) (by omega) (xsq ?_));rw[show (8:Int).toNat=8 from rfl,show ((s.n:Int)).toNat=s.n by omega,show ((s.c:Int)).toNat=s.c by omega];refine QAD ⟨by rw[e],s.cut 8 s.n s.c 1,by rw[e],by show s.n - 8≤s.c - 8;omega,fun g hg=>?_⟩;have:=hg.cut 8 s.n s.c (by omega) hc (by omega);rw[List.take_of_length_le (by omega)]at this;rw[e];exact this
theorem Qfx{P:Program}{t d e:TypeId}{s:Sl}{xs:List UInt8}{K:ByteArray→WP}[r:RdA B As s U8 xs]{a:Addr}(hp:s.p=some a)(hs:P.underlying t=some (.slice e))(he:P.underlying e=some (.int .u8))(hd:P.underlying d=some .string)(h:Ent B As (K ⟨xs.toArray⟩)) :
  Ent B As (QKt P (convert t d s.v) .str K):=by
 by_cases h0:0<xs.length
 ·exact QhD h0 hs he hd h
 ·intro w hw;have hn:=(r.rd w hw).1;obtain rfl:xs=[]:=List.eq_nil_of_length_eq_zero (by omega);obtain⟨p,n,c⟩:=s;simp only at hp hn;subst hp;obtain rfl:n=0:=hn.symm;exact⟨⟨#[]⟩,w,run_convert_bytes_back w t d e a c [] hs he hd fun j hj=>absurd hj (Nat.not_lt_zero _),h w hw⟩
def QPd(bs:List UInt8):Tup [.I,.I,.str,.I,.I,.I]→List HP→Prop:=fun t Bs=>t.1=(QE6 bs).1.kind∧t.2.1=(QE6 bs).1.time∧t.2.2.1=(QE6 bs).1.tag∧t.2.2.2.1=(QE6 bs).1.val∧t.2.2.2.2.1=(QE6 bs).1.id∧t.2.2.2.2.2.1=(QE6 bs).2∧Bs=[]
theorem QXn(b:Sl)(bs:List UInt8)(hc:b.n≤b.c)(hm:bs.length≤140737488351232):Ct Pr 20 [b.v] (.tup [some 5,none]) [.I,.I,.str,.I,.I,.I] [] (RAr U8 b bs) (QPd bs):=by
 refine QAg (ss:=[.I,.I,.str,.I,.I,.I]) QRL fun B hr=>?_;have fb:Fro B b U8 bs:=⟨hr⟩;have hn:=hr.1;have fin:∀{r:RE}{e:Int}{As:List HP},QE6 bs=(r,e)→Ent B As (Ret B (QPd bs) (r.kind,r.time,r.tag,r.val,r.id,e,())):=fun h=>QAa (l:=[]) (QAD (by unfold QPd;rw[h];exact⟨rfl,rfl,rfl,rfl,rfl,rfl,rfl⟩));show Ent B [] (QJv b fun k tm tg v i e=>Ret B (QPd bs) (k,tm,tg,v,i,e,()));unfold QJv;refine QAL fun b1=>xif (fun h=>?_) (fun h=>?_)
 ·have e:bs=[]:=List.eq_nil_of_length_eq_zero (by have:=eq_of_beq h;omega);iterate 5 (refine xsq ?_)
  iterate 5 (refine xgq ?_)
  exact fin (r:=rec0) (by rw[e];rfl)
 cases bs with
 | nil=>exact absurd h (by rw[←hn];simp)
 | cons k rest=>
 have hl:rest.length+1=b.n:=by simpa using hn
 refine QEh (by omega) (by omega) (by omega) (by omega) ?_;rw[show (1:Int).toNat=1 from rfl,show ((b.n:Int)).toNat=b.n by omega,show ((b.c:Int)).toNat=b.c by omega];have hcut:=hr.cut 1 b.n b.c (by omega) hc (by simp;omega);rw[List.take_of_length_le (by simp;omega),List.drop_succ_cons,List.drop_zero]at hcut;generalize hs1:b.cut 1 b.n b.c 1=s1
 have hs1c:s1.n≤s1.c:=by rw[←hs1];show b.n - 1≤b.c - 1;omega
 have hr1:RAr U8 s1 rest (frz B.W B.h0):=by rw[←hs1];exact hcut
 refine QAL fun b2=>QAL fun b3=>xsq (xsq ?_);refine QZ4 (E:=U8) (xs:=k::rest) (s:=b) (h0:=by decide) (h1:=by simp) (h:=fun y hy=>?_)
 obtain rfl:y=k:=by simpa using hy.symm
 refine QAN (E:=U8) (xs:=y::rest) (x:=y) rfl (h:=?_);refine QAL fun b4=>?_;iterate 5 (refine xsq ?_)
 have hy8:y.toNat<256:=by have:=y.toNat_lt;omega
 rw[QAB _ (by omega) (by omega)];refine xgq ?_;refine QAR (QBg _ _ _) rdb ?_;rintro⟨x,_⟩ _ ⟨hx,rfl⟩;simp only at hx;subst hx;refine QAy (ca1 (xif (fun h=>?_) (fun h=>?_)))
 ·iterate 5 (refine xsq ?_)
  iterate 5 (refine xgq ?_)
  exact fin (r:=rec0) (QU3 (by simpa using h))
 have hg:=QXy (k:=y) (rest:=rest) (by simpa using h);have fr1:Fro B s1 U8 rest:=⟨hr1⟩;have hlen:=QUv rest false;refine xcl (QDI b2 b3 s1 rest false hs1c (by omega)) rdb ?_;rintro⟨r,_⟩ _ ⟨hr',s2,rfl,hs2c,hs2r⟩;simp only at hr';subst hr'
 generalize ha:QGL rest false=a at *
 have hr2:=hs2r _ hr1;have fr2:Fro B s2 U8 a.2.1:=⟨hr2⟩;have hn2:=hr2.1;refine QBM (ca1 (xsq (xgq ?_)));refine QAS (fun(x:Bool) As'=>x=((y.toNat:Int) == 1||(y.toNat:Int) == 2)∧As'=[Blk b2 [s2.v],Blk b3 [.bool a.2.2],Blk b4 (RE.cells ⟨y.toNat,a.1,ByteArray.empty,0,0⟩),Blk b1 rec0.cells]) (fun K1 hK1=>xif (fun h=>hK1 _ _ ⟨by rw[h];rfl,rfl⟩) (fun h=>hK1 _ _ ⟨by rw[h];rfl,rfl⟩)) ?_;rintro _ _ ⟨rfl,rfl⟩;refine QBu (fun As'=>∃(r:RE) (s':Sl) (rest':List UInt8) (sh':Bool),QE6 (y::rest)=QXL r rest' sh'∧s'.n≤s'.c∧RAr U8 s' rest' (frz B.W B.h0)∧As'=[Blk b2 [s'.v],Blk b3 [.bool sh'],Blk b4 r.cells,Blk b1 rec0.cells]) (fun K1 hK1=>?_) ?_
 ·refine xif (fun hx=>?_) (fun hx=>?_)
  ·have hk:(y.toNat:Int)=1∨(y.toNat:Int)=2:=by simpa using hx
   rw[Qeo,if_pos hk]at hg
   refine QAO (QAS (fun(c:Bool) As'=>(match a.2.1 with
    | []=>c=true
    | n::r2=>c=decide (r2.length<n.toNat))∧As'=[Blk b2 [s2.v],Blk b3 [.bool a.2.2],Blk b4 (RE.cells ⟨y.toNat,a.1,ByteArray.empty,0,0⟩),Blk b1 rec0.cells]) (fun K2 hK2=>?_) ?_)
   ·refine xgq (xif (fun h0=>hK2 _ _ ⟨?_,rfl⟩) (fun h0=>?_))
    ·have:a.2.1=[]:=List.eq_nil_of_length_eq_zero (by have:=eq_of_beq h0;omega);rw[this]
    ·cases he:a.2.1 with
     | nil=>rw[he]at hn2;exact absurd h0 (by rw[←hn2];simp)
     | cons n r2=>
      rw[he]at fr2 hn2
      have hl2:r2.length+1=s2.n:=by simpa using hn2
      have hn8:n.toNat<256:=by have:=n.toNat_lt;omega
      refine xgq (xgq ?_);refine QZ4 (E:=U8) (xs:=n::r2) (s:=s2) (h0:=by decide) (h1:=by simp) (h:=fun u hu=>?_)
      obtain rfl:u=n:=by simpa using hu.symm
      refine QAN (E:=U8) (xs:=u::r2) (x:=u) rfl (h:=hK2 _ _ ⟨?_,rfl⟩);rw[he];show _=decide (r2.length<u.toNat);rw[QAB (u.toNat:Int) (by omega) (by omega),QAB _ (by omega) (by omega),Bool.eq_iff_iff];simp only[decide_eq_true_eq];omega
   ·rintro c _ ⟨hc1,rfl⟩;refine xif (fun h0=>?_) (fun h0=>?_)
    ·iterate 5 (refine xsq ?_)
     iterate 5 (refine xgq ?_)
     refine fin (r:=rec0) ?_;rw[hg];unfold QU5
     cases he:a.2.1 with
     | nil=>rfl
     | cons n r2=>
      rw[he]at hc1;have:decide (r2.length<n.toNat)=true:=hc1.symm.trans h0;show (if _ then _ else _)=_;rw[if_pos (of_decide_eq_true this)]
    ·cases he:a.2.1 with
     | nil=>
      rw[he]at hc1;have hc1:c=true:=hc1;rw[hc1]at h0;cases h0
     | cons n r2=>
      rw[he]at hc1 fr2 hn2 hr2;have hc1:c=decide (r2.length<n.toNat):=hc1
      have hge:n.toNat≤r2.length:=by
       have:¬r2.length<n.toNat:=of_decide_eq_false (hc1.symm.trans h0);omega
      have hg2:QE6 (y::rest)=QXL ⟨y.toNat,a.1,⟨(r2.take n.toNat).toArray⟩,(QGL (r2.drop n.toNat) a.2.2).1,0⟩ (QGL (r2.drop n.toNat) a.2.2).2.1 (QGL (r2.drop n.toNat) a.2.2).2.2:=by
       rw[hg];unfold QU5;rw[he];show (if _ then _ else _)=_;rw[if_neg (by omega)]
      have hl2:r2.length+1=s2.n:=by simpa using hn2
      have hn8:n.toNat<256:=by have:=n.toNat_lt;omega
      have hrest:r2.length≤rest.length:=by rw[he]at hlen;simp at hlen;omega
      refine xgq ?_;refine QZ4 (E:=U8) (xs:=n::r2) (s:=s2) (h0:=by decide) (h1:=by simp) (h:=fun u hu=>?_)
      obtain rfl:u=n:=by simpa using hu.symm
      refine QAN (E:=U8) (xs:=u::r2) (x:=u) rfl (h:=QAO (xgq ?_));rw[QAB (u.toNat:Int) (by omega) (by omega),QAB (1+(u.toNat:Int)) (by omega) (by omega),show 1+(u.toNat:Int)=((u.toNat+1:Nat):Int) by omega];refine QEh (by omega) (by omega) (by omega) (by omega) (QAE (h:=QEh (by omega) (by omega) (by omega) (by omega) ?_));simp only[Int.toNat_natCast];have hcutA:=hr2.cut 1 (u.toNat+1) s2.c (by omega) (by omega) (by simp;omega);have hcutB:=hr2.cut (u.toNat+1) s2.n s2.c (by omega) (by omega) (by simp;omega)
      have eA:((u::r2).take (u.toNat+1)).drop 1=r2.take u.toNat:=by simp
      have eB:((u::r2).take s2.n).drop (u.toNat+1)=r2.drop u.toNat:=by
       rw[List.take_of_length_le (by simp;omega)];simp
      rw[eA]at hcutA;rw[eB]at hcutB;have fA:Fro B (s2.cut (Int.toNat 1) (u.toNat+1) s2.c 1) U8 (r2.take u.toNat):=⟨hcutA⟩
      obtain⟨ad,had⟩:∃ad,(s2.cut (Int.toNat 1) (u.toNat+1) s2.c 1).p=some ad:=by
       obtain⟨_,_,hq⟩:=hr2;obtain⟨bb,oo,_,_,_,_,hp,_⟩:=hq (by omega);unfold Sl.cut;rw[hp];split
       ·exact⟨_,rfl⟩
       ·exact⟨_,rfl⟩
      refine Qfx (e:=5) had (by kernel_rfl) (by kernel_rfl) (by kernel_rfl) ?_;refine QC6 (h:=xsq (QC6 (h:=xsq ?_)));have fB:Fro B (s2.cut (u.toNat+1) s2.n s2.c 1) U8 (r2.drop u.toNat):=⟨hcutB⟩
      have hcB:(s2.cut (u.toNat+1) s2.n s2.c 1).n≤(s2.cut (u.toNat+1) s2.n s2.c 1).c:=by show s2.n - _≤s2.c - _;omega
      refine xcl (QDI b2 b3 (s2.cut (u.toNat+1) s2.n s2.c 1) (r2.drop u.toNat) a.2.2 hcB (by simp;omega)) rdb ?_;rintro⟨r,_⟩ _ ⟨hr',s3,rfl,hs3c,hs3r⟩;simp only at hr';subst hr';refine QBM (ca1 (xsq ?_));exact hK1 _ ⟨_,s3,_,_,hg2,hs3c,hs3r _ hcutB,rfl⟩
  ·have hk:¬((y.toNat:Int)=1∨(y.toNat:Int)=2):=by simpa using hx
   rw[Qeo,if_neg hk]at hg;have hlen2:=QUv a.2.1 a.2.2;refine QAJ (xif (fun h5=>?_) (fun h5=>?_))
   ·rw[if_pos (eq_of_beq h5)]at hg;refine xcl (QDI b2 b3 s2 a.2.1 a.2.2 hs2c (by omega)) rdb ?_;rintro⟨r,_⟩ _ ⟨hr',s3,rfl,hs3c,hs3r⟩;simp only at hr';subst hr';refine QBM (ca1 (xsq ?_));exact hK1 _ ⟨_,s3,_,_,hg,hs3c,hs3r _ hr2,rfl⟩
   ·have n5:¬(y.toNat:Int)=5:=by simpa using h5
    rw[if_neg n5]at hg;refine QAJ (xif (fun h6=>?_) (fun h6=>?_))
    ·rw[if_pos (eq_of_beq h6)]at hg;refine xcl (QDI b2 b3 s2 a.2.1 a.2.2 hs2c (by omega)) rdb ?_;rintro⟨r,_⟩ _ ⟨hr',s3,rfl,hs3c,hs3r⟩;simp only at hr';subst hr';refine QBM (ca1 (xsq ?_));have hr3:=hs3r _ hr2;have fr3:Fro B s3 U8 (QGL a.2.1 a.2.2).2.1:=⟨hr3⟩;refine xcl (QDI b2 b3 s3 (QGL a.2.1 a.2.2).2.1 (QGL a.2.1 a.2.2).2.2 hs3c (by omega)) rdb ?_;rintro⟨r,_⟩ _ ⟨hr',s4,rfl,hs4c,hs4r⟩;simp only at hr';subst hr';refine QBM (ca1 (xsq ?_));exact hK1 _ ⟨_,s4,_,_,hg,hs4c,hs4r _ hr3,rfl⟩
    ·rw[if_neg (by simpa using h6)]at hg;refine xcl (QDI b2 b3 s2 a.2.1 a.2.2 hs2c (by omega)) rdb ?_;rintro⟨r,_⟩ _ ⟨hr',s3,rfl,hs3c,hs3r⟩;simp only at hr';subst hr';refine QBM (ca1 (xsq ?_));exact hK1 _ ⟨_,s3,_,_,hg,hs3c,hs3r _ hr2,rfl⟩
 rintro _ ⟨r,s3,rest3,sh3,hf,hs3c,hr3,rfl⟩;rw[QXL]at hf;have hn3:=hr3.1;refine xgq (xif (fun h0=>?_) (fun h0=>?_))
 ·iterate 5 (refine xsq ?_)
  iterate 5 (refine xgq ?_)
  exact fin (r:=rec0) (by rw[hf,if_pos h0])
 rw[if_neg (by rw[h0];simp)]at hf;refine xgq (QAA (fun h0=>?_) (fun h0=>?_))
 ·iterate 5 (refine xsq ?_)
  iterate 5 (refine xgq ?_)
  exact fin (r:=rec0) (by rw[hf,if_pos (by omega)])
 rw[if_neg (by omega)]at hf;iterate 5 (refine xgq ?_)
 refine QAR (QMg r) rdb ?_;rintro⟨x,_⟩ _ ⟨hx,rfl⟩;simp only at hx;subst hx;refine QAy (ca1 (xif (fun h0=>?_) (fun h0=>?_)))
 ·iterate 5 (refine xsq ?_)
  iterate 5 (refine xgq ?_)
  exact fin (r:=rec0) (by rw[hf,if_pos (by simpa using h0)])
 ·iterate 5 (refine xgq ?_)
  iterate 5 (refine xsq ?_)
  iterate 5 (refine xgq ?_)
  exact fin (r:=r) (by rw[hf,if_neg (by simpa using h0)])
structure XM where
 L:List KY
 last:Int
abbrev xm0:XM:=⟨[],-1⟩
abbrev QVW(x:XM)(t n:Int):XM:=⟨QK0 (t,n) x.L,if n>x.last then n else x.last⟩
def QRB(l:LM)(x:XM)(n:Int):XM:=if (QE6 (QH6 l n).1).2=0 then QVW x (QE6 (QH6 l n).1).1.time n else x
def QDW(l:LM)(k:Nat):XM:=(List.range k).foldl (fun x (i:Nat)=>QRB l x (l.lo+i)) xm0
def QIY(l:LM):XM:=QDW l (l.next - l.lo).toNat
theorem QH0(l:LM)(k:Nat):QDW l (k+1)=QRB l (QDW l k) (l.lo+k):=by
 unfold QDW;rw[List.range_succ,List.foldl_append];rfl
theorem QNr(l:LM):∀k:Nat,(QDW l k).L.length≤k
 | 0=>by simp[QDW]
 | k+1=>by
  have ih:=QNr l k;rw[QH0];unfold QRB;split
  ·unfold QVW
   (try simp only)
   by_cases hm:((QE6 (QH6 l (l.lo+k)).1).1.time,(l.lo+k:Int))∈(QDW l k).L
   ·rw[QJU hm];omega
   ·rw[QYj hm];omega
  ·omega
def QBt(x d l:Option Addr)(m:XM):HP:=fun h=>∃b q,x=some ⟨b,0,none⟩∧QBl [Blk b [.pointer d,.pointer l,.pointer q,.I m.last],QEN q m.L] h
theorem QcE(i:Nat){x d l:Option Addr}{m:XM}{F:List HP}[p:Pick i As (QBt x d l m) F]{φ:WP}
  (k:∀b q,x=some ⟨b,0,none⟩→Ent B (Blk b [.pointer d,.pointer l,.pointer q,.I m.last]::QEN q m.L::F) φ):Ent B As φ:=by
 refine Ent.perm p.perm ?_;rintro w ⟨g,⟨a,c,⟨b,q,hq,pa⟩,pc,d,sa,sc⟩,hm,hu⟩;exact k b q hq w ⟨g,(QAj [_,_] F).2 ⟨a,c,pa,pc,d,sa,sc⟩,hm,hu⟩
theorem QH1(b:Nat)(q d l:Option Addr)(m:XM){G:List HP}[p:Split [Blk b [.pointer d,.pointer l,.pointer q,.I m.last],QEN q m.L] As G]{φ:WP}
  (k:Ent B (QBt (some ⟨b,0,none⟩) d l m::G) φ):Ent B As φ:=
 QBQ [Blk b [.pointer d,.pointer l,.pointer q,.I m.last],QEN q m.L] (QBt (some ⟨b,0,none⟩) d l m) (fun g hg=>⟨b,q,rfl,hg⟩) k
theorem QRx(x d l:Option Addr)(m:XM)(t n:Int)(hL:m.L.length≤4000000000000000):Ct Pr 188 [.pointer x,.I t,.I n] (.tup []) [] [QBt x d l m] emp (fun _ Bs=>Bs=[QBt x d l (QVW m t n)]):=by
 refine sp0 (QG1 _ _ _) fun B _=>?_;unfold QG1 mf;dsimp only;refine QcE 0 fun b q hx=>?_;subst hx;refine QAQ (xgq ?_);refine xcl (Qb1 q m.L (t,n) n hL) rdb ?_;rintro⟨c,_⟩ _ rfl;refine QA5 (ca1 (QAQ (xgq (QAQ (xsq ?_)))));exact QH1 b q d l (QVW m t n) (QAD rfl)
theorem QXF(b:Nat)(d l q:Option Addr)(n:Int):Ct Pr 187 [.pointer (some ⟨b,0,none⟩)] (.tup []) [] [Blk b [.pointer d,.pointer l,.pointer q,.I n]] emp (fun _ Bs=>Bs=[QBt (some ⟨b,0,none⟩) d l xm0]):=by
 refine sp0 (QFR _) fun B _=>?_;unfold QFR mf;dsimp only;refine xcl Qac rdb ?_;rintro⟨q',e,_⟩ _ ⟨_,rfl⟩;refine QA5 (ca2 (QAQ (xsq (QAQ (xsq ?_)))));exact QH1 b q' d l xm0 (QAD rfl)
theorem QWu(p:Option Addr)(m:DM)(nm:ByteArray):Ct Pr 186 [.pointer p,.string nm] .one [.I] [QAC p m] emp (fun t Bs=>t.1=(QAt m nm).2∧Bs=[QAC p (QAt m nm).1]):=by
 refine sp1 (QNy _ _) fun B _=>?_;unfold QNy mf;dsimp only;refine xcl (QF8 p m nm) rdb ?_;rintro⟨t,_⟩ _ ⟨ht,rfl⟩;simp only at ht;subst ht;unfold QAt;refine QA5 (ca1 (xif (fun h=>?_) (fun h=>?_)))
 ·have h:¬(QAV m nm).2=6:=by simpa using h
  rw[if_neg h];exact QAD ⟨rfl,rfl⟩
 ·have h:(QAV m nm).2=6:=by simpa using h
  rw[if_pos h];exact QAD ⟨rfl,rfl⟩
theorem LInv.lo{l:LM}(h:LInv l):0≤l.lo∧l.lo≤4000000000000:=by
 unfold LM.lo
 cases e:l.segs with
 | nil=>have:=h.first;simp only;omega
 | cons s r=>have:=(h.segs s (by rw[e];simp)).2.1;simp only;omega
theorem QKx{l:LM}(hi:LInv l)(n:Int):(QH6 l n).1.length≤1024:=by
 unfold QH6;split
 ·simp
 ·split
  ·rename_i s hs
   have hm:=(hi.segs s (List.mem_of_find?_eq_some hs)).2.2.2.2
   cases e:s.ps[(n - s.first).toNat]? with
   | none=>simp
   | some p=>exact hm p (List.mem_of_getElem? e)
  ·simp
theorem Qgq{s:Sl}{xs:List UInt8}{F:List HP}{K:Int→Int→ByteArray→Int→Int→Int→WP}(hl:xs.length≤1000000)(h:Ent B (Ar U8 s xs::F) (K (QE6 xs).1.kind (QE6 xs).1.time (QE6 xs).1.tag (QE6 xs).1.val (QE6 xs).1.id (QE6 xs).2)) :
  Ent B (Ar U8 s xs::F) (QAb Pr 20 [s.v] (.tup [some 5,none]) [.I,.I,.str,.I,.I,.I] K):=by
 refine QCm (E:=U8) (xs:=xs) s fun _ hc=>?_;refine QAR (QXn s xs hc (by omega)) rdb ?_;rintro⟨k,t,g,v,i,e,_⟩ _ ⟨h1,h2,h3,h4,h5,h6,rfl⟩;simp only at h1 h2 h3 h4 h5 h6;subst h1 h2 h3 h4 h5 h6;exact h
abbrev idxNew:ByteArray:=⟨#[105,100,120,46,110,101,119]⟩
theorem QV8(d l:Option Addr)(m:DM)(lm:LM):Ct Pr 119 [.pointer d,.pointer l] (.tup [none,none]) [.ptr,.I] [QAC d m,QAY l d lm] emp
  (fun t Bs=>t.2.1=(QAt m idxNew).2∧((QAt m idxNew).2≠0→t.1=none∧Bs=[QAC d (QAt m idxNew).1,QAY l d lm]) ∧
   ((QAt m idxNew).2=0→t.1≠none∧Bs=[QAC d (QAt m idxNew).1,QAY l d lm,QBt t.1 d l (QIY lm)])):=by
 refine sp2 (QNm _ _) fun B _=>?_;unfold QNm mf;dsimp only;refine xcl (QWu d m idxNew) rdb ?_;rintro⟨e,_⟩ _ ⟨he,rfl⟩;simp only at he;subst he;refine QA5 (ca1 (xif (fun h=>?_) (fun h=>?_)))
 ·have h':(QAt m idxNew).2≠0:=by simpa using h
  exact QAD ⟨rfl,fun _=>⟨rfl,rfl⟩,fun e=>absurd e h'⟩
 have h':(QAt m idxNew).2=0:=by simpa using h
 refine QAL fun b=>?_;refine xcl (QXF b d l none 0) rdb ?_;rintro _ _ rfl;refine QA5 (ca0 ?_);refine xcl (QFf l d lm) rdb ?_;rintro⟨t,_⟩ _ ⟨ht,rfl⟩;simp only at ht;subst ht;refine QA5 (ca1 ?_);refine QBx 0 (P1:=QAY l d lm) (fun g hg=>hg.1) fun hi=>?_;have hnx:=hi.next;refine QAK [QAC d (QAt m idxNew).1,QAY l d lm,QBt (some ⟨b,0,none⟩) d l xm0] ?_;have hlo:=hi.lo;refine QBP (fun n (x:Int) As'=>∃k:Nat,x=lm.lo+k∧n=(lm.next - lm.lo).toNat - k∧k≤(lm.next - lm.lo).toNat∧As'=[QAC d (QAt m idxNew).1,QAY l d lm,QBt (some ⟨b,0,none⟩) d l (QDW lm k)]) (lm.next - lm.lo).toNat ⟨0,by simp,rfl,by omega,rfl⟩ ?_;rintro n x As' K ⟨k,rfl,rfl,hk,rfl⟩ hK;refine xcl (QFE l d lm) rdb ?_;rintro⟨t,_⟩ _ ⟨ht,rfl⟩;simp only at ht;subst ht;refine QA5 (ca1 (QAA (fun h1=>?_) (fun h1=>?_)))
 ·refine xcl (QGU l d lm (lm.lo+k) ⟨by omega,by omega⟩) rdb ?_;rintro⟨s,e,_⟩ _ ⟨_,rfl⟩;refine QBM (ca2 (QGD 1 (Qgq (by have:=QKx hi (lm.lo+k);omega) (QAL fun b1=>?_))));iterate 5 (refine xsq ?_)
  refine QBu (fun As'=>As'=[QAC d (QAt m idxNew).1,QAY l d lm,QBt (some ⟨b,0,none⟩) d l (QDW lm (k+1))]) (fun K1 hK1=>?_) ?_
  ·rw[QH0]at hK1;refine xif (fun h2=>?_) (fun h2=>?_)
   ·have e0:QRB lm (QDW lm k) (lm.lo+k)=QVW (QDW lm k) (QE6 (QH6 lm (lm.lo+k)).1).1.time (lm.lo+k):=by unfold QRB;rw[if_pos (eq_of_beq h2)]
    rw[e0]at hK1;refine xgq ?_;have hlen:=QNr lm k;refine xcl (QRx (some ⟨b,0,none⟩) d l (QDW lm k) _ _ (by omega)) rdb ?_;rintro _ _ rfl;exact QA5 (ca0 (QKd (hK1 _ rfl)))
   ·have e0:QRB lm (QDW lm k) (lm.lo+k)=QDW lm k:=by unfold QRB;rw[if_neg (by simpa using h2)]
    rw[e0]at hK1;exact QKd (hK1 _ rfl)
  ·rintro _ rfl;rw[QAB _ (by omega) (by omega)];exact hK ((lm.next - lm.lo).toNat - (k+1)) _ _ (by omega) ⟨k+1,by omega,rfl,by omega,rfl⟩
 ·have e:k=(lm.next - lm.lo).toNat:=by omega
  refine QAK [QAC d (QAt m idxNew).1,QAY l d lm,QBt (some ⟨b,0,none⟩) d l (QDW lm k)] (QAD ⟨h'.symm,fun e=>absurd h' e,fun _=>⟨by simp,?_⟩⟩);rw[e];rfl
def Qg7(floor:Int)(d:List KY):List Int:=(d.filter fun k=>decide (k.2≥floor)).map (·.2)
def QhI(m:XM)(a b floor:Int):List Int:=Qg7 floor (Qg5 (a,0) (b,0) m.L)
end Go.Cx
namespace Go.Cx
open Go Go.Cf
set_option linter.unusedVariables false
set_option maxRecDepth 100000
theorem QdM{r:RE}{rest:List UInt8}{sh:Bool}(h:(QXL r rest sh).2=0):(QXL r rest sh).1=r∧QCo r=0:=by
 unfold QXL at h⊢;split at h
 ·cases h
 ·rename_i h1
  rw[if_neg h1];split at h
  ·cases h
  ·rename_i h2
   rw[if_neg h2];split at h
   ·rename_i h3;exact absurd h h3
   ·rename_i h3
    rw[if_neg h3];exact⟨rfl,by simpa using h3⟩
theorem QNU{bs:List UInt8}(h:(QE6 bs).2=0):QCo (QE6 bs).1=0:=by
 have fm:∀{r:RE}{rest:List UInt8}{sh:Bool},(QXL r rest sh).2=0→QCo (QXL r rest sh).1=0:=fun h=>by
  obtain⟨h1,h2⟩:=QdM h;rw[h1];exact h2
 cases bs with
 | nil=>cases h
 | cons k rest=>
  cases hw:QB7 (k.toNat:Int) 1 6 with
  | false=>rw[QU3 hw]at h;cases h
  | true=>
   rw[QXy hw]at h⊢
   generalize QGL rest false=a at *
   unfold Qeo at h⊢;split at h
   ·rename_i h1
    rw[if_pos h1];unfold QU5 at h⊢
    cases he:a.2.1 with
    | nil=>rw[he]at h;cases h
    | cons n r2=>
     rw[he]at h;simp only at h⊢;split at h
     ·cases h
     ·rename_i h2
      rw[if_neg h2];exact fm h
   ·rename_i h1
    rw[if_neg h1];split at h
    ·rename_i h2;rw[if_pos h2];exact fm h
    ·rename_i h2
     rw[if_neg h2];split at h
     ·rename_i h3;rw[if_pos h3];exact fm h
     ·rename_i h3;rw[if_neg h3];exact fm h
variable {B:QBE}{As F:List HP}
end Go.Cx
