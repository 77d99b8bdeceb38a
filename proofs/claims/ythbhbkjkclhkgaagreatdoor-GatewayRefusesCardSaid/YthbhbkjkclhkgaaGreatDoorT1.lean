/-
The tree of keys: what its calls do.
-/
import Derived.Test.YthbhbkjkclhkgaaGreatDoorDK
import Derived.Test.YthbhbkjkclhkgaaGreatDoorA3
import Derived.Test.YthbhbkjkclhkgaaGreatDoorS1
namespace Go.Cx
open Go Go.Cf
set_option linter.unusedVariables false
set_option maxRecDepth 100000
variable {B:QBG}{As F:List HP}
def KE:Enc KY:=⟨fun k=>[.I k.1,.I k.2],2,fun _=>rfl,fun x v h=>by simp at h;rcases h with rfl|rfl<;>rfl,by decide,(0,0)⟩
def PE:Enc (Option Addr):=⟨fun a=>[.pointer a],1,fun _=>rfl,fun x v h=>by simp at h;subst h;rfl,by decide,none⟩
theorem QWr(a b:KY):Ct Pr 445 [.agg #[.I a.1,.I a.2],.agg #[.I b.1,.I b.2]] .one [.bool] [] emp (fun t Bs=>t.1=ltK a b∧Bs=[]):=by
 refine sp1 (QOE _ _ _ _) fun B _=>?_;have fin:∀{x:Bool}{As:List HP},x=ltK a b→Ent B As (Ret B (ss:=[.bool]) (fun t Bs=>t.1=ltK a b∧Bs=[]) (x,())):=fun h=>QAa (l:=[]) (QAE ⟨h,rfl⟩);unfold QOE mf;dsimp only;refine QAL fun b1=>QAL fun b2=>xgq (xgq (QAJ (QAB (fun h=>fin ?_) (fun h=>xgq (xgq (QAJ (xif (fun h2=>xgq (xgq (fin ?_))) (fun h2=>fin ?_))))))))
 ·unfold ltK;simp[h]
 ·have h2':a.1=b.1:=by simpa using h2
  unfold ltK;simp[h,h2']
 ·have h2':a.1≠b.1:=by simpa using h2
  unfold ltK;simp[h,h2']
theorem QUw{ks:List KY}{k y:KY}{j:Nat}(h:j≤plK ks k)(hy:ks[j]? = some y)(hl:ltK y k=true):j+1≤plK ks k:=by
 rcases Nat.lt_or_ge j (plK ks k) with h1|h1
 ·exact h1
 ·obtain rfl:j=plK ks k:=by omega
  rw[QR7 hy]at hl;cases hl
theorem QOj{ks:List KY}{k y:KY}{j:Nat}(h:j≤plK ks k)(hy:ks[j]? = some y)(hl:ltK y k=false):plK ks k=j:=by
 rcases Nat.lt_or_ge j (plK ks k) with h1|h1
 ·rw[QUz j y h1 hy]at hl;cases hl
 ·omega
theorem QR2(b:Nat)(s:Sl)(v c:Value)(l:List KY)(k:KY)(hl:l.length≤1000):Ct Pr 360 [.pointer (some ⟨b,0,none⟩),.agg #[.I k.1,.I k.2]] (.tup [none,none]) [.I,.bool] [Blk b [s.v,v,c],Ar KE s l] emp
  (fun t Bs=>t.1=(plK l k:Int)∧t.2.1=decide (l[plK l k]? = some k)∧Bs=[Blk b [s.v,v,c],Ar KE s l]):=by
 refine QeH QJX fun B _=>?_;unfold QG2;refine QAL fun b0=>?_;refine QCn (E:=KE) (xs:=l) s fun hn _=>?_;refine QBV (fun n x As'=>∃j:Nat,x=(j:Int)∧n=l.length - j∧j≤plK l k∧As'=[Blk b0 [.I k.1,.I k.2],Blk b [s.v,v,c],Ar KE s l]) l.length ⟨0,rfl,rfl,by omega,rfl⟩ ?_;rintro n x As' K ⟨j,rfl,rfl,hj,rfl⟩ hK;have hpl:=QMi l k;refine QAP (QAU (fun(c1:Bool) As'=>(c1=true→j+1≤plK l k)∧(c1=false→plK l k=j)∧As'=[Blk b0 [.I k.1,.I k.2],Blk b [s.v,v,c],Ar KE s l]) (fun K1 hK1=>?_) ?_)
 ·refine QAS (xgq (QAB (fun h=>?_) (fun h=>?_)))
  ·have hlt:j<l.length:=by omega
   have hy:=List.getElem?_eq_getElem hlt;refine QAS (xgq ?_);refine QAI (E:=KE) (xs:=l) (s:=s) (h1:=hlt) (h:=fun y hy'=>?_);refine QAO (E:=KE) (xs:=l) hy' (h:=?_);refine QAb (E:=KE) (xs:=l) hy' (h:=xgq (xgq ?_));refine QAR (QWr y k) rdb ?_;rintro⟨t,_⟩ _ ⟨ht,rfl⟩;simp only at ht;subst ht;exact QAz (ca1 (hK1 _ _ ⟨fun e=>QUw hj hy' e,fun e=>QOj hj hy' e,rfl⟩))
  ·exact hK1 _ _ ⟨fun e=>(by cases e),fun _=>by omega,rfl⟩
 ·rintro c1 As2 ⟨h1,h2,rfl⟩;refine xif (fun h=>?_) (fun h=>?_)
  ·have:=h1 h;rw[QAF j (by omega)];exact hK _ _ _ (by omega) ⟨j+1,rfl,rfl,by omega,rfl⟩
  ·have e:=h2 h;refine QAP (QAJ (QAS (xgq (QAB (fun h=>?_) (fun h=>?_)))))
   ·have hlt:j<l.length:=by omega
    refine QAS (xgq ?_);refine QAI (E:=KE) (xs:=l) (s:=s) (h1:=hlt) (h:=fun y hy'=>?_);refine QAO (E:=KE) (xs:=l) hy' (h:=?_);refine QAb (E:=KE) (xs:=l) hy' (h:=xgq (xgq ?_));refine QB1 0 (QAE ⟨by rw[e],?_,rfl⟩);rw[e,hy',Bool.eq_iff_iff];simp[Prod.ext_iff]
   ·refine QB1 0 (QAE ⟨by rw[e],?_,rfl⟩);rw[e,List.getElem?_eq_none (by omega)];simp
def QQg{α:Type}(xs:List α)(i:Nat)(x:α):List α:=(xs++[x]).take (i+1)++xs.drop i
theorem QTH{α:Type}{xs:List α}{i:Nat}{x:α}(h:i≤xs.length):(QQg xs i x).set i x=QAx xs i x:=by
 apply List.ext_getElem?;intro j;unfold QQg QAx;rcases Nat.lt_trichotomy j i with hj|hj|hj
 ·rw[List.getElem?_set_ne (by omega),List.getElem?_append_left (by simp;omega),List.getElem?_take_of_lt (by omega),List.getElem?_append_left (by omega),List.getElem?_append_left (by simp;omega),List.getElem?_take_of_lt hj]
 ·subst hj;rw[List.getElem?_set_self (by simp;omega),List.getElem?_append_right (by simp;omega),List.length_take,Nat.min_eq_left h];simp
 ·rw[List.getElem?_set_ne (by omega),List.getElem?_append_right (by simp;omega),List.getElem?_append_right (by simp;omega)];simp only[List.length_take,List.length_append,List.length_singleton,Nat.min_eq_left h];rw[Nat.min_eq_left (by omega),show j - i=(j - (i+1))+1 by omega,List.getElem?_cons_succ]
theorem QTF{α:Type}{xs:List α}{i:Nat}{x:α}(h:i≤xs.length):∃y,(QQg xs i x)[i]? = some y:=⟨_,List.getElem?_eq_getElem (by unfold QQg;simp;omega)⟩
theorem QgZ{P:Program}{t ty e:TypeId}{sz by_:Nat}{z:List Value}[a:QH9 P t e sz by_ z]{α:Type}{E:Enc α}{s:Sl}{xs:List α}{x:α}{i:Nat}{K:Int→WP}(hi:i≤xs.length)(hm:xs.length<4611686018427387904)(hsz:E.sz=sz:=by rfl)
  (h:∀n,Ent B (Ar E s (QQg xs i x)::F) (K n)):Ent B (Ar E s (xs++[x])::F) (QNS s (IntKind.i64.wrap ((i:Int)+1)) s.n s.c sz fun s1=>QNS s (i:Int) s.n s.c sz fun s2=>QbC P t t ty s1.v s2.v fun n=>K n):=by
 subst hsz;refine QCn (E:=E) (xs:=xs++[x]) s fun hn hc=>?_
 have hn':xs.length+1=s.n:=by simpa using hn
 rw[QAD _ (by omega) (by omega)];refine Qes 0 fun zs _ hzc=>?_;refine QEf (by omega) (by omega) (by omega) (by omega) ?_;refine QEf (by omega) (by omega) (by omega) (by omega) ?_
 have e1:((i:Int)+1).toNat=i+1:=by omega
 rw[e1,show ((i:Int)).toNat=i by omega,show ((s.n:Int)).toNat=s.n by omega,show ((s.c:Int)).toNat=s.c by omega]
 have hxc:xs.length+1+zs.length=s.c:=by simpa using hzc
 have hyl:((xs++[x]).drop i).length=xs.length+1 - i:=by simp
 have hmin:min ((xs++[x]).drop i).length (s.n - (i+1))=xs.length - i:=by rw[hyl];omega
 refine QRZ (E:=E) (ys:=(xs++[x]).drop i) (xs:=xs++[x]) (zs:=zs) (fun w hw=>?_) (QQg xs i x) zs rfl hc ?_ ?_ ?_ (fun n=>xar (h n))
 ·obtain⟨g,hg,hs⟩:=hw.head;have:=(hg.read.mono hs).cut i s.n s.c (by omega) hc (by simp;omega);rw[List.take_of_length_le (by simp;omega)]at this;exact this
 ·rw[hmin];simp;omega
 ·unfold QQg;simp;omega
 ·rw[hmin,List.take_append_of_le_length (l₁:=xs++[x]) (by simp;omega)]
  have e2:((xs++[x]).drop i).take (xs.length - i)=xs.drop i:=by
   rw[List.drop_append_of_le_length hi,List.take_append_of_le_length (by simp),List.take_of_length_le (by simp)]
  have e3:(xs++[x]++zs).drop (i+1+(xs.length - i))=zs:=by
   rw[show i+1+(xs.length - i)=(xs++[x]).length by simp;omega,List.drop_left]
  rw[e2,e3];rfl
theorem QRQ(s:Sl)(l:List KY)(i:Nat)(k:KY)(hi:i≤l.length)(hm:l.length≤1000):Ct Pr 361 [s.v,.I (i:Int),.agg #[.I k.1,.I k.2]] .one [.slice] [Ar KE s l] emp (fun t Bs=>Bs=[Ar KE t.1 (QAx l i k)]):=by
 refine sp1 (QFW _ _ _ _) fun B _=>?_;unfold QFW mf;dsimp only;refine QAL fun b=>xgq (xgq (QAL fun b1=>?_));refine QEQ (E:=KE) k (hb:=by omega) (h:=fun s'=>QAP ?_);refine QGK 1 ?_;refine QgZ (E:=KE) hi (by omega) (h:=fun n=>?_);refine xgq (xgq ?_);obtain⟨y,hy⟩:=QTF (x:=k) hi;have hml:i<(QQg l i k).length:=(List.getElem?_eq_some_iff.1 hy).1;refine QAI (E:=KE) (xs:=QQg l i k) (s:=s') (h1:=hml) (h:=fun y' hy'=>?_)
 obtain rfl:y'=y:=by rw[hy]at hy';exact (Option.some.inj hy').symm
 refine QHZ (E:=KE) (xs:=QQg l i k) (k.1,y'.2) hy (hv:=rfl) (h:=?_);refine QCr (E:=KE) (xs:=(QQg l i k).set i (k.1,y'.2)) (x:=(k.1,y'.2)) k (List.getElem?_set_self hml) (hj:=by decide) (hv:=rfl) (h:=?_);rw[List.set_set,QTH hi];exact QB1 1 (QAE rfl)
theorem QQU(s:Sl)(l:List Int)(i:Nat)(k:Int)(hi:i≤l.length)(hm:l.length≤1000):Ct Pr 362 [s.v,.I (i:Int),.I k] .one [.slice] [Ar I64 s l] emp (fun t Bs=>Bs=[Ar I64 t.1 (QAx l i k)]):=by
 refine sp1 (QJK _ _ _) fun B _=>?_;unfold QJK mf;dsimp only;refine QAL fun b=>?_;refine QEQ (E:=I64) k (hb:=by omega) (h:=fun s'=>QAP ?_);refine QgZ (E:=I64) hi (by omega) (h:=fun n=>?_);obtain⟨y,hy⟩:=QTF (x:=k) hi;have hml:i<(QQg l i k).length:=(List.getElem?_eq_some_iff.1 hy).1;refine QAI (E:=I64) (xs:=QQg l i k) (s:=s') (h1:=hml) (h:=fun y' hy'=>?_);refine QHZ (E:=I64) (xs:=QQg l i k) k hy' (hv:=rfl) (h:=?_);rw[QTH hi];exact QAE rfl
theorem QX5(s:Sl)(l:List (Option Addr))(i:Nat)(k:Option Addr)(hi:i≤l.length)(hm:l.length≤1000):Ct Pr 444 [s.v,.I (i:Int),.pointer k] .one [.slice] [Ar PE s l] emp (fun t Bs=>Bs=[Ar PE t.1 (QAx l i k)]):=by
 refine sp1 (QDx _ _ _) fun B _=>?_;unfold QDx mf;dsimp only;refine QAL fun b=>?_;refine QEQ (E:=PE) k (hb:=by omega) (h:=fun s'=>QAP ?_);refine QgZ (E:=PE) hi (by omega) (h:=fun n=>?_);obtain⟨y,hy⟩:=QTF (x:=k) hi;have hml:i<(QQg l i k).length:=(List.getElem?_eq_some_iff.1 hy).1;refine QAI (E:=PE) (xs:=QQg l i k) (s:=s') (h1:=hml) (h:=fun y' hy'=>?_);refine QHZ (E:=PE) (xs:=QQg l i k) k hy' (hv:=rfl) (h:=?_);rw[QTH hi];exact QAE rfl
theorem Ars.clip{α:Type}{E:Enc α}{p:Option Addr}{n c:Nat}{xs zs:List α}{h:QBh}(ha:Ars E ⟨p,n,c⟩ xs zs h)(r:Nat)(hr:r≤xs.length)(h0:0<r):Ars E ⟨p,r,r⟩ (xs.take r) [] h:=by
 obtain⟨h1,h2,h3⟩:=ha;simp only at h1 h2 h3;refine⟨by simp;omega,by simp;omega,?_⟩;rcases h3 with⟨_,h⟩|⟨b,o,pre,post,e,fr,hp,hb,ho,hfr,hM⟩
 ·omega
 ·have e0:pre++QAg E (xs.take r++[])++(QAg E (xs.drop r++zs)++post)=pre++QAg E (xs++zs)++post:=by
   have:QAg E (xs++zs)=QAg E (xs.take r)++QAg E (xs.drop r++zs):=by rw[←QAQ,←List.append_assoc,List.take_append_drop]
   rw[this,List.append_nil];simp only[List.append_assoc]
  exact .inr ⟨b,o,pre,QAg E (xs.drop r++zs)++post,e,fr,hp,by rw[e0];exact hb,ho,by rw[e0];exact hfr,by simp only;omega⟩
theorem Qdl{α:Type}{E:Enc α}{s:Sl}{xs:List α}{r sz:Nat}{ri:Int}{upd:Sl→List α→List HP}{rest:List HP}[o:OwnA s As E xs upd rest]{K:Sl→WP}(hri:ri=(r:Int))(h0:0<r)(hr:r≤xs.length)(h:Ent B (upd ⟨s.p,r,r⟩ (xs.take r)) (K ⟨s.p,r,r⟩)):Ent B As (QNS s 0 ri ri sz K):=by
 subst hri;refine QCn (E:=E) (xs:=xs) s fun hn hc=>?_;refine QEf (by omega) (by omega) (by omega) (by omega) ?_
 have e:s.cut (0:Int).toNat ((r:Int)).toNat ((r:Int)).toNat sz=⟨s.p,r,r⟩:=by
  unfold Sl.cut;rw[show ((r:Int)).toNat=r by omega,if_neg (by simp;omega)];cases s.p<;>simp[Addr.add]
 rw[e];refine Ent.perm o.start (QHe (fun g hg=>?_) h);refine QFA (o.perm _ _).symm (QA2 (fun q hq=>?_) hg);obtain⟨zs,hq⟩:=hq;obtain⟨p,n,c⟩:=s;exact⟨[],Ars.clip hq r hr h0⟩
theorem QLS{α:Type}{E:Enc α}{s:Sl}{xs:List α}{sz:Nat}{upd:Sl→List α→List HP}{rest:List HP}[o:OwnA s As E xs upd rest](l:Nat)(hl:l≤xs.length)(hsz:E.sz=sz:=by rfl):RdA B As (s.cut l s.n s.c sz) E (xs.drop l):=⟨fun w hw=>by
 subst hsz;obtain⟨g,hg,hs⟩:=(hw.perm o.start).head;have hn:=hg.read.1;obtain⟨zs,hz⟩:=id hg;have:=(hg.read.mono hs).cut l s.n s.c (by omega) hz.cap (by omega);rw[List.take_of_length_le (by omega)]at this
 exact this⟩
def PageR{α:Type}(R:Option Addr→α→HP)(p:Option Addr)(pg:Pg α):HP:=fun h=>∃b ks vs cs kp,p=some ⟨b,0,none⟩∧QBn [Blk b [ks.v,vs.v,cs.v],Ar KE ks pg.ks,Ar I64 vs pg.vs,Ar PE cs kp,Each R kp pg.kids] h
def ER:Option Addr→Empty→HP:=fun _ e=>e.elim
def PageO:(n:Nat)→Option Addr→PT n→HP
 | 0=>fun p (pg:Pg Empty)=>PageR ER p pg
 | n+1=>fun p (pg:Pg (PT n))=>PageR (PageO n) p pg
theorem QWE(i:Nat){α:Type}{R:Option Addr→α→HP}{p:Option Addr}{pg:Pg α}{F:List HP}[q:Pick i As (PageR R p pg) F]{φ:WP}
  (k:∀b ks vs cs kp,p=some ⟨b,0,none⟩→kp.length=pg.kids.length→cs.n=pg.kids.length→Ent B (Blk b [ks.v,vs.v,cs.v]::Ar KE ks pg.ks::Ar I64 vs pg.vs::Ar PE cs kp::Each R kp pg.kids::F) φ):Ent B As φ:=by
 refine Ent.perm q.perm ?_;rintro w ⟨g,⟨a,c,⟨b,ks,vs,cs,kp,hp,pa⟩,pc,d,sa,sc⟩,hm,hu⟩
 have hl:kp.length=pg.kids.length∧cs.n=pg.kids.length:=by
  obtain⟨_,_,_,⟨_,_,_,⟨_,_,_,⟨_,_,par,⟨_,_,pe,_⟩,_⟩,_⟩,_⟩,_⟩:=pa;have:=pe.length;exact⟨this,by rw[←par.read.1,this]⟩
 exact k b ks vs cs kp hp hl.1 hl.2 w ⟨g,(QAj [_,_,_,_,_] F).2 ⟨a,c,pa,pc,d,sa,sc⟩,hm,hu⟩
theorem QB3(b:Nat)(ks vs cs:Sl)(kp:List (Option Addr)){α:Type}{R:Option Addr→α→HP}{pg:Pg α}{G:List HP}[q:Split [Blk b [ks.v,vs.v,cs.v],Ar KE ks pg.ks,Ar I64 vs pg.vs,Ar PE cs kp,Each R kp pg.kids] As G]{φ:WP}
  (k:Ent B (PageR R (some ⟨b,0,none⟩) pg::G) φ):Ent B As φ:=
 QBR [Blk b [ks.v,vs.v,cs.v],Ar KE ks pg.ks,Ar I64 vs pg.vs,Ar PE cs kp,Each R kp pg.kids] (PageR R (some ⟨b,0,none⟩) pg) (fun g hg=>⟨b,ks,vs,cs,kp,rfl,hg⟩) k
theorem QL9{α β:Type}{R:α→β→HP}{x:α}{y:β}:∀{xs:List α}{ys:List β}{i:Nat}{h:QBh},i≤xs.length→QBn [R x y,Each R xs ys] h→Each R (QAx xs i x) (QAx ys i y) h
 | [],ys,i,h,hi,hh=>by
  obtain⟨a,b,pa,⟨c,d,pc,_,_,sc,_⟩,dd,sa,sb⟩:=hh
  cases ys with
  | cons=>exact pc.elim
  | nil=>
   obtain rfl:i=0:=by simpa using hi
   exact⟨a,b,pa,QCd (P:=Each R [] []) trivial,dd,sa,sb⟩
 | x'::xs,[],i,h,hi,hh=>by
  obtain⟨a,b,pa,⟨c,d,pc,_⟩,_⟩:=hh;exact pc.elim
 | x'::xs,y'::ys,0,h,hi,hh=>hh
 | x'::xs,y'::ys,i+1,h,hi,hh=>by
  have h1:QBn ([R x' y',Each R xs ys]++[R x y]) h:=QFX (fun g hg=>hg) (QDR hh);have h2:QBn [R x' y',R x y,Each R xs ys] h:=QBA (fun g hg=>QDR hg) h1;exact QBA (l':=[Each R (QAx xs i x) (QAx ys i y)]) (fun g hg=>QCd (QL9 (by simpa using hi) hg)) h2
theorem QQI{α β:Type}{R:α→β→HP}:∀{xs:List α}{ys:List β}(n:Nat) {h:QBh},Each R xs ys h→QBn [Each R (xs.take n) (ys.take n),Each R (xs.drop n) (ys.drop n)] h
 | [],[],n,h,hh=>by simp only[List.take_nil,List.drop_nil];exact⟨fun _=>none,h,trivial,QCd trivial,fun _=>.inl rfl,fun _ _ e=>(by cases e),Sub.refl _⟩
 | [],_::_,n,h,hh=>hh.elim
 | _::_,[],n,h,hh=>hh.elim
 | x::xs,y::ys,0,h,hh=>⟨fun _=>none,h,trivial,QCd hh,fun _=>.inl rfl,fun _ _ e=>(by cases e),Sub.refl _⟩
 | x::xs,y::ys,n+1,h,hh=>by
  have h1:QBn [R x y,Each R (xs.take n) (ys.take n),Each R (xs.drop n) (ys.drop n)] h:=QBA (fun g hg=>by
   obtain⟨a,b,pa,_,_,sa,_⟩:=hg
   exact QCV _ (QQI n pa) sa) hh
  have h2:QBn ([R x y,Each R (xs.take n) (ys.take n)]++[Each R (xs.drop n) (ys.drop n)]) h:=h1;exact QDH (l:=[R x y,Each R (xs.take n) (ys.take n)]) (P:=Each R ((x::xs).take (n+1)) ((y::ys).take (n+1))) (fun g hg=>hg) h2
abbrev QS5{α:Type}(k:Pg α):Pg α:=⟨k.ks.take 7,k.vs.take 7,k.kids.take 8⟩
abbrev QYh{α:Type}(k:Pg α):Pg α:=⟨k.ks.drop 8,k.vs.drop 8,k.kids.drop 8⟩
abbrev QYV{α:Type}(pg:Pg (Pg α))(i:Nat)(kid:Pg α)(m:KY)(v:Int):Pg (Pg α):=⟨QAx pg.ks i m,QAx pg.vs i v,QAx (pg.kids.set i (QS5 kid)) (i+1) (QYh kid)⟩
theorem QNo{α:Type}(R:Option Addr→α→HP)(p:Option Addr)(pg:Pg (Pg α))(i:Nat)(kid:Pg α)(m:KY)(v:Int)(hk:pg.kids[i]? = some kid)(h15:kid.ks.length=15)(hv15:kid.vs.length=15)(hks:kid.kids=[]∨kid.kids.length=16)
  (hm:kid.ks[7]? = some m) (hv:kid.vs[7]? = some v) (hpk:pg.ks.length≤100) (hpv:pg.vs.length=pg.ks.length) (hpd:pg.kids.length=pg.ks.length+1) :
  Ct Pr 359 [.pointer p,.I (i:Int),.I 8] (.tup []) [] [PageR (PageR R) p pg] emp (fun t Bs=>Bs=[PageR (PageR R) p (QYV pg i kid m v)]):=by
 refine sp0 (QG5 _ _ _) fun B _=>?_;unfold QG5 mf;dsimp only;have hi:i<pg.kids.length:=(List.getElem?_eq_some_iff.1 hk).1;refine QWE 0 fun b ks vs cs kp hp hkl hcs=>?_;subst hp;obtain⟨q,hq⟩:∃q,kp[i]? = some q:=⟨_,List.getElem?_eq_getElem (by omega)⟩;refine QdH 4 (P1:=Each (PageR R) kp pg.kids) [PageR R q kid,Each (PageR R) (kp.eraseIdx i) (pg.kids.eraseIdx i)] (fun g hg=>QCB hg hq hk) (QBM ?_);refine QWE 0 fun lb lks lvs lcs lkp hlp hlkl hlcs=>?_;subst hlp;refine QAS (xgq ?_);refine QAI (E:=PE) (xs:=kp) (s:=cs) (h1:=by omega) (h:=fun q' hq'=>?_);refine QAO (E:=PE) (xs:=kp) hq (h:=QAP ?_)
 have e7:IntKind.i64.wrap ((8:Int) - 1)=((7:Nat):Int):=by decide
 rw[e7];refine QCn (E:=KE) (xs:=kid.ks) lks fun hkn hkc=>?_;refine QCn (E:=I64) (xs:=kid.vs) lvs fun hvn hvc=>?_
 refine QAU (fun(right:Option Addr) As'=>∃rb s5 s6,right=some ⟨rb,0,none⟩∧As'=[Blk rb [(s5:Sl).v,(s6:Sl).v,.slice none 0 0],Ar KE s5 (kid.ks.drop 8),Ar I64 s6 (kid.vs.drop 8),Blk b [ks.v,vs.v,cs.v],Ar KE ks pg.ks,Ar I64 vs pg.vs,Ar PE cs kp,Each (PageR R) (kp.eraseIdx i) (pg.kids.eraseIdx i),
   Blk lb [lks.v,lvs.v,lcs.v],Ar KE lks kid.ks,Ar I64 lvs kid.vs,Ar PE lcs lkp,Each R lkp kid.kids]) (fun K1 hK1=>?_) ?_
 ·refine QAS (xgq ?_);refine QEf (by omega) (by omega) (by omega) (by omega) ?_;refine QAS (xgq ?_);refine QEf (by omega) (by omega) (by omega) (by omega) ?_;rw[show (8:Int).toNat=8 from rfl,show ((lks.n:Int)).toNat=lks.n by omega,show ((lks.c:Int)).toNat=lks.c by omega,show ((lvs.n:Int)).toNat=lvs.n by omega,show ((lvs.c:Int)).toNat=lvs.c by omega]
  have tail:∀(b5 b6:Nat),Ent B [Blk b5 [],Blk b6 [],Blk lb [lks.v,lvs.v,lcs.v],Ar KE lks kid.ks,Ar I64 lvs kid.vs,Ar PE lcs lkp,Each R lkp kid.kids,Each (PageR R) (kp.eraseIdx i) (pg.kids.eraseIdx i),Blk b [ks.v,vs.v,cs.v],Ar KE ks pg.ks,Ar I64 vs pg.vs,Ar PE cs kp]
    (QSO Pr 386 386 386 (.slice ((some ⟨b6,0,none⟩)) 0 0) ((lks.cut 8 lks.n lks.c 2).v) fun s9=>QKF (⟨lb,1,none⟩) (lvs.v)<|QSO Pr 161 161 161 (.slice ((some ⟨b5,0,none⟩)) 0 0) ((lvs.cut 8 lvs.n lvs.c 1).v) fun s10=>QDK [s9.v,s10.v,.slice none 0 0] 443 fun b7=>K1 (some ⟨b7,0,none⟩)):=by
   intro b5 b6;refine QAf 1 (Q:=Ar KE ⟨some ⟨b6,0,none⟩,0,0⟩ []) (fun g hg=>⟨[],QAm [] 0 rfl rfl hg⟩) ?_;refine QAf 1 (Q:=Ar I64 ⟨some ⟨b5,0,none⟩,0,0⟩ []) (fun g hg=>⟨[],QAm [] 0 rfl rfl hg⟩) ?_;refine QHX (E:=KE) (s:=⟨some ⟨b6,0,none⟩,0,0⟩) (r:=QLS (E:=KE) (s:=lks) (xs:=kid.ks) 8 (by omega)) (hb:=by simp;omega) (h:=fun s9=>QC7 (h:=?_));refine QHX (E:=I64) (s:=⟨some ⟨b5,0,none⟩,0,0⟩) (r:=QLS (E:=I64) (s:=lvs) (xs:=kid.vs) 8 (by omega)) (hb:=by simp;omega) (h:=fun s10=>QAL fun b7=>?_);rw[List.nil_append,List.nil_append]
   exact QAM [Blk b7 [s9.v,s10.v,.slice none 0 0],Ar KE s9 (kid.ks.drop 8),Ar I64 s10 (kid.vs.drop 8),Blk b [ks.v,vs.v,cs.v],Ar KE ks pg.ks,Ar I64 vs pg.vs,Ar PE cs kp,Each (PageR R) (kp.eraseIdx i) (pg.kids.eraseIdx i),
    Blk lb [lks.v,lvs.v,lcs.v],Ar KE lks kid.ks,Ar I64 lvs kid.vs,Ar PE lcs lkp,Each R lkp kid.kids] (hK1 _ _ ⟨b7,s9,s10,rfl,rfl⟩)
  refine QXY (QAL fun b6=>QXY ?_ (QAL fun b5=>?_)) (QAL fun b5=>QAL fun b6=>?_)
  ·refine QAf 0 (Q:=Ar KE ⟨some ⟨b6,0,none⟩,0,0⟩ []) (fun g hg=>⟨[],QAm [] 0 rfl rfl hg⟩) ?_;refine QHX (E:=KE) (s:=⟨some ⟨b6,0,none⟩,0,0⟩) (r:=QLS (E:=KE) (s:=lks) (xs:=kid.ks) 8 (by omega)) (hb:=by simp;omega) (h:=fun s9=>QC7 (h:=?_));refine QAL fun b5=>?_;refine QAf 0 (Q:=Ar I64 ⟨some ⟨b5,0,none⟩,0,0⟩ []) (fun g hg=>⟨[],QAm [] 0 rfl rfl hg⟩) ?_;refine QHX (E:=I64) (s:=⟨some ⟨b5,0,none⟩,0,0⟩) (r:=QLS (E:=I64) (s:=lvs) (xs:=kid.vs) 8 (by omega)) (hb:=by simp;omega) (h:=fun s10=>QAL fun b7=>?_);rw[List.nil_append,List.nil_append]
   exact QAM [Blk b7 [s9.v,s10.v,.slice none 0 0],Ar KE s9 (kid.ks.drop 8),Ar I64 s10 (kid.vs.drop 8),Blk b [ks.v,vs.v,cs.v],Ar KE ks pg.ks,Ar I64 vs pg.vs,Ar PE cs kp,Each (PageR R) (kp.eraseIdx i) (pg.kids.eraseIdx i),
    Blk lb [lks.v,lvs.v,lcs.v],Ar KE lks kid.ks,Ar I64 lvs kid.vs,Ar PE lcs lkp,Each R lkp kid.kids] (hK1 _ _ ⟨b7,s9,s10,rfl,rfl⟩)
  ·exact QKZ (tail b5 b6)
  ·exact QKZ (tail b5 b6)
 ·rintro right As2 ⟨rb,s5,s6,rfl,rfl⟩;refine QAS (xgq ?_)
  have hp8:1≤kid.kids.length→kid.kids.length=16:=fun h=>by
   rcases hks with e|e
   ·rw[e]at h;simp at h
   ·exact e
  refine QBx (fun As'=>∃s14 lcs',As'=[Blk rb [(s5:Sl).v,(s6:Sl).v,(s14:Sl).v],Ar PE s14 (lkp.drop 8),Each R (lkp.drop 8) (kid.kids.drop 8),Ar KE s5 (kid.ks.drop 8),Ar I64 s6 (kid.vs.drop 8),
   Blk lb [lks.v,lvs.v,(lcs':Sl).v],Ar PE lcs' (lkp.take 8),Each R (lkp.take 8) (kid.kids.take 8),Ar KE lks kid.ks,Ar I64 lvs kid.vs,Blk b [ks.v,vs.v,cs.v],Ar KE ks pg.ks,Ar I64 vs pg.vs,Ar PE cs kp,Each (PageR R) (kp.eraseIdx i) (pg.kids.eraseIdx i)]) (fun K1 hK1=>?_) ?_
  ·refine QAB (fun h=>?_) (fun h=>?_)
   ·have h16:=hp8 (by omega);refine QCn (E:=PE) (xs:=lkp) lcs fun hln hlc=>?_;refine QAL fun b8=>?_;refine QAS (xgq ?_);refine QEf (by omega) (by omega) (by omega) (by omega) ?_;rw[show (8:Int).toNat=8 from rfl,show ((lcs.n:Int)).toNat=lcs.n by omega,show ((lcs.c:Int)).toNat=lcs.c by omega];refine QAf 0 (Q:=Ar PE ⟨some ⟨b8,0,none⟩,0,0⟩ []) (fun g hg=>⟨[],QAm [] 0 rfl rfl hg⟩) ?_;refine QHX (E:=PE) (s:=⟨some ⟨b8,0,none⟩,0,0⟩) (r:=QLS (E:=PE) (s:=lcs) (xs:=lkp) 8 (by omega)) (hb:=by simp;omega) (h:=fun s14=>?_);rw[List.nil_append];refine QAS (xsq (QAS (xgq ?_)));refine Qdl (E:=PE) (xs:=lkp) (s:=lcs) (r:=8) rfl (by omega) (by omega) ?_;refine QAS (xsq ?_);refine QdH 13 (P1:=Each R lkp kid.kids) [Each R (lkp.take 8) (kid.kids.take 8),Each R (lkp.drop 8) (kid.kids.drop 8)] (fun g hg=>QQI 8 hg) (QBM ?_);exact QKZ (hK1 _ ⟨s14,⟨lcs.p,8,8⟩,rfl⟩)
   ·have e0:kid.kids=[]:=List.eq_nil_of_length_eq_zero (by omega);have e1:lkp=[]:=List.eq_nil_of_length_eq_zero (by omega);refine QAd PE ?_;have:=hK1 _ ⟨⟨none,0,0⟩,lcs,rfl⟩;rw[e0,e1]at this⊢;simp only[List.drop_nil,List.take_nil]at this⊢;rw[show (⟨none,0,0⟩:Sl).v=.slice none 0 0 from rfl]at this;refine QYz (A:=Each R [] []) trivial ?_;exact QKZ this
  ·rintro As2 ⟨s14,lcs',rfl⟩;refine QAP (QAS (xgq ?_));refine QAI (E:=KE) (xs:=kid.ks) (s:=lks) (h1:=by omega) (h:=fun y hy=>?_)
   obtain rfl:y=m:=by rw[hm]at hy;exact (Option.some.inj hy).symm
   refine QAO (E:=KE) (xs:=kid.ks) hy (h:=?_);refine QAb (E:=KE) (xs:=kid.ks) hy (h:=QAS (xgq ?_));refine QAI (E:=I64) (xs:=kid.vs) (s:=lvs) (h1:=by omega) (h:=fun u hu=>?_)
   obtain rfl:u=v:=by rw[hv]at hu;exact (Option.some.inj hu).symm
   refine QAO (E:=I64) (xs:=kid.vs) hu (h:=?_);refine QAL fun b9=>xsq (xsq ?_);refine QNL (E:=I64) (xs:=kid.vs) hu (h:=QC7 (h:=QAP (QAS (xgq ?_))));refine Qdl (E:=KE) (xs:=kid.ks) (s:=lks) (r:=7) rfl (by omega) (by omega) ?_;refine QAS (xgq ?_);refine Qdl (E:=I64) (xs:=kid.vs) (s:=lvs) (r:=7) rfl (by omega) (by omega) ?_;refine QAS (xsq (QAS (xsq (QAP (QAS (xgq (xgq (xgq (QAS (xgq (QAS (xgq ?_))))))))))));refine xcl (QRQ ks pg.ks i y (by omega) (by omega)) rdb ?_;rintro⟨s26,_⟩ _ rfl;refine QA8 (ca1 (QC7 (h:=QC7 (h:=?_))));refine xcl (QQU vs pg.vs i u (by omega) (by omega)) rdb ?_;rintro⟨s27,_⟩ _ rfl;refine QA8 (ca1 (QC7 (h:=?_)));rw[QAF i (by omega)];refine xcl (QX5 cs kp (i+1) (some ⟨rb,0,none⟩) (by omega) (by omega)) rdb ?_;rintro⟨s28,_⟩ _ rfl;refine QA8 (ca1 (QAS (xsq (QAS (xsq (QAS (xsq ?_)))))));refine QB3 rb s5 s6 s14 (lkp.drop 8) (pg:=QYh kid) (R:=R) ?_;refine QB3 lb ⟨lks.p,7,7⟩ ⟨lvs.p,7,7⟩ lcs' (lkp.take 8) (pg:=QS5 kid) (R:=R) ?_
   have hset:kp.set i (some ⟨lb,0,none⟩)=kp:=by
    apply List.ext_getElem?;intro j;by_cases e:i=j
    ·subst e;rw[List.getElem?_set_self (by omega),hq]
    ·rw[List.getElem?_set_ne e]
   refine QBR [PageR R (some ⟨lb,0,none⟩) (QS5 kid),Each (PageR R) (kp.eraseIdx i) (pg.kids.eraseIdx i)] (Each (PageR R) kp (pg.kids.set i (QS5 kid))) (fun g hg=>by
    have:=QDJ (by omega) hi hg
    rwa [hset]at this) ?_
   refine QBR [PageR R (some ⟨rb,0,none⟩) (QYh kid),Each (PageR R) kp (pg.kids.set i (QS5 kid))] (Each (PageR R) (QAx kp (i+1) (some ⟨rb,0,none⟩)) (QYV pg i kid y u).kids) (fun g hg=>QL9 (by omega) hg) ?_;refine QB3 b s26 s27 s28 (QAx kp (i+1) (some ⟨rb,0,none⟩)) (pg:=QYV pg i kid y u) (R:=PageR R) ?_;exact QAa (l:=[_]) (QAE rfl)
def QEg:(n:Nat)→PT n→List KY
 | 0,(p:Pg Empty)=>p.ks
 | _+1,(p:Pg (PT _))=>p.ks
def Qa7:(n:Nat)→PT n→KY→Bool
 | 0,_,_=>false
 | n+1,(p:Pg (PT n)),k=>match p.kids[plK p.ks k]? with
  | some kid=>(QEg n kid).length == 15
  | none=>false
theorem QT3:∀{n:Nat}{pg:PT n},QFs n pg→(QEg n pg).length≤15
 | 0,pg,h=>h.1
 | n+1,pg,h=>h.1
theorem QMQ:∀(n:Nat) (p:Option Addr) (pg:Pg (PT n)) (i:Nat) (kid:PT n),QFs (n+1) pg→pg.ks.length<15→pg.kids[i]? = some kid→(QEg n kid).length=15 →
  Ct Pr 359 [.pointer p,.I (i:Int),.I 8] (.tup []) [] [PageO (n+1) p pg] emp
   (fun t Bs=>∃pg':Pg (PT n),Bs=[PageO (n+1) p pg']∧QFs (n+1) pg'∧QBl (n+1) pg'=QBl (n+1) pg∧∃(m:KY) (a b:PT n),pg'.ks=QAx pg.ks i m∧pg'.kids=QAx (pg.kids.set i a) (i+1) b∧(QEg n a).length=7∧(QEg n b).length=7):=by
 intro n p pg i kid hg hpl hk hf;obtain⟨h1,h2,h3,h4⟩:pg.ks.length≤15∧pg.vs.length=pg.ks.length∧pg.kids.length=pg.ks.length+1∧∀k∈pg.kids,QFs n k:=hg;have hi:=(List.getElem?_eq_some_iff.1 hk).1;have hgk:QFs n kid:=h4 kid (List.mem_of_getElem? hk)
 -- what the split page is, as a law
 have law:∀(m:KY) (v:Int) (a b:PT n),QFs n a→QFs n b→QBl n kid=QBl n a++m::QBl n b→(QEg n a).length=7→(QEg n b).length=7 →
   ∀pg':Pg (PT n),pg'=⟨QAx pg.ks i m,QAx pg.vs i v,QAx (pg.kids.set i a) (i+1) b⟩→QFs (n+1) pg'∧QBl (n+1) pg'=QBl (n+1) pg∧∃(m:KY) (a b:PT n),pg'.ks=QAx pg.ks i m∧pg'.kids=QAx (pg.kids.set i a) (i+1) b∧(QEg n a).length=7∧(QEg n b).length=7:=by
  rintro m v a b ga gb hab la lb _ rfl;refine⟨⟨?_,?_,?_,?_⟩,?_,m,a,b,rfl,rfl,la,lb⟩
  ·show (QAx pg.ks i m).length≤15;rw[QCI];omega
  ·show (QAx pg.vs i v).length=(QAx pg.ks i m).length;rw[QCI,QCI];omega
  ·show (QAx (pg.kids.set i a) (i+1) b).length=(QAx pg.ks i m).length+1;rw[QCI,QCI,List.length_set];omega
  ·intro k hk';have hk':k∈QAx (pg.kids.set i a) (i+1) b:=hk';unfold QAx at hk';rcases List.mem_append.1 hk' with h|h
   ·rcases List.mem_or_eq_of_mem_set (List.mem_of_mem_take h) with h|h
    ·exact h4 k h
    ·exact h ▸ ga
   ·rcases List.mem_cons.1 h with h|h
    ·exact h ▸ gb
    ·rcases List.mem_or_eq_of_mem_set (List.mem_of_mem_drop h) with h|h
     ·exact h4 k h
     ·exact h ▸ ga
  ·show mix (QAx pg.ks i m) ((QAx (pg.kids.set i a) (i+1) b).map (QBl n))=mix pg.ks (pg.kids.map (QBl n))
   have e:(QAx (pg.kids.set i a) (i+1) b).map (QBl n)=QAx ((pg.kids.map (QBl n)).set i (QBl n a)) (i+1) (QBl n b):=by
    unfold QAx;rw[List.map_append,List.map_cons,List.map_take,List.map_drop,List.map_set]
   rw[e,QQr i m _ _ (by simp;omega) (by simp;omega),QNe i (x:=QBl n kid) (by simp;omega) (by rw[List.getElem?_map,hk];rfl),hab]
 cases n with
 | zero=>
  have hf':(kid:Pg Empty).ks.length=15:=hf;have hvl:(kid:Pg Empty).vs.length=(kid:Pg Empty).ks.length:=hgk.2;have hm:=List.getElem?_eq_getElem (l:=(kid:Pg Empty).ks) (i:=7) (by omega);have hv:=List.getElem?_eq_getElem (l:=(kid:Pg Empty).vs) (i:=7) (by omega);have hc:=QNo (α:=Empty) ER p pg i kid _ _ hk hf' (by omega) (.inl (by cases h:(kid:Pg Empty).kids with|nil=>rfl|cons e _=>exact e.elim)) hm hv (by omega) h2 h3;intro w g hs hmem hr;refine (hc w g hs hmem hr).mono ?_;rintro e w' ⟨t,Bs,he,rfl,hx⟩;refine⟨t,_,he,⟨_,rfl,?_⟩,hx⟩;refine law _ _ (QS5 (kid:Pg Empty)) (QYh (kid:Pg Empty)) ⟨?_,?_⟩ ⟨?_,?_⟩ ?_ ?_ ?_ _ rfl
  ·show ((kid:Pg Empty).ks.take 7).length≤15;simp;omega
  ·show ((kid:Pg Empty).vs.take 7).length=((kid:Pg Empty).ks.take 7).length;simp;omega
  ·show ((kid:Pg Empty).ks.drop 8).length≤15;simp;omega
  ·show ((kid:Pg Empty).vs.drop 8).length=((kid:Pg Empty).ks.drop 8).length;simp;omega
  ·show (kid:Pg Empty).ks=(kid:Pg Empty).ks.take 7++(kid:Pg Empty).ks[7]::(kid:Pg Empty).ks.drop 8;rw[←List.drop_eq_getElem_cons,List.take_append_drop]
  ·show ((kid:Pg Empty).ks.take 7).length=7;simp;omega
  ·show ((kid:Pg Empty).ks.drop 8).length=7;simp;omega
 | succ n=>
  obtain⟨g1,g2,g3,g4⟩:(kid:Pg (PT n)).ks.length≤15∧(kid:Pg (PT n)).vs.length=(kid:Pg (PT n)).ks.length∧(kid:Pg (PT n)).kids.length=(kid:Pg (PT n)).ks.length+1∧∀k∈(kid:Pg (PT n)).kids,QFs n k:=hgk;have hf':(kid:Pg (PT n)).ks.length=15:=hf;have hm:=List.getElem?_eq_getElem (l:=(kid:Pg (PT n)).ks) (i:=7) (by omega);have hv:=List.getElem?_eq_getElem (l:=(kid:Pg (PT n)).vs) (i:=7) (by omega);have hc:=QNo (α:=PT n) (PageO n) p pg i kid _ _ hk hf' (by omega) (.inr (by omega)) hm hv (by omega) h2 h3;intro w g hs hmem hr;refine (hc w g hs hmem hr).mono ?_;rintro e w' ⟨t,Bs,he,rfl,hx⟩;refine⟨t,_,he,⟨_,rfl,?_⟩,hx⟩;refine law _ _ (QS5 (kid:Pg (PT n))) (QYh (kid:Pg (PT n))) ⟨?_,?_,?_,?_⟩ ⟨?_,?_,?_,?_⟩ ?_ ?_ ?_ _ rfl
  ·show ((kid:Pg (PT n)).ks.take 7).length≤15;simp;omega
  ·show ((kid:Pg (PT n)).vs.take 7).length=((kid:Pg (PT n)).ks.take 7).length;simp;omega
  ·show ((kid:Pg (PT n)).kids.take 8).length=((kid:Pg (PT n)).ks.take 7).length+1;simp;omega
  ·exact fun k hk=>g4 k (List.mem_of_mem_take hk)
  ·show ((kid:Pg (PT n)).ks.drop 8).length≤15;simp;omega
  ·show ((kid:Pg (PT n)).vs.drop 8).length=((kid:Pg (PT n)).ks.drop 8).length;simp;omega
  ·show ((kid:Pg (PT n)).kids.drop 8).length=((kid:Pg (PT n)).ks.drop 8).length+1;simp;omega
  ·exact fun k hk=>g4 k (List.mem_of_mem_drop hk)
  ·show mix (kid:Pg (PT n)).ks ((kid:Pg (PT n)).kids.map (QBl n))=mix ((kid:Pg (PT n)).ks.take 7) (((kid:Pg (PT n)).kids.take 8).map (QBl n))++(kid:Pg (PT n)).ks[7]::mix ((kid:Pg (PT n)).ks.drop 8) (((kid:Pg (PT n)).kids.drop 8).map (QBl n));rw[QT7 7 (by simp;omega) hm,List.map_take,List.map_drop]
  ·show ((kid:Pg (PT n)).ks.take 7).length=7;simp;omega
  ·show ((kid:Pg (PT n)).ks.drop 8).length=7;simp;omega
def QWk(rp:Option Addr)(L:List KY):HP:=fun h=>(rp=none∧L=[])∨∃(N:Nat) (pg:PT N),QFs N pg∧QBl N pg=L∧PageO N rp pg h
def QEO(q:Option Addr)(L:List KY):HP:=fun h=>QSp L∧∃b rp,q=some ⟨b,0,none⟩∧QBn [Blk b [.I 8,.pointer rp,.I (L.length:Int)],QWk rp L] h
theorem QgD(i:Nat){q:Option Addr}{L:List KY}{F:List HP}[p:Pick i As (QEO q L) F]{φ:WP}
  (k:QSp L→∀b rp,q=some ⟨b,0,none⟩→Ent B (Blk b [.I 8,.pointer rp,.I (L.length:Int)]::QWk rp L::F) φ):Ent B As φ:=by
 refine Ent.perm p.perm ?_;rintro w ⟨g,⟨a,c,⟨hs,b,rp,hq,pa⟩,pc,d,sa,sc⟩,hm,hu⟩;exact k hs b rp hq w ⟨g,(QAj [_,_] F).2 ⟨a,c,pa,pc,d,sa,sc⟩,hm,hu⟩
theorem QNc(b:Nat)(rp:Option Addr)(L:List KY)(hs:QSp L){G:List HP}[p:Split [Blk b [.I 8,.pointer rp,.I (L.length:Int)],QWk rp L] As G]{φ:WP}
  (k:Ent B (QEO (some ⟨b,0,none⟩) L::G) φ):Ent B As φ:=
 QBR [Blk b [.I 8,.pointer rp,.I (L.length:Int)],QWk rp L] (QEO (some ⟨b,0,none⟩) L) (fun g hg=>⟨hs,b,rp,rfl,hg⟩) k
theorem Qbi:Ct Pr 265 [.I 8] (.tup [none,none]) [.ptr,.I] [] emp (fun t Bs=>t.2.1=0∧Bs=[QEO t.1 []]):=by
 refine sp2 (QT5 _) fun B _=>?_;unfold QT5 mf;dsimp only;refine QBF (by decide) (QAL fun b=>?_);refine QYz (A:=QWk none []) (.inl ⟨rfl,rfl⟩) ?_;exact QNc b none [] List.Pairwise.nil (QAE ⟨rfl,rfl⟩)
theorem Qex(i:Nat):∀{n:Nat}{q:Option Addr}{pg:PT n}{As F:List HP} [p:Pick i As (PageO n q pg) F] {K:Sl→WP},(∀s:Sl,s.n=(QEg n pg).length→Ent B (PageO n q pg::F) (K s))→Ent B As (QC0 q fun a=>QAs .slice a fun s=>K s)
 | 0,q,(pg:Pg Empty),As,F,p,K,h=>by
  have p':Pick i As (PageR ER q pg) F:=p;refine QWE i fun b ks vs cs kp hq _ _=>?_;subst hq;refine QAS (xgq (QCn (E:=KE) (xs:=pg.ks) ks fun hn _=>?_));refine QB3 b ks vs cs kp (pg:=pg) (R:=ER) ?_;exact h ks hn.symm
 | n+1,q,(pg:Pg (PT n)),As,F,p,K,h=>by
  have p':Pick i As (PageR (PageO n) q pg) F:=p;refine QWE i fun b ks vs cs kp hq _ _=>?_;subst hq;refine QAS (xgq (QCn (E:=KE) (xs:=pg.ks) ks fun hn _=>?_));refine QB3 b ks vs cs kp (pg:=pg) (R:=PageO n) ?_;exact h ks hn.symm
theorem QUr{α:Type}{l:List α}{i j:Nat}{x:α}(h:j<i)(hi:i≤l.length):(QAx l i x)[j]? = l[j]?:=by
 unfold QAx;rw[List.getElem?_append_left (by simp;omega),List.getElem?_take_of_lt h]
theorem QVP{α:Type}{l:List α}{i:Nat}{x:α}(hi:i≤l.length):(QAx l i x)[i]? = some x:=by
 unfold QAx;rw[List.getElem?_append_right (by simp;omega)];simp[Nat.min_eq_left hi]
theorem Qbt{α:Type}{l:List α}{i j:Nat}{x:α}(h:i≤j)(hi:i≤l.length):(QAx l i x)[j+1]? = l[j]?:=by
 unfold QAx;rw[List.getElem?_append_right (by simp;omega),List.length_take,Nat.min_eq_left hi,show j+1 - i=(j - i)+1 by omega,List.getElem?_cons_succ,List.getElem?_drop,show i+(j - i)=j by omega]
theorem QV9{ks:List KY}{k m:KY}:plK ks k≤plK (QAx ks (plK ks k) m) k:=by
 have hi:=QMi ks k;generalize hp:plK (QAx ks (plK ks k) m) k=p;rcases Nat.lt_or_ge p (plK ks k) with h1|h1
 ·exfalso
  have hlt:p<ks.length:=by omega
  have h2:=QR7 (ks:=QAx ks (plK ks k) m) (k:=k) (y:=ks[p]) (by rw[hp,QUr h1 hi,List.getElem?_eq_getElem hlt]);rw[QUz p _ h1 (List.getElem?_eq_getElem hlt)]at h2;cases h2
 ·exact h1
theorem Qbe{ks:List KY}{k m:KY}:plK (QAx ks (plK ks k) m) k=plK ks k∨plK (QAx ks (plK ks k) m) k=plK ks k+1:=by
 have hi:=QMi ks k;have ge:=QV9 (ks:=ks) (k:=k) (m:=m);have hy:=QVP (x:=m) hi;by_cases h:ltK m k=true
 ·right;have g1:=QUw ge hy h;rcases Nat.lt_or_ge (plK ks k) ks.length with hl|hl
  ·have hz:=Qbt (x:=m) (Nat.le_refl _) hi;rw[List.getElem?_eq_getElem hl]at hz;exact QOj g1 hz (QR7 (List.getElem?_eq_getElem hl))
  ·have:=QMi (QAx ks (plK ks k) m) k;rw[QCI]at this;omega
 ·left;exact QOj ge hy (by simpa using h)
theorem QWp{n:Nat}{pg pg':Pg (PT n)}{k m:KY}{a b:PT n}(hl:plK pg.ks k<pg.kids.length)(h1:pg'.ks=QAx pg.ks (plK pg.ks k) m)(h2:pg'.kids=QAx (pg.kids.set (plK pg.ks k) a) (plK pg.ks k+1) b)(ha:(QEg n a).length=7)(hb:(QEg n b).length=7):Qa7 (n+1) pg' k=false:=by
 have e0:pg'.kids[plK pg.ks k]? = some a:=by
  rw[h2,QUr (by omega) (by simp;omega),List.getElem?_set_self hl]
 have e1:pg'.kids[plK pg.ks k+1]? = some b:=by
  rw[h2,QVP (by simp;omega)]
 show (match pg'.kids[plK pg'.ks k]? with
  | some kid=>(QEg n kid).length == 15
  | none=>false)=false
 rcases Qbe (ks:=pg.ks) (k:=k) (m:=m) with e|e
 ·rw[h1,e,e0];simp[ha]
 ·rw[h1,e,e1];simp[hb]
def room(n:Nat)(pg:PT n)(k:KY):Prop:=(QEg n pg).length<15∨(n≠0∧Qa7 n pg k=false)
def mes(n:Nat)(pg:PT n)(k:KY):Nat:=2*n+(if Qa7 n pg k=true then 1 else 0)
def Qgd(n:Nat)(p rp:Option Addr)(W:HP)(pre suf:List KY):Prop:=∀(pg':PT n) g,QFs n pg'→QBn [PageO n p pg',W] g→∃(N:Nat) (r:PT N),QFs N r∧QBl N r=pre++(QBl n pg'++suf)∧PageO N rp r g
def QhR(b tb:Nat)(k:KY)(rp:Option Addr)(L:List KY)(m:Nat)(p:Option Addr)(As':List HP):Prop:=∃(n:Nat) (pg:PT n) (W:HP) (pre suf:List KY),QFs n pg∧L=pre++(QBl n pg++suf)∧(∀y∈pre,ltK y k=true)∧(∀y∈suf,ltK k y=true)∧room n pg k∧m=mes n pg k∧Qgd n p rp W pre suf ∧
 As'=[Blk b [.I k.1,.I k.2],Blk tb [.I 8,.pointer rp,.I (L.length:Int)],PageO n p pg,W]
theorem PageR.mono{α:Type}{R:Option Addr→α→HP}{p:Option Addr}{pg:Pg α}{g h:QBh}(a:PageR R p pg g)(s:Sub g h):PageR R p pg h:=by
 obtain⟨b,ks,vs,cs,kp,hp,ha⟩:=a;exact⟨b,ks,vs,cs,kp,hp,QCV _ ha s⟩
theorem PageO.mono:∀{n:Nat}{p:Option Addr}{pg:PT n}{g h:QBh},PageO n p pg g→Sub g h→PageO n p pg h
 | 0,p,pg,g,h,a,s=>PageR.mono a s
 | n+1,p,pg,g,h,a,s=>PageR.mono a s
theorem PageO.some:∀{n:Nat}{p:Option Addr}{pg:PT n}{g:QBh},PageO n p pg g→∃b,p=some ⟨b,0,none⟩
 | 0,p,pg,g,⟨b,_,_,_,_,h,_⟩=>⟨b,h⟩
 | n+1,p,pg,g,⟨b,_,_,_,_,h,_⟩=>⟨b,h⟩
theorem QPS{α:Type}{l:List α}{i:Nat}{x:α}(h:l[i]? = some x):l.set i x=l:=by
 apply List.ext_getElem?;intro j;by_cases e:i=j
 ·subst e;rw[List.getElem?_set_self (List.getElem?_eq_some_iff.1 h).1,h]
 ·rw[List.getElem?_set_ne e]
theorem QN2{α:Type}{R:Option Addr→α→HP}(pg:Pg α)(i:Nat)(hi:i<pg.vs.length)(v:Int)(pb:Nat)(ks vs cs:Sl)(kp:List (Option Addr)){K:WP}(h:Ent B (PageR R (some ⟨pb,0,none⟩) ⟨pg.ks,pg.vs.set i v,pg.kids⟩::F) K) :
  Ent B (Blk pb [ks.v,vs.v,cs.v]::Ar KE ks pg.ks::Ar I64 vs pg.vs::Ar PE cs kp::Each R kp pg.kids::F) (QC0 (some ⟨pb,0,none⟩) fun a10=>QAs .slice (a10.add 1) fun s1=>QJ2 s1.p s1.n (i:Int) 1 fun a11=>QBJ a11 (.I v)<|K):=by
 refine QAS (xgq ?_);refine QAI (E:=I64) (xs:=pg.vs) (s:=vs) (h1:=hi) (h:=fun y hy=>?_);refine QHZ (E:=I64) (xs:=pg.vs) v hy (hv:=rfl) (h:=?_);exact QB3 pb ks vs cs kp (pg:=⟨pg.ks,pg.vs.set i v,pg.kids⟩) (R:=R) h
theorem QaU{n:Nat}{pg:PT n}{L pre suf:List KY}(hs:QSp L)(h:L=pre++(QBl n pg++suf)):QSp (QBl n pg):=by
 rw[h]at hs;exact (List.pairwise_append.1 (List.pairwise_append.1 hs).2.1).1
theorem QSe{n:Nat}{p rp:Option Addr}{W:HP}{pre suf L:List KY}{tb:Nat}{k:KY}(hs:QSp L)(pg':PT n)(hg':QFs n pg')(hW:Qgd n p rp W pre suf)(hk:pre++(QBl n pg'++suf)=QKo k L){c:Int}(hc:c=((QKo k L).length:Int)){G:List HP}{x:Bool}
  [q:Split [PageO n p pg',W,Blk tb [.I 8,.pointer rp,.I c]] As G]:Ent B As (Ret B (ss:=[.bool]) (fun t Bs=>Bs=[QEO (some ⟨tb,0,none⟩) (QKo k L)]) (x,())):=by
 subst hc;refine QAM [PageO n p pg',W,Blk tb [.I 8,.pointer rp,.I ((QKo k L).length:Int)]] ?_;refine QBR [PageO n p pg',W] (QWk rp (QKo k L)) (fun g hg=>?_) ?_
 ·obtain⟨N,r,h1,h2,h3⟩:=hW pg' g hg' hg;exact .inr ⟨N,r,h1,h2.trans hk,h3⟩
 ·exact QNc tb rp (QKo k L) (QX4 hs) (QAE rfl)
theorem QaV(q:Option Addr)(L:List KY)(k:KY)(v:Int)(hL:L.length≤4000000000000000):Ct Pr 266 [.pointer q,.agg #[.I k.1,.I k.2],.I v] .one [.bool] [QEO q L] emp (fun t Bs=>Bs=[QEO q (QKo k L)]):=by
 refine sp1 (QIm _ _ _ _) fun B _=>?_;unfold QIm mf;dsimp only;refine QAL fun b=>QgD 1 fun hs tb rp hq=>?_;subst hq;refine QAS (xgq (QAS (xgq ?_)));refine QBx (fun As'=>∃(rp:Option Addr) (N:Nat) (pg:PT N),QFs N pg∧QBl N pg=L∧As'=[Blk b [.I k.1,.I k.2],Blk tb [.I 8,.pointer rp,.I (L.length:Int)],PageO N rp pg]) (fun K1 hK1=>?_) ?_
 ·refine QFu 1 (fun Bs=>(rp=none∧L=[]∧Bs=[])∨∃(N:Nat) (pg:PT N),QFs N pg∧QBl N pg=L∧rp≠none∧Bs=[PageO N rp pg]) (fun g hg=>?_) ?_
  ·rcases hg with⟨h1,h2⟩|⟨N,pg,h1,h2,h3⟩
   ·exact⟨[],.inl ⟨h1,h2,rfl⟩,trivial⟩
   ·obtain⟨rb,hrb⟩:=h3.some;exact⟨_,.inr ⟨N,pg,h1,h2,by rw[hrb];simp,rfl⟩,QCd h3⟩
  ·rintro Bs (⟨rfl,rfl,rfl⟩|⟨N,pg,h1,h2,h3,rfl⟩)
   ·refine QAz (QBk rfl (QAL fun b1=>QAS (xsq ?_)));refine QAf 0 (Q:=Blk b1 [(⟨none,0,0⟩:Sl).v,(⟨none,0,0⟩:Sl).v,(⟨none,0,0⟩:Sl).v]) (fun g hg=>hg) ?_;refine QAd KE (QAd I64 (QAd PE ?_));refine QYz (A:=Each ER [] []) trivial ?_;refine QB3 b1 ⟨none,0,0⟩ ⟨none,0,0⟩ ⟨none,0,0⟩ [] (pg:=(⟨[],[],[]⟩:Pg Empty)) (R:=ER) ?_;exact QAM [Blk b [.I k.1,.I k.2],Blk tb [.I 8,.pointer (some ⟨b1,0,none⟩),.I 0],PageR ER (some ⟨b1,0,none⟩) (⟨[],[],[]⟩:Pg Empty)] (hK1 _ ⟨some ⟨b1,0,none⟩,0,(⟨[],[],[]⟩:Pg Empty),⟨by simp,rfl⟩,rfl,rfl⟩)
   ·refine QA8 (QBF (by cases rp with|none=>exact absurd rfl h3|some a=>rfl) ?_);exact QAM [Blk b [.I k.1,.I k.2],Blk tb [.I 8,.pointer rp,.I (L.length:Int)],PageO N rp pg] (hK1 _ ⟨rp,N,pg,h1,h2,rfl⟩)
 rintro As1 ⟨rp,N,pg,hg,hk,rfl⟩;refine QAS (xgq (Qex 2 fun s hsn=>?_))
 have e15:IntKind.i64.wrap ((IntKind.i64.wrap (2*8)) - 1)=15:=by decide
 rw[e15];have hlen:=QT3 hg;refine QBx (fun As'=>∃(rp:Option Addr) (N:Nat) (pg:PT N),QFs N pg∧QBl N pg=L∧(QEg N pg).length<15∧As'=[Blk b [.I k.1,.I k.2],Blk tb [.I 8,.pointer rp,.I (L.length:Int)],PageO N rp pg]) (fun K1 hK1=>?_) ?_
 ·refine xif (fun h=>?_) (fun h=>?_)
  ·have h15:(QEg N pg).length=15:=by have:=eq_of_beq h;omega
   refine QAS (xgq (QAL fun b2=>QAL fun b3=>QAS (xsq (QAP (QAS (xgq (QAS (xgq ?_))))))));refine QAf 0 (Q:=Blk b3 [(⟨none,0,0⟩:Sl).v,(⟨none,0,0⟩:Sl).v,(⟨some ⟨b2,0,none⟩,1,1⟩:Sl).v]) (fun g hg=>hg) ?_;refine QAf 1 (Q:=Ar PE ⟨some ⟨b2,0,none⟩,1,1⟩ [rp]) (fun g hg=>⟨[],QAm [rp] 1 rfl rfl hg⟩) ?_
   refine QBR [PageO N rp pg] (Each (PageO N) [rp] [pg]) (fun g hg=>by
    obtain⟨a,c,pa,pc,d,sa,sc⟩:=hg
    exact⟨a,c,pa,QCd trivial,d,sa,sc⟩) ?_
   refine QAd KE (QAd I64 ?_);refine QB3 b3 ⟨none,0,0⟩ ⟨none,0,0⟩ ⟨some ⟨b2,0,none⟩,1,1⟩ [rp] (pg:=(⟨[],[],[pg]⟩:Pg (PT N))) (R:=PageO N) ?_
   have hc:=QMQ N (some ⟨b3,0,none⟩) (⟨[],[],[pg]⟩:Pg (PT N)) 0 pg ⟨by simp,rfl,rfl,fun x hx=>by
    obtain rfl:x=pg:=by simpa using hx
    exact hg⟩ (by simp) rfl h15
   refine xcl (pre:=[PageR (PageO N) (some ⟨b3,0,none⟩) (⟨[],[],[pg]⟩:Pg (PT N))]) hc rdb ?_;rintro _ _ ⟨pg',rfl,g1,g2,m,a,c,g3,_⟩;refine QA8 (ca0 ?_)
   have hr:(QEg (N+1) pg').length<15:=by
    show pg'.ks.length<15;rw[g3,QCI];simp
   have hk2:QBl (N+1) pg'=L:=by
    rw[g2];exact hk
   exact QAM [Blk b [.I k.1,.I k.2],Blk tb [.I 8,.pointer (some ⟨b3,0,none⟩),.I (L.length:Int)],PageO (N+1) (some ⟨b3,0,none⟩) pg'] (hK1 _ ⟨some ⟨b3,0,none⟩,N+1,pg',g1,hk2,hr,rfl⟩)
  ·have h15:(QEg N pg).length≠15:=fun e=>by
    have:((s.n:Int) == 15)=true:=by rw[hsn,e];rfl
    rw[this]at h;cases h
   exact QAM [Blk b [.I k.1,.I k.2],Blk tb [.I 8,.pointer rp,.I (L.length:Int)],PageO N rp pg] (hK1 _ ⟨rp,N,pg,hg,hk,by omega,rfl⟩)
 clear hg hk hlen hsn s pg N rp;rintro As1 ⟨rp,N,pg,hg,hk,hlt,rfl⟩;refine QAS (xgq ?_);refine QYz (A:=fun _=>True) trivial (QeJ 0 ?_);refine QBV (fun m x As'=>QhR b tb k rp L m x As') (mes N pg k) ⟨N,pg,_,[],[],hg,by simp[hk],by simp,by simp,.inl hlt,rfl,?_,rfl⟩ ?_
 ·rintro pg' g hg' ⟨a,c,pa,_,_,sa,_⟩;exact⟨N,pg',hg',by simp,pa.mono sa⟩
 clear hg hk hlt pg N;rintro m p As' K ⟨n,pg,W,pre,suf,hg,hLe,hpre,hsuf,hroom,rfl,hW,rfl⟩ hK;have hsn:=QaU hs hLe;refine QAJ (xgq (xgq ?_))
 cases n with
 | zero=>
  change Pg Empty at pg;have hg':pg.ks.length≤15∧pg.vs.length=pg.ks.length:=hg;refine QAf 2 (P1:=PageO 0 p pg) (Q:=PageR ER p pg) (fun g hg=>hg) ?_;refine QWE 0 (R:=ER) (pg:=pg) fun pb ks vs cs kp hp hkl hcs=>?_;subst hp;refine xcl (QR2 pb ks vs.v cs.v pg.ks k (by omega)) rdb ?_;rintro⟨r,c,_⟩ _ ⟨hr,hc,rfl⟩;simp only at hr hc;subst hr hc;refine QBM (ca2 (xif (fun h=>?_) (fun h=>?_)))
  ·have h':pg.ks[plK pg.ks k]? = some k:=of_decide_eq_true h;have hi:=(List.getElem?_eq_some_iff.1 h').1
   have hmem:k∈L:=by rw[hLe];exact List.mem_append_right _ (List.mem_append_left _ (List.mem_of_getElem? h'))
   refine QKZ (QN2 (R:=ER) (F:=[Blk tb [.I 8,.pointer rp,.I (L.length:Int)],W]) pg (plK pg.ks k) (by omega) v pb ks vs cs kp ?_);refine QAf 0 (Q:=PageO 0 (some ⟨pb,0,none⟩) (⟨pg.ks,pg.vs.set (plK pg.ks k) v,pg.kids⟩:Pg Empty)) (fun g hg=>hg) ?_;exact QSe (n:=0) (p:=some ⟨pb,0,none⟩) (rp:=rp) (tb:=tb) (c:=(L.length:Int)) hs (⟨pg.ks,pg.vs.set (plK pg.ks k) v,pg.kids⟩:Pg Empty) ⟨hg'.1,by simp[hg'.2]⟩ hW (by rw[QJp hmem];exact hLe.symm) (by rw[QJp hmem])
  ·have h':pg.ks[plK pg.ks k]?≠some k:=of_decide_eq_false h;have hpl:=QMi pg.ks k
   have h15:pg.ks.length<15:=by
    rcases hroom with h|⟨h,_⟩
    ·exact h
    ·exact absurd rfl h
   have hk0:(pg.kids).length=0:=by cases e:pg.kids with|nil=>rfl|cons x _=>exact x.elim
   refine QAS (QAA (h:=QBk (by rw[hcs,hk0];rfl) (QAP (QAS (xgq (xgq (xgq (QAS (xgq ?_)))))))));refine xcl (QRQ ks pg.ks (plK pg.ks k) k hpl (by omega)) rdb ?_;rintro⟨s5,_⟩ _ rfl;refine QA8 (ca1 (QC7 (h:=?_)));refine xcl (QQU vs pg.vs (plK pg.ks k) v (by omega) (by omega)) rdb ?_;rintro⟨s6,_⟩ _ rfl;refine QA8 (ca1 (QAS (xsq (QAS (xsq (QAS (xgq (QAS (xsq ?_)))))))));refine QB3 pb s5 s6 cs kp (pg:=(⟨QAx pg.ks (plK pg.ks k) k,QAx pg.vs (plK pg.ks k) v,pg.kids⟩:Pg Empty)) (R:=ER) ?_
   have hnk:k∉pg.ks:=fun hm=>by
    have:=QU4 (ks:=pg.ks) hsn h';have hl:(QAx pg.ks (plK pg.ks k) k).length=(QKo k pg.ks).length:=congrArg List.length this;rw[QCI,QJp hm]at hl;omega
   have hnot:k∉L:=fun hm=>by
    rw[hLe]at hm;rcases List.mem_append.1 hm with hm|hm
    ·have:=hpre k hm;rw[QMo]at this;cases this
    ·rcases List.mem_append.1 hm with hm|hm
     ·exact hnk hm
     ·have:=hsuf k hm;rw[QMo]at this;cases this
   refine QAf 0 (Q:=PageO 0 (some ⟨pb,0,none⟩) (⟨QAx pg.ks (plK pg.ks k) k,QAx pg.vs (plK pg.ks k) v,pg.kids⟩:Pg Empty)) (fun g hg=>hg) ?_;refine QSe (n:=0) (p:=some ⟨pb,0,none⟩) (rp:=rp) (tb:=tb) (c:=IntKind.i64.wrap ((L.length:Int)+1)) hs (⟨QAx pg.ks (plK pg.ks k) k,QAx pg.vs (plK pg.ks k) v,pg.kids⟩:Pg Empty) ⟨?_,?_⟩ hW ?_ ?_
   ·show (QAx pg.ks (plK pg.ks k) k).length≤15;rw[QCI];omega
   ·show (QAx pg.vs (plK pg.ks k) v).length=(QAx pg.ks (plK pg.ks k) k).length;rw[QCI,QCI];omega
   ·show pre++(QAx pg.ks (plK pg.ks k) k++suf)=_;rw[QU4 (ks:=pg.ks) hsn h',hLe,QZW hpre hsuf];rfl
   ·rw[QZp hnot];exact QAF _ (by omega)
 | succ n=>
  change Pg (PT n) at pg;obtain⟨g1,g2,g3,g4⟩:pg.ks.length≤15∧pg.vs.length=pg.ks.length∧pg.kids.length=pg.ks.length+1∧∀k∈pg.kids,QFs n k:=hg;refine QAf 2 (P1:=PageO (n+1) p pg) (Q:=PageR (PageO n) p pg) (fun g hg=>hg) ?_;refine QWE 0 (R:=PageO n) (pg:=pg) fun pb ks vs cs kp hp hkl hcs=>?_;subst hp;refine xcl (QR2 pb ks vs.v cs.v pg.ks k (by omega)) rdb ?_;rintro⟨r,c,_⟩ _ ⟨hr,hc,rfl⟩;simp only at hr hc;subst hr hc;have hpl:=QMi pg.ks k
  have hml:(pg.kids.map (QBl n)).length=pg.ks.length+1:=by simpa using g3
  refine QBM (ca2 (xif (fun h=>?_) (fun h=>?_)))
  ·have h':pg.ks[plK pg.ks k]? = some k:=of_decide_eq_true h;have hi:=(List.getElem?_eq_some_iff.1 h').1
   have hmem:k∈L:=by rw[hLe];exact List.mem_append_right _ (List.mem_append_left _ (Qde hml h'))
   refine QKZ (QN2 (R:=PageO n) (F:=[Blk tb [.I 8,.pointer rp,.I (L.length:Int)],W]) pg (plK pg.ks k) (by omega) v pb ks vs cs kp ?_);refine QAf 0 (Q:=PageO (n+1) (some ⟨pb,0,none⟩) (⟨pg.ks,pg.vs.set (plK pg.ks k) v,pg.kids⟩:Pg (PT n))) (fun g hg=>hg) ?_;exact QSe (n:=n+1) (p:=some ⟨pb,0,none⟩) (rp:=rp) (tb:=tb) (c:=(L.length:Int)) hs (⟨pg.ks,pg.vs.set (plK pg.ks k) v,pg.kids⟩:Pg (PT n)) ⟨g1,by simp[g2],g3,g4⟩ hW (by rw[QJp hmem];exact hLe.symm) (by rw[QJp hmem])
  ·have h':pg.ks[plK pg.ks k]?≠some k:=of_decide_eq_false h;obtain⟨kid,hkid⟩:∃x,pg.kids[plK pg.ks k]? = some x:=⟨_,List.getElem?_eq_getElem (by omega)⟩;obtain⟨q,hq⟩:∃x,kp[plK pg.ks k]? = some x:=⟨_,List.getElem?_eq_getElem (by omega)⟩;have hgk:=g4 kid (List.mem_of_getElem? hkid)
   have hfull:Qa7 (n+1) pg k=((QEg n kid).length == 15):=by
    show (match pg.kids[plK pg.ks k]? with
     | some kid=>(QEg n kid).length == 15
     | none=>false)=_
    rw[hkid]
   have hlt:plK pg.ks k<kp.length:=by rw[hkl,g3];omega
   refine QAS (QAA (h:=QBF (by rw[beq_eq_false_iff_ne];omega) (QAS (xgq ?_))));refine QAI (E:=PE) (xs:=kp) (s:=cs) (h1:=hlt) (h:=fun y hy=>?_);refine QAO (E:=PE) (xs:=kp) hq (h:=?_);refine QdH 4 (P1:=Each (PageO n) kp pg.kids) [PageO n q kid,Each (PageO n) (kp.eraseIdx (plK pg.ks k)) (pg.kids.eraseIdx (plK pg.ks k))] (fun g hg=>QCB hg hq hkid) (QBM ?_);refine Qex 0 fun s8 hs8=>?_;refine xif (fun hf=>?_) (fun hf=>?_)
   ·have hf':(QEg n kid).length=15:=by have:=eq_of_beq hf;omega
    have hl15:pg.ks.length<15:=by
     rcases hroom with h|⟨_,h⟩
     ·exact h
     ·rw[hfull,hf']at h;cases h
    refine QAS (xgq ?_)
    refine QBR [PageO n q kid,Each (PageO n) (kp.eraseIdx (plK pg.ks k)) (pg.kids.eraseIdx (plK pg.ks k))] (Each (PageO n) kp pg.kids) (fun g hg=>by
     have:=QDJ (by omega) (by omega) hg
     rwa [QPS hq,QPS hkid]at this) ?_
    refine QB3 pb ks vs cs kp (pg:=pg) (R:=PageO n) ?_;refine xcl (pre:=[PageR (PageO n) (some ⟨pb,0,none⟩) pg]) (QMQ n (some ⟨pb,0,none⟩) pg (plK pg.ks k) kid ⟨g1,g2,g3,g4⟩ hl15 hkid hf') rdb ?_;rintro _ _ ⟨pg',rfl,p1,p2,m,a,c,p3,p4,p5,p6⟩;refine QA8 (ca0 ?_);have hfu:=QWp (k:=k) (by omega) p3 p4 p5 p6;refine QAM [Blk b [.I k.1,.I k.2],Blk tb [.I 8,.pointer rp,.I (L.length:Int)],PageO (n+1) (some ⟨pb,0,none⟩) pg',W] (hK (mes (n+1) pg' k) _ _ ?_ ⟨n+1,pg',W,pre,suf,p1,by rw[p2];exact hLe,hpre,hsuf,.inr ⟨by omega,hfu⟩,rfl,hW,rfl⟩);unfold mes;rw[hfu,hfull,hf'];simp
   ·have hf':(QEg n kid).length≠15:=fun e=>by
     have:((s8.n:Int) == 15)=true:=by rw[hs8,e];rfl
     rw[this]at hf;cases hf
    have hkl15:=QT3 hgk;refine QAS (xgq ?_);refine QAI (E:=PE) (xs:=kp) (s:=cs) (h1:=by omega) (h:=fun y hy=>?_);refine QAO (E:=PE) (xs:=kp) hq (h:=?_)
    have hmk:(pg.kids.map (QBl n))[plK pg.ks k]? = some (QBl n kid):=by rw[List.getElem?_map,hkid];rfl
    have hkn:QBl (n+1) pg=QMt pg.ks (pg.kids.map (QBl n)) (plK pg.ks k)++(QBl n kid++QLc pg.ks (pg.kids.map (QBl n)) (plK pg.ks k)):=QNe _ hml hmk
    let W':HP:=QBn [Blk pb [ks.v,vs.v,cs.v],Ar KE ks pg.ks,Ar I64 vs pg.vs,Ar PE cs kp,Each (PageO n) (kp.eraseIdx (plK pg.ks k)) (pg.kids.eraseIdx (plK pg.ks k)),W]
    refine QBR [Blk pb [ks.v,vs.v,cs.v],Ar KE ks pg.ks,Ar I64 vs pg.vs,Ar PE cs kp,Each (PageO n) (kp.eraseIdx (plK pg.ks k)) (pg.kids.eraseIdx (plK pg.ks k)),W] W' (fun g hg=>hg) ?_;refine QAM [Blk b [.I k.1,.I k.2],Blk tb [.I 8,.pointer rp,.I (L.length:Int)],PageO n q kid,W'] (hK (mes n kid k) _ _ ?_ ⟨n,kid,W',pre++QMt pg.ks (pg.kids.map (QBl n)) (plK pg.ks k),QLc pg.ks (pg.kids.map (QBl n)) (plK pg.ks k)++suf,hgk,?_,?_,?_,.inl (by omega),rfl,?_,rfl⟩)
    ·unfold mes;split<;>split<;>omega
    ·rw[hLe,hkn];simp only[List.append_assoc]
    ·intro y hy;rcases List.mem_append.1 hy with hy|hy
     ·exact hpre y hy
     ·exact Qa9 hml hsn y hy
    ·intro y hy;rcases List.mem_append.1 hy with hy|hy
     ·exact QXt hml hsn h' y hy
     ·exact hsuf y hy
    ·intro kid' g hgk' hg'
     have h1:QBn ([PageO n q kid']++[Blk pb [ks.v,vs.v,cs.v],Ar KE ks pg.ks,Ar I64 vs pg.vs,Ar PE cs kp,Each (PageO n) (kp.eraseIdx (plK pg.ks k)) (pg.kids.eraseIdx (plK pg.ks k)),W]) g:=by
      obtain⟨a,c,pa,⟨d,e,pd,_,_,sd,_⟩,dd,sa,sc⟩:=hg';exact (QAj [PageO n q kid'] _).2 ⟨a,d,QCd pa,pd,dd.sub (Sub.refl _) sd,sa,sd.trans sc⟩
     have hperm:([PageO n q kid',Blk pb [ks.v,vs.v,cs.v],Ar KE ks pg.ks,Ar I64 vs pg.vs,Ar PE cs kp,Each (PageO n) (kp.eraseIdx (plK pg.ks k)) (pg.kids.eraseIdx (plK pg.ks k)),W]:List HP).Perm
       ([PageO n q kid',Each (PageO n) (kp.eraseIdx (plK pg.ks k)) (pg.kids.eraseIdx (plK pg.ks k))]++[Blk pb [ks.v,vs.v,cs.v],Ar KE ks pg.ks,Ar I64 vs pg.vs,Ar PE cs kp,W]):=
      (inferInstance:Split [PageO n q kid',Each (PageO n) (kp.eraseIdx (plK pg.ks k)) (pg.kids.eraseIdx (plK pg.ks k))] _ _).perm
     have h2:=QDH (P:=Each (PageO n) kp (pg.kids.set (plK pg.ks k) kid')) (fun g hg=>by
      have:=QDJ (by omega) (by omega) hg
      rwa [QPS hq]at this) (QFA hperm h1)
     let pg2:Pg (PT n):=⟨pg.ks,pg.vs,pg.kids.set (plK pg.ks k) kid'⟩
     have hperm2:([Each (PageO n) kp (pg.kids.set (plK pg.ks k) kid'),Blk pb [ks.v,vs.v,cs.v],Ar KE ks pg.ks,Ar I64 vs pg.vs,Ar PE cs kp,W]:List HP).Perm
       ([Blk pb [ks.v,vs.v,cs.v],Ar KE ks pg.ks,Ar I64 vs pg.vs,Ar PE cs kp,Each (PageO n) kp (pg.kids.set (plK pg.ks k) kid')]++[W]):=
      (inferInstance:Split [Blk pb [ks.v,vs.v,cs.v],Ar KE ks pg.ks,Ar I64 vs pg.vs,Ar PE cs kp,Each (PageO n) kp (pg.kids.set (plK pg.ks k) kid')] _ _).perm
     have h3:QBn [PageO (n+1) (some ⟨pb,0,none⟩) pg2,W] g:=QDH (l:=[Blk pb [ks.v,vs.v,cs.v],Ar KE ks pg.ks,Ar I64 vs pg.vs,Ar PE cs kp,Each (PageO n) kp (pg.kids.set (plK pg.ks k) kid')]) (P:=PageO (n+1) (some ⟨pb,0,none⟩) pg2) (fun g hg=>⟨pb,ks,vs,cs,kp,rfl,hg⟩) (QFA hperm2 h2)
     obtain⟨N,r,r1,r2,r3⟩:=hW pg2 g ⟨g1,g2,by show (pg.kids.set _ _).length=_;simpa using g3,fun x hx=>by
      rcases List.mem_or_eq_of_mem_set hx with h|h
      ·exact g4 x h
      ·exact h ▸ hgk'⟩ h3
     refine⟨N,r,r1,?_,r3⟩;rw[r2]
     have:QBl (n+1) pg2=QMt pg.ks (pg.kids.map (QBl n)) (plK pg.ks k)++(QBl n kid'++QLc pg.ks (pg.kids.map (QBl n)) (plK pg.ks k)):=by
      show mix pg.ks ((pg.kids.set (plK pg.ks k) kid').map (QBl n))=_;rw[List.map_set,QZL _ _ hml (by simp;omega)]
     rw[this];simp only[List.append_assoc]
end Go.Cx
namespace Go.Cx
open Go Go.Cf
set_option linter.unusedVariables false
variable {B:QBG}{As:List HP}
def QJs(b:UInt8):Bool:=(decide (97≤b.toNat)&&decide (b.toNat≤122))||(decide (65≤b.toNat)&&decide (b.toNat≤90))
def QYU(b:UInt8):Bool:=(decide (48≤b.toNat)&&decide (b.toNat≤57))||b.toNat == 95||b.toNat == 46||b.toNat == 45
def QbW(s:ByteArray)(i:Nat):Bool:=match s.data.toList[i]? with
 | none=>true
 | some b=>QJs b||(decide (0<i)&&QYU b)
def QEL(s:ByteArray):Bool:=decide (1≤s.size)&&decide (s.size≤16)&&(List.range s.size).all (QbW s)
theorem QGf{s:ByteArray}{k:Nat}(hk:k<s.size)(h:QbW s k=false):QEL s=false:=by
 unfold QEL
 have:(List.range s.size).all (QbW s)=false:=by
  rw[Bool.eq_false_iff];intro e;have:=List.all_eq_true.1 e k (List.mem_range.2 hk);rw[h]at this;cases this
 rw[this];simp
theorem QWq{s:ByteArray}(h:∀i,i<s.size→QbW s i=true):QEL s=(decide (1≤s.size)&&decide (s.size≤16)):=by
 unfold QEL;have:(List.range s.size).all (QbW s)=true:=List.all_eq_true.2 fun i hi=>h i (List.mem_range.1 hi);rw[this];simp
theorem Qc5{s:ByteArray}{k:Nat}(hk:k<s.size):∃b,s.data.toList[k]? = some b:=⟨_,List.getElem?_eq_getElem (by simpa using hk)⟩
theorem QQ6(s:ByteArray):Ct Pr 113 [.string s] .one [.bool] [] emp (fun r Bs=>r.1=QEL s∧Bs=[]):=by
 refine QGR QSk fun B _=>?_;have fin:∀{x:Bool}{As:List HP},x=QEL s→Ent B As (Ret B (ss:=[.bool]) (fun r Bs=>r.1=QEL s∧Bs=[]) (x,())):=fun h=>QAa (l:=[]) (QAE ⟨h,rfl⟩);unfold QRa;refine Qe0 (by kernel_rfl) fun r=>?_;refine Qeo (fun n As'=>∃k,n=s.size - k∧k≤s.size∧As'=[QSw r s k]∧∀i,i<k→QbW s i=true) s.size ⟨0,by omega,by omega,rfl,fun i hi=>by omega⟩ ?_;rintro n As' K ⟨k,rfl,hk,rfl,hall⟩ hK;refine Qfs (fun hp=>?_) (fun hp=>?_)
 ·refine QBF rfl (fin ?_);rw[QWq (fun i hi=>hall i (by omega)),Bool.eq_iff_iff];simp only[Bool.and_eq_true,decide_eq_true_eq];omega
 obtain⟨b,hb⟩:=Qc5 hp
 have hok:QbW s k=(QJs b||(decide (0<k)&&QYU b)):=by simp only[QbW,hb]
 refine QBk rfl ?_;by_cases ha:b.toNat<128
 ·rw[Go.Cf.decode_ascii hb ha]
  (try dsimp only)
  have next:QbW s k=true→Ent B [QSw r s (k+1)] K:=fun h=>hK (s.size - (k+1)) _ (by omega) ⟨k+1,rfl,by omega,rfl,fun i hi=>by
   by_cases e:i=k
   ·subst e;exact h
   ·exact hall i (by omega)⟩
  refine QAU (fun(x:Bool) As'=>As'=[QSw r s (k+1)]∧x=QJs b) (fun K1 h1=>xif (fun e=>h1 _ _ ⟨rfl,?_⟩) (fun e=>h1 _ _ ⟨rfl,?_⟩)) ?_
  ·rw[e];symm;simp[QJs]at *;omega
  ·rw[Bool.eq_iff_iff];simp[QJs]at *;omega
  rintro x As2 ⟨rfl,rfl⟩;refine QAJ (xif (fun e=>next (by rw[hok,e];rfl)) (fun e=>QAJ (xif (fun e0=>?_) (fun e0=>?_))))
  ·refine xif (fun e1=>next ?_) (fun e1=>fin ?_)
   ·rw[hok];simp[QYU]at *;omega
   ·symm;refine QGf hp ?_;rw[hok,e];simp[QYU]at *;omega
  ·refine QBF rfl (fin ?_);symm;refine QGf hp ?_;rw[hok,e];simp at *;omega
 ·have h128:=Go.Cf.decode_other hb ha;have hbad:QEL s=false:=QGf hp (by rw[hok];simp[QJs,QYU]at *;omega);refine QAU (fun(x:Bool) As'=>x=false) (fun K1 h1=>xif (fun e=>h1 _ _ ?_) (fun e=>h1 _ _ ?_)) ?_
  ·simp at e;omega
  ·simp;omega
  rintro x As2 rfl;refine QAJ (QBF rfl (QAJ (xif (fun e0=>xif (fun e1=>?_) (fun e1=>fin hbad.symm)) (fun e0=>QBF rfl (fin hbad.symm)))));simp at e1;omega
end Go.Cx
namespace Go.Cx
open Go Go.Cf
set_option linter.unusedVariables false
set_option maxRecDepth 100000
variable {B:QBG}{As F:List HP}
theorem Qej{s t u v x:Sh}{body:(s.ty→t.ty→u.ty→v.ty→x.ty→WP)→WP}{rest:s.ty→t.ty→u.ty→v.ty→x.ty→WP}(J:s.ty→t.ty→u.ty→v.ty→x.ty→List HP→Prop)
  (h1:∀K:s.ty→t.ty→u.ty→v.ty→x.ty→WP,(∀a b c d e As',J a b c d e As'→Ent B As' (K a b c d e))→Ent B As (body K)) (h2:∀a b c d e As',J a b c d e As'→Ent B As' (rest a b c d e)):Ent B As (QBW [s,t,u,v,x] body rest):=h1 rest h2
structure RE where
 kind:Int
 time:Int
 tag:ByteArray
 val:Int
 id:Int
abbrev rec0:RE:=⟨0,0,ByteArray.empty,0,0⟩
abbrev RE.v(r:RE):Value:=.agg #[.I r.kind,.I r.time,.string r.tag,.I r.val,.I r.id]
abbrev RE.cells(r:RE):List Value:=[.I r.kind,.I r.time,.string r.tag,.I r.val,.I r.id]
def QB5(v lo hi:Int):Bool:=decide (v≥lo)&&decide (v≤hi)
def QQY(k:Int):Option (Bool×Bool×Bool×Int×Int):=
 if k=1 then some (true,true,false,-1099511627776,1099511627776)
 else if k=2 then some (true,true,false,1,4)
 else if k=3∨k=4 then some (false,true,false,1,1099511627776)
 else if k=5 then some (false,false,true,1,1099511627776)
 else if k=6 then some (false,true,true,0,255)
 else none
def QCe(r:RE):Int:=match QQY r.kind with
 | none=>28
 | some (tg,vl,ids,lo,hi)=>
  if ((!tg && !(r.tag.toList == ByteArray.empty.toList))||((!vl&&r.val != 0)||(!ids&&r.id != 0)))=true then 23
  else if (!QB5 r.time 0 1099511627776)=true then 3
  else if (tg && !QEL r.tag)=true then 8
  else if ((vl && !QB5 r.val lo hi)||(ids && !QB5 r.id 1 1099511627776))=true then 3
  else 0
theorem QBj(v lo hi:Int):Ct Pr 54 [.I v,.I lo,.I hi] .one [.bool] [] emp (fun t Bs=>t.1=QB5 v lo hi∧Bs=[]):=by
 refine sp1 (QI1 _ _ _) fun B _=>?_;unfold QI1 mf;dsimp only;exact QAE ⟨rfl,rfl⟩
theorem QMP(r:RE):Ct Pr 55 [r.v] .one [.I] [] emp (fun t Bs=>t.1=QCe r∧Bs=[]):=by
 refine sp1 (QJ5 _ _ _ _ _) fun B _=>?_;have fin:∀{x:Int}{As:List HP},x=QCe r→Ent B As (Ret B (ss:=[.I]) (fun t Bs=>t.1=QCe r∧Bs=[]) (x,())):=fun h=>QAa (l:=[]) (QAE ⟨h,rfl⟩);unfold QJ5 mf;dsimp only;refine QAL fun b=>xgq ?_
 -- behind the kinds
 refine Qej (fun(tg:Bool) (lo hi:Int) (vl ids:Bool) As'=>QQY r.kind=some (tg,vl,ids,lo,hi)∧As'=[Blk b r.cells]) (fun K hK=>?_) ?_
 ·refine xif (fun h=>hK _ _ _ _ _ _ ⟨?_,rfl⟩) (fun h=>QAJ (xif (fun h2=>hK _ _ _ _ _ _ ⟨?_,rfl⟩) (fun h2=>QAU (fun(x:Bool) As'=>x=(r.kind == 3||r.kind == 4)∧As'=[Blk b r.cells]) (fun K1 hK1=>xif (fun h3=>hK1 _ _ ⟨?_,rfl⟩) (fun h3=>hK1 _ _ ⟨?_,rfl⟩)) ?_)))
  ·have:=eq_of_beq h;unfold QQY;rw[if_pos this]
  ·have:=eq_of_beq h2;unfold QQY;rw[if_neg (by simpa using h),if_pos this]
  ·rw[h3];rfl
  ·rw[h3];rfl
  ·rintro x _ ⟨rfl,rfl⟩
   have n1:r.kind≠1:=by simpa using h
   have n2:r.kind≠2:=by simpa using h2
   refine QAJ (xif (fun h3=>hK _ _ _ _ _ _ ⟨?_,rfl⟩) (fun h3=>?_))
   ·unfold QQY;rw[if_neg n1,if_neg n2,if_pos (by simpa using h3)]
   have n3:¬(r.kind=3∨r.kind=4):=by simpa using h3
   refine QAJ (xif (fun h5=>hK _ _ _ _ _ _ ⟨?_,rfl⟩) (fun h5=>xif (fun h6=>hK _ _ _ _ _ _ ⟨?_,rfl⟩) (fun h6=>fin ?_)))
   ·have:=eq_of_beq h5;unfold QQY;rw[if_neg n1,if_neg n2,if_neg n3,if_pos this]
   ·have:=eq_of_beq h6;unfold QQY;rw[if_neg n1,if_neg n2,if_neg n3,if_neg (by simpa using h5),if_pos this]
   ·unfold QCe QQY;rw[if_neg n1,if_neg n2,if_neg n3,if_neg (by simpa using h5),if_neg (by simpa using h6)]
 rintro tg lo hi vl ids _ ⟨hk,rfl⟩
 have hc:QCe r=if ((!tg && !(r.tag.toList == ByteArray.empty.toList))||((!vl&&r.val != 0)||(!ids&&r.id != 0)))=true then 23
  else if (!QB5 r.time 0 1099511627776)=true then 3
  else if (tg && !QEL r.tag)=true then 8
  else if ((vl && !QB5 r.val lo hi)||(ids && !QB5 r.id 1 1099511627776))=true then 3
  else 0:=by unfold QCe;rw[hk]
 clear hk;refine QAU (fun(x:Bool) As'=>x=(!tg && !(r.tag.toList == ByteArray.empty.toList))∧As'=[Blk b r.cells]) (fun K hK=>xif (fun h=>QAA (h:=hK _ _ ⟨by rw[h];rfl,rfl⟩)) (fun h=>hK _ _ ⟨by rw[h];rfl,rfl⟩)) ?_;rintro _ _ ⟨rfl,rfl⟩;refine QAU (fun(x:Bool) As'=>x=((!tg && !(r.tag.toList == ByteArray.empty.toList))||((!vl&&r.val != 0)||(!ids&&r.id != 0)))∧As'=[Blk b r.cells]) (fun K hK=>xif (fun h=>hK _ _ ⟨by rw[h];rfl,rfl⟩) (fun h=>?_)) ?_
 ·refine QAU (fun(x:Bool) As'=>x=(!vl&&r.val != 0)∧As'=[Blk b r.cells]) (fun K hK=>xif (fun h=>QAA (h:=hK _ _ ⟨by rw[h];rfl,rfl⟩)) (fun h=>hK _ _ ⟨by rw[h];rfl,rfl⟩)) ?_;rintro _ _ ⟨rfl,rfl⟩;refine QAU (fun(x:Bool) As'=>x=((!vl&&r.val != 0)||(!ids&&r.id != 0))∧As'=[Blk b r.cells]) (fun K hK=>xif (fun h=>hK _ _ ⟨by rw[h];rfl,rfl⟩) (fun h1=>QAJ (xif (fun h=>QAA (h:=hK _ _ ⟨by rw[h1,h];rfl,rfl⟩)) (fun h=>hK _ _ ⟨by rw[h1,h];rfl,rfl⟩)))) ?_;rintro _ _ ⟨rfl,rfl⟩;exact hK _ _ ⟨by rw[h];rfl,rfl⟩
 rintro _ _ ⟨rfl,rfl⟩;refine xif (fun h=>fin (by rw[hc,if_pos h])) (fun h1=>xgq ?_);rw[if_neg (by rw[h1];simp)]at hc;refine QAR (QBj _ _ _) rdb ?_;rintro⟨x,_⟩ _ ⟨hx,rfl⟩;simp only at hx;subst hx;refine QAz (ca1 (xif (fun h=>fin (by rw[hc,if_pos h])) (fun h2=>?_)));rw[if_neg (by rw[h2];simp)]at hc;refine QAU (fun(x:Bool) As'=>x=(tg && !QEL r.tag)∧As'=[Blk b r.cells]) (fun K hK=>xif (fun h=>xgq ?_) (fun h=>hK _ _ ⟨by rw[h];rfl,rfl⟩)) ?_
 ·refine QAR (QQ6 _) rdb ?_;rintro⟨x,_⟩ _ ⟨hx,rfl⟩;simp only at hx;subst hx;exact QAz (ca1 (hK _ _ ⟨by rw[h];rfl,rfl⟩))
 rintro _ _ ⟨rfl,rfl⟩;refine xif (fun h=>fin (by rw[hc,if_pos h])) (fun h3=>?_);rw[if_neg (by rw[h3];simp)]at hc;refine QAU (fun(x:Bool) As'=>x=(vl && !QB5 r.val lo hi)∧As'=[Blk b r.cells]) (fun K hK=>xif (fun h=>xgq ?_) (fun h=>hK _ _ ⟨by rw[h];rfl,rfl⟩)) ?_
 ·refine QAR (QBj _ _ _) rdb ?_;rintro⟨x,_⟩ _ ⟨hx,rfl⟩;simp only at hx;subst hx;exact QAz (ca1 (hK _ _ ⟨by rw[h];rfl,rfl⟩))
 rintro _ _ ⟨rfl,rfl⟩;refine QAU (fun(x:Bool) As'=>x=((vl && !QB5 r.val lo hi)||(ids && !QB5 r.id 1 1099511627776))∧As'=[Blk b r.cells]) (fun K hK=>xif (fun h=>hK _ _ ⟨by rw[h];rfl,rfl⟩) (fun h=>QAJ (xif (fun h4=>xgq ?_) (fun h4=>hK _ _ ⟨by rw[h,h4];rfl,rfl⟩)))) ?_
 ·refine QAR (QBj _ _ _) rdb ?_;rintro⟨x,_⟩ _ ⟨hx,rfl⟩;simp only at hx;subst hx;exact QAz (ca1 (hK _ _ ⟨by rw[h,h4];rfl,rfl⟩))
 rintro _ _ ⟨rfl,rfl⟩;exact xif (fun h=>fin (by rw[hc,if_pos h])) (fun h=>fin (by rw[hc,if_neg (by rw[h];simp)]))
def QGI(rest:List UInt8)(sh:Bool):Int×List UInt8×Bool:=if rest.length<8 then (0,rest,true) else (IntKind.i64.wrap ((beV (rest.take 8):Nat):Int),rest.drop 8,sh)
def QXX(r:RE)(rest:List UInt8)(sh:Bool):RE×Int:=if sh=true then (rec0,1) else if 0<rest.length then (rec0,2) else if QCe r≠0 then (rec0,QCe r) else (r,0)
def QUW(k:Int)(a:Int×List UInt8×Bool):RE×Int:=match a.2.1 with
 | []=>(rec0,1)
 | n::r2=>if r2.length<n.toNat then (rec0,1) else
  QXX ⟨k,a.1,⟨(r2.take n.toNat).toArray⟩,(QGI (r2.drop n.toNat) a.2.2).1,0⟩ (QGI (r2.drop n.toNat) a.2.2).2.1 (QGI (r2.drop n.toNat) a.2.2).2.2
def QfW(k:Int)(a:Int×List UInt8×Bool):RE×Int:=
 if k=1∨k=2 then QUW k a
 else if k=5 then QXX ⟨k,a.1,ByteArray.empty,0,(QGI a.2.1 a.2.2).1⟩ (QGI a.2.1 a.2.2).2.1 (QGI a.2.1 a.2.2).2.2
 else if k=6 then QXX ⟨k,a.1,ByteArray.empty,(QGI (QGI a.2.1 a.2.2).2.1 (QGI a.2.1 a.2.2).2.2).1,(QGI a.2.1 a.2.2).1⟩ (QGI (QGI a.2.1 a.2.2).2.1 (QGI a.2.1 a.2.2).2.2).2.1 (QGI (QGI a.2.1 a.2.2).2.1 (QGI a.2.1 a.2.2).2.2).2.2
 else QXX ⟨k,a.1,ByteArray.empty,(QGI a.2.1 a.2.2).1,0⟩ (QGI a.2.1 a.2.2).2.1 (QGI a.2.1 a.2.2).2.2
def QE8(bs:List UInt8):RE×Int:=match bs with
 | []=>(rec0,1)
 | k::rest=>if QB5 (k.toNat:Int) 1 6=true then QfW k.toNat (QGI rest false) else (rec0,28)
theorem QUT{k:UInt8}{rest:List UInt8}(h:QB5 (k.toNat:Int) 1 6=false):QE8 (k::rest)=(rec0,28):=by
 show (if QB5 (k.toNat:Int) 1 6=true then _ else _)=_;rw[if_neg (by rw[h];simp)]
theorem QXe{k:UInt8}{rest:List UInt8}(h:QB5 (k.toNat:Int) 1 6=true):QE8 (k::rest)=QfW k.toNat (QGI rest false):=by
 show (if QB5 (k.toNat:Int) 1 6=true then _ else _)=_;rw[if_pos h]
theorem QVM(rest:List UInt8)(sh:Bool):(QGI rest sh).2.1.length≤rest.length:=by
 unfold QGI;split<;>simp
theorem QDD(b2 b3:Nat)(s:Sl)(rest:List UInt8)(sh:Bool)(hc:s.n≤s.c)(hm:rest.length≤140737488351232) :
  Ct Pr 53 [.pointer (some ⟨b2,0,none⟩),.pointer (some ⟨b3,0,none⟩)] .one [.I] [Blk b2 [s.v],Blk b3 [.bool sh]] (RAr U8 s rest)
   (fun t Bs=>t.1=(QGI rest sh).1∧∃s':Sl,Bs=[Blk b2 [s'.v],Blk b3 [.bool (QGI rest sh).2.2]]∧s'.n≤s'.c∧∀g,RAr U8 s rest g→RAr U8 s' (QGI rest sh).2.1 g):=by
 refine sp1 (QJ3 _ _) fun B hr=>?_;have hn:=hr.1;unfold QJ3 mf;dsimp only;refine xgq (QAB (fun h=>?_) (fun h=>?_))
 ·have e:QGI rest sh=(0,rest,true):=by unfold QGI;rw[if_pos (by omega)]
  refine QAN (h:=QAE ⟨by rw[e],s,by rw[e],hc,fun g hg=>by rw[e];exact hg⟩)
 have h8:8≤rest.length:=by omega
 have e:QGI rest sh=(IntKind.i64.wrap ((beV (rest.take 8):Nat):Int),rest.drop 8,sh):=by unfold QGI;rw[if_neg (by omega)]
 refine QAA (h:=QEf (by omega) (by omega) (by omega) (by omega) ?_);simp only[Int.toNat_natCast];have hcut:=hr.cut 0 8 s.c (by omega) (by omega) h8;rw[List.drop_zero]at hcut;have fc:Fro B (s.cut (Int.toNat 0) (Int.toNat 8) s.c 1) U8 (rest.take 8):=⟨hcut⟩
 have hq:(rest.take 8).length=8:=by simp;omega
 have hsn:=fc.rd.1;refine QBb (fun(n:Nat) (v:Int) (i:Int) As=>∃k:Nat,i=(k:Int)∧v=((beV ((rest.take 8).take k):Nat):Int)∧n=8 - k∧k≤8∧As=[Blk b2 [s.v],Blk b3 [.bool sh]]) 8 ⟨0,rfl,rfl,rfl,by omega,rfl⟩ ?_;rintro n _ _ _ K ⟨k,rfl,rfl,rfl,hk,rfl⟩ hK;refine QAB (fun h=>?_) (fun h=>?_)
 ·have hk8:k<8:=by omega
  have hx:=List.getElem?_eq_getElem (l:=rest.take 8) (i:=k) (by omega);refine QAI (h1:=by omega) (h:=fun _ _=>?_);refine QAO hx (h:=QA6 (by decide) ?_);rw[Qfi _ _ (QI7 hq hk8),QAF k (by omega)];exact hK (8 - (k+1)) _ _ _ (by omega) ⟨k+1,rfl,by rw[QK0 hx],rfl,by omega,rfl⟩
 ·have hk8:k=8:=by omega
  subst hk8;rw[List.take_of_length_le (l:=rest.take 8) (by omega)];refine QAA (h:=QEf (by omega) (by omega) (by omega) (by omega) (xsq ?_));rw[show (8:Int).toNat=8 from rfl,show ((s.n:Int)).toNat=s.n by omega,show ((s.c:Int)).toNat=s.c by omega];refine QAE ⟨by rw[e],s.cut 8 s.n s.c 1,by rw[e],by show s.n - 8≤s.c - 8;omega,fun g hg=>?_⟩;have:=hg.cut 8 s.n s.c (by omega) hc (by omega);rw[List.take_of_length_le (by omega)]at this;rw[e];exact this
theorem QgF{P:Program}{t d e:TypeId}{s:Sl}{xs:List UInt8}{K:ByteArray→WP}[r:RdA B As s U8 xs]{a:Addr}(hp:s.p=some a)(hs:P.underlying t=some (.slice e))(he:P.underlying e=some (.int .u8))(hd:P.underlying d=some .string)(h:Ent B As (K ⟨xs.toArray⟩)) :
  Ent B As (QKu P (convert t d s.v) .str K):=by
 by_cases h0:0<xs.length
 ·exact QhJ h0 hs he hd h
 ·intro w hw;have hn:=(r.rd w hw).1;obtain rfl:xs=[]:=List.eq_nil_of_length_eq_zero (by omega);obtain⟨p,n,c⟩:=s;simp only at hp hn;subst hp;obtain rfl:n=0:=hn.symm;exact⟨⟨#[]⟩,w,run_convert_bytes_back w t d e a c [] hs he hd fun j hj=>absurd hj (Nat.not_lt_zero _),h w hw⟩
def QPL(bs:List UInt8):Tup [.I,.I,.str,.I,.I,.I]→List HP→Prop:=fun t Bs=>t.1=(QE8 bs).1.kind∧t.2.1=(QE8 bs).1.time∧t.2.2.1=(QE8 bs).1.tag∧t.2.2.2.1=(QE8 bs).1.val∧t.2.2.2.2.1=(QE8 bs).1.id∧t.2.2.2.2.2.1=(QE8 bs).2∧Bs=[]
theorem QYO(b:Sl)(bs:List UInt8)(hc:b.n≤b.c)(hm:bs.length≤140737488351232):Ct Pr 20 [b.v] (.tup [some 5,none]) [.I,.I,.str,.I,.I,.I] [] (RAr U8 b bs) (QPL bs):=by
 refine QAh (ss:=[.I,.I,.str,.I,.I,.I]) QQk fun B hr=>?_;have fb:Fro B b U8 bs:=⟨hr⟩;have hn:=hr.1;have fin:∀{r:RE}{e:Int}{As:List HP},QE8 bs=(r,e)→Ent B As (Ret B (QPL bs) (r.kind,r.time,r.tag,r.val,r.id,e,())):=fun h=>QAa (l:=[]) (QAE (by unfold QPL;rw[h];exact⟨rfl,rfl,rfl,rfl,rfl,rfl,rfl⟩));show Ent B [] (QJo b fun k tm tg v i e=>Ret B (QPL bs) (k,tm,tg,v,i,e,()));unfold QJo;refine QAL fun b1=>xif (fun h=>?_) (fun h=>?_)
 ·have e:bs=[]:=List.eq_nil_of_length_eq_zero (by have:=eq_of_beq h;omega);iterate 5 (refine xsq ?_)
  iterate 5 (refine xgq ?_)
  exact fin (r:=rec0) (by rw[e];rfl)
 cases bs with
 | nil=>exact absurd h (by rw[←hn];simp)
 | cons k rest=>
 have hl:rest.length+1=b.n:=by simpa using hn
 refine QEf (by omega) (by omega) (by omega) (by omega) ?_;rw[show (1:Int).toNat=1 from rfl,show ((b.n:Int)).toNat=b.n by omega,show ((b.c:Int)).toNat=b.c by omega];have hcut:=hr.cut 1 b.n b.c (by omega) hc (by simp;omega);rw[List.take_of_length_le (by simp;omega),List.drop_succ_cons,List.drop_zero]at hcut;generalize hs1:b.cut 1 b.n b.c 1=s1
 have hs1c:s1.n≤s1.c:=by rw[←hs1];show b.n - 1≤b.c - 1;omega
 have hr1:RAr U8 s1 rest (frz B.W B.h0):=by rw[←hs1];exact hcut
 refine QAL fun b2=>QAL fun b3=>xsq (xsq ?_);refine QaE (E:=U8) (xs:=k::rest) (s:=b) (h0:=by decide) (h1:=by simp) (h:=fun y hy=>?_)
 obtain rfl:y=k:=by simpa using hy.symm
 refine QAO (E:=U8) (xs:=y::rest) (x:=y) rfl (h:=?_);refine QAL fun b4=>?_;iterate 5 (refine xsq ?_)
 have hy8:y.toNat<256:=by have:=y.toNat_lt;omega
 rw[QAD _ (by omega) (by omega)];refine xgq ?_;refine QAR (QBj _ _ _) rdb ?_;rintro⟨x,_⟩ _ ⟨hx,rfl⟩;simp only at hx;subst hx;refine QAz (ca1 (xif (fun h=>?_) (fun h=>?_)))
 ·iterate 5 (refine xsq ?_)
  iterate 5 (refine xgq ?_)
  exact fin (r:=rec0) (QUT (by simpa using h))
 have hg:=QXe (k:=y) (rest:=rest) (by simpa using h);have fr1:Fro B s1 U8 rest:=⟨hr1⟩;have hlen:=QVM rest false;refine xcl (QDD b2 b3 s1 rest false hs1c (by omega)) rdb ?_;rintro⟨r,_⟩ _ ⟨hr',s2,rfl,hs2c,hs2r⟩;simp only at hr';subst hr'
 generalize ha:QGI rest false=a at *
 have hr2:=hs2r _ hr1;have fr2:Fro B s2 U8 a.2.1:=⟨hr2⟩;have hn2:=hr2.1;refine QBM (ca1 (xsq (xgq ?_)));refine QAU (fun(x:Bool) As'=>x=((y.toNat:Int) == 1||(y.toNat:Int) == 2)∧As'=[Blk b2 [s2.v],Blk b3 [.bool a.2.2],Blk b4 (RE.cells ⟨y.toNat,a.1,ByteArray.empty,0,0⟩),Blk b1 rec0.cells]) (fun K1 hK1=>xif (fun h=>hK1 _ _ ⟨by rw[h];rfl,rfl⟩) (fun h=>hK1 _ _ ⟨by rw[h];rfl,rfl⟩)) ?_;rintro _ _ ⟨rfl,rfl⟩;refine QBx (fun As'=>∃(r:RE) (s':Sl) (rest':List UInt8) (sh':Bool),QE8 (y::rest)=QXX r rest' sh'∧s'.n≤s'.c∧RAr U8 s' rest' (frz B.W B.h0)∧As'=[Blk b2 [s'.v],Blk b3 [.bool sh'],Blk b4 r.cells,Blk b1 rec0.cells]) (fun K1 hK1=>?_) ?_
 ·refine xif (fun hx=>?_) (fun hx=>?_)
  ·have hk:(y.toNat:Int)=1∨(y.toNat:Int)=2:=by simpa using hx
   rw[QfW,if_pos hk]at hg
   refine QAP (QAU (fun(c:Bool) As'=>(match a.2.1 with
    | []=>c=true
    | n::r2=>c=decide (r2.length<n.toNat))∧As'=[Blk b2 [s2.v],Blk b3 [.bool a.2.2],Blk b4 (RE.cells ⟨y.toNat,a.1,ByteArray.empty,0,0⟩),Blk b1 rec0.cells]) (fun K2 hK2=>?_) ?_)
   ·refine xgq (xif (fun h0=>hK2 _ _ ⟨?_,rfl⟩) (fun h0=>?_))
    ·have:a.2.1=[]:=List.eq_nil_of_length_eq_zero (by have:=eq_of_beq h0;omega);rw[this]
    ·cases he:a.2.1 with
     | nil=>rw[he]at hn2;exact absurd h0 (by rw[←hn2];simp)
     | cons n r2=>
      rw[he]at fr2 hn2
      have hl2:r2.length+1=s2.n:=by simpa using hn2
      have hn8:n.toNat<256:=by have:=n.toNat_lt;omega
      refine xgq (xgq ?_);refine QaE (E:=U8) (xs:=n::r2) (s:=s2) (h0:=by decide) (h1:=by simp) (h:=fun u hu=>?_)
      obtain rfl:u=n:=by simpa using hu.symm
      refine QAO (E:=U8) (xs:=u::r2) (x:=u) rfl (h:=hK2 _ _ ⟨?_,rfl⟩);rw[he];show _=decide (r2.length<u.toNat);rw[QAD (u.toNat:Int) (by omega) (by omega),QAD _ (by omega) (by omega),Bool.eq_iff_iff];simp only[decide_eq_true_eq];omega
   ·rintro c _ ⟨hc1,rfl⟩;refine xif (fun h0=>?_) (fun h0=>?_)
    ·iterate 5 (refine xsq ?_)
     iterate 5 (refine xgq ?_)
     refine fin (r:=rec0) ?_;rw[hg];unfold QUW
     cases he:a.2.1 with
     | nil=>rfl
     | cons n r2=>
      rw[he]at hc1;have:decide (r2.length<n.toNat)=true:=hc1.symm.trans h0;show (if _ then _ else _)=_;rw[if_pos (of_decide_eq_true this)]
    ·cases he:a.2.1 with
     | nil=>
      rw[he]at hc1;have hc1:c=true:=hc1;rw[hc1]at h0;cases h0
     | cons n r2=>
      rw[he]at hc1 fr2 hn2 hr2;have hc1:c=decide (r2.length<n.toNat):=hc1
      have hge:n.toNat≤r2.length:=by
       have:¬r2.length<n.toNat:=of_decide_eq_false (hc1.symm.trans h0);omega
      have hg2:QE8 (y::rest)=QXX ⟨y.toNat,a.1,⟨(r2.take n.toNat).toArray⟩,(QGI (r2.drop n.toNat) a.2.2).1,0⟩ (QGI (r2.drop n.toNat) a.2.2).2.1 (QGI (r2.drop n.toNat) a.2.2).2.2:=by
       rw[hg];unfold QUW;rw[he];show (if _ then _ else _)=_;rw[if_neg (by omega)]
      have hl2:r2.length+1=s2.n:=by simpa using hn2
      have hn8:n.toNat<256:=by have:=n.toNat_lt;omega
      have hrest:r2.length≤rest.length:=by rw[he]at hlen;simp at hlen;omega
      refine xgq ?_;refine QaE (E:=U8) (xs:=n::r2) (s:=s2) (h0:=by decide) (h1:=by simp) (h:=fun u hu=>?_)
      obtain rfl:u=n:=by simpa using hu.symm
      refine QAO (E:=U8) (xs:=u::r2) (x:=u) rfl (h:=QAP (xgq ?_));rw[QAD (u.toNat:Int) (by omega) (by omega),QAD (1+(u.toNat:Int)) (by omega) (by omega),show 1+(u.toNat:Int)=((u.toNat+1:Nat):Int) by omega];refine QEf (by omega) (by omega) (by omega) (by omega) (QAA (h:=QEf (by omega) (by omega) (by omega) (by omega) ?_));simp only[Int.toNat_natCast];have hcutA:=hr2.cut 1 (u.toNat+1) s2.c (by omega) (by omega) (by simp;omega);have hcutB:=hr2.cut (u.toNat+1) s2.n s2.c (by omega) (by omega) (by simp;omega)
      have eA:((u::r2).take (u.toNat+1)).drop 1=r2.take u.toNat:=by simp
      have eB:((u::r2).take s2.n).drop (u.toNat+1)=r2.drop u.toNat:=by
       rw[List.take_of_length_le (by simp;omega)];simp
      rw[eA]at hcutA;rw[eB]at hcutB;have fA:Fro B (s2.cut (Int.toNat 1) (u.toNat+1) s2.c 1) U8 (r2.take u.toNat):=⟨hcutA⟩
      obtain⟨ad,had⟩:∃ad,(s2.cut (Int.toNat 1) (u.toNat+1) s2.c 1).p=some ad:=by
       obtain⟨_,_,hq⟩:=hr2;obtain⟨bb,oo,_,_,_,_,hp,_⟩:=hq (by omega);unfold Sl.cut;rw[hp];split
       ·exact⟨_,rfl⟩
       ·exact⟨_,rfl⟩
      refine QgF (e:=5) had (by kernel_rfl) (by kernel_rfl) (by kernel_rfl) ?_;refine QC7 (h:=xsq (QC7 (h:=xsq ?_)));have fB:Fro B (s2.cut (u.toNat+1) s2.n s2.c 1) U8 (r2.drop u.toNat):=⟨hcutB⟩
      have hcB:(s2.cut (u.toNat+1) s2.n s2.c 1).n≤(s2.cut (u.toNat+1) s2.n s2.c 1).c:=by show s2.n - _≤s2.c - _;omega
      refine xcl (QDD b2 b3 (s2.cut (u.toNat+1) s2.n s2.c 1) (r2.drop u.toNat) a.2.2 hcB (by simp;omega)) rdb ?_;rintro⟨r,_⟩ _ ⟨hr',s3,rfl,hs3c,hs3r⟩;simp only at hr';subst hr';refine QBM (ca1 (xsq ?_));exact hK1 _ ⟨_,s3,_,_,hg2,hs3c,hs3r _ hcutB,rfl⟩
  ·have hk:¬((y.toNat:Int)=1∨(y.toNat:Int)=2):=by simpa using hx
   rw[QfW,if_neg hk]at hg;have hlen2:=QVM a.2.1 a.2.2;refine QAJ (xif (fun h5=>?_) (fun h5=>?_))
   ·rw[if_pos (eq_of_beq h5)]at hg;refine xcl (QDD b2 b3 s2 a.2.1 a.2.2 hs2c (by omega)) rdb ?_;rintro⟨r,_⟩ _ ⟨hr',s3,rfl,hs3c,hs3r⟩;simp only at hr';subst hr';refine QBM (ca1 (xsq ?_));exact hK1 _ ⟨_,s3,_,_,hg,hs3c,hs3r _ hr2,rfl⟩
   ·have n5:¬(y.toNat:Int)=5:=by simpa using h5
    rw[if_neg n5]at hg;refine QAJ (xif (fun h6=>?_) (fun h6=>?_))
    ·rw[if_pos (eq_of_beq h6)]at hg;refine xcl (QDD b2 b3 s2 a.2.1 a.2.2 hs2c (by omega)) rdb ?_;rintro⟨r,_⟩ _ ⟨hr',s3,rfl,hs3c,hs3r⟩;simp only at hr';subst hr';refine QBM (ca1 (xsq ?_));have hr3:=hs3r _ hr2;have fr3:Fro B s3 U8 (QGI a.2.1 a.2.2).2.1:=⟨hr3⟩;refine xcl (QDD b2 b3 s3 (QGI a.2.1 a.2.2).2.1 (QGI a.2.1 a.2.2).2.2 hs3c (by omega)) rdb ?_;rintro⟨r,_⟩ _ ⟨hr',s4,rfl,hs4c,hs4r⟩;simp only at hr';subst hr';refine QBM (ca1 (xsq ?_));exact hK1 _ ⟨_,s4,_,_,hg,hs4c,hs4r _ hr3,rfl⟩
    ·rw[if_neg (by simpa using h6)]at hg;refine xcl (QDD b2 b3 s2 a.2.1 a.2.2 hs2c (by omega)) rdb ?_;rintro⟨r,_⟩ _ ⟨hr',s3,rfl,hs3c,hs3r⟩;simp only at hr';subst hr';refine QBM (ca1 (xsq ?_));exact hK1 _ ⟨_,s3,_,_,hg,hs3c,hs3r _ hr2,rfl⟩
 rintro _ ⟨r,s3,rest3,sh3,hf,hs3c,hr3,rfl⟩;rw[QXX]at hf;have hn3:=hr3.1;refine xgq (xif (fun h0=>?_) (fun h0=>?_))
 ·iterate 5 (refine xsq ?_)
  iterate 5 (refine xgq ?_)
  exact fin (r:=rec0) (by rw[hf,if_pos h0])
 rw[if_neg (by rw[h0];simp)]at hf;refine xgq (QAB (fun h0=>?_) (fun h0=>?_))
 ·iterate 5 (refine xsq ?_)
  iterate 5 (refine xgq ?_)
  exact fin (r:=rec0) (by rw[hf,if_pos (by omega)])
 rw[if_neg (by omega)]at hf;iterate 5 (refine xgq ?_)
 refine QAR (QMP r) rdb ?_;rintro⟨x,_⟩ _ ⟨hx,rfl⟩;simp only at hx;subst hx;refine QAz (ca1 (xif (fun h0=>?_) (fun h0=>?_)))
 ·iterate 5 (refine xsq ?_)
  iterate 5 (refine xgq ?_)
  exact fin (r:=rec0) (by rw[hf,if_pos (by simpa using h0)])
 ·iterate 5 (refine xgq ?_)
  iterate 5 (refine xsq ?_)
  iterate 5 (refine xgq ?_)
  exact fin (r:=r) (by rw[hf,if_neg (by simpa using h0)])
structure XM where
 L:List KY
 last:Int
abbrev xm0:XM:=⟨[],-1⟩
abbrev QU2(x:XM)(t n:Int):XM:=⟨QKo (t,n) x.L,if n>x.last then n else x.last⟩
def QQL(l:LM)(x:XM)(n:Int):XM:=if (QE8 (QHw l n).1).2=0 then QU2 x (QE8 (QHw l n).1).1.time n else x
def QDS(l:LM)(k:Nat):XM:=(List.range k).foldl (fun x (i:Nat)=>QQL l x (l.lo+i)) xm0
def QI9(l:LM):XM:=QDS l (l.next - l.lo).toNat
theorem QH3(l:LM)(k:Nat):QDS l (k+1)=QQL l (QDS l k) (l.lo+k):=by
 unfold QDS;rw[List.range_succ,List.foldl_append];rfl
theorem QNi(l:LM):∀k:Nat,(QDS l k).L.length≤k
 | 0=>by simp[QDS]
 | k+1=>by
  have ih:=QNi l k;rw[QH3];unfold QQL;split
  ·unfold QU2
   (try simp only)
   by_cases hm:((QE8 (QHw l (l.lo+k)).1).1.time,(l.lo+k:Int))∈(QDS l k).L
   ·rw[QJp hm];omega
   ·rw[QZp hm];omega
  ·omega
def QBt(x d l:Option Addr)(m:XM):HP:=fun h=>∃b q,x=some ⟨b,0,none⟩∧QBn [Blk b [.pointer d,.pointer l,.pointer q,.I m.last],QEO q m.L] h
theorem Qci(i:Nat){x d l:Option Addr}{m:XM}{F:List HP}[p:Pick i As (QBt x d l m) F]{φ:WP}
  (k:∀b q,x=some ⟨b,0,none⟩→Ent B (Blk b [.pointer d,.pointer l,.pointer q,.I m.last]::QEO q m.L::F) φ):Ent B As φ:=by
 refine Ent.perm p.perm ?_;rintro w ⟨g,⟨a,c,⟨b,q,hq,pa⟩,pc,d,sa,sc⟩,hm,hu⟩;exact k b q hq w ⟨g,(QAj [_,_] F).2 ⟨a,c,pa,pc,d,sa,sc⟩,hm,hu⟩
theorem QID(b:Nat)(q d l:Option Addr)(m:XM){G:List HP}[p:Split [Blk b [.pointer d,.pointer l,.pointer q,.I m.last],QEO q m.L] As G]{φ:WP}
  (k:Ent B (QBt (some ⟨b,0,none⟩) d l m::G) φ):Ent B As φ:=
 QBR [Blk b [.pointer d,.pointer l,.pointer q,.I m.last],QEO q m.L] (QBt (some ⟨b,0,none⟩) d l m) (fun g hg=>⟨b,q,rfl,hg⟩) k
theorem QQF(x d l:Option Addr)(m:XM)(t n:Int)(hL:m.L.length≤4000000000000000):Ct Pr 188 [.pointer x,.I t,.I n] (.tup []) [] [QBt x d l m] emp (fun _ Bs=>Bs=[QBt x d l (QU2 m t n)]):=by
 refine sp0 (QGZ _ _ _) fun B _=>?_;unfold QGZ mf;dsimp only;refine Qci 0 fun b q hx=>?_;subst hx;refine QAS (xgq ?_);refine xcl (QaV q m.L (t,n) n hL) rdb ?_;rintro⟨c,_⟩ _ rfl;refine QA8 (ca1 (QAS (xgq (QAS (xsq ?_)))));exact QID b q d l (QU2 m t n) (QAE rfl)
theorem QWN(b:Nat)(d l q:Option Addr)(n:Int):Ct Pr 187 [.pointer (some ⟨b,0,none⟩)] (.tup []) [] [Blk b [.pointer d,.pointer l,.pointer q,.I n]] emp (fun _ Bs=>Bs=[QBt (some ⟨b,0,none⟩) d l xm0]):=by
 refine sp0 (QFJ _) fun B _=>?_;unfold QFJ mf;dsimp only;refine xcl Qbi rdb ?_;rintro⟨q',e,_⟩ _ ⟨_,rfl⟩;refine QA8 (ca2 (QAS (xsq (QAS (xsq ?_)))));exact QID b q' d l xm0 (QAE rfl)
theorem QXH(p:Option Addr)(m:DM)(nm:ByteArray):Ct Pr 186 [.pointer p,.string nm] .one [.I] [QAC p m] emp (fun t Bs=>t.1=(QAt m nm).2∧Bs=[QAC p (QAt m nm).1]):=by
 refine sp1 (QOW _ _) fun B _=>?_;unfold QOW mf;dsimp only;refine xcl (QFz p m nm) rdb ?_;rintro⟨t,_⟩ _ ⟨ht,rfl⟩;simp only at ht;subst ht;unfold QAt;refine QA8 (ca1 (xif (fun h=>?_) (fun h=>?_)))
 ·have h:¬(QAV m nm).2=6:=by simpa using h
  rw[if_neg h];exact QAE ⟨rfl,rfl⟩
 ·have h:(QAV m nm).2=6:=by simpa using h
  rw[if_pos h];exact QAE ⟨rfl,rfl⟩
theorem LInv.lo{l:LM}(h:LInv l):0≤l.lo∧l.lo≤4000000000000:=by
 unfold LM.lo
 cases e:l.segs with
 | nil=>have:=h.first;simp only;omega
 | cons s r=>have:=(h.segs s (by rw[e];simp)).2.1;simp only;omega
theorem QKv{l:LM}(hi:LInv l)(n:Int):(QHw l n).1.length≤1024:=by
 unfold QHw;split
 ·simp
 ·split
  ·rename_i s hs
   have hm:=(hi.segs s (List.mem_of_find?_eq_some hs)).2.2.2.2
   cases e:s.ps[(n - s.first).toNat]? with
   | none=>simp
   | some p=>exact hm p (List.mem_of_getElem? e)
  ·simp
theorem Qgn{s:Sl}{xs:List UInt8}{F:List HP}{K:Int→Int→ByteArray→Int→Int→Int→WP}(hl:xs.length≤1000000)(h:Ent B (Ar U8 s xs::F) (K (QE8 xs).1.kind (QE8 xs).1.time (QE8 xs).1.tag (QE8 xs).1.val (QE8 xs).1.id (QE8 xs).2)) :
  Ent B (Ar U8 s xs::F) (QAe Pr 20 [s.v] (.tup [some 5,none]) [.I,.I,.str,.I,.I,.I] K):=by
 refine QCn (E:=U8) (xs:=xs) s fun _ hc=>?_;refine QAR (QYO s xs hc (by omega)) rdb ?_;rintro⟨k,t,g,v,i,e,_⟩ _ ⟨h1,h2,h3,h4,h5,h6,rfl⟩;simp only at h1 h2 h3 h4 h5 h6;subst h1 h2 h3 h4 h5 h6;exact h
abbrev idxNew:ByteArray:=⟨#[105,100,120,46,110,101,119]⟩
theorem QV1(d l:Option Addr)(m:DM)(lm:LM):Ct Pr 119 [.pointer d,.pointer l] (.tup [none,none]) [.ptr,.I] [QAC d m,QAZ l d lm] emp
  (fun t Bs=>t.2.1=(QAt m idxNew).2∧((QAt m idxNew).2≠0→t.1=none∧Bs=[QAC d (QAt m idxNew).1,QAZ l d lm]) ∧
   ((QAt m idxNew).2=0→t.1≠none∧Bs=[QAC d (QAt m idxNew).1,QAZ l d lm,QBt t.1 d l (QI9 lm)])):=by
 refine sp2 (QN3 _ _) fun B _=>?_;unfold QN3 mf;dsimp only;refine xcl (QXH d m idxNew) rdb ?_;rintro⟨e,_⟩ _ ⟨he,rfl⟩;simp only at he;subst he;refine QA8 (ca1 (xif (fun h=>?_) (fun h=>?_)))
 ·have h':(QAt m idxNew).2≠0:=by simpa using h
  exact QAE ⟨rfl,fun _=>⟨rfl,rfl⟩,fun e=>absurd e h'⟩
 have h':(QAt m idxNew).2=0:=by simpa using h
 refine QAL fun b=>?_;refine xcl (QWN b d l none 0) rdb ?_;rintro _ _ rfl;refine QA8 (ca0 ?_);refine xcl (QGC l d lm) rdb ?_;rintro⟨t,_⟩ _ ⟨ht,rfl⟩;simp only at ht;subst ht;refine QA8 (ca1 ?_);refine QCC 0 (P1:=QAZ l d lm) (fun g hg=>hg.1) fun hi=>?_;have hnx:=hi.next;refine QAM [QAC d (QAt m idxNew).1,QAZ l d lm,QBt (some ⟨b,0,none⟩) d l xm0] ?_;have hlo:=hi.lo;refine QBV (fun n (x:Int) As'=>∃k:Nat,x=lm.lo+k∧n=(lm.next - lm.lo).toNat - k∧k≤(lm.next - lm.lo).toNat∧As'=[QAC d (QAt m idxNew).1,QAZ l d lm,QBt (some ⟨b,0,none⟩) d l (QDS lm k)]) (lm.next - lm.lo).toNat ⟨0,by simp,rfl,by omega,rfl⟩ ?_;rintro n x As' K ⟨k,rfl,rfl,hk,rfl⟩ hK;refine xcl (QFB l d lm) rdb ?_;rintro⟨t,_⟩ _ ⟨ht,rfl⟩;simp only at ht;subst ht;refine QA8 (ca1 (QAB (fun h1=>?_) (fun h1=>?_)))
 ·refine xcl (QGc l d lm (lm.lo+k) ⟨by omega,by omega⟩) rdb ?_;rintro⟨s,e,_⟩ _ ⟨_,rfl⟩;refine QBM (ca2 (QGK 1 (Qgn (by have:=QKv hi (lm.lo+k);omega) (QAL fun b1=>?_))));iterate 5 (refine xsq ?_)
  refine QBx (fun As'=>As'=[QAC d (QAt m idxNew).1,QAZ l d lm,QBt (some ⟨b,0,none⟩) d l (QDS lm (k+1))]) (fun K1 hK1=>?_) ?_
  ·rw[QH3]at hK1;refine xif (fun h2=>?_) (fun h2=>?_)
   ·have e0:QQL lm (QDS lm k) (lm.lo+k)=QU2 (QDS lm k) (QE8 (QHw lm (lm.lo+k)).1).1.time (lm.lo+k):=by unfold QQL;rw[if_pos (eq_of_beq h2)]
    rw[e0]at hK1;refine xgq ?_;have hlen:=QNi lm k;refine xcl (QQF (some ⟨b,0,none⟩) d l (QDS lm k) _ _ (by omega)) rdb ?_;rintro _ _ rfl;exact QA8 (ca0 (QKZ (hK1 _ rfl)))
   ·have e0:QQL lm (QDS lm k) (lm.lo+k)=QDS lm k:=by unfold QQL;rw[if_neg (by simpa using h2)]
    rw[e0]at hK1;exact QKZ (hK1 _ rfl)
  ·rintro _ rfl;rw[QAD _ (by omega) (by omega)];exact hK ((lm.next - lm.lo).toNat - (k+1)) _ _ (by omega) ⟨k+1,by omega,rfl,by omega,rfl⟩
 ·have e:k=(lm.next - lm.lo).toNat:=by omega
  refine QAM [QAC d (QAt m idxNew).1,QAZ l d lm,QBt (some ⟨b,0,none⟩) d l (QDS lm k)] (QAE ⟨h'.symm,fun e=>absurd h' e,fun _=>⟨by simp,?_⟩⟩);rw[e];rfl
def QhP(floor:Int)(d:List KY):List Int:=(d.filter fun k=>decide (k.2≥floor)).map (·.2)
def Qhg(m:XM)(a b floor:Int):List Int:=QhP floor (Qhb (a,0) (b,0) m.L)
end Go.Cx
namespace Go.Cx
open Go Go.Cf
set_option linter.unusedVariables false
set_option maxRecDepth 100000
theorem Qc4{r:RE}{rest:List UInt8}{sh:Bool}(h:(QXX r rest sh).2=0):(QXX r rest sh).1=r∧QCe r=0:=by
 unfold QXX at h⊢;split at h
 ·cases h
 ·rename_i h1
  rw[if_neg h1];split at h
  ·cases h
  ·rename_i h2
   rw[if_neg h2];split at h
   ·rename_i h3;exact absurd h h3
   ·rename_i h3
    rw[if_neg h3];exact⟨rfl,by simpa using h3⟩
theorem QOO{bs:List UInt8}(h:(QE8 bs).2=0):QCe (QE8 bs).1=0:=by
 have fm:∀{r:RE}{rest:List UInt8}{sh:Bool},(QXX r rest sh).2=0→QCe (QXX r rest sh).1=0:=fun h=>by
  obtain⟨h1,h2⟩:=Qc4 h;rw[h1];exact h2
 cases bs with
 | nil=>cases h
 | cons k rest=>
  cases hw:QB5 (k.toNat:Int) 1 6 with
  | false=>rw[QUT hw]at h;cases h
  | true=>
   rw[QXe hw]at h⊢
   generalize QGI rest false=a at *
   unfold QfW at h⊢;split at h
   ·rename_i h1
    rw[if_pos h1];unfold QUW at h⊢
    cases he:a.2.1 with
    | nil=>rw[he]at h;cases h
    | cons n r2=>
     rw[he]at h;simp only at h⊢;split at h
     ·cases h
     ·rename_i h2
      rw[if_neg h2];exact fm h
   ·rename_i h1
    rw[if_neg h1];split at h
    ·rename_i h2;rw[if_pos h2];exact fm h
    ·rename_i h2
     rw[if_neg h2];split at h
     ·rename_i h3;rw[if_pos h3];exact fm h
     ·rename_i h3;rw[if_neg h3];exact fm h
variable {B:QBG}{As F:List HP}
end Go.Cx
