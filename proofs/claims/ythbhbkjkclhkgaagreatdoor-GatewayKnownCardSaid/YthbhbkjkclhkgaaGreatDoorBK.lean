import Derived.Test.YthbhbkjkclhkgaaGreatDoorGK
import Derived.Test.YthbhbkjkclhkgaaGreatDoorBA
namespace Go.Cx
open Go Go.Cf
set_option linter.unusedVariables false
set_option maxRecDepth 100000
set_option synthInstance.maxSize 8000
set_option synthInstance.maxHeartbeats 400000
variable {B:QBE}{As F:List HP}
def Qeu(M:GM)(now:Int):Bool:=!decide (IntKind.i64.wrap ((QM3 (QDn (QDa M now))).k.log.next - (QDn (QDa M now)).saved)≥64)&&(decide ((QDn (QDa M now)).keep=1)&&(!(QM3 (QDn (QDa M now))).k.dev.down&&decide (QGd (QM3 (QDn (QDa M now))).k.log (QDn (QDa M now)).acked (QDn (QDa M now)).keep=0)))
theorem QdX{M:GM}{now:Int}(h:Qeu M now=true):¬IntKind.i64.wrap ((QM3 (QDn (QDa M now))).k.log.next - (QDn (QDa M now)).saved)≥64∧(QDn (QDa M now)).keep=1∧(QM3 (QDn (QDa M now))).k.dev.down=false∧QGd (QM3 (QDn (QDa M now))).k.log (QDn (QDa M now)).acked (QDn (QDa M now)).keep=0:=by
 unfold Qeu at h;simpa using h
theorem QVc(q p:Option Addr)(m:DM)(l:LM)(to:Int)(hd:m.down=false)(h0:QGd l to 1=0):Ct Pr 236 [.pointer q,.I to,.I 1] .one [.I] [QAY q p l,QAC p m] emp
  (fun t Bs=>t.1=0∧Bs=[QAY q p l,QAC p m]):=by
 refine sp1 (QIt _ _ _) fun B _=>?_;unfold QIt mf;dsimp only;refine QXQ 0 fun hi b s cs hq hf hs=>?_;subst hq;refine xcl (QME b p m l s) rdb ?_;rintro⟨t,_⟩ _ ⟨ht,rfl⟩;simp only[hd]at ht;obtain rfl:t=0:=ht;refine QBM (ca1 (QBF rfl ?_));refine xcl (QXh b p l s cs to hs hf hi) rdb ?_;rintro⟨t,_⟩ _ ⟨ht,rfl⟩;simp only[h0]at ht;obtain rfl:t=0:=ht;refine QBM (ca1 (QBz rfl ?_));refine QAx (p:=p) (l:=l) b s cs hi ?_;exact QAK [QAY (some ⟨b,0,none⟩) p l,QAC p m] (QAD ⟨rfl,rfl⟩)
theorem QTA(d l x:Option Addr)(k:Kn)(to:Int)(hd:k.dev.down=false)(h0:QGd k.log to 1=0):Ct Pr 236 [.pointer l,.I to,.I 1] .one [.I] [QA7 d l x k] emp (fun t Bs=>t.1=(QQa k to 1).2∧Bs=[QA7 d l x (QQa k to 1).1]):=by
 have e:QQa k to 1=(k,0):=by
  unfold QQa Qa6;rw[hd,if_neg (by decide),if_pos h0]
 rw[e];refine QGr (φ:=QAb Pr 236 [.pointer l,.I to,.I 1] .one [.I]) (fun h=>h) fun B hr=>?_;refine QGn 0 fun hk=>?_;refine xcl (QVc l d k.dev k.log to hd h0) rdb ?_;rintro⟨r,_⟩ _ ⟨hr,rfl⟩;refine QBM (ca1 ?_);exact QCs d l x k hk (QAK [QA7 d l x k] (QAD ⟨hr,rfl⟩))
theorem QY9(g:Nat)(a:GwA)(M:GM)(hM:MOk M)(hok:M.ok=true)(hos:M.os.length≤800000)(now:Int)(hno:Qeu M now=true) :
  CtP QCl Pr 149 [.pointer (some ⟨g,0,none⟩),.I now] (.tup []) [] (GwL g a M) (GTab.and GBeh)
  (fun _ Bs=>(QJh M now).ok=true∧MOk (QJh M now)∧∃a',a'.dev=a.dev∧Bs=GwL g a' (QJh M now))
  (fun Bs=>(QJh M now).ok=false∧MOk (QJh M now)∧∃a',a'.dev=a.dev∧Bs=GwL g a' (QJh M now)):=by
 refine QdA (QDz _ _) fun B hr=>?_;haveI:=QKI hr.1;haveI:=Qb7 hr.2;obtain⟨N,hN⟩:∃N,QJh M now=N:=⟨_,rfl⟩;rw[hN];unfold QJh at hN;have hno:=QdX hno;unfold QDz mfP;dsimp only;refine QBx 4 (P1:=QA3 a.line M.ma) (fun f hf=>hf.1) fun hma=>?_;have hck:=QVY (now:=now) hM.clock;refine xgf (h:=xgs (cOf a { M with clock:=QCn M.clock now }) (h:=?_));refine QAO (xgf (h:=xgf (h:=?_)));have htk:=QSM a.line M.ma (QCn M.clock now) hck;have hM0:=hM.tick0 hma now;have hto:=QbD (m:=M.ma) (now:=QCn M.clock now);have hrep:=QaN (m:=M.ma) (now:=QCn M.clock now);have hos1:=QVK M now;obtain⟨t1,ht1⟩:∃t,QDa M now=t:=⟨_,rfl⟩;rw[ht1]at hos1 hN hno;unfold QDa at ht1;unfold tick0 at hM0 ht1;unfold QKz at htk
 generalize QDf M.ma (QCn M.clock now)=T at *
 obtain⟨bs,o,ma'⟩:=T;simp only at htk hto hM0 hrep ht1;obtain⟨M0,hM0e⟩:∃M0:GM,{ M with clock:=QCn M.clock now,ma:=ma',os:=if 0<bs.length then M.os++[(1,bs)] else M.os }=M0:=⟨_,rfl⟩;rw[hM0e]at hM0 ht1
 have hM0os:M0.os.length≤800001:=by
  rw[←hM0e];simp only;split
  ·rw[List.length_append];simp only[List.length_cons,List.length_nil];omega
  ·omega
 refine QXT ?_ (QAL fun b=>?_)
 all_goals
  refine xcl htk rdb ?_;rintro⟨s,w0,w1,s1,s2,s3,w5,c,_⟩ _ ⟨rfl,rfl,h3,hf,rfl,rfl,rfl⟩;simp only at h3;subst h3;first|refine Qc4 (ca8 (QAL fun b=>?_))|refine Qc4 (ca8 ?_)
  iterate 6 (refine xsq ?_)
  refine QCm (E:=U8) (xs:=bs) s fun hsn _=>?_;refine QCm (E:=W16) (xs:=o.r.set) s2 fun _ hs2c=>?_;refine QBu (fun As'=>As'=Blk b [.I o.what,.I o.r.exc,s1.v,s2.v,nilS.v,.I o.tries]::Ar BL s1 o.r.on::Ar W16 s2 o.r.set::GwL g a M0) (fun K hK=>?_) ?_
  ·refine QAA (fun h=>?_) (fun h=>?_)
   ·refine xd0 (QIn g (cOf a { M with clock:=QCn M.clock now }) M.os (by omega) 1 s bs) ?_;rw[if_pos (show 0<bs.length by omega)]at hM0e;subst hM0e;exact QAK (Blk b [.I o.what,.I o.r.exc,s1.v,s2.v,nilS.v,.I o.tries]::Ar BL s1 o.r.on::Ar W16 s2 o.r.set::GwL g a { M with clock:=QCn M.clock now,ma:=ma',os:=M.os++[(1,bs)] }) (hK _ rfl)
   ·rw[if_neg (show ¬0<bs.length by omega)]at hM0e;subst hM0e;exact QAK (Blk b [.I o.what,.I o.r.exc,s1.v,s2.v,nilS.v,.I o.tries]::Ar BL s1 o.r.on::Ar W16 s2 o.r.set::GwL g a { M with clock:=QCn M.clock now,ma:=ma',os:=M.os }) (hK _ rfl)
  rintro _ rfl;refine QBu (fun As'=>∃u a',t1=u∧u.ok=true∧MOk u∧a'.dev=a.dev∧As'=GwL g a' u) (fun K hK=>?_) ?_
  ·refine xif (fun h=>?_) (fun h=>?_)
   ·rw[if_pos h]at ht1;have hto:=hto h;refine xgq (xgq (QAE (s:=.slice) (x:=s1) (hv:=rfl) (h:=QAE (s:=.slice) (x:=s2) (hv:=rfl) (h:=xgS (h:=xgq ?_)))));refine QST (QOP g a M0 hM0 (by rw[←hM0e];exact hok) (by rw[←hM0e];show ma'.tries≤0;omega) (by rw[←hM0e];exact hM.busy hto.1) (by omega) o hf (by rw[hrep.1];intro v hv;cases hv) s1 s2 hs2c) rdb ?_ ?_
    ·rintro _ _ ⟨hto2,hMt,rfl,rfl⟩;rw[ht1]at hto2 hMt⊢;refine QFO (ca0 ?_);exact QAK (GwL g a.noCmd t1) (hK _ ⟨t1,a.noCmd,rfl,hto2,hMt,rfl,rfl⟩)
    ·rintro _ ⟨hto2,hMt,rfl,rfl⟩;rw[ht1]at hto2 hMt⊢;rw[QJF hto2,QJF hto2,QJF hto2,QJF hto2]at hN;subst hN;exact QFO (QAK (GwL g a.noCmd t1) (QTk ⟨hto2,hMt,a.noCmd,rfl,rfl⟩))
   ·rw[if_neg (by rw[h];decide)]at ht1;subst ht1;exact QAK (GwL g a M0) (hK _ ⟨M0,a,rfl,by rw[←hM0e];exact hok,hM0,rfl,rfl⟩)
  rintro _ ⟨u,a1,rfl,huok,huM,hd1,rfl⟩;rw[QPJ huok]at hN;refine xgf (h:=?_);refine xd1 (QRz a1.line t1.ma) ?_;refine QBu (fun As'=>∃u a',QDn t1=u∧u.ok=true∧MOk u∧a'.dev=a.dev∧As'=GwL g a' u) (fun K hK=>?_) ?_
  ·unfold QDn at hK hN;refine xif (fun h=>?_) (fun h=>?_)
   ·have h:¬t1.ma.tries>0:=by simpa using h
    rw[if_neg h]at hK hN;refine QAU (GwL g a1 t1) ?_;refine QST (QWA g a1 t1 huM huok (by omega)) rdb ?_ ?_
    ·rintro _ _ ⟨hso,hsM,a2,hd2,rfl⟩;exact QFO (ca0 (QAa (l:=GwL g a2 (QDb t1)) (hK _ ⟨_,a2,rfl,hso,hsM,hd2.trans hd1,rfl⟩)))
    ·rintro _ ⟨hso,hsM,a2,hd2,rfl⟩;rw[QJF hso,QJF hso,QJF hso]at hN;subst hN;exact QFO (QAa (l:=GwL g a2 (QDb t1)) (QTk ⟨hso,hsM,_,hd2.trans hd1,rfl⟩))
   ·have h:t1.ma.tries>0:=by simpa using h
    rw[if_pos h]at hK;exact QAK (GwL g a1 t1) (hK _ ⟨_,a1,rfl,huok,huM,hd1,rfl⟩)
  have hos2:(QDn t1).os.length≤800003:=by
   unfold QDn;split
   ·omega
   ·exact Nat.le_trans (QRe t1) (by omega)
  rintro _ ⟨u,a2,hu,huok,huM,hd2,rfl⟩;rw[hu]at hN hos2 hno;rw[QPJ huok]at hN
  -- all is made to last
  have hsy:=QXe g (cOf a2 u) u.os u.k;unfold QM3 at hN hno
  generalize QJd u.k=y at *
  obtain⟨y1,y2⟩:=y;refine QST hsy rdb ?_ ?_
  case refine_2=>
   rintro _ ⟨hy,rfl⟩;simp only at hy hN;subst hy;rw[QJF rfl,QJF rfl]at hN;subst hN;exact QBM (QAK (GwL g a2 { u with k:=y1,ok:=false }) (QTk ⟨rfl,huM.step y1 u.m u.saved u.os false,a2,hd2,rfl⟩))
  rintro _ _ ⟨hy,rfl⟩;simp only at hy hN;subst hy;rw[show QTl { u with k:=y1,ok:=true } QKb=QKb { u with k:=y1,ok:=true } from QPJ rfl]at hN;refine QBM (ca0 (QAO ?_))
  -- the index is saved
  refine QAS (fun(x:Bool) As'=>∃(k1:Kn) (c:Bool),x=c∧k1=y1∧QKb { u with k:=y1,ok:=true }=(if c=true then { u with k:=k1,ok:=true,saved:=k1.log.next } else { u with k:=k1,ok:=true })∧As'=GwL g a2 { u with k:=k1,ok:=true }) (fun K hK=>?_) ?_
  ·unfold QKb at hK hN;refine xgf (h:=xgf (h:=?_));refine xd1 (QJT a2.dev a2.log a2.idx y1) (xgc (h:=QAA (fun h=>?_) (fun h=>?_)))
   ·exact absurd h hno.1
   ·rw[if_neg (show ¬IntKind.i64.wrap (y1.log.next - u.saved)≥64 from h)]at hK;exact QAK (GwL g a2 { u with k:=y1,ok:=true }) (hK _ _ ⟨y1,false,rfl,rfl,by rw[if_neg (by decide)],rfl⟩)
  rintro _ _ ⟨k1,c,rfl,hky,h4,rfl⟩;rw[←hky]at hno;rw[h4]at hN;refine QBu (fun As'=>∃sv,QKb { u with k:=y1,ok:=true }={ u with k:=k1,ok:=true,saved:=sv }∧As'=GwL g a2 { u with k:=k1,ok:=true,saved:=sv }) (fun K hK=>?_) ?_
  ·refine xif (fun h=>?_) (fun h=>?_)
   ·rw[h4,if_pos h]at hK;refine xgf (h:=?_);refine xd1 (QJT a2.dev a2.log a2.idx k1) (xgs (cOf a2 { u with k:=k1,ok:=true,saved:=k1.log.next }) (h:=?_));exact QAK (GwL g a2 { u with k:=k1,ok:=true,saved:=k1.log.next }) (hK _ ⟨_,rfl,rfl⟩)
   ·rw[h4,if_neg (by rw[h];decide)]at hK;exact hK _ ⟨u.saved,rfl,rfl⟩
  rintro _ ⟨sv,h5,rfl⟩;rw[←h4,h5,QPJ rfl]at hN;unfold QW5 at hN;refine QAO (xgf (h:=xgf (h:=xgf (h:=?_))));have htr:=QTA a2.dev a2.log a2.idx k1 u.acked hno.2.2.1 (hno.2.1 ▸ hno.2.2.2);rw[←hno.2.1]at htr;simp only at hN
  generalize QQa k1 u.acked u.keep=z at *
  obtain⟨k2,e⟩:=z;simp only at htr hN;refine xcl htr rdb ?_;rintro⟨e',_⟩ _ ⟨he,rfl⟩;simp only at he;subst he;refine QA5 (ca1 (QQ8 (fun he=>?_) (fun he=>?_)))
  ·rw[if_neg he]at hN;unfold QVh at hN;refine xcl (QH7 g (cOf a2 { u with k:=k2,ok:=true,saved:=sv }) u.os (by omega) k2 u.m) rdb ?_;rintro _ _ rfl;subst hN;refine QQA (ca0 ?_);exact QAK (GwL g a2 { u with k:=k2,ok:=true,saved:=sv,m:=(QCV u.epoch u.clock k2.log u.m).1,os:=u.os++(QCV u.epoch u.clock k2.log u.m).2 }) (QAD ⟨rfl,huM.step k2 _ sv _ true,a2,hd2,rfl⟩)
  ·rw[if_pos he]at hN;subst hN;exact QAK (GwL g a2 { u with k:=k2,ok:=false,saved:=sv }) (QTk ⟨rfl,huM.step k2 u.m sv u.os false,a2,hd2,rfl⟩)
def QTW(M:GM)(e:EvV):Bool:=decide (e.kind≠4)&&(decide (e.kind≠5)&&(decide (e.kind≠1)||Qeu M e.now))
theorem QO1{M:GM}{e:EvV}(h:QTW M e=true):e.kind≠4∧e.kind≠5∧(e.kind=1→Qeu M e.now=true):=by
 unfold QTW at h;simp only[Bool.and_eq_true,Bool.or_eq_true,decide_eq_true_eq]at h;exact⟨h.1,h.2.1,fun q=>h.2.2.resolve_left fun z=>z q⟩
theorem QXk(g:Nat)(a:GwA)(M:GM)(hM:MOk M)(hok:M.ok=true)(hos:M.os.length≤800000)(hts:M.ts.length≤1000000)(e:EvV)(s:Sl)(hx:e.data.length≤1000000)(hnm:e.name.size≤1000000)(hcap:s.n≤s.c)(hl:QTW M e=true) :
  Ct Pr 96 [.pointer (some ⟨g,0,none⟩),.agg #[.I e.kind,.I e.now,s.v,.string e.name]] .one [.I] (GwL g a M) ((GTab.and GBeh).and (RAr U8 s e.data))
  (fun t Bs=>t.1=(if (QId M e).ok=true then 0 else 10)∧MOk (QId M e)∧∃a',a'.dev=a.dev∧Bs=GwL g a' (QId M e)):=by
 refine QGr (QGQ QYs) fun B hr=>?_;obtain⟨⟨hg1,hg2⟩,hg3⟩:=hr;haveI:=QKI hg1;haveI:=Qb7 hg2;haveI:Fro B s U8 e.data:=⟨hg3⟩;obtain⟨N,hN⟩:∃N,QId M e=N:=⟨_,rfl⟩;rw[hN];unfold QId at hN;obtain⟨hk4,hk5,hk1⟩:=QO1 hl;unfold QCW;refine QAL fun b=>QAL fun b1=>QBu (fun As'=>∃a',N.ok=false∧MOk N∧a'.dev=a.dev∧As'=Blk b1 [.I 0]::GwL g a' N) (fun Q hQ=>?_) ?_
 ·refine xgq ?_;refine QBu (fun As'=>∃a',N.ok=true∧MOk N∧a'.dev=a.dev∧As'=Blk b1 [.I 0]::GwL g a' N) (fun K hK=>?_) ?_
  ·refine xif (fun h1=>?_) (fun h1=>?_)
   ·rw[if_pos (eq_of_beq h1)]at hN;refine xgq ?_;refine QST (QY9 g a M hM hok hos e.now (hk1 (eq_of_beq h1))) rdb ?_ ?_
    ·rintro _ _ ⟨ho,hm,a',hd,rfl⟩;rw[hN]at ho hm⊢;exact QFO (ca0 (QAK (Blk b1 [.I 0]::GwL g a' N) (hK _ ⟨a',ho,hm,hd,rfl⟩)))
    ·rintro _ ⟨ho,hm,a',hd,rfl⟩;rw[hN]at ho hm⊢;exact QFO (QAK (Blk b1 [.I 0]::GwL g a' N) (hQ _ ⟨a',ho,hm,hd,rfl⟩))
   rw[if_neg (ne_of_beq_false h1)]at hN;refine QAJ (xif (fun h2=>?_) (fun h2=>?_))
   ·rw[if_pos (eq_of_beq h2)]at hN;unfold QXb at hN;obtain⟨hw16,hcase⟩:=QUS M.ma e.data;have hsp:=fun q=>QRf q M.ma s e.data hcap
    generalize QFr M.ma e.data=H at *
    obtain⟨o,ma'⟩:=H;simp only at hN hw16 hcase
    have hM0:MOk { M with ma:=ma' }:=by
     rcases hcase with⟨_,rfl⟩|⟨_,_,rfl⟩
     ·exact hM
     ·exact hM.stopped
    have tail:∀{b2:Nat}{s1 s2:Sl}{R:List HP},o.r.files=[]→s2.n≤s2.c→Ent B (Blk b2 [.I o.what,.I o.r.exc,s1.v,s2.v,nilS.v,.I o.tries]::Ar BL s1 o.r.on::Ar W16 s2 o.r.set::Blk b1 [.I 0]::GwR g a { M with ma:=ma' } R)
      (QBc [] (fun(K'2:WP)=>XIf o.is (QAq (.I) ⟨b2,0,none⟩ fun(n2:Int)=>QAq (.I) ⟨b2,1,none⟩ fun(n3:Int)=>QAq .slice ⟨b2,2,none⟩ fun s4=>QAq .slice ⟨b2,3,none⟩ fun s5=>QAq .slice ⟨b2,4,none⟩ fun s6=>QAq (.I) ⟨b2,5,none⟩ fun(n4:Int)=>QFK Q 151 [.pointer (some ⟨g,0,none⟩),.agg #[.I n2,.I n3,s4.v,s5.v,s6.v,.I n4]] (.tup []) []<|K'2) (K'2))<|K):=by
     intro b2 s1 s2 R hf hc2;refine QAJ (xif (fun h=>?_) (fun h=>?_))
     ·rw[if_pos h]at hN;obtain⟨_,htr,rfl⟩:=hcase.resolve_left (fun q=>by rw[q.1]at h;cases h);refine xgq (xgq (QAE (s:=.slice) (x:=s1) (hv:=rfl) (h:=QAE (s:=.slice) (x:=s2) (hv:=rfl) (h:=xgS (h:=xgq ?_)))));refine QST (QOP g a { M with ma:=QDB M.ma } hM0 hok (Int.le_refl 0) (fun q=>hM.busy htr q) (show M.os.length≤900000 by omega) o hf hw16 s1 s2 hc2) rdb ?_ ?_
      ·rintro _ _ ⟨ho,hm,rfl⟩;rw[hN]at ho hm⊢;exact QFO (ca0 (QAK (Blk b1 [.I 0]::GwL g a.noCmd N) (hK _ ⟨a.noCmd,ho,hm,rfl,rfl⟩)))
      ·rintro _ ⟨ho,hm,rfl⟩;rw[hN]at ho hm⊢;exact QFO (QAK (Blk b1 [.I 0]::GwL g a.noCmd N) (hQ _ ⟨a.noCmd,ho,hm,rfl,rfl⟩))
     ·rw[if_neg (by rw[h];decide)]at hN;subst hN;exact QAK (Blk b1 [.I 0]::GwL g a { M with ma:=ma' }) (hK _ ⟨a,hok,hM0,rfl,rfl⟩)
    refine QAO (xgf (h:=QAE (s:=.slice) (x:=s) (hv:=rfl) (h:=QXT ?_ ?_)))
    ·refine xcl (hsp a.line) rdb ?_;rintro⟨v0,v1,s1,s2,v4,v5,v6,_⟩ _ ⟨rfl,rfl,h3,hf,rfl,rfl,rfl⟩;simp only at h3;subst h3;refine QQA (ca7 (QAL fun b2=>?_));iterate 6 (refine xsq ?_)
     refine QAU [Ar W16 s2 o.r.set] (QCm (E:=W16) (xs:=o.r.set) s2 fun _ hs2c=>?_);refine QAU (Blk b2 [.I o.what,.I o.r.exc,s1.v,s2.v,nilS.v,.I o.tries]::Ar BL s1 o.r.on::Ar W16 s2 o.r.set::Blk b1 [.I 0]::GwL g a { M with ma:=ma' }) ?_;exact tail hf hs2c
    ·refine QAL fun b3=>?_;refine xcl (hsp a.line) rdb ?_;rintro⟨v0,v1,s1,s2,v4,v5,v6,_⟩ _ ⟨rfl,rfl,h3,hf,rfl,rfl,rfl⟩;simp only at h3;subst h3;refine QQA (ca7 ?_);iterate 6 (refine xsq ?_)
     refine QAU [Ar W16 s2 o.r.set] (QCm (E:=W16) (xs:=o.r.set) s2 fun _ hs2c=>?_);refine QAU (Blk b3 [.I o.what,.I o.r.exc,s1.v,s2.v,nilS.v,.I o.tries]::Ar BL s1 o.r.on::Ar W16 s2 o.r.set::Blk b1 [.I 0]::GwL g a { M with ma:=ma' }) ?_;exact tail hf hs2c
   rw[if_neg (ne_of_beq_false h2)]at hN;refine QAJ (xif (fun h3=>?_) (fun h3=>?_))
   ·rw[if_pos (eq_of_beq h3)]at hN;refine QAE (s:=.slice) (x:=s) (hv:=rfl) (h:=?_);refine QST (QYT g a M hM hok hos s e.data hx hcap) rdb ?_ ?_
    ·rintro _ _ ⟨ho,hm,a',hd,rfl⟩;rw[hN]at ho hm⊢;exact QFO (ca0 (QAK (Blk b1 [.I 0]::GwL g a' N) (hK _ ⟨a',ho,hm,hd,rfl⟩)))
    ·rintro _ ⟨ho,hm,a',hd,rfl⟩;rw[hN]at ho hm⊢;exact QFO (QAK (Blk b1 [.I 0]::GwL g a' N) (hQ _ ⟨a',ho,hm,hd,rfl⟩))
   rw[if_neg (ne_of_beq_false h3)]at hN;refine QAJ (xif (fun h4=>?_) (fun h4=>?_))
   ·exact absurd (eq_of_beq h4) hk4
   rw[if_neg (ne_of_beq_false h4)]at hN;refine QAJ (xif (fun h5=>?_) (fun h5=>?_))
   ·exact absurd (eq_of_beq h5) hk5
   rw[if_neg (ne_of_beq_false h5)]at hN;subst hN;exact QAK (Blk b1 [.I 0]::GwL g a M) (hK _ ⟨a,hok,hM,rfl,rfl⟩)
  rintro _ ⟨a',ho,hm,hd,rfl⟩;refine xsq (xgq ?_);exact QAK (GwL g a' N) (QAD ⟨by rw[if_pos ho],hm,a',hd,rfl⟩)
 rintro _ ⟨a',ho,hm,hd,rfl⟩;refine QAL fun b2=>xsq (xgq ?_);exact QAK (GwL g a' N) (QAD ⟨by rw[if_neg (by rw[ho];decide)],hm,a',hd,rfl⟩)
theorem QOr(g:Nat)(a:GwA)(M:GM)(hM:MOk M)(hok:M.stopped=false→M.ok=true)(hts:M.ts.length≤1000000)(e:EvV)(s:Sl)(hx:e.data.length≤1000000)(hnm:e.name.size≤1000000)(hcap:s.n≤s.c)(hl:QTW { M with os:=[] } e=true) :
  Ct Pr 33 [.pointer (some ⟨g,0,none⟩),.agg #[.I e.kind,.I e.now,s.v,.string e.name]] .one [.slice] (GwL g a M) ((GTab.and GBeh).and (RAr U8 s e.data))
  (fun t Bs=>MOk (QBZ M e).1∧∃a',a'.dev=a.dev∧Bs=QNG t.1 (QBZ M e).2::GwL g a' (QBZ M e).1):=by
 refine sp1 (QEz _ _ _ _ _) fun B hr=>?_;obtain⟨⟨hg1,hg2⟩,hg3⟩:=hr;haveI:=QKI hg1;haveI:=Qb7 hg2;haveI:Fro B s U8 e.data:=⟨hg3⟩;obtain⟨N,hN⟩:∃N,QBZ M e=N:=⟨_,rfl⟩;rw[hN];unfold QBZ at hN;unfold QEz mf;dsimp only;refine QAL fun b=>xgf (h:=xif (fun h=>?_) (fun h=>?_))
 ·rw[if_pos h]at hN;subst hN;exact QVd (QAK (QNG nilS []::GwL g a M) (QAD ⟨hM,a,rfl,rfl⟩))
 rw[if_neg (by rw[show M.stopped=false from h];decide)]at hN;refine xgw 1 fun out=>QAQ ?_;rw[QAz];refine xsq (QVd (QQC g (cOf a { M with os:=[] }) [] nilS ?_));refine xgq (xgq (QAE (s:=.slice) (x:=s) (hv:=rfl) (h:=xgq ?_)));have hM0:MOk { M with os:=[] }:=hM.core M.k M.lost M.J M.m [] M.ok;have hds:=QXk g a { M with os:=[] } hM0 (hok h) (Nat.zero_le _) hts e s hx hnm hcap hl
 generalize QId { M with os:=[] } e=D at *
 refine xcl hds rdb ?_;rintro⟨r,_⟩ _ ⟨hr1,hD,a',hd,rfl⟩;simp only at hr1;refine QFO (ca1 (xgs (cOf a' { D with stopped:=(r != 0) }) (h:=?_)));refine xgw 0 fun out=>QAQ ?_;rw[QAz];refine QAE (s:=.slice) (x:=out) (hv:=rfl) (h:=QAQ ?_);rw[QAz];refine xsq (QVd (QQC g (cOf a' { D with stopped:=(r != 0),os:=[] }) [] nilS ?_));have hD0:MOk { D with os:=[],stopped:=(r != 0) }:=⟨hD.clock,hD.keep,hD.slots,hD.polls,hD.tags,hD.held,hD.al,hD.queue,hD.poll,hD.busy⟩;refine xgf (h:=xif (fun h2=>?_) (fun h2=>?_))
 ·have h2:(r != 0)=true:=h2
  have hno:D.ok=false:=by
   cases hq:D.ok with
   | false=>rfl
   | true=>rw[hq]at hr1;rw[hr1]at h2;cases h2
  rw[hno]at hN;rw[h2]at hD0⊢;subst hN;exact QVd (QAK (QNG nilS []::GwL g a' { D with os:=[],stopped:=true }) (QAD ⟨hD0,a',hd,rfl⟩))
 ·have h2:(r != 0)=false:=h2
  have hyes:D.ok=true:=by
   cases hq:D.ok with
   | true=>rfl
   | false=>rw[hq]at hr1;rw[hr1]at h2;cases h2
  rw[hyes]at hN;rw[h2]at hD0⊢;subst hN;exact QAK (QNG out D.os::GwL g a' { D with os:=[],stopped:=false }) (QAD ⟨hD0,a',hd,rfl⟩)
theorem QbB(k:Nat)(ts:Sl)(d:Option Addr)(g:Nat)(a:GwA)(M:GM)(b:BM)(hM:GFit M)(e:EvV)(s:Sl)(hx:e.data.length≤1000000)(hnm:e.name.size≤1000000)(hcap:s.n≤s.c)(hlt:QTW { M with os:=[] } e=true) :
  Ct Pr 43 [.pointer (some ⟨k,0,none⟩),.agg #[.I e.kind,.I e.now,s.v,.string e.name]] (.tup []) [] (BnO k ts d (some ⟨g,0,none⟩) b::GwL g a M) ((GTab.and GBeh).and (RAr U8 s e.data))
  (fun _ Bs=>GFit (QBZ M e).1∧∃a',a'.dev=a.dev∧Bs=BnO k ts d (some ⟨g,0,none⟩) (doB b M e)::GwL g a' (QBZ M e).1):=by
 refine sp0 (QHm _ _ _ _ _) fun B hr=>?_;obtain⟨⟨hg1,hg2⟩,hg3⟩:=hr;haveI:=QKI hg1;haveI:=Qb7 hg2;haveI:Fro B s U8 e.data:=⟨hg3⟩;unfold QHm mf;dsimp only;refine QBx 5 (P1:=QA3 a.line M.ma) (fun f hf=>hf.1) fun hma=>?_;refine QBx 4 (P1:=QBA a.up M.m) (fun f hf=>hf.1) fun hse=>?_;refine xbn 0 fun p ls fs ho hl=>?_;refine QAL fun b1=>QAO (xng (xgq (xgq (xgq (QAE (s:=.slice) (x:=s) (hv:=rfl) (h:=xgq ?_))))));refine xcl (QOr g a M hM.ok hM.run hM.ts e s hx hnm hcap hlt) rdb ?_;rintro⟨s1,_⟩ _ ⟨hk,a',hd,rfl⟩;have hos:=Qa5 hse hM.ok.clock e;have hsh:=(QKs M hma.fr e).2.2;have hfit:=hM.step hma.fr e hk;unfold doB
 generalize QBZ M e=N at *
 obtain⟨N,os⟩:=N;simp only at hos hsh hfit;refine QSY (ca1 ?_);refine QMj k ts d (some ⟨g,0,none⟩) b p ls fs ho hl ?_;refine xcl (QUH k ts d g a' N b s1 os hsh (by omega)) rdb ?_;rintro _ _ rfl;refine QSY (ca0 ?_);exact QAK (BnO k ts d (some ⟨g,0,none⟩) (QaB b N os)::GwL g a' N) (QAD ⟨hfit,a',hd,rfl⟩)
def QWG(b:BM)(M:GM)(kd a:Int):Bool:=match QOk b (QC2 kd 10) a with
 | none=>true
 | some (_,e)=>QTW { M with os:=[] } e
theorem QXY(k:Nat)(ts:Sl)(d:Option Addr)(g:Nat)(a:GwA)(had:a.dev=d)(M:GM)(b:BM)(hM:GFit M)(m0 m1:Int)(hlt:QWG b M m0 m1=true) :
  Ct Pr 14 [.pointer (some ⟨k,0,none⟩),.agg #[.I m0,.I m1]] .one [.bool] (BnO k ts d (some ⟨g,0,none⟩) b::Ar Pn.TG ts b.cf.tags::GwL g a M) (GTab.and GBeh) (QOS k ts d b.cf.tags (QZA b M m0 m1)):=by
 refine sp1 (QGF _ _ _) fun B hr=>?_;obtain⟨hg1,hg2⟩:=hr;haveI:=QKI hg1;haveI:=Qb7 hg2;obtain⟨N,hN⟩:∃N,QZA b M m0 m1=N:=⟨_,rfl⟩;rw[hN];unfold QZA at hN;unfold QWG at hlt;unfold QGF mf;dsimp only;refine QAL fun b1=>xgq ?_;refine xcl (QFV m0 10 ⟨by decide,by decide⟩) rdb ?_;have hkin:=QVE (k:=m0) (n:=10) (by decide)
 generalize QC2 m0 10=r at *
 rintro⟨(r':Int),_⟩ _ ⟨hr',rfl⟩;simp only at hr';subst hr';refine QAy (ca1 ?_)
 have fin:∀{b':BM}{M':GM}{a':GwA}{R:List HP},some (b',M')=N→GFit M'→a'.dev=d→Ent B (BnO k ts d (some ⟨g,0,none⟩) b'::Ar Pn.TG ts b.cf.tags::GwR g a' M' R) (Ret B (ss:=[.bool]) (QOS k ts d b.cf.tags N) (true,())):=by
  intro b' M' a' R h1 h2 h3;exact QAK (BnO k ts d (some ⟨g,0,none⟩) b'::Ar Pn.TG ts b.cf.tags::GwL g a' M') (QAD (.inr ⟨rfl,b',M',g,a',h1.symm,h2,h3,rfl⟩))
 have evt:∀{b':BM}{e:EvV}{s:Sl}{R:List HP},some (doB b' M e,(QBZ M e).1)=N→e.data.length≤1000000→e.name.size≤1000000→s.n≤s.c→Rds B (Ar Pn.TG ts b.cf.tags::R) (RAr U8 s e.data)→QTW { M with os:=[] } e=true →
   Ent B (BnO k ts d (some ⟨g,0,none⟩) b'::GwR g a M (Ar Pn.TG ts b.cf.tags::R)) (QAb Pr 43 [.pointer (some ⟨k,0,none⟩),.agg #[.I e.kind,.I e.now,s.v,.string e.name]] (.tup []) []<|Ret B (ss:=[.bool]) (QOS k ts d b.cf.tags N) (true,())):=by
  intro b' e s R h1 h2 h3 h4 h5 h6;refine xcl (QbB k ts d g a M b' hM e s h2 h3 h4 h6) (QB1 (QB1 rdb rdb) h5) ?_;rintro _ _ ⟨hf,a',hd,rfl⟩;refine QSY (ca0 ?_);refine QAU (BnO k ts d (some ⟨g,0,none⟩) (doB b' M e)::Ar Pn.TG ts b.cf.tags::GwL g a' (QBZ M e).1) ?_;exact fin h1 hf (hd.trans had)
 have nilR:∀{F:List HP}{bs:List UInt8},bs=[]→Rds B F (RAr U8 nilS bs):=fun h=>by rw[h];exact QKF fun _ _ _ _ _=>⟨rfl,rfl,fun h=>absurd h (Nat.lt_irrefl 0)⟩
 refine QAS (fun(x:Bool) As'=>(x=true↔(r'=0∨r'=1))∧As'=Blk b1 [.I m0,.I m1]::BnO k ts d (some ⟨g,0,none⟩) b::Ar Pn.TG ts b.cf.tags::GwL g a M) (fun K hK=>?_) ?_
 ·refine xif (fun h=>hK _ _ ⟨⟨fun _=>.inl (eq_of_beq h),fun _=>h⟩,rfl⟩) (fun h=>hK _ _ ⟨?_,rfl⟩);have h:=ne_of_beq_false h;rw[beq_iff_eq];exact⟨.inr,fun q=>q.resolve_left h⟩
 rintro x _ ⟨hx,rfl⟩;refine QAJ (xif (fun h=>?_) (fun h=>?_))
 ·have h01:=hx.1 h;rw[if_neg (by omega),if_neg (by omega)]at hN;unfold QOk at hN hlt;rw[if_pos h01]at hN hlt;refine QAO (xbn 1 fun p ls fs ho hl=>xng (xgq (xgq ?_)));refine xcl (QFV m1 6 ⟨by decide,by decide⟩) rdb ?_;rintro⟨r1,_⟩ _ ⟨hr1,rfl⟩;simp only at hr1;subst hr1;refine QAy (ca1 ?_);rw[QAz];refine QC6 (h:=xns (xsq (xng (xgq ?_))));refine QMj k ts d (some ⟨g,0,none⟩) { b with now:=IntKind.i64.wrap (b.now+QC2 m1 6) } p ls fs ⟨ho.f,ho.n,ho.h⟩ (hl.same rfl rfl) ?_;refine QAU (BnO k ts d (some ⟨g,0,none⟩) { b with now:=IntKind.i64.wrap (b.now+QC2 m1 6) } :: GwR g a M [Ar Pn.TG ts b.cf.tags]) ?_;exact evt (e:=⟨1,IntKind.i64.wrap (b.now+QC2 m1 6),[],ByteArray.empty⟩) (s:=nilS) hN (by simp) (by simp) (Nat.le_refl _) (nilR rfl) hlt
 have hn01:¬(r'=0∨r'=1):=fun q=>by rw[hx.2 q]at h;cases h
 refine QAS (fun(x:Bool) As'=>(x=true↔(r'=2∨r'=3))∧As'=Blk b1 [.I m0,.I m1]::BnO k ts d (some ⟨g,0,none⟩) b::Ar Pn.TG ts b.cf.tags::GwL g a M) (fun K hK=>?_) ?_
 ·refine xif (fun h=>hK _ _ ⟨⟨fun _=>.inl (eq_of_beq h),fun _=>h⟩,rfl⟩) (fun h=>hK _ _ ⟨?_,rfl⟩);have h:=ne_of_beq_false h;rw[beq_iff_eq];exact⟨.inr,fun q=>q.resolve_left h⟩
 rintro x1 _ ⟨hx1,rfl⟩;refine QAJ (xif (fun h=>?_) (fun h=>?_))
 ·have h23:=hx1.1 h;rw[if_neg (by omega),if_neg (by omega)]at hN;unfold QOk at hN hlt;rw[if_neg hn01,if_pos h23]at hN hlt;refine xgq ?_;refine xcl (QFV m1 65536 ⟨by decide,by decide⟩) rdb ?_;rintro⟨r2,_⟩ _ ⟨hr2,rfl⟩;simp only at hr2;subst hr2;refine QAy (ca1 ?_);refine xcl (QOq k ts d (some ⟨g,0,none⟩) b (QC2 m1 65536)) rdb ?_;rintro⟨s,_⟩ _ rfl;have hal:=Qae b.last (QC2 m1 65536)
  generalize QcF b.last (QC2 m1 65536)=ab at *
  refine QBM (ca1 (QAU [Ar U8 s ab] (QCm (E:=U8) (xs:=ab) s fun hsn hsc=>?_)));refine QAJ (QAA (fun h=>?_) (fun h=>?_))
  ·rw[if_pos (by omega)]at hN hlt;refine xbn 1 fun p ls fs ho hl=>xns (xsq ?_);refine QMj k ts d (some ⟨g,0,none⟩) { b with last:=[] } p nilS fs ⟨ho.f,ho.n,ho.h⟩ ⟨.inl ⟨rfl,rfl⟩,hl.len,hl.each,hl.short⟩ ?_;refine QAU (BnO k ts d (some ⟨g,0,none⟩) { b with last:=[] } :: GwR g a M [Ar Pn.TG ts b.cf.tags,Ar U8 s ab]) ?_;exact evt (e:=⟨2,0,ab,ByteArray.empty⟩) (s:=s) hN (by show ab.length≤_;omega) (by simp) hsc rdb hlt
  ·rw[if_neg (by omega)]at hN;exact QAU (BnO k ts d (some ⟨g,0,none⟩) b::Ar Pn.TG ts b.cf.tags::GwL g a M) (fin hN hM had)
 have hn23:¬(r'=2∨r'=3):=fun q=>by rw[hx1.2 q]at h;cases h
 refine QAJ (xif (fun h4=>?_) (fun h4=>?_))
 ·have h4:=eq_of_beq h4;rw[if_neg (by omega),if_neg (by omega)]at hN;unfold QOk at hN hlt;rw[if_neg hn01,if_neg hn23,if_pos h4]at hN hlt;refine QAO (xbn 1 fun p ls fs ho hl=>xng (xgq (xng (xgq ?_))));refine xcl (pre:=[]) (QIv (Qc3 b) (by intro q;rcases q with q|q<;>cases q) nilS) (nilR rfl) ?_;rintro⟨s,_⟩ _ rfl;have hpl:=QHP (Qc3 b);refine QA5 (ca1 (QCm (E:=U8) (xs:=QA8 (Qc3 b)) s fun hsn hsc=>?_));refine QMj k ts d (some ⟨g,0,none⟩) b p ls fs ho hl ?_;refine QAU (BnO k ts d (some ⟨g,0,none⟩) b::GwR g a M [Ar Pn.TG ts b.cf.tags,Ar U8 s (QA8 (Qc3 b))]) ?_;exact evt (e:=⟨3,0,QA8 (Qc3 b),ByteArray.empty⟩) (s:=s) hN (by show (QA8 (Qc3 b)).length≤_;omega) (by simp) hsc rdb hlt
 have h4:=ne_of_beq_false h4;refine QAJ (xif (fun h5=>?_) (fun h5=>?_))
 ·have h5:=eq_of_beq h5;rw[if_neg (by omega),if_neg (by omega)]at hN;unfold QOk at hN hlt;rw[if_neg hn01,if_neg hn23,if_neg h4,if_pos h5]at hN hlt;refine xgq ?_;refine xcl (QFV m1 12 ⟨by decide,by decide⟩) rdb ?_;rintro⟨r3,_⟩ _ ⟨hr3,rfl⟩;simp only at hr3;subst hr3;refine QAy (ca1 ?_)
  generalize IntKind.i64.wrap (1+QC2 m1 12)=id at *
  refine xcl (QN3 id) rdb ?_;rintro⟨v0,v1,v2,t0,t1,t2,_⟩ _ ⟨rfl,rfl,rfl,g4,g5,rfl⟩;simp only at g4 g5;subst g4 g5;refine QA5 (Pn.ca6 ?_);refine xcl (pre:=[]) (QMU (QPT id) (by intro v hv;rw[List.mem_singleton.1 hv];exact QXU id) nilS t1 nilS) (QB1 (QaR (E:=BL)) (QB1 rdb (QaR (E:=PaE)))) ?_;have hck:=QMk (QPT id)
  generalize QCU (QPT id)=P at *
  obtain⟨pk,pe⟩:=P;simp only at hN hck;rintro⟨w0,w1,w2,w3,w4,sb,w6,_⟩ _ ⟨rfl,rfl,rfl,rfl,rfl,_,rfl⟩;refine QA5 (ca7 (QAL fun b2=>?_));iterate 6 (refine xsq ?_)
  iterate 5 (refine xgq ?_)
  refine QAE (s:=.slice) (x:=sb) (hv:=rfl) (h:=?_);refine xcl (QIv pk hck sb) rdb ?_;rintro⟨s,_⟩ _ rfl;have hpl:=QHP pk;refine QA5 (ca1 (QCm (E:=U8) (xs:=QA8 pk) s fun hsn hsc=>?_));refine QAU (BnO k ts d (some ⟨g,0,none⟩) b::GwR g a M [Ar Pn.TG ts b.cf.tags,Ar U8 s (QA8 pk)]) ?_;exact evt (e:=⟨3,0,QA8 pk,ByteArray.empty⟩) (s:=s) hN (by show (QA8 pk).length≤_;omega) (by simp) hsc rdb hlt
 have h5:=ne_of_beq_false h5;refine QAJ (xif (fun h6=>?_) (fun h6=>?_))
 ·have h6:=eq_of_beq h6;rw[if_pos h6]at hN;subst had;refine QAO (xbn 1 fun p ls fs ho hl=>xng (xgq ?_));refine QGn 5 fun hk=>?_;refine QBx 0 (P1:=QAC a.dev M.k.dev) (fun f hf=>QIU hf) fun ⟨bd,hbd⟩=>?_
  have xnE:∀{As:List HP}{K:Addr→WP},Ent B As (K ⟨bd,0,none⟩)→Ent B As (QCe a.dev K):=fun h=>by rw[hbd];exact QAQ h
  refine xnE (xgq ?_);refine xcl (QFV m1 40 ⟨by decide,by decide⟩) rdb ?_;have hpi:=QVE (k:=m1) (n:=40) (by decide)
  generalize QC2 m1 40=n at *
  rintro⟨(r3:Int),_⟩ _ ⟨hr3,rfl⟩;simp only at hr3;subst hr3;refine QAy (ca1 ?_);rw[QAz];refine QC6 (h:=?_);rw[←hbd];refine xcl (QbT a.dev M.k.dev r3 ⟨by omega,by omega⟩) rdb ?_;rintro _ _ rfl;refine QA5 (ca0 ?_);refine QBx 0 (P1:=QAC a.dev (QcS M.k.dev r3)) (fun f hf=>hf.1) fun hI=>?_;have hk2:KOk ⟨QcS M.k.dev r3,M.k.log,M.k.X⟩:=⟨⟨hI,hk.ldev.log,hk.ldev.cur,hk.ldev.safe,hk.ldev.files,hk.ldev.ord⟩,hk.idx⟩;refine QCs a.dev a.log a.idx ⟨QcS M.k.dev r3,M.k.log,M.k.X⟩ hk2 ?_;refine QMj k ts a.dev (some ⟨g,0,none⟩) b p ls fs ho hl ?_;exact QAU (BnO k ts a.dev (some ⟨g,0,none⟩) b::Ar Pn.TG ts b.cf.tags::GwL g a (Qfl M r3)) (fin hN (hM.arm r3) rfl)
 have h6:=ne_of_beq_false h6;refine xif (fun h7=>?_) (fun h7=>?_)
 ·have h7:=eq_of_beq h7;rw[if_neg h6,if_pos h7]at hN;subst had;refine QAO (xbn 1 fun p ls fs ho hl=>xng (xgq (xgq ?_)));refine QGn 5 fun hk=>?_;refine xcl (QRM a.dev M.k.dev m1) rdb ?_;rintro _ _ rfl;refine QA5 (ca0 ?_);refine QMj k ts a.dev (some ⟨g,0,none⟩) b p ls fs ho hl ?_;refine xcl (QJj k ts a.dev (some ⟨g,0,none⟩) b (QI1 M.k.dev m1)) rdb ?_;rw[hN];rintro⟨t,_⟩ Bs hb;rcases hb with⟨ht,hn,rfl⟩|⟨ht,b',M',g',a',hs,hf,hd,rfl⟩
  ·simp only at ht;subst ht;exact QAy (ca1 (QAa (l:=[]) (QAD (.inl ⟨rfl,hn,rfl⟩))))
  ·simp only at ht;subst ht;refine QFA (ca1 ?_);exact QAK (BnO k ts a.dev (some ⟨g',0,none⟩) b'::Ar Pn.TG ts b.cf.tags::GwL g' a' M') (QAD (.inr ⟨rfl,b',M',g',a',hs,hf,hd,rfl⟩))
 have h7:=ne_of_beq_false h7;rw[if_neg h6,if_neg h7]at hN;unfold QOk at hN hlt;rw[if_neg hn01,if_neg hn23,if_neg h4,if_neg h5]at hN hlt;exfalso;by_cases h8:r'=8
 ·rw[if_pos h8]at hlt;exact (QO1 hlt).1 rfl
 ·rw[if_neg h8]at hlt;exact (QO1 hlt).2.1 rfl
abbrev QBd(b:BM)(M:GM)(kd a:Int):BM×GM:=Qeq b M (QOk b kd a)
theorem QgI{P:Program}{f:FuncId}{args:List Value}{rs:Rs}{ss:List Sh}{rd:HP}{pre:List HP}{post post':Tup ss→List HP→Prop}(c:Ct P f args rs ss pre rd post)(h:∀t Bs,post t Bs→post' t Bs):Ct P f args rs ss pre rd post':=
 fun w g hs hm hr=>(c w g hs hm hr).mono fun _ _ ⟨t,Bs,he,hp,hx⟩=>⟨t,Bs,he,h t Bs hp,hx⟩
theorem Qbu(b:BM)(p:List UInt8):(QNN b p).cf=b.cf:=by
 unfold QNN;repeat' split
 all_goals rfl
theorem QeL(b:BM)(lg:LM)(e s:Int)(p:List UInt8):(upB b lg e s p).cf=b.cf:=by
 unfold upB;repeat' split
 all_goals rfl
theorem Qc5(M:GM)(b:BM)(o:QCS):(QaY M b o).cf=b.cf:=by
 unfold QaY;repeat' split
 ·exact Qbu _ _
 ·exact QeL _ _ _ _ _
 ·rfl
theorem QSu(M:GM):∀(os:List QCS) (b:BM),(QaB b M os).cf=b.cf
 | [],b=>rfl
 | o::os,b=>(QSu M os (QaY M b o)).trans (Qc5 M b o)
theorem QEF(b:BM)(M:GM)(kd a:Int):(QBd b M kd a).1.cf=b.cf:=by
 unfold QBd QOk;repeat' split
 all_goals first|rfl|exact QSu _ _ _
theorem QVM{b b':BM}{m:DM}{M:GM}(h:QM6 b m=some (b',M)):b'.cf=b.cf:=by
 unfold QM6 at h;split at h
 ·cases h
 ·unfold Qco at h;repeat' split at h
  ·cases h
  ·cases h
  ·injection h with h;injection h with h1 h2;rw[←h1];exact QSu _ _ _
theorem QRR{c:Cfg}{room:Int}{b':BM}{M:GM}(h:QKS c room=some (b',M)):b'.cf=c:=by
 unfold QKS at h;split at h
 ·cases h
 ·exact QVM h
theorem QE8(k:Nat)(ts:Sl)(d:Option Addr)(g:Nat)(a:GwA)(had:a.dev=d)(M:GM)(b:BM)(hM:GFit M)(m0 m1:Int)(h:QC2 m0 10=m0)(h6:m0≠6)(h7:m0≠7)(hl:QWG b M m0 m1=true) :
  Ct Pr 14 [.pointer (some ⟨k,0,none⟩),.agg #[.I m0,.I m1]] .one [.bool] (BnO k ts d (some ⟨g,0,none⟩) b::Ar Pn.TG ts b.cf.tags::GwL g a M) (GTab.and GBeh)
  (fun _ Bs=>GFit (QBd b M m0 m1).2∧∃g' a',a'.dev=d∧Bs=BnO k ts d (some ⟨g',0,none⟩) (QBd b M m0 m1).1::Ar Pn.TG ts b.cf.tags::GwL g' a' (QBd b M m0 m1).2):=by
 refine QgI (QXY k ts d g a had M b hM m0 m1 hl) ?_
 have hm:QZA b M m0 m1=some (QBd b M m0 m1):=by
  unfold QZA;rw[h,if_neg h6,if_neg h7]
 rw[hm];rintro t Bs (⟨_,h,_⟩|⟨_,b',M',g',a',h,hf,hd,rfl⟩)
 ·cases h
 ·injection h with h;rw[h];exact⟨hf,g',a',hd,rfl⟩
theorem QHF{a b N:Bool}(h:(a&&b)=N)(ht:true=N):a=true∧b=N:=by
 subst ht;exact Bool.and_eq_true_iff.1 h
def Qfq(s:StV)(n1 n2 n3 n4 n5 n6 n7:Int)(c:Bool):Bool:=(s.next == n1)&&((s.safe == n2)&&((s.first == n3)&&((s.acked == n4)&&((s.epoch == n5)&&((s.boots == n6)&&((s.lost == n7)&&((s.busy == c)&&true)))))))
def QcK(x:BM×GM):Bool:=(!x.1.wrong&&x.1.sent == 2)&&Qfq (QWM x.2) 2 2 0 2 1 1 0 true
def QcJ(x:BM×GM):Bool:=QWG x.1 x.2 0 1&&QWG (QBd x.1 x.2 0 1).1 (QBd x.1 x.2 0 1).2 4 0&&QcK (QBd (QBd x.1 x.2 0 1).1 (QBd x.1 x.2 0 1).2 4 0)
def Qcj(r:RE)(k t:Int)(n:ByteArray)(v i:Int):Bool:=(r.kind == k)&&((r.time == t)&&((r.tag == n)&&((r.val == v)&&((r.id == i)&&true))))
def Qca(x:BM×GM):Bool:=
 if (QH6 x.2.k.log 1).2≠0∨(QE6 (QH6 x.2.k.log 1).1).2≠0 then false
 else if Qcj (QE6 (QH6 x.2.k.log 1).1).1 1 1 QDo 7 0=false then false
 else QcJ x
def QcZ(x:BM×GM):Bool:=
 if x.1.last.length≠8∨x.1.last.take 6≠[1,4,0,5,0,1] then false
 else QWG x.1 x.2 2 7&&Qca (QBd x.1 x.2 2 7)
def QcC(x:BM×GM):Bool:=
 if x.1.sent≠1∨Qfq (QWM x.2) 1 1 0 0 1 1 0 false=false then false
 else QWG x.1 x.2 0 1&&QcZ (QBd x.1 x.2 0 1)
def QR9:Bool:=match QKS (QRI 1) 100000 with
 | none=>false
 | some x=>QcC x
theorem knownB_true:QR9=true:=by decide +kernel
theorem QgD{b:Bool}(h:(!b)=true):b=false:=by cases b<;>first|rfl|cases h
theorem Qfk{b:Bool}(h:(!b)=false):b=true:=by cases b<;>first|rfl|cases h
theorem QW3:Ct Pr 15 [] .one [.bool] [] (GTab.and GBeh) (fun t Bs=>t.1=QR9∧Bs=[]):=by
 refine QGr QOs fun B hr=>?_;obtain⟨hg1,hg2⟩:=hr;haveI:=QKI hg1;haveI:=Qb7 hg2;obtain⟨N,hN,hNt⟩:∃N,QR9=N∧true=N:=⟨_,rfl,knownB_true.symm⟩;rw[hN];unfold QR9 at hN;have fin:∀{c:Bool}{As:List HP},c=N→Ent B As (Ret B (ss:=[.bool]) (fun t Bs=>t.1=N∧Bs=[]) (c,())):=fun h=>QAa (l:=[]) (QAD ⟨h,rfl⟩);unfold QH2;refine xcl (QQ2 1) rdb ?_;rintro⟨r,r1,r2,r3,r4,r5,s,_⟩ _ ⟨h1,h2,h3,h4,h5,h6,rfl⟩;simp only at h1 h2 h3 h4 h5 h6;subst h1 h2 h3 h4 h5 h6;refine QA5 (ca7 ?_);refine xcl (QLb (QRI 1) s 100000) rdb ?_;have hcf:=@QRR (QRI 1) 100000
 generalize QKS (QRI 1) 100000=X at *
 rintro⟨q,_⟩ _ h;rcases h with⟨hq,rfl,rfl⟩|⟨k,b,M,g,a,hq,rfl,hM,rfl⟩
 ·simp only at hq;subst hq;exact QAy (ca1 (QAJ (QBz rfl (QAJ (QBz rfl (QBz rfl (fin hN)))))))
 simp only at hq hN;subst hq;have hcf:=hcf rfl;obtain⟨d,hd⟩:∃d,a.dev=d:=⟨_,rfl⟩;rw[hd,←hcf];clear hcf;refine QFA (ca1 (QAJ (QBF rfl ?_)));refine xbn 0 fun p ls fs ho hl=>xng (xgq ?_);refine QMj k s d (some ⟨g,0,none⟩) b p ls fs ho hl ?_;clear ho hl;unfold QcC at hN;refine QAJ (xif (fun h=>QBz rfl (fin ?_)) (fun h=>?_))
 ·rw[if_pos (.inl (bne_iff_ne.1 h))]at hN;exact hN
 have hs1:b.sent=1:=by simpa using h
 refine xbn 0 fun p ls fs ho hl=>xng (xgq ?_);refine QMj k s d (some ⟨g,0,none⟩) b p ls fs ho hl ?_;clear ho hl;refine xcl (QFx g a M) rdb ?_;rintro⟨r6,r7,r8,r9,r10,r11,r12,c,_⟩ _ ⟨hst,rfl⟩;simp only at hst;rw[←hst]at hN;refine QFO (ca8 (xif (fun h=>fin ?_) (fun h=>?_)))
 ·rw[if_pos (.inr (QgD h))]at hN;exact hN
 rw[if_neg (by
  intro z;rcases z with z|z
  ·exact z hs1
  ·rw[show Qfq ⟨r6,r7,r8,r9,r10,r11,r12,c⟩ 1 1 0 0 1 1 0 false=true from Qfk h]at z;cases z)]at hN
 clear hst h hs1;refine QAU (BnO k s d (some ⟨g,0,none⟩) b::Ar Pn.TG s b.cf.tags::GwL g a M) ?_;obtain⟨hl,hN⟩:=QHF hN hNt;refine xcl (QE8 k s d g a hd M b hM 0 1 (by decide) (by decide) (by decide) hl) rdb ?_;have hc1:=QEF b M 0 1
 generalize QBd b M 0 1=X1 at *
 obtain⟨b1,M1⟩:=X1;rintro _ _ ⟨hM1,g1,a1,hd1,hB⟩;simp only at hc1 hM1 hB;subst hB;rw[←hc1];clear hM hd hc1;refine QFA (ca1 ?_);refine xbn 0 fun p ls fs ho hl=>xng (QAE (s:=.slice) (x:=ls) (hv:=rfl) (h:=?_));refine QBx 1 (P1:=QAk p) (fun f hf=>QJW hl.last hf) fun hcap=>?_;unfold QcZ at hN;simp only at hN;refine QAS (fun(c:Bool) As'=>(c=true↔(b1.last.length≠8∨b1.last.take 6≠[1,4,0,5,0,1]))∧As'=BnO k s d (some ⟨g1,0,none⟩) b1::Ar Pn.TG s b1.cf.tags::GwL g1 a1 M1) (fun K hK=>?_) ?_
 ·refine xif (fun h=>?_) (fun h=>?_)
  ·refine QMj k s d (some ⟨g1,0,none⟩) b1 p ls fs ho hl ?_;have h:=bne_iff_ne.1 h;exact QAK (BnO k s d (some ⟨g1,0,none⟩) b1::Ar Pn.TG s b1.cf.tags::GwL g1 a1 M1) (hK _ _ ⟨⟨fun _=>.inl (by omega),fun _=>rfl⟩,rfl⟩)
  ·have h:(ls.n:Int)=8:=by simpa using h
   refine xng (QAE (s:=.slice) (x:=ls) (hv:=rfl) (h:=?_));refine QEh (by omega) (by omega) (by omega) (by omega) (QAL fun b2=>?_);refine QAe (Q:=Ar U8 ⟨some ⟨b2,0,none⟩,6,6⟩ [1,4,0,5,0,1]) 0 (fun g hg=>⟨[],QAm [1,4,0,5,0,1] 6 rfl rfl hg⟩) ?_
   refine xcl (QE4 (ls.cut 0 6 ls.c 1) ⟨some ⟨b2,0,none⟩,6,6⟩ (b1.last.take 6) [1,4,0,5,0,1] (by rw[List.length_take];omega)) (QB1 (fun w a b c d e f g=>by
    have:=(QGg (B:=B) hl.last 2 w a b c d e f g).cut 0 6 ls.c (by omega) (by omega) (by omega)
    exact this) rdb) ?_
   rintro⟨c5,_⟩ _ ⟨hc5,rfl⟩;simp only at hc5;subst hc5;refine QAy (ca1 ?_);refine QMj k s d (some ⟨g1,0,none⟩) b1 p ls fs ho hl ?_;refine QAK (BnO k s d (some ⟨g1,0,none⟩) b1::Ar Pn.TG s b1.cf.tags::GwL g1 a1 M1) (hK _ _ ⟨?_,rfl⟩);rw[Bool.not_eq_true',decide_eq_false_iff_not];exact⟨.inr,fun z=>z.resolve_left fun y=>y (by omega)⟩
 rintro c _ ⟨hc,rfl⟩;refine xif (fun h=>fin ?_) (fun h=>?_)
 ·rw[if_pos (hc.1 h)]at hN;exact hN
 rw[if_neg (fun z=>by rw[hc.2 z]at h;cases h)]at hN;clear hc h;obtain⟨hl,hN⟩:=QHF hN hNt;refine xcl (QE8 k s d g1 a1 hd1 M1 b1 hM1 2 7 (by decide) (by decide) (by decide) hl) rdb ?_;have hc2:=QEF b1 M1 2 7
 generalize QBd b1 M1 2 7=X2 at *
 obtain⟨b2,M2⟩:=X2;rintro _ _ ⟨hM2,g2,a2,hd2,hB⟩;simp only at hc2 hM2 hB;subst hB;rw[←hc2];clear hM1 hd1 hc2 hcap;refine QFA (ca1 ?_);refine xbn 0 fun p ls fs ho hl=>xng (xgq ?_);refine QMj k s d (some ⟨g2,0,none⟩) b2 p ls fs ho hl ?_;clear ho hl;refine xcl (QU8 g2 a2 M2) rdb ?_;rintro⟨ql,_⟩ _ ⟨hql,rfl⟩;simp only at hql;subst hql;refine QFO (ca1 ?_);refine QGn 1 fun hk=>?_;refine xcl (QGU a2.log a2.dev M2.k.log 1 ⟨by decide,by decide⟩) rdb ?_;rintro⟨s1,r13,_⟩ _ ⟨h6,rfl⟩;simp only at h6;subst h6;refine QBM (ca2 ?_);refine QCs a2.dev a2.log a2.idx M2.k hk ?_;have hgl:=QKx hk.ldev.log 1;unfold Qca at hN
 generalize QH6 M2.k.log 1=gl at *
 obtain⟨gb,r6⟩:=gl;simp only at hN hgl⊢;refine QAU (Ar U8 s1 gb::BnO k s d (some ⟨g2,0,none⟩) b2::Ar Pn.TG s b2.cf.tags::GwL g2 a2 M2) ?_;refine QCm (E:=U8) (xs:=gb) s1 fun hsn hsc=>?_;refine xcl (QXn s1 gb hsc (by omega)) rdb ?_;rintro⟨t0,t1,t2,t3,t4,t5,_⟩ _ ht;obtain⟨rfl,rfl,rfl,rfl,rfl,rfl,rfl⟩:=ht;refine QAy (Pn.ca6 (QAL fun b3=>?_));iterate 5 (refine xsq ?_)
 refine QAU (Blk b3 [.I (QE6 gb).1.kind,.I (QE6 gb).1.time,.string (QE6 gb).1.tag,.I (QE6 gb).1.val,.I (QE6 gb).1.id]::Ar U8 s1 gb::BnO k s d (some ⟨g2,0,none⟩) b2::Ar Pn.TG s b2.cf.tags::GwL g2 a2 M2) ?_;refine QAS (fun(c:Bool) As'=>(c=true↔(r6≠0∨(QE6 gb).2≠0∨Qcj (QE6 gb).1 1 1 QDo 7 0=false))∧As'=BnO k s d (some ⟨g2,0,none⟩) b2::Ar Pn.TG s b2.cf.tags::GwL g2 a2 M2) (fun K hK=>?_) ?_
 ·refine xif (fun h=>?_) (fun h=>?_)
  ·refine QAK (BnO k s d (some ⟨g2,0,none⟩) b2::Ar Pn.TG s b2.cf.tags::GwL g2 a2 M2) (hK _ _ ⟨⟨fun _=>?_,fun _=>rfl⟩,rfl⟩);rcases Bool.or_eq_true_iff.1 h with h|h
   ·exact .inl (bne_iff_ne.1 h)
   ·exact .inr (.inl (bne_iff_ne.1 h))
  ·iterate 5 (refine xgq ?_)
   refine QAK (BnO k s d (some ⟨g2,0,none⟩) b2::Ar Pn.TG s b2.cf.tags::GwL g2 a2 M2) (hK _ _ ⟨?_,rfl⟩);obtain⟨h1,h2⟩:=Bool.or_eq_false_iff.1 h
   have h1:r6=0:=by simpa using h1
   have h2:(QE6 gb).2=0:=by simpa using h2
   rw[Bool.not_eq_true'];exact⟨fun z=>.inr (.inr z),fun z=>(z.resolve_left fun y=>y h1).resolve_left fun y=>y h2⟩
 rintro c _ ⟨hc,rfl⟩;refine xif (fun h=>fin ?_) (fun h=>?_)
 ·rcases hc.1 h with z|z|z
  ·rw[if_pos (.inl z)]at hN;exact hN
  ·rw[if_pos (.inr z)]at hN;exact hN
  ·rw[if_pos z]at hN;by_cases q:r6≠0∨(QE6 gb).2≠0
   ·rw[if_pos q]at hN;exact hN
   ·rw[if_neg q]at hN;exact hN
 have hno:¬(r6≠0∨(QE6 gb).2≠0∨Qcj (QE6 gb).1 1 1 QDo 7 0=false):=fun z=>by rw[hc.2 z]at h;cases h
 rw[if_neg (fun z=>hno (z.imp id .inl)),if_neg (fun z=>hno (.inr (.inr z)))]at hN;clear hno hc h hgl;unfold QcJ at hN;simp only at hN;obtain⟨hl,hN⟩:=QHF hN hNt;obtain⟨hl,hl2⟩:=Bool.and_eq_true_iff.1 hl;refine xcl (QE8 k s d g2 a2 hd2 M2 b2 hM2 0 1 (by decide) (by decide) (by decide) hl) rdb ?_;have hc3:=QEF b2 M2 0 1
 generalize QBd b2 M2 0 1=X3 at *
 obtain⟨b4,M3⟩:=X3;rintro _ _ ⟨hM3,g3,a3,hd3,hB⟩;simp only at hc3 hM3 hB hN hl2;subst hB;rw[←hc3];refine QFA (ca1 ?_);refine xcl (QE8 k s d g3 a3 hd3 M3 b4 hM3 4 0 (by decide) (by decide) (by decide) hl2) rdb ?_
 generalize QBd b4 M3 4 0=X4 at *
 obtain⟨b5,M4⟩:=X4;rintro _ _ ⟨hM4,g4,a4,hd4,hB⟩;simp only at hM4 hB hN;subst hB;refine QFA (ca1 ?_);refine xbn 0 fun p ls fs ho hl=>xng (xgq ?_);refine QMj k s d (some ⟨g4,0,none⟩) b5 p ls fs ho hl ?_;refine xcl (QFx g4 a4 M4) rdb ?_;rintro⟨r19,r20,r21,r22,r23,r24,r25,c10,_⟩ _ ⟨hst,rfl⟩;simp only at hst;unfold QcK at hN;simp only at hN;rw[←hst]at hN;refine QFO (ca8 (QAL fun b6=>?_));iterate 8 (refine xsq ?_)
 refine QAU (Blk b6 [.I r19,.I r20,.I r21,.I r22,.I r23,.I r24,.I r25,.bool c10]::BnO k s d (some ⟨g4,0,none⟩) b5::Ar Pn.TG s b4.cf.tags::GwL g4 a4 M4) ?_;refine xbn 1 fun p ls fs ho hl=>xng (xgq ?_);refine QAS (fun(c:Bool) As'=>c=(!b5.wrong&&b5.sent == 2)∧As'=[Blk b6 [.I r19,.I r20,.I r21,.I r22,.I r23,.I r24,.I r25,.bool c10]]) (fun K hK=>?_) ?_
 ·refine xif (fun h=>xng (xgq (QAK [Blk b6 [.I r19,.I r20,.I r21,.I r22,.I r23,.I r24,.I r25,.bool c10]] (hK _ _ ⟨?_,rfl⟩)))) (fun h=>QAK [Blk b6 [.I r19,.I r20,.I r21,.I r22,.I r23,.I r24,.I r25,.bool c10]] (hK _ _ ⟨?_,rfl⟩))
  ·rw[h];rfl
  ·rw[h];rfl
 rintro c _ ⟨hc,rfl⟩;rw[←hc]at hN;refine QAJ (xif (fun h=>?_) (fun h=>fin ?_))
 ·iterate 8 (refine xgq ?_)
  refine fin ?_;rw[←hN,h];rfl
 ·rw[←hN,h];rfl
def QBm(M:GM)(nm:ByteArray):AlV×Bool:=if QJy M.ts nm<0 then (⟨0,false⟩,false) else (M.al.getD (QJy M.ts nm).toNat ⟨0,false⟩,true)
theorem QWv(g:Nat)(a:GwA)(M:GM)(hM:MOk M)(hts:M.ts.length≤1000000)(nm:ByteArray):Ct Pr 37 [.pointer (some ⟨g,0,none⟩),.string nm] (.tup [some 2,none]) [.I,.bool,.bool] (GwL g a M) emp
  (fun t Bs=>t.1=(QBm M nm).1.state∧t.2.1=(QBm M nm).1.waits∧t.2.2.1=(QBm M nm).2∧Bs=GwL g a M):=by
 refine QAg (ss:=[.I,.bool,.bool]) (φ:=fun K=>(QCL _ _ K).1) (fun h=>cf _ rfl (by kernel_rfl) h) fun B _=>?_;show Ent B (GwL g a M) (QCL (some ⟨g,0,none⟩) nm fun x0 x1 x2=>Ret B (ss:=[.I,.bool,.bool]) (fun t Bs=>t.1=(QBm M nm).1.state∧t.2.1=(QBm M nm).1.waits∧t.2.2.1=(QBm M nm).2∧Bs=GwL g a M) (x0,x1,x2,()));unfold QCL mf;dsimp only;refine QAL fun b=>xgf (h:=?_);refine xcl (QXm a.tags M.ts hts nm) rdb ?_;rintro⟨r,_⟩ _ ⟨hr,rfl⟩;simp only at hr;subst hr;refine QAy (ca1 ?_);unfold QBm;refine QAA (fun h=>?_) (fun h=>?_)
 ·rw[if_pos h];refine xsq (xsq (xgq (xgq ?_)));exact QAK (GwL g a M) (QAD ⟨rfl,rfl,rfl,rfl⟩)
 ·rw[if_neg h];have hin:=QUI nm M.ts 0;have hal:=hM.al
  have hlt:(QJy M.ts nm).toNat<M.al.length:=by
   unfold QJy at *
   omega
  obtain⟨x,hx⟩:∃x,M.al[(QJy M.ts nm).toNat]? = some x:=⟨_,List.getElem?_eq_getElem hlt⟩
  have hgd:M.al.getD (QJy M.ts nm).toNat ⟨0,false⟩=x:=by rw[List.getD_eq_getElem?_getD,hx];rfl
  rw[hgd]
  have hnn:QJy M.ts nm=((QJy M.ts nm).toNat:Int):=by omega
  generalize (QJy M.ts nm).toNat=n at *
  rw[hnn];refine xgf (h:=?_);refine QAH (E:=ALT) (xs:=M.al) (s:=a.alarms) (k:=n) (h1:=hlt) (h:=fun _ _=>?_);refine QAN (E:=ALT) (xs:=M.al) hx (h:=?_);refine QAZ (E:=ALT) (xs:=M.al) hx (h:=?_);refine xsq (xsq (xgq (xgq ?_)));exact QAK (GwL g a M) (QAD ⟨rfl,rfl,rfl,rfl⟩)
def Qdm(rs:List (Int×Sl)):Sl:=if rs.length=1 then (rs.getD 0 (0,nilS)).2 else nilS
theorem QUr(l:Sl)(rs:List (Int×Sl)):Ct Pr 36 [l.v] .one [.slice] [] (RAr OuE l rs) (fun t Bs=>t.1=Qdm rs∧Bs=[]):=by
 refine sp1 (QRF _) fun B hr=>?_;haveI:Fro B l OuE rs:=⟨hr⟩;have hn:=hr.1;unfold QRF mf Qdm;dsimp only;refine xif (fun h=>?_) (fun h=>?_)
 ·have h:=bne_iff_ne.1 h;rw[if_neg (by omega)];exact QAD ⟨rfl,rfl⟩
 ·have h:(l.n:Int)=1:=by simpa using h
  have h1:rs.length=1:=by omega
  rw[if_pos h1]
  match rs,h1 with
  | [x],_=>
   refine QAH (E:=OuE) (xs:=[x]) (s:=l) (k:=0) (h1:=Nat.one_pos) (h:=fun _ _=>?_);refine QAZ (E:=OuE) (s:=l) (xs:=[x]) (sh:=.slice) (v:=x.2) rfl (h:=?_);exact QAD ⟨rfl,rfl⟩
def QV7(os:List QCS):List UInt8:=if os.length=1 then (os.getD 0 (0,[])).2 else []
theorem QXf{rs:List (Int×Sl)}{os:List QCS}(h:rs.map Prod.fst=os.map Prod.fst):Src (QC9 rs os) (Qdm rs) (QV7 os):=by
 have hl:rs.length=os.length:=by have:=congrArg List.length h;simpa using this
 unfold Qdm QV7;by_cases h1:os.length=1
 ·rw[if_pos h1,if_pos (hl.trans h1)]
  match rs,os,hl.trans h1,h1 with
  | [x],[y],_,_=>exact .inr (by simp[QC9])
 ·rw[if_neg h1,if_neg (by omega)];exact .inl ⟨rfl,rfl⟩
theorem QYG{B:QBE}{As F:List HP}(j:Nat){l:Sl}{os:List QCS}{φ:WP}[p:Pick j As (QNG l os) F](h:∀rs,rs.map Prod.fst=os.map Prod.fst→Ent B (Ar OuE l rs::QAk (QC9 rs os)::F) φ):Ent B As φ:=by
 refine QFI j (P1:=QNG l os) (fun Bs=>∃rs:List (Int×Sl),rs.map Prod.fst=os.map Prod.fst∧Bs=[Ar OuE l rs,Each (fun(r:Int×Sl) (o:QCS)=>Ar U8 r.2 o.2) rs os]) (fun f hf=>?_) ?_
 ·obtain⟨rs,h1,hf⟩:=hf;exact⟨_,⟨rs,h1,rfl⟩,hf⟩
 rintro _ ⟨rs,hrs,rfl⟩
 refine QBM (QBQ [Each (fun(r:Int×Sl) (o:QCS)=>Ar U8 r.2 o.2) rs os] (QAk (QC9 rs os)) (fun f hf=>by
  obtain⟨x,y,h1,h2,h3,h4,h5⟩:=hf
  exact QTt (h1.mono h4)) ?_)
 exact QAU [Ar OuE l rs,QAk (QC9 rs os)] (h rs hrs)
abbrev QWR(id:Int):EvV:=⟨3,0,QA8 (QCU (QPT id)).1,ByteArray.empty⟩
def QPp(os:List QCS)(id:Int):Int:=
 if os.length=0 then -1
 else if (QAi (QV7 os)).2≠0∨(QAi (QV7 os)).1.kind≠4∨(QAi (QV7 os)).1.id≠id then -2
 else (QAi (QV7 os)).1.code
theorem QG4(k:Nat)(ts:Sl)(d:Option Addr)(g:Nat)(a:GwA)(had:a.dev=d)(M:GM)(b:BM)(hM:GFit M)(id:Int) :
  Ct Pr 32 [.pointer (some ⟨k,0,none⟩),.I id] .one [.I] (BnO k ts d (some ⟨g,0,none⟩) b::Ar Pn.TG ts b.cf.tags::GwL g a M) (GTab.and GBeh)
  (fun t Bs=>t.1=QPp (QBZ M (QWR id)).2 id∧GFit (QBZ M (QWR id)).1∧∃a',a'.dev=d∧Bs=BnO k ts d (some ⟨g,0,none⟩) b::Ar Pn.TG ts b.cf.tags::GwL g a' (QBZ M (QWR id)).1):=by
 refine sp1 (QNZ _ _) fun B hr=>?_;obtain⟨hg1,hg2⟩:=hr;haveI:=QKI hg1;haveI:=Qb7 hg2;unfold QNZ mf;dsimp only;refine QBx 6 (P1:=QA3 a.line M.ma) (fun f hf=>hf.1) fun hma=>?_;refine QBx 5 (P1:=QBA a.up M.m) (fun f hf=>hf.1) fun hse=>?_;refine xcl (QN3 id) rdb ?_;rintro⟨v0,v1,v2,t0,t1,t2,_⟩ _ ⟨rfl,rfl,rfl,g4,g5,rfl⟩;simp only at g4 g5;subst g4 g5;refine QA5 (Pn.ca6 ?_);refine xcl (pre:=[]) (QMU (QPT id) (by intro v hv;rw[List.mem_singleton.1 hv];exact QXU id) nilS t1 nilS) (QB1 (QaR (E:=BL)) (QB1 rdb (QaR (E:=PaE)))) ?_;have hck:=QMk (QPT id);show ∀t Bs,QMJ _ _ t Bs→_;have hex:∃x,QCU (QPT id)=x:=⟨_,rfl⟩;unfold QWR
 generalize QCU (QPT id)=P at *
 obtain⟨pk,pe⟩:=P;simp only at hck⊢;rintro⟨w0,w1,w2,w3,w4,sb,w6,_⟩ _ ⟨rfl,rfl,rfl,rfl,rfl,_,rfl⟩;refine QA5 (ca7 (QAL fun b2=>?_));iterate 6 (refine xsq ?_)
 refine QAO ?_;refine QAU [BnO k ts d (some ⟨g,0,none⟩) b] ?_;refine xbn 0 fun p ls fs ho hl=>xng (xgq ?_);iterate 5 (refine xgq ?_)
 refine QAE (s:=.slice) (x:=sb) (hv:=rfl) (h:=?_);refine xcl (QIv pk hck sb) rdb ?_;rintro⟨s,_⟩ _ rfl;have hpl:=QHP pk;refine QA5 (ca1 (QCm (E:=U8) (xs:=QA8 pk) s fun hsn hsc=>?_));rw[QAz];refine QC6 (h:=?_);refine QMj k ts d (some ⟨g,0,none⟩) b p ls fs ho hl ?_;refine xcl (QOr g a M hM.ok hM.run hM.ts ⟨3,0,QA8 pk,ByteArray.empty⟩ s (by show (QA8 pk).length≤_;omega) (by simp) hsc rfl) (QB1 (QB1 rdb rdb) rdb) ?_;rintro⟨s1,_⟩ _ ⟨hk,a',hd,rfl⟩;have hsh:=(QKs M hma.fr ⟨3,0,QA8 pk,ByteArray.empty⟩).2.2;have hfit:=hM.step hma.fr ⟨3,0,QA8 pk,ByteArray.empty⟩ hk
 generalize QBZ M ⟨3,0,QA8 pk,ByteArray.empty⟩=N at *
 obtain⟨N,os⟩:=N;simp only at hsh hfit⊢;refine QSY (ca1 ?_);refine QYG 0 fun rs hrs=>?_
 have hlen:rs.length=os.length:=by have:=congrArg List.length hrs;simpa using this
 refine QCm (E:=OuE) (xs:=rs) s1 fun hln _=>?_;refine xcl (QUr s1 rs) rdb ?_;rintro⟨s2,_⟩ _ ⟨h2,rfl⟩;simp only at h2;subst h2;have hsrc:=QXf hrs
 have hq:∀r∈QC9 rs os,r.2.length≤1000000:=fun r hr=>by
  obtain⟨x,hx,rfl⟩:=List.mem_map.1 hr;exact hsh _ (List.of_mem_zip hx).2
 refine QAy (ca1 ?_);refine QAU [QAk (QC9 rs os)] ?_;refine QBx 0 (P1:=QAk (QC9 rs os)) (fun f hf=>QJW hsrc hf) fun hcap=>?_;refine xcl (pre:=[]) (QFz (QV7 os) (hsrc.short hq) (Qdm rs) hcap.1) (QGg hsrc 0) ?_;obtain⟨V,hV⟩:∃V,QPp os id=V:=⟨_,rfl⟩;rw[hV];unfold QPp at hV
 generalize QAi (QV7 os)=C at *
 obtain⟨q,e⟩:=C;simp only at hV;rintro⟨u0,u1,u2,u3,u4,sq,u6,_⟩ _ ⟨rfl,rfl,rfl,rfl,rfl,h6,rfl⟩;simp only at h6;subst h6;refine QA5 (ca7 (QAL fun b3=>?_));iterate 6 (refine xsq ?_)
 have fin:∀{v:Int}{R:List HP},v=V→Ent B (BnO k ts d (some ⟨g,0,none⟩) b::Ar Pn.TG ts b.cf.tags::GwR g a' N R) (Ret B (ss:=[.I]) (fun t Bs=>t.1=V∧GFit N∧∃a',a'.dev=d∧Bs=BnO k ts d (some ⟨g,0,none⟩) b::Ar Pn.TG ts b.cf.tags::GwL g a' N) (v,())):=fun h=>
  QAK (BnO k ts d (some ⟨g,0,none⟩) b::Ar Pn.TG ts b.cf.tags::GwL g a' N) (QAD ⟨h,hfit,a',hd.trans had,rfl⟩)
 refine QAU (Blk b3 (pkC q.kind q.epoch q.seq q.id q.code sq)::BnO k ts d (some ⟨g,0,none⟩) b::Ar Pn.TG ts b.cf.tags::GwL g a' N) ?_;refine xif (fun h=>?_) (fun h=>?_)
 ·rw[if_pos (by have : (s1.n : Int) = 0 := eq_of_beq h;omega)]at hV
  exact QAU (BnO k ts d (some ⟨g,0,none⟩) b::Ar Pn.TG ts b.cf.tags::GwL g a' N) (fin hV)
 rw[if_neg (by have : (s1.n : Int) ≠ 0 := ne_of_beq_false h;omega)]at hV
 refine QAS (fun(c:Bool) As'=>(c=true↔(u6≠0∨q.kind≠4))∧As'=Blk b3 (pkC q.kind q.epoch q.seq q.id q.code sq)::BnO k ts d (some ⟨g,0,none⟩) b::Ar Pn.TG ts b.cf.tags::GwL g a' N) (fun K hK=>?_) ?_
 ·refine xif (fun h=>QAK (Blk b3 (pkC q.kind q.epoch q.seq q.id q.code sq)::BnO k ts d (some ⟨g,0,none⟩) b::Ar Pn.TG ts b.cf.tags::GwL g a' N) (hK _ _ ⟨⟨fun _=>.inl (bne_iff_ne.1 h),fun _=>rfl⟩,rfl⟩)) (fun h=>xgq (QAK (Blk b3 (pkC q.kind q.epoch q.seq q.id q.code sq)::BnO k ts d (some ⟨g,0,none⟩) b::Ar Pn.TG ts b.cf.tags::GwL g a' N) (hK _ _ ⟨?_,rfl⟩)))
  have h:u6=0:=by simpa using h
  simp only[Bool.false_or,bne_iff_ne];exact⟨.inr,fun z=>z.resolve_left fun y=>y h⟩
 rintro c1 _ ⟨hc1,rfl⟩;refine QAS (fun(c:Bool) As'=>(c=true↔(u6≠0∨q.kind≠4∨q.id≠id))∧As'=Blk b3 (pkC q.kind q.epoch q.seq q.id q.code sq)::BnO k ts d (some ⟨g,0,none⟩) b::Ar Pn.TG ts b.cf.tags::GwL g a' N) (fun K hK=>?_) ?_
 ·refine xif (fun h=>hK _ _ ⟨⟨fun _=>?_,fun _=>rfl⟩,rfl⟩) (fun h=>xgq (QAK (Blk b3 (pkC q.kind q.epoch q.seq q.id q.code sq)::BnO k ts d (some ⟨g,0,none⟩) b::Ar Pn.TG ts b.cf.tags::GwL g a' N) (hK _ _ ⟨?_,rfl⟩)))
  ·rcases hc1.1 h with z|z
   ·exact .inl z
   ·exact .inr (.inl z)
  ·simp only[Bool.false_or,bne_iff_ne]
   exact⟨fun z=>.inr (.inr z),fun z=>by
    rcases z with z|z|z
    ·rw[hc1.2 (.inl z)]at h;cases h
    ·rw[hc1.2 (.inr z)]at h;cases h
    ·exact z⟩
 rintro c2 _ ⟨hc2,rfl⟩;refine xif (fun h=>?_) (fun h=>?_)
 ·rw[if_pos (hc2.1 h)]at hV;exact QAU (BnO k ts d (some ⟨g,0,none⟩) b::Ar Pn.TG ts b.cf.tags::GwL g a' N) (fin hV)
 ·rw[if_neg (fun z=>by rw[hc2.2 z]at h;cases h)]at hV;refine xgq ?_;exact QAU (BnO k ts d (some ⟨g,0,none⟩) b::Ar Pn.TG ts b.cf.tags::GwL g a' N) (fin hV)
abbrev QP1(x:BM×GM)(id:Int):(BM×GM)×Int:=((x.1,(QBZ x.2 (QWR id)).1),QPp (QBZ x.2 (QWR id)).2 id)
abbrev Qei:PkV:=⟨3,0,0,50,0,[1,3,0,0,0,1]⟩
abbrev QXN:EvV:=⟨3,0,QA8 Qei,ByteArray.empty⟩
abbrev QeN:ByteArray:=⟨#[117]⟩
def gk7(x:BM×GM):Bool:=
 (QPp (QBZ (QBZ x.2 QXN).1 (QWR 11)).2 11 == 3&&(QAi (QV7 (QBZ x.2 QXN).2)).2 == 0)&&(QAi (QV7 (QBZ x.2 QXN).2)).1.id == 50
 && (QAi (QV7 (QBZ x.2 QXN).2)).1.code == 4&&(QBm (QBZ x.2 QXN).1 QDo).2&&((QBm (QBZ x.2 QXN).1 QDo).1.state == 0&&((QBm (QBZ x.2 QXN).1 QDo).1.waits == false&&true))
 && !(QBm (QBZ x.2 QXN).1 QeN).2 && !x.1.wrong&&QR9
def gk6:Nat→Int→BM×GM→Bool
 | 0,_,x=>gk7 x
 | n+1,id,x=>if (QP1 x id).2≠-1 then false else gk6 n (id+1) (QP1 x id).1
def gk5(x:BM×GM):Bool:=if (QP1 x 10).2≠2 then false else gk6 8 1 (QP1 x 10).1
def gk4(x:BM×GM):Bool:=if x.1.count.getD 10 0≠1 then false else match QM6 x.1 (QI1 x.2.k.dev 0) with
 | none=>false
 | some y=>gk5 y
def gk3(x:BM×GM):Bool:=QWG x.1 x.2 5 9&&QWG (QBd x.1 x.2 5 9).1 (QBd x.1 x.2 5 9).2 0 1&&gk4 (QBd (QBd x.1 x.2 5 9).1 (QBd x.1 x.2 5 9).2 0 1)
def gk2(x:BM×GM):Bool:=if (QP1 x 9).2≠0 then false else if (QP1 (QP1 x 9).1 9).2≠0 then false else gk3 (QP1 (QP1 x 9).1 9).1
def gk1(x:BM×GM):Bool:=if x.1.count.getD 9 0≠1 then false else QWG x.1 x.2 2 0&&gk2 (QBd x.1 x.2 2 0)
def gk0(x:BM×GM):Bool:=QWG x.1 x.2 5 8&&QWG (QBd x.1 x.2 5 8).1 (QBd x.1 x.2 5 8).2 5 8&&QWG (QBd (QBd x.1 x.2 5 8).1 (QBd x.1 x.2 5 8).2 5 8).1 (QBd (QBd x.1 x.2 5 8).1 (QBd x.1 x.2 5 8).2 5 8).2 0 1&&gk1 (QBd (QBd (QBd x.1 x.2 5 8).1 (QBd x.1 x.2 5 8).2 5 8).1 (QBd (QBd x.1 x.2 5 8).1 (QBd x.1 x.2 5 8).2 5 8).2 0 1)
def QOd:Bool:=match QKS (QRI 1) 100000 with
 | none=>false
 | some x=>gk0 x
theorem gknownB_true:QOd=true:=by decide +kernel
theorem QXj:Ct Pr 9 [] .one [.bool] [] (GTab.and GBeh) (fun t Bs=>t.1=QOd∧Bs=[]):=by
 refine QGr QHc fun B hr=>?_;obtain⟨hg1,hg2⟩:=hr;haveI:=QKI hg1;haveI:=Qb7 hg2;obtain⟨N,hN,hNt⟩:∃N,QOd=N∧true=N:=⟨_,rfl,gknownB_true.symm⟩;rw[hN];unfold QOd at hN;have fin:∀{c:Bool}{As:List HP},c=N→Ent B As (Ret B (ss:=[.bool]) (fun t Bs=>t.1=N∧Bs=[]) (c,())):=fun h=>QAa (l:=[]) (QAD ⟨h,rfl⟩);unfold QC0;refine xcl (QQ2 1) rdb ?_;rintro⟨r,r1,r2,r3,r4,r5,s,_⟩ _ ⟨h1,h2,h3,h4,h5,h6,rfl⟩;simp only at h1 h2 h3 h4 h5 h6;subst h1 h2 h3 h4 h5 h6;refine QA5 (ca7 ?_);refine xcl (QLb (QRI 1) s 100000) rdb ?_;have hcf:=@QRR (QRI 1) 100000
 generalize QKS (QRI 1) 100000=X at *
 rintro⟨q,_⟩ _ h;rcases h with⟨hq,rfl,rfl⟩|⟨k,b0,M0,g0,a0,hq,rfl,hM0,rfl⟩
 ·simp only at hq;subst hq;exact QAy (ca1 (QBz rfl (fin hN)))
 simp only at hq hN;subst hq;have hcf:=hcf rfl;obtain⟨d,hd0⟩:∃d,a0.dev=d:=⟨_,rfl⟩;rw[hd0,←hcf];clear hcf;refine QFA (ca1 (QBF rfl ?_));unfold gk0 at hN;simp only at hN;obtain⟨hl,hN⟩:=QHF hN hNt;obtain⟨hl,hl3⟩:=Bool.and_eq_true_iff.1 hl;obtain⟨hl,hl2⟩:=Bool.and_eq_true_iff.1 hl;refine xcl (QE8 k s d g0 a0 hd0 M0 b0 hM0 5 8 (by decide) (by decide) (by decide) hl) rdb ?_;have hc1:=QEF b0 M0 5 8
 generalize QBd b0 M0 5 8=X1 at *
 obtain⟨b1,M1⟩:=X1;rintro _ _ ⟨hM1,g1,a1,hd1,hB⟩;simp only at hc1 hM1 hB hN hl2 hl3;subst hB;rw[←hc1];clear hM0 hd0 hc1;refine QFA (ca1 ?_);refine xcl (QE8 k s d g1 a1 hd1 M1 b1 hM1 5 8 (by decide) (by decide) (by decide) hl2) rdb ?_;have hc2:=QEF b1 M1 5 8
 generalize QBd b1 M1 5 8=X2 at *
 obtain⟨b2,M2⟩:=X2;rintro _ _ ⟨hM2,g2,a2,hd2,hB⟩;simp only at hc2 hM2 hB hN hl3;subst hB;rw[←hc2];clear hM1 hd1 hc2;refine QFA (ca1 ?_);refine xcl (QE8 k s d g2 a2 hd2 M2 b2 hM2 0 1 (by decide) (by decide) (by decide) hl3) rdb ?_;have hc3:=QEF b2 M2 0 1
 generalize QBd b2 M2 0 1=X3 at *
 obtain⟨b3,M3⟩:=X3;rintro _ _ ⟨hM3,g3,a3,hd3,hB⟩;simp only at hc3 hM3 hB hN;subst hB;rw[←hc3];clear hM2 hd2 hc3;refine QFA (ca1 ?_);unfold gk1 at hN;simp only at hN
 have rd13:∀{b:BM}{g:Nat}{i:Nat}{R:List HP}{K:Int→WP},i<13→Ent B (BnO k s d (some ⟨g,0,none⟩) b::R) (K (b.count.getD i 0)) →
   Ent B (BnO k s d (some ⟨g,0,none⟩) b::R) (QCe (some ⟨k,0,none⟩) fun a=>QKB (some (a.add 27)) 13 (i:Int) 1 fun a1=>QAq (.I) a1 fun n=>K n):=by
  intro b g i R K hi h;refine xbn 0 fun p ls fs ho hl=>xni (by omega) (by omega) ?_;rw[Int.toNat_natCast];refine QAE (hv:=BnC.get_n _ hi) (h:=?_);exact QMj k s d (some ⟨g,0,none⟩) b p ls fs ho hl h
 refine rd13 (i:=9) (by decide) ?_;refine xif (fun h=>fin ?_) (fun h=>?_)
 ·rw[if_pos (bne_iff_ne.1 h)]at hN;exact hN
 rw[if_neg (by simpa using h)]at hN;obtain⟨hl,hN⟩:=QHF hN hNt;refine xcl (QE8 k s d g3 a3 hd3 M3 b3 hM3 2 0 (by decide) (by decide) (by decide) hl) rdb ?_;have hc4:=QEF b3 M3 2 0
 generalize QBd b3 M3 2 0=X4 at *
 obtain⟨b4,M4⟩:=X4;rintro _ _ ⟨hM4,g4,a4,hd4,hB⟩;simp only at hc4 hM4 hB hN;subst hB;rw[←hc4];clear hM3 hd3 hc4;refine QFA (ca1 ?_);unfold gk2 at hN;simp only at hN;refine xcl (QG4 k s d g4 a4 hd4 M4 b4 hM4 9) rdb ?_
 generalize QBZ M4 (QWR 9)=S5 at *
 obtain⟨M5,o5⟩:=S5;rintro⟨v5,_⟩ _ ⟨hv5,hM5,a5,hd5,rfl⟩;simp only at hv5 hM5 hN;rw[←hv5]at hN;clear hM4 hd4;refine QFA (ca1 ?_);refine QAJ (xif (fun h=>QBz rfl (fin ?_)) (fun h=>?_))
 ·rw[if_pos (bne_iff_ne.1 h)]at hN;exact hN
 rw[if_neg (by simpa using h)]at hN;refine xcl (QG4 k s d g4 a5 hd5 M5 b4 hM5 9) rdb ?_
 generalize QBZ M5 (QWR 9)=S6 at *
 obtain⟨M6,o6⟩:=S6;rintro⟨v6,_⟩ _ ⟨hv6,hM6,a6,hd6,rfl⟩;simp only at hv6 hM6 hN;rw[←hv6]at hN;clear hM5 hd5;refine QFA (ca1 ?_);refine xif (fun h=>fin ?_) (fun h=>?_)
 ·rw[if_pos (bne_iff_ne.1 h)]at hN;exact hN
 rw[if_neg (by simpa using h)]at hN;unfold gk3 at hN;simp only at hN;obtain⟨hl,hN⟩:=QHF hN hNt;obtain⟨hl,hl2⟩:=Bool.and_eq_true_iff.1 hl;refine xcl (QE8 k s d g4 a6 hd6 M6 b4 hM6 5 9 (by decide) (by decide) (by decide) hl) rdb ?_;have hc7:=QEF b4 M6 5 9
 generalize QBd b4 M6 5 9=X7 at *
 obtain⟨b7,M7⟩:=X7;rintro _ _ ⟨hM7,g7,a7,hd7,hB⟩;simp only at hc7 hM7 hB hN hl2;subst hB;rw[←hc7];clear hM6 hd6 hc7;refine QFA (ca1 ?_);refine xcl (QE8 k s d g7 a7 hd7 M7 b7 hM7 0 1 (by decide) (by decide) (by decide) hl2) rdb ?_;have hc8:=QEF b7 M7 0 1
 generalize QBd b7 M7 0 1=X8 at *
 obtain⟨b8,M8⟩:=X8;rintro _ _ ⟨hM8,g8,a8,hd8,hB⟩;simp only at hc8 hM8 hB hN;subst hB;rw[←hc8];clear hM7 hd7 hc8;refine QFA (ca1 ?_);unfold gk4 at hN;simp only at hN;subst hd8;refine xbn 0 fun p ls fs ho hl=>xng (xgq ?_);refine QMj k s a8.dev (some ⟨g8,0,none⟩) b8 p ls fs ho hl ?_;refine QGn 3 fun hk=>?_;refine xcl (QRM a8.dev M8.k.dev 0) rdb ?_;rintro _ _ rfl;refine QA5 (ca0 ?_);refine QAU [BnO k s a8.dev (some ⟨g8,0,none⟩) b8] ?_;refine rd13 (i:=10) (by decide) ?_;refine QAJ (xif (fun h=>?_) (fun h=>?_))
 ·rw[if_pos (bne_iff_ne.1 h)]at hN;exact QAJ (QBz rfl (QBz rfl (fin hN)))
 rw[if_neg (by simpa using h)]at hN;refine xcl (QJj k s a8.dev (some ⟨g8,0,none⟩) b8 (QI1 M8.k.dev 0)) rdb ?_;have hbcf:∀b' M',QM6 b8 (QI1 M8.k.dev 0)=some (b',M')→b'.cf=b8.cf:=fun _ _ h=>QVM h
 generalize QM6 b8 (QI1 M8.k.dev 0)=Y at *
 obtain⟨d,hd⟩:∃d,a8.dev=d:=⟨_,rfl⟩;rw[hd];clear hd;rintro⟨c8,_⟩ _ h;rcases h with⟨hq,rfl,rfl⟩|⟨hq,b9,M9,g9,a9,rfl,hM9,hd9,rfl⟩
 ·simp only at hq;subst hq;exact QAy (ca1 (QAJ (QBz rfl (QBz rfl (fin hN)))))
 simp only at hq hN;subst hq;rw[←hbcf _ _ rfl];clear hbcf hM8;refine QFA (ca1 (QAJ (QBF rfl ?_)));unfold gk5 at hN;simp only at hN;refine xcl (QG4 k s d g9 a9 hd9 M9 b9 hM9 10) rdb ?_
 generalize QBZ M9 (QWR 10)=S10 at *
 obtain⟨M10,o10⟩:=S10;rintro⟨v10,_⟩ _ ⟨hv10,hM10,a10,hd10,rfl⟩;simp only at hv10 hM10 hN;rw[←hv10]at hN;clear hM9 hd9;refine QFA (ca1 (xif (fun h=>fin ?_) (fun h=>?_)))
 ·rw[if_pos (bne_iff_ne.1 h)]at hN;exact hN
 rw[if_neg (by simpa using h)]at hN;refine QAK (BnO k s d (some ⟨g9,0,none⟩) b9::Ar Pn.TG s b9.cf.tags::GwL g9 a10 M10) ?_;refine QBP (fun n (x:Int) As'=>∃M a,(x=9 - (n:Int)∧n≤8)∧GFit M∧a.dev=d∧gk6 n x (b9,M)=N∧As'=BnO k s d (some ⟨g9,0,none⟩) b9::Ar Pn.TG s b9.cf.tags::GwL g9 a M) 8 ⟨M10,a10,⟨rfl,Nat.le_refl _⟩,hM10,hd10,hN,rfl⟩ ?_;clear hN hM10 hd10;rintro n (x:Int) As' K ⟨M,a,hx,hM,hd,hN,rfl⟩ hK;refine QAA (fun h=>?_) (fun h=>?_)
 ·match n with
  | 0=>omega
  | n+1=>
   unfold gk6 at hN;refine xcl (QG4 k s d g9 a hd M b9 hM x) rdb ?_;rintro⟨v',_⟩ _ ⟨hv,hM',a',hd',rfl⟩;refine QFA (ca1 (xif (fun h=>fin ?_) (fun h=>?_)))
   ·rw[if_pos (by show QPp _ _≠-1;rw[←show v'=QPp (QBZ M (QWR x)).2 x from hv];exact bne_iff_ne.1 h)]at hN;exact hN
   rw[if_neg (by show ¬QPp _ _≠-1;rw[←show v'=QPp (QBZ M (QWR x)).2 x from hv];simpa using h)]at hN;rw[QAB _ (by omega) (by omega)];exact QAK (BnO k s d (some ⟨g9,0,none⟩) b9::Ar Pn.TG s b9.cf.tags::GwL g9 a' (QBZ M (QWR x)).1) (hK n _ _ (by omega) ⟨_,a',⟨by omega,by omega⟩,hM',hd',hN,rfl⟩)
 obtain rfl:n=0:=by omega
 unfold gk6 gk7 at hN;simp only at hN;refine QBx 6 (P1:=QA3 a.line M.ma) (fun f hf=>hf.1) fun hma=>?_;refine QAO ?_;refine xbn 0 fun p ls fs ho hl=>xng (xgq ?_);refine QAL fun b2=>?_;refine QAe (Q:=Ar U8 ⟨some ⟨b2,0,none⟩,6,6⟩ [1,3,0,0,0,1]) 0 (fun g hg=>⟨[],QAm [1,3,0,0,0,1] 6 rfl rfl hg⟩) ?_;refine xcl (QIv Qei (fun _=>⟨rfl,rfl⟩) ⟨some ⟨b2,0,none⟩,6,6⟩) rdb ?_;rintro⟨s1,_⟩ _ rfl;have hpl:=QHP Qei;refine QA5 (ca1 (QCm (E:=U8) (xs:=QA8 Qei) s1 fun hsn hsc=>?_));rw[QAz];refine QC6 (h:=?_);refine QMj k s d (some ⟨g9,0,none⟩) b9 p ls fs ho hl ?_;refine xcl (QOr g9 a M hM.ok hM.run hM.ts QXN s1 (by show (QA8 Qei).length≤_;omega) (by simp) hsc rfl) (QB1 (QB1 rdb rdb) rdb) ?_;rintro⟨s2,_⟩ _ ⟨hk,a',hd',rfl⟩;have hsh:=(QKs M hma.fr QXN).2.2;have hfit:=hM.step hma.fr QXN hk
 generalize QBZ M QXN=N1 at *
 obtain⟨N1,os⟩:=N1;simp only at hsh hfit hN;refine QSY (ca1 ?_);refine QYG 0 fun rs hrs=>?_
 have hlen:rs.length=os.length:=by have:=congrArg List.length hrs;simpa using this
 refine xcl (QUr s2 rs) rdb ?_;rintro⟨s3,_⟩ _ ⟨h2,rfl⟩;simp only at h2;subst h2;have hsrc:=QXf hrs
 have hq:∀r∈QC9 rs os,r.2.length≤1000000:=fun r hr=>by
  obtain⟨x,hx,rfl⟩:=List.mem_map.1 hr;exact hsh _ (List.of_mem_zip hx).2
 refine QAy (ca1 ?_);refine QAU [QAk (QC9 rs os)] ?_;refine QBx 0 (P1:=QAk (QC9 rs os)) (fun f hf=>QJW hsrc hf) fun hcap=>?_;refine xcl (pre:=[]) (QFz (QV7 os) (hsrc.short hq) (Qdm rs) hcap.1) (QGg hsrc 0) ?_
 generalize QAi (QV7 os)=C at *
 obtain⟨qp,e⟩:=C;simp only at hN;rintro⟨u0,u1,u2,u3,u4,sq,u6,_⟩ _ ⟨rfl,rfl,rfl,rfl,rfl,h6,rfl⟩;simp only at h6;subst h6;refine QA5 (ca7 (QAL fun b3=>?_));iterate 6 (refine xsq ?_)
 refine QAU (Blk b3 (pkC qp.kind qp.epoch qp.seq qp.id qp.code sq)::BnO k s d (some ⟨g9,0,none⟩) b9::Ar Pn.TG s b9.cf.tags::GwL g9 a' N1) ?_
 have alm:∀{nm:ByteArray}{R:List HP}{K:Int→Bool→Bool→WP},Ent B (BnO k s d (some ⟨g9,0,none⟩) b9::Ar Pn.TG s b9.cf.tags::GwR g9 a' N1 R) (K (QBm N1 nm).1.state (QBm N1 nm).1.waits (QBm N1 nm).2) →
   Ent B (BnO k s d (some ⟨g9,0,none⟩) b9::Ar Pn.TG s b9.cf.tags::GwR g9 a' N1 R) (QCe (some ⟨k,0,none⟩) fun a6=>QAq .ptr (a6.add 8) fun(q3:Option Addr)=>QAb Pr 37 [.pointer q3,.string nm] (.tup [some 2,none]) [.I,.bool,.bool]<|fun(r16:Int) (c10:Bool) (c11:Bool)=>K r16 c10 c11):=by
  intro nm R K h;refine xbn 0 fun p ls fs ho hl=>xng (xgq ?_);refine QMj k s d (some ⟨g9,0,none⟩) b9 p ls fs ho hl ?_;refine xcl (QWv g9 a' N1 hfit.ok hfit.ts nm) rdb ?_;rintro⟨x1,x2,x3,_⟩ _ ⟨e1,e2,e3,rfl⟩;simp only at e1 e2 e3;subst e1 e2 e3;refine QFO (ca3 ?_);exact QAU (BnO k s d (some ⟨g9,0,none⟩) b9::Ar Pn.TG s b9.cf.tags::GwR g9 a' N1 []) h
 have hd1:a'.dev=d:=hd'.trans hd;refine QAU (BnO k s d (some ⟨g9,0,none⟩) b9::Ar Pn.TG s b9.cf.tags::GwR g9 a' N1 [Blk b3 (pkC qp.kind qp.epoch qp.seq qp.id qp.code sq)]) ?_;refine alm ?_;refine QAL fun b4=>xsq (xsq ?_);refine QAU (BnO k s d (some ⟨g9,0,none⟩) b9::Ar Pn.TG s b9.cf.tags::GwR g9 a' N1 [Blk b3 (pkC qp.kind qp.epoch qp.seq qp.id qp.code sq),Blk b4 [.I (QBm N1 QDo).1.state,.bool (QBm N1 QDo).1.waits]]) ?_;refine alm ?_;refine QAL fun b5=>xsq (xsq ?_);refine xcl (QG4 k s d g9 a' hd1 N1 b9 hfit 11) rdb ?_;rintro⟨v11,_⟩ _ ⟨hv11,hM11,a11,hd11,rfl⟩;simp only at hv11;rw[←hv11]at hN;refine QFA (ca1 ?_);refine QAK [Blk b3 (pkC qp.kind qp.epoch qp.seq qp.id qp.code sq),Blk b4 [.I (QBm N1 QDo).1.state,.bool (QBm N1 QDo).1.waits],BnO k s d (some ⟨g9,0,none⟩) b9] ?_;refine QAS (fun(c:Bool) As'=>c=((v11 == 3&&u6 == 0)&&qp.id == 50)∧As'=[Blk b3 (pkC qp.kind qp.epoch qp.seq qp.id qp.code sq),Blk b4 [.I (QBm N1 QDo).1.state,.bool (QBm N1 QDo).1.waits],BnO k s d (some ⟨g9,0,none⟩) b9]) (fun K1 hK1=>?_) ?_
 ·refine xif (fun h=>xgq (hK1 _ _ ⟨?_,rfl⟩)) (fun h=>hK1 _ _ ⟨?_,rfl⟩)
  ·rw[h];rfl
  ·rw[h];rfl
 rintro c14 _ ⟨hc14,rfl⟩;rw[←hc14]at hN;refine QAS (fun(c:Bool) As'=>c=(c14&&qp.code == 4)∧As'=[Blk b3 (pkC qp.kind qp.epoch qp.seq qp.id qp.code sq),Blk b4 [.I (QBm N1 QDo).1.state,.bool (QBm N1 QDo).1.waits],BnO k s d (some ⟨g9,0,none⟩) b9]) (fun K1 hK1=>?_) ?_
 ·refine xif (fun h=>xgq (hK1 _ _ ⟨?_,rfl⟩)) (fun h=>hK1 _ _ ⟨?_,rfl⟩)
  ·rw[h];rfl
  ·rw[h];rfl
 rintro c15 _ ⟨hc15,rfl⟩;rw[←hc15]at hN;refine QAS (fun(c:Bool) As'=>c=((c15&&(QBm N1 QDo).2)&&((QBm N1 QDo).1.state == 0&&((QBm N1 QDo).1.waits == false&&true)))∧As'=[Blk b3 (pkC qp.kind qp.epoch qp.seq qp.id qp.code sq),Blk b4 [.I (QBm N1 QDo).1.state,.bool (QBm N1 QDo).1.waits],BnO k s d (some ⟨g9,0,none⟩) b9]) (fun K1 hK1=>?_) ?_
 ·refine xif (fun h=>xgq (xgq (hK1 _ _ ⟨?_,rfl⟩))) (fun h=>hK1 _ _ ⟨?_,rfl⟩)
  ·rw[h];rfl
  ·rw[h];rfl
 rintro c16 _ ⟨hc16,rfl⟩;rw[←hc16]at hN;refine QAS (fun(c:Bool) As'=>c=((c16 && !(QBm N1 QeN).2) && !b9.wrong)∧As'=[]) (fun K1 hK1=>?_) ?_
 ·refine xif (fun h=>?_) (fun h=>QAK [] (hK1 _ _ ⟨?_,rfl⟩))
  ·refine QAU [BnO k s d (some ⟨g9,0,none⟩) b9] ?_;refine xbn 0 fun p ls fs ho hl=>xng (xgq (QAK [] (hK1 _ _ ⟨?_,rfl⟩)));rw[h];rfl
  ·rw[h];rfl
 rintro c18 _ ⟨hc18,rfl⟩;rw[←hc18]at hN;refine QAJ (xif (fun h=>?_) (fun h=>fin ?_))
 ·refine xcl QW3 rdb ?_;rintro⟨v,_⟩ _ ⟨hv,rfl⟩;simp only at hv;subst hv;refine QAy (ca1 (fin ?_));rw[←hN,h];rfl
 ·rw[←hN,h];rfl
theorem QXA:Ct Pr 9 [] .one [.bool] [] (GTab.and GBeh) (fun t Bs=>t.1=true∧Bs=[]):=by
 have:=QXj;rw[gknownB_true]at this;exact this
end Go.Cx
