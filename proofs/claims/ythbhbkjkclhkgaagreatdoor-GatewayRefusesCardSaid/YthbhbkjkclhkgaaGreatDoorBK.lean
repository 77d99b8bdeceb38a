/-
A gateway whose index is not saved: its ticks; what it does of the kinds 1, 2, 3.
-/
import Derived.Test.YthbhbkjkclhkgaaGreatDoorGK
import Derived.Test.YthbhbkjkclhkgaaGreatDoorBA
namespace Go.Cx
open Go Go.Cf
set_option linter.unusedVariables false
set_option maxRecDepth 100000
set_option synthInstance.maxSize 8000
set_option synthInstance.maxHeartbeats 400000
variable {B:QBG}{As F:List HP}
def Qe7(M:GM)(now:Int):Bool:=!decide (IntKind.i64.wrap ((QM0 (QDg (QDT M now))).k.log.next - (QDg (QDT M now)).saved)≥64)&&(decide ((QDg (QDT M now)).keep=1)&&(!(QM0 (QDg (QDT M now))).k.dev.down&&decide (QGy (QM0 (QDg (QDT M now))).k.log (QDg (QDT M now)).acked (QDg (QDT M now)).keep=0)))
theorem QdG{M:GM}{now:Int}(h:Qe7 M now=true):¬IntKind.i64.wrap ((QM0 (QDg (QDT M now))).k.log.next - (QDg (QDT M now)).saved)≥64∧(QDg (QDT M now)).keep=1∧(QM0 (QDg (QDT M now))).k.dev.down=false∧QGy (QM0 (QDg (QDT M now))).k.log (QDg (QDT M now)).acked (QDg (QDT M now)).keep=0:=by
 unfold Qe7 at h;simpa using h
theorem QW0(q p:Option Addr)(m:DM)(l:LM)(to:Int)(hd:m.down=false)(h0:QGy l to 1=0):Ct Pr 236 [.pointer q,.I to,.I 1] .one [.I] [QAZ q p l,QAC p m] emp
  (fun t Bs=>t.1=0∧Bs=[QAZ q p l,QAC p m]):=by
 refine sp1 (QIi _ _ _) fun B _=>?_;unfold QIi mf;dsimp only;refine QXR 0 fun hi b s cs hq hf hs=>?_;subst hq;refine xcl (QMO b p m l s) rdb ?_;rintro⟨t,_⟩ _ ⟨ht,rfl⟩;simp only[hd]at ht;obtain rfl:t=0:=ht;refine QBM (ca1 (QBF rfl ?_));refine xcl (QX6 b p l s cs to hs hf hi) rdb ?_;rintro⟨t,_⟩ _ ⟨ht,rfl⟩;simp only[h0]at ht;obtain rfl:t=0:=ht;refine QBM (ca1 (QBk rfl ?_));refine QAw (p:=p) (l:=l) b s cs hi ?_;exact QAM [QAZ (some ⟨b,0,none⟩) p l,QAC p m] (QAE ⟨rfl,rfl⟩)
theorem QTO(d l x:Option Addr)(k:Kn)(to:Int)(hd:k.dev.down=false)(h0:QGy k.log to 1=0):Ct Pr 236 [.pointer l,.I to,.I 1] .one [.I] [QA5 d l x k] emp (fun t Bs=>t.1=(QR6 k to 1).2∧Bs=[QA5 d l x (QR6 k to 1).1]):=by
 have e:QR6 k to 1=(k,0):=by
  unfold QR6 Qbq;rw[hd,if_neg (by decide),if_pos h0]
 rw[e];refine QGR (φ:=QAe Pr 236 [.pointer l,.I to,.I 1] .one [.I]) (fun h=>h) fun B hr=>?_;refine QGl 0 fun hk=>?_;refine xcl (QW0 l d k.dev k.log to hd h0) rdb ?_;rintro⟨r,_⟩ _ ⟨hr,rfl⟩;refine QBM (ca1 ?_);exact QCl d l x k hk (QAM [QA5 d l x k] (QAE ⟨hr,rfl⟩))
theorem QY5(g:Nat)(a:GwA)(M:GM)(hM:MOk M)(hok:M.ok=true)(hos:M.os.length≤800000)(now:Int)(hno:Qe7 M now=true) :
  CtP QCf Pr 149 [.pointer (some ⟨g,0,none⟩),.I now] (.tup []) [] (GwL g a M) (GTab.and GBeh)
  (fun _ Bs=>(QJV M now).ok=true∧MOk (QJV M now)∧∃a',a'.dev=a.dev∧Bs=GwL g a' (QJV M now))
  (fun Bs=>(QJV M now).ok=false∧MOk (QJV M now)∧∃a',a'.dev=a.dev∧Bs=GwL g a' (QJV M now)):=by
 refine QdU (QDr _ _) fun B hr=>?_;haveI:=QKc hr.1;haveI:=Qc0 hr.2;obtain⟨N,hN⟩:∃N,QJV M now=N:=⟨_,rfl⟩;rw[hN];unfold QJV at hN;have hno:=QdG hno;unfold QDr mfP;dsimp only;refine QCC 4 (P1:=QBB a.line M.ma) (fun f hf=>hf.1) fun hma=>?_;have hck:=QUh (now:=now) hM.clock;refine xgf (h:=xgs (cOf a { M with clock:=QCi M.clock now }) (h:=?_));refine QAP (xgf (h:=xgf (h:=?_)));have htk:=QQG a.line M.ma (QCi M.clock now) hck;have hM0:=hM.tick0 hma now;have hto:=Qax (m:=M.ma) (now:=QCi M.clock now);have hrep:=Qbs (m:=M.ma) (now:=QCi M.clock now);have hos1:=QUp M now;obtain⟨t1,ht1⟩:∃t,QDT M now=t:=⟨_,rfl⟩;rw[ht1]at hos1 hN hno;unfold QDT at ht1;unfold tick0 at hM0 ht1;unfold QKl at htk
 generalize QDd M.ma (QCi M.clock now)=T at *
 obtain⟨bs,o,ma'⟩:=T;simp only at htk hto hM0 hrep ht1;obtain⟨M0,hM0e⟩:∃M0:GM,{ M with clock:=QCi M.clock now,ma:=ma',os:=if 0<bs.length then M.os++[(1,bs)] else M.os }=M0:=⟨_,rfl⟩;rw[hM0e]at hM0 ht1
 have hM0os:M0.os.length≤800001:=by
  rw[←hM0e];simp only;split
  ·rw[List.length_append];simp only[List.length_cons,List.length_nil];omega
  ·omega
 refine QXY ?_ (QAL fun b=>?_)
 all_goals
  refine xcl htk rdb ?_;rintro⟨s,w0,w1,s1,s2,s3,w5,c,_⟩ _ ⟨rfl,rfl,h3,hf,rfl,rfl,rfl⟩;simp only at h3;subst h3;first|refine QdQ (ca8 (QAL fun b=>?_))|refine QdQ (ca8 ?_)
  iterate 6 (refine xsq ?_)
  refine QCn (E:=U8) (xs:=bs) s fun hsn _=>?_;refine QCn (E:=W16) (xs:=o.r.set) s2 fun _ hs2c=>?_;refine QBx (fun As'=>As'=Blk b [.I o.what,.I o.r.exc,s1.v,s2.v,nilS.v,.I o.tries]::Ar BL s1 o.r.on::Ar W16 s2 o.r.set::GwL g a M0) (fun K hK=>?_) ?_
  ·refine QAB (fun h=>?_) (fun h=>?_)
   ·refine xd0 (QI8 g (cOf a { M with clock:=QCi M.clock now }) M.os (by omega) 1 s bs) ?_;rw[if_pos (show 0<bs.length by omega)]at hM0e;subst hM0e;exact QAM (Blk b [.I o.what,.I o.r.exc,s1.v,s2.v,nilS.v,.I o.tries]::Ar BL s1 o.r.on::Ar W16 s2 o.r.set::GwL g a { M with clock:=QCi M.clock now,ma:=ma',os:=M.os++[(1,bs)] }) (hK _ rfl)
   ·rw[if_neg (show ¬0<bs.length by omega)]at hM0e;subst hM0e;exact QAM (Blk b [.I o.what,.I o.r.exc,s1.v,s2.v,nilS.v,.I o.tries]::Ar BL s1 o.r.on::Ar W16 s2 o.r.set::GwL g a { M with clock:=QCi M.clock now,ma:=ma',os:=M.os }) (hK _ rfl)
  rintro _ rfl;refine QBx (fun As'=>∃u a',t1=u∧u.ok=true∧MOk u∧a'.dev=a.dev∧As'=GwL g a' u) (fun K hK=>?_) ?_
  ·refine xif (fun h=>?_) (fun h=>?_)
   ·rw[if_pos h]at ht1;have hto:=hto h;refine xgq (xgq (QAA (s:=.slice) (x:=s1) (hv:=rfl) (h:=QAA (s:=.slice) (x:=s2) (hv:=rfl) (h:=xgS (h:=xgq ?_)))));refine QSL (QN7 g a M0 hM0 (by rw[←hM0e];exact hok) (by rw[←hM0e];show ma'.tries≤0;omega) (by rw[←hM0e];exact hM.busy hto.1) (by omega) o hf (by rw[hrep.1];intro v hv;cases hv) s1 s2 hs2c) rdb ?_ ?_
    ·rintro _ _ ⟨hto2,hMt,rfl,rfl⟩;rw[ht1]at hto2 hMt⊢;refine QFM (ca0 ?_);exact QAM (GwL g a.noCmd t1) (hK _ ⟨t1,a.noCmd,rfl,hto2,hMt,rfl,rfl⟩)
    ·rintro _ ⟨hto2,hMt,rfl,rfl⟩;rw[ht1]at hto2 hMt⊢;rw[QIZ hto2,QIZ hto2,QIZ hto2,QIZ hto2]at hN;subst hN;exact QFM (QAM (GwL g a.noCmd t1) (QTl ⟨hto2,hMt,a.noCmd,rfl,rfl⟩))
   ·rw[if_neg (by rw[h];decide)]at ht1;subst ht1;exact QAM (GwL g a M0) (hK _ ⟨M0,a,rfl,by rw[←hM0e];exact hok,hM0,rfl,rfl⟩)
  rintro _ ⟨u,a1,rfl,huok,huM,hd1,rfl⟩;rw[QO1 huok]at hN;refine xgf (h:=?_);refine xd1 (QRe a1.line t1.ma) ?_;refine QBx (fun As'=>∃u a',QDg t1=u∧u.ok=true∧MOk u∧a'.dev=a.dev∧As'=GwL g a' u) (fun K hK=>?_) ?_
  ·unfold QDg at hK hN;refine xif (fun h=>?_) (fun h=>?_)
   ·have h:¬t1.ma.tries>0:=by simpa using h
    rw[if_neg h]at hK hN;refine QAW (GwL g a1 t1) ?_;refine QSL (QW6 g a1 t1 huM huok (by omega)) rdb ?_ ?_
    ·rintro _ _ ⟨hso,hsM,a2,hd2,rfl⟩;exact QFM (ca0 (QAa (l:=GwL g a2 (QDQ t1)) (hK _ ⟨_,a2,rfl,hso,hsM,hd2.trans hd1,rfl⟩)))
    ·rintro _ ⟨hso,hsM,a2,hd2,rfl⟩;rw[QIZ hso,QIZ hso,QIZ hso]at hN;subst hN;exact QFM (QAa (l:=GwL g a2 (QDQ t1)) (QTl ⟨hso,hsM,_,hd2.trans hd1,rfl⟩))
   ·have h:t1.ma.tries>0:=by simpa using h
    rw[if_pos h]at hK;exact QAM (GwL g a1 t1) (hK _ ⟨_,a1,rfl,huok,huM,hd1,rfl⟩)
  have hos2:(QDg t1).os.length≤800003:=by
   unfold QDg;split
   ·omega
   ·exact Nat.le_trans (QQ2 t1) (by omega)
  rintro _ ⟨u,a2,hu,huok,huM,hd2,rfl⟩;rw[hu]at hN hos2 hno;rw[QO1 huok]at hN
  -- all is made to last
  have hsy:=QXx g (cOf a2 u) u.os u.k;unfold QM0 at hN hno
  generalize QJd u.k=y at *
  obtain⟨y1,y2⟩:=y;refine QSL hsy rdb ?_ ?_
  case refine_2=>
   rintro _ ⟨hy,rfl⟩;simp only at hy hN;subst hy;rw[QIZ rfl,QIZ rfl]at hN;subst hN;exact QBM (QAM (GwL g a2 { u with k:=y1,ok:=false }) (QTl ⟨rfl,huM.step y1 u.m u.saved u.os false,a2,hd2,rfl⟩))
  rintro _ _ ⟨hy,rfl⟩;simp only at hy hN;subst hy;rw[show QTZ { u with k:=y1,ok:=true } QKe=QKe { u with k:=y1,ok:=true } from QO1 rfl]at hN;refine QBM (ca0 (QAP ?_))
  -- the index is saved
  refine QAU (fun(x:Bool) As'=>∃(k1:Kn) (c:Bool),x=c∧k1=y1∧QKe { u with k:=y1,ok:=true }=(if c=true then { u with k:=k1,ok:=true,saved:=k1.log.next } else { u with k:=k1,ok:=true })∧As'=GwL g a2 { u with k:=k1,ok:=true }) (fun K hK=>?_) ?_
  ·unfold QKe at hK hN;refine xgf (h:=xgf (h:=?_));refine xd1 (QJW a2.dev a2.log a2.idx y1) (xgc (h:=QAB (fun h=>?_) (fun h=>?_)))
   ·exact absurd h hno.1
   ·rw[if_neg (show ¬IntKind.i64.wrap (y1.log.next - u.saved)≥64 from h)]at hK;exact QAM (GwL g a2 { u with k:=y1,ok:=true }) (hK _ _ ⟨y1,false,rfl,rfl,by rw[if_neg (by decide)],rfl⟩)
  rintro _ _ ⟨k1,c,rfl,hky,h4,rfl⟩;rw[←hky]at hno;rw[h4]at hN;refine QBx (fun As'=>∃sv,QKe { u with k:=y1,ok:=true }={ u with k:=k1,ok:=true,saved:=sv }∧As'=GwL g a2 { u with k:=k1,ok:=true,saved:=sv }) (fun K hK=>?_) ?_
  ·refine xif (fun h=>?_) (fun h=>?_)
   ·rw[h4,if_pos h]at hK;refine xgf (h:=?_);refine xd1 (QJW a2.dev a2.log a2.idx k1) (xgs (cOf a2 { u with k:=k1,ok:=true,saved:=k1.log.next }) (h:=?_));exact QAM (GwL g a2 { u with k:=k1,ok:=true,saved:=k1.log.next }) (hK _ ⟨_,rfl,rfl⟩)
   ·rw[h4,if_neg (by rw[h];decide)]at hK;exact hK _ ⟨u.saved,rfl,rfl⟩
  rintro _ ⟨sv,h5,rfl⟩;rw[←h4,h5,QO1 rfl]at hN;unfold QWf at hN;refine QAP (xgf (h:=xgf (h:=xgf (h:=?_))));have htr:=QTO a2.dev a2.log a2.idx k1 u.acked hno.2.2.1 (hno.2.1 ▸ hno.2.2.2);rw[←hno.2.1]at htr;simp only at hN
  generalize QR6 k1 u.acked u.keep=z at *
  obtain⟨k2,e⟩:=z;simp only at htr hN;refine xcl htr rdb ?_;rintro⟨e',_⟩ _ ⟨he,rfl⟩;simp only at he;subst he;refine QA8 (ca1 (QRx (fun he=>?_) (fun he=>?_)))
  ·rw[if_neg he]at hN;unfold QWu at hN;refine xcl (QH0 g (cOf a2 { u with k:=k2,ok:=true,saved:=sv }) u.os (by omega) k2 u.m) rdb ?_;rintro _ _ rfl;subst hN;refine QQC (ca0 ?_);exact QAM (GwL g a2 { u with k:=k2,ok:=true,saved:=sv,m:=(QCQ u.epoch u.clock k2.log u.m).1,os:=u.os++(QCQ u.epoch u.clock k2.log u.m).2 }) (QAE ⟨rfl,huM.step k2 _ sv _ true,a2,hd2,rfl⟩)
  ·rw[if_pos he]at hN;subst hN;exact QAM (GwL g a2 { u with k:=k2,ok:=false,saved:=sv }) (QTl ⟨rfl,huM.step k2 u.m sv u.os false,a2,hd2,rfl⟩)
def QTP(M:GM)(e:EvV):Bool:=decide (e.kind≠4)&&(decide (e.kind≠5)&&(decide (e.kind≠1)||Qe7 M e.now))
theorem QP4{M:GM}{e:EvV}(h:QTP M e=true):e.kind≠4∧e.kind≠5∧(e.kind=1→Qe7 M e.now=true):=by
 unfold QTP at h;simp only[Bool.and_eq_true,Bool.or_eq_true,decide_eq_true_eq]at h;exact⟨h.1,h.2.1,fun q=>h.2.2.resolve_left fun z=>z q⟩
theorem QYp(g:Nat)(a:GwA)(M:GM)(hM:MOk M)(hok:M.ok=true)(hos:M.os.length≤800000)(hts:M.ts.length≤1000000)(e:EvV)(s:Sl)(hx:e.data.length≤1000000)(hnm:e.name.size≤1000000)(hcap:s.n≤s.c)(hl:QTP M e=true) :
  Ct Pr 96 [.pointer (some ⟨g,0,none⟩),.agg #[.I e.kind,.I e.now,s.v,.string e.name]] .one [.I] (GwL g a M) ((GTab.and GBeh).and (RAr U8 s e.data))
  (fun t Bs=>t.1=(if (QIs M e).ok=true then 0 else 10)∧MOk (QIs M e)∧∃a',a'.dev=a.dev∧Bs=GwL g a' (QIs M e)):=by
 refine QGR (QGT QX7) fun B hr=>?_;obtain⟨⟨hg1,hg2⟩,hg3⟩:=hr;haveI:=QKc hg1;haveI:=Qc0 hg2;haveI:Fro B s U8 e.data:=⟨hg3⟩;obtain⟨N,hN⟩:∃N,QIs M e=N:=⟨_,rfl⟩;rw[hN];unfold QIs at hN;obtain⟨hk4,hk5,hk1⟩:=QP4 hl;unfold QCR;refine QAL fun b=>QAL fun b1=>QBx (fun As'=>∃a',N.ok=false∧MOk N∧a'.dev=a.dev∧As'=Blk b1 [.I 0]::GwL g a' N) (fun Q hQ=>?_) ?_
 ·refine xgq ?_;refine QBx (fun As'=>∃a',N.ok=true∧MOk N∧a'.dev=a.dev∧As'=Blk b1 [.I 0]::GwL g a' N) (fun K hK=>?_) ?_
  ·refine xif (fun h1=>?_) (fun h1=>?_)
   ·rw[if_pos (eq_of_beq h1)]at hN;refine xgq ?_;refine QSL (QY5 g a M hM hok hos e.now (hk1 (eq_of_beq h1))) rdb ?_ ?_
    ·rintro _ _ ⟨ho,hm,a',hd,rfl⟩;rw[hN]at ho hm⊢;exact QFM (ca0 (QAM (Blk b1 [.I 0]::GwL g a' N) (hK _ ⟨a',ho,hm,hd,rfl⟩)))
    ·rintro _ ⟨ho,hm,a',hd,rfl⟩;rw[hN]at ho hm⊢;exact QFM (QAM (Blk b1 [.I 0]::GwL g a' N) (hQ _ ⟨a',ho,hm,hd,rfl⟩))
   rw[if_neg (ne_of_beq_false h1)]at hN;refine QAJ (xif (fun h2=>?_) (fun h2=>?_))
   ·rw[if_pos (eq_of_beq h2)]at hN;unfold QXv at hN;obtain⟨hw16,hcase⟩:=QVa M.ma e.data;have hsp:=fun q=>QRf q M.ma s e.data hcap
    generalize QGD M.ma e.data=H at *
    obtain⟨o,ma'⟩:=H;simp only at hN hw16 hcase
    have hM0:MOk { M with ma:=ma' }:=by
     rcases hcase with⟨_,rfl⟩|⟨_,_,rfl⟩
     ·exact hM
     ·exact hM.stopped
    have tail:∀{b2:Nat}{s1 s2:Sl}{R:List HP},o.r.files=[]→s2.n≤s2.c→Ent B (Blk b2 [.I o.what,.I o.r.exc,s1.v,s2.v,nilS.v,.I o.tries]::Ar BL s1 o.r.on::Ar W16 s2 o.r.set::Blk b1 [.I 0]::GwR g a { M with ma:=ma' } R)
      (QBW [] (fun(K'2:WP)=>XIf o.is (QAs (.I) ⟨b2,0,none⟩ fun(n2:Int)=>QAs (.I) ⟨b2,1,none⟩ fun(n3:Int)=>QAs .slice ⟨b2,2,none⟩ fun s4=>QAs .slice ⟨b2,3,none⟩ fun s5=>QAs .slice ⟨b2,4,none⟩ fun s6=>QAs (.I) ⟨b2,5,none⟩ fun(n4:Int)=>QFY Q 151 [.pointer (some ⟨g,0,none⟩),.agg #[.I n2,.I n3,s4.v,s5.v,s6.v,.I n4]] (.tup []) []<|K'2) (K'2))<|K):=by
     intro b2 s1 s2 R hf hc2;refine QAJ (xif (fun h=>?_) (fun h=>?_))
     ·rw[if_pos h]at hN;obtain⟨_,htr,rfl⟩:=hcase.resolve_left (fun q=>by rw[q.1]at h;cases h);refine xgq (xgq (QAA (s:=.slice) (x:=s1) (hv:=rfl) (h:=QAA (s:=.slice) (x:=s2) (hv:=rfl) (h:=xgS (h:=xgq ?_)))));refine QSL (QN7 g a { M with ma:=QC1 M.ma } hM0 hok (Int.le_refl 0) (fun q=>hM.busy htr q) (show M.os.length≤900000 by omega) o hf hw16 s1 s2 hc2) rdb ?_ ?_
      ·rintro _ _ ⟨ho,hm,rfl⟩;rw[hN]at ho hm⊢;exact QFM (ca0 (QAM (Blk b1 [.I 0]::GwL g a.noCmd N) (hK _ ⟨a.noCmd,ho,hm,rfl,rfl⟩)))
      ·rintro _ ⟨ho,hm,rfl⟩;rw[hN]at ho hm⊢;exact QFM (QAM (Blk b1 [.I 0]::GwL g a.noCmd N) (hQ _ ⟨a.noCmd,ho,hm,rfl,rfl⟩))
     ·rw[if_neg (by rw[h];decide)]at hN;subst hN;exact QAM (Blk b1 [.I 0]::GwL g a { M with ma:=ma' }) (hK _ ⟨a,hok,hM0,rfl,rfl⟩)
    refine QAP (xgf (h:=QAA (s:=.slice) (x:=s) (hv:=rfl) (h:=QXY ?_ ?_)))
    ·refine xcl (hsp a.line) rdb ?_;rintro⟨v0,v1,s1,s2,v4,v5,v6,_⟩ _ ⟨rfl,rfl,h3,hf,rfl,rfl,rfl⟩;simp only at h3;subst h3;refine QQC (ca7 (QAL fun b2=>?_));iterate 6 (refine xsq ?_)
     refine QAW [Ar W16 s2 o.r.set] (QCn (E:=W16) (xs:=o.r.set) s2 fun _ hs2c=>?_);refine QAW (Blk b2 [.I o.what,.I o.r.exc,s1.v,s2.v,nilS.v,.I o.tries]::Ar BL s1 o.r.on::Ar W16 s2 o.r.set::Blk b1 [.I 0]::GwL g a { M with ma:=ma' }) ?_;exact tail hf hs2c
    ·refine QAL fun b3=>?_;refine xcl (hsp a.line) rdb ?_;rintro⟨v0,v1,s1,s2,v4,v5,v6,_⟩ _ ⟨rfl,rfl,h3,hf,rfl,rfl,rfl⟩;simp only at h3;subst h3;refine QQC (ca7 ?_);iterate 6 (refine xsq ?_)
     refine QAW [Ar W16 s2 o.r.set] (QCn (E:=W16) (xs:=o.r.set) s2 fun _ hs2c=>?_);refine QAW (Blk b3 [.I o.what,.I o.r.exc,s1.v,s2.v,nilS.v,.I o.tries]::Ar BL s1 o.r.on::Ar W16 s2 o.r.set::Blk b1 [.I 0]::GwL g a { M with ma:=ma' }) ?_;exact tail hf hs2c
   rw[if_neg (ne_of_beq_false h2)]at hN;refine QAJ (xif (fun h3=>?_) (fun h3=>?_))
   ·rw[if_pos (eq_of_beq h3)]at hN;refine QAA (s:=.slice) (x:=s) (hv:=rfl) (h:=?_);refine QSL (QZb g a M hM hok hos s e.data hx hcap) rdb ?_ ?_
    ·rintro _ _ ⟨ho,hm,a',hd,rfl⟩;rw[hN]at ho hm⊢;exact QFM (ca0 (QAM (Blk b1 [.I 0]::GwL g a' N) (hK _ ⟨a',ho,hm,hd,rfl⟩)))
    ·rintro _ ⟨ho,hm,a',hd,rfl⟩;rw[hN]at ho hm⊢;exact QFM (QAM (Blk b1 [.I 0]::GwL g a' N) (hQ _ ⟨a',ho,hm,hd,rfl⟩))
   rw[if_neg (ne_of_beq_false h3)]at hN;refine QAJ (xif (fun h4=>?_) (fun h4=>?_))
   ·exact absurd (eq_of_beq h4) hk4
   rw[if_neg (ne_of_beq_false h4)]at hN;refine QAJ (xif (fun h5=>?_) (fun h5=>?_))
   ·exact absurd (eq_of_beq h5) hk5
   rw[if_neg (ne_of_beq_false h5)]at hN;subst hN;exact QAM (Blk b1 [.I 0]::GwL g a M) (hK _ ⟨a,hok,hM,rfl,rfl⟩)
  rintro _ ⟨a',ho,hm,hd,rfl⟩;refine xsq (xgq ?_);exact QAM (GwL g a' N) (QAE ⟨by rw[if_pos ho],hm,a',hd,rfl⟩)
 rintro _ ⟨a',ho,hm,hd,rfl⟩;refine QAL fun b2=>xsq (xgq ?_);exact QAM (GwL g a' N) (QAE ⟨by rw[if_neg (by rw[ho];decide)],hm,a',hd,rfl⟩)
theorem Qb7(g:Nat)(a:GwA)(M:GM)(hM:MOk M)(hok:M.stopped=false→M.ok=true)(hts:M.ts.length≤1000000)(e:EvV)(s:Sl)(hx:e.data.length≤1000000)(hnm:e.name.size≤1000000)(hcap:s.n≤s.c)(hl:QTP { M with os:=[] } e=true) :
  Ct Pr 33 [.pointer (some ⟨g,0,none⟩),.agg #[.I e.kind,.I e.now,s.v,.string e.name]] .one [.slice] (GwL g a M) ((GTab.and GBeh).and (RAr U8 s e.data))
  (fun t Bs=>MOk (QEZ M e).1∧∃a',a'.dev=a.dev∧Bs=QPN t.1 (QEZ M e).2::GwL g a' (QEZ M e).1):=by
 refine sp1 (QEt _ _ _ _ _) fun B hr=>?_;obtain⟨⟨hg1,hg2⟩,hg3⟩:=hr;haveI:=QKc hg1;haveI:=Qc0 hg2;haveI:Fro B s U8 e.data:=⟨hg3⟩;obtain⟨N,hN⟩:∃N,QEZ M e=N:=⟨_,rfl⟩;rw[hN];unfold QEZ at hN;unfold QEt mf;dsimp only;refine QAL fun b=>xgf (h:=xif (fun h=>?_) (fun h=>?_))
 ·rw[if_pos h]at hN;subst hN;exact QW1 (QAM (QPN nilS []::GwL g a M) (QAE ⟨hM,a,rfl,rfl⟩))
 rw[if_neg (by rw[show M.stopped=false from h];decide)]at hN;refine xgw 1 fun out=>QAS ?_;rw[QA3];refine xsq (QW1 (QP8 g (cOf a { M with os:=[] }) [] nilS ?_));refine xgq (xgq (QAA (s:=.slice) (x:=s) (hv:=rfl) (h:=xgq ?_)));have hM0:MOk { M with os:=[] }:=hM.core M.k M.lost M.J M.m [] M.ok;have hds:=QYp g a { M with os:=[] } hM0 (hok h) (Nat.zero_le _) hts e s hx hnm hcap hl
 generalize QIs { M with os:=[] } e=D at *
 refine xcl hds rdb ?_;rintro⟨r,_⟩ _ ⟨hr1,hD,a',hd,rfl⟩;simp only at hr1;refine QFM (ca1 (xgs (cOf a' { D with stopped:=(r != 0) }) (h:=?_)));refine xgw 0 fun out=>QAS ?_;rw[QA3];refine QAA (s:=.slice) (x:=out) (hv:=rfl) (h:=QAS ?_);rw[QA3];refine xsq (QW1 (QP8 g (cOf a' { D with stopped:=(r != 0),os:=[] }) [] nilS ?_));have hD0:MOk { D with os:=[],stopped:=(r != 0) }:=⟨hD.clock,hD.keep,hD.slots,hD.polls,hD.tags,hD.held,hD.al,hD.queue,hD.poll,hD.busy⟩;refine xgf (h:=xif (fun h2=>?_) (fun h2=>?_))
 ·have h2:(r != 0)=true:=h2
  have hno:D.ok=false:=by
   cases hq:D.ok with
   | false=>rfl
   | true=>rw[hq]at hr1;rw[hr1]at h2;cases h2
  rw[hno]at hN;rw[h2]at hD0⊢;subst hN;exact QW1 (QAM (QPN nilS []::GwL g a' { D with os:=[],stopped:=true }) (QAE ⟨hD0,a',hd,rfl⟩))
 ·have h2:(r != 0)=false:=h2
  have hyes:D.ok=true:=by
   cases hq:D.ok with
   | true=>rfl
   | false=>rw[hq]at hr1;rw[hr1]at h2;cases h2
  rw[hyes]at hN;rw[h2]at hD0⊢;subst hN;exact QAM (QPN out D.os::GwL g a' { D with os:=[],stopped:=false }) (QAE ⟨hD0,a',hd,rfl⟩)
theorem Qa6(k:Nat)(ts:Sl)(d:Option Addr)(g:Nat)(a:GwA)(M:GM)(b:BM)(hM:GFit M)(e:EvV)(s:Sl)(hx:e.data.length≤1000000)(hnm:e.name.size≤1000000)(hcap:s.n≤s.c)(hlt:QTP { M with os:=[] } e=true) :
  Ct Pr 43 [.pointer (some ⟨k,0,none⟩),.agg #[.I e.kind,.I e.now,s.v,.string e.name]] (.tup []) [] (BnO k ts d (some ⟨g,0,none⟩) b::GwL g a M) ((GTab.and GBeh).and (RAr U8 s e.data))
  (fun _ Bs=>GFit (QEZ M e).1∧∃a',a'.dev=a.dev∧Bs=BnO k ts d (some ⟨g,0,none⟩) (doB b M e)::GwL g a' (QEZ M e).1):=by
 refine sp0 (QHg _ _ _ _ _) fun B hr=>?_;obtain⟨⟨hg1,hg2⟩,hg3⟩:=hr;haveI:=QKc hg1;haveI:=Qc0 hg2;haveI:Fro B s U8 e.data:=⟨hg3⟩;unfold QHg mf;dsimp only;refine QCC 5 (P1:=QBB a.line M.ma) (fun f hf=>hf.1) fun hma=>?_;refine QCC 4 (P1:=QBD a.up M.m) (fun f hf=>hf.1) fun hse=>?_;refine xbn 0 fun p ls fs ho hl=>?_;refine QAL fun b1=>QAP (xng (xgq (xgq (xgq (QAA (s:=.slice) (x:=s) (hv:=rfl) (h:=xgq ?_))))));refine xcl (Qb7 g a M hM.ok hM.run hM.ts e s hx hnm hcap hlt) rdb ?_;rintro⟨s1,_⟩ _ ⟨hk,a',hd,rfl⟩;have hos:=Qab hse hM.ok.clock e;have hsh:=(QUV M hma.fr e).2.2;have hfit:=hM.step hma.fr e hk;unfold doB
 generalize QEZ M e=N at *
 obtain⟨N,os⟩:=N;simp only at hos hsh hfit;refine QXB (ca1 ?_);refine QP9 k ts d (some ⟨g,0,none⟩) b p ls fs ho hl ?_;refine xcl (QVK k ts d g a' N b s1 os hsh (by omega)) rdb ?_;rintro _ _ rfl;refine QXB (ca0 ?_);exact QAM (BnO k ts d (some ⟨g,0,none⟩) (QbY b N os)::GwL g a' N) (QAE ⟨hfit,a',hd,rfl⟩)
def Qdh(b:BM)(M:GM)(kd a:Int):Bool:=match QPV b (QCq kd 10) a with
 | none=>true
 | some (_,e)=>QTP { M with os:=[] } e
theorem QXy(k:Nat)(ts:Sl)(d:Option Addr)(g:Nat)(a:GwA)(had:a.dev=d)(M:GM)(b:BM)(hM:GFit M)(m0 m1:Int)(hlt:Qdh b M m0 m1=true) :
  Ct Pr 14 [.pointer (some ⟨k,0,none⟩),.agg #[.I m0,.I m1]] .one [.bool] (BnO k ts d (some ⟨g,0,none⟩) b::Ar Pn.TG ts b.cf.tags::GwL g a M) (GTab.and GBeh) (QNg k ts d b.cf.tags (QY6 b M m0 m1)):=by
 refine sp1 (QGG _ _ _) fun B hr=>?_;obtain⟨hg1,hg2⟩:=hr;haveI:=QKc hg1;haveI:=Qc0 hg2;obtain⟨N,hN⟩:∃N,QY6 b M m0 m1=N:=⟨_,rfl⟩;rw[hN];unfold QY6 at hN;unfold Qdh at hlt;unfold QGG mf;dsimp only;refine QAL fun b1=>xgq ?_;refine xcl (QFG m0 10 ⟨by decide,by decide⟩) rdb ?_;have hkin:=QUd (k:=m0) (n:=10) (by decide)
 generalize QCq m0 10=r at *
 rintro⟨(r':Int),_⟩ _ ⟨hr',rfl⟩;simp only at hr';subst hr';refine QAz (ca1 ?_)
 have fin:∀{b':BM}{M':GM}{a':GwA}{R:List HP},some (b',M')=N→GFit M'→a'.dev=d→Ent B (BnO k ts d (some ⟨g,0,none⟩) b'::Ar Pn.TG ts b.cf.tags::GwR g a' M' R) (Ret B (ss:=[.bool]) (QNg k ts d b.cf.tags N) (true,())):=by
  intro b' M' a' R h1 h2 h3;exact QAM (BnO k ts d (some ⟨g,0,none⟩) b'::Ar Pn.TG ts b.cf.tags::GwL g a' M') (QAE (.inr ⟨rfl,b',M',g,a',h1.symm,h2,h3,rfl⟩))
 have evt:∀{b':BM}{e:EvV}{s:Sl}{R:List HP},some (doB b' M e,(QEZ M e).1)=N→e.data.length≤1000000→e.name.size≤1000000→s.n≤s.c→Rds B (Ar Pn.TG ts b.cf.tags::R) (RAr U8 s e.data)→QTP { M with os:=[] } e=true →
   Ent B (BnO k ts d (some ⟨g,0,none⟩) b'::GwR g a M (Ar Pn.TG ts b.cf.tags::R)) (QAe Pr 43 [.pointer (some ⟨k,0,none⟩),.agg #[.I e.kind,.I e.now,s.v,.string e.name]] (.tup []) []<|Ret B (ss:=[.bool]) (QNg k ts d b.cf.tags N) (true,())):=by
  intro b' e s R h1 h2 h3 h4 h5 h6;refine xcl (Qa6 k ts d g a M b' hM e s h2 h3 h4 h6) (QDG (QDG rdb rdb) h5) ?_;rintro _ _ ⟨hf,a',hd,rfl⟩;refine QXB (ca0 ?_);refine QAW (BnO k ts d (some ⟨g,0,none⟩) (doB b' M e)::Ar Pn.TG ts b.cf.tags::GwL g a' (QEZ M e).1) ?_;exact fin h1 hf (hd.trans had)
 have nilR:∀{F:List HP}{bs:List UInt8},bs=[]→Rds B F (RAr U8 nilS bs):=fun h=>by rw[h];exact QJ8 fun _ _ _ _ _=>⟨rfl,rfl,fun h=>absurd h (Nat.lt_irrefl 0)⟩
 refine QAU (fun(x:Bool) As'=>(x=true↔(r'=0∨r'=1))∧As'=Blk b1 [.I m0,.I m1]::BnO k ts d (some ⟨g,0,none⟩) b::Ar Pn.TG ts b.cf.tags::GwL g a M) (fun K hK=>?_) ?_
 ·refine xif (fun h=>hK _ _ ⟨⟨fun _=>.inl (eq_of_beq h),fun _=>h⟩,rfl⟩) (fun h=>hK _ _ ⟨?_,rfl⟩);have h:=ne_of_beq_false h;rw[beq_iff_eq];exact⟨.inr,fun q=>q.resolve_left h⟩
 rintro x _ ⟨hx,rfl⟩;refine QAJ (xif (fun h=>?_) (fun h=>?_))
 ·have h01:=hx.1 h;rw[if_neg (by omega),if_neg (by omega)]at hN;unfold QPV at hN hlt;rw[if_pos h01]at hN hlt;refine QAP (xbn 1 fun p ls fs ho hl=>xng (xgq (xgq ?_)));refine xcl (QFG m1 6 ⟨by decide,by decide⟩) rdb ?_;rintro⟨r1,_⟩ _ ⟨hr1,rfl⟩;simp only at hr1;subst hr1;refine QAz (ca1 ?_);rw[QA3];refine QC7 (h:=xns (xsq (xng (xgq ?_))));refine QP9 k ts d (some ⟨g,0,none⟩) { b with now:=IntKind.i64.wrap (b.now+QCq m1 6) } p ls fs ⟨ho.f,ho.n,ho.h⟩ (hl.same rfl rfl) ?_;refine QAW (BnO k ts d (some ⟨g,0,none⟩) { b with now:=IntKind.i64.wrap (b.now+QCq m1 6) } :: GwR g a M [Ar Pn.TG ts b.cf.tags]) ?_;exact evt (e:=⟨1,IntKind.i64.wrap (b.now+QCq m1 6),[],ByteArray.empty⟩) (s:=nilS) hN (by simp) (by simp) (Nat.le_refl _) (nilR rfl) hlt
 have hn01:¬(r'=0∨r'=1):=fun q=>by rw[hx.2 q]at h;cases h
 refine QAU (fun(x:Bool) As'=>(x=true↔(r'=2∨r'=3))∧As'=Blk b1 [.I m0,.I m1]::BnO k ts d (some ⟨g,0,none⟩) b::Ar Pn.TG ts b.cf.tags::GwL g a M) (fun K hK=>?_) ?_
 ·refine xif (fun h=>hK _ _ ⟨⟨fun _=>.inl (eq_of_beq h),fun _=>h⟩,rfl⟩) (fun h=>hK _ _ ⟨?_,rfl⟩);have h:=ne_of_beq_false h;rw[beq_iff_eq];exact⟨.inr,fun q=>q.resolve_left h⟩
 rintro x1 _ ⟨hx1,rfl⟩;refine QAJ (xif (fun h=>?_) (fun h=>?_))
 ·have h23:=hx1.1 h;rw[if_neg (by omega),if_neg (by omega)]at hN;unfold QPV at hN hlt;rw[if_neg hn01,if_pos h23]at hN hlt;refine xgq ?_;refine xcl (QFG m1 65536 ⟨by decide,by decide⟩) rdb ?_;rintro⟨r2,_⟩ _ ⟨hr2,rfl⟩;simp only at hr2;subst hr2;refine QAz (ca1 ?_);refine xcl (QPm k ts d (some ⟨g,0,none⟩) b (QCq m1 65536)) rdb ?_;rintro⟨s,_⟩ _ rfl;have hal:=QaX b.last (QCq m1 65536)
  generalize Qco b.last (QCq m1 65536)=ab at *
  refine QBM (ca1 (QAW [Ar U8 s ab] (QCn (E:=U8) (xs:=ab) s fun hsn hsc=>?_)));refine QAJ (QAB (fun h=>?_) (fun h=>?_))
  ·rw[if_pos (by omega)]at hN hlt;refine xbn 1 fun p ls fs ho hl=>xns (xsq ?_);refine QP9 k ts d (some ⟨g,0,none⟩) { b with last:=[] } p nilS fs ⟨ho.f,ho.n,ho.h⟩ ⟨.inl ⟨rfl,rfl⟩,hl.len,hl.each,hl.short⟩ ?_;refine QAW (BnO k ts d (some ⟨g,0,none⟩) { b with last:=[] } :: GwR g a M [Ar Pn.TG ts b.cf.tags,Ar U8 s ab]) ?_;exact evt (e:=⟨2,0,ab,ByteArray.empty⟩) (s:=s) hN (by show ab.length≤_;omega) (by simp) hsc rdb hlt
  ·rw[if_neg (by omega)]at hN;exact QAW (BnO k ts d (some ⟨g,0,none⟩) b::Ar Pn.TG ts b.cf.tags::GwL g a M) (fin hN hM had)
 have hn23:¬(r'=2∨r'=3):=fun q=>by rw[hx1.2 q]at h;cases h
 refine QAJ (xif (fun h4=>?_) (fun h4=>?_))
 ·have h4:=eq_of_beq h4;rw[if_neg (by omega),if_neg (by omega)]at hN;unfold QPV at hN hlt;rw[if_neg hn01,if_neg hn23,if_pos h4]at hN hlt;refine QAP (xbn 1 fun p ls fs ho hl=>xng (xgq (xng (xgq ?_))));refine xcl (pre:=[]) (QRX (Qcy b) (by intro q;rcases q with q|q<;>cases q) nilS) (nilR rfl) ?_;rintro⟨s,_⟩ _ rfl;have hpl:=QNf (Qcy b);refine QA8 (ca1 (QCn (E:=U8) (xs:=QBq (Qcy b)) s fun hsn hsc=>?_));refine QP9 k ts d (some ⟨g,0,none⟩) b p ls fs ho hl ?_;refine QAW (BnO k ts d (some ⟨g,0,none⟩) b::GwR g a M [Ar Pn.TG ts b.cf.tags,Ar U8 s (QBq (Qcy b))]) ?_;exact evt (e:=⟨3,0,QBq (Qcy b),ByteArray.empty⟩) (s:=s) hN (by show (QBq (Qcy b)).length≤_;omega) (by simp) hsc rdb hlt
 have h4:=ne_of_beq_false h4;refine QAJ (xif (fun h5=>?_) (fun h5=>?_))
 ·have h5:=eq_of_beq h5;rw[if_neg (by omega),if_neg (by omega)]at hN;unfold QPV at hN hlt;rw[if_neg hn01,if_neg hn23,if_neg h4,if_pos h5]at hN hlt;refine xgq ?_;refine xcl (QFG m1 12 ⟨by decide,by decide⟩) rdb ?_;rintro⟨r3,_⟩ _ ⟨hr3,rfl⟩;simp only at hr3;subst hr3;refine QAz (ca1 ?_)
  generalize IntKind.i64.wrap (1+QCq m1 12)=id at *
  refine xcl (QV8 id) rdb ?_;rintro⟨v0,v1,v2,t0,t1,t2,_⟩ _ ⟨rfl,rfl,rfl,g4,g5,rfl⟩;simp only at g4 g5;subst g4 g5;refine QA8 (Pn.ca6 ?_);refine xcl (pre:=[]) (QSc (Qa8 id) (by intro v hv;rw[List.mem_singleton.1 hv];exact Qcm id) nilS t1 nilS) (QDG (Qe3 (E:=BL)) (QDG rdb (Qe3 (E:=PaE)))) ?_;have hck:=QTD (Qa8 id)
  generalize QDE (Qa8 id)=P at *
  obtain⟨pk,pe⟩:=P;simp only at hN hck;rintro⟨w0,w1,w2,w3,w4,sb,w6,_⟩ _ ⟨rfl,rfl,rfl,rfl,rfl,_,rfl⟩;refine QA8 (ca7 (QAL fun b2=>?_));iterate 6 (refine xsq ?_)
  iterate 5 (refine xgq ?_)
  refine QAA (s:=.slice) (x:=sb) (hv:=rfl) (h:=?_);refine xcl (QRX pk hck sb) rdb ?_;rintro⟨s,_⟩ _ rfl;have hpl:=QNf pk;refine QA8 (ca1 (QCn (E:=U8) (xs:=QBq pk) s fun hsn hsc=>?_));refine QAW (BnO k ts d (some ⟨g,0,none⟩) b::GwR g a M [Ar Pn.TG ts b.cf.tags,Ar U8 s (QBq pk)]) ?_;exact evt (e:=⟨3,0,QBq pk,ByteArray.empty⟩) (s:=s) hN (by show (QBq pk).length≤_;omega) (by simp) hsc rdb hlt
 have h5:=ne_of_beq_false h5;refine QAJ (xif (fun h6=>?_) (fun h6=>?_))
 ·have h6:=eq_of_beq h6;rw[if_pos h6]at hN;subst had;refine QAP (xbn 1 fun p ls fs ho hl=>xng (xgq ?_));refine QGl 5 fun hk=>?_;refine QCC 0 (P1:=QAC a.dev M.k.dev) (fun f hf=>QJM hf) fun ⟨bd,hbd⟩=>?_
  have xnE:∀{As:List HP}{K:Addr→WP},Ent B As (K ⟨bd,0,none⟩)→Ent B As (QC0 a.dev K):=fun h=>by rw[hbd];exact QAS h
  refine xnE (xgq ?_);refine xcl (QFG m1 40 ⟨by decide,by decide⟩) rdb ?_;have hpi:=QUd (k:=m1) (n:=40) (by decide)
  generalize QCq m1 40=n at *
  rintro⟨(r3:Int),_⟩ _ ⟨hr3,rfl⟩;simp only at hr3;subst hr3;refine QAz (ca1 ?_);rw[QA3];refine QC7 (h:=?_);rw[←hbd];refine xcl (QbE a.dev M.k.dev r3 ⟨by omega,by omega⟩) rdb ?_;rintro _ _ rfl;refine QA8 (ca0 ?_);refine QCC 0 (P1:=QAC a.dev (QcX M.k.dev r3)) (fun f hf=>hf.1) fun hI=>?_;have hk2:KOk ⟨QcX M.k.dev r3,M.k.log,M.k.X⟩:=⟨⟨hI,hk.ldev.log,hk.ldev.cur,hk.ldev.safe,hk.ldev.files,hk.ldev.ord⟩,hk.idx⟩;refine QCl a.dev a.log a.idx ⟨QcX M.k.dev r3,M.k.log,M.k.X⟩ hk2 ?_;refine QP9 k ts a.dev (some ⟨g,0,none⟩) b p ls fs ho hl ?_;exact QAW (BnO k ts a.dev (some ⟨g,0,none⟩) b::Ar Pn.TG ts b.cf.tags::GwL g a (QgI M r3)) (fin hN (hM.arm r3) rfl)
 have h6:=ne_of_beq_false h6;refine xif (fun h7=>?_) (fun h7=>?_)
 ·have h7:=eq_of_beq h7;rw[if_neg h6,if_pos h7]at hN;subst had;refine QAP (xbn 1 fun p ls fs ho hl=>xng (xgq (xgq ?_)));refine QGl 5 fun hk=>?_;refine xcl (QXq a.dev M.k.dev m1) rdb ?_;rintro _ _ rfl;refine QA8 (ca0 ?_);refine QP9 k ts a.dev (some ⟨g,0,none⟩) b p ls fs ho hl ?_;refine xcl (QOJ k ts a.dev (some ⟨g,0,none⟩) b (QNF M.k.dev m1)) rdb ?_;rw[hN];rintro⟨t,_⟩ Bs hb;rcases hb with⟨ht,hn,rfl⟩|⟨ht,b',M',g',a',hs,hf,hd,rfl⟩
  ·simp only at ht;subst ht;exact QAz (ca1 (QAa (l:=[]) (QAE (.inl ⟨rfl,hn,rfl⟩))))
  ·simp only at ht;subst ht;refine QRD (ca1 ?_);exact QAM (BnO k ts a.dev (some ⟨g',0,none⟩) b'::Ar Pn.TG ts b.cf.tags::GwL g' a' M') (QAE (.inr ⟨rfl,b',M',g',a',hs,hf,hd,rfl⟩))
 have h7:=ne_of_beq_false h7;rw[if_neg h6,if_neg h7]at hN;unfold QPV at hN hlt;rw[if_neg hn01,if_neg hn23,if_neg h4,if_neg h5]at hN hlt;exfalso;by_cases h8:r'=8
 ·rw[if_pos h8]at hlt;exact (QP4 hlt).1 rfl
 ·rw[if_neg h8]at hlt;exact (QP4 hlt).2.1 rfl
abbrev QGm(b:BM)(M:GM)(kd a:Int):BM×GM:=QeD b M (QPV b kd a)
theorem QgT{P:Program}{f:FuncId}{args:List Value}{rs:Rs}{ss:List Sh}{rd:HP}{pre:List HP}{post post':Tup ss→List HP→Prop}(c:Ct P f args rs ss pre rd post)(h:∀t Bs,post t Bs→post' t Bs):Ct P f args rs ss pre rd post':=
 fun w g hs hm hr=>(c w g hs hm hr).mono fun _ _ ⟨t,Bs,he,hp,hx⟩=>⟨t,Bs,he,h t Bs hp,hx⟩
theorem Qbh(b:BM)(p:List UInt8):(QNH b p).cf=b.cf:=by
 unfold QNH;repeat' split
 all_goals rfl
theorem QfK(b:BM)(lg:LM)(e s:Int)(p:List UInt8):(upB b lg e s p).cf=b.cf:=by
 unfold upB;repeat' split
 all_goals rfl
theorem Qdm(M:GM)(b:BM)(o:QCh):(QbQ M b o).cf=b.cf:=by
 unfold QbQ;repeat' split
 ·exact Qbh _ _
 ·exact QfK _ _ _ _ _
 ·rfl
theorem QS9(M:GM):∀(os:List QCh) (b:BM),(QbY b M os).cf=b.cf
 | [],b=>rfl
 | o::os,b=>(QS9 M os (QbQ M b o)).trans (Qdm M b o)
theorem QOx(b:BM)(M:GM)(kd a:Int):(QGm b M kd a).1.cf=b.cf:=by
 unfold QGm QPV;repeat' split
 all_goals first|rfl|exact QS9 _ _ _
theorem Qa4{b b':BM}{m:DM}{M:GM}(h:QTK b m=some (b',M)):b'.cf=b.cf:=by
 unfold QTK at h;split at h
 ·cases h
 ·unfold Qdw at h;repeat' split at h
  ·cases h
  ·cases h
  ·injection h with h;injection h with h1 h2;rw[←h1];exact QS9 _ _ _
theorem QZk{c:Cfg}{room:Int}{b':BM}{M:GM}(h:QN6 c room=some (b',M)):b'.cf=c:=by
 unfold QN6 at h;split at h
 ·cases h
 ·exact Qa4 h
theorem QPb(k:Nat)(ts:Sl)(d:Option Addr)(g:Nat)(a:GwA)(had:a.dev=d)(M:GM)(b:BM)(hM:GFit M)(m0 m1:Int)(h:QCq m0 10=m0)(h6:m0≠6)(h7:m0≠7)(hl:Qdh b M m0 m1=true) :
  Ct Pr 14 [.pointer (some ⟨k,0,none⟩),.agg #[.I m0,.I m1]] .one [.bool] (BnO k ts d (some ⟨g,0,none⟩) b::Ar Pn.TG ts b.cf.tags::GwL g a M) (GTab.and GBeh)
  (fun _ Bs=>GFit (QGm b M m0 m1).2∧∃g' a',a'.dev=d∧Bs=BnO k ts d (some ⟨g',0,none⟩) (QGm b M m0 m1).1::Ar Pn.TG ts b.cf.tags::GwL g' a' (QGm b M m0 m1).2):=by
 refine QgT (QXy k ts d g a had M b hM m0 m1 hl) ?_
 have hm:QY6 b M m0 m1=some (QGm b M m0 m1):=by
  unfold QY6;rw[h,if_neg h6,if_neg h7]
 rw[hm];rintro t Bs (⟨_,h,_⟩|⟨_,b',M',g',a',h,hf,hd,rfl⟩)
 ·cases h
 ·injection h with h;rw[h];exact⟨hf,g',a',hd,rfl⟩
theorem QPz{a b N:Bool}(h:(a&&b)=N)(ht:true=N):a=true∧b=N:=by
 subst ht;exact Bool.and_eq_true_iff.1 h
def Qfv(s:StV)(n1 n2 n3 n4 n5 n6 n7:Int)(c:Bool):Bool:=(s.next == n1)&&((s.safe == n2)&&((s.first == n3)&&((s.acked == n4)&&((s.epoch == n5)&&((s.boots == n6)&&((s.lost == n7)&&((s.busy == c)&&true)))))))
def Qct(x:BM×GM):Bool:=(!x.1.wrong&&x.1.sent == 2)&&Qfv (QSi x.2) 2 2 0 2 1 1 0 true
def QcP(x:BM×GM):Bool:=Qdh x.1 x.2 0 1&&Qdh (QGm x.1 x.2 0 1).1 (QGm x.1 x.2 0 1).2 4 0&&Qct (QGm (QGm x.1 x.2 0 1).1 (QGm x.1 x.2 0 1).2 4 0)
def Qdv(r:RE)(k t:Int)(n:ByteArray)(v i:Int):Bool:=(r.kind == k)&&((r.time == t)&&((r.tag == n)&&((r.val == v)&&((r.id == i)&&true))))
def QcW(x:BM×GM):Bool:=
 if (QHw x.2.k.log 1).2≠0∨(QE8 (QHw x.2.k.log 1).1).2≠0 then false
 else if Qdv (QE8 (QHw x.2.k.log 1).1).1 1 1 QPG 7 0=false then false
 else QcP x
def Qcq(x:BM×GM):Bool:=
 if x.1.last.length≠8∨x.1.last.take 6≠[1,4,0,5,0,1] then false
 else Qdh x.1 x.2 2 7&&QcW (QGm x.1 x.2 2 7)
def Qcn(x:BM×GM):Bool:=
 if x.1.sent≠1∨Qfv (QSi x.2) 1 1 0 0 1 1 0 false=false then false
 else Qdh x.1 x.2 0 1&&Qcq (QGm x.1 x.2 0 1)
def QUt:Bool:=match QN6 (Qam 1) 100000 with
 | none=>false
 | some x=>Qcn x
theorem knownB_true:QUt=true:=by decide +kernel
theorem Qf2{b:Bool}(h:(!b)=true):b=false:=by cases b<;>first|rfl|cases h
theorem Qfq{b:Bool}(h:(!b)=false):b=true:=by cases b<;>first|rfl|cases h
theorem QWe:Ct Pr 15 [] .one [.bool] [] (GTab.and GBeh) (fun t Bs=>t.1=QUt∧Bs=[]):=by
 refine QGR QPB fun B hr=>?_;obtain⟨hg1,hg2⟩:=hr;haveI:=QKc hg1;haveI:=Qc0 hg2;obtain⟨N,hN,hNt⟩:∃N,QUt=N∧true=N:=⟨_,rfl,knownB_true.symm⟩;rw[hN];unfold QUt at hN;have fin:∀{c:Bool}{As:List HP},c=N→Ent B As (Ret B (ss:=[.bool]) (fun t Bs=>t.1=N∧Bs=[]) (c,())):=fun h=>QAa (l:=[]) (QAE ⟨h,rfl⟩);unfold QIE;refine xcl (QYu 1) rdb ?_;rintro⟨r,r1,r2,r3,r4,r5,s,_⟩ _ ⟨h1,h2,h3,h4,h5,h6,rfl⟩;simp only at h1 h2 h3 h4 h5 h6;subst h1 h2 h3 h4 h5 h6;refine QA8 (ca7 ?_);refine xcl (QT1 (Qam 1) s 100000) rdb ?_;have hcf:=@QZk (Qam 1) 100000
 generalize QN6 (Qam 1) 100000=X at *
 rintro⟨q,_⟩ _ h;rcases h with⟨hq,rfl,rfl⟩|⟨k,b,M,g,a,hq,rfl,hM,rfl⟩
 ·simp only at hq;subst hq;exact QAz (ca1 (QAJ (QBk rfl (QAJ (QBk rfl (QBk rfl (fin hN)))))))
 simp only at hq hN;subst hq;have hcf:=hcf rfl;obtain⟨d,hd⟩:∃d,a.dev=d:=⟨_,rfl⟩;rw[hd,←hcf];clear hcf;refine QRD (ca1 (QAJ (QBF rfl ?_)));refine xbn 0 fun p ls fs ho hl=>xng (xgq ?_);refine QP9 k s d (some ⟨g,0,none⟩) b p ls fs ho hl ?_;clear ho hl;unfold Qcn at hN;refine QAJ (xif (fun h=>QBk rfl (fin ?_)) (fun h=>?_))
 ·rw[if_pos (.inl (bne_iff_ne.1 h))]at hN;exact hN
 have hs1:b.sent=1:=by simpa using h
 refine xbn 0 fun p ls fs ho hl=>xng (xgq ?_);refine QP9 k s d (some ⟨g,0,none⟩) b p ls fs ho hl ?_;clear ho hl;refine xcl (QET g a M) rdb ?_;rintro⟨r6,r7,r8,r9,r10,r11,r12,c,_⟩ _ ⟨hst,rfl⟩;simp only at hst;rw[←hst]at hN;refine QFM (ca8 (xif (fun h=>fin ?_) (fun h=>?_)))
 ·rw[if_pos (.inr (Qf2 h))]at hN;exact hN
 rw[if_neg (by
  intro z;rcases z with z|z
  ·exact z hs1
  ·rw[show Qfv ⟨r6,r7,r8,r9,r10,r11,r12,c⟩ 1 1 0 0 1 1 0 false=true from Qfq h]at z;cases z)]at hN
 clear hst h hs1;refine QAW (BnO k s d (some ⟨g,0,none⟩) b::Ar Pn.TG s b.cf.tags::GwL g a M) ?_;obtain⟨hl,hN⟩:=QPz hN hNt;refine xcl (QPb k s d g a hd M b hM 0 1 (by decide) (by decide) (by decide) hl) rdb ?_;have hc1:=QOx b M 0 1
 generalize QGm b M 0 1=X1 at *
 obtain⟨b1,M1⟩:=X1;rintro _ _ ⟨hM1,g1,a1,hd1,hB⟩;simp only at hc1 hM1 hB;subst hB;rw[←hc1];clear hM hd hc1;refine QRD (ca1 ?_);refine xbn 0 fun p ls fs ho hl=>xng (QAA (s:=.slice) (x:=ls) (hv:=rfl) (h:=?_));refine QCC 1 (P1:=QAq p) (fun f hf=>QOm hl.last hf) fun hcap=>?_;unfold Qcq at hN;simp only at hN;refine QAU (fun(c:Bool) As'=>(c=true↔(b1.last.length≠8∨b1.last.take 6≠[1,4,0,5,0,1]))∧As'=BnO k s d (some ⟨g1,0,none⟩) b1::Ar Pn.TG s b1.cf.tags::GwL g1 a1 M1) (fun K hK=>?_) ?_
 ·refine xif (fun h=>?_) (fun h=>?_)
  ·refine QP9 k s d (some ⟨g1,0,none⟩) b1 p ls fs ho hl ?_;have h:=bne_iff_ne.1 h;exact QAM (BnO k s d (some ⟨g1,0,none⟩) b1::Ar Pn.TG s b1.cf.tags::GwL g1 a1 M1) (hK _ _ ⟨⟨fun _=>.inl (by omega),fun _=>rfl⟩,rfl⟩)
  ·have h:(ls.n:Int)=8:=by simpa using h
   refine xng (QAA (s:=.slice) (x:=ls) (hv:=rfl) (h:=?_));refine QEf (by omega) (by omega) (by omega) (by omega) (QAL fun b2=>?_);refine QAf (Q:=Ar U8 ⟨some ⟨b2,0,none⟩,6,6⟩ [1,4,0,5,0,1]) 0 (fun g hg=>⟨[],QAm [1,4,0,5,0,1] 6 rfl rfl hg⟩) ?_
   refine xcl (QE5 (ls.cut 0 6 ls.c 1) ⟨some ⟨b2,0,none⟩,6,6⟩ (b1.last.take 6) [1,4,0,5,0,1] (by rw[List.length_take];omega)) (QDG (fun w a b c d e f g=>by
    have:=(QJZ (B:=B) hl.last 2 w a b c d e f g).cut 0 6 ls.c (by omega) (by omega) (by omega)
    exact this) rdb) ?_
   rintro⟨c5,_⟩ _ ⟨hc5,rfl⟩;simp only at hc5;subst hc5;refine QAz (ca1 ?_);refine QP9 k s d (some ⟨g1,0,none⟩) b1 p ls fs ho hl ?_;refine QAM (BnO k s d (some ⟨g1,0,none⟩) b1::Ar Pn.TG s b1.cf.tags::GwL g1 a1 M1) (hK _ _ ⟨?_,rfl⟩);rw[Bool.not_eq_true',decide_eq_false_iff_not];exact⟨.inr,fun z=>z.resolve_left fun y=>y (by omega)⟩
 rintro c _ ⟨hc,rfl⟩;refine xif (fun h=>fin ?_) (fun h=>?_)
 ·rw[if_pos (hc.1 h)]at hN;exact hN
 rw[if_neg (fun z=>by rw[hc.2 z]at h;cases h)]at hN;clear hc h;obtain⟨hl,hN⟩:=QPz hN hNt;refine xcl (QPb k s d g1 a1 hd1 M1 b1 hM1 2 7 (by decide) (by decide) (by decide) hl) rdb ?_;have hc2:=QOx b1 M1 2 7
 generalize QGm b1 M1 2 7=X2 at *
 obtain⟨b2,M2⟩:=X2;rintro _ _ ⟨hM2,g2,a2,hd2,hB⟩;simp only at hc2 hM2 hB;subst hB;rw[←hc2];clear hM1 hd1 hc2 hcap;refine QRD (ca1 ?_);refine xbn 0 fun p ls fs ho hl=>xng (xgq ?_);refine QP9 k s d (some ⟨g2,0,none⟩) b2 p ls fs ho hl ?_;clear ho hl;refine xcl (QVE g2 a2 M2) rdb ?_;rintro⟨ql,_⟩ _ ⟨hql,rfl⟩;simp only at hql;subst hql;refine QFM (ca1 ?_);refine QGl 1 fun hk=>?_;refine xcl (QGc a2.log a2.dev M2.k.log 1 ⟨by decide,by decide⟩) rdb ?_;rintro⟨s1,r13,_⟩ _ ⟨h6,rfl⟩;simp only at h6;subst h6;refine QBM (ca2 ?_);refine QCl a2.dev a2.log a2.idx M2.k hk ?_;have hgl:=QKv hk.ldev.log 1;unfold QcW at hN
 generalize QHw M2.k.log 1=gl at *
 obtain⟨gb,r6⟩:=gl;simp only at hN hgl⊢;refine QAW (Ar U8 s1 gb::BnO k s d (some ⟨g2,0,none⟩) b2::Ar Pn.TG s b2.cf.tags::GwL g2 a2 M2) ?_;refine QCn (E:=U8) (xs:=gb) s1 fun hsn hsc=>?_;refine xcl (QYO s1 gb hsc (by omega)) rdb ?_;rintro⟨t0,t1,t2,t3,t4,t5,_⟩ _ ht;obtain⟨rfl,rfl,rfl,rfl,rfl,rfl,rfl⟩:=ht;refine QAz (Pn.ca6 (QAL fun b3=>?_));iterate 5 (refine xsq ?_)
 refine QAW (Blk b3 [.I (QE8 gb).1.kind,.I (QE8 gb).1.time,.string (QE8 gb).1.tag,.I (QE8 gb).1.val,.I (QE8 gb).1.id]::Ar U8 s1 gb::BnO k s d (some ⟨g2,0,none⟩) b2::Ar Pn.TG s b2.cf.tags::GwL g2 a2 M2) ?_;refine QAU (fun(c:Bool) As'=>(c=true↔(r6≠0∨(QE8 gb).2≠0∨Qdv (QE8 gb).1 1 1 QPG 7 0=false))∧As'=BnO k s d (some ⟨g2,0,none⟩) b2::Ar Pn.TG s b2.cf.tags::GwL g2 a2 M2) (fun K hK=>?_) ?_
 ·refine xif (fun h=>?_) (fun h=>?_)
  ·refine QAM (BnO k s d (some ⟨g2,0,none⟩) b2::Ar Pn.TG s b2.cf.tags::GwL g2 a2 M2) (hK _ _ ⟨⟨fun _=>?_,fun _=>rfl⟩,rfl⟩);rcases Bool.or_eq_true_iff.1 h with h|h
   ·exact .inl (bne_iff_ne.1 h)
   ·exact .inr (.inl (bne_iff_ne.1 h))
  ·iterate 5 (refine xgq ?_)
   refine QAM (BnO k s d (some ⟨g2,0,none⟩) b2::Ar Pn.TG s b2.cf.tags::GwL g2 a2 M2) (hK _ _ ⟨?_,rfl⟩);obtain⟨h1,h2⟩:=Bool.or_eq_false_iff.1 h
   have h1:r6=0:=by simpa using h1
   have h2:(QE8 gb).2=0:=by simpa using h2
   rw[Bool.not_eq_true'];exact⟨fun z=>.inr (.inr z),fun z=>(z.resolve_left fun y=>y h1).resolve_left fun y=>y h2⟩
 rintro c _ ⟨hc,rfl⟩;refine xif (fun h=>fin ?_) (fun h=>?_)
 ·rcases hc.1 h with z|z|z
  ·rw[if_pos (.inl z)]at hN;exact hN
  ·rw[if_pos (.inr z)]at hN;exact hN
  ·rw[if_pos z]at hN;by_cases q:r6≠0∨(QE8 gb).2≠0
   ·rw[if_pos q]at hN;exact hN
   ·rw[if_neg q]at hN;exact hN
 have hno:¬(r6≠0∨(QE8 gb).2≠0∨Qdv (QE8 gb).1 1 1 QPG 7 0=false):=fun z=>by rw[hc.2 z]at h;cases h
 rw[if_neg (fun z=>hno (z.imp id .inl)),if_neg (fun z=>hno (.inr (.inr z)))]at hN;clear hno hc h hgl;unfold QcP at hN;simp only at hN;obtain⟨hl,hN⟩:=QPz hN hNt;obtain⟨hl,hl2⟩:=Bool.and_eq_true_iff.1 hl;refine xcl (QPb k s d g2 a2 hd2 M2 b2 hM2 0 1 (by decide) (by decide) (by decide) hl) rdb ?_;have hc3:=QOx b2 M2 0 1
 generalize QGm b2 M2 0 1=X3 at *
 obtain⟨b4,M3⟩:=X3;rintro _ _ ⟨hM3,g3,a3,hd3,hB⟩;simp only at hc3 hM3 hB hN hl2;subst hB;rw[←hc3];refine QRD (ca1 ?_);refine xcl (QPb k s d g3 a3 hd3 M3 b4 hM3 4 0 (by decide) (by decide) (by decide) hl2) rdb ?_
 generalize QGm b4 M3 4 0=X4 at *
 obtain⟨b5,M4⟩:=X4;rintro _ _ ⟨hM4,g4,a4,hd4,hB⟩;simp only at hM4 hB hN;subst hB;refine QRD (ca1 ?_);refine xbn 0 fun p ls fs ho hl=>xng (xgq ?_);refine QP9 k s d (some ⟨g4,0,none⟩) b5 p ls fs ho hl ?_;refine xcl (QET g4 a4 M4) rdb ?_;rintro⟨r19,r20,r21,r22,r23,r24,r25,c10,_⟩ _ ⟨hst,rfl⟩;simp only at hst;unfold Qct at hN;simp only at hN;rw[←hst]at hN;refine QFM (ca8 (QAL fun b6=>?_));iterate 8 (refine xsq ?_)
 refine QAW (Blk b6 [.I r19,.I r20,.I r21,.I r22,.I r23,.I r24,.I r25,.bool c10]::BnO k s d (some ⟨g4,0,none⟩) b5::Ar Pn.TG s b4.cf.tags::GwL g4 a4 M4) ?_;refine xbn 1 fun p ls fs ho hl=>xng (xgq ?_);refine QAU (fun(c:Bool) As'=>c=(!b5.wrong&&b5.sent == 2)∧As'=[Blk b6 [.I r19,.I r20,.I r21,.I r22,.I r23,.I r24,.I r25,.bool c10]]) (fun K hK=>?_) ?_
 ·refine xif (fun h=>xng (xgq (QAM [Blk b6 [.I r19,.I r20,.I r21,.I r22,.I r23,.I r24,.I r25,.bool c10]] (hK _ _ ⟨?_,rfl⟩)))) (fun h=>QAM [Blk b6 [.I r19,.I r20,.I r21,.I r22,.I r23,.I r24,.I r25,.bool c10]] (hK _ _ ⟨?_,rfl⟩))
  ·rw[h];rfl
  ·rw[h];rfl
 rintro c _ ⟨hc,rfl⟩;rw[←hc]at hN;refine QAJ (xif (fun h=>?_) (fun h=>fin ?_))
 ·iterate 8 (refine xgq ?_)
  refine fin ?_;rw[←hN,h];rfl
 ·rw[←hN,h];rfl
end Go.Cx
namespace Go.Cx.Cm
open Go Go.Cf Go.Cx
set_option linter.unusedVariables false
set_option maxRecDepth 100000
def Clm(m:DM):Prop:=m.armed=false∧m.down=false
structure ClmR(m:DM)(r:DM×Int):Prop where
 calm:Clm r.1
 err:r.2≠10
 room:r.1.room=m.room
theorem QJS{m:DM}(h:Clm m):QAp m=(m,true):=by
 unfold QAp;rw[h.1];rfl
theorem ClmR.same{m:DM}(h:Clm m){e:Int}(he:e≠10):ClmR m (m,e):=⟨h,he,rfl⟩
theorem ClmR.trans{m:DM}{x y:DM×Int}(h:ClmR m x)(g:ClmR x.1 y):ClmR m y:=⟨g.calm,g.err,g.room.trans h.room⟩
theorem QSs{m:DM}(h:Clm m)(nm:ByteArray)(b:List UInt8):ClmR m (QAK m nm b)∧m.fs.length≤(QAK m nm b).1.fs.length:=by
 unfold QAK;rw[QJS h,h.2];simp only[Bool.not_true,Bool.false_eq_true,if_false];split
 ·exact⟨.same h (by decide),Nat.le_refl _⟩
 split
 ·exact⟨.same h (by decide),Nat.le_refl _⟩
 refine⟨⟨⟨h.1,h.2⟩,(show (0:Int)≠10 by decide),rfl⟩,?_⟩;rw[List.length_set];split
 ·exact Nat.le_refl _
 ·unfold QLf;rw[List.length_append,List.length_cons,List.length_take,List.length_drop];omega
theorem QZq{m:DM}(h:Clm m)(nm:ByteArray){g:Nat→DF→DM→DM×Int}(hg:∀i f,ClmR m (g i f m)):ClmR m (QBX m nm g):=by
 unfold QBX;rw[h.2];simp only[Bool.false_eq_true,if_false];split
 ·exact .same h (by decide)
 ·exact hg _ _
theorem QWi{m:DM}(h:Clm m){g:DM→DM}(h1:(g m).armed=false)(h2:(g m).down=false)(h3:(g m).room=m.room):ClmR m (QD3 m g):=by
 unfold QD3;rw[QJS h];exact⟨⟨h1,h2⟩,(show (0:Int)≠10 by decide),h3⟩
theorem QZ4{m:DM}(h:Clm m)(nm:ByteArray):ClmR m (QBE m nm):=QZq h nm fun i f=>QWi h h.1 h.2 rfl
theorem Qb3{m:DM}(h:Clm m)(nm:ByteArray):(QBE m nm).1.fs.length=m.fs.length:=by
 unfold QBE QBX QD3
 (try simp only)
 rw[QJS h,h.2];simp only[Bool.not_true,Bool.false_eq_true,if_false];split
 ·rfl
 ·exact List.length_set
theorem QN0{m:DM}(h:Clm m)(l:LM):ClmR m ((QBZ m l).1,(QBZ m l).2.2)∧m.fs.length≤(QBZ m l).1.fs.length:=by
 unfold QBZ;rw[h.2];simp only[Bool.false_eq_true,if_false];split
 ·exact⟨.same h (show (0:Int)≠10 by decide),Nat.le_refl _⟩
 have:=QZ4 h (fN ((l.cur.map Sg.n).getD 0));have hl:=Qb3 h (fN ((l.cur.map Sg.n).getD 0));split
 ·exact⟨this,Nat.le_of_eq hl.symm⟩
 ·exact⟨⟨this.calm,(show (0:Int)≠10 by decide),this.room⟩,by show _≤(QBE _ _).1.fs.length;omega⟩
theorem QQd{m:DM}(h:Clm m)(l:LM)(p:List UInt8):ClmR m ((QBe m l p).1,(QBe m l p).2.2.2)∧m.fs.length≤(QBe m l p).1.fs.length:=by
 unfold QBe;rw[h.2];simp only[Bool.false_eq_true,if_false];split
 ·exact⟨.same h (show (2:Int)≠10 by decide),Nat.le_refl _⟩
 split
 ·exact⟨.same h (show (12:Int)≠10 by decide),Nat.le_refl _⟩
 have hy:ClmR m ((if l.full=true then QBZ m l else (m,l,0)).1,(if l.full=true then QBZ m l else (m,l,0)).2.2)∧m.fs.length≤(if l.full=true then QBZ m l else (m,l,0)).1.fs.length:=by
  split
  ·exact QN0 h l
  ·exact⟨.same h (show (0:Int)≠10 by decide),Nat.le_refl _⟩
 generalize (if l.full=true then QBZ m l else (m,l,0))=y at *
 obtain⟨hy,hyl⟩:=hy;split
 ·exact⟨hy,hyl⟩
 obtain⟨ha,hal⟩:=QSs hy.calm (fN (if l.full=true then l.curN+1 else l.curN)) (QAk p)
 generalize QAK y.1 (fN (if l.full=true then l.curN+1 else l.curN)) (QAk p)=a at *
 split
 ·exact⟨hy.trans ha,Nat.le_trans hyl hal⟩
 ·exact⟨⟨ha.calm,(show (0:Int)≠10 by decide),ha.room.trans hy.room⟩,Nat.le_trans hyl hal⟩
theorem QRp{k:Kn}(h:Clm k.dev)(clock:Int)(r:RE):ClmR k.dev ((QKd clock k r).1.dev,(QKd clock k r).2)∧k.dev.fs.length≤(QKd clock k r).1.dev.fs.length:=by
 have:=QQd h k.log (QUb { r with time:=clock }).1;unfold QKd
 (try simp only)
 split
 ·rename_i q;exact⟨⟨this.1.calm,(show (0:Int)≠10 by decide),this.1.room⟩,this.2⟩
 ·exact this
theorem QMf{k:Kn}(h:Clm k.dev)(clock lost:Int)(r:RE):Clm (QVX clock k lost r).k.dev∧(QVX clock k lost r).ok=true∧k.dev.fs.length≤(QVX clock k lost r).k.dev.fs.length:=by
 have:=QRp h clock r;unfold QVX
 (try simp only)
 rw[if_neg this.1.err];split<;>exact⟨this.1.calm,rfl,this.2⟩
theorem QWB{k:Kn}(h:Clm k.dev)(clock lost:Int)(r:RE):Clm (QBa clock k lost r).k.dev∧(QBa clock k lost r).ok=true∧k.dev.fs.length≤(QBa clock k lost r).k.dev.fs.length:=by
 unfold QBa;split
 ·split
  ·exact⟨h,rfl,Nat.le_refl _⟩
  split
  ·have:=QRp h clock ⟨3,0,ByteArray.empty,lost,0⟩
   (try simp only)
   rw[if_neg this.1.err];split
   ·have h2:=QMf this.1.calm clock 0 r;exact⟨h2.1,h2.2.1,Nat.le_trans this.2 h2.2.2⟩
   ·exact⟨this.1.calm,rfl,this.2⟩
  ·exact QMf h clock lost r
 ·exact QMf h clock lost r
end Go.Cx.Cm
namespace Go.Cx
open Go Go.Cf Go.Cx.Cm
set_option linter.unusedVariables false
set_option maxRecDepth 100000
set_option synthInstance.maxSize 8000
set_option synthInstance.maxHeartbeats 400000
variable {B:QBG}{As F:List HP}
def QUo(s t:GS):Prop:=t.ok=true∧Clm t.k.dev∧s.k.dev.fs.length≤t.k.dev.fs.length
theorem QWL{s:GS}{m:SeM}(clock boots epoch:Int)(h:Clm s.k.dev)(hj:s.J.L=[]):QUo s (QEs clock boots epoch s m).1:=by
 have hn:=QWB h clock s.lost ⟨4,0,ByteArray.empty,boots,0⟩;unfold QEs;rw[if_pos hn.2.1,hj];show QUo s (QHq clock epoch (QGj clock s ⟨4,0,ByteArray.empty,boots,0⟩) m).1;unfold QHq;rw[if_pos hn.2.1];have hs:=QN0 (l:=(QGj clock s ⟨4,0,ByteArray.empty,boots,0⟩).k.log) hn.1;unfold QK6
 (try simp only)
 rw[if_neg hs.1.err];exact⟨hn.2.1,hs.1.calm,Nat.le_trans hn.2.2 hs.2⟩
def opD:OpM:=⟨⟨QTp 0,⟨0,0,[],0⟩,xm0⟩,⟨false,[]⟩,⟨0,0,0⟩,0,0⟩
def fo0:OpM:=match opG (QTp 50000) 0 with
 | .inr o=>o
 | .inl _=>opD
def fo(now:Int):OpM:={ fo0 with clock:=now }
theorem QgN(now:Int):opG (QTp 50000) now=.inr (fo now):=by  kernel_rfl
def foB:Bool:=fo0.k.dev.armed == false&&(fo0.k.dev.down == false&&(decide (fo0.J.L.length=0)&&(decide (fo0.cu.c=1)&&decide (0<fo0.k.dev.fs.length))))
theorem Qa5:foB=true:=by decide +kernel
theorem QbI(now:Int):Clm (fo now).k.dev∧(fo now).J.L=[]∧(fo now).cu.c=1∧0<(fo now).k.dev.fs.length:=by
 have h:=Qa5;unfold foB at h;simp only[Bool.and_eq_true,beq_iff_eq,decide_eq_true_eq]at h;exact⟨⟨h.1,h.2.1⟩,List.eq_nil_of_length_eq_zero h.2.2.1,h.2.2.2.1,h.2.2.2.2⟩
theorem QWj{c:Cfg}{now:Int}(hc:QUq c=0)(hn:¬(now<0∨now>1099511627776)):∃M os,QId c (QTp 50000) now=.inr (M,os)∧M.boots=1∧0<M.k.dev.fs.length:=by
 obtain⟨h1,h2,h3,h4⟩:=QbI now;have hb:=QWL (s:=⟨(fo now).k,0,(fo now).J,[],true⟩) (m:=QGS c.window c.resend (fo now).cu.b (fo now).cu.a) (fo now).clock (fo now).cu.c (fo now).cu.b h1 h2;refine⟨QZP c (fo now) (QOY c (fo now)).1.k (QOY c (fo now)).1.J (QOY c (fo now)).1.lost (QOY c (fo now)).2,(QOY c (fo now)).1.os,?_,?_,?_⟩
 ·unfold QId;rw[if_neg (by rw[hc];decide),if_neg hn,QgN];show QXp c (fo now)=_;unfold QXp;rw[if_pos hb.1]
 ·exact h3
 ·exact Nat.lt_of_lt_of_le h4 hb.2.2
theorem QTv(c:Cfg)(s:Sl)(hsc:s.n≤s.c)(now:Int):Ct Pr 6 [c.v s,.I now] .one [.bool] [] ((GTab.and GBeh).and (RAr Pn.TG s c.tags)) (fun t Bs=>t.1=true∧Bs=[]):=by
 refine sp1 (QDt _ _ _ _ _ _ _ _) fun B hr=>?_;obtain⟨⟨hg1,hg2⟩,hts⟩:=hr;haveI:=QKc hg1;haveI:=Qc0 hg2;haveI:Fro B s Pn.TG c.tags:=⟨hts⟩;have fin:∀{c:Bool}{As:List HP},c=true→Ent B As (Ret B (ss:=[.bool]) (fun t Bs=>t.1=true∧Bs=[]) (c,())):=fun h=>QAa (l:=[]) (QAE ⟨h,rfl⟩)
 have knw:∀{As:List HP}{K:Bool→WP},(∀Bs,Ent B (Bs++As) (K true))→Ent B As (QAe Pr 15 [] .one [.bool] fun c4=>K c4):=fun h=>by
  refine xcl QWe rdb ?_;rintro⟨v,_⟩ Bs ⟨hv,_⟩;have hv:v=true:=hv.trans knownB_true;subst hv;exact ca1 (h Bs)
 unfold QDt mf;dsimp only;refine QAL fun b=>?_;refine xcl (QUD 50000) rdb ?_;rintro⟨q,r,_⟩ _ h;rcases h with⟨h,_⟩|⟨_,_,h3,⟨bd,h4⟩,rfl⟩
 ·omega
 simp only at h3 h4;subst h3;refine QA8 (ca2 (QBF rfl ?_));iterate 6 (refine xgq ?_)
 refine QAA (s:=.slice) (x:=s) (hv:=rfl) (h:=?_);refine xcl (QQm c s hsc q (QTp 50000) now) rdb ?_;rintro⟨q1,s1,r1,_⟩ _ h;unfold QKp at h;by_cases hc:QUq c=0∧¬(now<0∨now>1099511627776)
 ·obtain⟨M0,os0,hb,hb1,hb2⟩:=QWj hc.1 hc.2;rw[hb]at h;rcases h with⟨m,e,h,_⟩|⟨M,os,g,a,h,_,hq,hd,hr,rfl⟩
  ·cases h
  injection h with h;injection h with e1 e2;subst e1 e2;simp only at hq hd hr;subst hq hr;have hnw:=hc.2;refine QXB (ca3 (QBk rfl ?_));subst hd;refine QAU (fun(c:Bool) As'=>c=true∧∃R,As'=GwR g a M0 R) (fun K hK=>?_) ?_
  ·refine QBk rfl ?_;refine QGl 2 fun hk=>?_;refine xcl (QJn a.dev M0.k.dev) rdb ?_;have hL:(M0.k.dev.fs.map fun x:DF=>x.nm).length=M0.k.dev.fs.length:=List.length_map ..
   generalize (M0.k.dev.fs.map fun x:DF=>x.nm)=L at *
   rintro⟨s2,_⟩ _ rfl;refine QBM (ca1 (QAW [Ar ST s2 L] (QCn (E:=ST) (xs:=L) s2 fun hn _=>?_)));refine QAW [QAC a.dev M0.k.dev] ?_;refine QCl a.dev a.log a.idx M0.k hk ?_;refine QAW (GwR g a M0 []) (hK _ _ ⟨?_,_,rfl⟩);rw[decide_eq_true_eq];omega
  rintro c1 _ ⟨rfl,R,rfl⟩;refine QAU (fun(c:Bool) As'=>c=true) (fun K hK=>?_) ?_
  ·refine QBk (by simp;omega) ?_;refine xcl (QET g a M0) rdb ?_;rintro⟨r6,r7,r8,r9,r10,r11,r12,c,_⟩ _ ⟨hst,rfl⟩;unfold QSi at hst;injection hst with e1 e2 e3 e4 e5 e6 e7 e8;refine QFM (ca8 (hK _ _ ?_));rw[show r11=1 from e6.trans hb1];rfl
  rintro c2 _ rfl;exact QAJ (QBk rfl (knw fun Bs=>fin rfl))
 ·have hin:∃e,QId c (QTp 50000) now=.inl (QTp 50000,e):=by
   unfold QId;by_cases h0:QUq c=0
   ·rw[if_neg (by rw[h0];decide),if_pos (Classical.not_not.1 fun z=>hc ⟨h0,z⟩)];exact⟨_,rfl⟩
   ·rw[if_pos h0];exact⟨_,rfl⟩
  obtain⟨e,he⟩:=hin;rw[he]at h;rcases h with⟨m,e',h,hne,hq,hs,hr,rfl⟩|⟨M,os,g,a,h,_⟩
  ·injection h with h;injection h with e1 e2;subst e1 e2;simp only at hq hs hr;subst hq hs hr;refine QA8 (ca3 (QBF (by simpa using hne) ?_));refine QAU (fun(c:Bool) As'=>c=true∧∃R,As'=QAC q (QTp 50000)::R) (fun K hK=>?_) ?_
   ·refine QBk rfl ?_;refine xcl (QJn q (QTp 50000)) rdb ?_;have hL:((QTp 50000).fs.map fun x:DF=>x.nm).length=0:=rfl
    generalize ((QTp 50000).fs.map fun x:DF=>x.nm)=L at *
    rintro⟨s2,_⟩ _ rfl;refine QBM (ca1 (QAW [Ar ST s2 L] (QCn (E:=ST) (xs:=L) s2 fun hn _=>?_)));refine QAW [QAC q (QTp 50000)] (hK _ _ ⟨?_,_,rfl⟩)
    have hn:s2.n=0:=by omega
    rw[hn];rfl
   rintro c1 _ ⟨rfl,R,rfl⟩;refine QAU (fun(c:Bool) As'=>c=true) (fun K hK=>?_) ?_
   ·refine QBk rfl ?_;refine xcl (QYe q (QTp 50000)) rdb ?_;rintro⟨r9,_⟩ _ ⟨hu,rfl⟩;refine QA8 (ca1 (hK _ _ ?_));rw[show r9=0 from hu];rfl
   rintro c2 _ rfl;exact QAJ (QBk rfl (knw fun Bs=>fin rfl))
  ·cases h
end Go.Cx
