import Derived.Test.YthbhbkjkclhkgaaGreatDoorG8
import Derived.Test.YthbhbkjkclhkgaaGreatDoorMX
namespace Go.Cx
open Go Go.Cf
set_option linter.unusedVariables false
set_option maxRecDepth 100000
set_option synthInstance.maxSize 4000
set_option synthInstance.maxHeartbeats 200000
variable {B:QBE}{As F:List HP}
structure OpM where
 k:Kn
 J:Od.JM
 cu:Cu
 saved:Int
 clock:Int
def QfV(l:LM)(n c:Int):Int:=if (QE6 (QH6 l n).1).2=0 then (if (QE6 (QH6 l n).1).1.time>c then (QE6 (QH6 l n).1).1.time else c) else c
def QUT(l:LM)(c:Int)(k:Nat):Int:=(List.range k).foldl (fun c (i:Nat)=>QfV l (l.lo+i) c) c
theorem QSD(l:LM)(c:Int)(k:Nat):QUT l c (k+1)=QfV l (l.lo+k) (QUT l c k):=by
 unfold QUT;rw[List.range_succ,List.foldl_append];rfl
theorem QXt(l:LM){c:Int}(h:0≤c∧c≤1099511627776):∀k:Nat,0≤QUT l c k∧QUT l c k≤1099511627776
 | 0=>by unfold QUT;exact h
 | k+1=>by
  have ih:=QXt l h k;rw[QSD];unfold QfV;split
  ·rename_i hz
   have:=QYZ (QNU hz);split<;>omega
  ·exact ih
abbrev QPz(cu:Cu):Cu:=⟨cu.a,IntKind.i64.wrap (cu.b+1),IntKind.i64.wrap (cu.c+1)⟩
def Qdf(m:DM)(l:LM)(L:Od.JL)(cu:Cu)(ck:Int):(DM×Int) ⊕ OpM:=
 if (Csr.saveM m (QPz cu)).2≠0 then .inl (Csr.saveM m (QPz cu))
 else .inr ⟨⟨(Csr.saveM m (QPz cu)).1,l,QIY l⟩,⟨false,L⟩,QPz cu,l.next,QUT l ck (l.next - l.lo).toNat⟩
def QdC(m:DM)(l:LM)(L:Od.JL)(cu:Cu)(ck:Int):(DM×Int) ⊕ OpM:=
 if (QAt m idxNew).2≠0 then .inl (QAt m idxNew)
 else if cu.a<l.lo∨cu.a>l.safe then .inl ((QAt m idxNew).1,30)
 else Qdf (QAt m idxNew).1 l L cu ck
def Qcq(m:DM)(l:LM)(cu:Cu)(ck:Int):(DM×Int) ⊕ OpM:=match (Od.openJ m).2.2 with
 | none=>.inl ((Od.openJ m).1,(Od.openJ m).2.1)
 | some L=>QdC (Od.openJ m).1 l L cu ck
def Qcg(m:DM)(l:LM)(ck:Int):(DM×Int) ⊕ OpM:=
 if (Csr.loadM m).2≠0 then .inl (m,(Csr.loadM m).2) else Qcq m l (Csr.loadM m).1 ck
def opG(m:DM)(ck:Int):(DM×Int) ⊕ OpM:=match (QDk m).2.1 with
 | none=>.inl ((QDk m).1,(QDk m).2.2)
 | some l=>Qcg (QDk m).1 l ck
theorem QXC{m:DM}(h:(Od.openJ m).2.2=none):(Od.openJ m).2.1≠0:=by
 unfold Od.openJ at h⊢;split at h
 ·rename_i h1;rw[if_pos h1];show (10:Int)≠0;decide
 rename_i h1
 rw[if_neg h1];split at h
 ·cases h
 rename_i h2
 rw[if_neg h2];split at h
 ·show (30:Int)≠0;decide
 ·split at h
  ·cases h
  ·rename_i h4;rw[if_neg h4];exact h4
theorem QS3{m:DM}(hI:DInv m)(n len:Nat):Touch m (Od.mendJ m n len).1 fun k=>k≠Od.cmdN.toList:=by
 have t:=QL9 hI Od.cmdN n;unfold Od.mendJ;split
 ·split
  ·exact t
  ·exact t.trans ((QCq t.inv Od.cmdN).mono fun _ _=>trivial)
 ·exact (QCq hI Od.cmdN).mono fun _ _=>trivial
theorem QSq{m:DM}(hI:DInv m):Touch m (Od.openJ m).1 fun k=>k≠Od.cmdN.toList:=by
 unfold Od.openJ;split
 ·exact Touch.refl hI _
 split
 ·exact Touch.refl hI _
 split
 ·exact Touch.refl hI _
 ·split<;>exact QS3 hI _ _
abbrev GwC.opened(c:GwC)(o:OpM)(lg ix jr:Option Addr):GwC:={ c with log:=lg,idx:=ix,jr:=jr,saved:=o.saved,acked:=o.cu.a,epoch:=o.cu.b,boots:=o.cu.c,clock:=o.clock }
def QZi(g:Nat)(c:GwC)(os:List QCS)(r:(DM×Int) ⊕ OpM)(t:Tup [.I])(Bs:List HP):Prop:=
 (∃m' e,r=.inl (m',e)∧e≠0∧t.1=e∧Bs=[QAC c.dev m']) ∨
 (∃o lg ix jr,r=.inr o∧t.1=0∧KOk o.k∧Bs=[GwB g (c.opened o lg ix jr) os,QA7 c.dev lg ix o.k,Od.JObj c.dev jr o.J])
theorem xg3{g:Nat}{c:GwC}{os:List QCS}[f:GwF g As c os F]{x y z:Int}{K:WP}(h:Ent B (GwB g { c with acked:=x,epoch:=y,boots:=z } os::F) K) :
  Ent B As (QCe (some ⟨g,0,none⟩) fun a5=>QBG (a5.add 11) (.I x)<|QBG (a5.add 12) (.I y)<|QBG (a5.add 13) (.I z)<|K):=by
 refine Ent.perm f.perm (xgw 0 fun out=>QAQ ?_);rw[QAz,QAz,QAz];refine xsq (xsq (xsq ?_));exact QQC g { c with acked:=x,epoch:=y,boots:=z } os out h
theorem Qg3{g:Nat}{c:GwC}{os:List QCS}[f:GwF g As c os F]{K:Int→Int→Int→WP}(h:Ent B As (K c.acked c.epoch c.boots)) :
  Ent B As (QCe (some ⟨g,0,none⟩) fun a2=>QAq (.I) (a2.add 11) fun(n4:Int)=>QAq (.I) (a2.add 12) fun(n5:Int)=>QAq (.I) (a2.add 13) fun(n6:Int)=>K n4 n5 n6):=by
 refine Ent.perm f.perm (xgw 0 fun out=>QAQ ?_);rw[QAz,QAz,QAz];exact xgq (xgq (xgq (QQC g c os out (Ent.perm f.perm.symm h))))
theorem QYc(g:Nat)(c:GwC)(os:List QCS)(m:DM) :
  Ct Pr 57 [.pointer (some ⟨g,0,none⟩)] .one [.I] [GwB g c os,QAC c.dev m] GTab (QZi g c os (opG m c.clock)):=by
 refine sp1 (QD3 _) fun B hr=>?_;haveI:=QKI hr;obtain⟨N,hN⟩:∃N,opG m c.clock=N:=⟨_,rfl⟩;rw[hN];unfold opG at hN;unfold QD3 mf;dsimp only;refine QBx 1 (P1:=QAC c.dev m) (fun f hf=>hf.1) fun hI=>?_
 have bad:∀{m':DM}{e:Int}{R:List HP},N=.inl (m',e)→e≠0→Ent B (QAC c.dev m'::R) (Ret B (ss:=[.I]) (fun t Bs=>QZi g c os N t Bs) (e,())):=by
  intro m' e R h1 h2;exact QAK [QAC c.dev m'] (QAD (.inl ⟨m',e,h1,h2,rfl,rfl⟩))
 refine xgf (h:=?_);have hopl:=@QXX m hI;refine xcl (QVt c.dev m) rdb ?_;unfold openPost
 generalize QDk m=o at *
 obtain⟨m1,lo,e1⟩:=o;simp only at hN hopl;rintro⟨q,r,_⟩ _ h;rcases h with⟨l,b,rfl,h2,h3,h4,rfl⟩|⟨rfl,h2,h3,h4,rfl⟩
 case inr=>
  simp only at hN h2 h3 h4;subst h3 h4;refine QA5 (ca2 (xgs { c with log:=none } (h:=QBz (by simpa using h2) ?_)));exact QAU [QAC c.dev m1] (bad hN.symm h2)
 simp only at hN h2 h3 h4;subst h2 h3 h4;have hL:=(hopl rfl).1;refine QBM (ca2 (xgs { c with log:=some ⟨b,0,none⟩ } (h:=QBF rfl ?_)));unfold Qcg at hN;refine xgf (h:=?_);refine xcl (Csr.Load_spec c.dev m1) rdb ?_
 generalize Csr.loadM m1=ld at *
 obtain⟨cu,e2⟩:=ld;simp only at hN;rintro⟨r1,r2,r3,r4,_⟩ _ ⟨rfl,rfl,rfl,h4,rfl⟩;simp only at h4;subst h4;refine QA5 (ca4 (xg3 (h:=xif (fun h=>?_) (fun h=>?_))))
 ·have h:r4≠0:=by simpa using h
  rw[if_pos h]at hN;exact QAU [QAC c.dev m1] (bad hN.symm h)
 rw[if_neg (by simpa using h)]at hN;unfold Qcq at hN;refine xgf (h:=?_);have htj:=QSq hL.inv;have hjn:=@QXC m1;refine xcl (Od.Open_spec c.dev m1) rdb ?_;unfold Od.openPost
 generalize Od.openJ m1=oj at *
 obtain⟨m2,e3,jo⟩:=oj;simp only at hN htj hjn;rintro⟨jr,r5,_⟩ _ h;rcases h with⟨L,rfl,h4,rfl⟩|⟨rfl,h3,h4,rfl⟩
 case inr=>
  simp only at hN h3 h4;subst h3 h4;have hz:=hjn rfl;refine QA5 (ca2 (xgs { c with log:=some ⟨b,0,none⟩,acked:=cu.a,epoch:=cu.b,boots:=cu.c,jr:=none } (h:=QBz (by simpa using hz) ?_)));exact QAU [QAC c.dev m2] (bad hN.symm hz)
 simp only at hN h4;subst h4;have hL2:=hL.touch htj fun s _=>QZM s.n;refine QBM (ca2 (xgs { c with log:=some ⟨b,0,none⟩,acked:=cu.a,epoch:=cu.b,boots:=cu.c,jr:=jr } (h:=QBF rfl ?_)));unfold QdC at hN;refine QAO (xgf (h:=xgf (h:=?_)));have htd:=QNg hL2.inv idxNew;refine xcl (QV8 c.dev (some ⟨b,0,none⟩) m2 l) rdb ?_
 generalize QAt m2 idxNew=dd at *
 obtain⟨m3,e4⟩:=dd;simp only at hN htd;rintro⟨ix,r6,_⟩ _ ⟨h1,h2,h3⟩;simp only at h1 h2 h3;subst h1;by_cases hz:r6≠0
 ·obtain⟨rfl,rfl⟩:=h2 hz;rw[if_pos hz]at hN;refine QBM (ca2 (xgs { c with log:=some ⟨b,0,none⟩,acked:=cu.a,epoch:=cu.b,boots:=cu.c,jr:=jr,idx:=none } (h:=QBz (by simpa using hz) ?_)));exact QAU [QAC c.dev m3] (bad hN.symm hz)
 obtain⟨_,rfl⟩:=h3 (Classical.not_not.1 hz);rw[if_neg hz]at hN;have hz:r6=0:=Classical.not_not.1 hz;subst hz;have hL3:=hL2.touch htd fun s _=>QYK s.n;have hX:=XOk'.open hL3;refine QQA (ca2 (xgs { c with log:=some ⟨b,0,none⟩,acked:=cu.a,epoch:=cu.b,boots:=cu.c,jr:=jr,idx:=ix } (h:=QBF rfl ?_)));refine QAO ?_;refine QAS (fun(x:Bool) As'=>(x=true↔(cu.a<l.lo∨cu.a>l.safe))∧As'=[GwB g { c with log:=some ⟨b,0,none⟩,acked:=cu.a,epoch:=cu.b,boots:=cu.c,jr:=jr,idx:=ix } os,QAY (some ⟨b,0,none⟩) c.dev l,QAC c.dev m3,QBt ix c.dev (some ⟨b,0,none⟩) (QIY l),Od.JObj c.dev jr ⟨false,L⟩]) (fun K hK=>?_) ?_
 ·refine xgf (h:=xgf (h:=?_));refine xd1 (QFf (some ⟨b,0,none⟩) c.dev l) (xgc (h:=QAA (fun h=>?_) (fun h=>?_)))
  ·exact QAK [GwB g { c with log:=some ⟨b,0,none⟩,acked:=cu.a,epoch:=cu.b,boots:=cu.c,jr:=jr,idx:=ix } os,QAY (some ⟨b,0,none⟩) c.dev l,QAC c.dev m3,QBt ix c.dev (some ⟨b,0,none⟩) (QIY l),Od.JObj c.dev jr ⟨false,L⟩] (hK _ _ ⟨⟨fun _=>.inl h,fun _=>rfl⟩,rfl⟩)
  ·refine xgf (h:=xgf (h:=?_));refine xd1 (QGB (some ⟨b,0,none⟩) c.dev l) (xgc (h:=?_));refine QAK [GwB g { c with log:=some ⟨b,0,none⟩,acked:=cu.a,epoch:=cu.b,boots:=cu.c,jr:=jr,idx:=ix } os,QAY (some ⟨b,0,none⟩) c.dev l,QAC c.dev m3,QBt ix c.dev (some ⟨b,0,none⟩) (QIY l),Od.JObj c.dev jr ⟨false,L⟩] (hK _ _ ⟨?_,rfl⟩);simp only[Bool.false_or,decide_eq_true_eq];exact⟨.inr,fun q=>q.resolve_left h⟩
 rintro x _ ⟨hx,rfl⟩;refine xif (fun h=>?_) (fun h=>?_)
 ·rw[if_pos (hx.1 h)]at hN;exact QAU [QAC c.dev m3] (bad hN.symm (by decide))
 rw[if_neg (fun q=>by rw[hx.2 q]at h;cases h)]at hN;unfold Qdf at hN;refine xgf (h:=xd1 (QFE (some ⟨b,0,none⟩) c.dev l) (xgs { c with log:=some ⟨b,0,none⟩,acked:=cu.a,epoch:=cu.b,boots:=cu.c,jr:=jr,idx:=ix,saved:=l.next } (h:=?_)));refine xgf (h:=xd1 (QFf (some ⟨b,0,none⟩) c.dev l) ?_);have hi:=hL3.log;have hnx:=hi.next;have hlo:=hi.lo;refine QAK [GwB g { c with log:=some ⟨b,0,none⟩,acked:=cu.a,epoch:=cu.b,boots:=cu.c,jr:=jr,idx:=ix,saved:=l.next } os,QAY (some ⟨b,0,none⟩) c.dev l,QAC c.dev m3,QBt ix c.dev (some ⟨b,0,none⟩) (QIY l),Od.JObj c.dev jr ⟨false,L⟩] ?_;refine QBP (fun n (x:Int) As'=>∃k:Nat,x=l.lo+k∧n=(l.next - l.lo).toNat - k∧k≤(l.next - l.lo).toNat∧As'=[GwB g { c with log:=some ⟨b,0,none⟩,acked:=cu.a,epoch:=cu.b,boots:=cu.c,jr:=jr,idx:=ix,saved:=l.next,clock:=QUT l c.clock k } os,QAY (some ⟨b,0,none⟩) c.dev l,QAC c.dev m3,QBt ix c.dev (some ⟨b,0,none⟩) (QIY l),Od.JObj c.dev jr ⟨false,L⟩]) (l.next - l.lo).toNat ⟨0,by simp,rfl,by omega,rfl⟩ ?_;rintro n x As' K ⟨k,rfl,rfl,hk,rfl⟩ hK;refine xgf (h:=xd1 (QFE (some ⟨b,0,none⟩) c.dev l) (QAA (fun h1=>?_) (fun h1=>?_)))
 ·refine xgf (h:=?_);refine xcl (QGU (some ⟨b,0,none⟩) c.dev l (l.lo+k) ⟨by omega,by omega⟩) rdb ?_;rintro⟨s,e,_⟩ _ ⟨_,rfl⟩;refine QBM (ca2 (QGD 1 (Qgq (by have:=QKx hi (l.lo+k);omega) (QAL fun b1=>?_))));iterate 5 (refine xsq ?_)
  refine QBu (fun As'=>As'=[GwB g { c with log:=some ⟨b,0,none⟩,acked:=cu.a,epoch:=cu.b,boots:=cu.c,jr:=jr,idx:=ix,saved:=l.next,clock:=QUT l c.clock (k+1) } os,QAY (some ⟨b,0,none⟩) c.dev l,QAC c.dev m3,QBt ix c.dev (some ⟨b,0,none⟩) (QIY l),Od.JObj c.dev jr ⟨false,L⟩]) (fun K1 hK1=>?_) ?_
  ·rw[QSD]at hK1;unfold QfV at hK1;refine xif (fun h2=>?_) (fun h2=>?_)
   ·rw[if_pos (eq_of_beq h2)]at hK1;refine QAO (xgf (h:=xgq (xgs { c with log:=some ⟨b,0,none⟩,acked:=cu.a,epoch:=cu.b,boots:=cu.c,jr:=jr,idx:=ix,saved:=l.next,clock:=if (QE6 (QH6 l (l.lo+k)).1).1.time>QUT l c.clock k then (QE6 (QH6 l (l.lo+k)).1).1.time else QUT l c.clock k } (h:=?_))));exact QKd (hK1 _ rfl)
   ·rw[if_neg (by simpa using h2)]at hK1;exact QKd (hK1 _ rfl)
  ·rintro _ rfl;rw[QAB _ (by omega) (by omega)];exact hK ((l.next - l.lo).toNat - (k+1)) _ _ (by omega) ⟨k+1,by omega,rfl,by omega,rfl⟩
 ·have ek:k=(l.next - l.lo).toNat:=by omega
  subst ek;refine xgf (h:=xgs { c with log:=some ⟨b,0,none⟩,acked:=cu.a,epoch:=IntKind.i64.wrap (cu.b+1),boots:=cu.c,jr:=jr,idx:=ix,saved:=l.next,clock:=QUT l c.clock (l.next - l.lo).toNat } (h:=?_));refine xgf (h:=xgs { c with log:=some ⟨b,0,none⟩,acked:=cu.a,epoch:=IntKind.i64.wrap (cu.b+1),boots:=IntKind.i64.wrap (cu.c+1),jr:=jr,idx:=ix,saved:=l.next,clock:=QUT l c.clock (l.next - l.lo).toNat } (h:=?_));refine QAO (xgf (h:=Qg3 (h:=?_)));have hts:=QLf hL3.inv (QPz cu);refine xcl (Csr.Save_spec c.dev m3 (QPz cu)) rdb ?_
  generalize Csr.saveM m3 (QPz cu)=sv at *
  obtain⟨m4,e5⟩:=sv;simp only at hN hts;rintro⟨e',_⟩ _ ⟨he,rfl⟩;simp only at he;subst he;refine QA5 (ca1 ?_);by_cases hz:e'≠0
  ·rw[if_pos hz]at hN;exact QAU [QAC c.dev m4] (bad hN.symm hz)
  rw[if_neg hz]at hN;have hz:e'=0:=Classical.not_not.1 hz;subst hz;have hL4:=hL3.touch hts fun s _=>⟨QQZ s.n,QcP s.n⟩;have hk4:KOk ⟨m4,l,QIY l⟩:=⟨hL4,hX⟩;refine QCs c.dev (some ⟨b,0,none⟩) ix ⟨m4,l,QIY l⟩ hk4 ?_;subst hN;exact QAK [GwB g (c.opened ⟨⟨m4,l,QIY l⟩,⟨false,L⟩,QPz cu,l.next,QUT l c.clock (l.next - l.lo).toNat⟩ (some ⟨b,0,none⟩) ix jr) os,QA7 c.dev (some ⟨b,0,none⟩) ix ⟨m4,l,QIY l⟩,Od.JObj c.dev jr ⟨false,L⟩] (QAD (.inr ⟨_,_,_,_,rfl,rfl,hk4,rfl⟩))
structure Cfg where
 timeout:Int
 retries:Int
 window:Int
 resend:Int
 span:Int
 keep:Int
 tags:List Pn.Tag
abbrev Cfg.v(c:Cfg)(s:Sl):Value:=.agg #[.I c.timeout,.I c.retries,.I c.window,.I c.resend,.I c.span,.I c.keep,s.v]
abbrev Cfg.cs(c:Cfg)(s:Sl):List Value:=[.I c.timeout,.I c.retries,.I c.window,.I c.resend,.I c.span,.I c.keep,s.v]
def Qev(c:Cfg):Bool:=decide (1≤c.timeout∧c.timeout≤1048576∧0≤c.retries∧c.retries≤5∧1≤c.window∧c.window≤16∧1≤c.resend∧c.resend≤1048576∧1≤c.span∧c.span≤1048576∧1≤c.keep∧c.keep≤16)
def QYY(c:Cfg):Int:=if Qev c=true then (Pn.allE c.tags).1 else 32
theorem Qcz(v a b:Int):Ct Pr 171 [.I v,.I a,.I b] .one [.bool] [] emp (fun t Bs=>t.1=(decide (a≤v)&&decide (v≤b))∧Bs=[]):=by
 refine sp1 (QKY _ _ _) fun B hr=>?_;unfold QKY mf;dsimp only;exact QAD ⟨rfl,rfl⟩
theorem QaP(c:Cfg)(s:Sl):Ct Pr 114 [c.v s] .one [.bool] [] emp (fun t Bs=>t.1=Qev c∧Bs=[]):=by
 refine sp1 (QNx _ _ _ _ _ _ _) fun B hr=>?_;unfold QNx mf;dsimp only
 have call:∀{As:List HP}{K:Bool→WP}(v a b:Int),(∀x:Bool,x=(decide (a≤v)&&decide (v≤b))→Ent B As (K x))→Ent B As (QAb Pr 171 [.I v,.I a,.I b] .one [.bool] K):=by
  intro As K v a b h;refine QAR (Qcz v a b) rdb ?_;rintro⟨x,_⟩ _ ⟨hx,rfl⟩;exact QAy (ca1 (h x hx))
 refine QAL fun b=>?_;repeat' (first|refine QAJ ?_|refine xgq ?_|refine call _ _ _ fun x hx=>?_|refine QBz rfl ?_|refine QBF rfl ?_|refine xif (fun h0=>?_) (fun h0=>?_))
 all_goals
  refine QAa (l:=[]) (QAD ⟨?_,rfl⟩);unfold Qev;rw[Bool.eq_iff_iff];simp_all<;>omega
theorem QR4(c:Cfg)(s:Sl):Ct Pr 56 [c.v s] .one [.I] [] (RAr Pn.TG s c.tags) (fun t Bs=>t.1=QYY c∧Bs=[]):=by
 refine sp1 (QKC _ _ _ _ _ _ _) fun B hr=>?_;haveI:Fro B s Pn.TG c.tags:=⟨hr⟩;unfold QKC mf;dsimp only;refine QAL fun b=>?_;iterate 7 (refine xgq ?_)
 refine QAR (QaP c s) rdb ?_;rintro⟨x,_⟩ _ ⟨hx,rfl⟩;obtain rfl:x=Qev c:=hx;refine QAy (ca1 (xif (fun h=>QAa (l:=[]) (QAD ⟨?_,rfl⟩)) (fun h=>xgq ?_)))
 ·unfold QYY;rw[if_neg (by simpa using h)]
 refine QAR (Pn.CheckAll_spec s c.tags) rdb ?_;rintro⟨e,at_,_⟩ _ ⟨he,hat,rfl⟩;refine QAy (ca2 (QAa (l:=[]) (QAD ⟨?_,rfl⟩)));unfold QYY;rw[if_pos (by simpa using h)];exact he
theorem QPe{c:Cfg}(h:QYY c=0):(1≤c.timeout∧c.timeout≤1048576)∧(0≤c.retries∧c.retries≤5)∧(1≤c.window∧c.window≤16)∧(1≤c.resend∧c.resend≤1048576)∧(1≤c.span∧c.span≤1048576)∧(1≤c.keep∧c.keep≤16)∧(Pn.allE c.tags).1=0:=by
 unfold QYY at h;split at h
 ·rename_i ho
  unfold Qev at ho;simp only[decide_eq_true_eq]at ho;omega
 ·cases h
theorem Qc6{m:DM}(h:(Csr.loadM m).2=0):(0≤(Csr.loadM m).1.a∧(Csr.loadM m).1.a≤1099511627776)∧(0≤(Csr.loadM m).1.b∧(Csr.loadM m).1.b≤1099511627776)∧(0≤(Csr.loadM m).1.c∧(Csr.loadM m).1.c≤1099511627776):=by
 have z:(0≤Csr.cu0.a∧Csr.cu0.a≤1099511627776)∧(0≤Csr.cu0.b∧Csr.cu0.b≤1099511627776)∧(0≤Csr.cu0.c∧Csr.cu0.c≤1099511627776):=by decide
 unfold Csr.loadM Csr.decodeC at h⊢;repeat' split
 all_goals first|exact z|skip
 (try simp only)
 omega
theorem Qcn{m:DM}{c:Cu}(h:(Csr.saveM m c).2=0):QYz c=true:=by
 unfold Csr.saveM at h;split at h
 ·cases h
 ·rename_i q;simpa using q
structure Qd9(o:OpM):Prop where
 acked:0≤o.cu.a∧o.cu.a≤1099511627776
 epoch:1≤o.cu.b∧o.cu.b≤1099511627776
 boots:1≤o.cu.c∧o.cu.c≤1099511627776
 clock:0≤o.clock∧o.clock≤1099511627776
theorem Qet{m:DM}{ck:Int}(hc:0≤ck∧ck≤1099511627776){o:OpM}(h:opG m ck=.inr o):Qd9 o:=by
 unfold opG at h;split at h
 ·cases h
 unfold Qcg at h;split at h
 ·cases h
 rename_i hl
 have hli:=Qc6 (Classical.not_not.1 hl);unfold Qcq at h;split at h
 ·cases h
 unfold QdC at h;split at h
 ·cases h
 split at h
 ·cases h
 unfold Qdf at h;split at h
 ·cases h
 rename_i hs
 have hm:=Qcn (Classical.not_not.1 hs);obtain rfl:=Sum.inr.inj h
 rename_i l _ _ _ _ _
 have e1:∀x:Int,0≤x→x≤1099511627776→IntKind.i64.wrap (x+1)=x+1:=fun x h1 h2=>QAB _ (by omega) (by omega)
 generalize Csr.loadM (QDk m).1=ld at *
 obtain⟨⟨a,b,c⟩,e⟩:=ld;simp only[QPz]at hm hli⊢;rw[e1 b (by omega) (by omega),e1 c (by omega) (by omega)]at hm;simp only[QYz,okN,QdN,Bool.and_eq_true,decide_eq_true_eq]at hm;refine⟨hli.1,?_,?_,QXt _ hc _⟩
 ·show 1≤IntKind.i64.wrap (b+1)∧IntKind.i64.wrap (b+1)≤_;rw[e1 b (by omega) (by omega)];omega
 ·show 1≤IntKind.i64.wrap (c+1)∧IntKind.i64.wrap (c+1)≤_;rw[e1 c (by omega) (by omega)];omega
def QDM(every now:Int):QH5:=if QJC every now then ⟨0,0,0⟩ else ⟨every,now,0⟩
abbrev Qa2(c:Cfg)(o:OpM)(k:Kn)(J:Od.JM)(lost:Int)(m:SeM):GM:=
 ⟨c.timeout,c.retries,c.window,c.resend,c.span,c.keep,c.tags,k,o.saved,o.cu.a,o.cu.b,o.cu.c,J,m,QPt c.timeout c.retries,Pn.planM c.tags,(Pn.planM c.tags).map fun p=>QDM p.every o.clock,List.replicate c.tags.length ⟨false,0,0⟩,List.replicate c.tags.length ⟨0,false⟩,[],-1,none,o.clock,lost,false,[],true⟩
abbrev QT1(c:Cfg)(o:OpM):GS×SeM:=QGJ o.clock o.cu.c o.cu.b ⟨o.k,0,o.J,[],true⟩ (QG9 c.window c.resend o.cu.b o.cu.a)
def QdT(c:Cfg)(o:OpM):(DM×Int) ⊕ (GM×List QCS):=
 if (QT1 c o).1.ok=true then .inr (Qa2 c o (QT1 c o).1.k (QT1 c o).1.J (QT1 c o).1.lost (QT1 c o).2,(QT1 c o).1.os)
 else .inl ((QT1 c o).1.k.dev,10)
def QNQ(c:Cfg)(d:DM)(now:Int):(DM×Int) ⊕ (GM×List QCS):=
 if QYY c≠0 then .inl (d,QYY c)
 else if now<0∨now>1099511627776 then .inl (d,3)
 else match opG d now with
 | .inl x=>.inl x
 | .inr o=>QdT c o
theorem QZB{c:Cfg}(hc:QYY c=0){o:OpM}(ho:Qd9 o)(k:Kn)(J:Od.JM)(lost:Int)(m:SeM):MOk (Qa2 c o k J lost m):=by
 have hz:=QPe hc;have hp:=Pn.planK_ok hz.2.2.2.2.2.2 c.tags.length (Nat.le_refl _);have hl:=Pn.allE_len hz.2.2.2.2.2.2
 have he:Pn.planM c.tags=Pn.planK c.tags c.tags.length:=by unfold Pn.planM Pn.planL;rw[if_pos hz.2.2.2.2.2.2]
 refine⟨ho.clock,?_,?_,?_,?_,?_,?_,?_,?_,?_⟩
 ·show i64 c.keep;exact⟨by omega,by omega⟩
 ·show ((Pn.planM c.tags).map _).length=_;exact List.length_map ..
 ·show (Pn.planM c.tags).length≤64;rw[he];omega
 ·intro p hq;have hq:p∈Pn.planM c.tags:=hq;rw[he]at hq;exact Nat.le_trans (hp.2 p hq).2.2.2.2 hl
 ·refine⟨List.length_replicate,fun h hh=>?_⟩;rw[List.eq_of_mem_replicate hh];exact⟨⟨by decide,by decide⟩,⟨by decide,by decide⟩⟩
 ·exact List.length_replicate
 ·exact⟨Nat.zero_le _,fun x hx=>by cases hx⟩
 ·exact⟨Int.le_refl _,by show (-1:Int)<_;omega⟩
 ·exact fun q=>absurd q (by show ¬(0:Int)<0;decide)
abbrev gw0(c:Cfg)(s2:Sl)(d:Option Addr)(now:Int):GwC:=⟨c.timeout,c.retries,c.window,c.resend,c.span,c.keep,s2,d,none,none,0,0,0,0,none,none,none,nilS,nilS,nilS,nilS,nilS,-1,none,now,0,false⟩
abbrev gw1(c:Cfg)(s2:Sl)(d:Option Addr)(o:OpM)(lg ix jr up li:Option Addr)(pl sl he al:Sl)(lost:Int):GwC:=⟨c.timeout,c.retries,c.window,c.resend,c.span,c.keep,s2,d,lg,ix,o.saved,o.cu.a,o.cu.b,o.cu.c,jr,up,li,pl,sl,he,al,nilS,-1,none,o.clock,lost,false⟩
theorem QXH(clock:Int)(s:GS)(id:Int):(QCX clock s id).os.length≤s.os.length+1:=by
 unfold QCX QPH
 (repeat' split)<;>first|exact Nat.le_succ _|(show (s.os++QDg _ _).length≤_;rw[List.length_append];exact Nat.add_le_add_left (QJO _ _) _)
theorem QOa(clock:Int):∀(ids:List Int) (s:GS),(QDG clock ids s).os.length≤s.os.length+ids.length
 | [],s=>Nat.le_refl _
 | id::ids,s=>by
  have h1:=QXH clock s id;have h2:=QOa clock ids (QCX clock s id);unfold QDG;rw[List.length_cons];split<;>omega
theorem QYm(clock boots epoch:Int)(s:GS)(m:SeM)(hm:QSx m)(hl:s.J.L.length≤1024):(QGJ clock boots epoch s m).1.os.length≤s.os.length+1040:=by
 have hle:(Od.leftJ s.J.L).length≤1024:=by
  unfold Od.leftJ;rw[List.length_map];exact Nat.le_trans (List.length_filter_le _ _) hl
 unfold QGJ;split
 ·unfold QLL;have h2:=QOa clock (Od.leftJ s.J.L) (QHu clock s ⟨4,0,ByteArray.empty,boots,0⟩);have h3:(QHu clock s ⟨4,0,ByteArray.empty,boots,0⟩).os.length=s.os.length:=rfl;rw[h3]at h2
  generalize QDG clock (Od.leftJ s.J.L) (QHu clock s ⟨4,0,ByteArray.empty,boots,0⟩)=t at *
  split
  ·unfold QP8
   (try simp only)
   split
   ·show t.os.length≤_;omega
   ·have:=QJf hm epoch clock (QB2 t.k.dev t.k.log).2.1;show (t.os++_).length≤_;rw[List.length_append];omega
  ·show t.os.length≤_;omega
 ·exact Nat.le_add_right _ _
abbrev BoT:List Sh:=[.ptr,.slice,.I]
def QPK(d:Option Addr)(r:(DM×Int) ⊕ (GM×List QCS))(t:Tup BoT)(Bs:List HP):Prop:=
 (∃m e,r=.inl (m,e)∧e≠0∧t.1=none∧t.2.1=nilS∧t.2.2.1=e∧Bs=[QAC d m]) ∨
 (∃M os g a,r=.inr (M,os)∧(MOk M∧os.length≤2000)∧t.1=some ⟨g,0,none⟩∧a.dev=d∧t.2.2.1=0∧Bs=QNG t.2.1 os::GwL g a M)
theorem Qfh{φ:WP}(h:Ent B (QQB nilS []::As) φ):Ent B As φ:=by
 refine QAd CE ?_;refine QBQ [Ar CE ⟨none,0,0⟩ []] (QQB nilS []) (fun g hg=>⟨[],rfl,?_⟩) h;obtain⟨a,b,p1,p2,p3,p4,p5⟩:=hg;exact⟨a,b,p1,⟨b,fun _=>none,trivial,trivial,fun _=>.inr rfl,Sub.refl _,fun _ _ e=>by cases e⟩,p3,p4,p5⟩
theorem QX8(c:Cfg)(s:Sl)(hsc:s.n≤s.c)(d:Option Addr)(m:DM)(now:Int) :
  Ct Pr 22 [c.v s,.pointer d,.I now] (.tup [none,none,none]) BoT [QAC d m] (GTab.and (RAr Pn.TG s c.tags)) (QPK d (QNQ c m now)):=by
 refine QAg (ss:=BoT) (φ:=fun K=>(QGa _ _ _ _ _ _ _ _ _ K).1) (fun h=>cf _ rfl (by kernel_rfl) h) fun B hr=>?_;show Ent B [QAC d m] (QGa c.timeout c.retries c.window c.resend c.span c.keep s d now fun x0 x1 x2=>Ret B (ss:=BoT) (QPK d (QNQ c m now)) (x0,x1,x2,()));obtain⟨hg,hts⟩:=hr;haveI:=QKI hg;haveI:Fro B s Pn.TG c.tags:=⟨hts⟩;obtain⟨N,hN⟩:∃N,QNQ c m now=N:=⟨_,rfl⟩;rw[hN];unfold QNQ at hN
 have bad:∀{m':DM}{e:Int}{R:List HP},N=.inl (m',e)→e≠0→Ent B (QAC d m'::R) (Ret B (ss:=BoT) (QPK d N) (none,⟨none,0,0⟩,e,())):=by
  intro m' e R h1 h2;exact QAK [QAC d m'] (QAD (.inl ⟨m',e,h1,h2,rfl,rfl,rfl,rfl⟩))
 unfold QGa mf;dsimp only;refine QAL fun b=>?_;iterate 6 (refine xgq ?_)
 refine QAE (s:=.slice) (x:=s) (hv:=rfl) (h:=?_);refine xcl (QR4 c s) rdb ?_;rintro⟨r,_⟩ _ ⟨hr1,rfl⟩;simp only at hr1;subst hr1;refine QAy (ca1 (xif (fun h=>?_) (fun h=>?_)))
 ·have h:QYY c≠0:=by simpa using h
  rw[if_pos h]at hN;exact QAU [QAC d m] (bad hN.symm h)
 have hc0:QYY c=0:=by simpa using h
 rw[if_neg (by rw[hc0];decide)]at hN;have hz:=QPe hc0;have hl64:=Pn.allE_len hz.2.2.2.2.2.2;refine xif (fun h=>?_) (fun h=>?_)
 ·rw[if_pos (by simpa using h)]at hN;exact QAU [QAC d m] (bad hN.symm (by decide))
 have hnow:¬(now<0∨now>1099511627776):=by
  simp at h;omega
 rw[if_neg hnow]at hN;refine QAL fun b1=>?_;refine QAe (Q:=Ar Pn.TG ⟨some ⟨b1,0,none⟩,0,0⟩ []) 0 (fun g hg=>⟨[],QAm [] 0 rfl rfl hg⟩) ?_;refine QAE (s:=.slice) (x:=s) (hv:=rfl) (h:=?_);refine QHb (E:=Pn.TG) (s:=⟨some ⟨b1,0,none⟩,0,0⟩) (y:=s) (ys:=c.tags) (hb:=by simp;omega) (h:=fun s2=>?_);rw[List.nil_append];refine xsq ?_;iterate 6 (refine xgq ?_)
 refine QAE (s:=.slice) (x:=s2) (hv:=rfl) (h:=QAL fun b2=>?_);refine QVd (QQC b2 (gw0 c s2 d now) [] nilS ?_);refine xcl (QYc b2 (gw0 c s2 d now) [] m) rdb ?_;unfold QZi;have hopk:=@Qet m now (by omega)
 generalize opG m now=og at *
 rintro⟨r1,_⟩ _ h;rcases h with⟨m',e,rfl,h2,h3,rfl⟩|⟨o,lg,ix,jr,rfl,h2,hk,rfl⟩
 ·simp only at h3 hN;subst h3;exact QA5 (ca1 (QBz (by simpa using h2) (bad hN.symm h2)))
 simp only at h2 hN;subst h2;have hop:=hopk rfl;refine QQA (ca1 (QBF rfl (QAO (xgq (xgq (xgf (h:=xgf (h:=?_))))))))
 have hso:QII c.window c.resend o.cu.b o.cu.a=true:=by
  unfold QII;have h1:=hop.epoch;have h2:=hop.acked;simp only[Bool.and_eq_true,decide_eq_true_eq];omega
 refine xcl (QTJ c.window c.resend o.cu.b o.cu.a) rdb ?_;rintro⟨q,r2,_⟩ _ h;rcases h with⟨_,_,rfl⟩|⟨h,_,_,_⟩
 case inr=>rw[hso]at h;cases h
 refine QA5 (ca2 (xgs (gw1 c s2 d o lg ix jr q none nilS nilS nilS nilS 0) (h:=xgq (xgq ?_))));refine xcl (QTy c.timeout c.retries ⟨hz.1,hz.2.1⟩) rdb ?_;rintro⟨q1,r3,_⟩ _ ⟨_,rfl⟩;refine QA5 (ca2 (xgs (gw1 c s2 d o lg ix jr q q1 nilS nilS nilS nilS 0) (h:=QAE (s:=.slice) (x:=s2) (hv:=rfl) (h:=?_))));refine xcl (Pn.Plan_spec s2 c.tags) rdb ?_;rintro⟨s5,r4,_⟩ _ ⟨_,rfl⟩;refine QA5 (ca2 (xgs (gw1 c s2 d o lg ix jr q q1 s5 nilS nilS nilS 0) (h:=xgf (h:=?_))));have hpl:(Pn.planM c.tags).length≤64:=(QZB hc0 hop o.k o.J 0 (QG9 c.window c.resend o.cu.b o.cu.a)).polls
 generalize hpm:Pn.planM c.tags=ps at *
 have hpn:∀(f:QBe),Pn.OPolls s5 ps f→ps.length=s5.n:=fun f hf=>by
  obtain⟨rs,hl,x,y,⟨zs,hx⟩,_⟩:=hf;rw[←hl,List.length_map];exact hx.read.1
 refine QBx 1 (P1:=Pn.OPolls s5 ps) hpn fun hpn=>?_;refine QAd SLT ?_;refine QAK [GwB b2 (gw1 c s2 d o lg ix jr q q1 s5 nilS nilS nilS 0) [],QA7 d lg ix o.k,Od.JObj d jr o.J,QBA q (QG9 c.window c.resend o.cu.b o.cu.a),QA3 q1 (QPt c.timeout c.retries),Ar Pn.TG s2 c.tags,Pn.OPolls s5 ps,Ar SLT nilS [],Blk b (c.cs s2)] ?_;refine QBP (fun n (x:Int) As'=>∃(k:Nat) (sl:Sl),x=(k:Int)∧n=ps.length - k∧k≤ps.length∧As'=[GwB b2 (gw1 c s2 d o lg ix jr q q1 s5 sl nilS nilS 0) [],QA7 d lg ix o.k,Od.JObj d jr o.J,QBA q (QG9 c.window c.resend o.cu.b o.cu.a),QA3 q1 (QPt c.timeout c.retries),Ar Pn.TG s2 c.tags,Pn.OPolls s5 ps,Ar SLT sl ((ps.take k).map fun p=>QDM p.every o.clock),Blk b (c.cs s2)]) ps.length ⟨0,nilS,rfl,rfl,by omega,rfl⟩ ?_;rintro n x As' K ⟨k,sl,rfl,rfl,hk,rfl⟩ hK;refine QAA (fun h1=>?_) (fun h1=>?_)
 ·have h1:(k:Int)<(s5.n:Int):=h1
  have hkl:k<ps.length:=by omega
  obtain⟨p,hp⟩:∃p,ps[k]? = some p:=⟨_,List.getElem?_eq_getElem hkl⟩
  have htk:(ps.take (k+1)).map (fun p=>QDM p.every o.clock)=(ps.take k).map (fun p=>QDM p.every o.clock)++[QDM p.every o.clock]:=by
   rw[List.take_add_one,hp,List.map_append];rfl
  refine QdP (s:=s5) hp fun rows sl0 hrr hrq=>?_;refine QAH (E:=Pn.PR) (xs:=rows) (s:=s5) (k:=k) (h1:=(List.getElem?_eq_some_iff.1 hrq).1) (h:=fun _ _=>?_);refine QAN (E:=Pn.PR) (xs:=rows) hrq (h:=?_);iterate 5 (refine QAZ (E:=Pn.PR) (xs:=rows) hrq (h:=?_))
  refine QAL fun b3=>?_;iterate 6 (refine xsq ?_)
  refine QAO (xgq (xgf (h:=?_)));refine QVH (s:=s5) hrr hrq ?_
  have tail:∀{b4:Nat}{R:List HP},Ent B (Blk b4 [.I (QDM p.every o.clock).every,.I (QDM p.every o.clock).next,.I (QDM p.every o.clock).fails]::GwB b2 (gw1 c s2 d o lg ix jr q q1 s5 sl nilS nilS 0) []::QA7 d lg ix o.k::Od.JObj d jr o.J::QBA q (QG9 c.window c.resend o.cu.b o.cu.a)::QA3 q1 (QPt c.timeout c.retries)::Ar Pn.TG s2 c.tags::Pn.OPolls s5 ps::Ar SLT sl ((ps.take k).map fun p=>QDM p.every o.clock)::Blk b (c.cs s2)::R)
    (QFX<|QCe (some ⟨b2,0,none⟩) fun a8=>QAq .slice (a8.add 18) fun s8=>QAq (.I) ⟨b4,0,none⟩ fun(n25:Int)=>QAq (.I) ⟨b4,1,none⟩ fun(n26:Int)=>QAq (.I) ⟨b4,2,none⟩ fun(n27:Int)=>QDE [.I n25,.I n26,.I n27] 165 fun b5=>QSR Pr 114 114 114 (s8.v) (.slice ((some ⟨b5,0,none⟩)) 1 1) fun s9=>QCe (some ⟨b2,0,none⟩) fun a9=>QBG (a9.add 18) (s9.v)<|K (IntKind.i64.wrap ((k:Int)+1))):=by
   intro b4 R;refine QAO (xgf (h:=xgq (xgq (xgq (QAL fun b5=>?_)))));refine QAU [Blk b5 [.I (QDM p.every o.clock).every,.I (QDM p.every o.clock).next,.I (QDM p.every o.clock).fails],Ar SLT sl ((ps.take k).map fun p=>QDM p.every o.clock)] ?_;refine QEc (E:=SLT) (QDM p.every o.clock) (hb:=by rw[List.length_map,List.length_take];omega) (h:=fun s9=>?_);rw[←htk];refine xgs (gw1 c s2 d o lg ix jr q q1 s5 s9 nilS nilS 0) (h:=?_);rw[QAF k (by omega)];exact QAK [GwB b2 (gw1 c s2 d o lg ix jr q q1 s5 s9 nilS nilS 0) [],QA7 d lg ix o.k,Od.JObj d jr o.J,QBA q (QG9 c.window c.resend o.cu.b o.cu.a),QA3 q1 (QPt c.timeout c.retries),Ar Pn.TG s2 c.tags,Pn.OPolls s5 ps,Ar SLT s9 ((ps.take (k+1)).map fun p=>QDM p.every o.clock),Blk b (c.cs s2)] (hK (ps.length - (k+1)) _ _ (by omega) ⟨k+1,s9,rfl,rfl,by omega,rfl⟩)
  have hval:∀{r5 r6 r7 r8:Int}{u:Unit},(r5,r6,r7,r8,u)=(if QJC p.every o.clock then (0,0,0,3,()) else (p.every,o.clock,0,0,()))→r5=(QDM p.every o.clock).every∧r6=(QDM p.every o.clock).next∧r7=(QDM p.every o.clock).fails:=by
   intro r5 r6 r7 r8 u h;unfold QDM;split at h
   ·rename_i hq;rw[if_pos hq];cases h;exact⟨rfl,rfl,rfl⟩
   ·rename_i hq;rw[if_neg hq];cases h;exact⟨rfl,rfl,rfl⟩
  refine QXT ?_ ?_
  ·refine xcl (QKP p.every o.clock) rdb ?_;rintro⟨r5,r6,r7,r8,_⟩ _ ⟨ht,rfl⟩;obtain⟨rfl,rfl,rfl⟩:=hval ht;refine QAy (ca4 (QAL fun b4=>?_));iterate 3 (refine xsq ?_)
   refine QAU (Blk b4 [.I (QDM p.every o.clock).every,.I (QDM p.every o.clock).next,.I (QDM p.every o.clock).fails]::[GwB b2 (gw1 c s2 d o lg ix jr q q1 s5 sl nilS nilS 0) [],QA7 d lg ix o.k,Od.JObj d jr o.J,QBA q (QG9 c.window c.resend o.cu.b o.cu.a),QA3 q1 (QPt c.timeout c.retries),Ar Pn.TG s2 c.tags,Pn.OPolls s5 ps,Ar SLT sl ((ps.take k).map fun p=>QDM p.every o.clock),Blk b (c.cs s2)]) ?_;exact tail
  ·refine QAL fun b4=>?_;refine xcl (QKP p.every o.clock) rdb ?_;rintro⟨r5,r6,r7,r8,_⟩ _ ⟨ht,rfl⟩;obtain⟨rfl,rfl,rfl⟩:=hval ht;refine QAy (ca4 ?_);iterate 3 (refine xsq ?_)
   refine QAU (Blk b4 [.I (QDM p.every o.clock).every,.I (QDM p.every o.clock).next,.I (QDM p.every o.clock).fails]::[GwB b2 (gw1 c s2 d o lg ix jr q q1 s5 sl nilS nilS 0) [],QA7 d lg ix o.k,Od.JObj d jr o.J,QBA q (QG9 c.window c.resend o.cu.b o.cu.a),QA3 q1 (QPt c.timeout c.retries),Ar Pn.TG s2 c.tags,Pn.OPolls s5 ps,Ar SLT sl ((ps.take k).map fun p=>QDM p.every o.clock),Blk b (c.cs s2)]) ?_;exact tail
 ·have h1:¬(k:Int)<(s5.n:Int):=h1
  have hke:k=ps.length:=by omega
  rw[show ps.take k=ps by rw[hke,List.take_length]];refine QAE (s:=.slice) (x:=s2) (hv:=rfl) (h:=?_);refine QAU [Ar Pn.TG s2 c.tags] (QCm (E:=Pn.TG) (xs:=c.tags) s2 fun hsn _=>?_)
  have hsz:(s2.n:Int).toNat=c.tags.length:=by omega
  refine QRK HLT (by omega) (by omega) (h:=fun bh=>?_);refine xgs (gw1 c s2 d o lg ix jr q q1 s5 sl ⟨some ⟨bh,0,none⟩,(s2.n:Int).toNat,(s2.n:Int).toNat⟩ nilS 0) (h:=?_);refine QAE (s:=.slice) (x:=s2) (hv:=rfl) (h:=?_);refine QRK ALT (by omega) (by omega) (h:=fun ba=>?_);refine xgs (gw1 c s2 d o lg ix jr q q1 s5 sl ⟨some ⟨bh,0,none⟩,(s2.n:Int).toNat,(s2.n:Int).toNat⟩ ⟨some ⟨ba,0,none⟩,(s2.n:Int).toNat,(s2.n:Int).toNat⟩ 0) (h:=?_);rw[hsz,show (ALT.zero:AlV)=⟨0,false⟩ from rfl,show (HLT.zero:QLG)=⟨false,0,0⟩ from rfl];generalize (⟨some ⟨bh,0,none⟩,c.tags.length,c.tags.length⟩:Sl)=he;generalize (⟨some ⟨ba,0,none⟩,c.tags.length,c.tags.length⟩:Sl)=al;refine QBx 5 (P1:=Od.JObj d jr o.J) (fun f hf=>hf.1) fun hJ=>?_;refine QBx 6 (P1:=QBA q (QG9 c.window c.resend o.cu.b o.cu.a)) (fun f hf=>hf.1) fun hSe=>?_;have hbo:=QYm o.clock o.cu.c o.cu.b ⟨o.k,0,o.J,[],true⟩ (QG9 c.window c.resend o.cu.b o.cu.a) hSe hJ.len;refine xcl (QWq b2 (gw1 c s2 d o lg ix jr q q1 s5 sl he al 0) ⟨o.k,0,o.J,[],true⟩ rfl rfl (Nat.zero_le _) (QG9 c.window c.resend o.cu.b o.cu.a)) rdb ?_;unfold QdT at hN;have hbok:=QZB hc0 hop;rw[show QGJ o.clock o.cu.c o.cu.b ⟨o.k,0,o.J,[],true⟩ (QG9 c.window c.resend o.cu.b o.cu.a)=QT1 c o from rfl]at hbo;generalize hbg:QT1 c o=bg at hN hbo;rw[show QGJ (gw1 c s2 d o lg ix jr q q1 s5 sl he al 0).clock (gw1 c s2 d o lg ix jr q q1 s5 sl he al 0).boots (gw1 c s2 d o lg ix jr q q1 s5 sl he al 0).epoch ⟨o.k,0,o.J,[],true⟩ (QG9 c.window c.resend o.cu.b o.cu.a)=bg from hbg];rintro⟨r13,_⟩ _ ⟨hr13,rfl⟩;simp only at hr13;refine Qc4 (ca1 (xif (fun h=>?_) (fun h=>?_)))
  ·have hno:¬bg.1.ok=true:=fun q=>by rw[if_pos q]at hr13;rw[hr13]at h;cases h
   rw[if_neg hno]at hN hr13;subst hr13;refine QGn 1 fun hk=>?_;exact bad hN.symm (by decide)
  ·have hyes:bg.1.ok=true:=by
    rcases Bool.eq_false_or_eq_true bg.1.ok with q|q
    ·exact q
    ·rw[if_neg (by rw[q];decide)]at hr13;rw[hr13]at h;cases h
   rw[if_pos hyes]at hN hr13;subst hr13;refine xgw 0 fun out=>QAQ ?_;rw[QAz];refine QAE (s:=.slice) (x:=out) (hv:=rfl) (h:=QAQ ?_);rw[QAz];refine xsq (QVd (QQC b2 (gw1 c s2 d o lg ix jr q q1 s5 sl he al bg.1.lost) [] nilS ?_));refine QBQ [] (QXi none none) (fun _ _=>rfl) ?_;refine Qfh ?_;have hN2:=hN.symm
   rw[←hpm]at *
   exact QAK (QNG out bg.1.os::GwL b2 ⟨s2,d,lg,ix,jr,q,q1,s5,sl,he,al,nilS,none⟩ (Qa2 c o bg.1.k bg.1.J bg.1.lost bg.2)) (QAD (.inr ⟨_,_,b2,⟨s2,d,lg,ix,jr,q,q1,s5,sl,he,al,nilS,none⟩,hN2,⟨hbok _ _ _ _,by have:bg.1.os.length≤0+1040:=hbo;omega⟩,rfl,rfl,rfl,rfl⟩))
end Go.Cx
namespace Go.Cx
open Go Go.Cf
set_option linter.unusedVariables false
set_option maxRecDepth 100000
theorem QPx(u:UInt8)(l:List UInt8):(QWS u l).2.length≤1000:=by
 by_cases h:l.length≤300
 ·exact QXv u l h
 ·unfold QWS;split
  ·exact Nat.zero_le _
  ·split
   ·exact Nat.zero_le _
   ·rename_i q
    have:=QLN (Classical.not_not.1 q);omega
theorem QWU(l:List UInt8):(QUF l).length≤l.length+4:=by
 unfold QUF;simp[Qaw]
theorem QVN(p:PkV)(h:pkE p p.body.length=0):(QXM p).length≤2000:=by
 have hb:p.body.length≤1024:=by
  unfold pkE at h;repeat' split at h
  all_goals first|(exfalso;revert h;decide)|omega
 have h1:=QWU (QfU p)
 have h2:(QfU p).length≤100+p.body.length:=by
  unfold QfU QdH;repeat' split
  all_goals simp only[List.length_append,List.length_cons,QO3,List.length_nil]
  all_goals omega
 unfold QXM;omega
structure QSa(P:QCS→Prop):Prop where
 line:∀fr:List UInt8,fr.length≤1000→P (1,fr)
 up:∀p,∀o∈upM p,P o
 tcp:∀t u b,P (3,(Qe7 t u b).2)
theorem QNu:QSa fun o=>o.2.length≤1000000:=by
 refine⟨fun fr h=>by show fr.length≤_;omega,fun p o ho=>?_,fun t u b=>?_⟩
 ·unfold upM at ho;split at ho
  ·rename_i h
   rw[List.mem_singleton.1 ho];have:=QVN p h;show (QXM p).length≤_;omega
  ·cases ho
 ·show (Qe7 t u b).2.length≤_;unfold Qe7;split
  ·exact Nat.zero_le _
  ·rename_i q
   have:=QLN (Classical.not_not.1 q);simp[QY3];omega
structure Qfp where
 timeout:Int
 retries:Int
 window:Int
 resend:Int
 span:Int
 keep:Int
 ts:List Pn.Tag
 epoch:Int
 boots:Int
 polls:List Pn.Poll
 stopped:Bool
def QKa(M:GM):Qfp:=⟨M.timeout,M.retries,M.window,M.resend,M.span,M.keep,M.ts,M.epoch,M.boots,M.polls,M.stopped⟩
structure OsP(P:QCS→Prop)(M N:GM):Prop where
 os:(∀o∈M.os,P o)→∀o∈N.os,P o
 fr:M.ma.fr.length≤1000→N.ma.fr.length≤1000
 fx:QKa N=QKa M
variable {P:QCS→Prop}{M N K:GM}
theorem OsP.refl:OsP P M M:=⟨id,id,rfl⟩
theorem OsP.trans(h:OsP P M N)(g:OsP P N K):OsP P M K:=⟨fun a=>g.os (h.os a),fun a=>g.fr (h.fr a),g.fx.trans h.fx⟩
theorem OsP.of(h1:N.os=M.os)(h2:N.ma.fr=M.ma.fr)(h3:QKa N=QKa M):OsP P M N:=⟨fun a=>by rw[h1];exact a,fun a=>by rw[h2];exact a,h3⟩
theorem OsP.app{l:List QCS}(h1:N.os=M.os++l)(hl:∀o∈l,P o)(h2:N.ma.fr=M.ma.fr)(h3:QKa N=QKa M):OsP P M N:=⟨fun a=>by
 rw[h1];intro o ho
 exact (List.mem_append.1 ho).elim (a o) (hl o),fun a=>by rw[h2];exact a,h3⟩
theorem OsP.line(hP:QSa P){fr:List UInt8}(hf:fr.length≤1000)(h1:N.os=M.os++[(1,fr)])(h2:N.ma.fr=fr)(h3:QKa N=QKa M):OsP P M N:=⟨fun a=>by
 rw[h1];intro o ho;rcases List.mem_append.1 ho with q|q
 ·exact a o q
 ·rw[List.mem_singleton.1 q];exact hP.line fr hf,fun _=>by rw[h2];exact hf,h3⟩
theorem QP6{f:GM→GM}(hf:OsP P M (f M)):OsP P M (QTl M f):=by
 unfold QTl;split
 ·exact hf
 ·exact OsP.refl
theorem QSK(hP:QSa P)(M:GM)(o:QXR):OsP P M (QHa M o):=by
 unfold QHa;split
 ·unfold QYV QRw
  (repeat' split)<;>exact OsP.of rfl rfl rfl
 ·unfold QZa;split
  ·exact OsP.of rfl rfl rfl
  split
  ·exact OsP.app rfl (hP.up _) rfl rfl
  ·unfold QfP;generalize QBn _ _ _ _=n;by_cases h:n.ok=true
   ·refine OsP.app (l:=QDg _ (QQs o)) (by simp only;rw[if_pos h]) (hP.up _) rfl rfl
   ·refine OsP.of ?_ rfl rfl;simp only;rw[if_neg h]
theorem QVm(hP:QSa P)(M:GM):OsP P M (QDb M):=by
 unfold QDb;split
 ·unfold QOJ;split
  ·exact OsP.of rfl rfl rfl
  split
  ·exact OsP.app rfl (hP.up _) rfl rfl
  ·unfold QR8;split
   ·unfold QY1;split
    ·exact OsP.line hP (QPx _ _) rfl rfl rfl
    ·exact OsP.of rfl rfl rfl
   ·exact OsP.of rfl rfl rfl
 ·unfold QLl;split
  ·exact OsP.refl
  split
  ·exact OsP.line hP (QPx _ _) rfl rfl rfl
  ·exact OsP.refl
theorem QOg(hP:QSa P)(epoch clock:Int)(lg:LM)(m:SeM):∀o∈(QCV epoch clock lg m).2,P o:=by
 intro o ho;obtain⟨n,_,hn⟩:=List.mem_flatMap.1 ho;exact hP.up _ o hn
theorem Qaa(m:MaM)(now:Int):((QDf m now).1=[]∨(QDf m now).1=m.fr)∧(QDf m now).2.2.fr=m.fr:=by
 unfold QDf;repeat' split
 ·exact⟨.inl rfl,rfl⟩
 ·exact⟨.inl rfl,rfl⟩
 ·exact⟨.inr rfl,rfl⟩
theorem QYo(hP:QSa P)(M:GM)(hf:M.ma.fr.length≤1000)(now:Int):OsP P M (QJh M now):=by
 have h0:OsP P M (tick0 M now):=by
  obtain⟨h1,h2⟩:=Qaa M.ma (QCn M.clock now);unfold tick0;by_cases h:0<(QDf M.ma (QCn M.clock now)).1.length
  ·refine OsP.line hP hf (by simp only;rw[if_pos h];exact h1.elim (fun e=>by rw[e]at h;exact absurd h (by decide)) (fun e=>by rw[e])) h2 rfl
  ·exact OsP.of (by simp only;rw[if_neg h]) h2 rfl
 have h1:OsP P M (QDa M now):=by
  unfold QDa;split
  ·exact h0.trans (QSK hP _ _)
  ·exact h0
 have h2:OsP P (QDa M now) (QDn (QDa M now)):=by
  unfold QDn;split
  ·exact OsP.refl
  ·exact QVm hP _
 have h4:∀M:GM,OsP P M (QKb M):=fun M=>by
  unfold QKb
  (repeat' split)<;>exact OsP.of rfl rfl rfl
 have h5:∀M:GM,OsP P M (QW5 M):=fun M=>by
  unfold QW5;split
  ·exact OsP.of rfl rfl rfl
  ·exact OsP.app rfl (QOg hP _ _ _ _) rfl rfl
 unfold QJh;exact (((h1.trans (QP6 h2)).trans (QP6 (OsP.of rfl rfl rfl))).trans (QP6 (h4 _))).trans (QP6 (h5 _))
theorem QV0(hP:QSa P)(M:GM)(p:PkV):OsP P M (QG6 M p):=by
 unfold QG6
 (repeat' split)<;>first|exact OsP.refl|exact OsP.app rfl (hP.up _) rfl rfl|exact OsP.of rfl rfl rfl
theorem QY4(hP:QSa P)(M:GM)(xs:List UInt8):OsP P M (QJm M xs):=by
 unfold QJm;split
 ·exact OsP.refl
 split
 ·split
  ·unfold Qfa;split
   ·exact OsP.of rfl rfl rfl
   ·exact OsP.app rfl (QOg hP _ _ _ _) rfl rfl
  ·exact OsP.of rfl rfl rfl
 split
 ·exact QV0 hP M _
 ·exact OsP.refl
theorem QVs(hP:QSa P)(M:GM)(xs:List UInt8):OsP P M (QUm M xs):=by
 unfold QUm;split
 ·exact OsP.refl
 split
 ·unfold QZN;split
  ·exact OsP.of rfl rfl rfl
  ·refine OsP.app rfl (fun o ho=>?_) rfl rfl;rw[List.mem_singleton.1 ho];exact hP.tcp _ _ _
 ·exact OsP.of rfl rfl rfl
theorem QYu(M:GM)(nm:ByteArray):OsP P M (QaZ M nm):=by
 unfold QaZ QgL
 (repeat' split)<;>first|exact OsP.refl|exact OsP.of rfl rfl rfl
theorem QaS(m:MaM)(xs:List UInt8):(QFr m xs).2.fr=m.fr:=by
 rcases (QUS m xs).2 with⟨_,h⟩|⟨_,_,h⟩<;>rw[h]
theorem QYb(hP:QSa P)(M:GM)(xs:List UInt8):OsP P M (QXb M xs):=by
 have h0:OsP P M { M with ma:=(QFr M.ma xs).2 }:=OsP.of rfl (QaS _ _) rfl;unfold QXb;split
 ·exact h0.trans (QSK hP _ _)
 ·exact h0
theorem QZt(hP:QSa P)(M:GM)(hf:M.ma.fr.length≤1000)(e:EvV):OsP P M (QId M e):=by
 unfold QId;split
 ·exact QYo hP M hf _
 split
 ·exact QYb hP M _
 split
 ·exact QY4 hP M _
 split
 ·exact QVs hP M _
 split
 ·exact QYu M _
 ·exact OsP.refl
theorem QKs(M:GM)(hf:M.ma.fr.length≤1000)(e:EvV):QKa { (QBZ M e).1 with stopped:=M.stopped }=QKa M∧(QBZ M e).1.ma.fr.length≤1000∧∀o∈(QBZ M e).2,o.2.length≤1000000:=by
 unfold QBZ;split
 ·exact⟨rfl,hf,fun o ho=>by cases ho⟩
 ·have h:=QZt QNu { M with os:=[] } hf e;have hx:=h.fx;refine⟨?_,h.fr hf,?_⟩
  ·unfold QKa at hx⊢;injection hx with e1 e2 e3 e4 e5 e6 e7 e8 e9 e10 e11
   (try simp only)
   rw[e1,e2,e3,e4,e5,e6,e7,e8,e9,e10]
  ·(try simp only)
   split
   ·exact h.os (fun o ho=>by cases ho)
   ·intro o ho;cases ho
end Go.Cx
namespace Go.Cx
open Go Go.Cf
set_option linter.unusedVariables false
set_option maxRecDepth 100000
theorem QdG(M:GM)(o:QXR):(QHa M o).m=M.m:=by
 unfold QHa;split
 ·unfold QYV QRw
  (repeat' split)<;>rfl
 ·unfold QZa;split
  ·rfl
  split
  ·rfl
  ·rfl
theorem QZ8(M:GM):(QDb M).m=M.m:=by
 unfold QDb;split
 ·unfold QOJ;split
  ·rfl
  split
  ·rfl
  ·unfold QR8 QY1
   (repeat' split)<;>rfl
 ·unfold QLl
  (repeat' split)<;>rfl
theorem QdL(M:GM)(now:Int):(QDa M now).m=M.m:=by
 unfold QDa;split
 ·rw[QdG];rfl
 ·rfl
theorem QaM{M:GM}(h:QSx M.m)(now:Int):(QJh M now).os.length≤M.os.length+19:=by
 have h1:=QVK M now;have m1:=QdL M now;unfold QJh
 generalize QDa M now=T at *
 have hs:∀{K:GM}{f:GM→GM}{a c:Nat},K.os.length≤a→((f K).os.length≤K.os.length+c)→(QTl K f).os.length≤a+c:=by
  intro K f a c h1 h2;unfold QTl;split<;>omega
 have hm:∀{K:GM}{f:GM→GM},QSx K.m→((f K).m=K.m)→QSx (QTl K f).m:=by
  intro K f h1 h2;unfold QTl;split
  ·rw[h2];exact h1
  ·exact h1
 have a1:=hs (K:=T) (f:=QDn) h1 (c:=1) (by
  unfold QDn;split
  ·omega
  ·exact QRe T)
 have b1:=hm (K:=T) (f:=QDn) (by rw[m1];exact h) (by
  unfold QDn;split
  ·rfl
  ·exact QZ8 T)
 have a2:=hs (f:=QM3) a1 (c:=0) (Nat.le_refl _);have b2:=hm (f:=QM3) b1 rfl;have a3:=hs (f:=QKb) a2 (c:=0) (by unfold QKb;(repeat' split)<;>exact Nat.le_refl _);have b3:=hm (f:=QKb) b2 (by unfold QKb;(repeat' split)<;>rfl)
 have a4:=hs (f:=QW5) a3 (c:=16) (by
  unfold QW5;split
  ·exact Nat.le_add_right _ _
  ·unfold QVh;simp only[List.length_append]
   exact Nat.add_le_add_left (QJf b3 _ _ _) _)
 omega
theorem Qcp{m:SeM}(h:QSx m)(now e s:Int)(hn:0≤now∧now≤1099511627776):QSx (QZ2 m now e s).1:=by
 obtain⟨h1,h2,h3,h4,h5,h6,h7,h8⟩:=h;unfold QZ2;repeat' split
 all_goals first|exact⟨h1,h2,h3,h4,h5,h6,h7,h8⟩|skip
 all_goals refine⟨h1,h2,h3,?_,?_,?_,?_,?_⟩
 all_goals simp only
 all_goals omega
theorem Qam{M:GM}(h:QSx M.m)(hc:0≤M.clock∧M.clock≤1099511627776)(xs:List UInt8):(QJm M xs).os.length≤M.os.length+19:=by
 unfold QJm;split
 ·omega
 split
 ·have h2:=Qcp h M.clock (QAi xs).1.epoch (QAi xs).1.seq hc;split
  ·unfold Qfa;split
   ·exact Nat.le_add_right _ _
   ·unfold QVh;simp only[List.length_append];exact Nat.add_le_add_left (Nat.le_trans (QJf h2 _ _ _) (by omega)) _
  ·exact Nat.le_add_right _ _
 split
 ·unfold QG6
  (repeat' split)<;>first|exact Nat.le_add_right _ _|(show (M.os++QDg _ _).length≤_;rw[List.length_append];exact Nat.add_le_add_left (Nat.le_trans (QJO _ _) (by omega)) _)
 ·omega
theorem Qaf{M:GM}(h:QSx M.m)(hc:0≤M.clock∧M.clock≤1099511627776)(e:EvV):(QId M e).os.length≤M.os.length+19:=by
 unfold QId;split
 ·exact QaM h _
 split
 ·unfold QXb;split
  ·exact Nat.le_trans (QU4 _ _) (by show M.os.length+1≤_;omega)
  ·exact Nat.le_add_right _ _
 split
 ·exact Qam h hc _
 split
 ·unfold QUm;split
  ·omega
  split
  ·unfold QZN;split
   ·exact Nat.le_add_right _ _
   ·show (M.os++[_]).length≤_;rw[List.length_append];exact Nat.add_le_add_left (by simp) _
  ·exact Nat.le_add_right _ _
 split
 ·unfold QaZ QgL
  (repeat' split)<;>exact Nat.le_add_right _ _
 ·omega
theorem Qa5{M:GM}(h:QSx M.m)(hc:0≤M.clock∧M.clock≤1099511627776)(e:EvV):(QBZ M e).2.length≤19:=by
 unfold QBZ;split
 ·exact Nat.zero_le _
 ·(try simp only)
  split
  ·have:=Qaf (M:={ M with os:=[] }) h hc e;simpa using this
  ·exact Nat.zero_le _
theorem QXp{P:QCS→Prop}(hP:QSa P)(clock:Int)(s:GS)(id:Int)(h:∀o∈s.os,P o):∀o∈(QCX clock s id).os,P o:=by
 unfold QCX QPH
 (repeat' split)<;>first|exact h|(intro o ho;exact (List.mem_append.1 ho).elim (h o) (hP.up _ o))
theorem QQ0{P:QCS→Prop}(hP:QSa P)(clock:Int):∀(ids:List Int) (s:GS),(∀o∈s.os,P o)→∀o∈(QDG clock ids s).os,P o
 | [],s,h=>h
 | id::ids,s,h=>by
  have h1:=QXp hP clock s id h;unfold QDG;split
  ·exact QQ0 hP clock ids _ h1
  ·exact h1
theorem QaL{P:QCS→Prop}(hP:QSa P)(clock boots epoch:Int)(s:GS)(m:SeM)(h:∀o∈s.os,P o):∀o∈(QGJ clock boots epoch s m).1.os,P o:=by
 unfold QGJ;split
 ·unfold QLL;have h2:=QQ0 hP clock (Od.leftJ s.J.L) (QHu clock s ⟨4,0,ByteArray.empty,boots,0⟩) h;split
  ·unfold QP8
   (try simp only)
   split
   ·exact h2
   ·intro o ho;exact (List.mem_append.1 ho).elim (h2 o) (QOg hP _ _ _ _ o)
  ·exact h2
 ·exact h
end Go.Cx
