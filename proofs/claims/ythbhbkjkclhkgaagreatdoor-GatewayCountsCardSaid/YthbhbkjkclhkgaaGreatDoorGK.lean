/-
The gateway: all that the device holds is opened.
-/
import Derived.Test.YthbhbkjkclhkgaaGreatDoorG8
import Derived.Test.YthbhbkjkclhkgaaGreatDoorMX
set_option linter.unusedVariables false
set_option maxRecDepth 100000
set_option synthInstance.maxSize 4000
set_option synthInstance.maxHeartbeats 200000
open Go Go.Cf
namespace Go.Cx
variable {B:QBJ}{As F:List HP}
structure OpM where
 k:Kn
 J:Od.JM
 cu:Cu
 saved:Int
 clock:Int
def QiP(l:LM)(n c:Int):Int:=if (QD1 (QCc l n).1).2=0 then (if (QD1 (QCc l n).1).1.time>c then (QD1 (QCc l n).1).1.time else c) else c
def QWL(l:LM)(c:Int)(k:Nat):Int:=(List.range k).foldl (fun c (i:Nat)=>QiP l (l.lo+i) c) c
theorem QTP(l:LM)(c:Int)(k:Nat):QWL l c (k+1)=QiP l (l.lo+k) (QWL l c k):=by
 unfold QWL;rw[Kc,Uu];rfl
theorem QZX(l:LM){c:Int}(h:0<=c/\c<=1099511627776):∀k:Nat,0<=QWL l c k/\QWL l c k<=1099511627776
 | 0=>by unfold QWL;exact h
 | k+1=>by
  have b:=QZX l h k;rw[QTP];unfold QiP;split
  ·rename_i a
   have:=Qam (QOd a);split<;>omega
  ·exact b
abbrev QMM(cu:Cu):Cu:=⟨cu.a,IntKind.i64.wrap (cu.b+1),IntKind.i64.wrap (cu.c+1)⟩
def QZl(m:DM)(l:LM)(L:Od.JL)(cu:Cu)(a:Int):(DM×Int) ⊕ OpM:=
 if (Csr.saveM m (QMM cu)).2≠0 then .inl (Csr.saveM m (QMM cu))
 else .inr ⟨⟨(Csr.saveM m (QMM cu)).1,l,QJQ l⟩,⟨false,L⟩,QMM cu,l.next,QWL l a (l.next - l.lo).toNat⟩
def QgJ(m:DM)(l:LM)(L:Od.JL)(cu:Cu)(b:Int):(DM×Int) ⊕ OpM:=
 if (QAj m idxNew).2≠0 then .inl (QAj m idxNew)
 else if cu.a<l.lo\/cu.a>l.safe then .inl ((QAj m idxNew).1,30)
 else QZl (QAj m idxNew).1 l L cu b
def QgG(m:DM)(l:LM)(cu:Cu)(a:Int):(DM×Int) ⊕ OpM:=match (Od.openJ m).2.2 with
 | none=>.inl ((Od.openJ m).1,(Od.openJ m).2.1)
 | some L=>QgJ (Od.openJ m).1 l L cu a
def QfK(m:DM)(l:LM)(a:Int):(DM×Int) ⊕ OpM:=
 if (Csr.loadM m).2≠0 then .inl (m,(Csr.loadM m).2) else QgG m l (Csr.loadM m).1 a
def opG(m:DM)(a:Int):(DM×Int) ⊕ OpM:=match (QD8 m).2.1 with
 | none=>.inl ((QD8 m).1,(QD8 m).2.2)
 | some l=>QfK (QD8 m).1 l a
theorem QYB{m:DM}(h:(Od.openJ m).2.2=none):(Od.openJ m).2.1≠0:=by
 unfold Od.openJ at h|-;split at h
 ·rename_i h1;rw[We h1];show (10:Int)≠0;decide
 rename_i h1
 rw[Wb h1];split at h
 ·cases h
 rename_i b
 rw[Wb b];split at h
 ·show (30:Int)≠0;decide
 ·split at h
  ·cases h
  ·rename_i a;rw[Wb a];exact a
theorem QU9{m:DM}(hI:DInv m)(n len:Nat):Touch m (Od.mendJ m n len).1 fun k=>k≠Od.cmdN.toList:=by
 have t:=QMe hI Od.cmdN n;unfold Od.mendJ;split
 ·split
  ·exact t
  ·exact t.trans ((QCF t.inv Od.cmdN).mono fun _ _=>trivial)
 ·exact (QCF hI Od.cmdN).mono fun _ _=>trivial
theorem QUL{m:DM}(hI:DInv m):Touch m (Od.openJ m).1 fun k=>k≠Od.cmdN.toList:=by
 unfold Od.openJ;split
 ·exact Touch.refl hI _
 split
 ·exact Touch.refl hI _
 split
 ·exact Touch.refl hI _
 ·split<;>exact QU9 hI _ _
abbrev GwC.opened(c:GwC)(o:OpM)(d e jr:Ac):GwC:={ c with log:=d,idx:=e,jr:=jr,saved:=o.saved,acked:=o.cu.a,epoch:=o.cu.b,boots:=o.cu.c,clock:=o.clock }
def QbB(g:Nat)(c:GwC)(os:List QCj)(r:(DM×Int) ⊕ OpM)(t:Tup [.I])(Bs:List HP):Prop:=
 (∃m' e,r=.inl (m',e)/\e≠0/\t.1=e/\Bs=[QAA c.dev m']) \/
 (∃o a b jr,r=.inr o/\t.1=0/\KOk o.k/\Bs=[GwB g (c.opened o a b jr) os,QA7 c.dev a b o.k,Od.JObj c.dev jr o.J])
theorem xg3{g:Nat}{c:GwC}{os:List QCj}[f:GwF g As c os F]{x y z:Int}{K:WP}(h:Ent B (GwB g { c with acked:=x,epoch:=y,boots:=z } os::F) K) :
  Ent B As (QC3 (some ⟨g,0,none⟩) fun a5=>QBE (a5.add 11) (.I x)<|QBE (a5.add 12) (.I y)<|QBE (a5.add 13) (.I z)<|K):=by
 refine Ent.perm f.perm (xgw 0 fun a=>QAO ?_);rw[QA8,QA8,QA8];refine xsq (xsq (xsq ?_));exact QRa g { c with acked:=x,epoch:=y,boots:=z } os a h
theorem Qj4{g:Nat}{c:GwC}{os:List QCj}[f:GwF g As c os F]{K:Int->Int->Int->WP}(h:Ent B As (K c.acked c.epoch c.boots)) :
  Ent B As (QC3 (some ⟨g,0,none⟩) fun a2=>QAn (.I) (a2.add 11) fun(a:Int)=>QAn (.I) (a2.add 12) fun(b:Int)=>QAn (.I) (a2.add 13) fun(d:Int)=>K a b d):=by
 refine Ent.perm f.perm (xgw 0 fun e=>QAO ?_);rw[QA8,QA8,QA8];exact xgq (xgq (xgq (QRa g c os e (Ent.perm f.perm.symm h))))
theorem Qbj(g:Nat)(c:GwC)(os:List QCj)(m:DM) :
  Ct Pr 57 [.pointer (some ⟨g,0,none⟩)] .one [.I] [GwB g c os,QAA c.dev m] GTab (QbB g c os (opG m c.clock)):=by
 refine sp1 (QEN _) fun B X=>?_;haveI:=QKj X;obtain⟨N,d⟩:∃N,opG m c.clock=N:=⟨_,rfl⟩;rw[d];unfold opG at d;unfold QEN mf;dsimp only;refine QB6 1 (P1:=QAA c.dev m) (fun f Y=>Y.1) fun hI=>?_
 have bad:∀{m':DM}{e:Int}{R:List HP},N=.inl (m',e)->e≠0->Ent B (QAA c.dev m'::R) (Ret B (ss:=[.I]) (fun t Bs=>QbB g c os N t Bs) (e,())):=by
  intro m' e R h1 p;exact QAK [QAA c.dev m'] (QAD (.inl ⟨m',e,h1,p,rfl,rfl⟩))
 refine xgf (h:=?_);have J:=@Qag m hI;refine xcl (QYX c.dev m) rdb ?_;unfold openPost
 generalize QD8 m=o at *
 obtain⟨y,lo,a9⟩:=o;simp only at d J;rintro⟨q,r,_⟩ _ h;rcases h with⟨l,b,rfl,p,v,u,rfl⟩|⟨rfl,p,v,u,rfl⟩
 case inr=>
  simp only at d p v u;subst v u;refine QAz (ca2 (xgs { c with log:=none } (h:=QCC (Si p) ?_)));exact QAb [QAA c.dev y] (bad d.symm p)
 simp only at d p v u;subst p v u;have O:=(J rfl).1;refine QBK (ca2 (xgs { c with log:=some ⟨b,0,none⟩ } (h:=QBH rfl ?_)));unfold QfK at d;refine xgf (h:=?_);refine xcl (Csr.Load_spec c.dev y) rdb ?_
 generalize Csr.loadM y=a3 at *
 obtain⟨cu,a'⟩:=a3;simp only at d;rintro⟨b0,b1,b2,Z,_⟩ _ ⟨rfl,rfl,rfl,u,rfl⟩;simp only at u;subst u;refine QAz (ca4 (xg3 (h:=xif (fun h=>?_) (fun h=>?_))))
 ·have h:Z≠0:=Si h
  rw[We h]at d;exact QAb [QAA c.dev y] (bad d.symm h)
 rw[Wb (Si h)]at d;unfold QgG at d;refine xgf (h:=?_);have Q:=QUL O.inv;have S:=@QYB y;refine xcl (Od.Open_spec c.dev y) rdb ?_;unfold Od.openPost
 generalize Od.openJ y=a4 at *
 obtain⟨E,b3,b4⟩:=a4;simp only at d Q S;rintro⟨jr,b5,_⟩ _ h;rcases h with⟨L,rfl,u,rfl⟩|⟨rfl,v,u,rfl⟩
 case inr=>
  simp only at d v u;subst v u;have j:=S rfl;refine QAz (ca2 (xgs { c with log:=some ⟨b,0,none⟩,acked:=cu.a,epoch:=cu.b,boots:=cu.c,jr:=none } (h:=QCC (Si j) ?_)));exact QAb [QAA c.dev E] (bad d.symm j)
 simp only at d u;subst u;have T:=O.touch Q fun s _=>QZe s.n;refine QBK (ca2 (xgs { c with log:=some ⟨b,0,none⟩,acked:=cu.a,epoch:=cu.b,boots:=cu.c,jr:=jr } (h:=QBH rfl ?_)));unfold QgJ at d;refine QAP (xgf (h:=xgf (h:=?_)));have U:=QH6 T.inv idxNew;refine xcl (QYM c.dev (some ⟨b,0,none⟩) E l) rdb ?_
 generalize QAj E idxNew=a5 at *
 obtain⟨w,b6⟩:=a5;simp only at d U;rintro⟨i,G,_⟩ _ ⟨h1,p,v⟩;simp only at h1 p v;subst h1;by_cases j:G≠0
 ·obtain⟨rfl,rfl⟩:=p j;rw[We j]at d;refine QBK (ca2 (xgs { c with log:=some ⟨b,0,none⟩,acked:=cu.a,epoch:=cu.b,boots:=cu.c,jr:=jr,idx:=none } (h:=QCC (Si j) ?_)));exact QAb [QAA c.dev w] (bad d.symm j)
 obtain⟨_,rfl⟩:=v (O2.1 j);rw[Wb j]at d;have j:G=0:=O2.1 j;subst j;have D:=T.touch U fun s _=>QTm s.n;have a0:=XOk'.open D;refine QLn (ca2 (xgs { c with log:=some ⟨b,0,none⟩,acked:=cu.a,epoch:=cu.b,boots:=cu.c,jr:=jr,idx:=i } (h:=QBH rfl ?_)));refine QAP ?_;refine QAV (fun(x:Bool) As'=>(x=true↔(cu.a<l.lo\/cu.a>l.safe))/\As'=[GwB g { c with log:=some ⟨b,0,none⟩,acked:=cu.a,epoch:=cu.b,boots:=cu.c,jr:=jr,idx:=i } os,QAQ (some ⟨b,0,none⟩) c.dev l,QAA c.dev w,QAs i c.dev (some ⟨b,0,none⟩) (QJQ l),Od.JObj c.dev jr ⟨false,L⟩]) (fun K C=>?_) ?_
 ·refine xgf (h:=xgf (h:=?_));refine xd1 (QEl (some ⟨b,0,none⟩) c.dev l) (xgc (h:=QAB (fun h=>?_) (fun h=>?_)))
  ·exact QAK [GwB g { c with log:=some ⟨b,0,none⟩,acked:=cu.a,epoch:=cu.b,boots:=cu.c,jr:=jr,idx:=i } os,QAQ (some ⟨b,0,none⟩) c.dev l,QAA c.dev w,QAs i c.dev (some ⟨b,0,none⟩) (QJQ l),Od.JObj c.dev jr ⟨false,L⟩] (C _ _ ⟨⟨fun _=>.inl h,fun _=>rfl⟩,rfl⟩)
  ·refine xgf (h:=xgf (h:=?_));refine xd1 (QGl (some ⟨b,0,none⟩) c.dev l) (xgc (h:=?_));refine QAK [GwB g { c with log:=some ⟨b,0,none⟩,acked:=cu.a,epoch:=cu.b,boots:=cu.c,jr:=jr,idx:=i } os,QAQ (some ⟨b,0,none⟩) c.dev l,QAA c.dev w,QAs i c.dev (some ⟨b,0,none⟩) (QJQ l),Od.JObj c.dev jr ⟨false,L⟩] (C _ _ ⟨?_,rfl⟩);simp only[Bool.false_or,Wq];exact⟨.inr,fun q=>q.resolve_left h⟩
 rintro x _ ⟨hx,rfl⟩;refine xif (fun h=>?_) (fun h=>?_)
 ·rw[We (hx.1 h)]at d;exact QAb [QAA c.dev w] (bad d.symm Dc)
 rw[Wb (fun q=>by rw[hx.2 q]at h;cases h)]at d;unfold QZl at d;refine xgf (h:=xd1 (QF9 (some ⟨b,0,none⟩) c.dev l) (xgs { c with log:=some ⟨b,0,none⟩,acked:=cu.a,epoch:=cu.b,boots:=cu.c,jr:=jr,idx:=i,saved:=l.next } (h:=?_)));refine xgf (h:=xd1 (QEl (some ⟨b,0,none⟩) c.dev l) ?_);have hi:=D.log;have b9:=hi.next;have b':=hi.lo;refine QAK [GwB g { c with log:=some ⟨b,0,none⟩,acked:=cu.a,epoch:=cu.b,boots:=cu.c,jr:=jr,idx:=i,saved:=l.next } os,QAQ (some ⟨b,0,none⟩) c.dev l,QAA c.dev w,QAs i c.dev (some ⟨b,0,none⟩) (QJQ l),Od.JObj c.dev jr ⟨false,L⟩] ?_;refine QBa (fun n (x:Int) As'=>∃k:Nat,x=l.lo+k/\n=(l.next - l.lo).toNat - k/\k<=(l.next - l.lo).toNat/\As'=[GwB g { c with log:=some ⟨b,0,none⟩,acked:=cu.a,epoch:=cu.b,boots:=cu.c,jr:=jr,idx:=i,saved:=l.next,clock:=QWL l c.clock k } os,QAQ (some ⟨b,0,none⟩) c.dev l,QAA c.dev w,QAs i c.dev (some ⟨b,0,none⟩) (QJQ l),Od.JObj c.dev jr ⟨false,L⟩]) (l.next - l.lo).toNat ⟨0,by simp,rfl,Om,rfl⟩ ?_;rintro n x As' K ⟨k,rfl,rfl,b7,rfl⟩ C;refine xgf (h:=xd1 (QF9 (some ⟨b,0,none⟩) c.dev l) (QAB (fun h1=>?_) (fun h1=>?_)))
 ·refine xgf (h:=?_);refine xcl (QFu (some ⟨b,0,none⟩) c.dev l (l.lo+k) ⟨Om,Om⟩) rdb ?_;rintro⟨s,e,_⟩ _ ⟨_,rfl⟩;refine QBK (ca2 (QFt 1 (Qjr (by have:=QJe hi (l.lo+k);omega) (QAL fun a7=>?_))));iterate 5 (refine xsq ?_)
  refine QBh (fun As'=>As'=[GwB g { c with log:=some ⟨b,0,none⟩,acked:=cu.a,epoch:=cu.b,boots:=cu.c,jr:=jr,idx:=i,saved:=l.next,clock:=QWL l c.clock (k+1) } os,QAQ (some ⟨b,0,none⟩) c.dev l,QAA c.dev w,QAs i c.dev (some ⟨b,0,none⟩) (QJQ l),Od.JObj c.dev jr ⟨false,L⟩]) (fun a8 z=>?_) ?_
  ·rw[QTP]at z;unfold QiP at z;refine xif (fun p=>?_) (fun p=>?_)
   ·rw[We (eq_of_beq p)]at z;refine QAP (xgf (h:=xgq (xgs { c with log:=some ⟨b,0,none⟩,acked:=cu.a,epoch:=cu.b,boots:=cu.c,jr:=jr,idx:=i,saved:=l.next,clock:=if (QD1 (QCc l (l.lo+k)).1).1.time>QWL l c.clock k then (QD1 (QCc l (l.lo+k)).1).1.time else QWL l c.clock k } (h:=?_))));exact QGO (z _ rfl)
   ·rw[Wb (Si p)]at z;exact QGO (z _ rfl)
  ·rintro _ rfl;rw[QAC _ Om Om];exact C ((l.next - l.lo).toNat - (k+1)) _ _ Om ⟨k+1,Om,rfl,Om,rfl⟩
 ·have a1:k=(l.next - l.lo).toNat:=Om
  subst a1;refine xgf (h:=xgs { c with log:=some ⟨b,0,none⟩,acked:=cu.a,epoch:=IntKind.i64.wrap (cu.b+1),boots:=cu.c,jr:=jr,idx:=i,saved:=l.next,clock:=QWL l c.clock (l.next - l.lo).toNat } (h:=?_));refine xgf (h:=xgs { c with log:=some ⟨b,0,none⟩,acked:=cu.a,epoch:=IntKind.i64.wrap (cu.b+1),boots:=IntKind.i64.wrap (cu.c+1),jr:=jr,idx:=i,saved:=l.next,clock:=QWL l c.clock (l.next - l.lo).toNat } (h:=?_));refine QAP (xgf (h:=Qj4 (h:=?_)));have V:=QMb D.inv (QMM cu);refine xcl (Csr.Save_spec c.dev w (QMM cu)) rdb ?_
  generalize Csr.saveM w (QMM cu)=a6 at *
  obtain⟨A,b8⟩:=a6;simp only at d V;rintro⟨H,_⟩ _ ⟨he,rfl⟩;simp only at he;subst he;refine QAz (ca1 ?_);by_cases j:H≠0
  ·rw[We j]at d;exact QAb [QAA c.dev A] (bad d.symm j)
  rw[Wb j]at d;have j:H=0:=O2.1 j;subst j;have a2:=D.touch V fun s _=>⟨QSI s.n,QeT s.n⟩;have W:KOk ⟨A,l,QJQ l⟩:=⟨a2,a0⟩;refine QCh c.dev (some ⟨b,0,none⟩) i ⟨A,l,QJQ l⟩ W ?_;subst d;exact QAK [GwB g (c.opened ⟨⟨A,l,QJQ l⟩,⟨false,L⟩,QMM cu,l.next,QWL l c.clock (l.next - l.lo).toNat⟩ (some ⟨b,0,none⟩) i jr) os,QA7 c.dev (some ⟨b,0,none⟩) i ⟨A,l,QJQ l⟩,Od.JObj c.dev jr ⟨false,L⟩] (QAD (.inr ⟨_,_,_,_,rfl,rfl,W,rfl⟩))
structure Cfg where
 timeout:Int
 retries:Int
 window:Int
 resend:Int
 span:Int
 keep:Int
 tags:List Pn.Tag
abbrev Cfg.v(c:Cfg)(s:Sl):Value:=.agg #[.I c.timeout,.I c.retries,.I c.window,.I c.resend,.I c.span,.I c.keep,s.v]
abbrev Cfg.cs(c:Cfg)(s:Sl):Ad:=[.I c.timeout,.I c.retries,.I c.window,.I c.resend,.I c.span,.I c.keep,s.v]
def QhU(c:Cfg):Bool:=decide (1<=c.timeout/\c.timeout<=1048576/\0<=c.retries/\c.retries<=5/\1<=c.window/\c.window<=16/\1<=c.resend/\c.resend<=1048576/\1<=c.span/\c.span<=1048576/\1<=c.keep/\c.keep<=16)
def QZ2(c:Cfg):Int:=if QhU c=true then (Pn.allE c.tags).1 else 32
theorem Qf7(v a b:Int):Ct Pr 171 [.I v,.I a,.I b] .one [.bool] [] emp (fun t Bs=>t.1=(decide (a<=v)&&decide (v<=b))/\Bs=[]):=by
 refine sp1 (QLC _ _ _) fun B c=>?_;unfold QLC mf;dsimp only;exact QAD ⟨rfl,rfl⟩
theorem Qcc(c:Cfg)(s:Sl):Ct Pr 114 [c.v s] .one [.bool] [] emp (fun t Bs=>t.1=QhU c/\Bs=[]):=by
 refine sp1 (QO5 _ _ _ _ _ _ _) fun B e=>?_;unfold QO5 mf;dsimp only
 have d:∀{As:List HP}{K:Bool->WP}(v a b:Int),(∀x:Bool,x=(decide (a<=v)&&decide (v<=b))->Ent B As (K x))->Ent B As (QAX Pr 171 [.I v,.I a,.I b] .one [.bool] K):=by
  intro As K v a b h;refine QAS (Qf7 v a b) rdb ?_;rintro⟨x,_⟩ _ ⟨hx,rfl⟩;exact QA2 (ca1 (h x hx))
 refine QAL fun b=>?_;repeat' (first|refine QAM ?_|refine xgq ?_|refine d _ _ _ fun x hx=>?_|refine QCC rfl ?_|refine QBH rfl ?_|refine xif (fun h0=>?_) (fun h0=>?_))
 all_goals
  refine QAd (l:=[]) (QAD ⟨?_,rfl⟩);unfold QhU;rw[Oo];simp_all<;>omega
theorem QRr(c:Cfg)(s:Sl):Ct Pr 56 [c.v s] .one [.I] [] (RAr Pn.TG s c.tags) (fun t Bs=>t.1=QZ2 c/\Bs=[]):=by
 refine sp1 (QLX _ _ _ _ _ _ _) fun B a=>?_;haveI:Fro B s Pn.TG c.tags:=⟨a⟩;unfold QLX mf;dsimp only;refine QAL fun b=>?_;iterate 7 (refine xgq ?_)
 refine QAS (Qcc c s) rdb ?_;rintro⟨x,_⟩ _ ⟨hx,rfl⟩;obtain rfl:x=QhU c:=hx;refine QA2 (ca1 (xif (fun h=>QAd (l:=[]) (QAD ⟨?_,rfl⟩)) (fun h=>xgq ?_)))
 ·unfold QZ2;rw[Wb (Si h)]
 refine QAS (Pn.CheckAll_spec s c.tags) rdb ?_;rintro⟨e,at_,_⟩ _ ⟨he,d,rfl⟩;refine QA2 (ca2 (QAd (l:=[]) (QAD ⟨?_,rfl⟩)));unfold QZ2;rw[We (Si h)];exact he
theorem QQK{c:Cfg}(h:QZ2 c=0):(1<=c.timeout/\c.timeout<=1048576)/\(0<=c.retries/\c.retries<=5)/\(1<=c.window/\c.window<=16)/\(1<=c.resend/\c.resend<=1048576)/\(1<=c.span/\c.span<=1048576)/\(1<=c.keep/\c.keep<=16)/\(Pn.allE c.tags).1=0:=by
 unfold QZ2 at h;split at h
 ·rename_i a
  unfold QhU at a;simp only[Wq]at a;omega
 ·cases h
theorem Qfa{m:DM}(h:(Csr.loadM m).2=0):(0<=(Csr.loadM m).1.a/\(Csr.loadM m).1.a<=1099511627776)/\(0<=(Csr.loadM m).1.b/\(Csr.loadM m).1.b<=1099511627776)/\(0<=(Csr.loadM m).1.c/\(Csr.loadM m).1.c<=1099511627776):=by
 have z:(0<=Csr.cu0.a/\Csr.cu0.a<=1099511627776)/\(0<=Csr.cu0.b/\Csr.cu0.b<=1099511627776)/\(0<=Csr.cu0.c/\Csr.cu0.c<=1099511627776):=Dc
 unfold Csr.loadM Csr.decodeC at h|-;repeat' split
 all_goals first|exact z|skip
 (try simp only)
 omega
theorem Qfz{m:DM}{c:Cu}(h:(Csr.saveM m c).2=0):QbP c=true:=by
 unfold Csr.saveM at h;split at h
 ·cases h
 ·rename_i q;simpa using q
structure Qhk(o:OpM):Prop where
 acked:0<=o.cu.a/\o.cu.a<=1099511627776
 epoch:1<=o.cu.b/\o.cu.b<=1099511627776
 boots:1<=o.cu.c/\o.cu.c<=1099511627776
 clock:0<=o.clock/\o.clock<=1099511627776
theorem Qh7{m:DM}{g:Int}(hc:0<=g/\g<=1099511627776){o:OpM}(h:opG m g=.inr o):Qhk o:=by
 unfold opG at h;split at h
 ·cases h
 unfold QfK at h;split at h
 ·cases h
 rename_i hl
 have i:=Qfa (O2.1 hl);unfold QgG at h;split at h
 ·cases h
 unfold QgJ at h;split at h
 ·cases h
 split at h
 ·cases h
 unfold QZl at h;split at h
 ·cases h
 rename_i j
 have f:=Qfz (O2.1 j);obtain rfl:=Sum.inr.inj h
 rename_i l _ _ _ _ _
 have d:∀x:Int,0<=x->x<=1099511627776->IntKind.i64.wrap (x+1)=x+1:=fun x h1 n=>QAC _ Om Om
 generalize Csr.loadM (QD8 m).1=k at *
 obtain⟨⟨a,b,c⟩,e⟩:=k;simp only[QMM]at f i|-;rw[d b Om Om,d c Om Om]at f;simp only[QbP,okN,QfE,Wf,Wq]at f;refine⟨i.1,?_,?_,QZX _ hc _⟩
 ·show 1<=IntKind.i64.wrap (b+1)/\IntKind.i64.wrap (b+1)<=_;rw[d b Om Om];omega
 ·show 1<=IntKind.i64.wrap (c+1)/\IntKind.i64.wrap (c+1)<=_;rw[d c Om Om];omega
def QDa(every now:Int):QI3:=if QJ7 every now then ⟨0,0,0⟩ else ⟨every,now,0⟩
abbrev QbU(c:Cfg)(o:OpM)(k:Kn)(J:Od.JM)(lost:Int)(m:SeM):GM:=
 ⟨c.timeout,c.retries,c.window,c.resend,c.span,c.keep,c.tags,k,o.saved,o.cu.a,o.cu.b,o.cu.c,J,m,QRO c.timeout c.retries,Pn.planM c.tags,(Pn.planM c.tags).map fun p=>QDa p.every o.clock,List.replicate c.tags.length ⟨false,0,0⟩,List.replicate c.tags.length ⟨0,false⟩,[],-1,none,o.clock,lost,false,[],true⟩
abbrev QRd(c:Cfg)(o:OpM):GS×SeM:=QFX o.clock o.cu.c o.cu.b ⟨o.k,0,o.J,[],true⟩ (QG7 c.window c.resend o.cu.b o.cu.a)
def Qc7(c:Cfg)(o:OpM):(DM×Int) ⊕ (GM×List QCj):=
 if (QRd c o).1.ok=true then .inr (QbU c o (QRd c o).1.k (QRd c o).1.J (QRd c o).1.lost (QRd c o).2,(QRd c o).1.os)
 else .inl ((QRd c o).1.k.dev,10)
def QJb(c:Cfg)(d:DM)(now:Int):(DM×Int) ⊕ (GM×List QCj):=
 if QZ2 c≠0 then .inl (d,QZ2 c)
 else if now<0\/now>1099511627776 then .inl (d,3)
 else match opG d now with
 | .inl x=>.inl x
 | .inr o=>Qc7 c o
theorem Qa7{c:Cfg}(hc:QZ2 c=0){o:OpM}(f:Qhk o)(k:Kn)(J:Od.JM)(lost:Int)(m:SeM):MOk (QbU c o k J lost m):=by
 have b:=QQK hc;have e:=Pn.planK_ok b.2.2.2.2.2.2 c.tags.length (Wt _);have hl:=Pn.allE_len b.2.2.2.2.2.2
 have he:Pn.planM c.tags=Pn.planK c.tags c.tags.length:=by unfold Pn.planM Pn.planL;rw[We b.2.2.2.2.2.2]
 refine⟨f.clock,?_,?_,?_,?_,?_,?_,?_,?_,?_⟩
 ·show i64 c.keep;exact⟨Om,Om⟩
 ·show ((Pn.planM c.tags).map _).length=_;exact O3 ..
 ·show (Pn.planM c.tags).length<=64;rw[he];omega
 ·intro p a;have a:p∈Pn.planM c.tags:=a;rw[he]at a;exact Oq (e.2 p a).2.2.2.2 hl
 ·refine⟨O1,fun h d=>?_⟩;rw[List.eq_of_mem_replicate d];exact⟨⟨Dc,Dc⟩,⟨Dc,Dc⟩⟩
 ·exact O1
 ·exact⟨Ua _,fun x hx=>by cases hx⟩
 ·exact⟨Uo _,by show (-1:Int)<_;omega⟩
 ·exact fun q=>absurd q (by show ¬(0:Int)<0;decide)
abbrev gw0(c:Cfg)(a:Sl)(d:Ac)(now:Int):GwC:=⟨c.timeout,c.retries,c.window,c.resend,c.span,c.keep,a,d,none,none,0,0,0,0,none,none,none,nilS,nilS,nilS,nilS,nilS,-1,none,now,0,false⟩
abbrev gw1(c:Cfg)(e:Sl)(d:Ac)(o:OpM)(f g jr up h:Ac)(i j he al:Sl)(lost:Int):GwC:=⟨c.timeout,c.retries,c.window,c.resend,c.span,c.keep,e,d,f,g,o.saved,o.cu.a,o.cu.b,o.cu.c,jr,up,h,i,j,he,al,nilS,-1,none,o.clock,lost,false⟩
theorem QY3(clock:Int)(s:GS)(id:Int):(QCb clock s id).os.length<=s.os.length+1:=by
 unfold QCb QQI
 (repeat' split)<;>first|exact Kl _|(show (s.os++QD7 _ _).length<=_;rw[Wd];exact U2 (QJz _ _) _)
theorem QPD(clock:Int):∀(ids:Ae) (s:GS),(QDW clock ids s).os.length<=s.os.length+ids.length
 | [],s=>Wt _
 | id::ids,s=>by
  have h1:=QY3 clock s id;have a:=QPD clock ids (QCb clock s id);unfold QDW;rw[Wl];split<;>omega
theorem QZZ(clock boots epoch:Int)(s:GS)(m:SeM)(c:QVY m)(hl:s.J.L.length<=1024):(QFX clock boots epoch s m).1.os.length<=s.os.length+1040:=by
 have d:(Od.leftJ s.J.L).length<=1024:=by
  unfold Od.leftJ;rw[O3];exact Oq (Kd _ _) hl
 unfold QFX;split
 ·unfold QMA;have a:=QPD clock (Od.leftJ s.J.L) (QHT clock s ⟨4,0,ByteArray.empty,boots,0⟩);have b:(QHT clock s ⟨4,0,ByteArray.empty,boots,0⟩).os.length=s.os.length:=rfl;rw[b]at a
  generalize QDW clock (Od.leftJ s.J.L) (QHT clock s ⟨4,0,ByteArray.empty,boots,0⟩)=t at *
  split
  ·unfold QQj
   (try simp only)
   split
   ·show t.os.length<=_;omega
   ·have:=QKe c epoch clock (QBP t.k.dev t.k.log).2.1;show (t.os++_).length<=_;rw[Wd];omega
  ·show t.os.length<=_;omega
 ·exact Ue _ _
abbrev BoT:List Sh:=[.ptr,.slice,.I]
def QP6(d:Ac)(r:(DM×Int) ⊕ (GM×List QCj))(t:Tup BoT)(Bs:List HP):Prop:=
 (∃m e,r=.inl (m,e)/\e≠0/\t.1=none/\t.2.1=nilS/\t.2.2.1=e/\Bs=[QAA d m]) \/
 (∃M os g a,r=.inr (M,os)/\(MOk M/\os.length<=2000)/\t.1=some ⟨g,0,none⟩/\a.dev=d/\t.2.2.1=0/\Bs=QP3 t.2.1 os::GwL g a M)
theorem Qik{φ:WP}(h:Ent B (QRc nilS []::As) φ):Ent B As φ:=by
 refine QAf CE ?_;refine QBO [Ar CE ⟨none,0,0⟩ []] (QRc nilS []) (fun g c=>⟨[],rfl,?_⟩) h;obtain⟨a,b,d,k,f,i,j⟩:=c;exact⟨a,b,d,⟨b,fun _=>none,trivial,trivial,fun _=>.inr rfl,Sub.refl _,fun _ _ e=>by cases e⟩,f,i,j⟩
theorem QZt(c:Cfg)(s:Sl)(f1:s.n<=s.c)(d:Ac)(m:DM)(now:Int) :
  Ct Pr 22 [c.v s,.pointer d,.I now] (.tup [none,none,none]) BoT [QAA d m] (GTab.and (RAr Pn.TG s c.tags)) (QP6 d (QJb c m now)):=by
 refine QAm (ss:=BoT) (φ:=fun K=>(QHS _ _ _ _ _ _ _ _ _ K).1) (fun h=>cf _ rfl Kr h) fun B b8=>?_;show Ent B [QAA d m] (QHS c.timeout c.retries c.window c.resend c.span c.keep s d now fun b9 b' c0=>Ret B (ss:=BoT) (QP6 d (QJb c m now)) (b9,b',c0,()));obtain⟨a0,c9⟩:=b8;haveI:=QKj a0;haveI:Fro B s Pn.TG c.tags:=⟨c9⟩;obtain⟨N,A⟩:∃N,QJb c m now=N:=⟨_,rfl⟩;rw[A];unfold QJb at A
 have bad:∀{m':DM}{e:Int}{R:List HP},N=.inl (m',e)->e≠0->Ent B (QAA d m'::R) (Ret B (ss:=BoT) (QP6 d N) (none,⟨none,0,0⟩,e,())):=by
  intro m' e R h1 L;exact QAK [QAA d m'] (QAD (.inl ⟨m',e,h1,L,rfl,rfl,rfl,rfl⟩))
 unfold QHS mf;dsimp only;refine QAL fun b=>?_;iterate 6 (refine xgq ?_)
 refine xgS s ?_;refine xcl (QRr c s) rdb ?_;rintro⟨r,_⟩ _ ⟨b3,rfl⟩;simp only at b3;subst b3;refine QA2 (ca1 (xif (fun h=>?_) (fun h=>?_)))
 ·have h:QZ2 c≠0:=Si h
  rw[We h]at A;exact QAb [QAA d m] (bad A.symm h)
 have Y:QZ2 c=0:=Si h
 rw[Wb (by rw[Y];decide)]at A;have a6:=QQK Y;have e9:=Pn.allE_len a6.2.2.2.2.2.2;refine xif (fun h=>?_) (fun h=>?_)
 ·rw[We (Si h)]at A;exact QAb [QAA d m] (bad A.symm Dc)
 have d0:¬(now<0\/now>1099511627776):=by
  simp at h;omega
 rw[Wb d0]at A;refine QAL fun a8=>?_;refine QAg (Q:=Ar Pn.TG ⟨some ⟨a8,0,none⟩,0,0⟩ []) 0 (fun g a0=>⟨[],QAp [] 0 rfl rfl a0⟩) ?_;refine xgS s ?_;refine QHU (E:=Pn.TG) (s:=⟨some ⟨a8,0,none⟩,0,0⟩) (y:=s) (ys:=c.tags) (hb:=by simp;omega) (h:=fun i=>?_);rw[W6];refine xsq ?_;iterate 6 (refine xgq ?_)
 refine xgS i (QAL fun C=>?_);refine QYI (QRa C (gw0 c i d now) [] nilS ?_);refine xcl (Qbj C (gw0 c i d now) [] m) rdb ?_;unfold QbB;have d1:=@Qh7 m now Om
 generalize opG m now=f0 at *
 rintro⟨e4,_⟩ _ h;rcases h with⟨m',e,rfl,L,b5,rfl⟩|⟨o,l,t,jr,rfl,L,b1,rfl⟩
 ·simp only at b5 A;subst b5;exact QAz (ca1 (QCC (Si L) (bad A.symm L)))
 simp only at L A;subst L;have Z:=d1 rfl;refine QLn (ca1 (QBH rfl (QAP (xgq (xgq (xgf (h:=xgf (h:=?_))))))))
 have d2:QIy c.window c.resend o.cu.b o.cu.a=true:=by
  unfold QIy;have h1:=Z.epoch;have L:=Z.acked;simp only[Wf,Wq];omega
 refine xcl (QUK c.window c.resend o.cu.b o.cu.a) rdb ?_;rintro⟨q,e5,_⟩ _ h;rcases h with⟨_,_,rfl⟩|⟨h,_,_,_⟩
 case inr=>rw[d2]at h;cases h
 refine QAz (ca2 (xgs (gw1 c i d o l t jr q none nilS nilS nilS nilS 0) (h:=xgq (xgq ?_))));refine xcl (QVX c.timeout c.retries ⟨a6.1,a6.2.1⟩) rdb ?_;rintro⟨w,e6,_⟩ _ ⟨_,rfl⟩;refine QAz (ca2 (xgs (gw1 c i d o l t jr q w nilS nilS nilS nilS 0) (h:=xgS i ?_)));refine xcl (Pn.Plan_spec i c.tags) rdb ?_;rintro⟨j,e7,_⟩ _ ⟨_,rfl⟩;refine QAz (ca2 (xgs (gw1 c i d o l t jr q w j nilS nilS nilS 0) (h:=xgf (h:=?_))));have e':(Pn.planM c.tags).length<=64:=(Qa7 Y Z o.k o.J 0 (QG7 c.window c.resend o.cu.b o.cu.a)).polls
 generalize d':Pn.planM c.tags=ps at *
 have a':∀(f:QBs),Pn.OPolls j ps f->ps.length=j.n:=fun f S=>by
  obtain⟨rs,hl,x,y,⟨zs,hx⟩,_⟩:=S;rw[<-hl,O3];exact hx.read.1
 refine QB6 1 (P1:=Pn.OPolls j ps) a' fun a'=>?_;refine QAf SLT ?_;refine QAK [GwB C (gw1 c i d o l t jr q w j nilS nilS nilS 0) [],QA7 d l t o.k,Od.JObj d jr o.J,QBD q (QG7 c.window c.resend o.cu.b o.cu.a),QBF w (QRO c.timeout c.retries),Ar Pn.TG i c.tags,Pn.OPolls j ps,Ar SLT nilS [],Blk b (c.cs i)] ?_;refine QBa (fun n (x:Int) As'=>∃(k:Nat) (z:Sl),x=(k:Int)/\n=ps.length - k/\k<=ps.length/\As'=[GwB C (gw1 c i d o l t jr q w j z nilS nilS 0) [],QA7 d l t o.k,Od.JObj d jr o.J,QBD q (QG7 c.window c.resend o.cu.b o.cu.a),QBF w (QRO c.timeout c.retries),Ar Pn.TG i c.tags,Pn.OPolls j ps,Ar SLT z ((ps.take k).map fun p=>QDa p.every o.clock),Blk b (c.cs i)]) ps.length ⟨0,nilS,rfl,rfl,Om,rfl⟩ ?_;rintro n x As' K ⟨k,z,rfl,rfl,b1,rfl⟩ c';refine QAB (fun h1=>?_) (fun h1=>?_)
 ·have h1:(k:Int)<(j.n:Int):=h1
  have d3:k<ps.length:=Om
  obtain⟨p,b4⟩:∃p,ps[k]? = some p:=⟨_,Wa d3⟩
  have d4:(ps.take (k+1)).map (fun p=>QDa p.every o.clock)=(ps.take k).map (fun p=>QDa p.every o.clock)++[QDa p.every o.clock]:=by
   rw[Og,b4,Uw];rfl
  refine Qfb (s:=j) b4 fun a1 e1 c1 W=>?_;refine QAH (E:=Pn.PR) (xs:=a1) (s:=j) (k:=k) (h1:=(Wc.1 W).1) (h:=fun _ _=>?_);refine QAN (E:=Pn.PR) (xs:=a1) W (h:=?_);iterate 5 (refine QAa (E:=Pn.PR) (xs:=a1) W (h:=?_))
  refine QAL fun e2=>?_;iterate 6 (refine xsq ?_)
  refine QAP (xgq (xgf (h:=?_)));refine QWX (s:=j) c1 W ?_
  have b6:∀{G:Nat}{R:List HP},Ent B (Blk G [.I (QDa p.every o.clock).every,.I (QDa p.every o.clock).next,.I (QDa p.every o.clock).fails]::GwB C (gw1 c i d o l t jr q w j z nilS nilS 0) []::QA7 d l t o.k::Od.JObj d jr o.J::QBD q (QG7 c.window c.resend o.cu.b o.cu.a)::QBF w (QRO c.timeout c.retries)::Ar Pn.TG i c.tags::Pn.OPolls j ps::Ar SLT z ((ps.take k).map fun p=>QDa p.every o.clock)::Blk b (c.cs i)::R)
    (QD5<|QC3 (some ⟨C,0,none⟩) fun c2=>QAn .slice (c2.add 18) fun c3=>QAn (.I) ⟨G,0,none⟩ fun(c4:Int)=>QAn (.I) ⟨G,1,none⟩ fun(c5:Int)=>QAn (.I) ⟨G,2,none⟩ fun(c6:Int)=>QCz [.I c4,.I c5,.I c6] 165 fun a2=>QTn Pr 114 114 114 (c3.v) (.slice ((some ⟨a2,0,none⟩)) 1 1) fun O=>QC3 (some ⟨C,0,none⟩) fun a9=>QBE (a9.add 18) (O.v)<|K (IntKind.i64.wrap ((k:Int)+1))):=by
   intro G R;refine QAP (xgf (h:=xgq (xgq (xgq (QAL fun a2=>?_)))));refine QAb [Blk a2 [.I (QDa p.every o.clock).every,.I (QDa p.every o.clock).next,.I (QDa p.every o.clock).fails],Ar SLT z ((ps.take k).map fun p=>QDa p.every o.clock)] ?_;refine QE4 (E:=SLT) (QDa p.every o.clock) (hb:=by rw[O3,Ww];omega) (h:=fun O=>?_);rw[<-d4];refine xgs (gw1 c i d o l t jr q w j O nilS nilS 0) (h:=?_);rw[QAE k Om];exact QAK [GwB C (gw1 c i d o l t jr q w j O nilS nilS 0) [],QA7 d l t o.k,Od.JObj d jr o.J,QBD q (QG7 c.window c.resend o.cu.b o.cu.a),QBF w (QRO c.timeout c.retries),Ar Pn.TG i c.tags,Pn.OPolls j ps,Ar SLT O ((ps.take (k+1)).map fun p=>QDa p.every o.clock),Blk b (c.cs i)] (c' (ps.length - (k+1)) _ _ Om ⟨k+1,O,rfl,rfl,Om,rfl⟩)
  have b7:∀{T U V X:Int}{u:Unit},(T,U,V,X,u)=(if QJ7 p.every o.clock then (0,0,0,3,()) else (p.every,o.clock,0,0,()))->T=(QDa p.every o.clock).every/\U=(QDa p.every o.clock).next/\V=(QDa p.every o.clock).fails:=by
   intro T U V X u h;unfold QDa;split at h
   ·rename_i a4;rw[We a4];cases h;exact⟨rfl,rfl,rfl⟩
   ·rename_i a4;rw[Wb a4];cases h;exact⟨rfl,rfl,rfl⟩
  refine QZK ?_ ?_
  ·refine xcl (QLO p.every o.clock) rdb ?_;rintro⟨T,U,V,X,_⟩ _ ⟨a5,rfl⟩;obtain⟨rfl,rfl,rfl⟩:=b7 a5;refine QA2 (ca4 (QAL fun G=>?_));iterate 3 (refine xsq ?_)
   refine QAb (Blk G [.I (QDa p.every o.clock).every,.I (QDa p.every o.clock).next,.I (QDa p.every o.clock).fails]::[GwB C (gw1 c i d o l t jr q w j z nilS nilS 0) [],QA7 d l t o.k,Od.JObj d jr o.J,QBD q (QG7 c.window c.resend o.cu.b o.cu.a),QBF w (QRO c.timeout c.retries),Ar Pn.TG i c.tags,Pn.OPolls j ps,Ar SLT z ((ps.take k).map fun p=>QDa p.every o.clock),Blk b (c.cs i)]) ?_;exact b6
  ·refine QAL fun G=>?_;refine xcl (QLO p.every o.clock) rdb ?_;rintro⟨T,U,V,X,_⟩ _ ⟨a5,rfl⟩;obtain⟨rfl,rfl,rfl⟩:=b7 a5;refine QA2 (ca4 ?_);iterate 3 (refine xsq ?_)
   refine QAb (Blk G [.I (QDa p.every o.clock).every,.I (QDa p.every o.clock).next,.I (QDa p.every o.clock).fails]::[GwB C (gw1 c i d o l t jr q w j z nilS nilS 0) [],QA7 d l t o.k,Od.JObj d jr o.J,QBD q (QG7 c.window c.resend o.cu.b o.cu.a),QBF w (QRO c.timeout c.retries),Ar Pn.TG i c.tags,Pn.OPolls j ps,Ar SLT z ((ps.take k).map fun p=>QDa p.every o.clock),Blk b (c.cs i)]) ?_;exact b6
 ·have h1:¬(k:Int)<(j.n:Int):=h1
  have d5:k=ps.length:=Om
  rw[show ps.take k=ps by rw[d5,Uk]];refine xgS i ?_;refine QAb [Ar Pn.TG i c.tags] (QCl (E:=Pn.TG) (xs:=c.tags) i fun e3 _=>?_)
  have hsz:(i.n:Int).toNat=c.tags.length:=Om
  refine QTF HLT Om Om (h:=fun a3=>?_);refine xgs (gw1 c i d o l t jr q w j z ⟨some ⟨a3,0,none⟩,(i.n:Int).toNat,(i.n:Int).toNat⟩ nilS 0) (h:=?_);refine xgS i ?_;refine QTF ALT Om Om (h:=fun b0=>?_);refine xgs (gw1 c i d o l t jr q w j z ⟨some ⟨a3,0,none⟩,(i.n:Int).toNat,(i.n:Int).toNat⟩ ⟨some ⟨b0,0,none⟩,(i.n:Int).toNat,(i.n:Int).toNat⟩ 0) (h:=?_);rw[hsz,show (ALT.zero:AlV)=⟨0,false⟩ from rfl,show (HLT.zero:QM5)=⟨false,0,0⟩ from rfl];generalize (⟨some ⟨a3,0,none⟩,c.tags.length,c.tags.length⟩:Sl)=he;generalize (⟨some ⟨b0,0,none⟩,c.tags.length,c.tags.length⟩:Sl)=al;refine QB6 5 (P1:=Od.JObj d jr o.J) (fun f S=>S.1) fun c7=>?_;refine QB6 6 (P1:=QBD q (QG7 c.window c.resend o.cu.b o.cu.a)) (fun f S=>S.1) fun c8=>?_;have a7:=QZZ o.clock o.cu.c o.cu.b ⟨o.k,0,o.J,[],true⟩ (QG7 c.window c.resend o.cu.b o.cu.a) c8 c7.len;refine xcl (QYV C (gw1 c i d o l t jr q w j z he al 0) ⟨o.k,0,o.J,[],true⟩ rfl rfl (Ua _) (QG7 c.window c.resend o.cu.b o.cu.a)) rdb ?_;unfold Qc7 at A;have d6:=Qa7 Y Z;rw[show QFX o.clock o.cu.c o.cu.b ⟨o.k,0,o.J,[],true⟩ (QG7 c.window c.resend o.cu.b o.cu.a)=QRd c o from rfl]at a7;generalize e0:QRd c o=D at A a7;rw[show QFX (gw1 c i d o l t jr q w j z he al 0).clock (gw1 c i d o l t jr q w j z he al 0).boots (gw1 c i d o l t jr q w j z he al 0).epoch ⟨o.k,0,o.J,[],true⟩ (QG7 c.window c.resend o.cu.b o.cu.a)=D from e0];rintro⟨e8,_⟩ _ ⟨H,rfl⟩;simp only at H;refine QgB (ca1 (xif (fun h=>?_) (fun h=>?_)))
  ·have d7:¬D.1.ok=true:=fun q=>by rw[We q]at H;rw[H]at h;cases h
   rw[Wb d7]at A H;subst H;refine QG8 1 fun b1=>?_;exact bad A.symm Dc
  ·have d8:D.1.ok=true:=by
    rcases Ll D.1.ok with q|q
    ·exact q
    ·rw[Wb (by rw[q];decide)]at H;rw[H]at h;cases h
   rw[We d8]at A H;subst H;refine xgw 0 fun b2=>QAO ?_;rw[QA8];refine xgS b2 (QAO ?_);rw[QA8];refine xsq (QYI (QRa C (gw1 c i d o l t jr q w j z he al D.1.lost) [] nilS ?_));refine QBO [] (QaH none none) (fun _ _=>rfl) ?_;refine Qik ?_;have d9:=A.symm
   rw[<-d']at *
   exact QAK (QP3 b2 D.1.os::GwL C ⟨i,d,l,t,jr,q,w,j,z,he,al,nilS,none⟩ (QbU c o D.1.k D.1.J D.1.lost D.2)) (QAD (.inr ⟨_,_,C,⟨i,d,l,t,jr,q,w,j,z,he,al,nilS,none⟩,d9,⟨d6 _ _ _ _,by have:D.1.os.length<=0+1040:=a7;omega⟩,rfl,rfl,rfl,rfl⟩))
theorem QQ9(u:UInt8)(l:Ab):(QTp u l).2.length<=1000:=by
 by_cases h:l.length<=300
 ·exact Qa8 u l h
 ·unfold QTp;split
  ·exact Ua _
  ·split
   ·exact Ua _
   ·rename_i q
    have:=QNF (O2.1 q);omega
theorem QYq(l:Ab):(QLB l).length<=l.length+4:=by
 unfold QLB;simp[QZR]
theorem QV9(p:PkV)(h:pkE p p.body.length=0):(QW0 p).length<=2000:=by
 have hb:p.body.length<=1024:=by
  unfold pkE at h;repeat' split at h
  all_goals first|(exfalso;revert h;decide)|omega
 have h1:=QYq (QgP p)
 have a:(QgP p).length<=100+p.body.length:=by
  unfold QgP Qef;repeat' split
  all_goals simp only[Wd,Wl,QH4,O8]
  all_goals omega
 unfold QW0;omega
structure QVB(P:QCj->Prop):Prop where
 line:∀fr:Ab,fr.length<=1000->P (1,fr)
 up:∀p,∀o∈upM p,P o
 tcp:∀t u b,P (3,(QhF t u b).2)
theorem QPt:QVB fun o=>o.2.length<=1000000:=by
 refine⟨fun fr h=>by show fr.length<=_;omega,fun p o a=>?_,fun t u b=>?_⟩
 ·unfold upM at a;split at a
  ·rename_i h
   rw[Oe.1 a];have:=QV9 p h;show (QW0 p).length<=_;omega
  ·cases a
 ·show (QhF t u b).2.length<=_;unfold QhF;split
  ·exact Ua _
  ·rename_i q
   have:=QNF (O2.1 q);simp[QZS];omega
structure QjI where
 timeout:Int
 retries:Int
 window:Int
 resend:Int
 span:Int
 keep:Int
 ts:List Pn.Tag
 epoch:Int
 boots:Int
 polls:List Pn.Poll
 stopped:Bool
def QLj(M:GM):QjI:=⟨M.timeout,M.retries,M.window,M.resend,M.span,M.keep,M.ts,M.epoch,M.boots,M.polls,M.stopped⟩
structure OsP(P:QCj->Prop)(M N:GM):Prop where
 os:(∀o∈M.os,P o)->∀o∈N.os,P o
 fr:M.ma.fr.length<=1000->N.ma.fr.length<=1000
 fx:QLj N=QLj M
variable {P:QCj->Prop}{M N K:GM}
theorem OsP.refl:OsP P M M:=⟨id,id,rfl⟩
theorem OsP.trans(h:OsP P M N)(g:OsP P N K):OsP P M K:=⟨fun a=>g.os (h.os a),fun a=>g.fr (h.fr a),g.fx.trans h.fx⟩
theorem OsP.of(h1:N.os=M.os)(b:N.ma.fr=M.ma.fr)(c:QLj N=QLj M):OsP P M N:=⟨fun a=>by rw[h1];exact a,fun a=>by rw[b];exact a,c⟩
theorem OsP.app{l:List QCj}(h1:N.os=M.os++l)(hl:∀o∈l,P o)(c:N.ma.fr=M.ma.fr)(d:QLj N=QLj M):OsP P M N:=⟨fun a=>by
 rw[h1];intro o b
 exact (W4.1 b).elim (a o) (hl o),fun a=>by rw[c];exact a,d⟩
theorem OsP.line(d:QVB P){fr:Ab}(b:fr.length<=1000)(h1:N.os=M.os++[(1,fr)])(e:N.ma.fr=fr)(f:QLj N=QLj M):OsP P M N:=⟨fun a=>by
 rw[h1];intro o c;rcases W4.1 c with q|q
 ·exact a o q
 ·rw[Oe.1 q];exact d.line fr b,fun _=>by rw[e];exact b,f⟩
theorem QQB{f:GM->GM}(a:OsP P M (f M)):OsP P M (QTo M f):=by
 unfold QTo;split
 ·exact a
 ·exact OsP.refl
theorem QST(a:QVB P)(M:GM)(o:QZO):OsP P M (QDh M o):=by
 unfold QDh;split
 ·unfold QUT QOQ
  (repeat' split)<;>exact OsP.of rfl rfl rfl
 ·unfold Qay;split
  ·exact OsP.of rfl rfl rfl
  split
  ·exact OsP.app rfl (a.up _) rfl rfl
  ·unfold QiR;generalize QBi _ _ _ _=n;by_cases h:n.ok=true
   ·refine OsP.app (l:=QD7 _ (QS1 o)) (by simp only;rw[We h]) (a.up _) rfl rfl
   ·refine OsP.of ?_ rfl rfl;simp only;rw[Wb h]
theorem QYg(a:QVB P)(M:GM):OsP P M (QDT M):=by
 unfold QDT;split
 ·unfold QPW;split
  ·exact OsP.of rfl rfl rfl
  split
  ·exact OsP.app rfl (a.up _) rfl rfl
  ·unfold QRw;split
   ·unfold Qb1;split
    ·exact OsP.line a (QQ9 _ _) rfl rfl rfl
    ·exact OsP.of rfl rfl rfl
   ·exact OsP.of rfl rfl rfl
 ·unfold QLS;split
  ·exact OsP.refl
  split
  ·exact OsP.line a (QQ9 _ _) rfl rfl rfl
  ·exact OsP.refl
theorem QQk(b:QVB P)(epoch clock:Int)(c:LM)(m:SeM):∀o∈(QBf epoch clock c m).2,P o:=by
 intro o a;obtain⟨n,_,hn⟩:=List.mem_flatMap.1 a;exact b.up _ o hn
theorem QeJ(m:MaM)(now:Int):((QDA m now).1=[]\/(QDA m now).1=m.fr)/\(QDA m now).2.2.fr=m.fr:=by
 unfold QDA;repeat' split
 ·exact⟨.inl rfl,rfl⟩
 ·exact⟨.inl rfl,rfl⟩
 ·exact⟨.inr rfl,rfl⟩
theorem QZz(b:QVB P)(M:GM)(f:M.ma.fr.length<=1000)(now:Int):OsP P M (QEU M now):=by
 have h0:OsP P M (tick0 M now):=by
  obtain⟨h1,a⟩:=QeJ M.ma (QB7 M.clock now);unfold tick0;by_cases h:0<(QDA M.ma (QB7 M.clock now)).1.length
  ·refine OsP.line b f (by simp only; rw[We h]; exact h1.elim (fun e=>by rw[e]at h;exact absurd h Dc) (fun e=>by rw[e])) a rfl
  ·exact OsP.of (by simp only;rw[Wb h]) a rfl
 have h1:OsP P M (QHA M now):=by
  unfold QHA;split
  ·exact h0.trans (QST b _ _)
  ·exact h0
 have a:OsP P (QHA M now) (QHB (QHA M now)):=by
  unfold QHB;split
  ·exact OsP.refl
  ·exact QYg b _
 have c:∀M:GM,OsP P M (QFb M):=fun M=>by
  unfold QFb
  (repeat' split)<;>exact OsP.of rfl rfl rfl
 have d:∀M:GM,OsP P M (QJd M):=fun M=>by
  unfold QJd;split
  ·exact OsP.of rfl rfl rfl
  ·exact OsP.app rfl (QQk b _ _ _ _) rfl rfl
 unfold QEU;exact (((h1.trans (QQB a)).trans (QQB (OsP.of rfl rfl rfl))).trans (QQB (c _))).trans (QQB (d _))
theorem QXr(a:QVB P)(M:GM)(p:PkV):OsP P M (QHk M p):=by
 unfold QHk
 (repeat' split)<;>first|exact OsP.refl|exact OsP.app rfl (a.up _) rfl rfl|exact OsP.of rfl rfl rfl
theorem QZf(a:QVB P)(M:GM)(xs:Ab):OsP P M (QF0 M xs):=by
 unfold QF0;split
 ·exact OsP.refl
 split
 ·split
  ·unfold Qgo;split
   ·exact OsP.of rfl rfl rfl
   ·exact OsP.app rfl (QQk a _ _ _ _) rfl rfl
  ·exact OsP.of rfl rfl rfl
 split
 ·exact QXr a M _
 ·exact OsP.refl
theorem QZC(b:QVB P)(M:GM)(xs:Ab):OsP P M (QWS M xs):=by
 unfold QWS;split
 ·exact OsP.refl
 split
 ·unfold Qbk;split
  ·exact OsP.of rfl rfl rfl
  ·refine OsP.app rfl (fun o a=>?_) rfl rfl;rw[Oe.1 a];exact b.tcp _ _ _
 ·exact OsP.of rfl rfl rfl
theorem Qan(M:GM)(nm:ByteArray):OsP P M (QdB M nm):=by
 unfold QdB Qiy
 (repeat' split)<;>first|exact OsP.refl|exact OsP.of rfl rfl rfl
theorem Qdk(m:MaM)(xs:Ab):(QFc m xs).2.fr=m.fr:=by
 rcases (QXF m xs).2 with⟨_,h⟩|⟨_,_,h⟩<;>rw[h]
theorem Qbf(a:QVB P)(M:GM)(xs:Ab):OsP P M (QY4 M xs):=by
 have h0:OsP P M { M with ma:=(QFc M.ma xs).2 }:=OsP.of rfl (Qdk _ _) rfl;unfold QY4;split
 ·exact h0.trans (QST a _ _)
 ·exact h0
theorem QbQ(a:QVB P)(M:GM)(b:M.ma.fr.length<=1000)(e:EvV):OsP P M (QFe M e):=by
 unfold QFe;split
 ·exact QZz a M b _
 split
 ·exact Qbf a M _
 split
 ·exact QZf a M _
 split
 ·exact QZC a M _
 split
 ·exact Qan M _
 ·exact OsP.refl
theorem QWD(M:GM)(b:M.ma.fr.length<=1000)(e:EvV):QLj { (QB2 M e).1 with stopped:=M.stopped }=QLj M/\(QB2 M e).1.ma.fr.length<=1000/\∀o∈(QB2 M e).2,o.2.length<=1000000:=by
 unfold QB2;split
 ·exact⟨rfl,b,fun o a=>by cases a⟩
 ·have h:=QbQ QPt { M with os:=[] } b e;have hx:=h.fx;refine⟨?_,h.fr b,?_⟩
  ·unfold QLj at hx|-;injection hx with c d f g i j k l m n p
   (try simp only)
   rw[c,d,f,g,i,j,k,l,m,n]
  ·(try simp only)
   split
   ·exact h.os (fun o a=>by cases a)
   ·intro o a;cases a
theorem Qe8(M:GM)(o:QZO):(QDh M o).m=M.m:=by
 unfold QDh;split
 ·unfold QUT QOQ
  (repeat' split)<;>rfl
 ·unfold Qay;split
  ·rfl
  split
  ·rfl
  ·rfl
theorem QeF(M:GM):(QDT M).m=M.m:=by
 unfold QDT;split
 ·unfold QPW;split
  ·rfl
  split
  ·rfl
  ·unfold QRw Qb1
   (repeat' split)<;>rfl
 ·unfold QLS
  (repeat' split)<;>rfl
theorem Qfm(M:GM)(now:Int):(QHA M now).m=M.m:=by
 unfold QHA;split
 ·rw[Qe8];rfl
 ·rfl
theorem Qc8{M:GM}(h:QVY M.m)(now:Int):(QEU M now).os.length<=M.os.length+19:=by
 have h1:=QWc M now;have g:=Qfm M now;unfold QEU
 generalize QHA M now=T at *
 have b:∀{K:GM}{f:GM->GM}{a c:Nat},K.os.length<=a->((f K).os.length<=K.os.length+c)->(QTo K f).os.length<=a+c:=by
  intro K f a c h1 e;unfold QTo;split<;>omega
 have d:∀{K:GM}{f:GM->GM},QVY K.m->((f K).m=K.m)->QVY (QTo K f).m:=by
  intro K f h1 e;unfold QTo;split
  ·rw[e];exact h1
  ·exact h1
 have i:=b (K:=T) (f:=QHB) h1 (c:=1) (by
  unfold QHB;split
  ·omega
  ·exact QTU T)
 have j:=d (K:=T) (f:=QHB) (by rw[g];exact h) (by
  unfold QHB;split
  ·rfl
  ·exact QeF T)
 have a2:=b (f:=QKM) i (c:=0) (Wt _);have k:=d (f:=QKM) j rfl;have a3:=b (f:=QFb) a2 (c:=0) (by unfold QFb;(repeat' split)<;>exact Wt _);have l:=d (f:=QFb) k (by unfold QFb;(repeat' split)<;>rfl)
 have a4:=b (f:=QJd) a3 (c:=16) (by
  unfold QJd;split
  ·exact Ue _ _
  ·unfold QRN;simp only[Wd]
   exact U2 (QKe l _ _ _) _)
 omega
theorem Qfe{m:SeM}(h:QVY m)(now e s:Int)(hn:0<=now/\now<=1099511627776):QVY (QWv m now e s).1:=by
 obtain⟨h1,a,b,c,d,f,g,i⟩:=h;unfold QWv;repeat' split
 all_goals first|exact⟨h1,a,b,c,d,f,g,i⟩|skip
 all_goals refine⟨h1,a,b,?_,?_,?_,?_,?_⟩
 all_goals simp only
 all_goals omega
theorem QcR{M:GM}(h:QVY M.m)(hc:0<=M.clock/\M.clock<=1099511627776)(xs:Ab):(QF0 M xs).os.length<=M.os.length+19:=by
 unfold QF0;split
 ·omega
 split
 ·have a:=Qfe h M.clock (QAo xs).1.epoch (QAo xs).1.seq hc;split
  ·unfold Qgo;split
   ·exact Ue _ _
   ·unfold QRN;simp only[Wd];exact U2 (Oq (QKe a _ _ _) Om) _
  ·exact Ue _ _
 split
 ·unfold QHk
  (repeat' split)<;>first|exact Ue _ _|(show (M.os++QD7 _ _).length<=_;rw[Wd];exact U2 (Oq (QJz _ _) Om) _)
 ·omega
theorem Qdi{M:GM}(h:QVY M.m)(hc:0<=M.clock/\M.clock<=1099511627776)(e:EvV):(QFe M e).os.length<=M.os.length+19:=by
 unfold QFe;split
 ·exact Qc8 h _
 split
 ·unfold QY4;split
  ·exact Oq (QW2 _ _) (by show M.os.length+1<=_;omega)
  ·exact Ue _ _
 split
 ·exact QcR h hc _
 split
 ·unfold QWS;split
  ·omega
  split
  ·unfold Qbk;split
   ·exact Ue _ _
   ·show (M.os++[_]).length<=_;rw[Wd];exact U2 (by simp) _
  ·exact Ue _ _
 split
 ·unfold QdB Qiy
  (repeat' split)<;>exact Ue _ _
 ·omega
theorem Qde{M:GM}(h:QVY M.m)(hc:0<=M.clock/\M.clock<=1099511627776)(e:EvV):(QB2 M e).2.length<=19:=by
 unfold QB2;split
 ·exact Ua _
 ·(try simp only)
  split
  ·have:=Qdi (M:={ M with os:=[] }) h hc e;simpa using this
  ·exact Ua _
theorem Qbh{P:QCj->Prop}(b:QVB P)(clock:Int)(s:GS)(id:Int)(h:∀o∈s.os,P o):∀o∈(QCb clock s id).os,P o:=by
 unfold QCb QQI
 (repeat' split)<;>first|exact h|(intro o a;exact (W4.1 a).elim (h o) (b.up _ o))
theorem QTe{P:QCj->Prop}(a:QVB P)(clock:Int):∀(ids:Ae) (s:GS),(∀o∈s.os,P o)->∀o∈(QDW clock ids s).os,P o
 | [],s,h=>h
 | id::ids,s,h=>by
  have h1:=Qbh a clock s id h;unfold QDW;split
  ·exact QTe a clock ids _ h1
  ·exact h1
theorem QdR{P:QCj->Prop}(b:QVB P)(clock boots epoch:Int)(s:GS)(m:SeM)(h:∀o∈s.os,P o):∀o∈(QFX clock boots epoch s m).1.os,P o:=by
 unfold QFX;split
 ·unfold QMA;have a:=QTe b clock (Od.leftJ s.J.L) (QHT clock s ⟨4,0,ByteArray.empty,boots,0⟩) h;split
  ·unfold QQj
   (try simp only)
   split
   ·exact a
   ·intro o c;exact (W4.1 c).elim (a o) (QQk b _ _ _ _ o)
  ·exact a
 ·exact h
end Go.Cx
