/-
The gateway: time goes on.
-/
import Derived.Test.YthbhbkjkclhkgaaGreatDoorG5
set_option linter.unusedVariables false
set_option maxRecDepth 100000
set_option synthInstance.maxSize 4000
set_option synthInstance.maxHeartbeats 200000
open Go Go.Cf
variable {B:QBJ}{As F:List HP}
namespace Go.Cx
def QTo(M:GM)(f:GM->GM):GM:=if M.ok=true then f M else M
def QB7(old now:Int):Int:=if (if 1099511627776<now then 1099511627776 else now)>old then (if 1099511627776<now then 1099511627776 else now) else old
def tick0(M:GM)(now:Int):GM:={ M with clock:=QB7 M.clock now,ma:=(QDA M.ma (QB7 M.clock now)).2.2,os:=if 0<(QDA M.ma (QB7 M.clock now)).1.length then M.os++[(1,(QDA M.ma (QB7 M.clock now)).1)] else M.os }
def QHA(M:GM)(now:Int):GM:=if (QDA M.ma (QB7 M.clock now)).2.1.is=true then QDh (tick0 M now) (QDA M.ma (QB7 M.clock now)).2.1 else tick0 M now
def QHB(M:GM):GM:=if M.ma.tries>0 then M else QDT M
def QKM(M:GM):GM:={ M with k:=(QJ9 M.k).1,ok:=(QJ9 M.k).2 }
def QLg(k:Kn):Kn×Int:=(⟨(saveM k.dev k.log.lo k.X).1,k.log,(saveM k.dev k.log.lo k.X).2.1⟩,(saveM k.dev k.log.lo k.X).2.2)
def QFb(M:GM):GM:=
 if IntKind.i64.wrap (M.k.log.next - M.saved)>=64 then
  (if (QLg M.k).2=10 then { M with k:=(QLg M.k).1,ok:=false } else if (QLg M.k).2=0 then { M with k:=(QLg M.k).1,saved:=M.k.log.next } else { M with k:=(QLg M.k).1 })
 else M
def QNG(k:Kn)(to keep:Int):Kn×Int:=(⟨(QC6 k.dev k.log to keep).1,(QC6 k.dev k.log to keep).2.1,k.X⟩,(QC6 k.dev k.log to keep).2.2)
def QRN(M:GM):GM:={ M with m:=(QBf M.epoch M.clock M.k.log M.m).1,os:=M.os++(QBf M.epoch M.clock M.k.log M.m).2 }
def QJd(M:GM):GM:=if (QNG M.k M.acked M.keep).2=10 then { M with k:=(QNG M.k M.acked M.keep).1,ok:=false } else QRN { M with k:=(QNG M.k M.acked M.keep).1 }
def QEU(M:GM)(now:Int):GM:=QTo (QTo (QTo (QTo (QHA M now) QHB) QKM) QFb) QJd
theorem QWE{old now:Int}(h:0<=old/\old<=1099511627776):0<=QB7 old now/\QB7 old now<=1099511627776:=by
 unfold QB7
 (repeat' split)<;>omega
theorem KOk.save{k:Kn}(h:KOk k):KOk (QLg k).1:=by
 refine⟨h.ldev.save k.log.lo k.X,?_⟩;show XOk' (saveM k.dev k.log.lo k.X).2.1;unfold saveM;split
 ·exact h.idx
 split<;>exact h.idx.prune _
theorem KOk.trim{k:Kn}(h:KOk k)(to keep:Int):KOk (QNG k to keep).1:=⟨h.ldev.trim to keep,h.idx⟩
theorem QYF(d l x:Ac)(k:Kn):Ct Pr 235 [.pointer x] .one [.I] [QA7 d l x k] GBeh (fun t Bs=>t.1=(QLg k).2/\Bs=[QA7 d l x (QLg k).1]):=by
 unfold QLg;refine QG9 (φ:=QAX Pr 235 [.pointer x] .one [.I]) (fun h=>h) fun B c=>?_;haveI:=Qbx c;refine QG8 0 fun a=>?_;refine QB6 2 (P1:=QAs x d l k.X) (fun g e=>(by obtain⟨b,q,h,_⟩:=e;exact⟨b,h⟩:∃b,x=some ⟨b,0,none⟩)) fun ⟨xb,hx⟩=>?_;subst hx;refine xd1 (QVF xb d l k.dev k.log k.X a.idx.time a.idx.srt a.idx.len) ?_;exact QCh d l (some ⟨xb,0,none⟩) ⟨(saveM k.dev k.log.lo k.X).1,k.log,(saveM k.dev k.log.lo k.X).2.1⟩ a.save (QAK [QA7 d l (some ⟨xb,0,none⟩) ⟨(saveM k.dev k.log.lo k.X).1,k.log,(saveM k.dev k.log.lo k.X).2.1⟩] (QAD ⟨rfl,rfl⟩))
theorem QXd(d l x:Ac)(k:Kn)(to keep:Int)(c:i64 keep):Ct Pr 236 [.pointer l,.I to,.I keep] .one [.I] [QA7 d l x k] GTab (fun t Bs=>t.1=(QNG k to keep).2/\Bs=[QA7 d l x (QNG k to keep).1]):=by
 unfold QNG;refine QG9 (φ:=QAX Pr 236 [.pointer l,.I to,.I keep] .one [.I]) (fun h=>h) fun B a=>?_;haveI:=QKj a;refine QG8 0 fun b=>?_;refine xd1 (QRQ l d k.dev k.log to keep c) ?_;exact QCh d l x ⟨(QC6 k.dev k.log to keep).1,(QC6 k.dev k.log to keep).2.1,k.X⟩ (b.trim to keep) (QAK [QA7 d l x ⟨(QC6 k.dev k.log to keep).1,(QC6 k.dev k.log to keep).2.1,k.X⟩] (QAD ⟨rfl,rfl⟩))
theorem QKZ(d l x:Ac)(k:Kn):Ct Pr 39 [.pointer l] .one [.I] [QA7 d l x k] emp (fun t Bs=>t.1=k.log.next/\Bs=[QA7 d l x k]):=by
 refine QG9 (φ:=QAX Pr 39 [.pointer l] .one [.I]) (fun h=>h) fun B b=>?_;refine QG8 0 fun a=>?_;refine xd1 (QF9 l d k.log) ?_;exact QCh d l x k a (QAK [QA7 d l x k] (QAD ⟨rfl,rfl⟩))
theorem QdW{m:MaM}{now:Int}(h:(QDA m now).2.1.is=true):0<m.tries/\(QDA m now).2.2.tries=0:=by
 unfold QDA at h|-;split at h
 ·cases h
 rename_i q
 have q:=O2.1 q;rw[Wb (fun z=>z q)];split at h
 ·rename_i r
  rw[We r];exact⟨q.1,rfl⟩
 ·cases h
theorem QdO{m:MaM}{now:Int}:(QDA m now).2.1.r=QPJ/\((QDA m now).1=[]\/(QDA m now).1=m.fr):=by
 unfold QDA;split
 ·exact⟨rfl,.inl rfl⟩
 split
 ·exact⟨rfl,.inl rfl⟩
 ·exact⟨rfl,.inr rfl⟩
theorem QZG{m:MaM}{now:Int}(h:0<(QDA m now).2.2.tries)(h0:0<=m.tries):0<m.tries:=by
 unfold QDA at h;split at h
 ·exact h
 split at h
 ·cases h
 ·rename_i q _;exact (O2.1 q).1
theorem MOk.tick0{M:GM}(h:MOk M)(a:QfN M.ma)(now:Int):MOk (tick0 M now):=
 ⟨QWE h.clock,h.keep,h.slots,h.polls,h.tags,h.held,h.al,h.queue,h.poll,fun q=>h.busy (QZG q a.tries.1)⟩
theorem MOk.step{M:GM}(h:MOk M)(k:Kn)(m:SeM)(saved:Int)(os:List QCj)(ok:Bool):MOk { M with k:=k,m:=m,saved:=saved,os:=os,ok:=ok }:=
 ⟨h.clock,h.keep,h.slots,h.polls,h.tags,h.held,h.al,h.queue,h.poll,h.busy⟩
theorem QJz(id code:Int):(QD7 id code).length<=1:=QQm _
theorem QW2(M:GM)(o:QZO):(QDh M o).os.length<=M.os.length+1:=by
 unfold QDh;split
 ·unfold QUT QOQ
  (repeat' split)<;>exact Kl _
 ·unfold Qay;split
  ·exact Kl _
  split
  ·show (M.os++QD7 _ _).length<=_;rw[Wd];exact U2 (QJz _ _) _
  ·unfold QiR
   (try simp only)
   split
   ·rw[Wd];exact U2 (QJz _ _) _
   ·exact Kl _
theorem QTU(M:GM):(QDT M).os.length<=M.os.length+1:=by
 unfold QDT;split
 ·unfold QPW;split
  ·exact Kl _
  split
  ·show (M.os++QD7 _ _).length<=_;rw[Wd];exact U2 (QJz _ _) _
  ·unfold QRw Qb1
   (repeat' split)<;>first|exact Kl _|(show (M.os++[_]).length<=_;rw[Wd];exact Wt _)
 ·unfold QLS
  (repeat' split)<;>first|exact Kl _|(show (M.os++[_]).length<=_;rw[Wd];exact Wt _)
theorem QWc(M:GM)(now:Int):(QHA M now).os.length<=M.os.length+2:=by
 have h0:(tick0 M now).os.length<=M.os.length+1:=by
  unfold tick0
  (try simp only)
  split
  ·rw[Wd];exact Wt _
  ·exact Kl _
 unfold QHA;split
 ·exact Oq (QW2 _ _) Om
 ·omega
theorem QIP{M:GM}{f:GM->GM}(h:M.ok=false):QTo M f=M:=by unfold QTo;rw[Wb (by rw[h];decide)]
theorem QRJ{M:GM}{f:GM->GM}(h:M.ok=true):QTo M f=f M:=by unfold QTo;rw[We h]
theorem QFE{a b c d e f g i j A10 A11 A12:HP}{F:List HP}{φ:WP}(h:Ent B (a::b::c::d::e::f::g::i::j::A10::A11::A12::F) φ):Ent B ([a,b,c,d,e,f,g,i,j,A10,A11,A12]++F) φ:=h
theorem QaP(g:Nat)(a:GwA)(M:GM)(a7:MOk M)(b3:M.ok=true)(c8:M.os.length<=800000)(now:Int) :
  CtP QC1 Pr 149 [.pointer (some ⟨g,0,none⟩),.I now] (.tup []) [] (GwL g a M) (GTab.and GBeh)
  (fun _ Bs=>(QEU M now).ok=true/\MOk (QEU M now)/\∃q,q.dev=a.dev/\Bs=GwL g q (QEU M now))
  (fun Bs=>(QEU M now).ok=false/\MOk (QEU M now)/\∃q,q.dev=a.dev/\Bs=GwL g q (QEU M now)):=by
 refine QfU (QEF _ _) fun B a8=>?_;haveI:=QKj a8.1;haveI:=Qbx a8.2;obtain⟨N,d⟩:∃N,QEU M now=N:=⟨_,rfl⟩;rw[d];unfold QEU at d;unfold QEF mfP;dsimp only;refine QB6 4 (P1:=QBF a.line M.ma) (fun f a1=>a1.1) fun b4=>?_;have b8:=QWE (now:=now) a7.clock;refine xgf (h:=xgs (cOf a { M with clock:=QB7 M.clock now }) (h:=?_));refine QAP (xgf (h:=xgf (h:=?_)));have a6:=QSm a.line M.ma (QB7 M.clock now) b8;have X:=a7.tick0 b4 now;have a0:=QdW (m:=M.ma) (now:=QB7 M.clock now);have a':=QdO (m:=M.ma) (now:=QB7 M.clock now);have b9:=QWc M now;obtain⟨n,w⟩:∃t,QHA M now=t:=⟨_,rfl⟩;rw[w]at b9 d;unfold QHA at w;unfold tick0 at X w;unfold QL7 at a6
 generalize QDA M.ma (QB7 M.clock now)=T at *
 obtain⟨P,o,Y⟩:=T;simp only at a6 a0 X a' w;obtain⟨Q,A⟩:∃Q:GM,{ M with clock:=QB7 M.clock now,ma:=Y,os:=if 0<P.length then M.os++[(1,P)] else M.os }=Q:=⟨_,rfl⟩;rw[A]at X w
 have c7:Q.os.length<=800001:=by
  rw[<-A];simp only;split
  ·rw[Wd];simp only[Wl,O8];omega
  ·omega
 refine QZK ?_ (QAL fun b=>?_)
 all_goals
  refine xcl a6 rdb ?_;rintro⟨s,c2,c3,H,D,c4,c5,c,_⟩ _ ⟨rfl,rfl,a9,a1,rfl,rfl,rfl⟩;simp only at a9;subst a9;first|refine QgB (ca8 (QAL fun b=>?_))|refine QgB (ca8 ?_)
  iterate 6 (refine xsq ?_)
  refine QCl (E:=U8) (xs:=P) s fun c1 _=>?_;refine QCl (E:=W16) (xs:=o.r.set) D fun _ b5=>?_;refine QBh (fun As'=>As'=Blk b [.I o.what,.I o.r.exc,H.v,D.v,nilS.v,.I o.tries]::Ar BL H o.r.on::Ar W16 D o.r.set::GwL g a Q) (fun K i=>?_) ?_
  ·refine QAB (fun h=>?_) (fun h=>?_)
   ·refine xd0 (QJn g (cOf a { M with clock:=QB7 M.clock now }) M.os Om 1 s P) ?_;rw[We (show 0<P.length by omega)]at A;subst A;exact QAK (Blk b [.I o.what,.I o.r.exc,H.v,D.v,nilS.v,.I o.tries]::Ar BL H o.r.on::Ar W16 D o.r.set::GwL g a { M with clock:=QB7 M.clock now,ma:=Y,os:=M.os++[(1,P)] }) (i _ rfl)
   ·rw[Wb (show ¬0<P.length by omega)]at A;subst A;exact QAK (Blk b [.I o.what,.I o.r.exc,H.v,D.v,nilS.v,.I o.tries]::Ar BL H o.r.on::Ar W16 D o.r.set::GwL g a { M with clock:=QB7 M.clock now,ma:=Y,os:=M.os }) (i _ rfl)
  rintro _ rfl;refine QBh (fun As'=>∃u q,n=u/\u.ok=true/\MOk u/\q.dev=a.dev/\As'=GwL g q u) (fun K i=>?_) ?_
  ·refine xif (fun h=>?_) (fun h=>?_)
   ·rw[We h]at w;have a0:=a0 h;refine xgq (xgq (xgS H (xgS D (xgT (h:=xgq ?_)))));refine QTq (QPg g a Q X (by rw[<-A];exact b3) (by rw[<-A];show Y.tries<=0;omega) (by rw[<-A];exact a7.busy a0.1) Om o a1 (by rw[a'.1];intro v hv;cases hv) H D b5) rdb ?_ ?_
    ·rintro _ _ ⟨G,S,rfl,rfl⟩;rw[w]at G S|-;refine QFE (ca0 ?_);exact QAK (GwL g a.noCmd n) (i _ ⟨n,a.noCmd,rfl,G,S,rfl,rfl⟩)
    ·rintro _ ⟨G,S,rfl,rfl⟩;rw[w]at G S|-;rw[QIP G,QIP G,QIP G,QIP G]at d;subst d;exact QFE (QAK (GwL g a.noCmd n) (QTr ⟨G,S,a.noCmd,rfl,rfl⟩))
   ·rw[Wb (by rw[h];decide)]at w;subst w;exact QAK (GwL g a Q) (i _ ⟨Q,a,rfl,by rw[<-A];exact b3,X,rfl,rfl⟩)
  rintro _ ⟨u,U,rfl,V,J,a3,rfl⟩;rw[QRJ V]at d;refine xgf (h:=?_);refine xd1 (QTi U.line n.ma) ?_;refine QBh (fun As'=>∃u q,QHB n=u/\u.ok=true/\MOk u/\q.dev=a.dev/\As'=GwL g q u) (fun K i=>?_) ?_
  ·unfold QHB at i d;refine xif (fun h=>?_) (fun h=>?_)
   ·have h:¬n.ma.tries>0:=Si h
    rw[Wb h]at i d;refine QAb (GwL g U n) ?_;refine QTq (QY7 g U n J V Om) rdb ?_ ?_
    ·rintro _ _ ⟨R,a4,a2,L,rfl⟩;exact QFE (ca0 (QAd (l:=GwL g a2 (QDT n)) (i _ ⟨_,a2,rfl,R,a4,L.trans a3,rfl⟩)))
    ·rintro _ ⟨R,a4,a2,L,rfl⟩;rw[QIP R,QIP R,QIP R]at d;subst d;exact QFE (QAd (l:=GwL g a2 (QDT n)) (QTr ⟨R,a4,_,L.trans a3,rfl⟩))
   ·have h:n.ma.tries>0:=Si h
    rw[We h]at i;exact QAK (GwL g U n) (i _ ⟨_,U,rfl,V,J,a3,rfl⟩)
  have b':(QHB n).os.length<=800003:=by
   unfold QHB;split
   ·omega
   ·exact Oq (QTU n) Om
  rintro _ ⟨u,a2,b6,V,J,L,rfl⟩;rw[b6]at d b';rw[QRJ V]at d
  -- all is made to last
  have c0:=QbG g (cOf a2 u) u.os u.k;unfold QKM at d
  generalize QJ9 u.k=y at *
  obtain⟨p,c6⟩:=y;refine QTq c0 rdb ?_ ?_
  case refine_2=>
   rintro _ ⟨W,rfl⟩;simp only at W d;subst W;rw[QIP rfl,QIP rfl]at d;subst d;exact QBK (QAK (GwL g a2 { u with k:=p,ok:=false }) (QTr ⟨rfl,J.step p u.m u.saved u.os false,a2,L,rfl⟩))
  rintro _ _ ⟨W,rfl⟩;simp only at W d;subst W;rw[show QTo { u with k:=p,ok:=true } QFb=QFb { u with k:=p,ok:=true } from QRJ rfl]at d;refine QBK (ca0 (QAP ?_))
  -- the index is saved
  refine QAV (fun(x:Bool) As'=>∃(j:Kn) (c:Bool),x=c/\QFb { u with k:=p,ok:=true }=(if c=true then { u with k:=j,ok:=true,saved:=j.log.next } else { u with k:=j,ok:=true })/\As'=GwL g a2 { u with k:=j,ok:=true }) (fun K i=>?_) ?_
  ·unfold QFb at i d;refine xgf (h:=xgf (h:=?_));refine xd1 (QKZ a2.dev a2.log a2.idx p) (xgc (h:=QAB (fun h=>?_) (fun h=>?_)))
   ·rw[We (show IntKind.i64.wrap (p.log.next - u.saved)>=64 from h)]at i d;refine xgf (h:=?_);have b0:=QYF a2.dev a2.log a2.idx p;simp only at i d;have b1:(QLg p).1.log=p.log:=rfl
    generalize QLg p=C at *
    obtain⟨j,e⟩:=C;simp only at b0 i d b1;refine xcl b0 rdb ?_;rintro⟨a5,_⟩ _ ⟨he,rfl⟩;simp only at he;subst he;refine QAz (ca1 (QP5 (fun he=>?_) (fun he=>?_)))
    ·refine QAK (GwL g a2 { u with k:=j,ok:=true }) (i _ _ ⟨j,a5 == 0,rfl,?_,rfl⟩);rw[Wb he];by_cases h0:a5=0
     ·rw[We h0,We (by rw[h0];rfl),b1]
     ·rw[Wb h0,Wb (by rw[Qe6 h0];decide)]
    ·rw[We he]at d;rw[QIP rfl]at d;subst d;exact QAK (GwL g a2 { u with k:=j,ok:=false }) (QTr ⟨rfl,J.step j u.m u.saved u.os false,a2,L,rfl⟩)
   ·rw[Wb (show ¬IntKind.i64.wrap (p.log.next - u.saved)>=64 from h)]at i;exact QAK (GwL g a2 { u with k:=p,ok:=true }) (i _ _ ⟨p,false,rfl,by rw[Wb Dc],rfl⟩)
  rintro _ _ ⟨j,c,rfl,Z,rfl⟩;rw[Z]at d;refine QBh (fun As'=>∃C,QFb { u with k:=p,ok:=true }={ u with k:=j,ok:=true,saved:=C }/\As'=GwL g a2 { u with k:=j,ok:=true,saved:=C }) (fun K i=>?_) ?_
  ·refine xif (fun h=>?_) (fun h=>?_)
   ·rw[Z,We h]at i;refine xgf (h:=?_);refine xd1 (QKZ a2.dev a2.log a2.idx j) (xgs (cOf a2 { u with k:=j,ok:=true,saved:=j.log.next }) (h:=?_));exact QAK (GwL g a2 { u with k:=j,ok:=true,saved:=j.log.next }) (i _ ⟨_,rfl,rfl⟩)
   ·rw[Z,Wb (by rw[h];decide)]at i;exact i _ ⟨u.saved,rfl,rfl⟩
  rintro _ ⟨C,b7,rfl⟩;rw[<-Z,b7,QRJ rfl]at d;unfold QJd at d;refine QAP (xgf (h:=xgf (h:=xgf (h:=?_))));have b2:=QXd a2.dev a2.log a2.idx j u.acked u.keep J.keep;simp only at d
  generalize QNG j u.acked u.keep=z at *
  obtain⟨O,e⟩:=z;simp only at b2 d;refine xcl b2 rdb ?_;rintro⟨a5,_⟩ _ ⟨he,rfl⟩;simp only at he;subst he;refine QAz (ca1 (QP5 (fun he=>?_) (fun he=>?_)))
  ·rw[Wb he]at d;unfold QRN at d;refine xcl (QI7 g (cOf a2 { u with k:=O,ok:=true,saved:=C }) u.os Om O u.m) rdb ?_;rintro _ _ rfl;subst d;refine QLn (ca0 ?_);exact QAK (GwL g a2 { u with k:=O,ok:=true,saved:=C,m:=(QBf u.epoch u.clock O.log u.m).1,os:=u.os++(QBf u.epoch u.clock O.log u.m).2 }) (QAD ⟨rfl,J.step O _ C _ true,a2,L,rfl⟩)
  ·rw[We he]at d;subst d;exact QAK (GwL g a2 { u with k:=O,ok:=false,saved:=C }) (QTr ⟨rfl,J.step O u.m C u.os false,a2,L,rfl⟩)
theorem ca9{k l m n o p q r s:Sh}{K:k.ty->l.ty->m.ty->n.ty->o.ty->p.ty->q.ty->r.ty->s.ty->WP}{a b c d e f g i j}{v:Unit}(h:Ent B As (K a b c d e f g i j)):Ent B As (Cur.app [k,l,m,n,o,p,q,r,s] K (a,b,c,d,e,f,g,i,j,v)):=h
def Qb2(M:GM)(id:Int):Bool:=(match M.cmd with|some c=>c.id == id|none=>false)||M.queue.any (fun c=>c.id == id)
theorem QVp:∀{rs:List QgO}{qs:List QLe}{f:QBs},Each QGg rs qs f->rs.map (·.1)=qs
 | [],[],_,_=>rfl
 | [],_::_,_,h=>h.elim
 | _::_,[],_,h=>h.elim
 | r::rs,q::qs,f,h=>by
  obtain⟨a,b,h1,⟨c,d,e,_⟩,_⟩:=h;rw[U9,h1.1,QVp e]
theorem QXq(g:Nat)(a:GwA)(M:GM)(V:MOk M)(id:Int):Ct Pr 344 [.pointer (some ⟨g,0,none⟩),.I id] .one [.bool] (GwL g a M) emp (fun t Bs=>t.1=Qb2 M id/\Bs=GwL g a M):=by
 refine sp1 (QDn _ _) fun B _=>?_;unfold QDn mf;dsimp only;refine xgf (h:=?_);refine QAV (fun(x:Bool) As'=>x=(match M.cmd with|some c=>c.id == id|none=>false)/\As'=GwL g a M) (fun K y=>?_) ?_
 ·cases A:M.cmd with
  | none=>
   rw[A]at y;refine QB6 11 (P1:=QaH a.cmd M.cmd) (fun f d=>(by rw[A]at d;exact d:a.cmd=none)) fun P=>?_;rw[show (cOf a M).cmd=none from P];exact QBH rfl (y _ _ ⟨rfl,rfl⟩)
  | some c=>
   rw[A]at y;refine QEZ 11 (P1:=QaH a.cmd M.cmd) (fun Bs=>∃j l ss o,a.cmd=some ⟨j,0,none⟩/\Bs=[Blk j (cmC c l ss o),Ar BL l c.a.on,Ar W16 ss c.a.set,Ar PaE o c.a.parts]) (fun f d=>?_) ?_
   ·rw[A]at d;obtain⟨j,l,ss,o,h1,C⟩:=d;exact⟨_,⟨j,l,ss,o,h1,rfl⟩,C⟩
   rintro _ ⟨j,l,ss,o,D,rfl⟩;refine QgB ?_;rw[show (cOf a M).cmd=some ⟨j,0,none⟩ from D];refine QCC rfl (xgf (h:=?_));rw[show (cOf a M).cmd=some ⟨j,0,none⟩ from D];refine QAO (xgq ?_);refine QBO [Blk j (cmC c l ss o),Ar BL l c.a.on,Ar W16 ss c.a.set,Ar PaE o c.a.parts] (QaH a.cmd M.cmd) (fun f d=>by rw[A];exact⟨j,l,ss,o,D,d⟩) ?_;exact QAK (GwL g a M) (y _ _ ⟨rfl,rfl⟩)
 rintro x _ ⟨rfl,rfl⟩;unfold Qb2;generalize (match M.cmd with|some c=>c.id == id|none=>false)=x;refine xif (fun h=>QAD ⟨by rw[h];rfl,rfl⟩) (fun h=>?_);rw[h,Bool.false_or];refine xgf (h:=?_);refine QEZ 10 (P1:=QRc a.queue M.queue) (fun Bs=>∃rs:List QgO,rs.map (·.1)=M.queue/\Bs=[Ar CE a.queue rs,Each QGg rs M.queue]) (fun f d=>?_) ?_
 ·obtain⟨rs,hl,H⟩:=d;have Q:=H;obtain⟨p,q,_,⟨u,v,C,_⟩,_⟩:=Q;exact⟨_,⟨rs,QVp C,rfl⟩,H⟩
 rintro _ ⟨rs,L,rfl⟩;refine QBK ?_;refine QCl (E:=CE) (xs:=rs) a.queue fun hn hc=>?_
 have S:rs.length=M.queue.length:=by rw[<-L,O3]
 have N:∀{As R:List HP}{t:Bool},[Split [Ar CE a.queue rs,Each QGg rs M.queue] As R]->(∀As',As'=QRc a.queue M.queue::R->Ent B As' (Ret B (ss:=[.bool]) (fun t Bs=>t.1=M.queue.any (fun c=>c.id == id)/\Bs=GwL g a M) (t,())))->Ent B As (Ret B (ss:=[.bool]) (fun t Bs=>t.1=M.queue.any (fun c=>c.id == id)/\Bs=GwL g a M) (t,())):=fun h=>
  QBO [Ar CE a.queue rs,Each QGg rs M.queue] (QRc a.queue M.queue) (fun f d=>⟨rs,S,d⟩) (h _ rfl)
 refine QBa (fun n (x:Int) As'=>∃i:Nat,x=(i:Int)/\n=rs.length - i/\i<=rs.length/\M.queue.any (fun c=>c.id == id)=(M.queue.drop i).any (fun c=>c.id == id)/\As'=Ar CE a.queue rs::Each QGg rs M.queue::[GwB g (cOf a M) M.os,QA7 a.dev a.log a.idx M.k,Od.JObj a.dev a.jr M.J,QBD a.up M.m,QBF a.line M.ma,Ar Pn.TG a.tags M.ts,Pn.OPolls a.polls M.polls,Ar SLT a.slots M.slots,Ar HLT a.held M.held,Ar ALT a.alarms M.al,QaH a.cmd M.cmd]) rs.length ⟨0,rfl,rfl,Om,rfl,rfl⟩ ?_;rintro n x As' K ⟨i,rfl,rfl,hi,w,rfl⟩ y;have W:=V.queue.1;refine QAB (fun z=>?_) (fun z=>?_)
 ·have O:i<rs.length:=by have z:(i:Int)<(a.queue.n:Int):=z;omega
  obtain⟨⟨c,l,ss,o⟩,G⟩:∃r,rs[i]? = some r:=⟨_,Wa O⟩
  have T:M.queue[i]? = some c:=by rw[<-L,Ol,G];rfl
  have U:M.queue.drop i=c::M.queue.drop (i+1):=by rw[Ws Om];congr 1;exact (Wc.1 T).2
  rw[U,List.any_cons]at w;refine QAH (E:=CE) (xs:=rs) (s:=a.queue) (k:=i) (h1:=O) (h:=fun _ _=>?_);refine QAN (E:=CE) (xs:=rs) G (h:=?_);iterate 7 (refine QAa (E:=CE) (xs:=rs) G (h:=?_))
  (try dsimp only)
  refine QAL fun b=>?_;iterate 8 (refine xsq ?_)
  refine xgq (xif (fun h=>?_) (fun h=>?_))
  ·rw[h,Bool.true_or]at w;refine N fun As' e=>?_;subst e;exact QAK (GwL g a M) (QAD ⟨w.symm,rfl⟩)
  ·rw[h,Bool.false_or]at w;rw[QAE i Om];exact QCD 0 (y (rs.length - (i+1)) _ _ Om ⟨i+1,rfl,rfl,Om,w,rfl⟩)
 ·rw[Zg (by have z:¬(i:Int)<(a.queue.n:Int):=z;omega)]at w;refine N fun As' e=>?_;subst e;exact QAK (GwL g a M) (QAD ⟨w.symm,rfl⟩)
def QHk(M:GM)(p:PkV):GM:=
 if (QD6 p).2≠0 then { M with os:=M.os++QD7 p.id 4 }
 else if (Od.stateJ M.J.L p.id).1=2 then { M with os:=M.os++QD7 p.id (Od.stateJ M.J.L p.id).2 }
 else if Qb2 M p.id=true then M
 else if (Od.stateJ M.J.L p.id).1=1 then { M with os:=M.os++QD7 p.id 2 }
 else if M.queue.length>=8 then { M with os:=M.os++QD7 p.id 3 }
 else { M with queue:=M.queue++[(QD6 p).1] }
theorem Qai{p:PkV}(h:(QD6 p).2=0):Qdh (QD6 p).1:=by
 unfold QD6 at h|-
 obtain⟨f,h1⟩:pkE p p.body.length=0/\True:=by
  by_cases q:pkE p p.body.length=0
  ·exact⟨q,trivial⟩
  ·rw[We q]at h;exact absurd h q
 rw[Wb (by rw[f];decide)]at h|-;by_cases c:p.kind≠3
 ·rw[We c]at h;cases h
 rw[Wb c]at h|-;by_cases d:(p.body.getD 0 0).toNat<1\/(p.body.getD 0 0).toNat>247
 ·rw[We d]at h;cases h
 rw[Wb d]at h|-;by_cases a:(QAT (p.body.drop 1)).2≠0
 ·rw[We a]at h;exact absurd h a
 rw[Wb a]at h|-;by_cases b:QRP (QAT (p.body.drop 1)).1.code=false
 ·rw[We b]at h;cases h
 rw[Wb b];refine⟨QH2 _,fun e=>b ?_⟩;have e:(QAT (p.body.drop 1)).1.code=20:=e;rw[e];rfl
theorem MOk.queued{M:GM}(h:MOk M)(c:QLe)(hc:Qdh c)(hl:¬M.queue.length>=8):MOk { M with queue:=M.queue++[c] }:=
 ⟨h.clock,h.keep,h.slots,h.polls,h.tags,h.held,h.al,⟨by show (M.queue++[c]).length<=8;rw[Wd,W8];omega,fun x hx=>by
  rcases W4.1 hx with q|q
  ·exact h.queue.2 x q
  ·rw[Oe.1 q];exact hc⟩,h.poll,h.busy⟩
theorem QKa(g:Nat)(a:GwA)(M:GM)(o:MOk M)(U:M.os.length<=900000)(p:PkV)(s:Sl)(u:s.n<=s.c):Ct Pr 243 [.pointer (some ⟨g,0,none⟩),QgS p s] (.tup []) [] (GwL g a M) (RAr U8 s p.body) (fun _ Bs=>MOk (QHk M p)/\∃i,i.dev=a.dev/\Bs=GwL g i (QHk M p)):=by
 refine sp0 (QDv _ _ _ _ _ _ _) fun B I=>?_;haveI:Fro B s U8 p.body:=⟨I⟩;obtain⟨N,d⟩:∃N,QHk M p=N:=⟨_,rfl⟩;rw[d];unfold QHk at d;unfold QDv mf;dsimp only;refine QAL fun b=>?_;iterate 5 (refine xgq ?_)
 refine xgS s ?_;refine xcl (QVZ p s u) rdb ?_;have D:=@Qai p
 generalize QD6 p=C at *
 obtain⟨c,e⟩:=C;simp only at D d;rintro⟨v0,T,v2,v3,v4,k,ss,m,O,_⟩ _ ⟨rfl,rfl,rfl,rfl,rfl,z,rfl⟩;simp only at z;subst z;refine QLn (ca9 (QAL fun S=>?_));iterate 8 (refine xsq ?_)
 refine QAP (xgf (h:=xgq ?_));refine xd2 (Od.State_spec a.dev a.jr M.J p.id) ?_
 have q:∀{r:GM}{i:GwA}{R:List HP},r=N->MOk r->i.dev=a.dev->Ent B (GwL g i r++R) (Ret B (ss:=[]) (fun _ Bs=>MOk N/\∃i,i.dev=a.dev/\Bs=GwL g i N) ()):=by
  rintro r i R rfl h P;exact QAd (l:=GwL g i r) (QAD ⟨h,i,P,rfl⟩)
 refine QAM (xif (fun h=>?_) (fun h=>?_))
 ·rw[We (On.1 h)]at d;refine QAh (h:=xd0 (QDt g (cOf a M) M.os Om p.id 4) ?_);exact QAb (GwL g a { M with os:=M.os++QD7 p.id 4 }) (q d (o.core _ _ _ _ _ _) rfl)
 have G:O=0:=Si h
 rw[Wb (by rw[G];decide)]at d;refine QAM (xif (fun h=>?_) (fun h=>?_))
 ·rw[We (eq_of_beq h)]at d;refine QAh (h:=xd0 (QDt g (cOf a M) M.os Om p.id (Od.stateJ M.J.L p.id).2) ?_);exact QAb (GwL g a { M with os:=M.os++QD7 p.id (Od.stateJ M.J.L p.id).2 }) (q d (o.core _ _ _ _ _ _) rfl)
 rw[Wb (Wv h)]at d;refine xgq ?_;refine xcl (QXq g a M o p.id) rdb ?_;rintro⟨w,_⟩ _ ⟨A,rfl⟩;simp only at A;subst A;refine QFE (ca1 (QAM (xif (fun h=>?_) (fun h=>?_))))
 ·rw[We h]at d;exact QAb (GwL g a M) (q d o rfl)
 rw[Wb (by rw[h];decide)]at d;refine QAM (xif (fun h=>?_) (fun h=>?_))
 ·rw[We (eq_of_beq h)]at d;refine QAh (h:=xd0 (QDt g (cOf a M) M.os Om p.id 2) ?_);exact QAb (GwL g a { M with os:=M.os++QD7 p.id 2 }) (q d (o.core _ _ _ _ _ _) rfl)
 rw[Wb (Wv h)]at d
 have v:∀(f:QBs),QRc a.queue M.queue f->M.queue.length=a.queue.n:=fun f j=>by
  obtain⟨rs,hl,x,y,⟨zs,hx⟩,_⟩:=j;rw[<-hl];exact hx.read.1
 refine QB6 10 (P1:=QRc a.queue M.queue) v fun v=>?_;refine xgf (h:=QAM (QAB (fun h=>?_) (fun h=>?_)))
 ·have h:(a.queue.n:Int)>=8:=h;rw[We Om]at d;refine QAh (h:=xd0 (QDt g (cOf a M) M.os Om p.id 3) ?_);exact QAb (GwL g a { M with os:=M.os++QD7 p.id 3 }) (q d (o.core _ _ _ _ _ _) rfl)
 ·have h:¬(a.queue.n:Int)>=8:=h
  have H:¬M.queue.length>=8:=Om
  rw[Wb H]at d;refine QAP (xgf (h:=?_));iterate 5 (refine xgq ?_)
  refine xgS k (xgS ss (xgS m (QAL fun K=>?_)));refine QEZ 11 (P1:=QRc a.queue M.queue) (fun Bs=>∃rs:List QgO,rs.length=M.queue.length/\Bs=[Ar CE a.queue rs,Each QGg rs M.queue]) (fun f j=>?_) ?_
  ·obtain⟨rs,hl,u⟩:=j;exact⟨_,⟨rs,hl,rfl⟩,u⟩
  rintro _ ⟨rs,Q,rfl⟩;refine QBK ?_;refine QAb [Blk K (cmC c k ss m),Ar CE a.queue rs] ?_;refine QE4 (E:=CE) (c,k,ss,m) (hb:=Om) (h:=fun t=>?_);refine QBO [Ar BL k c.a.on,Ar W16 ss c.a.set,Ar PaE m c.a.parts] (QGg (c,k,ss,m) c) (fun f j=>⟨rfl,j⟩) ?_;refine QBO [Each QGg rs M.queue,QGg (c,k,ss,m) c] (Each QGg (rs++[(c,k,ss,m)]) (M.queue++[c])) (fun f j=>QEn j) ?_;refine QBO [Ar CE t (rs++[(c,k,ss,m)]),Each QGg (rs++[(c,k,ss,m)]) (M.queue++[c])] (QRc t (M.queue++[c])) (fun f j=>⟨_,by rw[Wd,Wd,Q];rfl,j⟩) ?_;refine xgs (cOf { a with queue:=t } M) (h:=?_);exact QAb (GwL g { a with queue:=t } { M with queue:=M.queue++[c] }) (q d (o.queued c (D G) H) rfl)
def Qgo(M:GM)(base:Int):GM:=
 if (Csr.saveM M.k.dev ⟨base,M.epoch,M.boots⟩).2=10 then { M with k:=⟨(Csr.saveM M.k.dev ⟨base,M.epoch,M.boots⟩).1,M.k.log,M.k.X⟩,ok:=false }
 else QRN { M with k:=⟨(Csr.saveM M.k.dev ⟨base,M.epoch,M.boots⟩).1,M.k.log,M.k.X⟩,acked:=if (Csr.saveM M.k.dev ⟨base,M.epoch,M.boots⟩).2=0 then base else M.acked }
def QF0(M:GM)(xs:Ab):GM:=
 if (QAo xs).2≠0 then M
 else if (QAo xs).1.kind=2 then
  (if (QWv M.m M.clock (QAo xs).1.epoch (QAo xs).1.seq).2=true then Qgo { M with m:=(QWv M.m M.clock (QAo xs).1.epoch (QAo xs).1.seq).1 } (QWv M.m M.clock (QAo xs).1.epoch (QAo xs).1.seq).1.base
   else { M with m:=(QWv M.m M.clock (QAo xs).1.epoch (QAo xs).1.seq).1 })
 else if (QAo xs).1.kind=3 then QHk M (QAo xs).1
 else M
theorem QbO(M:GM)(p:PkV):(QHk M p).ok=M.ok:=by
 unfold QHk
 (repeat' split)<;>rfl
theorem MOk.acks{M:GM}(h:MOk M)(k:Kn)(m:SeM)(acked:Int)(os:List QCj)(ok:Bool):MOk { M with k:=k,m:=m,acked:=acked,os:=os,ok:=ok }:=
 ⟨h.clock,h.keep,h.slots,h.polls,h.tags,h.held,h.al,h.queue,h.poll,h.busy⟩
theorem QaW(g:Nat)(a:GwA)(M:GM)(q:MOk M)(r:M.ok=true)(a6:M.os.length<=800000)(b:Sl)(xs:Ab)(hx:xs.length<=1000000)(W:b.n<=b.c) :
  CtP QC1 Pr 152 [.pointer (some ⟨g,0,none⟩),b.v] (.tup []) [] (GwL g a M) (RAr U8 b xs)
  (fun _ Bs=>(QF0 M xs).ok=true/\MOk (QF0 M xs)/\∃j,j.dev=a.dev/\Bs=GwL g j (QF0 M xs))
  (fun Bs=>(QF0 M xs).ok=false/\MOk (QF0 M xs)/\∃j,j.dev=a.dev/\Bs=GwL g j (QF0 M xs)):=by
 refine QfU (QEH _ _) fun B H=>?_;haveI:Fro B b U8 xs:=⟨H⟩;obtain⟨N,d⟩:∃N,QF0 M xs=N:=⟨_,rfl⟩;rw[d];unfold QF0 at d;unfold QEH mfP;dsimp only;refine xcl (QNl xs hx b W) rdb ?_
 generalize QAo xs=C at *
 obtain⟨p,e⟩:=C;simp only at d;rintro⟨v0,a0,v2,v3,v4,s,a1,_⟩ _ ⟨rfl,rfl,rfl,rfl,rfl,x,rfl⟩;simp only at x;subst x;refine QAz (ca7 (QAL fun Y=>?_));iterate 6 (refine xsq ?_)
 refine xif (fun h=>?_) (fun h=>?_)
 ·rw[We (On.1 h)]at d;subst d;exact QAK (GwL g a M) (QAD ⟨r,q,a,rfl,rfl⟩)
 rw[Wb (Si h)]at d;refine xgq (QAM (xif (fun t=>?_) (fun t=>QAM (xif (fun u=>?_) (fun u=>?_)))))
 ·rw[We (eq_of_beq t)]at d;refine QAP (xgf (h:=xgf (h:=xgq (xgq ?_))));refine xd1 (QUS a.up M.m M.clock p.epoch p.seq) ?_
  generalize QWv M.m M.clock p.epoch p.seq=A at *
  obtain⟨m',a3⟩:=A;simp only at d|-;refine QAM (xif (fun h=>?_) (fun h=>?_))
  ·rw[We h]at d;unfold Qgo at d;simp only at d
   have U:∀(K:Int->Int->Int->WP) (As:List HP) (F:List HP) [GwF g As (cOf a M) M.os F],Ent B As (K M.acked M.epoch M.boots)->Ent B As (QC3 (some ⟨g,0,none⟩) fun a2=>QAn (.I) (a2.add 11) fun(J:Int)=>QAn (.I) (a2.add 12) fun(L:Int)=>QAn (.I) (a2.add 13) fun(O:Int)=>K J L O):=by
    intro K As F f i;refine Ent.perm f.perm (xgw 0 fun w=>QAO ?_);rw[QA8,QA8,QA8];exact xgq (xgq (xgq (QRa g (cOf a M) M.os w (Ent.perm f.perm.symm i))))
   refine U _ _ _ (QAL fun Z=>?_);iterate 3 (refine xsq ?_)
   refine xgf (h:=xd1 (QTj a.up m') (xsq ?_));refine QAP (xgf (h:=xgq (xgq (xgq ?_))));refine QG8 5 fun P=>?_;have D:=P.saveC ⟨m'.base,M.epoch,M.boots⟩;refine xcl (Csr.Save_spec a.dev M.k.dev ⟨m'.base,M.epoch,M.boots⟩) rdb ?_
   generalize Csr.saveM M.k.dev ⟨m'.base,M.epoch,M.boots⟩=S at *
   obtain⟨o,a4⟩:=S;rintro⟨y,_⟩ _ ⟨z,rfl⟩;simp only at z d D;subst z;refine QAz (ca1 (QCh a.dev a.log a.idx ⟨o,M.k.log,M.k.X⟩ D (QP5 (fun he=>?_) (fun he=>?_))))
   ·rw[Wb he]at d;refine QBh (fun As'=>As'=GwL g a { M with m:=m',k:=⟨o,M.k.log,M.k.X⟩,acked:=if y=0 then m'.base else M.acked }) (fun K i=>?_) ?_
    ·refine xif (fun h0=>?_) (fun h0=>?_)
     ·rw[We (eq_of_beq h0)]at i;refine xgq (xgq (xgq ?_))
      have V:∀(K:WP) (As:List HP) (F:List HP) [GwF g As (cOf a M) M.os F],Ent B (GwB g (cOf a { M with acked:=m'.base }) M.os::F) K->Ent B As (QC3 (some ⟨g,0,none⟩) fun a5=>QBE (a5.add 11) (.I m'.base)<|QBE (a5.add 12) (.I M.epoch)<|QBE (a5.add 13) (.I M.boots)<|K):=by
       intro K As F f i;refine Ent.perm f.perm (xgw 0 fun w=>QAO ?_);rw[QA8,QA8,QA8];refine xsq (xsq (xsq ?_));exact QRa g (cOf a { M with acked:=m'.base }) M.os w i
      refine V _ _ _ ?_;exact QAK (GwL g a { M with m:=m',k:=⟨o,M.k.log,M.k.X⟩,acked:=m'.base }) (i _ rfl)
     ·rw[Wb (Wv h0)]at i;exact QAK (GwL g a { M with m:=m',k:=⟨o,M.k.log,M.k.X⟩,acked:=M.acked }) (i _ rfl)
    rintro _ rfl
    generalize (if y=0 then m'.base else M.acked)=G at *
    unfold QRN at d;refine xcl (QI7 g (cOf a { M with acked:=G }) M.os Om ⟨o,M.k.log,M.k.X⟩ m') rdb ?_;rintro _ _ rfl;subst d;refine QLn (ca0 ?_);exact QAK (GwL g a { M with k:=⟨o,M.k.log,M.k.X⟩,acked:=G,m:=(QBf M.epoch M.clock M.k.log m').1,os:=M.os++(QBf M.epoch M.clock M.k.log m').2 }) (QAD ⟨r,q.acks _ _ _ _ M.ok,a,rfl,rfl⟩)
   ·rw[We he]at d;subst d;exact QAK (GwL g a { M with m:=m',k:=⟨o,M.k.log,M.k.X⟩,ok:=false }) (QTr ⟨rfl,q.acks _ _ M.acked M.os false,a,rfl,rfl⟩)
  ·rw[Wb (by rw[h];decide)]at d;subst d;exact QAK (GwL g a { M with m:=m' }) (QAD ⟨r,q.acks M.k m' M.acked M.os M.ok,a,rfl,rfl⟩)
 ·rw[Wb (Wv t),We (eq_of_beq u)]at d;iterate 5 (refine xgq ?_)
  refine xgS s ?_;refine QAb [Ar U8 s p.body] (QCl (E:=U8) (xs:=p.body) s fun _ Q=>?_);refine xcl (QKa g a M q Om p s Q) rdb ?_;rintro _ _ ⟨R,j,T,rfl⟩;subst d;exact QFE (ca0 (QAd (l:=GwL g j (QHk M p)) (QAD ⟨by rw[QbO];exact r,R,j,T,rfl⟩)))
 ·rw[Wb (Wv t),Wb (Wv u)]at d;subst d;exact QAK (GwL g a M) (QAD ⟨r,q,a,rfl,rfl⟩)
def Qha(nm:ByteArray):List Pn.Tag->Int->Int
 | [],_=>-1
 | t::ts,i=>if (t.name.toList == nm.toList)=true then i else Qha nm ts (i+1)
def Qh2(ts:List Pn.Tag)(nm:ByteArray):Int:=Qha nm ts 0
def Qiy(M:GM)(i:Nat)(nm:ByteArray):GM:=
 if (M.al.getD i ⟨0,false⟩).waits=true then
  { M with al:=M.al.set i ⟨(M.al.getD i ⟨0,false⟩).state,false⟩,k:=(QBi M.clock M.k M.lost ⟨2,0,nm,4,0⟩).k,lost:=(QBi M.clock M.k M.lost ⟨2,0,nm,4,0⟩).lost,ok:=(QBi M.clock M.k M.lost ⟨2,0,nm,4,0⟩).ok }
 else M
def QdB(M:GM)(nm:ByteArray):GM:=if Qh2 M.ts nm<0 then M else Qiy M (Qh2 M.ts nm).toNat nm
def doG(b:LM)(X:XM)(span:Int)(a:AskV):RepV:=
 if a.code≠20 then ⟨1,[],[],[]⟩ else match Qe1 b X span a.parts with
 | none=>⟨2,[],[],[]⟩
 | some fs=>⟨0,[],[],fs⟩
def QkR(a:UInt8)(e:Int):Ab:=[a ||| 128,if e=20 then 1 else 3]
def Qj1(k:Kn)(span:Int)(pdu:Ab):Option Ab:=
 if (QAT pdu).2=0 then
  (if (doG k.log k.X span (QAT pdu).1).e (QAT pdu).1≠0 then none else some (QiJ (QAT pdu).1 (doG k.log k.X span (QAT pdu).1)))
 else some (QkR (pdu.getD 0 0) (QAT pdu).2)
def Qbk(M:GM)(k:Kn)(f:Qjn):GM:=match Qj1 k M.span f.pdu with
 | none=>{ M with k:=k }
 | some p=>{ M with k:=k,os:=M.os++[(3,(QhF (UInt16.ofNat f.tr) f.unit p).2)] }
def QWS(M:GM)(xs:Ab):GM:=
 if (QiS xs).err≠0\/(QiS xs).used≠xs.length\/((QiS xs).pdu.getD 0 0).toNat>=128 then M
 else if (QJ9 M.k).2=true then Qbk M (QJ9 M.k).1 (QiS xs) else { M with k:=(QJ9 M.k).1,ok:=false }
theorem QWP{xs:Ab}(h:(QAT xs).2=0):(QAT xs).1.e=0:=by
 unfold QAT at h|-;repeat' split at h
 all_goals first|(exfalso;revert h;decide)|skip
 ·contradiction
 ·contradiction
 ·rename_i b c d f a
  rw[Wb b,Wb c,Wb d,Wb f,Wb a];exact O2.1 a
theorem QXu(a:AskV)(xs:Ab):QOG (QBq a xs).1.set:=by
 have nil:QOG []:=fun v h=>by cases h
 unfold QBq QTK;repeat' split
 all_goals try exact nil
 unfold QBl;repeat' split
 all_goals try exact nil
 unfold QCZ;split
 ·exact QMm _
 ·exact nil
theorem QXF(m:MaM)(xs:Ab):QOG (QFc m xs).1.r.set/\(((QFc m xs).1.is=false/\(QFc m xs).2=m)\/((QFc m xs).1.is=true/\0<m.tries/\(QFc m xs).2=QCU m)):=by
 have nil:QOG []:=fun v h=>by cases h
 unfold QFc;split
 ·exact⟨nil,.inl ⟨rfl,rfl⟩⟩
 rename_i h
 (try simp only)
 split
 ·exact⟨nil,.inl ⟨rfl,rfl⟩⟩
 split
 ·exact⟨nil,.inl ⟨rfl,rfl⟩⟩
 ·exact⟨QXu _ _,.inr ⟨rfl,Om,rfl⟩⟩
abbrev GwR(g:Nat)(a:GwA)(M:GM)(R:List HP):List HP:=GwB g (cOf a M) M.os::QA7 a.dev a.log a.idx M.k::Od.JObj a.dev a.jr M.J::QBD a.up M.m::QBF a.line M.ma::Ar Pn.TG a.tags M.ts::Pn.OPolls a.polls M.polls::Ar SLT a.slots M.slots::Ar HLT a.held M.held::Ar ALT a.alarms M.al::QRc a.queue M.queue::QaH a.cmd M.cmd::R
def QY4(M:GM)(xs:Ab):GM:=
 if (QFc M.ma xs).1.is=true then QDh { M with ma:=(QFc M.ma xs).2 } (QFc M.ma xs).1 else { M with ma:=(QFc M.ma xs).2 }
structure EvV where
 kind:Int
 now:Int
 data:Ab
 name:ByteArray
def QFe(M:GM)(e:EvV):GM:=
 if e.kind=1 then QEU M e.now
 else if e.kind=2 then QY4 M e.data
 else if e.kind=3 then QF0 M e.data
 else if e.kind=4 then QWS M e.data
 else if e.kind=5 then QdB M e.name
 else M
theorem MOk.stopped{M:GM}(h:MOk M):MOk { M with ma:=QCU M.ma }:=
 ⟨h.clock,h.keep,h.slots,h.polls,h.tags,h.held,h.al,h.queue,h.poll,fun q=>absurd q (by show ¬(0:Int)<0;decide)⟩
theorem QYI{φ:WP}(h:Ent B (QP3 nilS []::As) φ):Ent B As φ:=by
 refine QAf OuE ?_;refine QBO [Ar OuE ⟨none,0,0⟩ []] (QP3 nilS []) (fun g c=>⟨[],rfl,?_⟩) h;obtain⟨a,b,d,k,f,i,j⟩:=c;exact⟨a,b,d,⟨b,fun _=>none,trivial,trivial,fun _=>.inr rfl,Sub.refl _,fun _ _ e=>by cases e⟩,f,i,j⟩
def QB2(M:GM)(e:EvV):GM×List QCj:=
 if M.stopped=true then (M,[])
 else ({ QFe { M with os:=[] } e with os:=[],stopped:=!(QFe { M with os:=[] } e).ok },if (QFe { M with os:=[] } e).ok=true then (QFe { M with os:=[] } e).os else [])
theorem QS0(q p:Ac)(l:LM):Ct Pr 41 [.pointer q] .one [.I] [QAQ q p l] emp (fun t Bs=>t.1=l.lo/\Bs=[QAQ q p l]):=by
 refine sp1 (QDk _) fun B _=>?_;unfold QDk mf;dsimp only;refine QZQ 0 fun hi b s cs i d n=>?_;subst i;refine QAO (xgS s (xif (fun h=>?_) (fun h=>?_)))
 ·have h0:cs.length=0:=by simp at h;omega
  have e:l.lo=l.first:=by
   unfold LM.lo
   cases hl:l.segs with
   | nil=>rfl
   | cons x r=>have:=d.len;rw[hl,Wl]at this;omega
  exact QAO (xgq (QAw (p:=p) (l:=l) b s cs hi (QAD ⟨e.symm,rfl⟩)))
 ·have h0:0<cs.length:=by simp at h;omega
  obtain⟨j,f⟩:∃c,cs[0]? = some c:=⟨_,Wa h0⟩;obtain⟨g,a⟩:∃c,l.segs[0]? = some c:=⟨_,Wa (by rw[<-d.len];exact h0)⟩
  have e:l.lo=g.first:=by
   unfold LM.lo
   cases hl:l.segs with
   | nil=>rw[hl]at a;cases a
   | cons x r=>rw[hl]at a;simp at a;rw[a]
  have m:=d.each 0 j g f a;refine QAO (xgS s ?_);refine QAH (E:=SEG) (xs:=cs) (s:=s) (k:=0) (h1:=h0) (h:=fun _ _=>?_);refine QAa (E:=SEG) (xs:=cs) f (h:=?_);exact QAw (p:=p) (l:=l) b s cs hi (QAD ⟨by rw[e,<-m.2.1],rfl⟩)
structure StV where
 next:Int
 safe:Int
 first:Int
 acked:Int
 epoch:Int
 boots:Int
 lost:Int
 busy:Bool
def QYE(M:GM):StV:=⟨M.k.log.next,M.k.log.safe,M.k.log.lo,M.acked,M.epoch,M.boots,M.lost,decide (M.ma.tries>0)⟩
abbrev StT:List Sh:=[.I,.I,.I,.I,.I,.I,.I,.bool]
theorem QDd(g:Nat)(a:GwA)(M:GM):Ct Pr 13 [.pointer (some ⟨g,0,none⟩)] .agg StT (GwL g a M) emp
  (fun t Bs=>StV.mk t.1 t.2.1 t.2.2.1 t.2.2.2.1 t.2.2.2.2.1 t.2.2.2.2.2.1 t.2.2.2.2.2.2.1 t.2.2.2.2.2.2.2.1=QYE M/\Bs=GwL g a M):=by
 refine QAm (ss:=StT) (φ:=fun K=>(QCG _ K).1) (fun h=>cf _ rfl Kr h) fun B _=>?_;show Ent B (GwL g a M) (QCG (some ⟨g,0,none⟩) fun c d e f i j l m=>Ret B (ss:=StT) (fun t Bs=>StV.mk t.1 t.2.1 t.2.2.1 t.2.2.2.1 t.2.2.2.2.1 t.2.2.2.2.2.1 t.2.2.2.2.2.2.1 t.2.2.2.2.2.2.2.1=QYE M/\Bs=GwL g a M) (c,d,e,f,i,j,l,m,()));unfold QCG mf;dsimp only;refine QAL fun b=>QAP ?_;iterate 8 (refine xgf (h:=?_))
 refine xcl (QKZ a.dev a.log a.idx M.k) rdb ?_;rintro⟨r,_⟩ _ ⟨h1,rfl⟩;simp only at h1;subst h1;refine QAz (ca1 ?_);iterate 7 (refine xgc (h:=?_))
 refine QG8 0 fun n=>?_;refine xd1 (QGl a.log a.dev M.k.log) ?_;iterate 6 (refine xgc (h:=?_))
 refine xd1 (QS0 a.log a.dev M.k.log) ?_;refine QCh a.dev a.log a.idx M.k n ?_;iterate 5 (refine xgc (h:=?_))
 refine xd1 (QTi a.line M.ma) ?_;iterate 4 (refine xgc (h:=?_))
 iterate 8 (refine xsq ?_)
 iterate 8 (refine xgq ?_)
 exact QAK (GwL g a M) (QAD ⟨rfl,rfl⟩)
theorem QQF(g:Nat)(a:GwA)(M:GM):Ct Pr 18 [.pointer (some ⟨g,0,none⟩)] .one [.ptr] (GwL g a M) emp (fun t Bs=>t.1=a.log/\Bs=GwL g a M):=by
 refine sp1 (QEj _) fun B _=>?_;unfold QEj mf;dsimp only;exact xgf (h:=QAK (GwL g a M) (QAD ⟨rfl,rfl⟩))
end Go.Cx
