import Derived.Test.YthbhbkjkclhkgaaGreatDoorGK
import Derived.Test.YthbhbkjkclhkgaaGreatDoorMX
namespace Go.Cx
open Go Go.Cf
set_option linter.unusedVariables false
set_option maxRecDepth 100000
set_option synthInstance.maxSize 4000
set_option synthInstance.maxHeartbeats 200000
variable {B:QBE}{As F:List HP}
def QC2(k n:Int):Int:=if n<1 then 0 else if k.tmod n<0 then k.tmod n+n else k.tmod n
theorem QVE{k n:Int}(h:1≤n):0≤QC2 k n∧QC2 k n<n:=by
 unfold QC2;have h1:=Int.tmod_lt_of_pos k (show 0<n by omega)
 have h2 : -n<k.tmod n:=by
  have:=Int.lt_tmod_of_pos k (show 0<n by omega);omega
 rw[if_neg (by omega)];split<;>omega
theorem QFV(k n:Int)(hn:i64 n):Ct Pr 12 [.I k,.I n] .one [.I] [] emp (fun t Bs=>t.1=QC2 k n∧Bs=[]):=by
 refine sp1 (QUc _ _) fun B _=>?_;unfold QUc mf;dsimp only;refine QAA (fun h=>QAD ⟨?_,rfl⟩) (fun h=>?_)
 ·unfold QC2;rw[if_pos h]
 have h1:=Int.tmod_lt_of_pos k (show 0<n by omega)
 have h2 : -n<k.tmod n:=by
  have:=Int.lt_tmod_of_pos k (show 0<n by omega);omega
 have hn1:=hn.2;refine QA6 (by omega) (QAS (fun(x:Int) As'=>x=QC2 k n∧As'=[]) (fun K hK=>QAA (fun g=>hK _ _ ⟨?_,rfl⟩) (fun g=>hK _ _ ⟨?_,rfl⟩)) ?_)
 ·unfold QC2;rw[if_neg h,if_pos g,QAB _ (by omega) (by omega)]
 ·unfold QC2;rw[if_neg h,if_neg g]
 ·rintro x _ ⟨hx,rfl⟩;exact QAD ⟨hx,rfl⟩
structure BnC where
 cf:Cfg
 ts:Sl
 d:Option Addr
 g:Option Addr
 now:Int
 ls:Sl
 sent:Int
 epoch:Int
 boots:Int
 fs:List Sl
 count:List Int
 home:List Int
 told:Int
 wrong:Bool
abbrev BnC.f(c:BnC)(i:Nat):Value:=(c.fs.getD i nilS).v
abbrev BnC.n(c:BnC)(i:Nat):Value:=.I (c.count.getD i 0)
abbrev BnC.h(c:BnC)(i:Nat):Value:=.I (c.home.getD i 0)
abbrev BnC.v(c:BnC):List Value:=[.I c.cf.timeout,.I c.cf.retries,.I c.cf.window,.I c.cf.resend,.I c.cf.span,.I c.cf.keep,c.ts.v,.pointer c.d,.pointer c.g,.I c.now,c.ls.v,.I c.sent,.I c.epoch,.I c.boots,
 c.f 0,c.f 1,c.f 2,c.f 3,c.f 4,c.f 5,c.f 6,c.f 7,c.f 8,c.f 9,c.f 10,c.f 11,c.f 12,
 c.n 0,c.n 1,c.n 2,c.n 3,c.n 4,c.n 5,c.n 6,c.n 7,c.n 8,c.n 9,c.n 10,c.n 11,c.n 12,
 c.h 0,c.h 1,c.h 2,c.h 3,c.h 4,c.h 5,c.h 6,c.h 7,c.h 8,c.h 9,c.h 10,c.h 11,c.h 12,.I c.told,.bool c.wrong]
structure BnC.Ok(c:BnC):Prop where
 f:c.fs.length=13
 n:c.count.length=13
 h:c.home.length=13
theorem Qcw{i:Nat}(h:i<13):i=0∨i=1∨i=2∨i=3∨i=4∨i=5∨i=6∨i=7∨i=8∨i=9∨i=10∨i=11∨i=12:=by omega
theorem QgN{α:Type}{l:List α}(h:l.length=13):∃a0 a1 a2 a3 a4 a5 a6 a7 a8 a9 a10 a11 a12,l=[a0,a1,a2,a3,a4,a5,a6,a7,a8,a9,a10,a11,a12]:=by
 match l,h with
 | [a0,a1,a2,a3,a4,a5,a6,a7,a8,a9,a10,a11,a12],_=>exact⟨a0,a1,a2,a3,a4,a5,a6,a7,a8,a9,a10,a11,a12,rfl⟩
theorem BnC.get_f(c:BnC){i:Nat}(h:i<13):c.v[14+i]? = some (c.f i):=by
 rcases Qcw h with rfl|rfl|rfl|rfl|rfl|rfl|rfl|rfl|rfl|rfl|rfl|rfl|rfl<;>rfl
theorem BnC.get_n(c:BnC){i:Nat}(h:i<13):c.v[27+i]? = some (c.n i):=by
 rcases Qcw h with rfl|rfl|rfl|rfl|rfl|rfl|rfl|rfl|rfl|rfl|rfl|rfl|rfl<;>rfl
theorem BnC.get_h(c:BnC){i:Nat}(h:i<13):c.v[40+i]? = some (c.h i):=by
 rcases Qcw h with rfl|rfl|rfl|rfl|rfl|rfl|rfl|rfl|rfl|rfl|rfl|rfl|rfl<;>rfl
theorem BnC.set_f(c:BnC)(ok:c.Ok){i:Nat}(h:i<13)(x:Sl):c.v.set (14+i) x.v=({ c with fs:=c.fs.set i x }:BnC).v:=by
 obtain⟨a0,a1,a2,a3,a4,a5,a6,a7,a8,a9,a10,a11,a12,e⟩:=QgN ok.f;unfold BnC.v BnC.f;rw[e];rcases Qcw h with rfl|rfl|rfl|rfl|rfl|rfl|rfl|rfl|rfl|rfl|rfl|rfl|rfl<;>rfl
theorem BnC.set_n(c:BnC)(ok:c.Ok){i:Nat}(h:i<13)(x:Int):c.v.set (27+i) (.I x)=({ c with count:=c.count.set i x }:BnC).v:=by
 obtain⟨a0,a1,a2,a3,a4,a5,a6,a7,a8,a9,a10,a11,a12,e⟩:=QgN ok.n;unfold BnC.v BnC.n;rw[e];rcases Qcw h with rfl|rfl|rfl|rfl|rfl|rfl|rfl|rfl|rfl|rfl|rfl|rfl|rfl<;>rfl
theorem BnC.set_h(c:BnC)(ok:c.Ok){i:Nat}(h:i<13)(x:Int):c.v.set (40+i) (.I x)=({ c with home:=c.home.set i x }:BnC).v:=by
 obtain⟨a0,a1,a2,a3,a4,a5,a6,a7,a8,a9,a10,a11,a12,e⟩:=QgN ok.h;unfold BnC.v BnC.h;rw[e];rcases Qcw h with rfl|rfl|rfl|rfl|rfl|rfl|rfl|rfl|rfl|rfl|rfl|rfl|rfl<;>rfl
abbrev QIp:=List (Sl×List UInt8)
abbrev QAk(p:QIp):HP:=Each (fun(r:Sl×List UInt8) (o:Sl×List UInt8)=>Ar U8 r.1 o.2) p p
def Src(p:QIp)(s:Sl)(bs:List UInt8):Prop:=(s=nilS∧bs=[])∨(s,bs)∈p
theorem Src.more{p q:QIp}{s:Sl}{bs:List UInt8}(h:Src p s bs):Src (p++q) s bs:=h.imp id fun h=>List.mem_append_left _ h
theorem QGg{p:QIp}{s:Sl}{bs:List UInt8}(h:Src p s bs)(j:Nat){F1:List HP}[q:Pick j F (QAk p) F1]:Rds B F (RAr U8 s bs):=by
 rcases h with⟨rfl,rfl⟩|h
 ·exact QKF fun _ _ _ _ _=>⟨rfl,rfl,fun h=>absurd h (Nat.lt_irrefl 0)⟩
 ·obtain⟨i,hi⟩:=List.getElem?_of_mem h;exact QK1 (B:=B) j (P:=QAk p) (fun g hg=>QDc (S:=fun(r:Sl×List UInt8) (o:Sl×List UInt8) g=>RAr U8 r.1 o.2 g) (fun _ _ _ _ h s=>h.mono s) (fun _ _ _ h=>h.read) hg hi hi) (fun _ _ h s=>h.mono s)
theorem QJW{p:QIp}{s:Sl}{bs:List UInt8}(h:Src p s bs){f:QBe}(hf:QAk p f):s.n≤s.c∧bs.length=s.n:=by
 rcases h with⟨rfl,rfl⟩|h
 ·exact⟨Nat.le_refl _,rfl⟩
 ·obtain⟨i,hi⟩:=List.getElem?_of_mem h;exact QDc (S:=fun(r:Sl×List UInt8) (o:Sl×List UInt8) g=>r.1.n≤r.1.c∧o.2.length=r.1.n) (fun _ _ _ _ h s=>h) (fun _ _ _ ⟨zs,h⟩=>⟨h.cap,h.read.1⟩) hf hi hi
structure BM where
 cf:Cfg
 now:Int
 last:List UInt8
 sent:Int
 epoch:Int
 boots:Int
 frames:List (List UInt8)
 count:List Int
 home:List Int
 told:Int
 wrong:Bool
structure BM.Ok(b:BM):Prop where
 f:b.frames.length=13
 n:b.count.length=13
 h:b.home.length=13
abbrev bnC(b:BM)(ts:Sl)(d g:Option Addr)(ls:Sl)(fs:List Sl):BnC:=⟨b.cf,ts,d,g,b.now,ls,b.sent,b.epoch,b.boots,fs,b.count,b.home,b.told,b.wrong⟩
structure Lies(b:BM)(p:QIp)(ls:Sl)(fs:List Sl):Prop where
 last:Src p ls b.last
 len:fs.length=13
 each:∀i,i<13→Src p (fs.getD i nilS) (b.frames.getD i [])
 short:∀r∈p,r.2.length≤1000000
theorem Lies.more{b:BM}{p q:QIp}{ls:Sl}{fs:List Sl}(h:Lies b p ls fs)(hq:∀r∈q,r.2.length≤1000000):Lies b (p++q) ls fs:=⟨h.last.more,h.len,fun i hi=>(h.each i hi).more,fun r hr=>(List.mem_append.1 hr).elim (h.short r) (hq r)⟩
theorem Src.short{p:QIp}{s:Sl}{bs:List UInt8}(h:Src p s bs)(hp:∀r∈p,r.2.length≤1000000):bs.length≤1000000:=by
 rcases h with⟨_,rfl⟩|h
 ·exact Nat.zero_le _
 ·exact hp _ h
def BnO(k:Nat)(ts:Sl)(d g:Option Addr)(b:BM):HP:=fun h=>b.Ok∧∃p ls fs,Lies b p ls fs∧QBl [Blk k (bnC b ts d g ls fs).v,QAk p] h
theorem xbn(j:Nat){k:Nat}{ts:Sl}{d g:Option Addr}{b:BM}{φ:WP}[p:Pick j As (BnO k ts d g b) F](h:∀p ls fs,b.Ok→Lies b p ls fs→Ent B (Blk k (bnC b ts d g ls fs).v::QAk p::F) φ):Ent B As φ:=by
 refine QFI j (fun Bs=>∃p ls fs,b.Ok∧Lies b p ls fs∧Bs=[Blk k (bnC b ts d g ls fs).v,QAk p]) (fun f hf=>?_) ?_
 ·obtain⟨ho,p,ls,fs,hl,hf⟩:=hf;exact⟨_,⟨p,ls,fs,ho,hl,rfl⟩,hf⟩
 ·rintro _ ⟨p,ls,fs,ho,hl,rfl⟩;exact QBM (h p ls fs ho hl)
theorem QMj(k:Nat)(ts:Sl)(d g:Option Addr)(b:BM)(p:QIp)(ls:Sl)(fs:List Sl){G:List HP}[s:Split [Blk k (bnC b ts d g ls fs).v,QAk p] As G]{φ:WP}(ho:b.Ok)(hl:Lies b p ls fs)(h:Ent B (BnO k ts d g b::G) φ):Ent B As φ:=
 QBQ [Blk k (bnC b ts d g ls fs).v,QAk p] (BnO k ts d g b) (fun f hf=>⟨ho,p,ls,fs,hl,hf⟩) h
theorem Qft{q:Option Addr}{a:Addr}{n:Nat}{i:Int}{sz:Nat}{K:Addr→WP}(hq:q=some a)(h0:0≤i)(h1:i<n)(h:Ent B As (K (a.add (i.toNat*sz)))):Ent B As (QKB q n i sz K):=fun w hw=>⟨a,hq,h0,h1,h w hw⟩
theorem Qbf(g o n:Nat):Addr.add ⟨g,o,none⟩ (n*1)=⟨g,o+n,none⟩:=by
 rw[Nat.mul_one];unfold Addr.add;split
 ·rename_i h;rw[h];rfl
 ·rfl
theorem xng{k off:Nat}{s:Sh}{K:Addr→s.ty→WP}(h:Ent B As (QAq s ⟨k,off,none⟩ (K ⟨k,0,none⟩))):Ent B As (QCe (some ⟨k,0,none⟩) fun a=>QAq s (a.add off) (K a)):=QAQ (by rw[QAz];exact h)
theorem xns{k off:Nat}{v:Value}{K:WP}(h:Ent B As (QBG ⟨k,off,none⟩ v K)):Ent B As (QCe (some ⟨k,0,none⟩) fun a=>QBG (a.add off) v K):=QAQ (by rw[QAz];exact h)
theorem xni{k off n:Nat}{i:Int}{K:Addr→WP}(h0:0≤i)(h1:i<n)(h:Ent B As (K ⟨k,off+i.toNat,none⟩)):Ent B As (QCe (some ⟨k,0,none⟩) fun a=>QKB (some (a.add off)) n i 1 K):=QAQ (Qft rfl h0 h1 (by rw[QAz,Qbf];exact h))
def QfI(b:BM)(i:Nat)(p:List UInt8):Bool:=
 if IntKind.i64.wrap (b.count.getD i 0+1)>IntKind.i64.wrap (1+b.cf.retries) then true
 else if b.count.getD i 0>0∧(b.home.getD i 0≠b.boots∨b.frames.getD i []≠p) then true else b.wrong
abbrev Qd2(b:BM)(i:Nat)(p:List UInt8)(w:Bool):BM:={ b with last:=p,frames:=b.frames.set i p,home:=b.home.set i b.boots,count:=b.count.set i (IntKind.i64.wrap (b.count.getD i 0+1)),wrong:=w }
def QNN(b:BM)(p:List UInt8):BM:=
 if (QAo p).1≠0∨(QAX (QAo p).2.2).2≠0∨((QAo p).2.1.toNat:Int)≠1 then { b with last:=p,wrong:=true }
 else if (QAX (QAo p).2.2).1.code≠6 then { b with last:=p,wrong:=b.wrong||((QAX (QAo p).2.2).1.code != 4) }
 else if (QAX (QAo p).2.2).1.set.getD 0 0<1∨(QAX (QAo p).2.2).1.set.getD 0 0>12∨(QAX (QAo p).2.2).1.addr≠3 then { b with last:=p,wrong:=true }
 else Qd2 b ((QAX (QAo p).2.2).1.set.getD 0 0).toNat p (QfI b ((QAX (QAo p).2.2).1.set.getD 0 0).toNat p)
theorem Qa4{b:BM}(h:b.Ok)(p:List UInt8):(QNN b p).Ok:=by
 unfold QNN;repeat' split
 ·exact⟨h.f,h.n,h.h⟩
 ·exact⟨h.f,h.n,h.h⟩
 ·exact⟨h.f,h.n,h.h⟩
 ·exact⟨by show (b.frames.set _ _).length=13;rw[List.length_set];exact h.f,by show (b.count.set _ _).length=13;rw[List.length_set];exact h.n,by show (b.home.set _ _).length=13;rw[List.length_set];exact h.h⟩
theorem QLx(xs:List UInt8):(QAo xs).2.2.length≤1000:=by
 unfold QAo;repeat' split
 all_goals try exact Nat.zero_le _
 simp only[List.length_tail]
 have:(QDR xs).2.length≤xs.length:=by
  unfold QDR;repeat' split
  all_goals simp
 omega
theorem Lies.one{b b':BM}{p:QIp}{ls:Sl}{fs:List Sl}(h:Lies b p ls fs)(hf:b'.frames=b.frames){s:Sl}(hs:Src p s b'.last):Lies b' p s fs:=⟨hs,h.len,by rw[hf];exact h.each,h.short⟩
theorem QO0{α:Type}(l:List α)(i j:Nat)(x d:α)(h:i<l.length):(l.set i x).getD j d=if i=j then x else l.getD j d:=by
 rw[List.getD_eq_getElem?_getD,List.getD_eq_getElem?_getD,List.getElem?_set];split
 ·rename_i e;subst e;simp[h]
 ·rfl
theorem BnC.len(c:BnC):c.v.length=55:=rfl
section
variable {k:Nat}{c:BnC}{i:Nat}{K:WP}{R:List HP}
theorem xsf(ok:c.Ok)(hi:i<13){x:Sl}(h:Ent B (Blk k ({ c with fs:=c.fs.set i x }:BnC).v::R) K):Ent B (Blk k c.v::R) (QBG ⟨k,14+i,none⟩ x.v K):=
 QHJ (cs:=c.v) (List.Perm.refl _) (by rw[BnC.len];omega) rfl (List.Perm.refl _) (by rw[BnC.set_f c ok hi];exact h)
theorem xsn(ok:c.Ok)(hi:i<13){x:Int}(h:Ent B (Blk k ({ c with count:=c.count.set i x }:BnC).v::R) K):Ent B (Blk k c.v::R) (QBG ⟨k,27+i,none⟩ (.I x) K):=
 QHJ (cs:=c.v) (List.Perm.refl _) (by rw[BnC.len];omega) rfl (List.Perm.refl _) (by rw[BnC.set_n c ok hi];exact h)
theorem xsh(ok:c.Ok)(hi:i<13){x:Int}(h:Ent B (Blk k ({ c with home:=c.home.set i x }:BnC).v::R) K):Ent B (Blk k c.v::R) (QBG ⟨k,40+i,none⟩ (.I x) K):=
 QHJ (cs:=c.v) (List.Perm.refl _) (by rw[BnC.len];omega) rfl (List.Perm.refl _) (by rw[BnC.set_h c ok hi];exact h)
end
theorem QXg(k:Nat)(ts:Sl)(d g:Option Addr)(b:BM)(p:QIp)(ls:Sl)(fs:List Sl)(ho:b.Ok)(hl:Lies b p ls fs)(s:Sl)(bs:List UInt8)(hs:Src p s bs) :
  Ct Pr 111 [.pointer (some ⟨k,0,none⟩),s.v] (.tup []) [] [Blk k (bnC b ts d g ls fs).v,QAk p] emp
  (fun _ Bs=>∃fs',Lies (QNN b bs) p s fs'∧Bs=[Blk k (bnC (QNN b bs) ts d g s fs').v,QAk p]):=by
 refine sp0 (QGO _ _) fun B _=>?_;obtain⟨N,hN⟩:∃N,QNN b bs=N:=⟨_,rfl⟩;rw[hN];unfold QNN at hN;unfold QGO mf;dsimp only;refine QBx 1 (P1:=QAk p) (fun f hf=>QJW hs hf) fun hcap=>?_;refine xns (xsq ?_);refine QAU [Blk k (bnC { b with last:=bs } ts d g s fs).v,QAk p] ?_;refine xcl (pre:=[]) (QGc s bs hcap.1) (QGg hs 1) ?_;have hln:=QLx bs
 generalize QAo bs=o at *
 obtain⟨e,u,pdu⟩:=o;simp only at hN hln;rintro⟨r,s0,r1,_⟩ _ ⟨hr,hr1,rfl⟩;simp only at hr hr1;subst hr hr1;refine QA5 (ca3 (QCm (E:=U8) (xs:=pdu) s0 fun _ hsc=>?_));refine xcl (QF1 pdu (by omega) s0 hsc) rdb ?_;have hae:=@QU9 pdu;have haw:=QHW pdu
 generalize QAX pdu=C at *
 obtain⟨A,e2⟩:=C;simp only at hN hae haw;rintro⟨u0,u1,u2,so,ss,sp,e',_⟩ _ ⟨rfl,rfl,rfl,h6,rfl⟩;simp only at h6;subst h6;refine QQA (ca7 (QAL fun b1=>?_));iterate 6 (refine xsq ?_)
 have fin:∀{b':BM}{R:List HP},b'=N→b'.frames=b.frames→b'.last=bs→Ent B (Blk k (bnC b' ts d g s fs).v::QAk p::R) (Ret B (ss:=[]) (fun _ Bs=>∃fs',Lies N p s fs'∧Bs=[Blk k (bnC N ts d g s fs').v,QAk p]) ()):=by
  rintro b' R rfl h1 h2;exact QAK [Blk k (bnC b' ts d g s fs).v,QAk p] (QAD ⟨fs,hl.one h1 (by rw[h2];exact hs),rfl⟩)
 refine xif (fun h=>?_) (fun h=>?_)
 ·rw[if_pos (by simpa [or_assoc]using h)]at hN;refine xns (xsq ?_);exact QAU [Blk k (bnC { b with last:=bs,wrong:=true } ts d g s fs).v,QAk p] (fin hN rfl rfl)
 have hno:¬(r1≠0∨e'≠0∨(u.toNat:Int)≠1):=by
  simp[or_assoc]at h;rintro (q|q|q)
  ·exact q h.1.1
  ·exact q h.1.2
  ·exact q h.2
 rw[if_neg hno]at hN;have he0:e'=0:=Classical.not_not.1 fun q=>hno (.inr (.inl q));refine xgq (xif (fun h6=>?_) (fun h6=>?_))
 ·rw[if_pos (bne_iff_ne.1 h6)]at hN;refine xng (xgq (QAJ (xif (fun hw=>?_) (fun hw=>xgq ?_))))
  ·refine xns (xsq ?_);have hw:b.wrong=true:=hw;refine QAU [Blk k (bnC { b with last:=bs,wrong:=true } ts d g s fs).v,QAk p] (fin ?_ rfl rfl);rw[←hN,hw,Bool.true_or]
  ·refine xns (xsq ?_);have hw:b.wrong=false:=hw;refine QAU [Blk k (bnC { b with last:=bs,wrong:=A.code != 4 } ts d g s fs).v,QAk p] (fin ?_ rfl rfl);rw[←hN,hw,Bool.false_or]
 have h6:A.code=6:=by simpa using h6
 rw[if_neg (by rw[h6];decide)]at hN
 have hns:A.set.length=1:=by
  have h2:=(QB3 (hae he0)).2;omega
 have hw0:=haw (A.set.getD 0 0) (by rw[List.getD_eq_getElem?_getD,List.getElem?_eq_getElem (by omega)];exact List.getElem_mem _);have hg0:A.set[0]? = some (A.set.getD 0 0):=gdE (by omega)
 generalize A.set.getD 0 0=id at *
 refine QAE (s:=.slice) (x:=ss) (hv:=rfl) (h:=?_);refine QAH (E:=W16) (xs:=A.set) (s:=ss) (k:=0) (h1:=by omega) (h:=fun _ _=>?_);refine QAN (E:=W16) (xs:=A.set) hg0 (h:=?_)
 (try dsimp only)
 rw[QWK id (by omega) (by omega)];refine QAS (fun(c:Bool) As'=>(c=true↔(id<1∨id>12∨A.addr≠3))∧As'=[Blk k (bnC { b with last:=bs } ts d g s fs).v,QAk p]) (fun K hK=>?_) ?_
 ·refine xif (fun h=>?_) (fun h=>xgq ?_)
  ·refine QAK [Blk k (bnC { b with last:=bs } ts d g s fs).v,QAk p] (hK _ _ ⟨⟨fun _=>?_,fun _=>rfl⟩,rfl⟩);simp at h;omega
  ·refine QAK [Blk k (bnC { b with last:=bs } ts d g s fs).v,QAk p] (hK _ _ ⟨?_,rfl⟩);simp at h;simp only[Bool.false_or,bne_iff_ne];exact⟨fun q=>.inr (.inr q),fun q=>by rcases q with q|q|q<;>first|omega|exact q⟩
 rintro x _ ⟨hx,rfl⟩;refine xif (fun h=>?_) (fun h=>?_)
 ·rw[if_pos (hx.1 h)]at hN;refine xns (xsq ?_);exact QAU [Blk k (bnC { b with last:=bs,wrong:=true } ts d g s fs).v,QAk p] (fin hN rfl rfl)
 have hin:¬(id<1∨id>12∨A.addr≠3):=fun q=>by rw[hx.2 q]at h;cases h
 rw[if_neg hin]at hN;obtain⟨i,rfl⟩:=Int.eq_ofNat_of_zero_le (show 0≤id by omega);rw[Int.toNat_natCast]at hN
 have hi:i<13:=by omega
 have hi0:(0:Int)≤(i:Int):=by omega
 have hi1:(i:Int)<(13:Nat):=by omega
 have hok:∀b':BM,b'.Ok→(bnC b' ts d g s fs).Ok:=fun b' h=>⟨hl.len,h.n,h.h⟩;refine QAO ?_;refine QAS (fun(c:Bool) As'=>(c=true↔(b.count.getD i 0>0∧(b.home.getD i 0≠b.boots∨b.frames.getD i []≠bs)))∧As'=[Blk k (bnC { b with last:=bs } ts d g s fs).v,QAk p]) (fun K hK=>?_) ?_
 ·refine xni hi0 hi1 ?_;rw[Int.toNat_natCast];refine QAU [Blk k (bnC { b with last:=bs } ts d g s fs).v,QAk p] (QAE (hv:=BnC.get_n (bnC { b with last:=bs } ts d g s fs) hi) (h:=QAA (fun h1=>?_) (fun h1=>?_)))
  ·refine xni hi0 hi1 ?_;rw[Int.toNat_natCast];refine QAE (hv:=BnC.get_h (bnC { b with last:=bs } ts d g s fs) hi) (h:=xng (xgq (xif (fun h2=>?_) (fun h2=>?_))))
   ·refine QAK [Blk k (bnC { b with last:=bs } ts d g s fs).v,QAk p] (hK _ _ ⟨⟨fun _=>⟨h1,.inl (bne_iff_ne.1 h2)⟩,fun _=>rfl⟩,rfl⟩)
   ·refine xni hi0 hi1 ?_;rw[Int.toNat_natCast];refine QAE (s:=.slice) (x:=fs.getD i nilS) (hv:=BnC.get_f (bnC { b with last:=bs } ts d g s fs) hi) (h:=?_);refine QAU [Blk k (bnC { b with last:=bs } ts d g s fs).v,QAk p] ?_;refine xcl (pre:=[]) (QE4 (fs.getD i nilS) s (b.frames.getD i []) bs (by have:=(hl.each i hi).short hl.short;omega)) (QB1 (QGg (hl.each i hi) 1) (QGg hs 1)) ?_;rintro⟨c4,_⟩ _ ⟨hc4,rfl⟩;simp only at hc4;subst hc4;refine QAy (ca1 ?_);refine QAK [Blk k (bnC { b with last:=bs } ts d g s fs).v,QAk p] (hK _ _ ⟨?_,rfl⟩)
    have h2:b.home.getD i 0=b.boots:=by simpa using h2
    simp only[Bool.true_and,Bool.false_or,Bool.not_eq_true',decide_eq_false_iff_not];exact⟨fun q=>⟨h1,.inr q⟩,fun q=>q.2.resolve_left fun z=>z h2⟩
  ·refine QAK [Blk k (bnC { b with last:=bs } ts d g s fs).v,QAk p] (hK _ _ ⟨⟨fun q=>by (cases q),fun q=>absurd q.1 h1⟩,rfl⟩)
 rintro c3 _ ⟨hc3,rfl⟩;refine QBu (fun As'=>As'=[Blk k (bnC { b with last:=bs,wrong:=if b.count.getD i 0>0∧(b.home.getD i 0≠b.boots∨b.frames.getD i []≠bs) then true else b.wrong } ts d g s fs).v,QAk p]) (fun K hK=>?_) ?_
 ·refine xif (fun h=>?_) (fun h=>?_)
  ·rw[if_pos (hc3.1 h)]at hK;refine xns (xsq ?_);exact QAK [Blk k (bnC { b with last:=bs,wrong:=true } ts d g s fs).v,QAk p] (hK _ rfl)
  ·rw[if_neg (fun q=>by rw[hc3.2 q]at h;cases h)]at hK;exact hK _ rfl
 rintro _ rfl;unfold QfI at hN
 generalize (if b.count.getD i 0>0∧(b.home.getD i 0≠b.boots∨b.frames.getD i []≠bs) then true else b.wrong)=w1 at *
 have hfin:∀{b':BM}{R:List HP},b'=N→b'.frames=b.frames.set i bs→b'.last=bs→Ent B (Blk k (bnC b' ts d g s (fs.set i s)).v::QAk p::R) (Ret B (ss:=[]) (fun _ Bs=>∃fs',Lies N p s fs'∧Bs=[Blk k (bnC N ts d g s fs').v,QAk p]) ()):=by
  rintro b' R rfl h1 h2;refine QAK [Blk k (bnC b' ts d g s (fs.set i s)).v,QAk p] (QAD ⟨fs.set i s,⟨by rw[h2];exact hs,by rw[List.length_set];exact hl.len,fun j hj=>?_,hl.short⟩,rfl⟩);rw[h1,QO0 _ _ _ _ _ (by rw[hl.len];exact hi),QO0 _ _ _ _ _ (by rw[ho.f];exact hi)];split
  ·exact hs
  ·exact hl.each j hj
 have okc:∀{fs':List Sl}{ct hm:List Int}{w:Bool}{fr:List (List UInt8)},fs'.length=13→ct.length=13→hm.length=13→(bnC { b with last:=bs,wrong:=w,count:=ct,home:=hm,frames:=fr } ts d g s fs').Ok:=fun h1 h2 h3=>⟨h1,h2,h3⟩;refine xni hi0 hi1 ?_;rw[Int.toNat_natCast];refine xsf (c:=bnC { b with last:=bs,wrong:=w1 } ts d g s fs) (okc hl.len ho.n ho.h) hi ?_;refine QAO (xng (xgq (xni hi0 hi1 ?_)));rw[Int.toNat_natCast];refine xsh (c:=bnC { b with last:=bs,wrong:=w1 } ts d g s (fs.set i s)) (okc (by rw[List.length_set];exact hl.len) ho.n ho.h) hi ?_;refine QAO (xni hi0 hi1 ?_);rw[Int.toNat_natCast];refine QAE (hv:=BnC.get_n (bnC { b with last:=bs,wrong:=w1,home:=b.home.set i b.boots } ts d g s (fs.set i s)) hi) (h:=xni hi0 hi1 ?_);rw[Int.toNat_natCast];refine xsn (c:=bnC { b with last:=bs,wrong:=w1,home:=b.home.set i b.boots } ts d g s (fs.set i s)) (okc (by rw[List.length_set];exact hl.len) ho.n (by rw[List.length_set];exact ho.h)) hi ?_;refine QAO (xni hi0 hi1 ?_);rw[Int.toNat_natCast]
 have hgc:(b.count.set i (IntKind.i64.wrap (b.count.getD i 0+1))).getD i 0=IntKind.i64.wrap (b.count.getD i 0+1):=by
  rw[QO0 _ _ _ _ _ (by rw[ho.n];exact hi),if_pos rfl]
 refine QAE (hv:=BnC.get_n (bnC { b with last:=bs,wrong:=w1,home:=b.home.set i b.boots,count:=b.count.set i (IntKind.i64.wrap (b.count.getD i 0+1)) } ts d g s (fs.set i s)) hi) (h:=xng (xgq ?_));rw[hgc];refine QAJ (QAA (fun h=>?_) (fun h=>?_))
 ·rw[if_pos h]at hN;refine xns (xsq ?_);exact QAU [Blk k (bnC { b with last:=bs,wrong:=true,home:=b.home.set i b.boots,count:=b.count.set i (IntKind.i64.wrap (b.count.getD i 0+1)),frames:=b.frames.set i bs } ts d g s (fs.set i s)).v,QAk p] (hfin hN rfl rfl)
 ·rw[if_neg h]at hN;exact QAU [Blk k (bnC { b with last:=bs,wrong:=w1,home:=b.home.set i b.boots,count:=b.count.set i (IntKind.i64.wrap (b.count.getD i 0+1)),frames:=b.frames.set i bs } ts d g s (fs.set i s)).v,QAk p] (hfin hN rfl rfl)
end Go.Cx
namespace Go.Cx
open Go Go.Cf
set_option linter.unusedVariables false
set_option maxRecDepth 100000
set_option synthInstance.maxSize 8000
set_option synthInstance.maxHeartbeats 400000
variable {B:QBE}{As F:List HP}
theorem QYF{xs:List UInt8}(h:(QAi xs).2=0):pkE (QAi xs).1 (QAi xs).1.body.length=0:=by
 unfold QAi at h⊢;by_cases n1:xs.length<5
 ·rw[if_pos n1]at h;cases h
 rw[if_neg n1]at h⊢;by_cases n2:(QEU xs).1≠0
 ·rw[if_pos n2]at h;exact absurd h n2
 rw[if_neg n2]at h⊢;simp only at h⊢
 generalize (QEU xs).2=ys at *
 by_cases n3:(ys.getD 0 0).toNat<1∨(ys.getD 0 0).toNat>4
 ·rw[if_pos n3]at h;cases h
 rw[if_neg n3]at h⊢;by_cases n4:ys.length<QHz (ys.getD 0 0).toNat
 ·rw[if_pos n4]at h;cases h
 rw[if_neg n4]at h⊢;by_cases n5:((ys.getD 0 0).toNat=2∨(ys.getD 0 0).toNat=4)∧ys.length>QHz (ys.getD 0 0).toNat
 ·rw[if_pos n5]at h;cases h
 rw[if_neg n5]at h⊢;by_cases n6:pkE (pkF (ys.getD 0 0).toNat ys) (pkF (ys.getD 0 0).toNat ys).body.length≠0
 ·rw[if_pos n6]at h;exact absurd h n6
 rw[if_neg n6];exact Classical.not_not.1 n6
def upW(b:BM)(lg:LM)(epoch safe:Int)(q:PkV):Bool:=if q.epoch≠epoch∨q.seq≥safe∨(QH6 lg q.seq).2≠0∨(QH6 lg q.seq).1≠q.body then true else b.wrong
def upB(b:BM)(lg:LM)(epoch safe:Int)(p:List UInt8):BM:=
 if (QAi p).2≠0∨((QAi p).1.kind≠1∧(QAi p).1.kind≠4) then { b with wrong:=true }
 else if (QAi p).1.kind=4 then b
 else { b with wrong:=upW b lg epoch safe (QAi p).1,sent:=IntKind.i64.wrap ((QAi p).1.seq+1) }
theorem QVS(b:BM)(lg:LM)(epoch safe:Int)(p:List UInt8):(upB b lg epoch safe p).last=b.last∧(upB b lg epoch safe p).frames=b.frames∧(upB b lg epoch safe p).count=b.count∧(upB b lg epoch safe p).home=b.home:=by
 unfold upB;repeat' split
 all_goals exact⟨rfl,rfl,rfl,rfl⟩
theorem Lies.same{b b':BM}{p:QIp}{ls:Sl}{fs:List Sl}(h:Lies b p ls fs)(h1:b'.last=b.last)(h2:b'.frames=b.frames):Lies b' p ls fs:=⟨by rw[h1];exact h.last,h.len,by rw[h2];exact h.each,h.short⟩
abbrev stA(s:StV):Value:=.agg #[.I s.next,.I s.safe,.I s.first,.I s.acked,.I s.epoch,.I s.boots,.I s.lost,.bool s.busy]
theorem QdU(k:Nat)(ts:Sl)(d:Option Addr)(g:Nat)(a:GwA)(M:GM)(b:BM)(p:QIp)(ls:Sl)(fs:List Sl)(ho:b.Ok)(hl:Lies b p ls fs)(s:Sl)(bs:List UInt8)(hs:Src p s bs)(st:StV) :
  Ct Pr 112 [.pointer (some ⟨k,0,none⟩),s.v,stA st] (.tup []) [] (Blk k (bnC b ts d (some ⟨g,0,none⟩) ls fs).v::QAk p::GwL g a M) emp
  (fun _ Bs=>Bs=Blk k (bnC (upB b M.k.log st.epoch st.safe bs) ts d (some ⟨g,0,none⟩) ls fs).v::QAk p::GwL g a M):=by
 refine sp0 (QHh _ _ _ _ _ _ _ _ _ _) fun B _=>?_;obtain⟨N,hN⟩:∃N,upB b M.k.log st.epoch st.safe bs=N:=⟨_,rfl⟩;rw[hN];unfold upB at hN;unfold QHh mf;dsimp only;refine QBx 1 (P1:=QAk p) (fun f hf=>QJW hs hf) fun hcap=>?_;refine QAL fun b1=>?_;refine xcl (pre:=[]) (QFz bs (hs.short hl.short) s hcap.1) (QGg hs 2) ?_;have hpo:=@QYF bs
 generalize QAi bs=C at *
 obtain⟨q,e⟩:=C;simp only at hN hpo;rintro⟨v0,v1,v2,v3,v4,sb,v6,_⟩ _ ⟨rfl,rfl,rfl,rfl,rfl,h6,rfl⟩;simp only at h6;subst h6;refine QA5 (ca7 (QAL fun b2=>?_));iterate 6 (refine xsq ?_)
 have fin:∀{b':BM}{R:List HP},b'=N→Ent B (Blk k (bnC b' ts d (some ⟨g,0,none⟩) ls fs).v::QAk p::GwR g a M R) (Ret B (ss:=[]) (fun _ Bs=>Bs=Blk k (bnC N ts d (some ⟨g,0,none⟩) ls fs).v::QAk p::GwL g a M) ()):=by
  rintro b' R rfl;exact QAK (Blk k (bnC b' ts d (some ⟨g,0,none⟩) ls fs).v::QAk p::GwL g a M) (QAD rfl)
 refine QAS (fun(c:Bool) As'=>(c=true↔(v6≠0∨(q.kind≠1∧q.kind≠4)))∧As'=Blk b2 (pkC q.kind q.epoch q.seq q.id q.code sb)::Ar U8 sb q.body::Blk b1 [.I st.next,.I st.safe,.I st.first,.I st.acked,.I st.epoch,.I st.boots,.I st.lost,.bool st.busy]::Blk k (bnC b ts d (some ⟨g,0,none⟩) ls fs).v::QAk p::GwL g a M) (fun K hK=>?_) ?_
 ·refine xif (fun h=>hK _ _ ⟨⟨fun _=>.inl (bne_iff_ne.1 h),fun _=>rfl⟩,rfl⟩) (fun h=>xgq (QAJ (xif (fun h1=>xgq ?_) (fun h1=>?_))))
  ·refine hK _ _ ⟨?_,rfl⟩
   have h:v6=0:=by simpa using h
   simp only[Bool.false_or,bne_iff_ne];exact⟨fun z=>.inr ⟨bne_iff_ne.1 h1,z⟩,fun z=>(z.resolve_left fun y=>y h).2⟩
  ·refine hK _ _ ⟨?_,rfl⟩
   have h:v6=0:=by simpa using h
   have h1:q.kind=1:=by simpa using h1
   exact⟨fun z=>by (cases z),fun z=>absurd h1 (z.resolve_left fun y=>y h).1⟩
 rintro c _ ⟨hc,rfl⟩;refine xif (fun h=>?_) (fun h=>?_)
 ·rw[if_pos (hc.1 h)]at hN;refine xns (xsq ?_);exact QAU (Blk k (bnC { b with wrong:=true } ts d (some ⟨g,0,none⟩) ls fs).v::QAk p::GwL g a M) (fin hN)
 have hno:¬(v6≠0∨(q.kind≠1∧q.kind≠4)):=fun z=>by rw[hc.2 z]at h;cases h
 rw[if_neg hno]at hN;have he0:v6=0:=Classical.not_not.1 fun z=>hno (.inl z);refine xgq (xif (fun h4=>?_) (fun h4=>?_))
 ·rw[if_pos (eq_of_beq h4)]at hN;exact QAU (Blk k (bnC b ts d (some ⟨g,0,none⟩) ls fs).v::QAk p::GwL g a M) (fin hN)
 rw[if_neg (ne_of_beq_false h4)]at hN
 have hk1:q.kind=1:=by
  have:=ne_of_beq_false h4;refine Classical.not_not.1 fun z=>hno (.inr ⟨z,this⟩)
 have hpk:=hpo he0;unfold pkE at hpk;rw[if_pos hk1]at hpk;obtain⟨_,hpk⟩:=QGR (by decide) hpk;obtain⟨hpq,_⟩:=QGR (by decide) hpk;refine QAO (xng (xgq (xgq ?_)));refine xcl (QU8 g a M) rdb ?_;rintro⟨ql,_⟩ _ ⟨hql,rfl⟩;simp only at hql;subst hql;refine QFO (ca1 (QC6 (h:=?_)));refine QGn 1 fun hk=>?_;refine xcl (QGU a.log a.dev M.k.log q.seq ⟨by omega,by omega⟩) rdb ?_;rintro⟨s1,r6,_⟩ _ ⟨h6,rfl⟩;simp only at h6;subst h6;refine QBM (ca2 (xgq (xgq ?_)));have hgl:=QKx hk.ldev.log q.seq;refine QCs a.dev a.log a.idx M.k hk ?_;unfold upW at hN
 generalize QH6 M.k.log q.seq=gl at *
 obtain⟨gb,r6⟩:=gl;simp only at hN hgl⊢;refine QAS (fun(c:Bool) As'=>(c=true↔(q.epoch≠st.epoch∨q.seq≥st.safe))∧As'=Ar U8 s1 gb::Blk b2 (pkC q.kind q.epoch q.seq q.id q.code sb)::Ar U8 sb q.body::Blk b1 [.I st.next,.I st.safe,.I st.first,.I st.acked,.I st.epoch,.I st.boots,.I st.lost,.bool st.busy]::Blk k (bnC b ts d (some ⟨g,0,none⟩) ls fs).v::QAk p::GwL g a M) (fun K hK=>?_) ?_
 ·refine xif (fun h=>?_) (fun h=>xgq (xgq ?_))
  ·exact QAK (Ar U8 s1 gb::Blk b2 (pkC q.kind q.epoch q.seq q.id q.code sb)::Ar U8 sb q.body::Blk b1 [.I st.next,.I st.safe,.I st.first,.I st.acked,.I st.epoch,.I st.boots,.I st.lost,.bool st.busy]::Blk k (bnC b ts d (some ⟨g,0,none⟩) ls fs).v::QAk p::GwL g a M) (hK _ _ ⟨⟨fun _=>.inl (bne_iff_ne.1 h),fun _=>rfl⟩,rfl⟩)
  ·refine QAK (Ar U8 s1 gb::Blk b2 (pkC q.kind q.epoch q.seq q.id q.code sb)::Ar U8 sb q.body::Blk b1 [.I st.next,.I st.safe,.I st.first,.I st.acked,.I st.epoch,.I st.boots,.I st.lost,.bool st.busy]::Blk k (bnC b ts d (some ⟨g,0,none⟩) ls fs).v::QAk p::GwL g a M) (hK _ _ ⟨?_,rfl⟩)
   have h:q.epoch=st.epoch:=by simpa using h
   simp only[Bool.false_or,decide_eq_true_eq];exact⟨.inr,fun z=>z.resolve_left fun y=>y h⟩
 rintro c2 _ ⟨hc2,rfl⟩;refine QAS (fun(c:Bool) As'=>(c=true↔(q.epoch≠st.epoch∨q.seq≥st.safe∨r6≠0∨gb≠q.body))∧As'=Ar U8 s1 gb::Blk b2 (pkC q.kind q.epoch q.seq q.id q.code sb)::Ar U8 sb q.body::Blk b1 [.I st.next,.I st.safe,.I st.first,.I st.acked,.I st.epoch,.I st.boots,.I st.lost,.bool st.busy]::Blk k (bnC b ts d (some ⟨g,0,none⟩) ls fs).v::QAk p::GwL g a M) (fun K hK=>?_) ?_
 ·refine xif (fun h=>hK _ _ ⟨⟨fun _=>?_,fun _=>rfl⟩,rfl⟩) (fun h=>QAE (s:=.slice) (x:=sb) (hv:=rfl) (h:=?_))
  ·rcases Bool.or_eq_true_iff.1 h with h|h
   ·rcases hc2.1 h with z|z
    ·exact .inl z
    ·exact .inr (.inl z)
   ·exact .inr (.inr (.inl (bne_iff_ne.1 h)))
  ·refine xcl (pre:=[]) (QE4 s1 sb gb q.body (by omega)) (QB1 rdb rdb) ?_;rintro⟨c4,_⟩ _ ⟨hc4,rfl⟩;simp only at hc4;subst hc4;refine QAy (ca1 (hK _ _ ⟨?_,rfl⟩));obtain⟨h1,h2⟩:=Bool.or_eq_false_iff.1 h
   have h2:r6=0:=by simpa using h2
   have h1:¬(q.epoch≠st.epoch∨q.seq≥st.safe):=fun z=>by rw[hc2.2 z]at h1;cases h1
   rw[Bool.not_eq_true',decide_eq_false_iff_not]
   exact⟨fun z=>.inr (.inr (.inr z)),fun z=>by
    rcases z with z|z|z|z
    ·exact absurd (.inl z) h1
    ·exact absurd (.inr z) h1
    ·exact absurd h2 z
    ·exact z⟩
 rintro c3 _ ⟨hc3,rfl⟩;refine QBu (fun As'=>As'=Blk b2 (pkC q.kind q.epoch q.seq q.id q.code sb)::Blk k (bnC { b with wrong:=if q.epoch≠st.epoch∨q.seq≥st.safe∨r6≠0∨gb≠q.body then true else b.wrong } ts d (some ⟨g,0,none⟩) ls fs).v::QAk p::GwL g a M) (fun K hK=>?_) ?_
 ·refine xif (fun h=>?_) (fun h=>?_)
  ·rw[if_pos (hc3.1 h)]at hK;refine xns (xsq ?_);exact QAK (Blk b2 (pkC q.kind q.epoch q.seq q.id q.code sb)::Blk k (bnC { b with wrong:=true } ts d (some ⟨g,0,none⟩) ls fs).v::QAk p::GwL g a M) (hK _ rfl)
  ·rw[if_neg (fun z=>by rw[hc3.2 z]at h;cases h)]at hK;exact QAK (Blk b2 (pkC q.kind q.epoch q.seq q.id q.code sb)::Blk k (bnC b ts d (some ⟨g,0,none⟩) ls fs).v::QAk p::GwL g a M) (hK _ rfl)
 rintro _ rfl
 generalize (if q.epoch≠st.epoch∨q.seq≥st.safe∨r6≠0∨gb≠q.body then true else b.wrong)=w at *
 refine xgq (xns (xsq ?_));exact QAU (Blk k (bnC { b with wrong:=w,sent:=IntKind.i64.wrap (q.seq+1) } ts d (some ⟨g,0,none⟩) ls fs).v::QAk p::GwL g a M) (fin hN)
theorem QFA{A1 A2 A3 A4 A5 A6 A7 A8 A9 A10 A11 A12 A13 A14:HP}{F:List HP}{φ:WP}(h:Ent B (A1::A2::A3::A4::A5::A6::A7::A8::A9::A10::A11::A12::A13::A14::F) φ):Ent B ([A1,A2,A3,A4,A5,A6,A7,A8,A9,A10,A11,A12,A13,A14]++F) φ:=h
def QC9(rs:List (Int×Sl))(os:List QCS):QIp:=(rs.zip os).map fun x=>(x.1.2,x.2.2)
theorem QTt:∀{rs:List (Int×Sl)}{os:List QCS}{f:QBe},Each (fun(r:Int×Sl) (o:QCS)=>Ar U8 r.2 o.2) rs os f→QAk (QC9 rs os) f
 | [],[],_,h=>h
 | [],_::_,_,h=>h.elim
 | _::_,[],_,h=>h.elim
 | r::rs,o::os,f,h=>by
  obtain⟨a,b,h1,⟨c,d,h2,h3⟩,h4⟩:=h;exact⟨a,b,h1,⟨c,d,QTt h2,h3⟩,h4⟩
def QaY(M:GM)(b:BM)(o:QCS):BM:=if o.1=1 then QNN b o.2 else if o.1=2 then upB b M.k.log M.epoch M.k.log.safe o.2 else b
def QaB(b:BM)(M:GM)(os:List QCS):BM:=os.foldl (QaY M) b
theorem QeI{b:BM}(h:b.Ok)(lg:LM)(epoch safe:Int)(p:List UInt8):(upB b lg epoch safe p).Ok:=by
 obtain⟨_,h2,h3,h4⟩:=QVS b lg epoch safe p;exact⟨by rw[h2];exact h.f,by rw[h3];exact h.n,by rw[h4];exact h.h⟩
theorem QUH(k:Nat)(ts:Sl)(d:Option Addr)(g:Nat)(a:GwA)(M:GM)(b:BM)(l:Sl)(os:List QCS)(hos:∀o∈os,o.2.length≤1000000)(hol:os.length≤1000000) :
  Ct Pr 50 [.pointer (some ⟨k,0,none⟩),l.v] (.tup []) [] (QNG l os::BnO k ts d (some ⟨g,0,none⟩) b::GwL g a M) emp
  (fun _ Bs=>Bs=BnO k ts d (some ⟨g,0,none⟩) (QaB b M os)::GwL g a M):=by
 refine sp0 (QGx _ _) fun B _=>?_;unfold QGx mf;dsimp only;refine xbn 1 fun p ls fs ho hl=>?_;refine QFI 2 (P1:=QNG l os) (fun Bs=>∃rs:List (Int×Sl),rs.map Prod.fst=os.map Prod.fst∧Bs=[Ar OuE l rs,Each (fun(r:Int×Sl) (o:QCS)=>Ar U8 r.2 o.2) rs os]) (fun f hf=>?_) ?_
 ·obtain⟨rs,h1,hf⟩:=hf;exact⟨_,⟨rs,h1,rfl⟩,hf⟩
 rintro _ ⟨rs,hrs,rfl⟩
 have hlen:rs.length=os.length:=by have:=congrArg List.length hrs;simpa using this
 have hq:∀r∈QC9 rs os,r.2.length≤1000000:=fun r hr=>by
  obtain⟨x,hx,rfl⟩:=List.mem_map.1 hr;exact hos _ (List.of_mem_zip hx).2
 refine QBM (QBQ [Each (fun(r:Int×Sl) (o:QCS)=>Ar U8 r.2 o.2) rs os] (QAk (QC9 rs os)) (fun f hf=>by
  obtain⟨x,y,h1,h2,h3,h4,h5⟩:=hf
  exact QTt (h1.mono h4)) ?_)
 refine QBQ [QAk p,QAk (QC9 rs os)] (QAk (p++QC9 rs os)) (fun f hf=>QUB hf) ?_
 have hsrc:∀(i:Nat) (s:Sl) (bs:List UInt8) (to:Int),rs[i]? = some (to,s)→os[i]? = some (to,bs)→Src (p++QC9 rs os) s bs:=by
  intro i s bs to h1 h2;refine .inr (List.mem_append_right _ (List.mem_map.2 ⟨((to,s),(to,bs)),List.mem_of_getElem? (i:=i) ?_,rfl⟩));rw[List.getElem?_zip_eq_some];exact⟨h1,h2⟩
 have hl2:=hl.more hq;clear hl
 generalize p++QC9 rs os=pp at *
 refine xng (xgq ?_);refine xcl (QFx g a M) rdb ?_;rintro⟨r,r1,r2,r3,r4,r5,r6,c,_⟩ _ ⟨hst,rfl⟩;unfold QWM at hst;injection hst with h1 h2 h3 h4 h5 h6 h7 h8;simp only at h1 h2 h3 h4 h5 h6 h7 h8;subst h1 h2 h3 h4 h5 h6 h7 h8;refine QFO (ca8 (QAL fun b1=>?_));iterate 8 (refine xsq ?_)
 refine QCm (E:=OuE) (xs:=rs) l fun hln _=>?_;refine QAK (Ar OuE l rs::Blk b1 [.I M.k.log.next,.I M.k.log.safe,.I M.k.log.lo,.I M.acked,.I M.epoch,.I M.boots,.I M.lost,.bool (decide (M.ma.tries>0))]::Blk k (bnC b ts d (some ⟨g,0,none⟩) ls fs).v::QAk pp::GwL g a M) ?_
 refine QBP (fun n (x:Int) As'=>∃(i:Nat) (b':BM) (ls':Sl) (fs':List Sl),x=(i:Int)∧n=os.length - i∧i≤os.length∧b'.Ok∧Lies b' pp ls' fs'∧QaB b M os=(os.drop i).foldl (QaY M) b' ∧
  As'=Ar OuE l rs::Blk b1 [.I M.k.log.next,.I M.k.log.safe,.I M.k.log.lo,.I M.acked,.I M.epoch,.I M.boots,.I M.lost,.bool (decide (M.ma.tries>0))]::Blk k (bnC b' ts d (some ⟨g,0,none⟩) ls' fs').v::QAk pp::GwL g a M) os.length ⟨0,b,ls,fs,rfl,rfl,by omega,ho,hl2,rfl,rfl⟩ ?_
 rintro n x As' K ⟨i,b',ls',fs',rfl,rfl,hi,hbo,hbl,hfold,rfl⟩ hK;refine QAA (fun h=>?_) (fun h=>?_)
 ·have hil:i<os.length:=by omega
  obtain⟨⟨to,s⟩,hri⟩:∃r,rs[i]? = some r:=⟨_,List.getElem?_eq_getElem (by omega)⟩;obtain⟨⟨to',bs⟩,hoi⟩:∃r,os[i]? = some r:=⟨_,List.getElem?_eq_getElem hil⟩
  have hto:to=to':=by
   have:=congrArg (·[i]?) hrs;simp only[List.getElem?_map,hri,hoi,Option.map_some,Option.some.injEq]at this;exact this
  subst hto;have hs:=hsrc i s bs to hri hoi
  have hdrop:os.drop i=(to,bs)::os.drop (i+1):=by rw[List.drop_eq_getElem_cons hil];congr 1;exact (List.getElem?_eq_some_iff.1 hoi).2
  rw[hdrop,List.foldl_cons]at hfold;refine QAH (E:=OuE) (xs:=rs) (s:=l) (k:=i) (h1:=by omega) (h:=fun _ _=>?_);refine QAN (E:=OuE) (xs:=rs) hri (h:=?_)
  (try dsimp only)
  refine QBu (fun As'=>∃ls2 fs2,(QaY M b' (to,bs)).Ok∧Lies (QaY M b' (to,bs)) pp ls2 fs2∧As'=Ar OuE l rs::Blk b1 [.I M.k.log.next,.I M.k.log.safe,.I M.k.log.lo,.I M.acked,.I M.epoch,.I M.boots,.I M.lost,.bool (decide (M.ma.tries>0))]::Blk k (bnC (QaY M b' (to,bs)) ts d (some ⟨g,0,none⟩) ls2 fs2).v::QAk pp::GwL g a M) (fun K1 hK1=>?_) ?_
  ·unfold QaY at hK1;simp only at hK1;refine xif (fun h1=>?_) (fun h1=>QAJ (xif (fun h2=>?_) (fun h2=>?_)))
   ·rw[if_pos (eq_of_beq h1)]at hK1;refine QAH (E:=OuE) (xs:=rs) (s:=l) (k:=i) (h1:=by omega) (h:=fun _ _=>?_);refine QAZ (E:=OuE) (s:=l) (xs:=rs) (sh:=.slice) (v:=s) hri (h:=?_);refine xcl (QXg k ts d (some ⟨g,0,none⟩) b' pp ls' fs' hbo hbl s bs hs) rdb ?_;rintro _ _ ⟨fs2,hl3,rfl⟩;refine QBM (ca0 ?_);exact QAK (Ar OuE l rs::Blk b1 [.I M.k.log.next,.I M.k.log.safe,.I M.k.log.lo,.I M.acked,.I M.epoch,.I M.boots,.I M.lost,.bool (decide (M.ma.tries>0))]::Blk k (bnC (QNN b' bs) ts d (some ⟨g,0,none⟩) s fs2).v::QAk pp::GwL g a M) (hK1 _ ⟨s,fs2,Qa4 hbo bs,hl3,rfl⟩)
   ·rw[if_neg (ne_of_beq_false h1),if_pos (eq_of_beq h2)]at hK1;refine QAO ?_;refine QAH (E:=OuE) (xs:=rs) (s:=l) (k:=i) (h1:=by omega) (h:=fun _ _=>?_);refine QAZ (E:=OuE) (s:=l) (xs:=rs) (sh:=.slice) (v:=s) hri (h:=?_);iterate 8 (refine xgq ?_)
    refine xcl (QdU k ts d g a M b' pp ls' fs' hbo hbl s bs hs ⟨M.k.log.next,M.k.log.safe,M.k.log.lo,M.acked,M.epoch,M.boots,M.lost,decide (M.ma.tries>0)⟩) rdb ?_;rintro _ _ rfl;obtain⟨e1,e2,e3,e4⟩:=QVS b' M.k.log M.epoch M.k.log.safe bs;refine QFA (ca0 ?_);exact QAK (Ar OuE l rs::Blk b1 [.I M.k.log.next,.I M.k.log.safe,.I M.k.log.lo,.I M.acked,.I M.epoch,.I M.boots,.I M.lost,.bool (decide (M.ma.tries>0))]::Blk k (bnC (upB b' M.k.log M.epoch M.k.log.safe bs) ts d (some ⟨g,0,none⟩) ls' fs').v::QAk pp::GwL g a M) (hK1 _ ⟨ls',fs',QeI hbo _ _ _ _,hbl.same e1 e2,rfl⟩)
   ·rw[if_neg (ne_of_beq_false h1),if_neg (ne_of_beq_false h2)]at hK1;exact hK1 _ ⟨ls',fs',hbo,hbl,rfl⟩
  ·rintro _ ⟨ls2,fs2,ho2,hl3,rfl⟩;rw[QAF i (by omega)];exact hK (os.length - (i+1)) _ _ (by omega) ⟨i+1,_,ls2,fs2,rfl,rfl,by omega,ho2,hl3,hfold,rfl⟩
 ·have he:i=os.length:=by omega
  rw[he,List.drop_length]at hfold;subst he;have hfold:QaB b M os=b':=hfold;rw[hfold];refine QMj k ts d (some ⟨g,0,none⟩) b' pp ls' fs' hbo hbl ?_;exact QAK (BnO k ts d (some ⟨g,0,none⟩) b'::GwL g a M) (QAD rfl)
structure GFit(M:GM):Prop where
 ok:MOk M
 run:M.stopped=false→M.ok=true
 ts:M.ts.length≤1000000
theorem GFit.step{M:GM}(h:GFit M)(hf:M.ma.fr.length≤1000)(e:EvV)(hk:MOk (QBZ M e).1):GFit (QBZ M e).1:=by
 refine⟨hk,?_,?_⟩
 ·unfold QBZ;split
  ·exact h.run
  ·intro q;simp only[Bool.not_eq_false']at q;exact q
 ·have hx:=(QKs M hf e).1;unfold QKa at hx;injection hx with e1 e2 e3 e4 e5 e6 e7;have e7:(QBZ M e).1.ts=M.ts:=e7;rw[e7];exact h.ts
theorem QSY{B:QBE}{A1 A2 A3 A4 A5 A6 A7 A8 A9 A10 A11 A12 A13:HP}{F:List HP}{φ:WP}(h:Ent B (A1::A2::A3::A4::A5::A6::A7::A8::A9::A10::A11::A12::A13::F) φ):Ent B ([A1,A2,A3,A4,A5,A6,A7,A8,A9,A10,A11,A12,A13]++F) φ:=h
def doB(b:BM)(M:GM)(e:EvV):BM:=QaB b (QBZ M e).1 (QBZ M e).2
theorem QIv(p:PkV)(hz:p.kind=3∨p.kind=4→p.epoch=0∧p.seq=0)(s:Sl):Ct Pr 34 [Qdv p s] .one [.slice] [] (RAr U8 s p.body) (fun t Bs=>Bs=[Ar U8 t.1 (QA8 p)]):=by
 refine sp1 (QRU _ _ _ _ _ _) fun B hr=>?_;haveI:Fro B s U8 p.body:=⟨hr⟩;unfold QRU mf;dsimp only;refine QAL fun b=>?_;iterate 5 (refine xgq ?_)
 refine QAE (s:=.slice) (x:=s) (hv:=rfl) (h:=?_);refine xn2 (L:=fun s=>[Ar U8 s (QA8 p)]) (QMf p hz s) (fun x y Bs hB=>hB) fun s1=>?_;exact QAK [Ar U8 s1 (QA8 p)] (QAD rfl)
abbrev Qea(id:Int):AskV:=⟨6,3,0,[],[IntKind.u16.wrap id],[]⟩
theorem QN3(id:Int):Ct Pr 46 [.I id] .agg [.I,.I,.I,.slice,.slice,.slice] [] emp
  (fun t Bs=>t.1=6∧t.2.1=3∧t.2.2.1=0∧t.2.2.2.1=nilS∧t.2.2.2.2.2.1=nilS∧Bs=[Ar W16 t.2.2.2.2.1 [IntKind.u16.wrap id]]):=by
 refine QAg (ss:=[.I,.I,.I,.slice,.slice,.slice]) (φ:=fun K=>(QIC _ K).1) (fun h=>cf _ rfl (by kernel_rfl) h) fun B _=>?_;show Ent B [] (QIC id fun x0 x1 x2 x3 x4 x5=>Ret B (ss:=[.I,.I,.I,.slice,.slice,.slice]) (fun t Bs=>t.1=6∧t.2.1=3∧t.2.2.1=0∧t.2.2.2.1=nilS∧t.2.2.2.2.2.1=nilS∧Bs=[Ar W16 t.2.2.2.2.1 [IntKind.u16.wrap id]]) (x0,x1,x2,x3,x4,x5,()));unfold QIC mf;dsimp only;refine QAL fun b=>QAL fun b1=>?_;iterate 6 (refine xsq ?_)
 refine xgq (xgq (xgq (xgS (h:=QAE (s:=.slice) (x:=⟨some ⟨b1,0,none⟩,1,1⟩) (hv:=rfl) (h:=xgS (h:=?_))))));refine QAU [Blk b1 [.int .u16 (IntKind.u16.wrap id)]] ?_;refine QAe (Q:=Ar W16 ⟨some ⟨b1,0,none⟩,1,1⟩ [IntKind.u16.wrap id]) 0 (fun g hg=>⟨[],QAm [IntKind.u16.wrap id] 1 rfl rfl hg⟩) ?_;exact QAK [Ar W16 ⟨some ⟨b1,0,none⟩,1,1⟩ [IntKind.u16.wrap id]] (QAD ⟨rfl,rfl,rfl,rfl,rfl,rfl⟩)
abbrev Qc7(file:Int):AskV:=⟨20,0,0,[],[],[(file,0,22)]⟩
abbrev Qdu(A:AskV)(v:Int):RepV:=⟨0,[],List.replicate A.count.toNat (IntKind.u16.wrap v),[]⟩
def QcF(last:List UInt8)(v:Int):List UInt8:=
 if (QAo last).1≠0∨(QAX (QAo last).2.2).2≠0 then []
 else if (Qdu (QAX (QAo last).2.2).1 v).e (QAX (QAo last).2.2).1≠0∨(QWS (QAo last).2.1 (QHv (QAX (QAo last).2.2).1 (Qdu (QAX (QAo last).2.2).1 v))).1≠0 then []
 else (QWS (QAo last).2.1 (QHv (QAX (QAo last).2.2).1 (Qdu (QAX (QAo last).2.2).1 v))).2
theorem QXU(v:Int):0≤IntKind.u16.wrap v∧IntKind.u16.wrap v≤65535:=by
 have q1:(2 ^ IntKind.u16.bits:Int)=65536:=by decide
 have q3:IntKind.u16.signed=false:=rfl;simp only[IntKind.wrap,q1,q3,Bool.false_and];simp;omega
theorem QOq(k:Nat)(ts:Sl)(d g:Option Addr)(b:BM)(v:Int) :
  Ct Pr 44 [.pointer (some ⟨k,0,none⟩),.I v] .one [.slice] [BnO k ts d g b] emp (fun t Bs=>Bs=[BnO k ts d g b,Ar U8 t.1 (QcF b.last v)]):=by
 refine sp1 (QDr _ _) fun B _=>?_;unfold QDr mf;dsimp only;obtain⟨N,hN⟩:∃N,QcF b.last v=N:=⟨_,rfl⟩;rw[hN];unfold QcF at hN;refine xbn 0 fun p ls fs ho hl=>?_;refine QBx 1 (P1:=QAk p) (fun f hf=>QJW hl.last hf) fun hcap=>?_;refine xng (QAE (s:=.slice) (x:=ls) (hv:=rfl) (h:=?_));refine xcl (pre:=[]) (QGc ls b.last hcap.1) (QGg hl.last 1) ?_;have hln:=QLx b.last
 generalize QAo b.last=o at *
 obtain⟨e,u,pdu⟩:=o;simp only at hN hln;rintro⟨r,s0,r1,_⟩ _ ⟨hr,hr1,rfl⟩;simp only at hr hr1;subst hr hr1;refine QA5 (ca3 (QCm (E:=U8) (xs:=pdu) s0 fun _ hsc=>?_));refine xcl (QF1 pdu (by omega) s0 hsc) rdb ?_;have hae:=@QU9 pdu;have haw:=QHW pdu
 generalize QAX pdu=C at *
 obtain⟨A,e2⟩:=C;simp only at hN hae haw;rintro⟨u0,u1,u2,so,ss,sp,e',_⟩ _ ⟨rfl,rfl,rfl,h6,rfl⟩;simp only at h6;subst h6;refine QQA (ca7 (QAL fun b1=>?_));iterate 6 (refine xsq ?_)
 have nil:∀{R:List HP},N=[]→Ent B (Blk k (bnC b ts d g ls fs).v::QAk p::R) (Ret B (ss:=[.slice]) (fun t Bs=>Bs=[BnO k ts d g b,Ar U8 t.1 N]) (nilS,())):=by
  rintro R rfl;refine QMj k ts d g b p ls fs ho hl (QAd U8 ?_);exact QAK [BnO k ts d g b,Ar U8 nilS []] (QAD rfl)
 refine xif (fun h=>?_) (fun h=>?_)
 ·rw[if_pos (by simpa using h)]at hN;exact QAU [Blk k (bnC b ts d g ls fs).v,QAk p] (nil hN.symm)
 have hno:r1=0∧e'=0:=by simpa using h
 rw[if_neg (by rw[hno.1,hno.2];simp)]at hN;have hz:=(QB3 (hae hno.2)).2
 have hcn:0≤A.count∧A.count≤2000:=by omega
 obtain⟨n,hn⟩:=Int.eq_ofNat_of_zero_le hcn.1;refine QAL fun b2=>?_;iterate 4 (refine xsq ?_)
 refine QAd W16 ?_;refine QAK [Blk k (bnC b ts d g ls fs).v,QAk p,Ar BL so A.on,Ar W16 ss A.set,Ar PaE sp A.parts,Blk b1 [.I A.code,.I A.addr,.I A.count,so.v,ss.v,sp.v],Blk b2 [.I 0,nilS.v,nilS.v,nilS.v],Ar W16 nilS []] ?_;refine QBP (fun m (x:Int) As'=>∃(i:Nat) (sl:Sl),x=(i:Int)∧m=n - i∧i≤n∧As'=[Blk k (bnC b ts d g ls fs).v,QAk p,Ar BL so A.on,Ar W16 ss A.set,Ar PaE sp A.parts,Blk b1 [.I A.code,.I A.addr,.I A.count,so.v,ss.v,sp.v],Blk b2 [.I 0,nilS.v,sl.v,nilS.v],Ar W16 sl (List.replicate i (IntKind.u16.wrap v))]) n ⟨0,nilS,rfl,rfl,by omega,rfl⟩ ?_;rintro m x As' K ⟨i,sl,rfl,rfl,hi,rfl⟩ hK;refine xgq (QAA (fun h1=>?_) (fun h1=>?_))
 ·refine QAE (s:=.slice) (x:=sl) (hv:=rfl) (h:=QAL fun b3=>?_);refine QAU [Blk b3 [.int .u16 (IntKind.u16.wrap v)],Ar W16 sl (List.replicate i (IntKind.u16.wrap v))] ?_;refine QEc (E:=W16) (IntKind.u16.wrap v) (hb:=by rw[List.length_replicate];omega) (h:=fun s9=>?_);refine xsq ?_;rw[QAF i (by omega),show List.replicate i (IntKind.u16.wrap v)++[IntKind.u16.wrap v]=List.replicate (i+1) (IntKind.u16.wrap v) from List.replicate_succ'.symm];exact QAK [Blk k (bnC b ts d g ls fs).v,QAk p,Ar BL so A.on,Ar W16 ss A.set,Ar PaE sp A.parts,Blk b1 [.I A.code,.I A.addr,.I A.count,so.v,ss.v,sp.v],Blk b2 [.I 0,nilS.v,s9.v,nilS.v],Ar W16 s9 (List.replicate (i+1) (IntKind.u16.wrap v))] (hK (n - (i+1)) _ _ (by omega) ⟨i+1,s9,rfl,rfl,by omega,rfl⟩)
 ·have hin:i=A.count.toNat:=by omega
  rw[hin];iterate 3 (refine xgq ?_)
  refine QAE (s:=.slice) (x:=so) (hv:=rfl) (h:=QAE (s:=.slice) (x:=ss) (hv:=rfl) (h:=QAE (s:=.slice) (x:=sp) (hv:=rfl) (h:=?_)));refine xgq (xgS (h:=QAE (s:=.slice) (x:=sl) (hv:=rfl) (h:=xgS (h:=?_))))
  have hw:QNP (Qdu A v).set:=fun x hx=>by
   rw[List.eq_of_mem_replicate hx];exact QXU v
  refine xcl (pre:=[]) (QTp A haw so ss sp (Qdu A v) ⟨hw,fun ws h=>by cases h⟩ nilS sl nilS []) (QB1 (QB1 rdb (QB1 rdb rdb)) (QB1 (QKF fun _ _ _ _ _=>⟨rfl,rfl,fun h=>absurd h (Nat.lt_irrefl 0)⟩) (QB1 rdb (QKF fun _ _ _ _ _=>⟨⟨rfl,rfl,fun h=>absurd h (Nat.lt_irrefl 0)⟩,rfl,fun i r x h=>by simp at h⟩)))) ?_
  generalize Qdu A v=rv at *
  rintro⟨s13,(r6:Int),_⟩ _ ⟨h6,rfl⟩;simp only at h6;subst h6;refine QA5 (ca2 ?_);refine xcl (QVC u s13 (QHv A rv)) rdb ?_
  generalize QWS u (QHv A rv)=w at *
  obtain⟨w1,w2⟩:=w;rintro⟨s14,(r7:Int),_⟩ _ ⟨h7,rfl⟩;simp only at h7 hN;subst h7;refine QA5 (ca2 (xif (fun h=>?_) (fun h=>?_)))
  ·rw[if_pos (by simpa using h)]at hN;exact QAU [Blk k (bnC b ts d g ls fs).v,QAk p] (nil hN.symm)
  ·rw[if_neg (by simpa using h)]at hN;subst hN;refine QMj k ts d g b p ls fs ho hl ?_;exact QAK [BnO k ts d g b,Ar U8 s14 w2] (QAD rfl)
theorem QUg{c:Cfg}{m:DM}{now:Int}{M:GM}{os:List QCS}(h:QNQ c m now=.inr (M,os)) :
  ∃o,QYY c=0∧¬(now<0∨now>1099511627776)∧opG m now=.inr o∧(QT1 c o).1.ok=true∧M=Qa2 c o (QT1 c o).1.k (QT1 c o).1.J (QT1 c o).1.lost (QT1 c o).2∧os=(QT1 c o).1.os:=by
 unfold QNQ at h;split at h
 ·cases h
 rename_i h1
 split at h
 ·cases h
 rename_i h2
 split at h
 ·cases h
 rename_i o h3
 unfold QdT at h;split at h
 ·rename_i h4
  have:=Sum.inr.inj h;exact⟨o,Classical.not_not.1 h1,h2,h3,h4,(congrArg Prod.fst this).symm,(congrArg Prod.snd this).symm⟩
 ·cases h
theorem Qak{c:Cfg}{m:DM}{now:Int}{M:GM}{os:List QCS}(h:QNQ c m now=.inr (M,os)){P:QCS→Prop}(hP:QSa P):∀o∈os,P o:=by
 obtain⟨o,_,_,_,_,_,rfl⟩:=QUg h;exact QaL hP _ _ _ _ _ (fun o ho=>by cases ho)
theorem Qbq{c:Cfg}{m:DM}{now:Int}{M:GM}{os:List QCS}(h:QNQ c m now=.inr (M,os))(hk:MOk M):GFit M:=by
 obtain⟨o,hc,_,_,_,rfl,_⟩:=QUg h;have hl:=Pn.allE_len (QPe hc).2.2.2.2.2.2;exact⟨hk,fun _=>rfl,by show c.tags.length≤1000000;omega⟩
def Qco(b:BM)(M:GM)(os:List QCS):Option (BM×GM):=
 if M.epoch≤b.epoch∨M.boots≠IntKind.i64.wrap (b.boots+1) then none
 else if (QaB { b with last:=[],epoch:=M.epoch,boots:=M.boots } M os).wrong=true then none
 else some (QaB { b with last:=[],epoch:=M.epoch,boots:=M.boots } M os,M)
def QM6(b:BM)(m:DM):Option (BM×GM):=match QNQ b.cf m b.now with
 | .inl _=>none
 | .inr (M,os)=>Qco b M os
def QOS(k:Nat)(ts:Sl)(d:Option Addr)(tags:List Pn.Tag)(r:Option (BM×GM))(t:Tup [.bool])(Bs:List HP):Prop:=
 (t.1=false∧r=none∧Bs=[])∨(t.1=true∧∃b' M g' a',r=some (b',M)∧GFit M∧a'.dev=d∧Bs=BnO k ts d (some ⟨g',0,none⟩) b'::Ar Pn.TG ts tags::GwL g' a' M)
theorem QJj(k:Nat)(ts:Sl)(d g:Option Addr)(b:BM)(m:DM) :
  Ct Pr 17 [.pointer (some ⟨k,0,none⟩)] .one [.bool] [BnO k ts d g b,Ar Pn.TG ts b.cf.tags,QAC d m] GTab (QOS k ts d b.cf.tags (QM6 b m)):=by
 refine sp1 (QGN _) fun B hr=>?_;haveI:=QKI hr;obtain⟨N,hN⟩:∃N,QM6 b m=N:=⟨_,rfl⟩;rw[hN];unfold QM6 at hN
 have bad:∀{As:List HP},N=none→Ent B As (Ret B (ss:=[.bool]) (QOS k ts d b.cf.tags N) (false,())):=by
  intro As h;exact QAa (l:=[]) (QAD (.inl ⟨rfl,h,rfl⟩))
 unfold QGN mf;dsimp only;refine xbn 0 fun p ls fs ho hl=>?_;refine QAO (QAQ ?_);rw[QAz,QAz,QAz,QAz,QAz,QAz];iterate 6 (refine xgq ?_)
 refine QAE (s:=.slice) (x:=ts) (hv:=rfl) (h:=xng (xgq (xng (xgq ?_))));refine QAU [Ar Pn.TG ts b.cf.tags] (QCm (E:=Pn.TG) (xs:=b.cf.tags) ts fun _ hsc=>?_);refine xcl (QX8 b.cf ts hsc d m b.now) rdb ?_;have hbf:=@Qbq b.cf m b.now;have hbo:=@Qak b.cf m b.now
 generalize QNQ b.cf m b.now=r at *
 rintro⟨q1,s1,e,_⟩ _ h;rcases h with⟨m',e',rfl,h2,h3,h4,h5,rfl⟩|⟨M,os,g',a',rfl,⟨hMk,hol⟩,h3,h4,h5,rfl⟩
 ·simp only at h3 h4 h5 hN;subst h5;exact QA5 (ca3 (QAJ (xif (fun _=>QBz rfl (bad hN.symm)) (fun h=>absurd (by simpa using h) h2))))
 simp only at h3 h5 hN;subst h3 h5;have hfit:=hbf rfl hMk;have hsh:=hbo rfl QNu;unfold Qco at hN;refine QSY (ca3 (QAJ (QBF rfl (QBF rfl ?_))));refine xns (xsq (xns (xsq ?_)));refine xcl (QFx g' a' M) rdb ?_;rintro⟨r,r1,r2,r3,r4,r5,r6,c,_⟩ _ ⟨hst,rfl⟩;unfold QWM at hst;injection hst with h1 h2 h3 h4 h5 h6 h7 h8;simp only at h1 h2 h3 h4 h5 h6 h7 h8;subst h1 h2 h3 h4 h5 h6 h7 h8;refine QFO (ca8 (QAL fun b1=>?_));iterate 8 (refine xsq ?_)
 refine QAO ?_;have hfr:(bnC b ts d (some ⟨g',0,none⟩) nilS fs).v.length=55:=rfl;refine QAS (fun(x:Bool) As'=>(x=true↔(M.epoch≤b.epoch∨M.boots≠IntKind.i64.wrap (b.boots+1)))∧As'=Blk b1 [.I M.k.log.next,.I M.k.log.safe,.I M.k.log.lo,.I M.acked,.I M.epoch,.I M.boots,.I M.lost,.bool (decide (M.ma.tries>0))]::Blk k (bnC b ts d (some ⟨g',0,none⟩) nilS fs).v::QAk p::QNG s1 os::Ar Pn.TG ts b.cf.tags::GwL g' a' M) (fun K hK=>?_) ?_
 ·refine xgq (xng (xgq (QAA (fun h=>?_) (fun h=>?_))))
  ·exact QAK (Blk b1 [.I M.k.log.next,.I M.k.log.safe,.I M.k.log.lo,.I M.acked,.I M.epoch,.I M.boots,.I M.lost,.bool (decide (M.ma.tries>0))]::Blk k (bnC b ts d (some ⟨g',0,none⟩) nilS fs).v::QAk p::QNG s1 os::Ar Pn.TG ts b.cf.tags::GwL g' a' M) (hK _ _ ⟨⟨fun _=>.inl h,fun _=>rfl⟩,rfl⟩)
  ·refine xgq (xng (xgq ?_));refine QAK (Blk b1 [.I M.k.log.next,.I M.k.log.safe,.I M.k.log.lo,.I M.acked,.I M.epoch,.I M.boots,.I M.lost,.bool (decide (M.ma.tries>0))]::Blk k (bnC b ts d (some ⟨g',0,none⟩) nilS fs).v::QAk p::QNG s1 os::Ar Pn.TG ts b.cf.tags::GwL g' a' M) (hK _ _ ⟨?_,rfl⟩);simp only[Bool.false_or,bne_iff_ne];exact⟨.inr,fun q=>q.resolve_left h⟩
 rintro x _ ⟨hx,rfl⟩;refine xif (fun h=>?_) (fun h=>?_)
 ·rw[if_pos (hx.1 h)]at hN;exact bad hN.symm
 rw[if_neg (fun q=>by rw[hx.2 q]at h;cases h)]at hN;refine xgq (xns (xsq (xgq (xns (xsq ?_)))));refine QMj k ts d (some ⟨g',0,none⟩) { b with last:=[],epoch:=M.epoch,boots:=M.boots } p nilS fs ⟨ho.f,ho.n,ho.h⟩ ⟨.inl ⟨rfl,rfl⟩,hl.len,hl.each,hl.short⟩ ?_;refine xcl (QUH k ts d g' a' M { b with last:=[],epoch:=M.epoch,boots:=M.boots } s1 os hsh (by omega)) rdb ?_;rintro _ _ rfl
 generalize QaB { b with last:=[],epoch:=M.epoch,boots:=M.boots } M os=b2 at *
 refine QSY (ca0 ?_);refine xbn 0 fun p2 ls2 fs2 ho2 hl2=>?_;refine xng (xgq ?_);show Ent B _ (Ret B (ss:=[.bool]) (QOS k ts d b.cf.tags N) (!b2.wrong,()))
 cases hw:b2.wrong with
 | true=>
  rw[if_pos hw]at hN;exact bad hN.symm
 | false=>
  rw[if_neg (by rw[hw];decide)]at hN;subst hN;refine QMj k ts d (some ⟨g',0,none⟩) b2 p2 ls2 fs2 ho2 hl2 ?_;exact QAK (BnO k ts d (some ⟨g',0,none⟩) b2::Ar Pn.TG ts b.cf.tags::GwL g' a' M) (QAD (.inr ⟨rfl,b2,M,g',a',rfl,hfit,h4,rfl⟩))
abbrev Qc3(b:BM):PkV:=⟨2,b.epoch,b.sent,0,0,[]⟩
abbrev QPT(id:Int):QKZ:=⟨id,1,Qea id⟩
abbrev QDo:ByteArray:=⟨#[116]⟩
def QOk(b:BM)(k a:Int):Option (BM×EvV):=
 if k=0∨k=1 then some ({ b with now:=IntKind.i64.wrap (b.now+QC2 a 6) },⟨1,IntKind.i64.wrap (b.now+QC2 a 6),[],ByteArray.empty⟩)
 else if k=2∨k=3 then (if (QcF b.last (QC2 a 65536)).length>0 then some ({ b with last:=[] },⟨2,0,QcF b.last (QC2 a 65536),ByteArray.empty⟩) else none)
 else if k=4 then some (b,⟨3,0,QA8 (Qc3 b),ByteArray.empty⟩)
 else if k=5 then some (b,⟨3,0,QA8 (QCU (QPT (IntKind.i64.wrap (1+QC2 a 12)))).1,ByteArray.empty⟩)
 else if k=8 then some (b,⟨4,0,(Qe7 7 1 (QDl (Qc7 (IntKind.i64.wrap (1+QC2 a 4))))).2,ByteArray.empty⟩)
 else some (b,⟨5,0,[],QDo⟩)
def Qeq(b:BM)(M:GM):Option (BM×EvV)→BM×GM
 | none=>(b,M)
 | some (b',e)=>(doB b' M e,(QBZ M e).1)
abbrev Qfl(M:GM)(n:Int):GM:={ M with k:=⟨QcS M.k.dev n,M.k.log,M.k.X⟩ }
def QZA(b:BM)(M:GM)(kd a:Int):Option (BM×GM):=
 if QC2 kd 10=6 then some (b,Qfl M (QC2 a 40))
 else if QC2 kd 10=7 then QM6 b (QI1 M.k.dev a)
 else some (Qeq b M (QOk b (QC2 kd 10) a))
theorem QaR{α:Type}{E:Enc α}{F:List HP}:Rds B F (RAr E nilS []):=QKF fun _ _ _ _ _=>⟨rfl,by show 0=0*E.sz;rw[Nat.zero_mul],fun h=>absurd h (Nat.lt_irrefl 0)⟩
theorem QHP(p:PkV):(QA8 p).length≤2000:=by
 unfold QA8;split
 ·rename_i h;exact QVN p h
 ·exact Nat.zero_le _
theorem Qae(l:List UInt8)(v:Int):(QcF l v).length≤1000:=by
 unfold QcF;repeat' split
 ·exact Nat.zero_le _
 ·exact Nat.zero_le _
 ·exact QPx _ _
theorem QMk(c:QKZ):((QCU c).1.kind=3∨(QCU c).1.kind=4→(QCU c).1.epoch=0∧(QCU c).1.seq=0):=by
 unfold QCU;repeat' split
 all_goals exact fun _=>⟨rfl,rfl⟩
theorem GFit.arm{M:GM}(h:GFit M)(n:Int):GFit (Qfl M n):=⟨⟨h.ok.clock,h.ok.keep,h.ok.slots,h.ok.polls,h.ok.tags,h.ok.held,h.ok.al,h.ok.queue,h.ok.poll,h.ok.busy⟩,h.run,h.ts⟩
abbrev Qdr:Pn.Tag:={ name:=QDo,unit:=1,kind:=4,addr:=5,every:=2,wide:=false,sgn:=false,swap:=false,mul:=1,div:=1,add:=0,dead:=0,quiet:=0,ulow:=false,uhigh:=false,latch:=false,low:=0,high:=0,hyst:=0 }
abbrev QRI(retries:Int):Cfg:=⟨3,retries,2,5,10,1,[Qdr]⟩
abbrev QgM:List Sh:=[.str,.I,.I,.I,.I,.bool,.bool,.bool,.I,.I,.I,.I,.I,.bool,.bool,.bool,.I,.I,.I]
theorem Qbs:Ct Pr 38 [.string QDo,.I 5] .agg QgM [] emp
  (fun t Bs=>t=(QDo,1,4,5,2,false,false,false,1,1,0,0,0,false,false,false,0,0,0,())∧Bs=[]):=by
 refine QAg (ss:=QgM) (φ:=fun K=>(QMt _ _ K).1) (fun h=>cf _ rfl (by kernel_rfl) h) fun B _=>?_;show Ent B [] (QMt QDo 5 fun x0 x1 x2 x3 x4 x5 x6 x7 x8 x9 x10 x11 x12 x13 x14 x15 x16 x17 x18=>Ret B (ss:=QgM) (fun t Bs=>t=(QDo,1,4,5,2,false,false,false,1,1,0,0,0,false,false,false,0,0,0,())∧Bs=[]) (x0,x1,x2,x3,x4,x5,x6,x7,x8,x9,x10,x11,x12,x13,x14,x15,x16,x17,x18,()));unfold QMt mf;dsimp only;refine QAL fun b=>?_;iterate 19 (refine xsq ?_)
 iterate 19 (refine xgq ?_)
 exact QAa (l:=[]) (QAD ⟨rfl,rfl⟩)
abbrev CfT:List Sh:=[.I,.I,.I,.I,.I,.I,.slice]
theorem QQ2(retries:Int):Ct Pr 11 [.I retries] .agg CfT [] emp
  (fun t Bs=>t.1=3∧t.2.1=retries∧t.2.2.1=2∧t.2.2.2.1=5∧t.2.2.2.2.1=10∧t.2.2.2.2.2.1=1∧Bs=[Ar Pn.TG t.2.2.2.2.2.2.1 [Qdr]]):=by
 refine QAg (ss:=CfT) QQW fun B _=>?_;show Ent B [] (QJx retries fun x0 x1 x2 x3 x4 x5 x6=>Ret B (ss:=CfT) (fun t Bs=>t.1=3∧t.2.1=retries∧t.2.2.1=2∧t.2.2.2.1=5∧t.2.2.2.2.1=10∧t.2.2.2.2.2.1=1∧Bs=[Ar Pn.TG t.2.2.2.2.2.2.1 [Qdr]]) (x0,x1,x2,x3,x4,x5,x6,()));unfold QJx;refine QAL fun b=>?_;refine xcl Qbs rdb ?_;rintro _ _ ⟨rfl,rfl⟩;refine QAy ?_;dsimp only[Cur.app];refine QAL fun b1=>?_;iterate 7 (refine xsq ?_)
 iterate 6 (refine xgq ?_)
 refine QAE (s:=.slice) (x:=⟨some ⟨b1,0,none⟩,1,1⟩) (hv:=rfl) (h:=?_);refine QAe (Q:=Ar Pn.TG ⟨some ⟨b1,0,none⟩,1,1⟩ [Qdr]) 0 (fun g hg=>⟨[],QAm [Qdr] 1 rfl rfl hg⟩) ?_;exact QAK [Ar Pn.TG ⟨some ⟨b1,0,none⟩,1,1⟩ [Qdr]] (QAD ⟨rfl,rfl,rfl,rfl,rfl,rfl,rfl⟩)
abbrev z13:List Int:=[0,0,0,0,0,0,0,0,0,0,0,0,0]
abbrev bm0(c:Cfg):BM:=⟨c,0,[],0,0,0,[[],[],[],[],[],[],[],[],[],[],[],[],[]],z13,z13,0,false⟩
abbrev s13:List Sl:=[nilS,nilS,nilS,nilS,nilS,nilS,nilS,nilS,nilS,nilS,nilS,nilS,nilS]
abbrev QgT(room:Int):DM:=⟨false,false,0,room,[]⟩
def QKS(c:Cfg)(room:Int):Option (BM×GM):=if room<0∨room>16777216 then none else QM6 (bm0 c) (QgT room)
def QeM(ts:Sl)(tags:List Pn.Tag)(r:Option (BM×GM))(t:Tup [.ptr])(Bs:List HP):Prop:=
 (t.1=none∧r=none∧Bs=[])∨(∃k b' M g' a',t.1=some ⟨k,0,none⟩∧r=some (b',M)∧GFit M∧Bs=BnO k ts a'.dev (some ⟨g',0,none⟩) b'::Ar Pn.TG ts tags::GwL g' a' M)
theorem QLb(c:Cfg)(s:Sl)(room:Int):Ct Pr 10 [c.v s,.I room] .one [.ptr] [Ar Pn.TG s c.tags] GTab (QeM s c.tags (QKS c room)):=by
 refine sp1 (QLK _ _ _ _ _ _ _ _) fun B hr=>?_;haveI:=QKI hr;unfold QLK mf;dsimp only;unfold QKS;refine QAL fun b=>?_;refine xcl (Qbw room) rdb ?_;rintro⟨q,r,_⟩ _ h;rcases h with⟨h1,h2,h3,rfl⟩|⟨h1,h2,h3,⟨bd,h4⟩,rfl⟩
 ·simp only at h2 h3;subst h2 h3;rw[if_pos h1];refine QAy (ca2 ?_);iterate 6 (refine xgq ?_)
  refine QAE (s:=.slice) (x:=s) (hv:=rfl) (h:=QAL fun b1=>QAJ (QBz rfl (QBz rfl ?_)));exact QAa (l:=[]) (QAD (.inl ⟨rfl,rfl,rfl⟩))
 simp only at h3 h4;subst h3;rw[if_neg (by omega)];refine QA5 (ca2 ?_);iterate 6 (refine xgq ?_)
 refine QAE (s:=.slice) (x:=s) (hv:=rfl) (h:=QAL fun b1=>QAJ (QBF rfl ?_));refine QAe (Q:=Blk b1 (bnC (bm0 c) s q none nilS s13).v) 0 (fun g hg=>hg) ?_;refine QBQ [] (QAk []) (fun _ _=>trivial) ?_;refine QMj b1 s q none (bm0 c) [] nilS s13 ⟨rfl,rfl,rfl⟩ ⟨.inl ⟨rfl,rfl⟩,rfl,fun i hi=>.inl ?_,fun r hr=>by cases hr⟩ ?_
 ·rcases Qcw hi with rfl|rfl|rfl|rfl|rfl|rfl|rfl|rfl|rfl|rfl|rfl|rfl|rfl<;>exact⟨rfl,rfl⟩
 refine xcl (QJj b1 s q none (bm0 c) (QgT room)) rdb ?_;rintro⟨t,_⟩ _ h;rcases h with⟨ht,hn,rfl⟩|⟨ht,b',M,g',a',hs,hf,hd,rfl⟩
 ·simp only at ht;subst ht;exact QAy (ca1 (QBz rfl (QAa (l:=[]) (QAD (.inl ⟨rfl,hn,rfl⟩)))))
 ·simp only at ht;subst ht;subst hd;refine QFA (ca1 (QBF rfl ?_));exact QAK (BnO b1 s a'.dev (some ⟨g',0,none⟩) b'::Ar Pn.TG s c.tags::GwL g' a' M) (QAD (.inr ⟨b1,b',M,g',a',rfl,hs,hf,rfl⟩))
end Go.Cx
