/-
The bench of a gateway: what it holds.
-/
import Derived.Test.YthbhbkjkclhkgaaGreatDoorGK
import Derived.Test.YthbhbkjkclhkgaaGreatDoorMX
set_option linter.unusedSimpArgs false
namespace Go.Cx
open Go Go.Cf
set_option linter.unusedVariables false
set_option maxRecDepth 100000
set_option synthInstance.maxSize 4000
set_option synthInstance.maxHeartbeats 200000
variable {B:QBJ}{As F:List HP}
def QCB(k n:Int):Int:=if n<1 then 0 else if k.tmod n<0 then k.tmod n+n else k.tmod n
theorem QL8{k n:Int}(h:1<=n):0<=QCB k n/\QCB k n<n:=by
 unfold QCB;have h1:=Int.tmod_lt_of_pos k (show 0<n by omega)
 have a : -n<k.tmod n:=by
  have:=Int.lt_tmod_of_pos k (show 0<n by omega);omega
 rw[Wb Om];split<;>omega
theorem QcV{k n:Int}(h:0<=k)(a:k<n):QCB k n=k:=by
 unfold QCB;rw[Int.tmod_eq_of_lt h a,Wb Om,Wb Om]
theorem QC0(k n:Int)(hn:i64 n):Ct Pr 12 [.I k,.I n] .one [.I] [] emp (fun t Bs=>t.1=QCB k n/\Bs=[]):=by
 refine sp1 (QW8 _ _) fun B _=>?_;unfold QW8 mf;dsimp only;refine QAB (fun h=>QAD ⟨?_,rfl⟩) (fun h=>?_)
 ·unfold QCB;rw[We h]
 have h1:=Int.tmod_lt_of_pos k (show 0<n by omega)
 have b : -n<k.tmod n:=by
  have:=Int.lt_tmod_of_pos k (show 0<n by omega);omega
 have d:=hn.2;refine QBA Om (QAV (fun(x:Int) As'=>x=QCB k n/\As'=[]) (fun K a=>QAB (fun g=>a _ _ ⟨?_,rfl⟩) (fun g=>a _ _ ⟨?_,rfl⟩)) ?_)
 ·unfold QCB;rw[Wb h,We g,QAC _ Om Om]
 ·unfold QCB;rw[Wb h,Wb g]
 ·rintro x _ ⟨hx,rfl⟩;exact QAD ⟨hx,rfl⟩
structure BnC where
 cf:Cfg
 ts:Sl
 d:Ac
 g:Ac
 now:Int
 ls:Sl
 sent:Int
 epoch:Int
 boots:Int
 fs:List Sl
 count:Ae
 home:Ae
 told:Int
 wrong:Bool
abbrev BnC.f(c:BnC)(i:Nat):Value:=(c.fs.getD i nilS).v
abbrev BnC.n(c:BnC)(i:Nat):Value:=.I (c.count.getD i 0)
abbrev BnC.h(c:BnC)(i:Nat):Value:=.I (c.home.getD i 0)
abbrev BnC.v(c:BnC):Ad:=[.I c.cf.timeout,.I c.cf.retries,.I c.cf.window,.I c.cf.resend,.I c.cf.span,.I c.cf.keep,c.ts.v,.pointer c.d,.pointer c.g,.I c.now,c.ls.v,.I c.sent,.I c.epoch,.I c.boots,
 c.f 0,c.f 1,c.f 2,c.f 3,c.f 4,c.f 5,c.f 6,c.f 7,c.f 8,c.f 9,c.f 10,c.f 11,c.f 12,
 c.n 0,c.n 1,c.n 2,c.n 3,c.n 4,c.n 5,c.n 6,c.n 7,c.n 8,c.n 9,c.n 10,c.n 11,c.n 12,
 c.h 0,c.h 1,c.h 2,c.h 3,c.h 4,c.h 5,c.h 6,c.h 7,c.h 8,c.h 9,c.h 10,c.h 11,c.h 12,.I c.told,.bool c.wrong]
structure BnC.Ok(c:BnC):Prop where
 f:c.fs.length=13
 n:c.count.length=13
 h:c.home.length=13
theorem Qfc{i:Nat}(h:i<13):i=0\/i=1\/i=2\/i=3\/i=4\/i=5\/i=6\/i=7\/i=8\/i=9\/i=10\/i=11\/i=12:=Om
theorem QjA{α:Type}{l:List α}(h:l.length=13):∃a0 a a2 a3 a4 a5 b d e a9 f g j,l=[a0,a,a2,a3,a4,a5,b,d,e,a9,f,g,j]:=by
 match l,h with
 | [a0,a,a2,a3,a4,a5,b,d,e,a9,f,g,j],_=>exact⟨a0,a,a2,a3,a4,a5,b,d,e,a9,f,g,j,rfl⟩
theorem BnC.get_f(c:BnC){i:Nat}(h:i<13):c.v[14+i]? = some (c.f i):=by
 rcases Qfc h with rfl|rfl|rfl|rfl|rfl|rfl|rfl|rfl|rfl|rfl|rfl|rfl|rfl<;>rfl
theorem BnC.get_n(c:BnC){i:Nat}(h:i<13):c.v[27+i]? = some (c.n i):=by
 rcases Qfc h with rfl|rfl|rfl|rfl|rfl|rfl|rfl|rfl|rfl|rfl|rfl|rfl|rfl<;>rfl
theorem BnC.get_h(c:BnC){i:Nat}(h:i<13):c.v[40+i]? = some (c.h i):=by
 rcases Qfc h with rfl|rfl|rfl|rfl|rfl|rfl|rfl|rfl|rfl|rfl|rfl|rfl|rfl<;>rfl
theorem BnC.set_f(c:BnC)(ok:c.Ok){i:Nat}(h:i<13)(x:Sl):c.v.set (14+i) x.v=({ c with fs:=c.fs.set i x }:BnC).v:=by
 obtain⟨a0,a,a2,a3,a4,a5,b,d,g,a9,j,l,m,e⟩:=QjA ok.f;unfold BnC.v BnC.f;rw[e];rcases Qfc h with rfl|rfl|rfl|rfl|rfl|rfl|rfl|rfl|rfl|rfl|rfl|rfl|rfl<;>rfl
theorem BnC.set_n(c:BnC)(ok:c.Ok){i:Nat}(h:i<13)(x:Int):c.v.set (27+i) (.I x)=({ c with count:=c.count.set i x }:BnC).v:=by
 obtain⟨a0,a,a2,a3,a4,a5,b,d,f,a9,g,j,l,e⟩:=QjA ok.n;unfold BnC.v BnC.n;rw[e];rcases Qfc h with rfl|rfl|rfl|rfl|rfl|rfl|rfl|rfl|rfl|rfl|rfl|rfl|rfl<;>rfl
theorem BnC.set_h(c:BnC)(ok:c.Ok){i:Nat}(h:i<13)(x:Int):c.v.set (40+i) (.I x)=({ c with home:=c.home.set i x }:BnC).v:=by
 obtain⟨a0,a,a2,a3,a4,a5,b,d,f,a9,g,j,l,e⟩:=QjA ok.h;unfold BnC.v BnC.h;rw[e];rcases Qfc h with rfl|rfl|rfl|rfl|rfl|rfl|rfl|rfl|rfl|rfl|rfl|rfl|rfl<;>rfl
abbrev QJj:=List (Sl×Ab)
abbrev QAt(p:QJj):HP:=Each (fun(r:Sl×Ab) (o:Sl×Ab)=>Ar U8 r.1 o.2) p p
def Src(p:QJj)(s:Sl)(a:Ab):Prop:=(s=nilS/\a=[])\/(s,a)∈p
theorem Src.more{p q:QJj}{s:Sl}{a:Ab}(h:Src p s a):Src (p++q) s a:=h.imp id fun h=>Zp _ h
theorem QKb{p:QJj}{s:Sl}{a:Ab}(h:Src p s a)(j:Nat){d:List HP}[q:Pick j F (QAt p) d]:Rds B F (RAr U8 s a):=by
 rcases h with⟨rfl,rfl⟩|h
 ·exact QIX fun _ _ _ _ _=>⟨rfl,rfl,fun h=>absurd h (Zu 0)⟩
 ·obtain⟨i,hi⟩:=List.getElem?_of_mem h;exact QL3 (B:=B) j (P:=QAt p) (fun g b=>QD0 (S:=fun(r:Sl×Ab) (o:Sl×Ab) g=>RAr U8 r.1 o.2 g) (fun _ _ _ _ h s=>h.mono s) (fun _ _ _ h=>h.read) b hi hi) (fun _ _ h s=>h.mono s)
theorem QMh{p:QJj}{s:Sl}{a:Ab}(h:Src p s a){f:QBs}(b:QAt p f):s.n<=s.c/\a.length=s.n:=by
 rcases h with⟨rfl,rfl⟩|h
 ·exact⟨Wt _,rfl⟩
 ·obtain⟨i,hi⟩:=List.getElem?_of_mem h;exact QD0 (S:=fun(r:Sl×Ab) (o:Sl×Ab) g=>r.1.n<=r.1.c/\o.2.length=r.1.n) (fun _ _ _ _ h s=>h) (fun _ _ _ ⟨zs,h⟩=>⟨h.cap,h.read.1⟩) b hi hi
structure BM where
 cf:Cfg
 now:Int
 last:Ab
 sent:Int
 epoch:Int
 boots:Int
 frames:List Ab
 count:Ae
 home:Ae
 told:Int
 wrong:Bool
structure BM.Ok(b:BM):Prop where
 f:b.frames.length=13
 n:b.count.length=13
 h:b.home.length=13
abbrev bnC(b:BM)(ts:Sl)(d g:Ac)(ls:Sl)(fs:List Sl):BnC:=⟨b.cf,ts,d,g,b.now,ls,b.sent,b.epoch,b.boots,fs,b.count,b.home,b.told,b.wrong⟩
structure Lies(b:BM)(p:QJj)(ls:Sl)(fs:List Sl):Prop where
 last:Src p ls b.last
 len:fs.length=13
 each:∀i,i<13->Src p (fs.getD i nilS) (b.frames.getD i [])
 short:∀r∈p,r.2.length<=1000000
theorem Lies.more{b:BM}{p q:QJj}{ls:Sl}{fs:List Sl}(h:Lies b p ls fs)(d:∀r∈q,r.2.length<=1000000):Lies b (p++q) ls fs:=⟨h.last.more,h.len,fun i hi=>(h.each i hi).more,fun r a=>(W4.1 a).elim (h.short r) (d r)⟩
theorem Src.short{p:QJj}{s:Sl}{a:Ab}(h:Src p s a)(b:∀r∈p,r.2.length<=1000000):a.length<=1000000:=by
 rcases h with⟨_,rfl⟩|h
 ·exact Ua _
 ·exact b _ h
def BnO(k:Nat)(ts:Sl)(d g:Ac)(b:BM):HP:=fun h=>b.Ok/\∃p ls fs,Lies b p ls fs/\QBr [Blk k (bnC b ts d g ls fs).v,QAt p] h
theorem xbn(j:Nat){k:Nat}{ts:Sl}{d g:Ac}{b:BM}{φ:WP}[p:Pick j As (BnO k ts d g b) F](h:∀p ls fs,b.Ok->Lies b p ls fs->Ent B (Blk k (bnC b ts d g ls fs).v::QAt p::F) φ):Ent B As φ:=by
 refine QEZ j (fun Bs=>∃p ls fs,b.Ok/\Lies b p ls fs/\Bs=[Blk k (bnC b ts d g ls fs).v,QAt p]) (fun f a=>?_) ?_
 ·obtain⟨e,p,ls,fs,hl,a⟩:=a;exact⟨_,⟨p,ls,fs,e,hl,rfl⟩,a⟩
 ·rintro _ ⟨p,ls,fs,e,hl,rfl⟩;exact QBK (h p ls fs e hl)
theorem QMn(k:Nat)(ts:Sl)(d g:Ac)(b:BM)(p:QJj)(ls:Sl)(fs:List Sl){G:List HP}[s:Split [Blk k (bnC b ts d g ls fs).v,QAt p] As G]{φ:WP}(e:b.Ok)(hl:Lies b p ls fs)(h:Ent B (BnO k ts d g b::G) φ):Ent B As φ:=
 QBO [Blk k (bnC b ts d g ls fs).v,QAt p] (BnO k ts d g b) (fun f a=>⟨e,p,ls,fs,hl,a⟩) h
theorem Qic{q:Ac}{a:Addr}{n:Nat}{i:Int}{sz:Nat}{K:Addr->WP}(d:q=some a)(h0:0<=i)(h1:i<n)(h:Ent B As (K (a.add (i.toNat*sz)))):Ent B As (QLG q n i sz K):=fun w b=>⟨a,d,h0,h1,h w b⟩
theorem QcL(g o n:Nat):Addr.add ⟨g,o,none⟩ (n*1)=⟨g,o+n,none⟩:=by
 rw[Nat.mul_one];unfold Addr.add;split
 ·rename_i h;rw[h];rfl
 ·rfl
theorem xng{k off:Nat}{s:Sh}{K:Addr->s.ty->WP}(h:Ent B As (QAn s ⟨k,off,none⟩ (K ⟨k,0,none⟩))):Ent B As (QC3 (some ⟨k,0,none⟩) fun a=>QAn s (a.add off) (K a)):=QAO (by rw[QA8];exact h)
theorem xns{k off:Nat}{v:Value}{K:WP}(h:Ent B As (QBE ⟨k,off,none⟩ v K)):Ent B As (QC3 (some ⟨k,0,none⟩) fun a=>QBE (a.add off) v K):=QAO (by rw[QA8];exact h)
theorem xni{k off n:Nat}{i:Int}{K:Addr->WP}(h0:0<=i)(h1:i<n)(h:Ent B As (K ⟨k,off+i.toNat,none⟩)):Ent B As (QC3 (some ⟨k,0,none⟩) fun a=>QLG (some (a.add off)) n i 1 K):=QAO (Qic rfl h0 h1 (by rw[QA8,QcL];exact h))
def Qgq(b:BM)(i:Nat)(p:Ab):Bool:=
 if IntKind.i64.wrap (b.count.getD i 0+1)>IntKind.i64.wrap (1+b.cf.retries) then true
 else if b.count.getD i 0>0/\(b.home.getD i 0≠b.boots\/b.frames.getD i []≠p) then true else b.wrong
abbrev QhO(b:BM)(i:Nat)(p:Ab)(w:Bool):BM:={ b with last:=p,frames:=b.frames.set i p,home:=b.home.set i b.boots,count:=b.count.set i (IntKind.i64.wrap (b.count.getD i 0+1)),wrong:=w }
def QKh(b:BM)(p:Ab):BM:=
 if (QAZ p).1≠0\/(QAT (QAZ p).2.2).2≠0\/((QAZ p).2.1.toNat:Int)≠1 then { b with last:=p,wrong:=true }
 else if (QAT (QAZ p).2.2).1.code≠6 then { b with last:=p,wrong:=b.wrong||((QAT (QAZ p).2.2).1.code != 4) }
 else if (QAT (QAZ p).2.2).1.set.getD 0 0<1\/(QAT (QAZ p).2.2).1.set.getD 0 0>12\/(QAT (QAZ p).2.2).1.addr≠3 then { b with last:=p,wrong:=true }
 else QhO b ((QAT (QAZ p).2.2).1.set.getD 0 0).toNat p (Qgq b ((QAT (QAZ p).2.2).1.set.getD 0 0).toNat p)
theorem QeD{b:BM}(h:b.Ok)(p:Ab):(QKh b p).Ok:=by
 unfold QKh;repeat' split
 ·exact⟨h.f,h.n,h.h⟩
 ·exact⟨h.f,h.n,h.h⟩
 ·exact⟨h.f,h.n,h.h⟩
 ·exact⟨by show (b.frames.set _ _).length=13;rw[Ob];exact h.f,by show (b.count.set _ _).length=13;rw[Ob];exact h.n,by show (b.home.set _ _).length=13;rw[Ob];exact h.h⟩
theorem QN4(xs:Ab):(QAZ xs).2.2.length<=1000:=by
 unfold QAZ;repeat' split
 all_goals try exact Ua _
 simp only[List.length_tail]
 have:(QC5 xs).2.length<=xs.length:=by
  unfold QC5;repeat' split
  all_goals simp
 omega
theorem Lies.one{b a:BM}{p:QJj}{ls:Sl}{fs:List Sl}(h:Lies b p ls fs)(d:a.frames=b.frames){s:Sl}(e:Src p s a.last):Lies a p s fs:=⟨e,h.len,by rw[d];exact h.each,h.short⟩
theorem QQi{α:Type}(l:List α)(i j:Nat)(x d:α)(h:i<l.length):(l.set i x).getD j d=if i=j then x else l.getD j d:=by
 rw[W0,W0,List.getElem?_set];split
 ·rename_i e;subst e;simp[h]
 ·rfl
theorem BnC.len(c:BnC):c.v.length=55:=rfl
section
variable {k:Nat}{c:BnC}{i:Nat}{K:WP}{R:List HP}
theorem xsf(ok:c.Ok)(hi:i<13){x:Sl}(h:Ent B (Blk k ({ c with fs:=c.fs.set i x }:BnC).v::R) K):Ent B (Blk k c.v::R) (QBE ⟨k,14+i,none⟩ x.v K):=
 QII (cs:=c.v) (O6 _) (by rw[BnC.len];omega) rfl (O6 _) (by rw[BnC.set_f c ok hi];exact h)
theorem xsn(ok:c.Ok)(hi:i<13){x:Int}(h:Ent B (Blk k ({ c with count:=c.count.set i x }:BnC).v::R) K):Ent B (Blk k c.v::R) (QBE ⟨k,27+i,none⟩ (.I x) K):=
 QII (cs:=c.v) (O6 _) (by rw[BnC.len];omega) rfl (O6 _) (by rw[BnC.set_n c ok hi];exact h)
theorem xsh(ok:c.Ok)(hi:i<13){x:Int}(h:Ent B (Blk k ({ c with home:=c.home.set i x }:BnC).v::R) K):Ent B (Blk k c.v::R) (QBE ⟨k,40+i,none⟩ (.I x) K):=
 QII (cs:=c.v) (O6 _) (by rw[BnC.len];omega) rfl (O6 _) (by rw[BnC.set_h c ok hi];exact h)
end
theorem Qaf(k:Nat)(ts:Sl)(d g:Ac)(b:BM)(p:QJj)(ls:Sl)(fs:List Sl)(J:b.Ok)(hl:Lies b p ls fs)(s:Sl)(a:Ab)(O:Src p s a) :
  Ct Pr 111 [.pointer (some ⟨k,0,none⟩),s.v] (.tup []) [] [Blk k (bnC b ts d g ls fs).v,QAt p] emp
  (fun _ Bs=>∃D,Lies (QKh b a) p s D/\Bs=[Blk k (bnC (QKh b a) ts d g s D).v,QAt p]):=by
 refine sp0 (QGw _ _) fun B _=>?_;obtain⟨N,l⟩:∃N,QKh b a=N:=⟨_,rfl⟩;rw[l];unfold QKh at l;unfold QGw mf;dsimp only;refine QB6 1 (P1:=QAt p) (fun f a4=>QMh O a4) fun a5=>?_;refine xns (xsq ?_);refine QAb [Blk k (bnC { b with last:=a } ts d g s fs).v,QAt p] ?_;refine xcl (pre:=[]) (QHl s a a5.1) (QKb O 1) ?_;have a9:=QN4 a
 generalize QAZ a=o at *
 obtain⟨e,u,pdu⟩:=o;simp only at l a9;rintro⟨r,S,a8,_⟩ _ ⟨T,U,rfl⟩;simp only at T U;subst T U;refine QAz (ca3 (QCl (E:=U8) (xs:=pdu) S fun _ a6=>?_));refine xcl (QGp pdu Om S a6) rdb ?_;have Y:=@QWP pdu;have Z:=QH2 pdu
 generalize QAT pdu=C at *
 obtain⟨A,b4⟩:=C;simp only at l Y Z;rintro⟨b5,b6,b7,b8,ss,b9,V,_⟩ _ ⟨rfl,rfl,rfl,G,rfl⟩;simp only at G;subst G;refine QLn (ca7 (QAL fun b3=>?_));iterate 6 (refine xsq ?_)
 have P:∀{m:BM}{R:List HP},m=N->m.frames=b.frames->m.last=a->Ent B (Blk k (bnC m ts d g s fs).v::QAt p::R) (Ret B (ss:=[]) (fun _ Bs=>∃D,Lies N p s D/\Bs=[Blk k (bnC N ts d g s D).v,QAt p]) ()):=by
  rintro m R rfl h1 t;exact QAK [Blk k (bnC m ts d g s fs).v,QAt p] (QAD ⟨fs,hl.one h1 (by rw[t];exact O),rfl⟩)
 refine xif (fun h=>?_) (fun h=>?_)
 ·rw[We (by simpa [or_assoc]using h)]at l;refine xns (xsq ?_);exact QAb [Blk k (bnC { b with last:=a,wrong:=true } ts d g s fs).v,QAt p] (P l rfl rfl)
 have a0:¬(a8≠0\/V≠0\/(u.toNat:Int)≠1):=by
  simp[or_assoc]at h;rintro (q|q|q)
  ·exact q h.1.1
  ·exact q h.1.2
  ·exact q h.2
 rw[Wb a0]at l;have a':V=0:=O2.1 fun q=>a0 (.inr (.inl q));refine xgq (xif (fun G=>?_) (fun G=>?_))
 ·rw[We (On.1 G)]at l;refine xng (xgq (QAM (xif (fun L=>?_) (fun L=>xgq ?_))))
  ·refine xns (xsq ?_);have L:b.wrong=true:=L;refine QAb [Blk k (bnC { b with last:=a,wrong:=true } ts d g s fs).v,QAt p] (P ?_ rfl rfl);rw[<-l,L,Bool.true_or]
  ·refine xns (xsq ?_);have L:b.wrong=false:=L;refine QAb [Blk k (bnC { b with last:=a,wrong:=A.code != 4 } ts d g s fs).v,QAt p] (P ?_ rfl rfl);rw[<-l,L,Bool.false_or]
 have G:A.code=6:=Si G
 rw[Wb (by rw[G];decide)]at l
 have c1:A.set.length=1:=by
  have t:=(QB8 (Y a')).2;omega
 have c2:=Z (A.set.getD 0 0) (by rw[W0,Wa Om];exact U7 _);have b0:A.set[0]? = some (A.set.getD 0 0):=gdE Om
 generalize A.set.getD 0 0=id at *
 refine xgS ss ?_;refine QAH (E:=W16) (xs:=A.set) (s:=ss) (k:=0) (h1:=Om) (h:=fun _ _=>?_);refine QAN (E:=W16) (xs:=A.set) b0 (h:=?_)
 (try dsimp only)
 rw[QX3 id Om Om];refine QAV (fun(c:Bool) As'=>(c=true↔(id<1\/id>12\/A.addr≠3))/\As'=[Blk k (bnC { b with last:=a } ts d g s fs).v,QAt p]) (fun K y=>?_) ?_
 ·refine xif (fun h=>?_) (fun h=>xgq ?_)
  ·refine QAK [Blk k (bnC { b with last:=a } ts d g s fs).v,QAt p] (y _ _ ⟨⟨fun _=>?_,fun _=>rfl⟩,rfl⟩);simp at h;omega
  ·refine QAK [Blk k (bnC { b with last:=a } ts d g s fs).v,QAt p] (y _ _ ⟨?_,rfl⟩);simp at h;simp only[Bool.false_or,On];exact⟨fun q=>.inr (.inr q),fun q=>by rcases q with q|q|q<;>first|omega|exact q⟩
 rintro x _ ⟨hx,rfl⟩;refine xif (fun h=>?_) (fun h=>?_)
 ·rw[We (hx.1 h)]at l;refine xns (xsq ?_);exact QAb [Blk k (bnC { b with last:=a,wrong:=true } ts d g s fs).v,QAt p] (P l rfl rfl)
 have b1:¬(id<1\/id>12\/A.addr≠3):=fun q=>by rw[hx.2 q]at h;cases h
 rw[Wb b1]at l;obtain⟨i,rfl⟩:=W1 (show 0<=id by omega);rw[Wh]at l
 have hi:i<13:=Om
 have H:(0:Int)<=(i:Int):=Om
 have I:(i:Int)<(13:Nat):=Om
 have c3:∀m:BM,m.Ok->(bnC m ts d g s fs).Ok:=fun m h=>⟨hl.len,h.n,h.h⟩;refine QAP ?_;refine QAV (fun(c:Bool) As'=>(c=true↔(b.count.getD i 0>0/\(b.home.getD i 0≠b.boots\/b.frames.getD i []≠a)))/\As'=[Blk k (bnC { b with last:=a } ts d g s fs).v,QAt p]) (fun K y=>?_) ?_
 ·refine xni H I ?_;rw[Wh];refine QAb [Blk k (bnC { b with last:=a } ts d g s fs).v,QAt p] (QAh (hv:=BnC.get_n (bnC { b with last:=a } ts d g s fs) hi) (h:=QAB (fun h1=>?_) (fun h1=>?_)))
  ·refine xni H I ?_;rw[Wh];refine QAh (hv:=BnC.get_h (bnC { b with last:=a } ts d g s fs) hi) (h:=xng (xgq (xif (fun t=>?_) (fun t=>?_))))
   ·refine QAK [Blk k (bnC { b with last:=a } ts d g s fs).v,QAt p] (y _ _ ⟨⟨fun _=>⟨h1,.inl (On.1 t)⟩,fun _=>rfl⟩,rfl⟩)
   ·refine xni H I ?_;rw[Wh];refine QAh (s:=.slice) (x:=fs.getD i nilS) (hv:=BnC.get_f (bnC { b with last:=a } ts d g s fs) hi) (h:=?_);refine QAb [Blk k (bnC { b with last:=a } ts d g s fs).v,QAt p] ?_;refine xcl (pre:=[]) (QFd (fs.getD i nilS) s (b.frames.getD i []) a (by have:=(hl.each i hi).short hl.short;omega)) (QDY (QKb (hl.each i hi) 1) (QKb O 1)) ?_;rintro⟨b',_⟩ _ ⟨W,rfl⟩;simp only at W;subst W;refine QA2 (ca1 ?_);refine QAK [Blk k (bnC { b with last:=a } ts d g s fs).v,QAt p] (y _ _ ⟨?_,rfl⟩)
    have t:b.home.getD i 0=b.boots:=Si t
    simp only[Bool.true_and,Bool.false_or,W2,Wx];exact⟨fun q=>⟨h1,.inr q⟩,fun q=>q.2.resolve_left fun z=>z t⟩
  ·refine QAK [Blk k (bnC { b with last:=a } ts d g s fs).v,QAt p] (y _ _ ⟨⟨fun q=>by (cases q),fun q=>absurd q.1 h1⟩,rfl⟩)
 rintro c0 _ ⟨X,rfl⟩;refine QBh (fun As'=>As'=[Blk k (bnC { b with last:=a,wrong:=if b.count.getD i 0>0/\(b.home.getD i 0≠b.boots\/b.frames.getD i []≠a) then true else b.wrong } ts d g s fs).v,QAt p]) (fun K y=>?_) ?_
 ·refine xif (fun h=>?_) (fun h=>?_)
  ·rw[We (X.1 h)]at y;refine xns (xsq ?_);exact QAK [Blk k (bnC { b with last:=a,wrong:=true } ts d g s fs).v,QAt p] (y _ rfl)
  ·rw[Wb (fun q=>by rw[X.2 q]at h;cases h)]at y;exact y _ rfl
 rintro _ rfl;unfold Qgq at l
 generalize (if b.count.getD i 0>0/\(b.home.getD i 0≠b.boots\/b.frames.getD i []≠a) then true else b.wrong)=M at *
 have a1:∀{m:BM}{R:List HP},m=N->m.frames=b.frames.set i a->m.last=a->Ent B (Blk k (bnC m ts d g s (fs.set i s)).v::QAt p::R) (Ret B (ss:=[]) (fun _ Bs=>∃D,Lies N p s D/\Bs=[Blk k (bnC N ts d g s D).v,QAt p]) ()):=by
  rintro m R rfl h1 t;refine QAK [Blk k (bnC m ts d g s (fs.set i s)).v,QAt p] (QAD ⟨fs.set i s,⟨by rw[t];exact O,by rw[Ob];exact hl.len,fun j hj=>?_,hl.short⟩,rfl⟩);rw[h1,QQi _ _ _ _ _ (by rw[hl.len];exact hi),QQi _ _ _ _ _ (by rw[J.f];exact hi)];split
  ·exact O
  ·exact hl.each j hj
 have Q:∀{D:List Sl}{a2 a3:Ae}{w:Bool}{fr:List Ab},D.length=13->a2.length=13->a3.length=13->(bnC { b with last:=a,wrong:=w,count:=a2,home:=a3,frames:=fr } ts d g s D).Ok:=fun h1 t a7=>⟨h1,t,a7⟩;refine xni H I ?_;rw[Wh];refine xsf (c:=bnC { b with last:=a,wrong:=M } ts d g s fs) (Q hl.len J.n J.h) hi ?_;refine QAP (xng (xgq (xni H I ?_)));rw[Wh];refine xsh (c:=bnC { b with last:=a,wrong:=M } ts d g s (fs.set i s)) (Q (by rw[Ob];exact hl.len) J.n J.h) hi ?_;refine QAP (xni H I ?_);rw[Wh];refine QAh (hv:=BnC.get_n (bnC { b with last:=a,wrong:=M,home:=b.home.set i b.boots } ts d g s (fs.set i s)) hi) (h:=xni H I ?_);rw[Wh];refine xsn (c:=bnC { b with last:=a,wrong:=M,home:=b.home.set i b.boots } ts d g s (fs.set i s)) (Q (by rw[Ob];exact hl.len) J.n (by rw[Ob];exact J.h)) hi ?_;refine QAP (xni H I ?_);rw[Wh]
 have b2:(b.count.set i (IntKind.i64.wrap (b.count.getD i 0+1))).getD i 0=IntKind.i64.wrap (b.count.getD i 0+1):=by
  rw[QQi _ _ _ _ _ (by rw[J.n];exact hi),We rfl]
 refine QAh (hv:=BnC.get_n (bnC { b with last:=a,wrong:=M,home:=b.home.set i b.boots,count:=b.count.set i (IntKind.i64.wrap (b.count.getD i 0+1)) } ts d g s (fs.set i s)) hi) (h:=xng (xgq ?_));rw[b2];refine QAM (QAB (fun h=>?_) (fun h=>?_))
 ·rw[We h]at l;refine xns (xsq ?_);exact QAb [Blk k (bnC { b with last:=a,wrong:=true,home:=b.home.set i b.boots,count:=b.count.set i (IntKind.i64.wrap (b.count.getD i 0+1)),frames:=b.frames.set i a } ts d g s (fs.set i s)).v,QAt p] (a1 l rfl rfl)
 ·rw[Wb h]at l;exact QAb [Blk k (bnC { b with last:=a,wrong:=M,home:=b.home.set i b.boots,count:=b.count.set i (IntKind.i64.wrap (b.count.getD i 0+1)),frames:=b.frames.set i a } ts d g s (fs.set i s)).v,QAt p] (a1 l rfl rfl)
end Go.Cx
namespace Go.Cx
open Go Go.Cf
set_option linter.unusedVariables false
set_option maxRecDepth 100000
set_option synthInstance.maxSize 8000
set_option synthInstance.maxHeartbeats 400000
variable {B:QBJ}{As F:List HP}
theorem Qby{xs:Ab}(h:(QAo xs).2=0):pkE (QAo xs).1 (QAo xs).1.body.length=0:=by
 unfold QAo at h|-;by_cases d:xs.length<5
 ·rw[We d]at h;cases h
 rw[Wb d]at h|-;by_cases b:(QDw xs).1≠0
 ·rw[We b]at h;exact absurd h b
 rw[Wb b]at h|-;simp only at h|-
 generalize (QDw xs).2=ys at *
 by_cases e:(ys.getD 0 0).toNat<1\/(ys.getD 0 0).toNat>4
 ·rw[We e]at h;cases h
 rw[Wb e]at h|-;by_cases f:ys.length<QIk (ys.getD 0 0).toNat
 ·rw[We f]at h;cases h
 rw[Wb f]at h|-;by_cases g:((ys.getD 0 0).toNat=2\/(ys.getD 0 0).toNat=4)/\ys.length>QIk (ys.getD 0 0).toNat
 ·rw[We g]at h;cases h
 rw[Wb g]at h|-;by_cases a:pkE (pkF (ys.getD 0 0).toNat ys) (pkF (ys.getD 0 0).toNat ys).body.length≠0
 ·rw[We a]at h;exact absurd h a
 rw[Wb a];exact O2.1 a
def upW(b:BM)(a:LM)(epoch safe:Int)(q:PkV):Bool:=if q.epoch≠epoch\/q.seq>=safe\/(QCc a q.seq).2≠0\/(QCc a q.seq).1≠q.body then true else b.wrong
def upB(b:BM)(a:LM)(epoch safe:Int)(p:Ab):BM:=
 if (QAo p).2≠0\/((QAo p).1.kind≠1/\(QAo p).1.kind≠4) then { b with wrong:=true }
 else if (QAo p).1.kind=4 then b
 else { b with wrong:=upW b a epoch safe (QAo p).1,sent:=IntKind.i64.wrap ((QAo p).1.seq+1) }
theorem QXP(b:BM)(a:LM)(epoch safe:Int)(p:Ab):(upB b a epoch safe p).last=b.last/\(upB b a epoch safe p).frames=b.frames/\(upB b a epoch safe p).count=b.count/\(upB b a epoch safe p).home=b.home:=by
 unfold upB;repeat' split
 all_goals exact⟨rfl,rfl,rfl,rfl⟩
theorem Lies.same{b a:BM}{p:QJj}{ls:Sl}{fs:List Sl}(h:Lies b p ls fs)(h1:a.last=b.last)(d:a.frames=b.frames):Lies a p ls fs:=⟨by rw[h1];exact h.last,h.len,by rw[d];exact h.each,h.short⟩
abbrev stA(s:StV):Value:=.agg #[.I s.next,.I s.safe,.I s.first,.I s.acked,.I s.epoch,.I s.boots,.I s.lost,.bool s.busy]
theorem Qfr(k:Nat)(ts:Sl)(d:Ac)(g:Nat)(a:GwA)(M:GM)(b:BM)(p:QJj)(ls:Sl)(fs:List Sl)(a9:b.Ok)(hl:Lies b p ls fs)(s:Sl)(r:Ab)(P:Src p s r)(st:StV) :
  Ct Pr 112 [.pointer (some ⟨k,0,none⟩),s.v,stA st] (.tup []) [] (Blk k (bnC b ts d (some ⟨g,0,none⟩) ls fs).v::QAt p::GwL g a M) emp
  (fun _ Bs=>Bs=Blk k (bnC (upB b M.k.log st.epoch st.safe r) ts d (some ⟨g,0,none⟩) ls fs).v::QAt p::GwL g a M):=by
 refine sp0 (QIT _ _ _ _ _ _ _ _ _ _) fun B _=>?_;obtain⟨N,m⟩:∃N,upB b M.k.log st.epoch st.safe r=N:=⟨_,rfl⟩;rw[m];unfold upB at m;unfold QIT mf;dsimp only;refine QB6 1 (P1:=QAt p) (fun f X=>QMh P X) fun Y=>?_;refine QAL fun t=>?_;refine xcl (pre:=[]) (QNl r (P.short hl.short) s Y.1) (QKb P 2) ?_;have W:=@Qby r
 generalize QAo r=C at *
 obtain⟨q,e⟩:=C;simp only at m W;rintro⟨v0,a3,v2,v3,v4,j,u,_⟩ _ ⟨rfl,rfl,rfl,rfl,rfl,x,rfl⟩;simp only at x;subst x;refine QAz (ca7 (QAL fun n=>?_));iterate 6 (refine xsq ?_)
 have L:∀{H:BM}{R:List HP},H=N->Ent B (Blk k (bnC H ts d (some ⟨g,0,none⟩) ls fs).v::QAt p::GwR g a M R) (Ret B (ss:=[]) (fun _ Bs=>Bs=Blk k (bnC N ts d (some ⟨g,0,none⟩) ls fs).v::QAt p::GwL g a M) ()):=by
  rintro H R rfl;exact QAK (Blk k (bnC H ts d (some ⟨g,0,none⟩) ls fs).v::QAt p::GwL g a M) (QAD rfl)
 refine QAV (fun(c:Bool) As'=>(c=true↔(u≠0\/(q.kind≠1/\q.kind≠4)))/\As'=Blk n (pkC q.kind q.epoch q.seq q.id q.code j)::Ar U8 j q.body::Blk t [.I st.next,.I st.safe,.I st.first,.I st.acked,.I st.epoch,.I st.boots,.I st.lost,.bool st.busy]::Blk k (bnC b ts d (some ⟨g,0,none⟩) ls fs).v::QAt p::GwL g a M) (fun K l=>?_) ?_
 ·refine xif (fun h=>l _ _ ⟨⟨fun _=>.inl (On.1 h),fun _=>rfl⟩,rfl⟩) (fun h=>xgq (QAM (xif (fun h1=>xgq ?_) (fun h1=>?_))))
  ·refine l _ _ ⟨?_,rfl⟩
   have h:u=0:=Si h
   simp only[Bool.false_or,On];exact⟨fun z=>.inr ⟨On.1 h1,z⟩,fun z=>(z.resolve_left fun y=>y h).2⟩
  ·refine l _ _ ⟨?_,rfl⟩
   have h:u=0:=Si h
   have h1:q.kind=1:=Si h1
   exact⟨fun z=>by (cases z),fun z=>absurd h1 (z.resolve_left fun y=>y h).1⟩
 rintro c _ ⟨hc,rfl⟩;refine xif (fun h=>?_) (fun h=>?_)
 ·rw[We (hc.1 h)]at m;refine xns (xsq ?_);exact QAb (Blk k (bnC { b with wrong:=true } ts d (some ⟨g,0,none⟩) ls fs).v::QAt p::GwL g a M) (L m)
 have O:¬(u≠0\/(q.kind≠1/\q.kind≠4)):=fun z=>by rw[hc.2 z]at h;cases h
 rw[Wb O]at m;have Z:u=0:=O2.1 fun z=>O (.inl z);refine xgq (xif (fun G=>?_) (fun G=>?_))
 ·rw[We (eq_of_beq G)]at m;exact QAb (Blk k (bnC b ts d (some ⟨g,0,none⟩) ls fs).v::QAt p::GwL g a M) (L m)
 rw[Wb (Wv G)]at m
 have a0:q.kind=1:=by
  have:=Wv G;refine O2.1 fun z=>O (.inr ⟨z,this⟩)
 have A:=W Z;unfold pkE at A;rw[We a0]at A;obtain⟨_,A⟩:=QHF Dc A;obtain⟨a4,_⟩:=QHF Dc A;refine QAP (xng (xgq (xgq ?_)));refine xcl (QQF g a M) rdb ?_;rintro⟨a5,_⟩ _ ⟨S,rfl⟩;simp only at S;subst S;refine QFE (ca1 (QDK (h:=?_)));refine QG8 1 fun Q=>?_;refine xcl (QFu a.log a.dev M.k.log q.seq ⟨Om,Om⟩) rdb ?_;rintro⟨D,E,_⟩ _ ⟨x,rfl⟩;simp only at x;subst x;refine QBK (ca2 (xgq (xgq ?_)));have a1:=QJe Q.ldev.log q.seq;refine QCh a.dev a.log a.idx M.k Q ?_;unfold upW at m
 generalize QCc M.k.log q.seq=a2 at *
 obtain⟨o,E⟩:=a2;simp only at m a1|-;refine QAV (fun(c:Bool) As'=>(c=true↔(q.epoch≠st.epoch\/q.seq>=st.safe))/\As'=Ar U8 D o::Blk n (pkC q.kind q.epoch q.seq q.id q.code j)::Ar U8 j q.body::Blk t [.I st.next,.I st.safe,.I st.first,.I st.acked,.I st.epoch,.I st.boots,.I st.lost,.bool st.busy]::Blk k (bnC b ts d (some ⟨g,0,none⟩) ls fs).v::QAt p::GwL g a M) (fun K l=>?_) ?_
 ·refine xif (fun h=>?_) (fun h=>xgq (xgq ?_))
  ·exact QAK (Ar U8 D o::Blk n (pkC q.kind q.epoch q.seq q.id q.code j)::Ar U8 j q.body::Blk t [.I st.next,.I st.safe,.I st.first,.I st.acked,.I st.epoch,.I st.boots,.I st.lost,.bool st.busy]::Blk k (bnC b ts d (some ⟨g,0,none⟩) ls fs).v::QAt p::GwL g a M) (l _ _ ⟨⟨fun _=>.inl (On.1 h),fun _=>rfl⟩,rfl⟩)
  ·refine QAK (Ar U8 D o::Blk n (pkC q.kind q.epoch q.seq q.id q.code j)::Ar U8 j q.body::Blk t [.I st.next,.I st.safe,.I st.first,.I st.acked,.I st.epoch,.I st.boots,.I st.lost,.bool st.busy]::Blk k (bnC b ts d (some ⟨g,0,none⟩) ls fs).v::QAt p::GwL g a M) (l _ _ ⟨?_,rfl⟩)
   have h:q.epoch=st.epoch:=Si h
   simp only[Bool.false_or,Wq];exact⟨.inr,fun z=>z.resolve_left fun y=>y h⟩
 rintro a6 _ ⟨T,rfl⟩;refine QAV (fun(c:Bool) As'=>(c=true↔(q.epoch≠st.epoch\/q.seq>=st.safe\/E≠0\/o≠q.body))/\As'=Ar U8 D o::Blk n (pkC q.kind q.epoch q.seq q.id q.code j)::Ar U8 j q.body::Blk t [.I st.next,.I st.safe,.I st.first,.I st.acked,.I st.epoch,.I st.boots,.I st.lost,.bool st.busy]::Blk k (bnC b ts d (some ⟨g,0,none⟩) ls fs).v::QAt p::GwL g a M) (fun K l=>?_) ?_
 ·refine xif (fun h=>l _ _ ⟨⟨fun _=>?_,fun _=>rfl⟩,rfl⟩) (fun h=>xgS j ?_)
  ·rcases Bool.or_eq_true_iff.1 h with h|h
   ·rcases T.1 h with z|z
    ·exact .inl z
    ·exact .inr (.inl z)
   ·exact .inr (.inr (.inl (On.1 h)))
  ·refine xcl (pre:=[]) (QFd D j o q.body Om) (QDY rdb rdb) ?_;rintro⟨a7,_⟩ _ ⟨U,rfl⟩;simp only at U;subst U;refine QA2 (ca1 (l _ _ ⟨?_,rfl⟩));obtain⟨h1,J⟩:=O0.1 h
   have J:E=0:=Si J
   have h1:¬(q.epoch≠st.epoch\/q.seq>=st.safe):=fun z=>by rw[T.2 z]at h1;cases h1
   rw[W2,Wx]
   exact⟨fun z=>.inr (.inr (.inr z)),fun z=>by
    rcases z with z|z|z|z
    ·exact absurd (.inl z) h1
    ·exact absurd (.inr z) h1
    ·exact absurd J z
    ·exact z⟩
 rintro a8 _ ⟨V,rfl⟩;refine QBh (fun As'=>As'=Blk n (pkC q.kind q.epoch q.seq q.id q.code j)::Blk k (bnC { b with wrong:=if q.epoch≠st.epoch\/q.seq>=st.safe\/E≠0\/o≠q.body then true else b.wrong } ts d (some ⟨g,0,none⟩) ls fs).v::QAt p::GwL g a M) (fun K l=>?_) ?_
 ·refine xif (fun h=>?_) (fun h=>?_)
  ·rw[We (V.1 h)]at l;refine xns (xsq ?_);exact QAK (Blk n (pkC q.kind q.epoch q.seq q.id q.code j)::Blk k (bnC { b with wrong:=true } ts d (some ⟨g,0,none⟩) ls fs).v::QAt p::GwL g a M) (l _ rfl)
  ·rw[Wb (fun z=>by rw[V.2 z]at h;cases h)]at l;exact QAK (Blk n (pkC q.kind q.epoch q.seq q.id q.code j)::Blk k (bnC b ts d (some ⟨g,0,none⟩) ls fs).v::QAt p::GwL g a M) (l _ rfl)
 rintro _ rfl
 generalize (if q.epoch≠st.epoch\/q.seq>=st.safe\/E≠0\/o≠q.body then true else b.wrong)=w at *
 refine xgq (xns (xsq ?_));exact QAb (Blk k (bnC { b with wrong:=w,sent:=IntKind.i64.wrap (q.seq+1) } ts d (some ⟨g,0,none⟩) ls fs).v::QAt p::GwL g a M) (L m)
theorem QLk{a b d e f g j l m A10 A11 A12 A13 A14:HP}{F:List HP}{φ:WP}(h:Ent B (a::b::d::e::f::g::j::l::m::A10::A11::A12::A13::A14::F) φ):Ent B ([a,b,d,e,f,g,j,l,m,A10,A11,A12,A13,A14]++F) φ:=h
def QMK(rs:List (Int×Sl))(os:List QCj):QJj:=(rs.zip os).map fun x=>(x.1.2,x.2.2)
theorem Qbq:∀{rs:List (Int×Sl)}{os:List QCj}{f:QBs},Each (fun(r:Int×Sl) (o:QCj)=>Ar U8 r.2 o.2) rs os f->QAt (QMK rs os) f
 | [],[],_,h=>h
 | [],_::_,_,h=>h.elim
 | _::_,[],_,h=>h.elim
 | r::rs,o::os,f,h=>by
  obtain⟨a,b,h1,⟨c,d,e,g⟩,j⟩:=h;exact⟨a,b,h1,⟨c,d,Qbq e,g⟩,j⟩
def QWp(M:GM)(b:BM)(o:QCj):BM:=if o.1=1 then QKh b o.2 else if o.1=2 then upB b M.k.log M.epoch M.k.log.safe o.2 else b
def QQt(b:BM)(M:GM)(os:List QCj):BM:=os.foldl (QWp M) b
theorem Qg0{b:BM}(h:b.Ok)(a:LM)(epoch safe:Int)(p:Ab):(upB b a epoch safe p).Ok:=by
 obtain⟨_,d,e,g⟩:=QXP b a epoch safe p;exact⟨by rw[d];exact h.f,by rw[e];exact h.n,by rw[g];exact h.h⟩
theorem QWV(k:Nat)(ts:Sl)(d:Ac)(g:Nat)(a:GwA)(M:GM)(b:BM)(l:Sl)(os:List QCj)(b1:∀o∈os,o.2.length<=1000000)(c2:os.length<=1000000) :
  Ct Pr 50 [.pointer (some ⟨k,0,none⟩),l.v] (.tup []) [] (QP3 l os::BnO k ts d (some ⟨g,0,none⟩) b::GwL g a M) emp
  (fun _ Bs=>Bs=BnO k ts d (some ⟨g,0,none⟩) (QQt b M os)::GwL g a M):=by
 refine sp0 (QHY _ _) fun B _=>?_;unfold QHY mf;dsimp only;refine xbn 1 fun p ls fs a0 hl=>?_;refine QEZ 2 (P1:=QP3 l os) (fun Bs=>∃rs:List (Int×Sl),rs.map Prod.fst=os.map Prod.fst/\Bs=[Ar OuE l rs,Each (fun(r:Int×Sl) (o:QCj)=>Ar U8 r.2 o.2) rs os]) (fun f z=>?_) ?_
 ·obtain⟨rs,h1,z⟩:=z;exact⟨_,⟨rs,h1,rfl⟩,z⟩
 rintro _ ⟨rs,T,rfl⟩
 have c1:rs.length=os.length:=by have:=Uh List.length T;simpa using this
 have a7:∀r∈QMK rs os,r.2.length<=1000000:=fun r a1=>by
  obtain⟨x,hx,rfl⟩:=Uz.1 a1;exact b1 _ (List.of_mem_zip hx).2
 refine QBK (QBO [Each (fun(r:Int×Sl) (o:QCj)=>Ar U8 r.2 o.2) rs os] (QAt (QMK rs os)) (fun f z=>by
  obtain⟨x,y,h1,q,O,L,P⟩:=z
  exact Qbq (h1.mono L)) ?_)
 refine QBO [QAt p,QAt (QMK rs os)] (QAt (p++QMK rs os)) (fun f z=>QVj z) ?_
 have a8:∀(i:Nat) (s:Sl) (e:Ab) (to:Int),rs[i]? = some (to,s)->os[i]? = some (to,e)->Src (p++QMK rs os) s e:=by
  intro i s e to h1 q;refine .inr (Us _ (Uz.2 ⟨((to,s),(to,e)),Wp (i:=i) ?_,rfl⟩));rw[List.getElem?_zip_eq_some];exact⟨h1,q⟩
 have a9:=hl.more a7;clear hl
 generalize p++QMK rs os=m at *
 refine xng (xgq ?_);refine xcl (QDd g a M) rdb ?_;rintro⟨r,b4,b5,b6,b7,b8,b9,c,_⟩ _ ⟨U,rfl⟩;unfold QYE at U;injection U with h1 q O L P V W X;simp only at h1 q O L P V W X;subst h1 q O L P V W X;refine QFE (ca8 (QAL fun G=>?_));iterate 8 (refine xsq ?_)
 refine QCl (E:=OuE) (xs:=rs) l fun b2 _=>?_;refine QAK (Ar OuE l rs::Blk G [.I M.k.log.next,.I M.k.log.safe,.I M.k.log.lo,.I M.acked,.I M.epoch,.I M.boots,.I M.lost,.bool (decide (M.ma.tries>0))]::Blk k (bnC b ts d (some ⟨g,0,none⟩) ls fs).v::QAt m::GwL g a M) ?_
 refine QBa (fun n (x:Int) As'=>∃(i:Nat) (j:BM) (t:Sl) (u:List Sl),x=(i:Int)/\n=os.length - i/\i<=os.length/\j.Ok/\Lies j m t u/\QQt b M os=(os.drop i).foldl (QWp M) j /\
  As'=Ar OuE l rs::Blk G [.I M.k.log.next,.I M.k.log.safe,.I M.k.log.lo,.I M.acked,.I M.epoch,.I M.boots,.I M.lost,.bool (decide (M.ma.tries>0))]::Blk k (bnC j ts d (some ⟨g,0,none⟩) t u).v::QAt m::GwL g a M) os.length ⟨0,b,ls,fs,rfl,rfl,Om,a0,a9,rfl,rfl⟩ ?_
 rintro n x As' K ⟨i,j,t,u,rfl,rfl,hi,C,H,D,rfl⟩ a2;refine QAB (fun h=>?_) (fun h=>?_)
 ·have Y:i<os.length:=Om
  obtain⟨⟨to,s⟩,J⟩:∃r,rs[i]? = some r:=⟨_,Wa Om⟩;obtain⟨⟨a3,e⟩,Q⟩:∃r,os[i]? = some r:=⟨_,Wa Y⟩
  have a':to=a3:=by
   have:=Uh (·[i]?) T;simp only[Ol,J,Q,U4,Wg]at this;exact this
  subst a';have Z:=a8 i s e to J Q
  have b0:os.drop i=(to,e)::os.drop (i+1):=by rw[Ws Y];congr 1;exact (Wc.1 Q).2
  rw[b0,Zr]at D;refine QAH (E:=OuE) (xs:=rs) (s:=l) (k:=i) (h1:=Om) (h:=fun _ _=>?_);refine QAN (E:=OuE) (xs:=rs) J (h:=?_)
  (try dsimp only)
  refine QBh (fun As'=>∃N A,(QWp M j (to,e)).Ok/\Lies (QWp M j (to,e)) m N A/\As'=Ar OuE l rs::Blk G [.I M.k.log.next,.I M.k.log.safe,.I M.k.log.lo,.I M.acked,.I M.epoch,.I M.boots,.I M.lost,.bool (decide (M.ma.tries>0))]::Blk k (bnC (QWp M j (to,e)) ts d (some ⟨g,0,none⟩) N A).v::QAt m::GwL g a M) (fun b3 w=>?_) ?_
  ·unfold QWp at w;simp only at w;refine xif (fun h1=>?_) (fun h1=>QAM (xif (fun q=>?_) (fun q=>?_)))
   ·rw[We (eq_of_beq h1)]at w;refine QAH (E:=OuE) (xs:=rs) (s:=l) (k:=i) (h1:=Om) (h:=fun _ _=>?_);refine QAa (E:=OuE) (s:=l) (xs:=rs) (sh:=.slice) (v:=s) J (h:=?_);refine xcl (Qaf k ts d (some ⟨g,0,none⟩) j m t u C H s e Z) rdb ?_;rintro _ _ ⟨A,S,rfl⟩;refine QBK (ca0 ?_);exact QAK (Ar OuE l rs::Blk G [.I M.k.log.next,.I M.k.log.safe,.I M.k.log.lo,.I M.acked,.I M.epoch,.I M.boots,.I M.lost,.bool (decide (M.ma.tries>0))]::Blk k (bnC (QKh j e) ts d (some ⟨g,0,none⟩) s A).v::QAt m::GwL g a M) (w _ ⟨s,A,QeD C e,S,rfl⟩)
   ·rw[Wb (Wv h1),We (eq_of_beq q)]at w;refine QAP ?_;refine QAH (E:=OuE) (xs:=rs) (s:=l) (k:=i) (h1:=Om) (h:=fun _ _=>?_);refine QAa (E:=OuE) (s:=l) (xs:=rs) (sh:=.slice) (v:=s) J (h:=?_);iterate 8 (refine xgq ?_)
    refine xcl (Qfr k ts d g a M j m t u C H s e Z ⟨M.k.log.next,M.k.log.safe,M.k.log.lo,M.acked,M.epoch,M.boots,M.lost,decide (M.ma.tries>0)⟩) rdb ?_;rintro _ _ rfl;obtain⟨a4,a5,b',c0⟩:=QXP j M.k.log M.epoch M.k.log.safe e;refine QLk (ca0 ?_);exact QAK (Ar OuE l rs::Blk G [.I M.k.log.next,.I M.k.log.safe,.I M.k.log.lo,.I M.acked,.I M.epoch,.I M.boots,.I M.lost,.bool (decide (M.ma.tries>0))]::Blk k (bnC (upB j M.k.log M.epoch M.k.log.safe e) ts d (some ⟨g,0,none⟩) t u).v::QAt m::GwL g a M) (w _ ⟨t,u,Qg0 C _ _ _ _,H.same a4 a5,rfl⟩)
   ·rw[Wb (Wv h1),Wb (Wv q)]at w;exact w _ ⟨t,u,C,H,rfl⟩
  ·rintro _ ⟨N,A,a6,S,rfl⟩;rw[QAE i Om];exact a2 (os.length - (i+1)) _ _ Om ⟨i+1,_,N,A,rfl,rfl,Om,a6,S,D,rfl⟩
 ·have he:i=os.length:=Om
  rw[he,List.drop_length]at D;subst he;have D:QQt b M os=j:=D;rw[D];refine QMn k ts d (some ⟨g,0,none⟩) j m t u C H ?_;exact QAK (BnO k ts d (some ⟨g,0,none⟩) j::GwL g a M) (QAD rfl)
structure GFit(M:GM):Prop where
 ok:MOk M
 run:M.stopped=false->M.ok=true
 ts:M.ts.length<=1000000
theorem GFit.step{M:GM}(h:GFit M)(b:M.ma.fr.length<=1000)(e:EvV)(d:MOk (QB2 M e).1):GFit (QB2 M e).1:=by
 refine⟨d,?_,?_⟩
 ·unfold QB2;split
  ·exact h.run
  ·intro q;simp only[Lf]at q;exact q
 ·have hx:=(QWD M b e).1;unfold QLj at hx;injection hx with f g j l m n a;have a:(QB2 M e).1.ts=M.ts:=a;rw[a];exact h.ts
theorem Qa6{B:QBJ}{a b d e f g j l m A10 A11 A12 A13:HP}{F:List HP}{φ:WP}(h:Ent B (a::b::d::e::f::g::j::l::m::A10::A11::A12::A13::F) φ):Ent B ([a,b,d,e,f,g,j,l,m,A10,A11,A12,A13]++F) φ:=h
def doB(b:BM)(M:GM)(e:EvV):BM:=QQt b (QB2 M e).1 (QB2 M e).2
theorem QSO(p:PkV)(f:p.kind=3\/p.kind=4->p.epoch=0/\p.seq=0)(s:Sl):Ct Pr 34 [QgS p s] .one [.slice] [] (RAr U8 s p.body) (fun t Bs=>Bs=[Ar U8 t.1 (QBI p)]):=by
 refine sp1 (QSH _ _ _ _ _ _) fun B a=>?_;haveI:Fro B s U8 p.body:=⟨a⟩;unfold QSH mf;dsimp only;refine QAL fun b=>?_;iterate 5 (refine xgq ?_)
 refine xgS s ?_;refine xn2 (L:=fun s=>[Ar U8 s (QBI p)]) (QN8 p f s) (fun x y Bs d=>d) fun e=>?_;exact QAK [Ar U8 e (QBI p)] (QAD rfl)
abbrev Qgm(id:Int):AskV:=⟨6,3,0,[],[IntKind.u16.wrap id],[]⟩
theorem QYG(id:Int):Ct Pr 46 [.I id] .agg [.I,.I,.I,.slice,.slice,.slice] [] emp
  (fun t Bs=>t.1=6/\t.2.1=3/\t.2.2.1=0/\t.2.2.2.1=nilS/\t.2.2.2.2.2.1=nilS/\Bs=[Ar W16 t.2.2.2.2.1 [IntKind.u16.wrap id]]):=by
 refine QAm (ss:=[.I,.I,.I,.slice,.slice,.slice]) (φ:=fun K=>(QJD _ K).1) (fun h=>cf _ rfl Kr h) fun B _=>?_;show Ent B [] (QJD id fun d e f j l m=>Ret B (ss:=[.I,.I,.I,.slice,.slice,.slice]) (fun t Bs=>t.1=6/\t.2.1=3/\t.2.2.1=0/\t.2.2.2.1=nilS/\t.2.2.2.2.2.1=nilS/\Bs=[Ar W16 t.2.2.2.2.1 [IntKind.u16.wrap id]]) (d,e,f,j,l,m,()));unfold QJD mf;dsimp only;refine QAL fun b=>QAL fun a=>?_;iterate 6 (refine xsq ?_)
 refine xgq (xgq (xgq (xgT (h:=xgS ⟨some ⟨a,0,none⟩,1,1⟩ (xgT (h:=?_))))));refine QAb [Blk a [.int .u16 (IntKind.u16.wrap id)]] ?_;refine QAg (Q:=Ar W16 ⟨some ⟨a,0,none⟩,1,1⟩ [IntKind.u16.wrap id]) 0 (fun g n=>⟨[],QAp [IntKind.u16.wrap id] 1 rfl rfl n⟩) ?_;exact QAK [Ar W16 ⟨some ⟨a,0,none⟩,1,1⟩ [IntKind.u16.wrap id]] (QAD ⟨rfl,rfl,rfl,rfl,rfl,rfl⟩)
abbrev Qfi(a:Int):AskV:=⟨20,0,0,[],[],[(a,0,22)]⟩
abbrev Qew(A:AskV)(v:Int):RepV:=⟨0,[],List.replicate A.count.toNat (IntKind.u16.wrap v),[]⟩
def QcB(last:Ab)(v:Int):Ab:=
 if (QAZ last).1≠0\/(QAT (QAZ last).2.2).2≠0 then []
 else if (Qew (QAT (QAZ last).2.2).1 v).e (QAT (QAZ last).2.2).1≠0\/(QTp (QAZ last).2.1 (QGe (QAT (QAZ last).2.2).1 (Qew (QAT (QAZ last).2.2).1 v))).1≠0 then []
 else (QTp (QAZ last).2.1 (QGe (QAT (QAZ last).2.2).1 (Qew (QAT (QAZ last).2.2).1 v))).2
theorem Qe3(v:Int):0<=IntKind.u16.wrap v/\IntKind.u16.wrap v<=65535:=by
 have a:(2 ^ IntKind.u16.bits:Int)=65536:=Dc
 have b:IntKind.u16.signed=false:=rfl;simp only[IntKind.wrap,a,b,Bool.false_and];simp;omega
theorem QRS(k:Nat)(ts:Sl)(d g:Ac)(b:BM)(v:Int) :
  Ct Pr 44 [.pointer (some ⟨k,0,none⟩),.I v] .one [.slice] [BnO k ts d g b] emp (fun t Bs=>Bs=[BnO k ts d g b,Ar U8 t.1 (QcB b.last v)]):=by
 refine sp1 (QEO _ _) fun B _=>?_;unfold QEO mf;dsimp only;obtain⟨N,a⟩:∃N,QcB b.last v=N:=⟨_,rfl⟩;rw[a];unfold QcB at a;refine xbn 0 fun p ls fs H hl=>?_;refine QB6 1 (P1:=QAt p) (fun f T=>QMh hl.last T) fun U=>?_;refine xng (xgS ls ?_);refine xcl (pre:=[]) (QHl ls b.last U.1) (QKb hl.last 1) ?_;have a2:=QN4 b.last
 generalize QAZ b.last=o at *
 obtain⟨e,u,pdu⟩:=o;simp only at a a2;rintro⟨r,J,X,_⟩ _ ⟨L,M,rfl⟩;simp only at L M;subst L M;refine QAz (ca3 (QCl (E:=U8) (xs:=pdu) J fun _ V=>?_));refine xcl (QGp pdu Om J V) rdb ?_;have P:=@QWP pdu;have Q:=QH2 pdu
 generalize QAT pdu=C at *
 obtain⟨A,a7⟩:=C;simp only at a P Q;rintro⟨a8,a9,a',j,ss,l,Y,_⟩ _ ⟨rfl,rfl,rfl,s,rfl⟩;simp only at s;subst s;refine QLn (ca7 (QAL fun y=>?_));iterate 6 (refine xsq ?_)
 have nil:∀{R:List HP},N=[]->Ent B (Blk k (bnC b ts d g ls fs).v::QAt p::R) (Ret B (ss:=[.slice]) (fun t Bs=>Bs=[BnO k ts d g b,Ar U8 t.1 N]) (nilS,())):=by
  rintro R rfl;refine QMn k ts d g b p ls fs H hl (QAf U8 ?_);exact QAK [BnO k ts d g b,Ar U8 nilS []] (QAD rfl)
 refine xif (fun h=>?_) (fun h=>?_)
 ·rw[We (Si h)]at a;exact QAb [Blk k (bnC b ts d g ls fs).v,QAt p] (nil a.symm)
 have G:X=0/\Y=0:=Si h
 rw[Wb (by rw[G.1,G.2];simp)]at a;have b3:=(QB8 (P G.2)).2
 have a3:0<=A.count/\A.count<=2000:=Om
 obtain⟨n,hn⟩:=W1 a3.1;refine QAL fun z=>?_;iterate 4 (refine xsq ?_)
 refine QAf W16 ?_;refine QAK [Blk k (bnC b ts d g ls fs).v,QAt p,Ar BL j A.on,Ar W16 ss A.set,Ar PaE l A.parts,Blk y [.I A.code,.I A.addr,.I A.count,j.v,ss.v,l.v],Blk z [.I 0,nilS.v,nilS.v,nilS.v],Ar W16 nilS []] ?_;refine QBa (fun m (x:Int) As'=>∃(i:Nat) (q:Sl),x=(i:Int)/\m=n - i/\i<=n/\As'=[Blk k (bnC b ts d g ls fs).v,QAt p,Ar BL j A.on,Ar W16 ss A.set,Ar PaE l A.parts,Blk y [.I A.code,.I A.addr,.I A.count,j.v,ss.v,l.v],Blk z [.I 0,nilS.v,q.v,nilS.v],Ar W16 q (List.replicate i (IntKind.u16.wrap v))]) n ⟨0,nilS,rfl,rfl,Om,rfl⟩ ?_;rintro m x As' K ⟨i,q,rfl,rfl,hi,rfl⟩ Z;refine xgq (QAB (fun h1=>?_) (fun h1=>?_))
 ·refine xgS q (QAL fun W=>?_);refine QAb [Blk W [.int .u16 (IntKind.u16.wrap v)],Ar W16 q (List.replicate i (IntKind.u16.wrap v))] ?_;refine QE4 (E:=W16) (IntKind.u16.wrap v) (hb:=by rw[O1];omega) (h:=fun D=>?_);refine xsq ?_;rw[QAE i Om,show List.replicate i (IntKind.u16.wrap v)++[IntKind.u16.wrap v]=List.replicate (i+1) (IntKind.u16.wrap v) from List.replicate_succ'.symm];exact QAK [Blk k (bnC b ts d g ls fs).v,QAt p,Ar BL j A.on,Ar W16 ss A.set,Ar PaE l A.parts,Blk y [.I A.code,.I A.addr,.I A.count,j.v,ss.v,l.v],Blk z [.I 0,nilS.v,D.v,nilS.v],Ar W16 D (List.replicate (i+1) (IntKind.u16.wrap v))] (Z (n - (i+1)) _ _ Om ⟨i+1,D,rfl,rfl,Om,rfl⟩)
 ·have a4:i=A.count.toNat:=Om
  rw[a4];iterate 3 (refine xgq ?_)
  refine xgS j (xgS ss (xgS l ?_));refine xgq (xgT (h:=xgS q (xgT (h:=?_))))
  have a5:QOG (Qew A v).set:=fun x hx=>by
   rw[List.eq_of_mem_replicate hx];exact Qe3 v
  refine xcl (pre:=[]) (QUq A Q j ss l (Qew A v) ⟨a5,fun a6 h=>by cases h⟩ nilS q nilS []) (QDY (QDY rdb (QDY rdb rdb)) (QDY (QIX fun _ _ _ _ _=>⟨rfl,rfl,fun h=>absurd h (Zu 0)⟩) (QDY rdb (QIX fun _ _ _ _ _=>⟨⟨rfl,rfl,fun h=>absurd h (Zu 0)⟩,rfl,fun i r x h=>by simp at h⟩)))) ?_
  generalize Qew A v=S at *
  rintro⟨s13,(b0:Int),_⟩ _ ⟨s,rfl⟩;simp only at s;subst s;refine QAz (ca2 ?_);refine xcl (QWk u s13 (QGe A S)) rdb ?_
  generalize QTp u (QGe A S)=w at *
  obtain⟨b1,a0⟩:=w;rintro⟨a1,(b2:Int),_⟩ _ ⟨O,rfl⟩;simp only at O a;subst O;refine QAz (ca2 (xif (fun h=>?_) (fun h=>?_)))
  ·rw[We (Si h)]at a;exact QAb [Blk k (bnC b ts d g ls fs).v,QAt p] (nil a.symm)
  ·rw[Wb (Si h)]at a;subst a;refine QMn k ts d g b p ls fs H hl ?_;exact QAK [BnO k ts d g b,Ar U8 a1 a0] (QAD rfl)
theorem QW7{c:Cfg}{m:DM}{now:Int}{M:GM}{os:List QCj}(h:QJb c m now=.inr (M,os)) :
  ∃o,QZ2 c=0/\¬(now<0\/now>1099511627776)/\opG m now=.inr o/\(QRd c o).1.ok=true/\M=QbU c o (QRd c o).1.k (QRd c o).1.J (QRd c o).1.lost (QRd c o).2/\os=(QRd c o).1.os:=by
 unfold QJb at h;split at h
 ·cases h
 rename_i h1
 split at h
 ·cases h
 rename_i a
 split at h
 ·cases h
 rename_i o b
 unfold Qc7 at h;split at h
 ·rename_i d
  have:=Sum.inr.inj h;exact⟨o,O2.1 h1,a,b,d,(Uh Prod.fst this).symm,(Uh Prod.snd this).symm⟩
 ·cases h
theorem QdC{c:Cfg}{m:DM}{now:Int}{M:GM}{os:List QCj}(h:QJb c m now=.inr (M,os)){P:QCj->Prop}(b:QVB P):∀o∈os,P o:=by
 obtain⟨o,_,_,_,_,_,rfl⟩:=QW7 h;exact QdR b _ _ _ _ _ (fun o a=>by cases a)
theorem Qdm{c:Cfg}{m:DM}{now:Int}{M:GM}{os:List QCj}(h:QJb c m now=.inr (M,os))(a:MOk M):GFit M:=by
 obtain⟨o,hc,_,_,_,rfl,_⟩:=QW7 h;have hl:=Pn.allE_len (QQK hc).2.2.2.2.2.2;exact⟨a,fun _=>rfl,by show c.tags.length<=1000000;omega⟩
def Qcg(b:BM)(M:GM)(os:List QCj):Option (BM×GM):=
 if M.epoch<=b.epoch\/M.boots≠IntKind.i64.wrap (b.boots+1) then none
 else if (QQt { b with last:=[],epoch:=M.epoch,boots:=M.boots } M os).wrong=true then none
 else some (QQt { b with last:=[],epoch:=M.epoch,boots:=M.boots } M os,M)
def QTA(b:BM)(m:DM):Option (BM×GM):=match QJb b.cf m b.now with
 | .inl _=>none
 | .inr (M,os)=>Qcg b M os
def QPE(k:Nat)(ts:Sl)(d:Ac)(tags:List Pn.Tag)(r:Option (BM×GM))(t:Tup [.bool])(Bs:List HP):Prop:=
 (t.1=false/\r=none/\Bs=[])\/(t.1=true/\∃a M b e,r=some (a,M)/\GFit M/\e.dev=d/\Bs=BnO k ts d (some ⟨b,0,none⟩) a::Ar Pn.TG ts tags::GwL b e M)
theorem QPj(k:Nat)(ts:Sl)(d g:Ac)(b:BM)(m:DM) :
  Ct Pr 17 [.pointer (some ⟨k,0,none⟩)] .one [.bool] [BnO k ts d g b,Ar Pn.TG ts b.cf.tags,QAA d m] GTab (QPE k ts d b.cf.tags (QTA b m)):=by
 refine sp1 (QG2 _) fun B P=>?_;haveI:=QKj P;obtain⟨N,j⟩:∃N,QTA b m=N:=⟨_,rfl⟩;rw[j];unfold QTA at j
 have bad:∀{As:List HP},N=none->Ent B As (Ret B (ss:=[.bool]) (QPE k ts d b.cf.tags N) (false,())):=by
  intro As h;exact QAd (l:=[]) (QAD (.inl ⟨rfl,h,rfl⟩))
 unfold QG2 mf;dsimp only;refine xbn 0 fun p ls fs A hl=>?_;refine QAP (QAO ?_);rw[QA8,QA8,QA8,QA8,QA8,QA8];iterate 6 (refine xgq ?_)
 refine xgS ts (xng (xgq (xng (xgq ?_))));refine QAb [Ar Pn.TG ts b.cf.tags] (QCl (E:=Pn.TG) (xs:=b.cf.tags) ts fun _ Q=>?_);refine xcl (QZt b.cf ts Q d m b.now) rdb ?_;have Y:=@Qdm b.cf m b.now;have Z:=@QdC b.cf m b.now
 generalize QJb b.cf m b.now=r at *
 rintro⟨a2,y,e,_⟩ _ h;rcases h with⟨m',a9,rfl,z,s,u,o,rfl⟩|⟨M,os,a,t,rfl,⟨X,a'⟩,s,u,o,rfl⟩
 ·simp only at s u o j;subst o;exact QAz (ca3 (QAM (xif (fun _=>QCC rfl (bad j.symm)) (fun h=>absurd (Si h) z))))
 simp only at s o j;subst s o;have a0:=Y rfl X;have a1:=Z rfl QPt;unfold Qcg at j;refine Qa6 (ca3 (QAM (QBH rfl (QBH rfl ?_))));refine xns (xsq (xns (xsq ?_)));refine xcl (QDd a t M) rdb ?_;rintro⟨r,a3,a4,a5,a6,a7,a8,c,_⟩ _ ⟨G,rfl⟩;unfold QYE at G;injection G with h1 z s u o H J L;simp only at h1 z s u o H J L;subst h1 z s u o H J L;refine QFE (ca8 (QAL fun C=>?_));iterate 8 (refine xsq ?_)
 refine QAP ?_;have hfr:(bnC b ts d (some ⟨a,0,none⟩) nilS fs).v.length=55:=rfl;refine QAV (fun(x:Bool) As'=>(x=true↔(M.epoch<=b.epoch\/M.boots≠IntKind.i64.wrap (b.boots+1)))/\As'=Blk C [.I M.k.log.next,.I M.k.log.safe,.I M.k.log.lo,.I M.acked,.I M.epoch,.I M.boots,.I M.lost,.bool (decide (M.ma.tries>0))]::Blk k (bnC b ts d (some ⟨a,0,none⟩) nilS fs).v::QAt p::QP3 y os::Ar Pn.TG ts b.cf.tags::GwL a t M) (fun K D=>?_) ?_
 ·refine xgq (xng (xgq (QAB (fun h=>?_) (fun h=>?_))))
  ·exact QAK (Blk C [.I M.k.log.next,.I M.k.log.safe,.I M.k.log.lo,.I M.acked,.I M.epoch,.I M.boots,.I M.lost,.bool (decide (M.ma.tries>0))]::Blk k (bnC b ts d (some ⟨a,0,none⟩) nilS fs).v::QAt p::QP3 y os::Ar Pn.TG ts b.cf.tags::GwL a t M) (D _ _ ⟨⟨fun _=>.inl h,fun _=>rfl⟩,rfl⟩)
  ·refine xgq (xng (xgq ?_));refine QAK (Blk C [.I M.k.log.next,.I M.k.log.safe,.I M.k.log.lo,.I M.acked,.I M.epoch,.I M.boots,.I M.lost,.bool (decide (M.ma.tries>0))]::Blk k (bnC b ts d (some ⟨a,0,none⟩) nilS fs).v::QAt p::QP3 y os::Ar Pn.TG ts b.cf.tags::GwL a t M) (D _ _ ⟨?_,rfl⟩);simp only[Bool.false_or,On];exact⟨.inr,fun q=>q.resolve_left h⟩
 rintro x _ ⟨hx,rfl⟩;refine xif (fun h=>?_) (fun h=>?_)
 ·rw[We (hx.1 h)]at j;exact bad j.symm
 rw[Wb (fun q=>by rw[hx.2 q]at h;cases h)]at j;refine xgq (xns (xsq (xgq (xns (xsq ?_)))));refine QMn k ts d (some ⟨a,0,none⟩) { b with last:=[],epoch:=M.epoch,boots:=M.boots } p nilS fs ⟨A.f,A.n,A.h⟩ ⟨.inl ⟨rfl,rfl⟩,hl.len,hl.each,hl.short⟩ ?_;refine xcl (QWV k ts d a t M { b with last:=[],epoch:=M.epoch,boots:=M.boots } y os a1 Om) rdb ?_;rintro _ _ rfl
 generalize QQt { b with last:=[],epoch:=M.epoch,boots:=M.boots } M os=w at *
 refine Qa6 (ca0 ?_);refine xbn 0 fun S T U V W=>?_;refine xng (xgq ?_);show Ent B _ (Ret B (ss:=[.bool]) (QPE k ts d b.cf.tags N) (!w.wrong,()))
 cases O:w.wrong with
 | true=>
  rw[We O]at j;exact bad j.symm
 | false=>
  rw[Wb (by rw[O];decide)]at j;subst j;refine QMn k ts d (some ⟨a,0,none⟩) w S T U V W ?_;exact QAK (BnO k ts d (some ⟨a,0,none⟩) w::Ar Pn.TG ts b.cf.tags::GwL a t M) (QAD (.inr ⟨rfl,w,M,a,t,rfl,a0,u,rfl⟩))
abbrev QWF(b:BM):PkV:=⟨2,b.epoch,b.sent,0,0,[]⟩
abbrev QdU(id:Int):QLe:=⟨id,1,Qgm id⟩
abbrev tName:ByteArray:=⟨#[116]⟩
def QKi(b:BM)(k a:Int):Option (BM×EvV):=
 if k=0\/k=1 then some ({ b with now:=IntKind.i64.wrap (b.now+QCB a 6) },⟨1,IntKind.i64.wrap (b.now+QCB a 6),[],ByteArray.empty⟩)
 else if k=2\/k=3 then (if (QcB b.last (QCB a 65536)).length>0 then some ({ b with last:=[] },⟨2,0,QcB b.last (QCB a 65536),ByteArray.empty⟩) else none)
 else if k=4 then some (b,⟨3,0,QBI (QWF b),ByteArray.empty⟩)
 else if k=5 then some (b,⟨3,0,QBI (QDV (QdU (IntKind.i64.wrap (1+QCB a 12)))).1,ByteArray.empty⟩)
 else if k=8 then some (b,⟨4,0,(QhF 7 1 (QD2 (Qfi (IntKind.i64.wrap (1+QCB a 4))))).2,ByteArray.empty⟩)
 else some (b,⟨5,0,[],tName⟩)
def Qgx(b:BM)(M:GM):Option (BM×EvV)->BM×GM
 | none=>(b,M)
 | some (b',e)=>(doB b' M e,(QB2 M e).1)
abbrev Qie(M:GM)(n:Int):GM:={ M with k:=⟨Qe4 M.k.dev n,M.k.log,M.k.X⟩ }
def QZ9(b:BM)(M:GM)(d a:Int):Option (BM×GM):=
 if QCB d 10=6 then some (b,Qie M (QCB a 40))
 else if QCB d 10=7 then QTA b (QOP M.k.dev a)
 else some (Qgx b M (QKi b (QCB d 10) a))
theorem Qhf{α:Type}{E:Enc α}{F:List HP}:Rds B F (RAr E nilS []):=QIX fun _ _ _ _ _=>⟨rfl,by show 0=0*E.sz;rw[Nat.zero_mul],fun h=>absurd h (Zu 0)⟩
theorem QPI(p:PkV):(QBI p).length<=2000:=by
 unfold QBI;split
 ·rename_i h;exact QV9 p h
 ·exact Ua _
theorem Qda(l:Ab)(v:Int):(QcB l v).length<=1000:=by
 unfold QcB;repeat' split
 ·exact Ua _
 ·exact Ua _
 ·exact QQ9 _ _
theorem QT6(c:QLe):((QDV c).1.kind=3\/(QDV c).1.kind=4->(QDV c).1.epoch=0/\(QDV c).1.seq=0):=by
 unfold QDV;repeat' split
 all_goals exact fun _=>⟨rfl,rfl⟩
theorem GFit.arm{M:GM}(h:GFit M)(n:Int):GFit (Qie M n):=⟨⟨h.ok.clock,h.ok.keep,h.ok.slots,h.ok.polls,h.ok.tags,h.ok.held,h.ok.al,h.ok.queue,h.ok.poll,h.ok.busy⟩,h.run,h.ts⟩
abbrev tagT:Pn.Tag:={ name:=tName,unit:=1,kind:=4,addr:=5,every:=2,wide:=false,sgn:=false,swap:=false,mul:=1,div:=1,add:=0,dead:=0,quiet:=0,ulow:=false,uhigh:=false,latch:=false,low:=0,high:=0,hyst:=0 }
abbrev QIM(retries:Int):Cfg:=⟨3,retries,2,5,10,1,[tagT]⟩
abbrev Qiw:List Sh:=[.str,.I,.I,.I,.I,.bool,.bool,.bool,.I,.I,.I,.I,.I,.bool,.bool,.bool,.I,.I,.I]
theorem Qcz:Ct Pr 38 [.string tName,.I 5] .agg Qiw [] emp
  (fun t Bs=>t=(tName,1,4,5,2,false,false,false,1,1,0,0,0,false,false,false,0,0,0,())/\Bs=[]):=by
 refine QAm (ss:=Qiw) (φ:=fun K=>(QM9 _ _ K).1) (fun h=>cf _ rfl Kr h) fun B _=>?_;show Ent B [] (QM9 tName 5 fun a d e f g j m n o p q r s u v w x y z=>Ret B (ss:=Qiw) (fun t Bs=>t=(tName,1,4,5,2,false,false,false,1,1,0,0,0,false,false,false,0,0,0,())/\Bs=[]) (a,d,e,f,g,j,m,n,o,p,q,r,s,u,v,w,x,y,z,()));unfold QM9 mf;dsimp only;refine QAL fun b=>?_;iterate 19 (refine xsq ?_)
 iterate 19 (refine xgq ?_)
 exact QAd (l:=[]) (QAD ⟨rfl,rfl⟩)
abbrev CfT:List Sh:=[.I,.I,.I,.I,.I,.I,.slice]
theorem QTJ(retries:Int):Ct Pr 11 [.I retries] .agg CfT [] emp
  (fun t Bs=>t.1=3/\t.2.1=retries/\t.2.2.1=2/\t.2.2.2.1=5/\t.2.2.2.2.1=10/\t.2.2.2.2.2.1=1/\Bs=[Ar Pn.TG t.2.2.2.2.2.2.1 [tagT]]):=by
 refine QAm (ss:=CfT) QTa fun B _=>?_;show Ent B [] (QKn retries fun d e f h j l m=>Ret B (ss:=CfT) (fun t Bs=>t.1=3/\t.2.1=retries/\t.2.2.1=2/\t.2.2.2.1=5/\t.2.2.2.2.1=10/\t.2.2.2.2.2.1=1/\Bs=[Ar Pn.TG t.2.2.2.2.2.2.1 [tagT]]) (d,e,f,h,j,l,m,()));unfold QKn;refine QAL fun b=>?_;refine xcl Qcz rdb ?_;rintro _ _ ⟨rfl,rfl⟩;refine QA2 ?_;dsimp only[Cur.app];refine QAL fun a=>?_;iterate 7 (refine xsq ?_)
 iterate 6 (refine xgq ?_)
 refine xgS ⟨some ⟨a,0,none⟩,1,1⟩ ?_;refine QAg (Q:=Ar Pn.TG ⟨some ⟨a,0,none⟩,1,1⟩ [tagT]) 0 (fun g n=>⟨[],QAp [tagT] 1 rfl rfl n⟩) ?_;exact QAK [Ar Pn.TG ⟨some ⟨a,0,none⟩,1,1⟩ [tagT]] (QAD ⟨rfl,rfl,rfl,rfl,rfl,rfl,rfl⟩)
abbrev z13:Ae:=[0,0,0,0,0,0,0,0,0,0,0,0,0]
abbrev bm0(c:Cfg):BM:=⟨c,0,[],0,0,0,[[],[],[],[],[],[],[],[],[],[],[],[],[]],z13,z13,0,false⟩
abbrev s13:List Sl:=[nilS,nilS,nilS,nilS,nilS,nilS,nilS,nilS,nilS,nilS,nilS,nilS,nilS]
abbrev QUQ(room:Int):DM:=⟨false,false,0,room,[]⟩
def QK8(c:Cfg)(room:Int):Option (BM×GM):=if room<0\/room>16777216 then none else QTA (bm0 c) (QUQ room)
def Qgf(ts:Sl)(tags:List Pn.Tag)(r:Option (BM×GM))(t:Tup [.ptr])(Bs:List HP):Prop:=
 (t.1=none/\r=none/\Bs=[])\/(∃k a M b d,t.1=some ⟨k,0,none⟩/\r=some (a,M)/\GFit M/\Bs=BnO k ts d.dev (some ⟨b,0,none⟩) a::Ar Pn.TG ts tags::GwL b d M)
theorem QMG(c:Cfg)(s:Sl)(room:Int):Ct Pr 10 [c.v s,.I room] .one [.ptr] [Ar Pn.TG s c.tags] GTab (Qgf s c.tags (QK8 c room)):=by
 refine sp1 (QNj _ _ _ _ _ _ _ _) fun B f=>?_;haveI:=QKj f;unfold QNj mf;dsimp only;unfold QK8;refine QAL fun b=>?_;refine xcl (Qdv room) rdb ?_;rintro⟨q,r,_⟩ _ h;rcases h with⟨h1,j,d,rfl⟩|⟨h1,j,d,⟨z,u⟩,rfl⟩
 ·simp only at j d;subst j d;rw[We h1];refine QA2 (ca2 ?_);iterate 6 (refine xgq ?_)
  refine xgS s (QAL fun a=>QAM (QCC rfl (QCC rfl ?_)));exact QAd (l:=[]) (QAD (.inl ⟨rfl,rfl,rfl⟩))
 simp only at d u;subst d;rw[Wb Om];refine QAz (ca2 ?_);iterate 6 (refine xgq ?_)
 refine xgS s (QAL fun a=>QAM (QBH rfl ?_));refine QAg (Q:=Blk a (bnC (bm0 c) s q none nilS s13).v) 0 (fun g p=>p) ?_;refine QBO [] (QAt []) (fun _ _=>trivial) ?_;refine QMn a s q none (bm0 c) [] nilS s13 ⟨rfl,rfl,rfl⟩ ⟨.inl ⟨rfl,rfl⟩,rfl,fun i hi=>.inl ?_,fun r f=>by cases f⟩ ?_
 ·rcases Qfc hi with rfl|rfl|rfl|rfl|rfl|rfl|rfl|rfl|rfl|rfl|rfl|rfl|rfl<;>exact⟨rfl,rfl⟩
 refine xcl (QPj a s q none (bm0 c) (QUQ room)) rdb ?_;rintro⟨t,_⟩ _ h;rcases h with⟨e,hn,rfl⟩|⟨e,o,M,m,n,w,x,y,rfl⟩
 ·simp only at e;subst e;exact QA2 (ca1 (QCC rfl (QAd (l:=[]) (QAD (.inl ⟨rfl,hn,rfl⟩)))))
 ·simp only at e;subst e;subst y;refine QLk (ca1 (QBH rfl ?_));exact QAK (BnO a s n.dev (some ⟨m,0,none⟩) o::Ar Pn.TG s c.tags::GwL m n M) (QAD (.inr ⟨a,o,M,m,n,rfl,w,x,rfl⟩))
end Go.Cx
