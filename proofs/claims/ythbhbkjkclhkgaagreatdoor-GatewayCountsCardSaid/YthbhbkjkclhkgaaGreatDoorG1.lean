/-
The gateway: what it holds; what it sends; records put, noted, synced.
-/
import Derived.Test.YthbhbkjkclhkgaaGreatDoorP6
import Derived.Test.YthbhbkjkclhkgaaGreatDoorSX
import Derived.Test.YthbhbkjkclhkgaaGreatDoorHY
import Derived.Test.YthbhbkjkclhkgaaGreatDoorMX
import Derived.Test.YthbhbkjkclhkgaaGreatDoorMT
import Derived.Test.YthbhbkjkclhkgaaGreatDoorDK
import Derived.Test.YthbhbkjkclhkgaaGreatDoorA4
import Derived.Test.YthbhbkjkclhkgaaGreatDoorA3
set_option linter.unusedSimpArgs false
namespace Go.Cx
open Go Go.Cf
set_option linter.unusedVariables false
set_option maxRecDepth 100000
variable {B:QBJ}{As F:List HP}
theorem QP5{Q:WP}{e:Int}{K:Int->WP}(h1:e≠10->Ent B As (K e))(b:e=10->Ent B As Q):Ent B As (QGA Q 129 [.I e] .one [.I] fun r=>K r):=by
 refine QTq (pre:=[]) (Qae e) rdb ?_ ?_
 ·rintro⟨t,_⟩ _ ⟨he,a,rfl⟩;simp only at a;subst a;exact QA2 (ca1 (h1 he))
 ·rintro _ ⟨he,rfl⟩;exact QA2 (b he)
structure GwC where
 timeout:Int
 retries:Int
 window:Int
 resend:Int
 span:Int
 keep:Int
 tags:Sl
 dev:Ac
 log:Ac
 idx:Ac
 saved:Int
 acked:Int
 epoch:Int
 boots:Int
 jr:Ac
 up:Ac
 line:Ac
 polls:Sl
 slots:Sl
 held:Sl
 alarms:Sl
 queue:Sl
 poll:Int
 cmd:Ac
 clock:Int
 lost:Int
 stopped:Bool
abbrev GwC.v(c:GwC)(a:Sl):Ad:=[.I c.timeout,.I c.retries,.I c.window,.I c.resend,.I c.span,.I c.keep,c.tags.v,.pointer c.dev,.pointer c.log,.pointer c.idx,.I c.saved,.I c.acked,.I c.epoch,.I c.boots,.pointer c.jr,.pointer c.up,.pointer c.line,c.polls.v,c.slots.v,c.held.v,c.alarms.v,c.queue.v,.I c.poll,.pointer c.cmd,.I c.clock,.I c.lost,.bool c.stopped,a.v]
def OuE:Enc (Int×Sl):=⟨fun x=>[.I x.1,x.2.v],2,fun _=>rfl,fun x v h=>by simp at h;rcases h with rfl|rfl<;>rfl,Dc,(0,nilS)⟩
abbrev QCj:=Int×Ab
def QP3(s:Sl)(os:List QCj):HP:=fun h=>∃rs:List (Int×Sl),rs.map Prod.fst=os.map Prod.fst/\QBr [Ar OuE s rs,Each (fun(r:Int×Sl) (o:QCj)=>Ar U8 r.2 o.2) rs os] h
def GwB(g:Nat)(c:GwC)(os:List QCj):HP:=fun h=>∃a:Sl,QBr [Blk g (c.v a),QP3 a os] h
theorem xgw(j:Nat){g:Nat}{c:GwC}{os:List QCj}{φ:WP}[p:Pick j As (GwB g c os) F](h:∀a,Ent B (Blk g (c.v a)::QP3 a os::F) φ):Ent B As φ:=by
 refine QEZ j (fun Bs=>∃a,Bs=[Blk g (c.v a),QP3 a os]) (fun f b=>?_) ?_
 ·obtain⟨a,b⟩:=b;exact⟨_,⟨a,rfl⟩,b⟩
 ·rintro _ ⟨a,rfl⟩;exact QBK (h a)
theorem QRa(g:Nat)(c:GwC)(os:List QCj)(a:Sl){G:List HP}[s:Split [Blk g (c.v a),QP3 a os] As G]{φ:WP}(k:Ent B (GwB g c os::G) φ):Ent B As φ:=
 QBO [Blk g (c.v a),QP3 a os] (GwB g c os) (fun f b=>⟨a,b⟩) k
instance:QJH Pr 58 202 2 32 [.I 0,.slice none 0 0]:=⟨Kr,Kr⟩
theorem QJn(g:Nat)(c:GwC)(os:List QCj)(hl:os.length<=1000000)(to:Int)(b:Sl)(i:Ab) :
  Ct Pr 232 [.pointer (some ⟨g,0,none⟩),.I to,b.v] (.tup []) [] [GwB g c os,Ar U8 b i] emp (fun _ Bs=>Bs=[GwB g c (os++[(to,i)])]):=by
 refine sp0 (QER _ _ _) fun B _=>?_;unfold QER mf;dsimp only;refine xgw 0 fun l=>QAO (xgS l (QAL fun p=>?_));refine QEZ 2 (fun Bs=>∃rs:List (Int×Sl),rs.map Prod.fst=os.map Prod.fst/\Bs=[Ar OuE l rs,Each (fun(r:Int×Sl) (o:QCj)=>Ar U8 r.2 o.2) rs os]) (fun f j=>?_) ?_
 ·obtain⟨rs,h1,j⟩:=j;exact⟨_,⟨rs,h1,rfl⟩,j⟩
 rintro _ ⟨rs,n,rfl⟩
 have G:rs.length=os.length:=by have:=Uh List.length n;simpa using this
 refine QBK (QAb [Blk p [.I to,b.v],Ar OuE l rs] ?_);refine QE4 (E:=OuE) (to,b) (hb:=Om) (h:=fun m=>?_);refine QAO (xsq ?_);refine QBO [Ar OuE m (rs++[(to,b)]),Each (fun(r:Int×Sl) (o:QCj)=>Ar U8 r.2 o.2) rs os,Ar U8 b i] (QP3 m (os++[(to,i)])) (fun f j=>?_) ?_
 ·refine⟨rs++[(to,b)],by simp[n],?_⟩
  exact QBC (fun q s=>by
   obtain⟨a,d,t,u,w,x,y⟩:=s;obtain⟨a2,z,A,_,C,D,_⟩:=u
   refine⟨q,fun _=>none,QEn ⟨a,d,t,⟨a2,z,A,trivial,C,D,by assumption⟩,w,x,y⟩,trivial,fun k=>.inr rfl,Sub.refl _,fun _ _ e=>by cases e⟩) j
 exact QRa g c (os++[(to,i)]) m (QAK [GwB g c (os++[(to,i)])] (QAD rfl))
def upM(p:PkV):List QCj:=if pkE p p.body.length=0 then [(2,QW0 p)] else []
theorem QQm(p:PkV):(upM p).length<=1:=by unfold upM;split<;>simp
theorem QLA(g:Nat)(c:GwC)(os:List QCj)(hl:os.length<=1000000)(p:PkV)(f:p.kind=3\/p.kind=4->p.epoch=0/\p.seq=0)(s:Sl) :
  Ct Pr 201 [.pointer (some ⟨g,0,none⟩),QgS p s] (.tup []) [] [GwB g c os] (RAr U8 s p.body) (fun _ Bs=>Bs=[GwB g c (os++upM p)]):=by
 refine sp0 (QDE _ _ _ _ _ _ _) fun B a=>?_;haveI:Fro B s U8 p.body:=⟨a⟩;unfold QDE mf;dsimp only;refine QAL fun b=>?_;iterate 5 (refine xgq ?_)
 refine xgS s ?_;refine xn2 (L:=fun s=>[Ar U8 s (QBI p)]) (QN8 p f s) (fun x y Bs d=>d) fun e=>?_;refine QAM (xif (fun h=>?_) (fun h=>?_))
 ·have h0:pkE p p.body.length=0:=Si h
  rw[show upM p=[(2,QW0 p)] from We h0,show QBI p=QW0 p from We h0];exact xd0 (QJn g c os hl 2 e (QW0 p)) (QAK [GwB g c (os++[(2,QW0 p)])] (QAD rfl))
 ·rw[show upM p=[] from Wb (Si h),Oi];exact QAK [GwB g c os] (QAD rfl)
def QD7(id code:Int):List QCj:=upM ⟨4,0,0,id,code,[]⟩
theorem QDt(g:Nat)(c:GwC)(os:List QCj)(hl:os.length<=1000000)(id code:Int) :
  Ct Pr 131 [.pointer (some ⟨g,0,none⟩),.I id,.I code] (.tup []) [] [GwB g c os] emp (fun _ Bs=>Bs=[GwB g c (os++QD7 id code)]):=by
 refine sp0 (QED _ _ _) fun B _=>?_;unfold QED mf;dsimp only;exact xd0 (QLA g c os hl ⟨4,0,0,id,code,[]⟩ (fun _=>⟨rfl,rfl⟩) nilS) (QAD rfl)
structure Kn where
 dev:DM
 log:LM
 X:XM
structure XOk'(X:XM):Prop where
 srt:QKU X.L
 time:XTime X
 top:∀y∈X.L,y.2<=X.last
 last:X.last<4000000000000
 nodup:(X.L.map Prod.snd).Nodup
theorem QSM:∀(n:Nat) (l:Ae),l.Nodup->(∀x∈l,0<=x/\x<n)->l.length<=n
 | 0,[],_,_=>Wt 0
 | 0,x::l,_,h=>by have:=h x (by simp);omega
 | n+1,l,hn,h=>by
  have h1:(l.filter fun x=>decide (x≠(n:Int))).length<=n:=QSM n _ (hn.sublist List.filter_sublist) fun x hx=>by
   obtain⟨hx,a⟩:=Up.1 hx;have:=h x hx
   have a:x≠(n:Int):=Si a
   omega
  have d:∀(l:Ae),l.Nodup->l.length<=(l.filter fun x=>decide (x≠(n:Int))).length+1:=by
   intro l
   induction l with
   | nil=>intro _;simp
   | cons x l ih=>
    intro hn;obtain⟨hx,hn⟩:=List.nodup_cons.1 hn;by_cases e:x=(n:Int)
    ·subst e
     rw[Zx (by simp),Ko.2 fun y b=>by
      have:y≠(n:Int):=fun q=>hx (q ▸ b)
      simpa using this]
     simp
    ·rw[Za (Si e),Wl,Wl];have:=ih hn;omega
  have:=d l hn;omega
theorem XOk'.len{X:XM}(h:XOk' X):X.L.length<=4000000000000:=by
 have:=QSM 4000000000000 (X.L.map Prod.snd) h.nodup fun x hx=>by
  obtain⟨y,a,rfl⟩:=Uz.1 hx;have h1:=h.top y a;have b:=(h.time y a).2;have d:=h.last;omega
 simpa using this
theorem Qbu{k:KY}{L:List KY}(hn:(L.map Prod.snd).Nodup)(j:∀y∈L,y.2≠k.2):((QKv k L).map Prod.snd).Nodup:=by
 have i:k∉L:=fun f=>j k f rfl;unfold QKv;rw[Wb i];have n:(L.filter (fun y=>ltK y k)++k::L.filter (fun y=>!ltK y k)).Perm (k::(L.filter (fun y=>ltK y k)++L.filter (fun y=>!ltK y k))):=List.perm_middle
 have o:(L.filter (fun y=>ltK y k)++L.filter (fun y=>!ltK y k)).Perm L:=by
  have:=List.filter_append_perm (fun y=>ltK y k) L;exact this
 have p:L.filter (fun y=>ltK k y)=L.filter (fun y=>!ltK y k):=List.filter_congr fun y h=>by
  have q:y≠k:=fun e=>i (e ▸ h)
  cases h1:ltK y k with
  | true=>rw[QHx h1];rfl
  | false=>
   unfold ltK at h1|-;simp only[O0,Uc,Lf,Bool.not_false,Oz,Wf,W2,Wq,Wx]at h1|-;obtain⟨a,b⟩:=k;obtain⟨c,d⟩:=y;have:¬(c=a/\d=b):=fun ⟨l,m⟩=>q (by rw[l,m]);simp only at h1|-;omega
 rw[p];have r:=(n.trans (o.cons k)).map Prod.snd;refine r.nodup_iff.2 ?_;rw[U9,List.nodup_cons];refine⟨fun f=>?_,hn⟩;obtain⟨y,h,e⟩:=Uz.1 f;exact j y h e
theorem XOk'.put{X:XM}(h:XOk' X){t n:Int}(h1:0<=t/\t<=1099511627776)(d:0<=n)(e:X.last<n)(f:n<4000000000000):XOk' (QTB X t n):=by
 have b:∀y∈(QTB X t n).L,y=(t,n)\/y∈X.L:=fun y a=>QZi a
 have hl:(QTB X t n).last=n:=by unfold QTB;simp only;rw[We e]
 refine⟨QbW h.srt,h.time.put h1 d,fun y a=>?_,by rw[hl];exact f,Qbu h.nodup fun y a=>?_⟩
 ·rw[hl];rcases b y a with rfl|a
  ·exact Uo _
  ·have:=h.top y a;omega
 ·have:=h.top y a;simp only;omega
theorem XOk'.add{X:XM}(h:XOk' X)(k:KY):XOk' (QZL X k):=by
 unfold QZL;split
 ·exact h
 split
 ·exact h
 ·exact h.put Om Om Om Om
theorem XOk'.prune{X:XM}(h:XOk' X)(lo:Int):XOk' (QB9 X lo):=by
 obtain⟨h1,b,d⟩:=QN9 lo X.L h.srt (fun y a=>(h.time y a).2);refine⟨by rw[h1];exact h.srt.filter _,h.time.pruneG h.srt lo,b,?_,by rw[h1];exact (h.nodup.sublist ((List.filter_sublist).map _))⟩;rcases d with⟨_,e⟩|⟨y,a,e⟩
 ·rw[e];decide
 ·rw[<-e];rw[h1]at a;have:=h.top y (Up.1 a).1;have:=h.last;omega
theorem XOk'.open{m:DM}{l:LM}(h:Ldev m l):XOk' (QJQ l):=by
 have f:=h.log.lo;have i:=h.log.next
 have key:∀k:Nat,(k:Int)<=l.next - l.lo->XOk' (QDy l k)/\(QDy l k).last<l.lo+k:=by
  intro k
  induction k with
  | zero=>exact fun _=>⟨⟨List.Pairwise.nil,(fun y a=>by cases a),(fun y a=>by cases a),(by show (-1:Int)<4000000000000;decide),List.nodup_nil⟩,by show (-1:Int)<_;omega⟩
  | succ k ih=>
   intro d;obtain⟨h1,e⟩:=ih Om;rw[QIw];unfold QTI;split
   ·rename_i b
    refine⟨h1.put (Qam (QOd b)) Om Om Om,?_⟩;unfold QTB;simp only;rw[We Om];omega
   ·exact⟨h1,Om⟩
 unfold QJQ;rcases Int.le_total 0 (l.next - l.lo) with q|q
 ·exact (key _ Om).1
 ·rw[show (l.next - l.lo).toNat=0 by omega];exact⟨List.Pairwise.nil,(fun y a=>by cases a),(fun y a=>by cases a),(by show (-1:Int)<4000000000000;decide),List.nodup_nil⟩
structure KOk(k:Kn):Prop where
 ldev:Ldev k.dev k.log
 idx:XOk' k.X
def QA7(d l x:Ac)(k:Kn):HP:=fun h=>KOk k/\QBr [QAA d k.dev,QAQ l d k.log,QAs x d l k.X] h
theorem QG8(j:Nat){d l x:Ac}{k:Kn}{φ:WP}[p:Pick j As (QA7 d l x k) F](h:KOk k->Ent B (QAA d k.dev::QAQ l d k.log::QAs x d l k.X::F) φ):Ent B As φ:=by
 refine QEZ j (fun Bs=>KOk k/\Bs=[QAA d k.dev,QAQ l d k.log,QAs x d l k.X]) (fun f a=>⟨_,⟨a.1,rfl⟩,a.2⟩) ?_;rintro _ ⟨b,rfl⟩;exact QLn (h b)
theorem QCh(d l x:Ac)(k:Kn){G:List HP}[s:Split [QAA d k.dev,QAQ l d k.log,QAs x d l k.X] As G]{φ:WP}(b:KOk k)(h:Ent B (QA7 d l x k::G) φ):Ent B As φ:=
 QBO [QAA d k.dev,QAQ l d k.log,QAs x d l k.X] (QA7 d l x k) (fun f a=>⟨b,a⟩) h
def QHX(clock:Int)(k:Kn)(r:RE):Kn×Int:=
 let a:=QAy k.dev k.log (QLb { r with time:=clock }).1
 if a.2.2.2=0 then (⟨a.1,a.2.1,QZL k.X (clock,a.2.2.1)⟩,0) else (⟨a.1,a.2.1,k.X⟩,a.2.2.2)
theorem QfG{clock:Int}{k:Kn}{r:RE}(h:KOk k):KOk (QHX clock k r).1:=by
 have hl:=h.ldev.append (QLb { r with time:=clock }).1;unfold QHX
 (try simp only)
 split
 ·exact⟨hl,h.idx.add _⟩
 ·exact⟨hl,h.idx⟩
theorem QXA(g:Nat)(c:GwC)(os:List QCj)(k:Kn)(r:RE)(q:r.tag.size<=1000000) :
  CtP QC1 Pr 198 [.pointer (some ⟨g,0,none⟩),r.v] .one [.bool] [GwB g c os,QA7 c.dev c.log c.idx k] GTab
  (fun t Bs=>(QHX c.clock k r).2≠10/\t.1=((QHX c.clock k r).2 == 0)/\Bs=[GwB g c os,QA7 c.dev c.log c.idx (QHX c.clock k r).1])
  (fun Bs=>(QHX c.clock k r).2=10/\Bs=[GwB g c os,QA7 c.dev c.log c.idx (QHX c.clock k r).1]):=by
 refine QkQ (QE1 _ _ _ _ _ _) fun B o=>?_;haveI:=QKj o;unfold QE1 mfP;dsimp only;refine xgw 0 fun j=>QAL fun b=>QAO (xgq (xsq ?_));iterate 5 (refine xgq ?_)
 refine xcl (QfX { r with time:=c.clock } q) rdb ?_;rintro⟨s,(u:Int),_⟩ _ ⟨_,rfl⟩;refine QAz (ca2 (QAO (xgq ?_)));refine QG8 4 fun f=>?_;have d:=QfG (clock:=c.clock) (r:=r) f;unfold QHX at d|-;have p:=(f.ldev.append (QLb { r with time:=c.clock }).1).log;refine xcl (QSN c.log c.dev k.dev k.log s (QLb { r with time:=c.clock }).1 f.ldev.safe p) rdb ?_
 generalize QAy k.dev k.log (QLb { r with time:=c.clock }).1=a at *
 obtain⟨m',l',n,e⟩:=a;rintro⟨l,i,_⟩ _ ⟨h1,m,rfl⟩;simp only at h1 m d|-;subst h1 m;refine QBK (ca2 (QP5 (fun he=>?_) (fun he=>?_)))
 ·refine xif (fun h=>?_) (fun h=>?_)
  ·have h0:i≠0:=Si h
   rw[Wb h0]at d|-;refine QRa g c os j (QCh c.dev c.log c.idx ⟨m',l',k.X⟩ d ?_);exact QAK [GwB g c os,QA7 c.dev c.log c.idx ⟨m',l',k.X⟩] (QAD ⟨he,Si h0,rfl⟩)
  ·have h0:i=0:=Si h
   rw[We h0]at d|-;refine QAP (QAO (xgq (QAO (xgq ?_))));refine xcl (QaU c.idx c.dev c.log k.X (c.clock,l) (by have:=f.idx.len;omega)) rdb ?_;rintro⟨t,_⟩ _ rfl;refine QAz (ca1 ?_);refine QRa g c os j (QCh c.dev c.log c.idx ⟨m',l',QZL k.X (c.clock,l)⟩ d ?_);exact QAK [GwB g c os,QA7 c.dev c.log c.idx ⟨m',l',QZL k.X (c.clock,l)⟩] (QAD ⟨(show (0:Int)≠10 by decide),rfl,rfl⟩)
 ·rw[Wb (show ¬i=0 by rw[show i=10 from he];decide)]at d|-;refine QRa g c os j (QCh c.dev c.log c.idx ⟨m',l',k.X⟩ d ?_);exact QAK [GwB g c os,QA7 c.dev c.log c.idx ⟨m',l',k.X⟩] (QTr ⟨he,rfl⟩)
theorem QGl(q p:Ac)(l:LM):Ct Pr 40 [.pointer q] .one [.I] [QAQ q p l] emp (fun t Bs=>t.1=l.safe/\Bs=[QAQ q p l]):=by
 refine sp1 (QJw _) fun B _=>?_;unfold QJw mf;dsimp only;refine QZQ 0 fun hi b s cs a d e=>?_;subst a;exact QAO (xgq (QAw (p:=p) (l:=l) b s cs hi (QAD ⟨rfl,rfl⟩)))
def QJ9(k:Kn):Kn×Bool:=if k.log.next>k.log.safe then (⟨(QBP k.dev k.log).1,(QBP k.dev k.log).2.1,k.X⟩,(QBP k.dev k.log).2.2 != 10) else (k,true)
theorem Qco{k:Kn}(h:KOk k):KOk (QJ9 k).1:=by
 unfold QJ9;split
 ·exact⟨h.ldev.sync.1,h.idx⟩
 ·exact h
theorem QbG(g:Nat)(c:GwC)(os:List QCj)(k:Kn) :
  CtP QC1 Pr 234 [.pointer (some ⟨g,0,none⟩)] (.tup []) [] [GwB g c os,QA7 c.dev c.log c.idx k] GTab
  (fun t Bs=>(QJ9 k).2=true/\Bs=[GwB g c os,QA7 c.dev c.log c.idx (QJ9 k).1])
  (fun Bs=>(QJ9 k).2=false/\Bs=[GwB g c os,QA7 c.dev c.log c.idx (QJ9 k).1]):=by
 refine QfU (QEL _) fun B i=>?_;haveI:=QKj i;unfold QEL mfP;dsimp only;refine xgw 0 fun d=>QAP (QAO (xgq (QAO (xgq ?_))));refine QG8 2 fun f=>?_;have b:=Qco f;unfold QJ9 at b|-;refine xd1 (QF9 c.log c.dev k.log) (QDK (h:=xd1 (QGl c.log c.dev k.log) (QAM (QAB (fun h=>?_) (fun h=>?_)))))
 ·rw[We h]at b|-;refine QAO (xgq ?_);refine xcl (QKm c.log c.dev k.dev k.log f.ldev.safe) rdb ?_
  generalize QBP k.dev k.log=a at *
  obtain⟨m',l',e⟩:=a;rintro⟨j,_⟩ _ ⟨h1,rfl⟩;simp only at h1 b|-;subst h1;refine QBK (ca1 (QP5 (fun he=>?_) (fun he=>?_)))
  ·refine QRa g c os d (QCh c.dev c.log c.idx ⟨m',l',k.X⟩ b ?_);exact QAK [GwB g c os,QA7 c.dev c.log c.idx ⟨m',l',k.X⟩] (QAD ⟨Si he,rfl⟩)
  ·refine QRa g c os d (QCh c.dev c.log c.idx ⟨m',l',k.X⟩ b ?_);exact QAK [GwB g c os,QA7 c.dev c.log c.idx ⟨m',l',k.X⟩] (QTr ⟨Si he,rfl⟩)
 ·rw[Wb h]at b|-;refine QRa g c os d (QCh c.dev c.log c.idx k b ?_);exact QAK [GwB g c os,QA7 c.dev c.log c.idx k] (QAD ⟨rfl,rfl⟩)
class GwF(g:Nat)(As:List HP)(c:outParam GwC)(os:outParam (List QCj))(F:outParam (List HP)):Prop where
 perm:As.Perm (GwB g c os::F)
instance (priority:=high) GwF.head(g:Nat)(c:GwC)(os:List QCj)(F:List HP):GwF g (GwB g c os::F) c os F:=⟨O6 _⟩
instance GwF.tail(g:Nat)(c:GwC)(os:List QCj)(P:HP)(As F:List HP)[h:GwF g As c os F]:GwF g (P::As) c os (P::F):=⟨(h.perm.cons P).trans (List.Perm.swap _ _ _)⟩
theorem QA8(g off:Nat):Addr.add ⟨g,0,none⟩ off=⟨g,off,none⟩:=by
 unfold Addr.add;split
 ·rename_i h;rw[h]
 ·rw[Z9]
section
variable {g off:Nat}{c:GwC}{os:List QCj}
theorem xgf[f:GwF g As c os F]{s:Sh}{x:s.ty}{K:Addr->s.ty->WP}(hv:∀b,(c.v b)[off]? = some (s.mk x):=by intro _;rfl)(h:Ent B As (K ⟨g,0,none⟩ x)):Ent B As (QC3 (some ⟨g,0,none⟩) fun a=>QAn s (a.add off) (K a)):=
 Ent.perm f.perm (xgw 0 fun b=>QAO (by
  rw[QA8]
  exact QAh (hv:=hv b) (h:=QRa g c os b (Ent.perm f.perm.symm h))))
theorem xgc[f:GwF g As c os F]{v:Value}{K:WP}(hv:∀a,(c.v a)[off]? = some v:=by intro _;rfl)(h:Ent B As K):Ent B As (QKR (Addr.add ⟨g,0,none⟩ off) v K):=
 Ent.perm f.perm (xgw 0 fun a=>by
  rw[QA8]
  exact QDK (hv:=hv a) (h:=QRa g c os a (Ent.perm f.perm.symm h)))
theorem xgs[f:GwF g As c os F](c':GwC){v:Value}{K:WP}(d:∀b,off<(c.v b).length/\(c.v b).set off v=c'.v b:=by intro _;exact⟨by simp,rfl⟩)(hv:v.oneCell'=true:=by rfl)(h:Ent B (GwB g c' os::F) K):Ent B As (QC3 (some ⟨g,0,none⟩) fun a=>QBE (a.add off) v K):=
 Ent.perm f.perm (xgw 0 fun b=>QAO (by
  rw[QA8]
  exact QII (cs:=c.v b) (O6 _) (d b).1 hv (O6 _) (by rw[(d b).2];exact QRa g c' os b h)))
end
theorem QVg{m:SeM}(h:QVY m)(now next:Int):(QHa m now next).2.length<=16/\∀n∈(QHa m now next).2,i64 n:=by
 obtain⟨⟨f,j⟩,_,_,b,s,t,k,_⟩:=h;unfold QHa;split
 ·exact⟨Ua _,fun n hn=>by cases hn⟩
 rename_i e
 (try simp only)
 generalize d:(if m.sent>m.base/\now>=m.since+m.resend then { m with top:=if next>m.top then next else m.top,sent:=m.base } else { m with top:=if next>m.top then next else m.top }:SeM)=q
 have l:m.base<=q.sent/\q.sent<=1099511627776:=by
  rw[<-d];split<;>simp only<;>omega
 have o:(if m.base+m.window<next then m.base+m.window else next) - q.sent<=16/\(if m.base+m.window<next then m.base+m.window else next)<=1099511627776:=by split<;>omega
 by_cases a:next<=q.sent\/(if m.base+m.window<next then m.base+m.window else next) - q.sent<=0
 ·rw[We a];exact⟨Ua _,fun n hn=>by cases hn⟩
 rw[Wb a];refine⟨?_,fun n hn=>?_⟩
 ·simp only[O3,Ky];omega
 ·obtain⟨i,hi,rfl⟩:=Uz.1 hn;have:=Kh.1 hi;exact⟨Om,Om⟩
def QMY(epoch:Int)(a:LM)(n:Int):List QCj:=upM ⟨1,epoch,n,0,0,(QCc a n).1⟩
def QBf(epoch clock:Int)(a:LM)(m:SeM):SeM×List QCj:=((QHa m clock a.safe).1,(QHa m clock a.safe).2.flatMap (QMY epoch a))
theorem QUA{α:Type}{f:α->List QCj}(a:∀x,(f x).length<=1):∀l:List α,(l.flatMap f).length<=l.length
 | []=>Wt 0
 | x::l=>by have:=QUA a l;have:=a x;rw[U3,Wd,Wl];omega
theorem QKe{m:SeM}(h:QVY m)(epoch clock:Int)(a:LM):(QBf epoch clock a m).2.length<=16:=
 Oq (QUA (fun n=>QQm _) _) (QVg h clock a.safe).1
theorem Qfy{q:Ac}{m:SeM}{h:QBs}(a:QBD q m h):QVY m:=a.1
theorem QI7(g:Nat)(c:GwC)(os:List QCj)(hl:os.length<=900000)(k:Kn)(m:SeM) :
  Ct Pr 133 [.pointer (some ⟨g,0,none⟩)] (.tup []) [] [GwB g c os,QA7 c.dev c.log c.idx k,QBD c.up m] emp
  (fun _ Bs=>Bs=[GwB g c (os++(QBf c.epoch c.clock k.log m).2),QA7 c.dev c.log c.idx k,QBD c.up (QBf c.epoch c.clock k.log m).1]):=by
 refine sp0 (QDS _) fun B _=>?_;unfold QDS mf QBf;dsimp only;refine QB6 2 (P1:=QBD c.up m) (fun f e=>Qfy e) fun j=>?_;obtain⟨o,b⟩:=QVg j c.clock k.log.safe;refine QG8 1 fun l=>QAP (xgf (h:=xgf (h:=xgf (h:=?_))));refine xd1 (QGl c.log c.dev k.log) (xgc (h:=xgc (h:=?_)));refine xcl (QRy c.up m c.clock k.log.safe) rdb ?_
 generalize QHa m c.clock k.log.safe=w at *
 obtain⟨m',a⟩:=w;rintro⟨s,_⟩ _ rfl;simp only at o b|-;refine QBK (ca1 ?_);refine QCl (E:=I64) (xs:=a) s fun y _=>?_;refine QAK [Ar I64 s a,GwB g c os,QAQ c.log c.dev k.log,QAA c.dev k.dev,QAs c.idx c.dev c.log k.X,QBD c.up m'] ?_;refine QBa (fun n (x:Int) As'=>∃i:Nat,x=(i:Int)/\n=a.length - i/\i<=a.length/\As'=[Ar I64 s a,GwB g c (os++(a.take i).flatMap (QMY c.epoch k.log)),QAQ c.log c.dev k.log,QAA c.dev k.dev,QAs c.idx c.dev c.log k.X,QBD c.up m']) a.length ⟨0,rfl,rfl,Om,by simp⟩ ?_;rintro n x As' K ⟨i,rfl,rfl,hi,rfl⟩ p;refine QAB (fun h=>?_) (fun h=>?_)
 ·have d:i<a.length:=Om
  obtain⟨v,hv⟩:∃v,a[i]? = some v:=⟨_,Wa d⟩;have t:=b v (Wp hv)
  have u:(a.take (i+1)).flatMap (QMY c.epoch k.log)=(a.take i).flatMap (QMY c.epoch k.log)++QMY c.epoch k.log v:=by rw[<-QGB hv,Zf];simp
  have A:((a.take i).flatMap (QMY c.epoch k.log)).length<=16:=by
   have:=QUA (fun n=>QQm ⟨1,c.epoch,n,0,0,(QCc k.log n).1⟩) (a.take i)
   have C:(a.take i).length<=a.length:=by rw[Ww];omega
   exact Oq this Om
  refine QAH (E:=I64) (xs:=a) (s:=s) (k:=i) (h1:=d) (h:=fun _ _=>?_);refine QAN (E:=I64) (xs:=a) (i:=i) hv (h:=xgf (h:=?_));refine xcl (QFu c.log c.dev k.log v t) rdb ?_;rintro⟨r,z,_⟩ _ ⟨_,rfl⟩;refine QBK (ca2 (xgf (h:=?_)));refine xd0 (QLA g c (os++(a.take i).flatMap (QMY c.epoch k.log)) (by rw[Wd];omega) ⟨1,c.epoch,v,0,0,(QCc k.log v).1⟩ (fun q=>by simp only at q;omega) r) ?_;rw[QAE i Om];refine QAK [Ar I64 s a,GwB g c (os++(a.take i).flatMap (QMY c.epoch k.log)++upM ⟨1,c.epoch,v,0,0,(QCc k.log v).1⟩),QAQ c.log c.dev k.log,QAA c.dev k.dev,QAs c.idx c.dev c.log k.X,QBD c.up m'] (p (a.length - (i+1)) _ _ Om ⟨i+1,rfl,rfl,Om,?_⟩);rw[u,Wk];rfl
 ·rw[Wn Om];refine QCh c.dev c.log c.idx k l ?_;exact QAK [GwB g c (os++a.flatMap (QMY c.epoch k.log)),QA7 c.dev c.log c.idx k,QBD c.up m'] (QAD rfl)
structure Qc0 where
 k:Kn
 lost:Int
 ok:Bool
def QYd(clock:Int)(k:Kn)(lost:Int)(r:RE):Qc0:=
 let q:=QHX clock k r
 if q.2=10 then ⟨q.1,lost,false⟩ else if q.2=0 then ⟨q.1,lost,true⟩ else ⟨q.1,IntKind.i64.wrap (lost+1),true⟩
def Qfg(m:DM):Int:=m.room - (QBu m.fs:Int)
def QBi(clock:Int)(k:Kn)(lost:Int)(r:RE):Qc0:=
 if r.kind=1\/r.kind=2 then
  if Qfg k.dev<4096 then ⟨k,IntKind.i64.wrap (lost+1),true⟩
  else if lost>0 then
   let q:=QHX clock k ⟨3,0,ByteArray.empty,lost,0⟩
   if q.2=10 then ⟨q.1,lost,false⟩ else if q.2=0 then QYd clock q.1 0 r else ⟨q.1,IntKind.i64.wrap (lost+1),true⟩
  else QYd clock k lost r
 else QYd clock k lost r
abbrev GwC.withLost(c:GwC)(l:Int):GwC:={ c with lost:=l }
theorem QF8(g:Nat)(c:GwC)(os:List QCj)(k:Kn)(r:RE)(E:r.tag.size<=1000000) :
  CtP QC1 Pr 127 [.pointer (some ⟨g,0,none⟩),r.v] (.tup []) [] [GwB g c os,QA7 c.dev c.log c.idx k] GTab
  (fun t Bs=>(QBi c.clock k c.lost r).ok=true/\Bs=[GwB g (c.withLost (QBi c.clock k c.lost r).lost) os,QA7 c.dev c.log c.idx (QBi c.clock k c.lost r).k])
  (fun Bs=>(QBi c.clock k c.lost r).ok=false/\Bs=[GwB g (c.withLost (QBi c.clock k c.lost r).lost) os,QA7 c.dev c.log c.idx (QBi c.clock k c.lost r).k]):=by
 refine QfU (QEJ _ _ _ _ _ _) fun B s=>?_;haveI:=QKj s;obtain⟨N,a⟩:∃N,QBi c.clock k c.lost r=N:=⟨_,rfl⟩;rw[a];unfold QEJ mfP;dsimp only
 -- the last put
 have last:∀(d:Kn) (l:Int) (b:Nat),QYd c.clock d l r=N->Ent B [GwB g (c.withLost l) os,QA7 c.dev c.log c.idx d,Blk b r.cells]
   (QAn (.I) ⟨b,0,none⟩ fun(u:Int)=>QAn (.I) ⟨b,1,none⟩ fun(w:Int)=>QAn .str ⟨b,2,none⟩ fun(t:ByteArray)=>QAn (.I) ⟨b,3,none⟩ fun(y:Int)=>QAn (.I) ⟨b,4,none⟩ fun(z:Int)=>QGA (Qeg B fun Bs=>N.ok=false/\Bs=[GwB g (c.withLost N.lost) os,QA7 c.dev c.log c.idx N.k]) 198 [.pointer (some ⟨g,0,none⟩),.agg #[.I u,.I w,.string t,.I y,.I z]] .one [.bool]<|fun(j:Bool)=>QBW [] (fun m=>XIf (!j) (QC3 (some ⟨g,0,none⟩) fun A=>QAn (.I) (A.add 25) fun(C:Int)=>QC3 (some ⟨g,0,none⟩) fun a9=>QBE (a9.add 25) (.I (IntKind.i64.wrap (C+1)))<|m) (m))<|Ret B (ss:=[]) (fun t Bs=>N.ok=true/\Bs=[GwB g (c.withLost N.lost) os,QA7 c.dev c.log c.idx N.k]) ()):=by
  rintro d l b rfl;iterate 5 (refine xgq ?_)
  refine QTq (QXA g (c.withLost l) os d r E) rdb ?_ ?_
  ·rintro⟨j,_⟩ _ ⟨f,o,rfl⟩;simp only at o;subst o;refine QBK (ca1 (QAM (xif (fun h=>?_) (fun h=>?_))))
   ·have h0:¬(QHX c.clock d r).2=0:=Si h
    refine xgf (h:=xgs (c.withLost (IntKind.i64.wrap (l+1))) (h:=?_))
    have e:QYd c.clock d l r=⟨(QHX c.clock d r).1,IntKind.i64.wrap (l+1),true⟩:=by unfold QYd;simp only;rw[Wb f,Wb h0]
    rw[e];exact QAK [GwB g (c.withLost (IntKind.i64.wrap (l+1))) os,QA7 c.dev c.log c.idx (QHX c.clock d r).1] (QAD ⟨rfl,rfl⟩)
   ·have h0:(QHX c.clock d r).2=0:=Si h
    have e:QYd c.clock d l r=⟨(QHX c.clock d r).1,l,true⟩:=by unfold QYd;simp only;rw[Wb f,We h0]
    rw[e];exact QAK [GwB g (c.withLost l) os,QA7 c.dev c.log c.idx (QHX c.clock d r).1] (QAD ⟨rfl,rfl⟩)
  ·rintro _ ⟨he,rfl⟩
   have e:QYd c.clock d l r=⟨(QHX c.clock d r).1,l,false⟩:=by unfold QYd;simp only;rw[We he]
   rw[e];exact QBK (QAK [GwB g (c.withLost l) os,QA7 c.dev c.log c.idx (QHX c.clock d r).1] (QTr ⟨rfl,rfl⟩))
 unfold QBi at a;refine QAL fun b=>xgq ?_;refine QAV (fun(x:Bool) As'=>(x=true↔(r.kind=1\/r.kind=2))/\As'=[Blk b r.cells,GwB g c os,QA7 c.dev c.log c.idx k]) (fun K n=>?_) ?_
 ·exact xif (fun e=>n _ _ ⟨⟨fun _=>.inl (eq_of_beq e),fun _=>rfl⟩,rfl⟩) (fun e=>QAh (h:=n _ _ ⟨by have:=Wv e;rw[Zq];omega,rfl⟩))
 rintro x _ ⟨hx,rfl⟩;refine QAM (xif (fun h=>?_) (fun h=>?_))
 ·rw[We (hx.1 h)]at a;refine xgf (h:=QG8 2 fun D=>?_);refine xd1 (Qa0 c.dev k.dev) ?_;refine QCh c.dev c.log c.idx k D (QAB (fun i=>?_) (fun i=>?_))
  ·rw[We (show Qfg k.dev<4096 from i)]at a;subst a;refine xgf (h:=xgs (c.withLost (IntKind.i64.wrap (c.lost+1))) (h:=?_));exact QAK [GwB g (c.withLost (IntKind.i64.wrap (c.lost+1))) os,QA7 c.dev c.log c.idx k] (QAD ⟨rfl,rfl⟩)
  ·rw[Wb (show ¬Qfg k.dev<4096 from i)]at a;refine xgf (h:=QAM (QAB (fun hl=>?_) (fun hl=>?_)))
   ·rw[We hl]at a;refine xgf (h:=?_);refine QTq (QXA g c os k ⟨3,0,ByteArray.empty,c.lost,0⟩ (show (0:Nat)<=1000000 by decide)) rdb ?_ ?_
    ·rintro⟨G,_⟩ _ ⟨f,p,rfl⟩;simp only at p a;subst p;rw[Wb f]at a;refine QBK (ca1 (xif (fun h=>?_) (fun h=>?_)))
     ·rw[Wb (Si h)]at a;subst a;refine xgf (h:=xgs (c.withLost (IntKind.i64.wrap (c.lost+1))) (h:=?_));exact QAK [GwB g (c.withLost (IntKind.i64.wrap (c.lost+1))) os,QA7 c.dev c.log c.idx (QHX c.clock k ⟨3,0,ByteArray.empty,c.lost,0⟩).1] (QAD ⟨rfl,rfl⟩)
     ·rw[We (Si h)]at a;refine xgs (c.withLost 0) (h:=?_);exact QAK [GwB g (c.withLost 0) os,QA7 c.dev c.log c.idx (QHX c.clock k ⟨3,0,ByteArray.empty,c.lost,0⟩).1,Blk b r.cells] (last _ 0 b a)
    ·rintro _ ⟨he,rfl⟩;simp only at a;rw[We he]at a;subst a;exact QBK (QAK [GwB g c os,QA7 c.dev c.log c.idx (QHX c.clock k ⟨3,0,ByteArray.empty,c.lost,0⟩).1] (QTr ⟨rfl,rfl⟩))
   ·rw[Wb hl]at a;exact QAK [GwB g c os,QA7 c.dev c.log c.idx k,Blk b r.cells] (last k c.lost b a)
 ·rw[Wb (fun q=>by rw[hx.2 q]at h;cases h)]at a;exact QAK [GwB g c os,QA7 c.dev c.log c.idx k,Blk b r.cells] (last k c.lost b a)
end Go.Cx
namespace Go.Cx.Od
open Go Go.Cf Go.Cx
set_option linter.unusedVariables false
set_option maxRecDepth 100000
variable {B:QBJ}{As F:List HP}{α:Type}
theorem QJh{p:Ac}{m:DM}{g:QBs}(h:QAA p m g):∃b,p=some ⟨b,0,none⟩:=by
 obtain⟨_,b,_,_,h,_⟩:=h;exact⟨b,h⟩
theorem QU6{m:DM}(hi:DInv m)(nm:ByteArray):(QAc m nm).1.length<=16777216:=by
 unfold QAc
 cases e:QAk m.fs nm.toList with
 | false=>simp
 | true=>
  obtain⟨a,_⟩:=QCY (d:=⟨nm,[],0⟩) e;have h1:=QBw a;have f:=hi.used;have h:=hi.room;show (m.fs.getD (QAR m.fs nm.toList) ⟨nm,[],0⟩).b.length<=_;omega
def cmdN:ByteArray:=⟨#[99,109,100]⟩
abbrev JL:=List (Int×Int)
structure JM where
 dead:Bool
 L:JL
def QZH(id:Int):Bool:=decide (1<=id)&&decide (id<=1099511627776)
def QTs(b:Ab):Nat:=beV (QLo b 1)
def QJB(L:JL)(b:Ab):Option JL:=
 if b.length<9 then none
 else if !(QZH (QTs b)) then none
 else if b.getD 0 0=1/\b.length=9/\QB3 L (QTs b)=none/\L.length<1024 then some (L++[((QTs b:Int),-1)])
 else if b.getD 0 0=2/\b.length=10/\(QB3 L (QTs b)).getD 0<0 then some (QMJ L (QTs b) ((b.getD 9 0).toNat:Int))
 else none
def QDs:JL->List Ab->Option JL
 | L,[]=>some L
 | L,b::bs=>match QJB L b with
  | some L'=>QDs L' bs
  | none=>none
def QOD(id code:Int):Ab:=(if code<0 then [1] else [2])++be8 id.toNat++(if code<0 then [] else [UInt8.ofNat code.toNat])
def layJ(m:DM)(p:Ab):DM×Int:=if (QAF m cmdN (QAY p)).2=0 then QA0 (QAF m cmdN (QAY p)).1 cmdN else QAF m cmdN (QAY p)
def mendJ(m:DM)(n len:Nat):DM×Int:=
 if n<len then (if (QBc m cmdN n).2≠0 then QBc m cmdN n else QA0 (QBc m cmdN n).1 cmdN) else QA0 m cmdN
def openJ(m:DM):DM×Int×Option JL:=
 if m.down then (m,10,none)
 else if (QAc m cmdN).2≠0 then (m,0,some [])
 else match QDs [] (QAx (QAc m cmdN).1).1 with
  | none=>(m,30,none)
  | some L=>if (mendJ m (QAx (QAc m cmdN).1).2 (QAc m cmdN).1.length).2=0 then ((mendJ m (QAx (QAc m cmdN).1).2 (QAc m cmdN).1.length).1,0,some L)
   else ((mendJ m (QAx (QAc m cmdN).1).2 (QAc m cmdN).1.length).1,(mendJ m (QAx (QAc m cmdN).1).2 (QAc m cmdN).1.length).2,none)
def laidJ(m:DM)(J:JM)(p:Ab)(L:JL):DM×JM×Int:=
 if (layJ m p).2=0 then ((layJ m p).1,⟨J.dead,L⟩,0) else ((layJ m p).1,⟨decide ((layJ m p).2=10),J.L⟩,(layJ m p).2)
def beginJ(m:DM)(J:JM)(id:Int):DM×JM×Int:=
 if J.dead then (m,J,10)
 else if !(QZH id) then (m,J,3)
 else if (QB3 J.L id).isSome then (m,J,7)
 else if J.L.length>=1024 then (m,J,34)
 else laidJ m J (QOD id (-1)) (J.L++[(id,-1)])
def endJ(m:DM)(J:JM)(id code:Int):DM×JM×Int:=
 if J.dead then (m,J,10)
 else if code<0\/code>255 then (m,J,3)
 else match QB3 J.L id with
  | none=>(m,J,6)
  | some c=>if c>=0 then (m,J,7) else laidJ m J (QOD id code) (QMJ J.L id code)
def stateJ(L:JL)(id:Int):Int×Int:=match QB3 L id with
 | none=>(0,0)
 | some c=>if c<0 then (1,0) else (2,c)
def leftJ(L:JL):Ae:=(L.filter fun p=>decide (p.2<0)).map (·.1)
structure Qev(L:JL):Prop where
 nodup:(L.map (·.1)).Nodup
 ids:∀p∈L,QZH p.1=true
 codes:∀p∈L,-1<=p.2/\p.2<=255
 len:L.length<=1024
theorem QNk{a:Type}:∀{L:List (Int×a)}{k:Int}{v:a},QB3 L k=some v->(k,v)∈L
 | [],_,_,h=>by cases h
 | p::L,k,v,h=>by
  unfold QB3 at h;split at h
  ·rename_i e;subst e
   simp only[Wg]at h;subst h;exact W5 ..
  ·exact Wz _ (QNk h)
theorem QOZ{d:Type}:∀{L:List (Int×d)}{k:Int},QB3 L k=none↔∀p∈L,p.1≠k
 | [],_=>by simp[QB3]
 | p::L,k=>by
  unfold QB3;by_cases e:k=p.1
  ·rw[We e];constructor
   ·intro h;cases h
   ·intro h;exact absurd e.symm (h p (W5 ..))
  ·rw[Wb e,QOZ (L:=L)];constructor
   ·intro h q a;simp only[W7]at a;rcases a with rfl|a
    ·exact fun b=>e b.symm
    ·exact h q a
   ·intro h q a;exact h q (Wz _ a)
theorem QHP{a:Type}:∀{L:List (Int×a)}{k:Int}{v x:a},QB3 L k=some v->(QMJ L k x).map (·.1)=L.map (·.1)
 | [],_,_,_,h=>by cases h
 | p::L,k,v,x,h=>by
  unfold QB3 at h;unfold QMJ;split at h
  ·rename_i e;rw[We e];simp[e]
  ·rename_i e;rw[Wb e];simp[QHP h]
theorem QQH{a:Type}:∀{L:List (Int×a)}{k:Int}{x:a}{p:Int×a},p∈QMJ L k x->p∈L\/p=(k,x)
 | [],_,_,_,h=>by simp[QMJ]at h;exact .inr h
 | q::L,k,x,p,h=>by
  unfold QMJ at h;split at h
  ·simp only[W7]at h|-;rcases h with h|h
   ·exact .inr h
   ·exact .inl (.inr h)
  ·simp only[W7]at h|-;rcases h with h|h
   ·exact .inl (.inl h)
   ·rcases QQH h with h|h
    ·exact .inl (.inr h)
    ·exact .inr h
theorem QcM{a:Type}{L:List (Int×a)}{k:Int}{v x:a}(h:QB3 L k=some v):(QMJ L k x).length=L.length:=by
 have:=Uh List.length (QHP (x:=x) h);simpa using this
theorem Qc6:Qev []:=⟨by simp,by simp,by simp,by simp⟩
theorem QPY{L:JL}(h:Qev L){id:Int}(h1:QB3 L id=none)(f:QZH id=true)(i:L.length<1024):Qev (L++[(id,-1)]):=by
 refine⟨?_,?_,?_,by simp;omega⟩
 ·rw[Uw,List.nodup_append];refine⟨h.nodup,by simp,?_⟩;intro a e b hb;simp only[U9,List.map_nil,Oe]at hb;subst hb;obtain⟨p,d,rfl⟩:=Uz.1 e;exact QOZ.1 h1 p d
 ·intro p d;simp only[W4,Oe]at d;rcases d with d|rfl
  ·exact h.ids p d
  ·exact f
 ·intro p d;simp only[W4,Oe]at d;rcases d with d|rfl
  ·exact h.codes p d
  ·exact⟨Uo _,show (-1:Int)<=255 by decide⟩
theorem QWa{L:JL}(h:Qev L){id v code:Int}(h1:QB3 L id=some v)(b : -1<=code/\code<=255):Qev (QMJ L id code):=by
 refine⟨by rw[QHP h1];exact h.nodup,?_,?_,by rw[QcM h1];exact h.len⟩
 ·intro p a;rcases QQH a with a|rfl
  ·exact h.ids p a
  ·exact h.ids (id,v) (QNk h1)
 ·intro p a;rcases QQH a with a|rfl
  ·exact h.codes p a
  ·exact b
theorem QXK(id code:Int):(QOD id code).length=if code<0 then 9 else 10:=by
 unfold QOD;split<;>simp[QEq]
theorem QfQ{L:JL}(h:(L.map (·.1)).Nodup):leftJ L=((L.map (·.1)).filter fun id=>decide ((QB3 L id).getD 0<0)):=by
 have key:∀(p:Int×Int),p∈L->QB3 L p.1=some p.2:=by
  induction L with
  | nil=>intro p a;cases a
  | cons q L ih=>
   intro p a;simp only[U9,List.nodup_cons]at h;simp only[W7]at a;unfold QB3;rcases a with rfl|a
   ·rw[We rfl]
   ·have b:¬p.1=q.1:=fun e=>h.1 (by rw[<-e];exact List.mem_map_of_mem a);rw[Wb b];exact ih h.2 p a
 unfold leftJ;rw[List.filter_map];congr 1;apply List.filter_congr;intro p a;simp[key p a]
theorem Qi0{s:Sl}{l r m:Nat}{sz:Nat}{K:Sl->WP}(h1:l<=r)(a:r<=m)(b:m<=s.c)(h:Ent B As (K (s.cut l r m sz))):Ent B As (QOx s (l:Int) (r:Int) (m:Int) sz K):=QEi Om Om Om Om h
abbrev QLU(d:Ac)(r:Option Nat)(s:Sl)(dead:Bool):Ad:=[.pointer d,.map r,s.v,.bool dead]
def JObj(d q:Ac)(J:JM):HP:=fun h=>Qev J.L/\∃b r s,q=some ⟨b,0,none⟩/\QBr [Blk b (QLU d r s J.dead),QQl (.I) r J.L,Ar I64 s (J.L.map (·.1))] h
theorem xjo(i:Nat){d q:Ac}{dead:Bool}{L:JL}{F:List HP}[p:Pick i As (JObj d q ⟨dead,L⟩) F]{φ:WP}
  (k:Qev L->∀b r s,q=some ⟨b,0,none⟩->Ent B (Blk b (QLU d r s dead)::QQl (.I) r L::Ar I64 s (L.map (·.1))::F) φ):Ent B As φ:=by
 refine Ent.perm p.perm ?_;intro w e;obtain⟨g,⟨a,c,⟨hi,b,r,s,f,h⟩,j,d,l,m⟩,n,o⟩:=e;exact k hi b r s f w ⟨g,(QAl [_,_,_] F).2 ⟨a,c,h,j,d,l,m⟩,n,o⟩
theorem QBY(d:Ac)(b:Nat)(r:Option Nat)(s:Sl)(dead:Bool){L:JL}{G:List HP}[q:Split [Blk b (QLU d r s dead),QQl (.I) r L,Ar I64 s (L.map (·.1))] As G]{φ:WP}
  (hi:Qev L) (k:Ent B (JObj d (some ⟨b,0,none⟩) ⟨dead,L⟩::G) φ):Ent B As φ:=
 QBO [Blk b (QLU d r s dead),QQl (.I) r L,Ar I64 s (L.map (·.1))] (JObj d (some ⟨b,0,none⟩) ⟨dead,L⟩) (fun g a=>⟨hi,b,r,s,rfl,a⟩) k
theorem Qhn(y:UInt8)(n:Nat)(hn:n<256):((y.toNat:Int) == (n:Int))=decide (y=UInt8.ofNat n):=by
 rw[Oo];simp only[Zq,Wq,Int.natCast_inj];constructor
 ·intro h;apply Z8.1;rw[Ub];omega
 ·intro h;rw[h,Ub];omega
theorem Qe0(m k:Nat):(((m:Nat):Int) == (k:Int))=decide (m=k):=by
 rw[Oo];simp only[Zq,Wq,Int.natCast_inj]
theorem QjB(y:UInt8){n m:Nat}(h:m=n)(o:Option Int):(((((y.toNat:Nat):Int) == 1)&&(((n:Nat):Int) == 9))&&(!o.isSome))=decide (y=1/\m=9/\o=none):=by
 subst h;rw[show (((y.toNat:Nat):Int) == 1)=decide (y=1) from Qhn y 1 Dc,show (((m:Nat):Int) == 9)=decide (m=9) from Qe0 m 9];cases o<;>simp
theorem Qio(y:UInt8){n m:Nat}(h:m=n)(o:Option Int):((((((y.toNat:Nat):Int) == 2)&&(((n:Nat):Int) == 10))&&o.isSome)&&decide (o.getD 0<0))=decide (y=2/\m=10/\o.getD 0<0):=by
 subst h;rw[show (((y.toNat:Nat):Int) == 2)=decide (y=2) from Qhn y 2 Dc,show (((m:Nat):Int) == 10)=decide (m=10) from Qe0 m 10];cases o<;>simp[Bool.and_assoc]
theorem QVw(x:Int):(decide (x<1)||decide (x>1099511627776)) = !(QZH x):=by
 unfold QZH;rw[Oo];simp
def QVy(d q:Ac)(dead:Bool)(L:JL)(xs:Ab):Tup [.bool]->List HP->Prop:=fun t Bs=>
 (t.1=true/\∃a,QJB L xs=some a/\Bs=[JObj d q ⟨dead,a⟩])\/(t.1=false/\QJB L xs=none/\Bs=[])
theorem QHv(d q:Ac)(dead:Bool)(L:JL)(b:Sl)(xs:Ab)(a1:b.n<=b.c) :
  Ct Pr 185 [.pointer q,b.v] .one [.bool] [JObj d q ⟨dead,L⟩] (RAr U8 b xs) (QVy d q dead L xs):=by
 refine sp1 (QEz _ _) fun B u=>?_;have X:Fro B b U8 xs:=⟨u⟩;have hb:=u.1;unfold QEz mf;dsimp only;have p:QJB L xs=none->∀{As:List HP},Ent B As (Ret B (QVy d q dead L xs) (false,())):=fun h _=>QAd (l:=[]) (QAD (.inr ⟨rfl,h,rfl⟩));refine QAB (fun h=>p (by unfold QJB;rw[We Om])) (fun T=>?_);refine Qi0 (l:=1) (r:=9) Om Om (Wt _) ?_;have P:Fro B (b.cut 1 9 b.c 1) U8 (QLo xs 1):=⟨u.cut 1 9 b.c Om Om Om⟩;have Q:=QWe (xs:=xs) (a:=1) Om;have Y:=P.rd.1;refine QBt (fun(n:Nat) (v:Int) (i:Int) As=>∃k:Nat,i=(k:Int)/\v=((beV ((QLo xs 1).take k):Nat):Int)/\n=8 - k/\k<=8/\As=[JObj d q ⟨dead,L⟩]) 8 ⟨0,rfl,rfl,rfl,Om,rfl⟩ ?_;rintro n _ _ _ K ⟨k,rfl,rfl,rfl,V,rfl⟩ N;refine QAB (fun h=>?_) (fun h=>?_)
 ·have y:k<8:=Om
  have hx:=Wa (l:=QLo xs 1) (i:=k) Om;refine QAH (h1:=Om) (h:=fun _ _=>?_);refine QAN hx (h:=QBA Dc ?_);rw[QiH _ _ (QJq Q y),QAE k Om];exact N (8 - (k+1)) _ _ _ Om ⟨k+1,rfl,by rw[QJt hx],rfl,Om,rfl⟩
 have y:k=8:=Om
 subst y;rw[Wn Om,show beV (QLo xs 1)=QTs xs from rfl,QVw];refine xif (fun h=>p ?_) (fun h=>?_)
 ·unfold QJB;rw[Wb Om,We h]
 have z:QZH (QTs xs)=true:=Si h
 have Z:1<=((QTs xs:Nat):Int)/\((QTs xs:Nat):Int)<=1099511627776:=by simpa [QZH]using z
 have R:IntKind.i64.wrap ((QTs xs:Nat):Int)=((QTs xs:Nat):Int):=QAC _ Om Om;rw[R]
 have e:QJB L xs=if xs.getD 0 0=1/\xs.length=9/\QB3 L (QTs xs)=none/\L.length<1024 then some (L++[((QTs xs:Int),-1)])
   else if xs.getD 0 0=2/\xs.length=10/\(QB3 L (QTs xs)).getD 0<0 then some (QMJ L (QTs xs) ((xs.getD 9 0).toNat:Int)) else none:=by
  unfold QJB;rw[Wb Om,Wb (by rw[z];simp)]
 generalize ((QTs xs:Nat):Int)=id at *
 refine xjo 0 fun hi A r s H=>?_;subst H;refine QAO (xgq ?_);refine QdK (.I) ?_;have j:=Wa (l:=xs) (i:=0) Om;have D:=QCw j;generalize xs[0]=G at j D;rw[D]at e;refine QAH (k:=0) (h1:=Om) (h:=fun _ _=>?_);refine QAN j (h:=?_);refine QCl s fun J _=>?_;simp only[O3]at J;rw[QjB G hb];refine QAM (QAB (fun w=>?_) (fun w=>?_))
 ·obtain⟨rfl,O,hn⟩:=w;refine QAO (xgq ?_);refine QAM (QAB (fun f=>?_) (fun f=>?_))
  ·have f:L.length<1024:=Om
   rw[We ⟨rfl,O,hn,f⟩]at e;refine QAO (xgq ?_);refine QiQ (.I) (-1) (h:=?_)
   have S:QMJ L id (-1)=L++[(id,-1)]:=by
    rcases QGD (Value.int .i64) id L 0 with⟨_,_,o⟩|⟨_,_,_,_,o,_⟩
    ·exact o _
    ·rw[hn]at o;cases o
   rw[S];refine QAO (xgq (QAL fun U=>?_));refine QE4 id (hb:=by simp;omega) (h:=fun M=>?_);refine QAO (xsq ?_);rw[show L.map (·.1)++[id]=(L++[(id,(-1:Int))]).map (·.1) by simp];refine QBY d A r M dead (QPY hi hn z f) ?_;exact QAD (.inl ⟨rfl,_,e,rfl⟩)
  ·refine QAH (k:=0) (h1:=Om) (h:=fun _ _=>?_);refine QAN j (h:=QBH rfl (p ?_));rw[e,Wb (fun h=>f (by have:=h.2.2.2;omega)),Wb (fun h=>absurd h.1 Dc)]
 ·rw[Wb (fun h=>w ⟨h.1,h.2.1,h.2.2.1⟩)]at e;refine QAM (QBH rfl ?_);refine QAH (k:=0) (h1:=Om) (h:=fun _ _=>?_);refine QAN j (h:=?_);rw[Qio G hb];refine QAB (fun m=>?_) (fun m=>p (by rw[e,Wb m]));rw[We m]at e;obtain⟨rfl,W,C⟩:=m;have E:=Wa (l:=xs) (i:=9) Om;rw[QCw E]at e;have a0:=(xs[9]'Om).toNat_lt
  generalize xs[9]=t at *
  refine QAP (QAO (xgq ?_));refine QAH (k:=9) (h1:=Om) (h:=fun _ _=>?_);refine QAN E (h:=?_);rw[QAC ((t.toNat:Nat):Int) Om Om];refine QiQ (.I) ((t.toNat:Nat):Int) (h:=?_)
  obtain⟨v,hv⟩:∃v,QB3 L id=some v:=by
   cases hl:QB3 L id with
   | none=>rw[hl]at C;exact absurd C Dc
   | some v=>exact⟨v,rfl⟩
  rw[<-QHP (x:=((t.toNat:Nat):Int)) hv];refine QBY d A r s dead (QWa (code:=((t.toNat:Nat):Int)) hi hv ⟨Om,Om⟩) ?_;exact QAD (.inl ⟨rfl,_,e,rfl⟩)
theorem QTD(kind:UInt8)(id:Int)(p:QZH id=true)(rest:Sl)(ys:Ab)(A:ys.length<=10):Ct Pr 200 [.int .u8 (kind.toNat:Int),.I id,rest.v] .one [.slice] [] (RAr U8 rest ys)
  (fun t Bs=>Bs=[Ar U8 t.1 ([kind]++be8 id.toNat++ys)]):=by
 refine sp1 (QLH _ _ _) fun B d=>?_;have x:Fro B rest U8 ys:=⟨d⟩
 have z:1<=id/\id<=1099511627776:=by simpa [QZH]using p
 unfold QLH mf;dsimp only;refine QAL fun b=>?_;refine QAg (Q:=Ar U8 ⟨some ⟨b,0,none⟩,1,1⟩ [kind]) 0 (fun g e=>⟨[],QAp [kind] 1 rfl rfl e⟩) ?_;refine QBt (fun n s i As=>∃k:Nat,i=56 - 8*(k:Int)/\n=8 - k/\k<=8/\As=[Ar U8 s ([kind]++(be8 id.toNat).take k)]) 8 ⟨0,rfl,rfl,Om,rfl⟩ ?_;rintro n s _ _ K ⟨k,rfl,rfl,w,rfl⟩ f;have j:=QEq id.toNat;refine QAB (fun h=>?_) (fun h=>?_)
 ·have a:k<8:=Om
  refine QBA h (QAL fun q=>?_)
  have l:(2:Int) ^ (min (Int.toNat (56 - 8*(k:Int))) 64)=((256 ^ (7 - k):Nat):Int):=by
   have:∀k:Nat,k<8->(2:Int) ^ (min (Int.toNat (56 - 8*(k:Int))) 64)=((256 ^ (7 - k):Nat):Int):=Dc
   exact this k a
  have m:id=((id.toNat:Nat):Int):=Om
  have o:Int.fdiv id (2 ^ (min (Int.toNat (56 - 8*(k:Int))) 64))=((id.toNat / 256 ^ (7 - k):Nat):Int):=by
   rw[l]
   conv=>lhs;rw[m]
   exact QC7 _ _ _ rfl
  rw[o,QAu];refine QE4 (UInt8.ofNat (id.toNat / 256 ^ (7 - k))) (hb:=by simp;omega) (h:=fun r=>?_);rw[show IntKind.i64.wrap (56 - 8*(k:Int) - 8)=56 - 8*((k+1:Nat):Int) by rw[QAC _ Om Om];omega];refine f (8 - (k+1)) _ _ _ Om ⟨k+1,rfl,rfl,Om,?_⟩;rw[Og,QVb _ a,Wk];rfl
 ·have a:k=8:=Om
  subst a;rw[Wn Om];refine QHU (y:=rest) (hb:=by simp[j];omega) (h:=fun u=>?_);exact QAD rfl
theorem QWG(d q:Ac)(m:DM)(L:JL)(p:Sl)(xs:Ab)(n:xs.length<=1024):Ct Pr 199 [.pointer q,p.v] .one [.I] [JObj d q ⟨false,L⟩,QAA d m] (RAr U8 p xs)
  (fun t Bs=>t.1=(layJ m xs).2/\Bs=[JObj d q ⟨decide ((layJ m xs).2=10),L⟩,QAA d (layJ m xs).1]):=by
 refine sp1 (QFM _ _) fun B k=>?_;have w:Fro B p U8 xs:=⟨k⟩;unfold QFM mf;dsimp only;refine xcl (QDD p xs n) rdb ?_;rintro⟨s,r,_⟩ _ ⟨_,rfl⟩;refine QAz (ca2 ?_);refine xjo 1 fun hi f a b l=>?_;subst l;refine QAO (xgq ?_);refine xcl (QE3 d m cmdN s (QAY xs)) rdb ?_;rintro⟨o,_⟩ _ ⟨h1,rfl⟩;simp only at h1;subst h1;refine QAz (ca1 ?_);refine QAV (fun e As'=>e=(layJ m xs).2/\As'=[QAA d (layJ m xs).1,Blk f (QLU d a b false),QQl (.I) a L,Ar I64 b (L.map (·.1))]) ?_ ?_
 ·intro J i;refine xif (fun h=>?_) (fun h=>?_)
  ·have h:(QAF m cmdN (QAY xs)).2=0:=Si h
   have e:layJ m xs=QA0 (QAF m cmdN (QAY xs)).1 cmdN:=by unfold layJ;rw[We h]
   refine QAO (xgq ?_);refine xcl (QE0 d (QAF m cmdN (QAY xs)).1 cmdN) rdb ?_;rintro⟨u,_⟩ _ ⟨j,rfl⟩;simp only at j;subst j;refine QAz (ca1 ?_);rw[<-e];exact QAK [QAA d (layJ m xs).1,Blk f (QLU d a b false),QQl (.I) a L,Ar I64 b (L.map (·.1))] (i _ _ ⟨rfl,rfl⟩)
  ·have h:¬(QAF m cmdN (QAY xs)).2=0:=Si h
   have e:layJ m xs=QAF m cmdN (QAY xs):=by unfold layJ;rw[Wb h]
   rw[<-e];exact QAK [QAA d (layJ m xs).1,Blk f (QLU d a b false),QQl (.I) a L,Ar I64 b (L.map (·.1))] (i _ _ ⟨rfl,rfl⟩)
 ·rintro _ _ ⟨rfl,rfl⟩;refine QAM (xif (fun h=>?_) (fun h=>?_))
  ·have h:(layJ m xs).2=10:=Si h
   refine QAO (xsq ?_);refine QBY d f a b true hi (QAD ⟨rfl,?_⟩);rw[h];rfl
  ·have h:¬(layJ m xs).2=10:=Si h
   refine QBY d f a b false hi (QAD ⟨rfl,?_⟩);rw[Ze h]
theorem Begin_spec(d q:Ac)(m:DM)(J:JM)(id:Int):Ct Pr 326 [.pointer q,.I id] .one [.I] [JObj d q J,QAA d m] emp
  (fun t Bs=>t.1=(beginJ m J id).2.2/\Bs=[JObj d q (beginJ m J id).2.1,QAA d (beginJ m J id).1]):=by
 refine sp1 (QEC _ _) fun B _=>?_;unfold QEC mf;dsimp only;obtain⟨dead,L⟩:=J;refine xjo 0 fun hi a r s k=>?_;subst k;refine QAO (xgq ?_);refine QdK (.I) ?_;refine QAO (xgq ?_);refine QCl s fun n _=>?_;simp only[O3]at n;refine xif (fun b=>?_) (fun b=>?_)
 ·have b:dead=true:=b
  have e:beginJ m ⟨dead,L⟩ id=(m,⟨dead,L⟩,10):=by unfold beginJ;rw[We b]
  rw[e];exact QBY d a r s dead hi (QAD ⟨rfl,rfl⟩)
 have b:dead=false:=Si b
 subst b;rw[QVw];refine xif (fun f=>?_) (fun f=>?_)
 ·have e:beginJ m ⟨false,L⟩ id=(m,⟨false,L⟩,3):=by unfold beginJ;rw[Wb (by simp),We f]
  rw[e];exact QBY d a r s false hi (QAD ⟨rfl,rfl⟩)
 have l:QZH id=true:=Si f
 refine xif (fun i=>?_) (fun i=>?_)
 ·have e:beginJ m ⟨false,L⟩ id=(m,⟨false,L⟩,7):=by unfold beginJ;rw[Wb (by simp),Wb (Si f),We i]
  rw[e];exact QBY d a r s false hi (QAD ⟨rfl,rfl⟩)
 have hn:QB3 L id=none:=Si i
 refine QAO (xgq ?_);refine QAB (fun hl=>?_) (fun hl=>?_)
 ·have e:beginJ m ⟨false,L⟩ id=(m,⟨false,L⟩,34):=by unfold beginJ;rw[Wb (by simp),Wb (Si f),Wb (Si i),We (by simp only;omega)]
  rw[e];exact QBY d a r s false hi (QAD ⟨rfl,rfl⟩)
 have hl:L.length<1024:=Om
 have e:beginJ m ⟨false,L⟩ id=laidJ m ⟨false,L⟩ (QOD id (-1)) (L++[(id,-1)]):=by unfold beginJ;rw[Wb (by simp),Wb (Si f),Wb (Si i),Wb (by simp only;omega)]
 rw[e];refine QAf U8 ?_;refine xcl (QTD 1 id l ⟨none,0,0⟩ [] Dc) rdb ?_;rintro⟨p,_⟩ _ rfl;refine QAz (ca1 ?_);rw[show [(1:UInt8)]++be8 id.toNat++[]=QOD id (-1) from rfl];refine QBY d a r s false hi ?_;refine xcl (QWG d (some ⟨a,0,none⟩) m L p (QOD id (-1)) (by rw[QXK];decide)) rdb ?_;rintro⟨x,_⟩ _ ⟨h1,rfl⟩;simp only at h1;subst h1;refine QBK (ca1 ?_);refine xif (fun h=>?_) (fun h=>?_)
 ·have h:¬(layJ m (QOD id (-1))).2=0:=Si h
  unfold laidJ;rw[Wb h];exact QAK [JObj d (some ⟨a,0,none⟩) ⟨decide ((layJ m (QOD id (-1))).2=10),L⟩,QAA d (layJ m (QOD id (-1))).1] (QAD ⟨rfl,rfl⟩)
 ·have h:(layJ m (QOD id (-1))).2=0:=Si h
  unfold laidJ;rw[We h,h];refine xjo 0 fun hi v r s k=>?_;cases k;refine QAO (xgq ?_);refine QiQ (.I) (-1) (h:=?_)
  have u:QMJ L id (-1)=L++[(id,-1)]:=by
   rcases QGD (Value.int .i64) id L 0 with⟨_,_,j⟩|⟨_,_,_,_,j,_⟩
   ·exact j _
   ·rw[hn]at j;cases j
  rw[u];refine QAO (xgq (QAL fun w=>?_));refine QE4 id (hb:=by simp;omega) (h:=fun o=>?_);refine QAO (xsq ?_);rw[show L.map (·.1)++[id]=(L++[(id,(-1:Int))]).map (·.1) by simp];refine QBY d a r o (decide ((0:Int)=10)) (QPY hi hn l hl) ?_;exact QAK [JObj d (some ⟨a,0,none⟩) ⟨decide ((0:Int)=10),L++[(id,-1)]⟩,QAA d (layJ m (QOD id (-1))).1] (QAD ⟨rfl,rfl⟩)
theorem End_spec(d q:Ac)(m:DM)(J:JM)(id code:Int):Ct Pr 130 [.pointer q,.I id,.I code] .one [.I] [JObj d q J,QAA d m] emp
  (fun t Bs=>t.1=(endJ m J id code).2.2/\Bs=[JObj d q (endJ m J id code).2.1,QAA d (endJ m J id code).1]):=by
 refine sp1 (QFS _ _ _) fun B _=>?_;unfold QFS mf;dsimp only;obtain⟨dead,L⟩:=J;refine xjo 0 fun hi a r s j=>?_;subst j;refine QAO (xgq ?_);refine QdK (.I) ?_;refine QAO (xgq ?_);refine xif (fun f=>?_) (fun f=>?_)
 ·have f:dead=true:=f
  have e:endJ m ⟨dead,L⟩ id code=(m,⟨dead,L⟩,10):=by unfold endJ;rw[We f]
  rw[e];exact QBY d a r s dead hi (QAD ⟨rfl,rfl⟩)
 have f:dead=false:=Si f
 subst f;refine xif (fun i=>?_) (fun i=>?_)
 ·have e:endJ m ⟨false,L⟩ id code=(m,⟨false,L⟩,3):=by unfold endJ;rw[Wb (by simp),We (Si i)]
  rw[e];exact QBY d a r s false hi (QAD ⟨rfl,rfl⟩)
 have i:¬(code<0\/code>255):=Si i
 refine xif (fun k=>?_) (fun k=>?_)
 ·have hn:QB3 L id=none:=Si k
  have e:endJ m ⟨false,L⟩ id code=(m,⟨false,L⟩,6):=by unfold endJ;rw[Wb (by simp),Wb i];simp only[hn]
  rw[e];exact QBY d a r s false hi (QAD ⟨rfl,rfl⟩)
 obtain⟨c,hc⟩:∃c,QB3 L id=some c:=O5.1 (Si k);have o:QZH id=true:=hi.ids _ (QNk hc);rw[hc];refine QAB (fun hl=>?_) (fun hl=>?_)
 ·have hl:c>=0:=hl
  have e:endJ m ⟨false,L⟩ id code=(m,⟨false,L⟩,7):=by unfold endJ;rw[Wb (by simp),Wb i];simp only[hc];rw[We hl]
  rw[e];exact QBY d a r s false hi (QAD ⟨rfl,rfl⟩)
 have hl:¬c>=0:=hl
 have e:endJ m ⟨false,L⟩ id code=laidJ m ⟨false,L⟩ (QOD id code) (QMJ L id code):=by unfold endJ;rw[Wb (by simp),Wb i];simp only[hc];rw[Wb hl]
 rw[e]
 have p:IntKind.u8.wrap code=((UInt8.ofNat code.toNat).toNat:Int):=by
  have:=QAu code.toNat
  rwa [show ((code.toNat:Nat):Int)=code by omega]at this
 rw[p];refine QAL fun b=>?_;refine QAg (Q:=Ar U8 ⟨some ⟨b,0,none⟩,1,1⟩ [UInt8.ofNat code.toNat]) 0 (fun g l=>⟨[],QAp [UInt8.ofNat code.toNat] 1 rfl rfl l⟩) ?_;refine xcl (QTD 2 id o ⟨some ⟨b,0,none⟩,1,1⟩ [UInt8.ofNat code.toNat] (by simp)) rdb ?_;rintro⟨n,_⟩ _ rfl;refine QAz (ca1 ?_)
 have u:[(2:UInt8)]++be8 id.toNat++[UInt8.ofNat code.toNat]=QOD id code:=by unfold QOD;rw[Wb Om,Wb Om]
 rw[u];refine QBY d a r s false hi ?_;refine xcl (QWG d (some ⟨a,0,none⟩) m L n (QOD id code) (by rw[QXK];split<;>decide)) rdb ?_;rintro⟨w,_⟩ _ ⟨h1,rfl⟩;simp only at h1;subst h1;refine QBK (ca1 ?_);refine xif (fun h=>?_) (fun h=>?_)
 ·have h:¬(layJ m (QOD id code)).2=0:=Si h
  unfold laidJ;rw[Wb h];exact QAK [JObj d (some ⟨a,0,none⟩) ⟨decide ((layJ m (QOD id code)).2=10),L⟩,QAA d (layJ m (QOD id code)).1] (QAD ⟨rfl,rfl⟩)
 ·have h:(layJ m (QOD id code)).2=0:=Si h
  unfold laidJ;rw[We h,h];refine xjo 0 fun hi v r s j=>?_;cases j;refine QAO (xgq ?_);refine QiQ (.I) code (h:=?_);rw[<-QHP (x:=code) hc];refine QBY d a r s (decide ((0:Int)=10)) (QWa (code:=code) hi hc ⟨Om,Om⟩) ?_;exact QAK [JObj d (some ⟨a,0,none⟩) ⟨decide ((0:Int)=10),QMJ L id code⟩,QAA d (layJ m (QOD id code)).1] (QAD ⟨rfl,rfl⟩)
theorem State_spec(d q:Ac)(J:JM)(id:Int):Ct Pr 343 [.pointer q,.I id] (.tup [none,none]) [.I,.I] [JObj d q J] emp
  (fun t Bs=>t.1=(stateJ J.L id).1/\t.2.1=(stateJ J.L id).2/\Bs=[JObj d q J]):=by
 refine sp2 (QEE _ _) fun B _=>?_;unfold QEE mf;dsimp only;obtain⟨dead,L⟩:=J;refine xjo 0 fun hi a r s b=>?_;subst b;refine QAO (xgq ?_);refine QdK (.I) ?_;unfold stateJ
 cases hl:QB3 L id with
 | none=>exact QCC rfl (QBY d a r s dead hi (QAD ⟨rfl,rfl,rfl⟩))
 | some c=>
  refine QBH rfl (QAB (fun h=>?_) (fun h=>?_))
  ·have h:c<0:=h;simp only[h,O7];exact QBY d a r s dead hi (QAD ⟨rfl,rfl,rfl⟩)
  ·have h:¬c<0:=h;simp only[h,Oa];exact QBY d a r s dead hi (QAD ⟨rfl,rfl,rfl⟩)
theorem Left_spec(d q:Ac)(J:JM):Ct Pr 128 [.pointer q] .one [.slice] [JObj d q J] emp
  (fun t Bs=>Bs=[JObj d q J,Ar I64 t.1 (leftJ J.L)]):=by
 refine QG9 QHp fun B _=>?_;unfold QE9;obtain⟨dead,L⟩:=J;refine xjo 0 fun hi f r s m=>?_;subst m;have v:=hi.len;refine QAO (xgq ?_);refine QCl s fun o _=>?_;simp only[O3]at o;refine QAf I64 ?_;refine QBt (fun n l i As=>∃k:Nat,i=(k:Int)/\n=L.length - k/\k<=L.length/\As=[Ar I64 l (((L.map (·.1)).take k).filter fun id=>decide ((QB3 L id).getD 0<0)),Blk f (QLU d r s dead),QQl (.I) r L,Ar I64 s (L.map (·.1))]) L.length ⟨0,rfl,rfl,Om,rfl⟩ ?_;rintro n l _ _ K ⟨k,rfl,rfl,u,rfl⟩ j;refine QAB (fun h=>?_) (fun h=>?_)
 ·have hx:=Wa (l:=L.map (·.1)) (i:=k) (by simp;omega)
  have e:(L.map (·.1)).take (k+1)=(L.map (·.1)).take k++[(L.map (·.1))[k]'(by simp;omega)]:=by rw[Og,hx];rfl
  generalize (L.map (·.1))[k]'(by simp;omega)=id at hx e
  have w:(((L.map (·.1)).take k).filter fun id=>decide ((QB3 L id).getD 0<0)).length<=k:=by
   have:=Kd (fun id=>decide ((QB3 L id).getD 0<0)) ((L.map (·.1)).take k);simp at this|-;omega
  refine QAH (h1:=by simp;omega) (h:=fun _ _=>?_);refine QAN hx (h:=?_);refine QAO (xgq ?_);refine Qhm (.I) ?_;refine QAM (QAB (fun a=>?_) (fun a=>?_))
  ·refine QAL fun b=>?_;refine QE4 id (hb:=Om) (h:=fun p=>?_);rw[QAE k Om];refine j (L.length - (k+1)) _ _ _ Om ⟨k+1,rfl,rfl,Om,?_⟩;rw[e,Kx,Za (Si a)];rfl
  ·rw[QAE k Om];refine j (L.length - (k+1)) _ _ _ Om ⟨k+1,rfl,rfl,Om,?_⟩;rw[e,Kx,Zx (Si a)];simp
 ·have x:k=L.length:=Om
  rw[Wn (by simp;omega),<-QfQ hi.nodup];exact QBY d f r s dead hi (QAD rfl)
theorem QMk:∀(xs ys:List Ab) (L:JL),QDs L (xs++ys)=match QDs L xs with|some L'=>QDs L' ys|none=>none
 | [],_,_=>rfl
 | b::xs,ys,L=>by
  show (match QJB L b with|some L'=>QDs L' (xs++ys)|none=>none)=_;show _=(match (match QJB L b with|some L'=>QDs L' xs|none=>none) with|some L'=>QDs L' ys|none=>none)
  cases QJB L b with
  | none=>rfl
  | some L'=>exact QMk xs ys L'
theorem QYS{d:List Ab}{k:Nat}{L a:JL}{b:Ab}(h1:QDs [] (d.take k)=some L)(e:d[k]? = some b)(f:QJB L b=some a):QDs [] (d.take (k+1))=some a:=by
 rw[Og,e,QMk,h1];show (match QJB L b with|some a=>some a|none=>none)=_;rw[f]
theorem QXy{a:List Ab}{k:Nat}{L:JL}{b:Ab}(h1:QDs [] (a.take k)=some L)(d:a[k]? = some b)(h:QJB L b=none):QDs [] a=none:=by
 rw[<-Wu k a,QMk,h1];have f:=(Wc.1 d).1
 have e:a.drop k=b::a.drop (k+1):=by
  rw[Ws f];rw[Wa f]at d;cases d;rfl
 rw[e];show (match QJB L b with|some L'=>QDs L' (a.drop (k+1))|none=>none)=_;rw[h]
theorem QaX{m:DM}(h:m.down=true):openJ m=(m,10,none):=by unfold openJ;rw[We h]
theorem Qbw{m:DM}(h:m.down=false)(a:(QAc m cmdN).2≠0):openJ m=(m,0,some []):=by unfold openJ;rw[Wb (by rw[h];simp),We a]
theorem Qd9{m:DM}(h:m.down=false)(a:(QAc m cmdN).2=0)(b:QDs [] (QAx (QAc m cmdN).1).1=none):openJ m=(m,30,none):=by
 unfold openJ;rw[Wb (by rw[h];simp),Wb (by rw[a];simp)];simp only[b]
theorem Qf0{m:DM}(h:m.down=false)(a:(QAc m cmdN).2=0){L:JL}(b:QDs [] (QAx (QAc m cmdN).1).1=some L) :
  openJ m=if (mendJ m (QAx (QAc m cmdN).1).2 (QAc m cmdN).1.length).2=0 then ((mendJ m (QAx (QAc m cmdN).1).2 (QAc m cmdN).1.length).1,0,some L)
   else ((mendJ m (QAx (QAc m cmdN).1).2 (QAc m cmdN).1.length).1,(mendJ m (QAx (QAc m cmdN).1).2 (QAc m cmdN).1.length).2,none):=by
 unfold openJ;rw[Wb (by rw[h];simp),Wb (by rw[a];simp)];simp only[b]
def openPost(p:Ac)(m:DM):Tup [.ptr,.I]->List HP->Prop:=fun t Bs=>
 (∃L,(openJ m).2.2=some L/\t.2.1=0/\Bs=[QAA p (openJ m).1,JObj p t.1 ⟨false,L⟩])\/((openJ m).2.2=none/\t.1=none/\t.2.1=(openJ m).2.1/\Bs=[QAA p (openJ m).1])
theorem Open_spec(p:Ac)(m:DM):Ct Pr 118 [.pointer p] (.tup [none,none]) [.ptr,.I] [QAA p m] emp (openPost p m):=by
 refine sp2 (QNd _) fun B _=>?_;unfold QNd mf;dsimp only;refine QB6 0 (fun g j=>(⟨j.1,QJh j⟩:DInv m/\∃b,p=some ⟨b,0,none⟩)) fun hi=>?_;obtain⟨hi,a,rfl⟩:=hi;have T:=QU6 hi cmdN;refine QAO ?_;refine xcl (QJW (some ⟨a,0,none⟩) m) rdb ?_;rintro⟨c,_⟩ _ ⟨hc,rfl⟩;simp only at hc;subst hc;refine QAz (ca1 (xif (fun q=>?_) (fun q=>?_)))
 ·have e:=QaX q;exact QAD (.inr ⟨by rw[e],rfl,by rw[e],by rw[e]⟩)
 refine QkF (.I) fun C=>?_;refine QAL fun b=>?_;refine QAf I64 ?_;refine QBO [Blk b [.pointer (some ⟨a,0,none⟩),.map (some C),.slice none 0 0,.bool false],QQl (.I) (some C) [],Ar I64 ⟨none,0,0⟩ []] (JObj (some ⟨a,0,none⟩) (some ⟨b,0,none⟩) ⟨false,[]⟩) (fun g j=>⟨Qc6,b,some C,⟨none,0,0⟩,rfl,j⟩) ?_;refine xcl (QKL (some ⟨a,0,none⟩) m cmdN) rdb ?_;rintro⟨s,r,_⟩ _ ⟨H,rfl⟩;simp only at H;subst H;refine QBK (ca2 (xif (fun d=>?_) (fun d=>?_)))
 ·have d:(QAc m cmdN).2≠0:=Si d
  have e:=Qbw q d;refine QAK [QAA (some ⟨a,0,none⟩) m,JObj (some ⟨a,0,none⟩) (some ⟨b,0,none⟩) ⟨false,[]⟩] (QAD (.inl ⟨[],by rw[e],rfl,by rw[e]⟩))
 have d:(QAc m cmdN).2=0:=Si d
 refine QCl s fun G N=>?_
 replace G:(QAc m cmdN).1.length=s.n:=G
 refine xcl (QSr s (QAc m cmdN).1 T N) rdb ?_;rintro⟨z,a0,_⟩ _ ⟨t,rs,rfl⟩;simp only at t;subst t;refine QBK (ca2 ?_);have U:=Qd9 q d;have V:=fun {L}(h:QDs [] (QAx (QAc m cmdN).1).1=some L)=>Qf0 q d h;have a3:=(QJ0 _ (QAc m cmdN).1 (Wt _)).2.1;have a4:=QL2 (QAc m cmdN).1
 generalize a5:(QAc m cmdN).1=w at *
 generalize a6:(QAx w).1=f at *
 generalize (QAx w).2=u at *
 refine QCl z fun Y _=>?_;refine QB6 1 (fun g j=>Each.length j) fun Z=>?_;refine QAK [QAA (some ⟨a,0,none⟩) m,JObj (some ⟨a,0,none⟩) (some ⟨b,0,none⟩) ⟨false,[]⟩,Ar SL z rs,Each (Ar U8) rs f] ?_;refine QBa (fun n i As=>∃(k:Nat) (L:JL),i=(k:Int)/\n=f.length - k/\k<=f.length/\QDs [] (f.take k)=some L/\As=[QAA (some ⟨a,0,none⟩) m,JObj (some ⟨a,0,none⟩) (some ⟨b,0,none⟩) ⟨false,L⟩,Ar SL z rs,Each (Ar U8) rs f]) f.length ⟨0,[],rfl,rfl,Om,rfl,?_⟩ ?_
 ·exact rfl
 rintro n _ _ K ⟨k,L,rfl,rfl,a1,A,rfl⟩ Q;refine QAB (fun h=>?_) (fun h=>?_)
 ·have hx:=Wa (l:=rs) (i:=k) Om;have v:=Wa (l:=f) (i:=k) Om;generalize rs[k]=o at hx;generalize f[k]=x at v;refine QAH (h1:=Om) (h:=fun _ _=>?_);refine QAN hx (h:=?_);refine QB6 3 (fun g j=>QD0 (R:=Ar U8) (S:=fun o x (_:QBs)=>o.n<=o.c) (fun _ _ _ _ h _=>h) (fun _ _ _ h=>by obtain⟨_,h⟩:=h;exact h.cap) j hx v) fun O=>?_;refine xcl (QHv (some ⟨a,0,none⟩) (some ⟨b,0,none⟩) false L o x O) (QL3 2 (fun g j=>QD0 (R:=Ar U8) (S:=fun o x=>RAr U8 o x) (fun _ _ _ _ h s=>h.mono s) (fun _ _ _ h=>h.read) j hx v) (fun _ _ h s=>h.mono s)) ?_;rintro⟨c,_⟩ _ (⟨hc,J,E,rfl⟩|⟨hc,E,rfl⟩)
  ·obtain rfl:c=true:=hc;refine QAz (ca1 (QBH rfl ?_));rw[QAE k Om];exact QAK [QAA (some ⟨a,0,none⟩) m,JObj (some ⟨a,0,none⟩) (some ⟨b,0,none⟩) ⟨false,J⟩,Ar SL z rs,Each (Ar U8) rs f] (Q (f.length - (k+1)) _ _ Om ⟨k+1,J,rfl,rfl,Om,QYS A v E,rfl⟩)
  ·obtain rfl:c=false:=hc;have e:=U (QXy A v E);exact QA2 (ca1 (QCC rfl (QAK [QAA (some ⟨a,0,none⟩) m] (QAD (.inr ⟨by rw[e],rfl,by rw[e],by rw[e]⟩)))))
 have W:k=f.length:=Om
 subst W;rw[Wn (Wt _)]at A;have e:=V A;refine QAK [QAA (some ⟨a,0,none⟩) m,JObj (some ⟨a,0,none⟩) (some ⟨b,0,none⟩) ⟨false,L⟩] ?_
 have M:∀m':DM,(mendJ m u w.length=QA0 m' cmdN)->Ent B [QAA (some ⟨a,0,none⟩) m',JObj (some ⟨a,0,none⟩) (some ⟨b,0,none⟩) ⟨false,L⟩] (QAX Pr 178 [.pointer (some ⟨a,0,none⟩),.string cmdN] .one [.I] fun D=>XIf (D != 0) (Ret B (openPost (some ⟨a,0,none⟩) m) (none,D,())) (Ret B (openPost (some ⟨a,0,none⟩) m) (some ⟨b,0,none⟩,0,()))):=by
  intro m' P;rw[P]at e;refine xcl (QE0 (some ⟨a,0,none⟩) m' cmdN) rdb ?_;rintro⟨D,_⟩ _ ⟨t,rfl⟩;simp only at t;subst t;refine QAz (ca1 (xif (fun h=>?_) (fun h=>?_)))
  ·have h:¬(QA0 m' cmdN).2=0:=Si h
   rw[Wb h]at e;exact QAK [QAA (some ⟨a,0,none⟩) (QA0 m' cmdN).1] (QAD (.inr ⟨by rw[e],rfl,by rw[e],by rw[e]⟩))
  ·have h:(QA0 m' cmdN).2=0:=Si h
   rw[We h]at e;exact QAD (.inl ⟨L,by rw[e],rfl,by rw[e]⟩)
 refine QAM (QAB (fun y=>?_) (fun y=>?_))
 ·have y:u<w.length:=Om
  refine xcl (QJy (some ⟨a,0,none⟩) m cmdN (u:Int)) rdb ?_;rintro⟨a2,_⟩ _ ⟨d,rfl⟩;simp only at d;subst d;refine QAz (ca1 (xif (fun h=>?_) (fun h=>?_)))
  ·have h:(QBc m cmdN u).2≠0:=Si h
   have X:mendJ m u w.length=QBc m cmdN u:=by unfold mendJ;rw[We y,We h]
   rw[X,Wb h]at e;exact QAK [QAA (some ⟨a,0,none⟩) (QBc m cmdN u).1] (QAD (.inr ⟨by rw[e],rfl,by rw[e],by rw[e]⟩))
  ·have h:¬(QBc m cmdN u).2≠0:=Si h
   exact M _ (by unfold mendJ;rw[We y,Wb h])
 ·exact M _ (by unfold mendJ;rw[Wb Om])
end Go.Cx.Od
namespace Go.Cx.Csr
open Go Go.Cf Go.Cx
set_option linter.unusedVariables false
set_option maxRecDepth 100000
variable {B:QBJ}{As F:List HP}{α:Type}
theorem QJh{p:Ac}{m:DM}{g:QBs}(h:QAA p m g):∃b,p=some ⟨b,0,none⟩:=by
 obtain⟨_,b,_,_,h,_⟩:=h;exact⟨b,h⟩
theorem QU6{m:DM}(hi:DInv m)(nm:ByteArray):(QAc m nm).1.length<=16777216:=by
 unfold QAc
 cases e:QAk m.fs nm.toList with
 | false=>simp
 | true=>
  obtain⟨a,_⟩:=QCY (d:=⟨nm,[],0⟩) e;have h1:=QBw a;have f:=hi.used;have h:=hi.room;show (m.fs.getD (QAR m.fs nm.toList) ⟨nm,[],0⟩).b.length<=_;omega
theorem QOW(c:Cu):Ct Pr 189 [c.v] .agg [.I,.I,.I] [] emp (fun t Bs=>t.1=c.a/\t.2.1=c.b/\t.2.2.1=c.c/\Bs=[]):=by
 refine sp3 (QG0 _ _ _) fun B _=>?_;unfold QG0 mf;dsimp only;refine QAL fun b=>QAL fun d=>xgq (xgq (xgq (xsq (xsq (xsq (xgq (xgq (xgq ?_))))))));exact QAd (l:=[]) (QAD ⟨rfl,rfl,rfl,rfl⟩)
theorem QaY(c:Cu):Ct Pr 190 [c.v] .one [.bool] [] emp (fun t Bs=>t.1=QbP c/\Bs=[]):=by
 refine sp1 (QFT _ _ _) fun B _=>?_;unfold QFT mf;dsimp only;refine QAL fun b=>xgq (xgq (xgq (QCD 0 ?_)));refine QBa (fun n i As=>∃k:Nat,i=(k:Int)/\n=3 - k/\k<=3/\(0<k->okN c.a=true)/\(1<k->okN c.b=true)/\(2<k->okN c.c=true)/\As=[]) 3 ⟨0,rfl,rfl,Om,by simp,by simp,by simp,rfl⟩ ?_;rintro n _ _ K ⟨k,rfl,rfl,j,h1,e,f,rfl⟩ d;refine QAB (fun h=>?_) (fun h=>?_)
 ·have:k=0\/k=1\/k=2:=Om
  rcases this with rfl|rfl|rfl
  ·refine QY5 (x:=c.a) rfl Om ?_;rw[show ((decide (c.a<0))||(decide (c.a>1099511627776))) = !(okN c.a) from Qbi c.a];refine xif (fun g=>QAD ⟨?_,rfl⟩) (fun g=>?_)
   ·simp at g;simp[QbP,g]
   ·simp at g;exact d 2 _ _ Om ⟨1,rfl,rfl,Om,fun _=>g,fun h=>Om,fun h=>Om,rfl⟩
  ·refine QY5 (x:=c.b) rfl Om ?_;rw[show ((decide (c.b<0))||(decide (c.b>1099511627776))) = !(okN c.b) from Qbi c.b];refine xif (fun g=>QAD ⟨?_,rfl⟩) (fun g=>?_)
   ·simp at g;simp[QbP,g]
   ·simp at g;exact d 1 _ _ Om ⟨2,rfl,rfl,Om,fun _=>h1 Om,fun _=>g,fun h=>Om,rfl⟩
  ·refine QY5 (x:=c.c) rfl Om ?_;rw[show ((decide (c.c<0))||(decide (c.c>1099511627776))) = !(okN c.c) from Qbi c.c];refine xif (fun g=>QAD ⟨?_,rfl⟩) (fun g=>?_)
   ·simp at g;simp[QbP,g]
   ·simp at g;exact d 0 _ _ Om ⟨3,rfl,rfl,Om,fun _=>h1 Om,fun _=>e Om,fun _=>g,rfl⟩
 ·refine QAD ⟨?_,rfl⟩;simp[QbP,h1 Om,e Om,f Om]
def curN:ByteArray:=⟨#[99,117,114]⟩
def newCu:ByteArray:=⟨#[99,117,114,46,110,101,119]⟩
def QWg(c:Cu):Nat->Ab
 | 0=>[]
 | 1=>be8 c.a.toNat
 | 2=>be8 c.a.toNat++be8 c.b.toNat
 | _=>be8 c.a.toNat++be8 c.b.toNat++be8 c.c.toNat
abbrev cu3(c:Cu):Ab:=QWg c 3
def fileC(c:Cu):Ab:=QAY (cu3 c)
theorem Qdw(c:Cu):∀k,k<=3->(QWg c k).length=8*k:=by
 intro k a
 have:k=0\/k=1\/k=2\/k=3:=Om
 rcases this with rfl|rfl|rfl|rfl<;>simp[QWg,QEq]
def saveM(m:DM)(c:Cu):DM×Int:=
 if !(QbP c) then (m,3)
 else if (QAJ m newCu).2=10 then ((QAJ m newCu).1,10)
 else if (QAF (QAJ m newCu).1 newCu (fileC c)).2≠0 then QAF (QAJ m newCu).1 newCu (fileC c)
 else if (QA0 (QAF (QAJ m newCu).1 newCu (fileC c)).1 newCu).2≠0 then QA0 (QAF (QAJ m newCu).1 newCu (fileC c)).1 newCu
 else QBp (QA0 (QAF (QAJ m newCu).1 newCu (fileC c)).1 newCu).1 newCu curN
theorem QhP{x:Int}(h:okN x=true):IntKind.u64.wrap x=((x.toNat:Nat):Int)/\x.toNat<18446744073709551616/\((x.toNat:Nat):Int)=x/\x<=1099511627776:=by
 have a:0<=x/\x<=1099511627776:=by simpa [okN]using h
 have e:((x.toNat:Nat):Int)=x:=Om
 refine⟨?_,Om,e,a.2⟩;have:=QLw x.toNat Om;rw[e]at this|-;exact this
theorem Qht{c:Cu}(h:QbP c=true):okN c.a=true/\okN c.b=true/\okN c.c=true:=by simpa [QbP]using h
theorem Save_spec(p:Ac)(m:DM)(c:Cu):Ct Pr 120 [.pointer p,c.v] .one [.I] [QAA p m] emp (fun t Bs=>t.1=(saveM m c).2/\Bs=[QAA p (saveM m c).1]):=by
 refine sp1 (QMj _ _ _ _) fun B _=>?_;unfold QMj mf;dsimp only;refine QAL fun b=>xgq (xgq (xgq ?_));refine xcl (QOW c) rdb ?_;rintro⟨r,N,O,_⟩ _ ⟨h1,f,j,rfl⟩;simp only at h1 f j;subst h1 f j;refine QA2 (ca3 ?_);refine QAL fun L=>xsq (xsq (xsq (xgq (xgq (xgq ?_)))));refine xcl (QaY c) rdb ?_;rintro⟨g,_⟩ _ ⟨z,rfl⟩;simp only at z;subst z;refine QA2 (ca1 (xif (fun u=>?_) (fun u=>?_)))
 ·have e:saveM m c=(m,3):=by unfold saveM;rw[We u]
  rw[e];exact QAK [QAA p m] (QAD ⟨rfl,rfl⟩)
 have w:QbP c=true:=Si u
 obtain⟨C,hb,hc⟩:=Qht w;refine xcl (QFA p m newCu) rdb ?_;rintro⟨r,_⟩ _ ⟨l,rfl⟩;simp only at l;subst l;refine QAz (ca1 (xif (fun q=>?_) (fun q=>?_)))
 ·have q:(QAJ m newCu).2=10:=Si q
  have e:saveM m c=((QAJ m newCu).1,10):=by unfold saveM;rw[Wb (Si w),We q]
  rw[e];exact QAK [QAA p (QAJ m newCu).1] (QAD ⟨q,rfl⟩)
 have q:¬(QAJ m newCu).2=10:=Si q
 have e:saveM m c=if (QAF (QAJ m newCu).1 newCu (fileC c)).2≠0 then QAF (QAJ m newCu).1 newCu (fileC c)
   else if (QA0 (QAF (QAJ m newCu).1 newCu (fileC c)).1 newCu).2≠0 then QA0 (QAF (QAJ m newCu).1 newCu (fileC c)).1 newCu
   else QBp (QA0 (QAF (QAJ m newCu).1 newCu (fileC c)).1 newCu).1 newCu curN:=by
  unfold saveM;rw[Wb (Si w),Wb q]
 rw[e];generalize (QAJ m newCu).1=d;refine xgq (xgq (xgq (QAf U8 ?_)));refine QAK [Ar U8 ⟨none,0,0⟩ [],QAA p d] ?_;refine QBt (fun n o i As=>∃k:Nat,i=(k:Int)/\n=3 - k/\k<=3/\As=[Ar U8 o (QWg c k),QAA p d]) 3 ⟨0,rfl,rfl,Om,rfl⟩ ?_;rintro n o _ _ K ⟨k,rfl,rfl,D,rfl⟩ E;have P:=Qdw c k D;refine QAB (fun h=>?_) (fun h=>?_)
 ·have y:∀x:Int,okN x=true->QWg c (k+1)=QWg c k++be8 x.toNat->Ent B [Ar U8 o (QWg c k),QAA p d] (QAX Pr 191 [o.v,.int .u64 (IntKind.u64.wrap x),.I 8] (.tup [none,none]) [.slice,.I] fun s M=>K s (IntKind.i64.wrap ((k:Int)+1))):=by
   intro x hx A;obtain⟨G,H,_,_⟩:=QhP hx;rw[G];refine xcl (QDx o (QWg c k) x.toNat H Om) rdb ?_;rintro⟨s,r,_⟩ _ ⟨_,rfl⟩;refine QAz (ca2 ?_);rw[QAE k Om,<-A];exact QAK [Ar U8 s (QWg c (k+1)),QAA p d] (E (3 - (k+1)) _ _ _ Om ⟨k+1,rfl,rfl,Om,rfl⟩)
  have:k=0\/k=1\/k=2:=Om
  rcases this with rfl|rfl|rfl
  ·refine QY5 (x:=c.a) rfl Om ?_;exact y c.a C (by simp[QWg])
  ·refine QY5 (x:=c.b) rfl Om ?_;exact y c.b hb (by simp[QWg])
  ·refine QY5 (x:=c.c) rfl Om ?_;exact y c.c hc (by simp[QWg])
 have J:k=3:=Om
 subst J;refine xcl (QDD o (QWg c 3) Om) rdb ?_;rintro⟨s,r,_⟩ _ ⟨_,rfl⟩;refine QAz (ca2 ?_);rw[show QAY (QWg c 3)=fileC c from rfl];refine xcl (QE3 p d newCu s (fileC c)) rdb ?_;rintro⟨r,_⟩ _ ⟨l,rfl⟩;simp only at l;subst l;refine QAz (ca1 (xif (fun f=>?_) (fun f=>?_)))
 ·have f:(QAF d newCu (fileC c)).2≠0:=Si f
  rw[We f];exact QAK [QAA p (QAF d newCu (fileC c)).1] (QAD ⟨rfl,rfl⟩)
 have f:¬(QAF d newCu (fileC c)).2≠0:=Si f
 rw[Wb f];refine xcl (QE0 p (QAF d newCu (fileC c)).1 newCu) rdb ?_;rintro⟨r,_⟩ _ ⟨l,rfl⟩;simp only at l;subst l;refine QAz (ca1 (xif (fun j=>?_) (fun j=>?_)))
 ·have j:(QA0 (QAF d newCu (fileC c)).1 newCu).2≠0:=Si j
  rw[We j];exact QAK [QAA p (QA0 (QAF d newCu (fileC c)).1 newCu).1] (QAD ⟨rfl,rfl⟩)
 have j:¬(QA0 (QAF d newCu (fileC c)).1 newCu).2≠0:=Si j
 rw[Wb j];refine xcl (QIo p (QA0 (QAF d newCu (fileC c)).1 newCu).1 newCu curN) rdb ?_;rintro⟨r,_⟩ _ ⟨l,rfl⟩;exact QAz (ca1 (QAK [QAA p (QBp (QA0 (QAF d newCu (fileC c)).1 newCu).1 newCu curN).1] (QAD ⟨l,rfl⟩)))
abbrev cu0:Cu:=⟨0,0,0⟩
def QOv(p:Ab)(k:Nat):Nat:=beV (QLo p (8*k))
def decodeC(b:Ab):Cu×Int:=
 if (QBX b).2.2≠0\/(QBX b).2.1≠b.length\/(QBX b).1.length≠24 then (cu0,30)
 else if QOv (QBX b).1 0>1099511627776\/QOv (QBX b).1 1>1099511627776\/QOv (QBX b).1 2>1099511627776 then (cu0,30)
 else (⟨QOv (QBX b).1 0,QOv (QBX b).1 1,QOv (QBX b).1 2⟩,0)
def loadM(m:DM):Cu×Int:=
 if m.down then (cu0,10)
 else if (QAc m curN).2≠0 then (cu0,0)
 else decodeC (QAc m curN).1
theorem Qd4(b:Ab):(QBX b).1.length<=b.length:=by
 unfold QBX;split
 ·simp
 split
 ·simp
 split
 ·simp
 split
 ·simp;omega
 ·simp
theorem Load_spec(p:Ac)(m:DM):Ct Pr 117 [.pointer p] (.tup [some 3,none]) [.I,.I,.I,.I] [QAA p m] emp
  (fun t Bs=>t.1=(loadM m).1.a/\t.2.1=(loadM m).1.b/\t.2.2.1=(loadM m).1.c/\t.2.2.2.1=(loadM m).2/\Bs=[QAA p m]):=by
 refine sp4 (QMw _) fun B _=>?_;unfold QMw mf;dsimp only;refine QB6 0 (fun g w=>(⟨w.1,QJh w⟩:DInv m/\∃b,p=some ⟨b,0,none⟩)) fun hi=>?_;obtain⟨hi,o,rfl⟩:=hi;have a1:=QU6 hi curN;refine QAL fun b=>QAO ?_;refine xcl (QJW (some ⟨o,0,none⟩) m) rdb ?_;rintro⟨c,_⟩ _ ⟨hc,rfl⟩;simp only at hc;subst hc;refine QAz (ca1 (xif (fun x=>?_) (fun x=>?_)))
 ·have e:loadM m=(cu0,10):=by unfold loadM;rw[We x]
  rw[e];refine xsq (xsq (xsq (xgq (xgq (xgq ?_)))));exact QCD 1 (QAD ⟨rfl,rfl,rfl,rfl,rfl⟩)
 refine xcl (QKL (some ⟨o,0,none⟩) m curN) rdb ?_;rintro⟨s,r,_⟩ _ ⟨A,rfl⟩;simp only at A;subst A;refine QBK (ca2 (xif (fun h0=>?_) (fun h0=>?_)))
 ·have h0:(QAc m curN).2≠0:=Si h0
  have e:loadM m=(cu0,0):=by unfold loadM;rw[Wb (by rw[x];simp),We h0]
  rw[e];refine xsq (xsq (xsq (xgq (xgq (xgq ?_)))));exact QAK [QAA (some ⟨o,0,none⟩) m] (QAD ⟨rfl,rfl,rfl,rfl,rfl⟩)
 have h0:¬(QAc m curN).2≠0:=Si h0
 have e:loadM m=decodeC (QAc m curN).1:=by unfold loadM;rw[Wb (by rw[x];simp),Wb h0]
 rw[e]
 generalize (QAc m curN).1=f at *
 refine QCl s fun S E=>?_;refine xcl (QGi s f Om E) rdb ?_;rintro⟨y,U,V,_⟩ _ ⟨C,D,rfl⟩;simp only at C D;subst C D;refine QAz (ca3 (QAL fun u=>?_));have a2:=Qd4 f;refine QCl y fun T G=>?_;refine xif (fun d=>?_) (fun d=>?_)
 ·have d:(QBX f).2.2≠0\/(QBX f).2.1≠f.length\/(QBX f).1.length≠24:=by
   simp only[Oz,On,ne_eq]at d;rcases d with (h|h)|h
   ·exact .inl h
   ·exact .inr (.inl Om)
   ·exact .inr (.inr Om)
  have e:decodeC f=(cu0,30):=by unfold decodeC;rw[We d]
  rw[e];refine xsq (xsq (xsq (xgq (xgq (xgq ?_)))));exact QAK [QAA (some ⟨o,0,none⟩) m] (QAD ⟨rfl,rfl,rfl,rfl,rfl⟩)
 have d:¬((QBX f).2.2≠0\/(QBX f).2.1≠f.length\/(QBX f).1.length≠24):=by
  simp only[O0,K7]at d;obtain⟨⟨h1,W⟩,v⟩:=d;intro h;rcases h with h|h|h
  ·exact h h1
  ·exact h Om
  ·exact h Om
 have e:decodeC f=if QOv (QBX f).1 0>1099511627776\/QOv (QBX f).1 1>1099511627776\/QOv (QBX f).1 2>1099511627776 then (cu0,30) else (⟨QOv (QBX f).1 0,QOv (QBX f).1 1,QOv (QBX f).1 2⟩,0):=by unfold decodeC;rw[Wb d]
 rw[e];have a3:(QBX f).1.length=24:=Li fun h=>d (.inr (.inr h))
 generalize (QBX f).1=q at *
 refine QAg (Q:=Ar I64 ⟨some ⟨u,0,none⟩,3,3⟩ [0,0,0]) 0 (fun g w=>⟨[],QAp [0,0,0] 3 rfl rfl w⟩) ?_;refine QAK [Ar I64 ⟨some ⟨u,0,none⟩,3,3⟩ [0,0,0],Ar U8 y q,Blk b [.I 0,.I 0,.I 0],QAA (some ⟨o,0,none⟩) m] ?_;refine QBa (fun n i As=>∃(k:Nat) (ys:Ae),i=(k:Int)/\n=3 - k/\k<=3/\ys.length=3/\(∀j,j<k->ys[j]? = some ((QOv q j:Nat):Int)/\QOv q j<=1099511627776)/\As=[Ar I64 ⟨some ⟨u,0,none⟩,3,3⟩ ys,Ar U8 y q,Blk b [.I 0,.I 0,.I 0],QAA (some ⟨o,0,none⟩) m]) 3 ⟨0,_,rfl,rfl,Om,rfl,fun j hj=>Om,rfl⟩ ?_;rintro n _ _ K ⟨k,ys,rfl,rfl,X,J,z,rfl⟩ L;refine QAB (fun h=>?_) (fun h=>?_)
 ·rw[show IntKind.i64.wrap (8*(k:Int))=((8*k:Nat):Int) by rw[QAC _ Om Om];omega];refine xcl (QHd y q (8*k) Om Om G) rdb ?_;rintro⟨Y,Z,_⟩ _ ⟨v,_,rfl⟩;simp only at v;rw[show beV (QLo q (8*k))=QOv q k from rfl]at v;subst v;refine QA2 (ca2 (QAB (fun H=>?_) (fun H=>?_)))
  ·have:QOv q 0>1099511627776\/QOv q 1>1099511627776\/QOv q 2>1099511627776:=by
    have:k=0\/k=1\/k=2:=Om
    rcases this with rfl|rfl|rfl
    ·exact .inl Om
    ·exact .inr (.inl Om)
    ·exact .inr (.inr Om)
   rw[We this];refine xsq (xsq (xsq (xgq (xgq (xgq ?_)))));exact QAK [QAA (some ⟨o,0,none⟩) m] (QAD ⟨rfl,rfl,rfl,rfl,rfl⟩)
  ·have P:=Wa (l:=ys) (i:=k) Om;refine QAH (s:=⟨some ⟨u,0,none⟩,3,3⟩) (h1:=Om) (h:=fun _ _=>?_);rw[QAC ((QOv q k:Nat):Int) Om Om,QAE k Om];refine QIJ ((QOv q k:Nat):Int) P (hv:=rfl) (h:=?_);refine L (3 - (k+1)) _ _ Om ⟨k+1,_,rfl,rfl,Om,Si J,fun j hj=>?_,rfl⟩;rcases Zb j k with v|v
   ·rw[Oy Om];exact z j v
   ·obtain rfl:j=k:=Om
    rw[Wy Om];exact⟨rfl,Om⟩
 ·have R:k=3:=Om
  subst R;obtain⟨M,z0⟩:=z 0 Om;obtain⟨N,a0⟩:=z 1 Om;obtain⟨O,z2⟩:=z 2 Om;rw[Wb Om];refine QAH (s:=⟨some ⟨u,0,none⟩,3,3⟩) (k:=0) (h1:=Om) (h:=fun _ _=>?_);refine QAN M (h:=?_);refine QAH (s:=⟨some ⟨u,0,none⟩,3,3⟩) (k:=1) (h1:=Om) (h:=fun _ _=>?_);refine QAN N (h:=?_);refine QAH (s:=⟨some ⟨u,0,none⟩,3,3⟩) (k:=2) (h1:=Om) (h:=fun _ _=>?_);refine QAN O (h:=?_);refine xsq (xsq (xsq (xgq (xgq (xgq ?_)))));exact QAK [QAA (some ⟨o,0,none⟩) m] (QAD ⟨rfl,rfl,rfl,rfl,rfl⟩)
end Go.Cx.Csr
namespace Go.Cx
open Go Go.Cf
set_option linter.unusedVariables false
set_option maxRecDepth 100000
variable {B:QBJ}{As F:List HP}
theorem QZe(n:Int):fK n≠Od.cmdN.toList:=by
 rw[QFi];show preL++_≠(BA [99,109,100]).toList;rw[QCq];intro h;have:=Uh (fun l=>l[0]?) h;simp[preL]at this
theorem QeT(n:Int):fK n≠Csr.curN.toList:=by
 rw[QFi];show preL++_≠(BA [99,117,114]).toList;rw[QCq];intro h;have:=Uh (fun l=>l[0]?) h;simp[preL]at this
theorem QSI(n:Int):fK n≠Csr.newCu.toList:=by
 rw[QFi];show preL++_≠(BA [99,117,114,46,110,101,119]).toList;rw[QCq];intro h;have:=Uh (fun l=>l[0]?) h;simp[preL]at this
theorem QZA{m:DM}(hI:DInv m)(p:Ab):Touch m (Od.layJ m p).1 fun k=>k≠Od.cmdN.toList:=by
 have t:=QDl hI Od.cmdN (QAY p);unfold Od.layJ;split
 ·exact t.trans ((QCF t.inv Od.cmdN).mono fun _ _=>trivial)
 ·exact t
theorem QMf{m:DM}(hI:DInv m)(J:Od.JM)(p:Ab)(L:Od.JL):Touch m (Od.laidJ m J p L).1 fun k=>k≠Od.cmdN.toList:=by
 unfold Od.laidJ;split<;>exact QZA hI p
theorem QY8{m:DM}(hI:DInv m)(J:Od.JM)(id code:Int):Touch m (Od.endJ m J id code).1 fun k=>k≠Od.cmdN.toList:=by
 unfold Od.endJ;split
 ·exact Touch.refl hI _
 split
 ·exact Touch.refl hI _
 split
 ·exact Touch.refl hI _
 split
 ·exact Touch.refl hI _
 ·exact QMf hI _ _ _
theorem QS8{m:DM}(hI:DInv m)(J:Od.JM)(id:Int):Touch m (Od.beginJ m J id).1 fun k=>k≠Od.cmdN.toList:=by
 unfold Od.beginJ;split
 ·exact Touch.refl hI _
 split
 ·exact Touch.refl hI _
 split
 ·exact Touch.refl hI _
 split
 ·exact Touch.refl hI _
 ·exact QMf hI _ _ _
theorem QMb{m:DM}(hI:DInv m)(c:Cu):Touch m (Csr.saveM m c).1 fun k=>k≠Csr.newCu.toList/\k≠Csr.curN.toList:=by
 have a:=(QDp hI Csr.newCu).mono (T:=fun k=>k≠Csr.newCu.toList/\k≠Csr.curN.toList) fun k h=>h.1;have t2:=a.trans ((QDl a.inv Csr.newCu (Csr.fileC c)).mono (T:=fun k=>k≠Csr.newCu.toList/\k≠Csr.curN.toList) fun k h=>h.1);have t3:=t2.trans ((QCF t2.inv Csr.newCu).mono (T:=fun k=>k≠Csr.newCu.toList/\k≠Csr.curN.toList) fun k h=>trivial);unfold Csr.saveM;split
 ·exact Touch.refl hI _
 split
 ·exact a
 split
 ·exact t2
 split
 ·exact t3
 ·exact t3.trans (QHo t3.inv Csr.newCu Csr.curN)
theorem KOk.dev{k:Kn}(h:KOk k){r:DM}{S:Key->Prop}(t:Touch k.dev r S)(hS:∀n:Int,S (fK n)):KOk ⟨r,k.log,k.X⟩:=⟨h.ldev.touch t fun s _=>hS s.n,h.idx⟩
theorem KOk.endJ{k:Kn}(h:KOk k)(J:Od.JM)(id code:Int):KOk ⟨(Od.endJ k.dev J id code).1,k.log,k.X⟩:=h.dev (QY8 h.ldev.inv J id code) QZe
theorem KOk.beginJ{k:Kn}(h:KOk k)(J:Od.JM)(id:Int):KOk ⟨(Od.beginJ k.dev J id).1,k.log,k.X⟩:=h.dev (QS8 h.ldev.inv J id) QZe
theorem KOk.saveC{k:Kn}(h:KOk k)(c:Cu):KOk ⟨(Csr.saveM k.dev c).1,k.log,k.X⟩:=h.dev (QMb h.ldev.inv c) fun n=>⟨QSI n,QeT n⟩
abbrev QD9(k:Kn)(J:Od.JM)(id code:Int):Kn×Od.JM×Int:=(⟨(Od.endJ k.dev J id code).1,k.log,k.X⟩,(Od.endJ k.dev J id code).2)
abbrev QB1(k:Kn)(J:Od.JM)(id:Int):Kn×Od.JM×Int:=(⟨(Od.beginJ k.dev J id).1,k.log,k.X⟩,(Od.beginJ k.dev J id).2)
theorem QRm(d l x q:Ac)(k:Kn)(J:Od.JM)(id code:Int):Ct Pr 130 [.pointer q,.I id,.I code] .one [.I] [Od.JObj d q J,QA7 d l x k] emp
  (fun t Bs=>t.1=(QD9 k J id code).2.2/\Bs=[Od.JObj d q (QD9 k J id code).2.1,QA7 d l x (QD9 k J id code).1]):=by
 refine QG9 (φ:=QAX Pr 130 [.pointer q,.I id,.I code] .one [.I]) (fun h=>h) fun B _=>?_;refine QG8 1 fun a=>?_;refine xd1 (Od.End_spec d q k.dev J id code) ?_;exact QCh d l x (QD9 k J id code).1 (a.endJ J id code) (QAK [Od.JObj d q (QD9 k J id code).2.1,QA7 d l x (QD9 k J id code).1] (QAD ⟨rfl,rfl⟩))
theorem QUD(d l x q:Ac)(k:Kn)(J:Od.JM)(id:Int):Ct Pr 326 [.pointer q,.I id] .one [.I] [Od.JObj d q J,QA7 d l x k] emp
  (fun t Bs=>t.1=(QB1 k J id).2.2/\Bs=[Od.JObj d q (QB1 k J id).2.1,QA7 d l x (QB1 k J id).1]):=by
 refine QG9 (φ:=QAX Pr 326 [.pointer q,.I id] .one [.I]) (fun h=>h) fun B _=>?_;refine QG8 1 fun a=>?_;refine xd1 (Od.Begin_spec d q k.dev J id) ?_;exact QCh d l x (QB1 k J id).1 (a.beginJ J id) (QAK [Od.JObj d q (QB1 k J id).2.1,QA7 d l x (QB1 k J id).1] (QAD ⟨rfl,rfl⟩))
structure GS where
 k:Kn
 lost:Int
 J:Od.JM
 os:List QCj
 ok:Bool
abbrev QHT(clock:Int)(s:GS)(r:RE):GS:=⟨(QBi clock s.k s.lost r).k,(QBi clock s.k s.lost r).lost,s.J,s.os,(QBi clock s.k s.lost r).ok⟩
def QQI(clock:Int)(s:GS)(id:Int):GS:=
 if (QHT clock s ⟨6,0,ByteArray.empty,2,id⟩).ok=true then { (QHT clock s ⟨6,0,ByteArray.empty,2,id⟩) with os:=s.os++QD7 id 2 } else QHT clock s ⟨6,0,ByteArray.empty,2,id⟩
def QCb(clock:Int)(s:GS)(id:Int):GS:=
 if (QD9 s.k s.J id 2).2.2=10 then ⟨(QD9 s.k s.J id 2).1,s.lost,(QD9 s.k s.J id 2).2.1,s.os,false⟩
 else if (QD9 s.k s.J id 2).2.2=0 then QQI clock ⟨(QD9 s.k s.J id 2).1,s.lost,(QD9 s.k s.J id 2).2.1,s.os,true⟩ id
 else ⟨(QD9 s.k s.J id 2).1,s.lost,(QD9 s.k s.J id 2).2.1,s.os,true⟩
def QDW(clock:Int):Ae->GS->GS
 | [],s=>s
 | id::ids,s=>if (QCb clock s id).ok=true then QDW clock ids (QCb clock s id) else QCb clock s id
def QQj(clock epoch:Int)(t:GS)(m:SeM):GS×SeM:=
 let y:=QBP t.k.dev t.k.log
 if y.2.2=10 then ({ t with k:=⟨y.1,y.2.1,t.k.X⟩,ok:=false },m)
 else ({ t with k:=⟨y.1,y.2.1,t.k.X⟩,os:=t.os++(QBf epoch clock y.2.1 m).2 },(QBf epoch clock y.2.1 m).1)
def QMA(clock epoch:Int)(t:GS)(m:SeM):GS×SeM:=if t.ok=true then QQj clock epoch t m else (t,m)
def QFX(clock boots epoch:Int)(s:GS)(m:SeM):GS×SeM:=
 if (QHT clock s ⟨4,0,ByteArray.empty,boots,0⟩).ok=true then QMA clock epoch (QDW clock (Od.leftJ s.J.L) (QHT clock s ⟨4,0,ByteArray.empty,boots,0⟩)) m else (QHT clock s ⟨4,0,ByteArray.empty,boots,0⟩,m)
abbrev GsP(g:Nat)(c:GwC)(s:GS)(m:SeM):List HP:=[GwB g (c.withLost s.lost) s.os,QA7 c.dev c.log c.idx s.k,Od.JObj c.dev c.jr s.J,QBD c.up m]
theorem QYV(g:Nat)(c:GwC)(s:GS)(hl:c.lost=s.lost)(a9:s.ok=true)(a':s.os.length<=800000)(m:SeM) :
  Ct Pr 62 [.pointer (some ⟨g,0,none⟩)] .one [.I] [GwB g c s.os,QA7 c.dev c.log c.idx s.k,Od.JObj c.dev c.jr s.J,QBD c.up m] GTab
  (fun t Bs=>t.1=(if (QFX c.clock c.boots c.epoch s m).1.ok=true then 0 else 10)/\Bs=GsP g c (QFX c.clock c.boots c.epoch s m).1 (QFX c.clock c.boots c.epoch s m).2):=by
 refine QG9 (QGV Qb5) fun B V=>?_;haveI:=QKj V;obtain⟨N,d⟩:∃N,QFX c.clock c.boots c.epoch s m=N:=⟨_,rfl⟩;rw[d];unfold QCT;refine QAL fun b=>QBh (fun As'=>N.1.ok=false/\As'=Blk b [.I 0]::GsP g c N.1 N.2) (fun Q u=>?_) ?_
 ·unfold QFX at d;refine xgf (h:=?_);refine QTq (QF8 g c s.os s.k ⟨4,0,ByteArray.empty,c.boots,0⟩ (show (0:Nat)<=1000000 by decide)) rdb ?_ ?_
  case refine_2=>
   rintro _ ⟨j,rfl⟩;rw[hl]at j|-;rw[Wb (fun q=>by rw[show (QHT c.clock s ⟨4,0,ByteArray.empty,c.boots,0⟩).ok=false from j]at q;cases q)]at d;subst d;exact QBK (QAK (Blk b [.I 0]::GsP g c (QHT c.clock s ⟨4,0,ByteArray.empty,c.boots,0⟩) m) (u _ ⟨j,rfl⟩))
  rintro _ _ ⟨j,rfl⟩;rw[hl]at j|-;obtain⟨n,hn⟩:∃n,QHT c.clock s ⟨4,0,ByteArray.empty,c.boots,0⟩=n:=⟨_,rfl⟩
  have R:n.ok=true:=by rw[<-hn];exact j
  rw[hn,We R]at d
  have Z:n.os=s.os:=by rw[<-hn]
  have a0:n.J=s.J:=by rw[<-hn]
  rw[<-a0]at d;refine QBK (ca0 ?_);refine QAK (Blk b [.I 0]::GsP g c (QHT c.clock s ⟨4,0,ByteArray.empty,c.boots,0⟩) m) ?_;rw[hn];refine xgf (h:=?_);refine xcl (Od.Left_spec c.dev c.jr n.J) rdb ?_;rintro⟨w,_⟩ _ rfl;refine QBK (ca1 ?_)
  generalize a4:Od.leftJ n.J.L=ids at *
  refine QB6 0 (P1:=Od.JObj c.dev c.jr n.J) (fun f W=>W.1) fun Y=>?_
  have a8:ids.length<=1024:=by
   rw[<-a4];unfold Od.leftJ;rw[O3];exact Oq (Kd _ _) Y.len
  refine QCl (E:=I64) (xs:=ids) w fun a5 _=>?_;refine QAK (Ar I64 w ids::Blk b [.I 0]::GsP g c n m) ?_;refine QBa (fun r (x:Int) As'=>∃(i:Nat) (t:GS),x=(i:Int)/\r=ids.length - i/\i<=ids.length/\t.ok=true/\t.os.length<=s.os.length+i/\QDW c.clock ids n=QDW c.clock (ids.drop i) t/\As'=Ar I64 w ids::Blk b [.I 0]::GsP g c t m) ids.length ⟨0,n,rfl,rfl,Om,R,by rw[Z];omega,rfl,rfl⟩ ?_;rintro r x As' K ⟨i,t,rfl,rfl,hi,H,a7,p,rfl⟩ M;refine QAB (fun h=>?_) (fun h=>?_)
  ·have G:i<ids.length:=Om
   obtain⟨id,O⟩:∃v,ids[i]? = some v:=⟨_,Wa G⟩
   have a1:ids.drop i=id::ids.drop (i+1):=by rw[Ws G];congr 1;exact (Wc.1 O).2
   rw[a1,QDW]at p;refine QAH (E:=I64) (xs:=ids) (s:=w) (k:=i) (h1:=G) (h:=fun _ _=>?_);refine QAN (E:=I64) (xs:=ids) (i:=i) O (h:=xgf (h:=?_));refine xcl (QRm c.dev c.log c.idx c.jr t.k t.J id 2) rdb ?_;rintro⟨e,_⟩ _ ⟨he,rfl⟩;simp only at he;subst he
   have bad:∀(l:GS),QCb c.clock t id=l->l.ok=false->N.1=l/\N.2=m:=fun l h1 z=>by
    rw[h1,Wb (by rw[z];decide)]at p;rw[p]at d;unfold QMA at d;rw[Wb (by rw[z];decide)]at d;rw[<-d];exact⟨rfl,rfl⟩
   have S:∀(l:GS),QCb c.clock t id=l->l.ok=true->QDW c.clock ids n=QDW c.clock (ids.drop (i+1)) l:=fun l h1 z=>by
    rw[h1,We z]at p;exact p
   refine QBK (ca1 (QP5 (fun he=>QAM (xif (fun h0=>?_) (fun h0=>?_))) (fun he=>?_)))
   ·have h0:(QD9 t.k t.J id 2).2.2=0:=Si h0
    have T:=QF8 g (c.withLost t.lost) t.os (QD9 t.k t.J id 2).1 ⟨6,0,ByteArray.empty,2,id⟩ (show (0:Nat)<=1000000 by decide);obtain⟨a,P⟩:∃a,QBi c.clock (QD9 t.k t.J id 2).1 t.lost ⟨6,0,ByteArray.empty,2,id⟩=a:=⟨_,rfl⟩;rw[show QBi (c.withLost t.lost).clock (QD9 t.k t.J id 2).1 (c.withLost t.lost).lost ⟨6,0,ByteArray.empty,2,id⟩=a from P]at T
    have a2:QHT c.clock ⟨(QD9 t.k t.J id 2).1,t.lost,(QD9 t.k t.J id 2).2.1,t.os,true⟩ ⟨6,0,ByteArray.empty,2,id⟩=⟨a.k,a.lost,(QD9 t.k t.J id 2).2.1,t.os,a.ok⟩:=by rw[<-P]
    have U:QCb c.clock t id=if a.ok=true then ⟨a.k,a.lost,(QD9 t.k t.J id 2).2.1,t.os++QD7 id 2,a.ok⟩ else ⟨a.k,a.lost,(QD9 t.k t.J id 2).2.1,t.os,a.ok⟩:=by
     unfold QCb;rw[Wb he,We h0];unfold QQI;rw[a2]
    refine QTq T rdb ?_ ?_
    ·rintro _ _ ⟨j,rfl⟩;have o:=U;rw[We j]at o;refine QBK (ca0 ?_);refine xd0 (QDt g (c.withLost a.lost) t.os Om id 2) ?_;rw[QAE i Om];refine QAK (Ar I64 w ids::Blk b [.I 0]::GsP g c ⟨a.k,a.lost,(QD9 t.k t.J id 2).2.1,t.os++QD7 id 2,a.ok⟩ m) (M (ids.length - (i+1)) _ _ Om ⟨i+1,_,rfl,rfl,Om,j,?_,S _ o j,rfl⟩);have:=QQm ⟨4,0,0,id,2,[]⟩;show (t.os++QD7 id 2).length<=_;rw[Wd];show t.os.length+(upM _).length<=_;omega
    ·rintro _ ⟨j,rfl⟩;have o:=U;rw[Wb (by rw[j];decide)]at o;obtain⟨C,D⟩:=bad _ o j;rw[C,D]at u;exact QBK (QAK (Blk b [.I 0]::GsP g c ⟨a.k,a.lost,(QD9 t.k t.J id 2).2.1,t.os,a.ok⟩ m) (u _ ⟨j,rfl⟩))
   ·have h0:(QD9 t.k t.J id 2).2.2≠0:=Si h0
    have o:QCb c.clock t id=⟨(QD9 t.k t.J id 2).1,t.lost,(QD9 t.k t.J id 2).2.1,t.os,true⟩:=by
     unfold QCb;rw[Wb he,Wb h0]
    rw[QAE i Om];exact QAK (Ar I64 w ids::Blk b [.I 0]::GsP g c ⟨(QD9 t.k t.J id 2).1,t.lost,(QD9 t.k t.J id 2).2.1,t.os,true⟩ m) (M (ids.length - (i+1)) _ _ Om ⟨i+1,_,rfl,rfl,Om,rfl,(by show t.os.length<=_;omega),S _ o rfl,rfl⟩)
   ·have o:QCb c.clock t id=⟨(QD9 t.k t.J id 2).1,t.lost,(QD9 t.k t.J id 2).2.1,t.os,false⟩:=by
     unfold QCb;rw[We he]
    obtain⟨C,D⟩:=bad _ o rfl;rw[C,D]at u;exact QAK (Blk b [.I 0]::GsP g c ⟨(QD9 t.k t.J id 2).1,t.lost,(QD9 t.k t.J id 2).2.1,t.os,false⟩ m) (u _ ⟨rfl,rfl⟩)
  ·rw[Zg Om,QDW]at p;rw[p]at d;unfold QMA at d;rw[We H]at d;unfold QQj at d;refine xgf (h:=QG8 3 fun A=>?_);have a3:KOk ⟨(QBP t.k.dev t.k.log).1,(QBP t.k.dev t.k.log).2.1,t.k.X⟩:=⟨A.ldev.sync.1,A.idx⟩;refine xcl (QKm c.log c.dev t.k.dev t.k.log A.ldev.safe) rdb ?_
   generalize QBP t.k.dev t.k.log=y at *
   rintro⟨e,_⟩ _ ⟨he,rfl⟩;simp only at he d;subst he;refine QBK (ca1 (QCh c.dev c.log c.idx ⟨y.1,y.2.1,t.k.X⟩ a3 (QP5 (fun he=>?_) (fun he=>?_))))
   ·rw[Wb he]at d;refine xcl (QI7 g (c.withLost t.lost) t.os Om ⟨y.1,y.2.1,t.k.X⟩ m) rdb ?_;rintro _ _ rfl;refine QLn (ca0 (xsq (xgq ?_)));subst d;rw[show ({ t with k:=⟨y.1,y.2.1,t.k.X⟩,os:=t.os++(QBf c.epoch c.clock y.2.1 m).2 }:GS).ok=true from H,We rfl];exact QAK (GsP g c { t with k:=⟨y.1,y.2.1,t.k.X⟩,os:=t.os++(QBf c.epoch c.clock y.2.1 m).2 } (QBf c.epoch c.clock y.2.1 m).1) (QAD ⟨rfl,rfl⟩)
   ·rw[We he]at d;subst d;exact QAK (Blk b [.I 0]::GsP g c { t with k:=⟨y.1,y.2.1,t.k.X⟩,ok:=false } m) (u _ ⟨rfl,rfl⟩)
 ·rintro _ ⟨j,rfl⟩;refine QAL fun a6=>xsq (xgq ?_);rw[j];exact QAK (GsP g c N.1 N.2) (QAD ⟨rfl,rfl⟩)
end Go.Cx
