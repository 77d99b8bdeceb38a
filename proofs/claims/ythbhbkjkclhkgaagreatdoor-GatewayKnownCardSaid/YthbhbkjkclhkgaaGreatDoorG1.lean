import Derived.Test.YthbhbkjkclhkgaaGreatDoorP6
import Derived.Test.YthbhbkjkclhkgaaGreatDoorSX
import Derived.Test.YthbhbkjkclhkgaaGreatDoorHY
import Derived.Test.YthbhbkjkclhkgaaGreatDoorMX
import Derived.Test.YthbhbkjkclhkgaaGreatDoorMT
import Derived.Test.YthbhbkjkclhkgaaGreatDoorDK
import Derived.Test.YthbhbkjkclhkgaaGreatDoorA4
import Derived.Test.YthbhbkjkclhkgaaGreatDoorA3
namespace Go.Cx
open Go Go.Cf
set_option linter.unusedVariables false
set_option maxRecDepth 100000
variable {B:QBE}{As F:List HP}
theorem QQ8{Q:WP}{e:Int}{K:Int→WP}(h1:e≠10→Ent B As (K e))(h2:e=10→Ent B As Q):Ent B As (QFK Q 129 [.I e] .one [.I] fun r=>K r):=by
 refine QST (pre:=[]) (QYI e) rdb ?_ ?_
 ·rintro⟨t,_⟩ _ ⟨he,ht,rfl⟩;simp only at ht;subst ht;exact QAy (ca1 (h1 he))
 ·rintro _ ⟨he,rfl⟩;exact QAy (h2 he)
structure GwC where
 timeout:Int
 retries:Int
 window:Int
 resend:Int
 span:Int
 keep:Int
 tags:Sl
 dev:Option Addr
 log:Option Addr
 idx:Option Addr
 saved:Int
 acked:Int
 epoch:Int
 boots:Int
 jr:Option Addr
 up:Option Addr
 line:Option Addr
 polls:Sl
 slots:Sl
 held:Sl
 alarms:Sl
 queue:Sl
 poll:Int
 cmd:Option Addr
 clock:Int
 lost:Int
 stopped:Bool
abbrev GwC.v(c:GwC)(out:Sl):List Value:=[.I c.timeout,.I c.retries,.I c.window,.I c.resend,.I c.span,.I c.keep,c.tags.v,.pointer c.dev,.pointer c.log,.pointer c.idx,.I c.saved,.I c.acked,.I c.epoch,.I c.boots,.pointer c.jr,.pointer c.up,.pointer c.line,c.polls.v,c.slots.v,c.held.v,c.alarms.v,c.queue.v,.I c.poll,.pointer c.cmd,.I c.clock,.I c.lost,.bool c.stopped,out.v]
def OuE:Enc (Int×Sl):=⟨fun x=>[.I x.1,x.2.v],2,fun _=>rfl,fun x v h=>by simp at h;rcases h with rfl|rfl<;>rfl,by decide,(0,nilS)⟩
abbrev QCS:=Int×List UInt8
def QNG(s:Sl)(os:List QCS):HP:=fun h=>∃rs:List (Int×Sl),rs.map Prod.fst=os.map Prod.fst∧QBl [Ar OuE s rs,Each (fun(r:Int×Sl) (o:QCS)=>Ar U8 r.2 o.2) rs os] h
def GwB(g:Nat)(c:GwC)(os:List QCS):HP:=fun h=>∃out:Sl,QBl [Blk g (c.v out),QNG out os] h
theorem xgw(j:Nat){g:Nat}{c:GwC}{os:List QCS}{φ:WP}[p:Pick j As (GwB g c os) F](h:∀out,Ent B (Blk g (c.v out)::QNG out os::F) φ):Ent B As φ:=by
 refine QFI j (fun Bs=>∃out,Bs=[Blk g (c.v out),QNG out os]) (fun f hf=>?_) ?_
 ·obtain⟨out,hf⟩:=hf;exact⟨_,⟨out,rfl⟩,hf⟩
 ·rintro _ ⟨out,rfl⟩;exact QBM (h out)
theorem QQC(g:Nat)(c:GwC)(os:List QCS)(out:Sl){G:List HP}[s:Split [Blk g (c.v out),QNG out os] As G]{φ:WP}(k:Ent B (GwB g c os::G) φ):Ent B As φ:=
 QBQ [Blk g (c.v out),QNG out os] (GwB g c os) (fun f hf=>⟨out,hf⟩) k
instance:QIH Pr 58 202 2 32 [.I 0,.slice none 0 0]:=⟨by kernel_rfl,by kernel_rfl⟩
theorem QIn(g:Nat)(c:GwC)(os:List QCS)(hl:os.length≤1000000)(to:Int)(b:Sl)(bs:List UInt8) :
  Ct Pr 232 [.pointer (some ⟨g,0,none⟩),.I to,b.v] (.tup []) [] [GwB g c os,Ar U8 b bs] emp (fun _ Bs=>Bs=[GwB g c (os++[(to,bs)])]):=by
 refine sp0 (QDs _ _ _) fun B _=>?_;unfold QDs mf;dsimp only;refine xgw 0 fun out=>QAQ (QAE (s:=.slice) (x:=out) (hv:=rfl) (h:=QAL fun b1=>?_));refine QFI 2 (fun Bs=>∃rs:List (Int×Sl),rs.map Prod.fst=os.map Prod.fst∧Bs=[Ar OuE out rs,Each (fun(r:Int×Sl) (o:QCS)=>Ar U8 r.2 o.2) rs os]) (fun f hf=>?_) ?_
 ·obtain⟨rs,h1,hf⟩:=hf;exact⟨_,⟨rs,h1,rfl⟩,hf⟩
 rintro _ ⟨rs,hrs,rfl⟩
 have hlen:rs.length=os.length:=by have:=congrArg List.length hrs;simpa using this
 refine QBM (QAU [Blk b1 [.I to,b.v],Ar OuE out rs] ?_);refine QEc (E:=OuE) (to,b) (hb:=by omega) (h:=fun s1=>?_);refine QAQ (xsq ?_);refine QBQ [Ar OuE s1 (rs++[(to,b)]),Each (fun(r:Int×Sl) (o:QCS)=>Ar U8 r.2 o.2) rs os,Ar U8 b bs] (QNG s1 (os++[(to,bs)])) (fun f hf=>?_) ?_
 ·refine⟨rs++[(to,b)],by simp[hrs],?_⟩
  exact QBC (fun g2 hg2=>by
   obtain⟨a,d,pa,pd,dis,sa,sd⟩:=hg2;obtain⟨a2,d2,pa2,_,dis2,sa2,_⟩:=pd
   refine⟨g2,fun _=>none,QEL ⟨a,d,pa,⟨a2,d2,pa2,trivial,dis2,sa2,by assumption⟩,dis,sa,sd⟩,trivial,fun k=>.inr rfl,Sub.refl _,fun _ _ e=>by cases e⟩) hf
 exact QQC g c (os++[(to,bs)]) s1 (QAK [GwB g c (os++[(to,bs)])] (QAD rfl))
def upM(p:PkV):List QCS:=if pkE p p.body.length=0 then [(2,QXM p)] else []
theorem QOv(p:PkV):(upM p).length≤1:=by unfold upM;split<;>simp
theorem QKH(g:Nat)(c:GwC)(os:List QCS)(hl:os.length≤1000000)(p:PkV)(hz:p.kind=3∨p.kind=4→p.epoch=0∧p.seq=0)(s:Sl) :
  Ct Pr 201 [.pointer (some ⟨g,0,none⟩),Qdv p s] (.tup []) [] [GwB g c os] (RAr U8 s p.body) (fun _ Bs=>Bs=[GwB g c (os++upM p)]):=by
 refine sp0 (QCz _ _ _ _ _ _ _) fun B hr=>?_;haveI:Fro B s U8 p.body:=⟨hr⟩;unfold QCz mf;dsimp only;refine QAL fun b=>?_;iterate 5 (refine xgq ?_)
 refine QAE (s:=.slice) (x:=s) (hv:=rfl) (h:=?_);refine xn2 (L:=fun s=>[Ar U8 s (QA8 p)]) (QMf p hz s) (fun x y Bs hB=>hB) fun s1=>?_;refine QAJ (xif (fun h=>?_) (fun h=>?_))
 ·have h0:pkE p p.body.length=0:=by simpa using h
  rw[show upM p=[(2,QXM p)] from if_pos h0,show QA8 p=QXM p from if_pos h0];exact xd0 (QIn g c os hl 2 s1 (QXM p)) (QAK [GwB g c (os++[(2,QXM p)])] (QAD rfl))
 ·rw[show upM p=[] from if_neg (by simpa using h),List.append_nil];exact QAK [GwB g c os] (QAD rfl)
def QDg(id code:Int):List QCS:=upM ⟨4,0,0,id,code,[]⟩
theorem QDU(g:Nat)(c:GwC)(os:List QCS)(hl:os.length≤1000000)(id code:Int) :
  Ct Pr 131 [.pointer (some ⟨g,0,none⟩),.I id,.I code] (.tup []) [] [GwB g c os] emp (fun _ Bs=>Bs=[GwB g c (os++QDg id code)]):=by
 refine sp0 (QD2 _ _ _) fun B _=>?_;unfold QD2 mf;dsimp only;exact xd0 (QKH g c os hl ⟨4,0,0,id,code,[]⟩ (fun _=>⟨rfl,rfl⟩) nilS) (QAD rfl)
structure Kn where
 dev:DM
 log:LM
 X:XM
structure XOk'(X:XM):Prop where
 srt:QTL X.L
 time:XTime X
 top:∀y∈X.L,y.2≤X.last
 last:X.last<4000000000000
 nodup:(X.L.map Prod.snd).Nodup
theorem QQY:∀(n:Nat) (l:List Int),l.Nodup→(∀x∈l,0≤x∧x<n)→l.length≤n
 | 0,[],_,_=>Nat.le_refl 0
 | 0,x::l,_,h=>by have:=h x (by simp);omega
 | n+1,l,hn,h=>by
  have h1:(l.filter fun x=>decide (x≠(n:Int))).length≤n:=QQY n _ (hn.sublist List.filter_sublist) fun x hx=>by
   obtain⟨hx,hne⟩:=List.mem_filter.1 hx;have:=h x hx
   have hne:x≠(n:Int):=by simpa using hne
   omega
  have h2:∀(l:List Int),l.Nodup→l.length≤(l.filter fun x=>decide (x≠(n:Int))).length+1:=by
   intro l
   induction l with
   | nil=>intro _;simp
   | cons x l ih=>
    intro hn;obtain⟨hx,hn⟩:=List.nodup_cons.1 hn;by_cases e:x=(n:Int)
    ·subst e
     rw[List.filter_cons_of_neg (by simp),List.filter_eq_self.2 fun y hy=>by
      have:y≠(n:Int):=fun q=>hx (q ▸ hy)
      simpa using this]
     simp
    ·rw[List.filter_cons_of_pos (by simpa using e),List.length_cons,List.length_cons];have:=ih hn;omega
  have:=h2 l hn;omega
theorem XOk'.len{X:XM}(h:XOk' X):X.L.length≤4000000000000:=by
 have:=QQY 4000000000000 (X.L.map Prod.snd) h.nodup fun x hx=>by
  obtain⟨y,hy,rfl⟩:=List.mem_map.1 hx;have h1:=h.top y hy;have h2:=(h.time y hy).2;have h3:=h.last;omega
 simpa using this
theorem QZV{k:KY}{L:List KY}(hn:(L.map Prod.snd).Nodup)(hk:∀y∈L,y.2≠k.2):((QK0 k L).map Prod.snd).Nodup:=by
 have hno:k∉L:=fun hm=>hk k hm rfl;unfold QK0;rw[if_neg hno];have hperm:(L.filter (fun y=>ltK y k)++k::L.filter (fun y=>!ltK y k)).Perm (k::(L.filter (fun y=>ltK y k)++L.filter (fun y=>!ltK y k))):=List.perm_middle
 have hp2:(L.filter (fun y=>ltK y k)++L.filter (fun y=>!ltK y k)).Perm L:=by
  have:=List.filter_append_perm (fun y=>ltK y k) L;exact this
 have hfe:L.filter (fun y=>ltK k y)=L.filter (fun y=>!ltK y k):=List.filter_congr fun y hy=>by
  have hne:y≠k:=fun e=>hno (e ▸ hy)
  cases h1:ltK y k with
  | true=>rw[QIX h1];rfl
  | false=>
   unfold ltK at h1⊢;simp only[Bool.or_eq_false_iff,Bool.and_eq_false_iff,Bool.not_eq_false',Bool.not_false,Bool.or_eq_true,Bool.and_eq_true,Bool.not_eq_true',decide_eq_true_eq,decide_eq_false_iff_not]at h1⊢;obtain⟨a,b⟩:=k;obtain⟨c,d⟩:=y;have:¬(c=a∧d=b):=fun ⟨e1,e2⟩=>hne (by rw[e1,e2]);simp only at h1⊢;omega
 rw[hfe];have hp:=(hperm.trans (hp2.cons k)).map Prod.snd;refine hp.nodup_iff.2 ?_;rw[List.map_cons,List.nodup_cons];refine⟨fun hm=>?_,hn⟩;obtain⟨y,hy,e⟩:=List.mem_map.1 hm;exact hk y hy e
theorem XOk'.put{X:XM}(h:XOk' X){t n:Int}(h1:0≤t∧t≤1099511627776)(h2:0≤n)(h3:X.last<n)(h4:n<4000000000000):XOk' (QVW X t n):=by
 have hof:∀y∈(QVW X t n).L,y=(t,n)∨y∈X.L:=fun y hy=>QZb hy
 have hl:(QVW X t n).last=n:=by unfold QVW;simp only;rw[if_pos h3]
 refine⟨QY8 h.srt,h.time.put h1 h2,fun y hy=>?_,by rw[hl];exact h4,QZV h.nodup fun y hy=>?_⟩
 ·rw[hl];rcases hof y hy with rfl|hy
  ·exact Int.le_refl _
  ·have:=h.top y hy;omega
 ·have:=h.top y hy;simp only;omega
theorem XOk'.add{X:XM}(h:XOk' X)(k:KY):XOk' (QXS X k):=by
 unfold QXS;split
 ·exact h
 split
 ·exact h
 ·exact h.put (by omega) (by omega) (by omega) (by omega)
theorem XOk'.open{m:DM}{l:LM}(h:Ldev m l):XOk' (QIY l):=by
 have hlo:=h.log.lo;have hnx:=h.log.next
 have key:∀k:Nat,(k:Int)≤l.next - l.lo→XOk' (QDW l k)∧(QDW l k).last<l.lo+k:=by
  intro k
  induction k with
  | zero=>exact fun _=>⟨⟨List.Pairwise.nil,(fun y hy=>by cases hy),(fun y hy=>by cases hy),(by show (-1:Int)<4000000000000;decide),List.nodup_nil⟩,by show (-1:Int)<_;omega⟩
  | succ k ih=>
   intro hk;obtain⟨h1,h2⟩:=ih (by omega);rw[QH0];unfold QRB;split
   ·rename_i hz
    refine⟨h1.put (QYZ (QNU hz)) (by omega) (by omega) (by omega),?_⟩;unfold QVW;simp only;rw[if_pos (by omega)];omega
   ·exact⟨h1,by omega⟩
 unfold QIY;rcases Int.le_total 0 (l.next - l.lo) with q|q
 ·exact (key _ (by omega)).1
 ·rw[show (l.next - l.lo).toNat=0 by omega];exact⟨List.Pairwise.nil,(fun y hy=>by cases hy),(fun y hy=>by cases hy),(by show (-1:Int)<4000000000000;decide),List.nodup_nil⟩
structure KOk(k:Kn):Prop where
 ldev:Ldev k.dev k.log
 idx:XOk' k.X
def QA7(d l x:Option Addr)(k:Kn):HP:=fun h=>KOk k∧QBl [QAC d k.dev,QAY l d k.log,QBt x d l k.X] h
theorem QGn(j:Nat){d l x:Option Addr}{k:Kn}{φ:WP}[p:Pick j As (QA7 d l x k) F](h:KOk k→Ent B (QAC d k.dev::QAY l d k.log::QBt x d l k.X::F) φ):Ent B As φ:=by
 refine QFI j (fun Bs=>KOk k∧Bs=[QAC d k.dev,QAY l d k.log,QBt x d l k.X]) (fun f hf=>⟨_,⟨hf.1,rfl⟩,hf.2⟩) ?_;rintro _ ⟨ho,rfl⟩;exact QQA (h ho)
theorem QCs(d l x:Option Addr)(k:Kn){G:List HP}[s:Split [QAC d k.dev,QAY l d k.log,QBt x d l k.X] As G]{φ:WP}(ho:KOk k)(h:Ent B (QA7 d l x k::G) φ):Ent B As φ:=
 QBQ [QAC d k.dev,QAY l d k.log,QBt x d l k.X] (QA7 d l x k) (fun f hf=>⟨ho,hf⟩) h
def QM0(clock:Int)(k:Kn)(r:RE):Kn×Int:=
 let a:=QCC k.dev k.log (QWL { r with time:=clock }).1
 if a.2.2.2=0 then (⟨a.1,a.2.1,QXS k.X (clock,a.2.2.1)⟩,0) else (⟨a.1,a.2.1,k.X⟩,a.2.2.2)
theorem QdI{clock:Int}{k:Kn}{r:RE}(h:KOk k):KOk (QM0 clock k r).1:=by
 have hl:=h.ldev.append (QWL { r with time:=clock }).1;unfold QM0
 (try simp only)
 split
 ·exact⟨hl,h.idx.add _⟩
 ·exact⟨hl,h.idx⟩
theorem QVL(g:Nat)(c:GwC)(os:List QCS)(k:Kn)(r:RE)(hs:r.tag.size≤1000000) :
  CtP QCl Pr 198 [.pointer (some ⟨g,0,none⟩),r.v] .one [.bool] [GwB g c os,QA7 c.dev c.log c.idx k] GTab
  (fun t Bs=>(QM0 c.clock k r).2≠10∧t.1=((QM0 c.clock k r).2 == 0)∧Bs=[GwB g c os,QA7 c.dev c.log c.idx (QM0 c.clock k r).1])
  (fun Bs=>(QM0 c.clock k r).2=10∧Bs=[GwB g c os,QA7 c.dev c.log c.idx (QM0 c.clock k r).1]):=by
 refine Qg9 (QEJ _ _ _ _ _ _) fun B hr=>?_;haveI:=QKI hr;unfold QEJ mfP;dsimp only;refine xgw 0 fun out=>QAL fun b=>QAQ (xgq (xsq ?_));iterate 5 (refine xgq ?_)
 refine xcl (Qda { r with time:=c.clock } hs) rdb ?_;rintro⟨s,(e1:Int),_⟩ _ ⟨_,rfl⟩;refine QA5 (ca2 (QAQ (xgq ?_)));refine QGn 4 fun hk=>?_;have hk2:=QdI (clock:=c.clock) (r:=r) hk;unfold QM0 at hk2⊢;have hL:=(hk.ldev.append (QWL { r with time:=c.clock }).1).log;refine xcl (QRk c.log c.dev k.dev k.log s (QWL { r with time:=c.clock }).1 hk.ldev.safe hL) rdb ?_
 generalize QCC k.dev k.log (QWL { r with time:=c.clock }).1=a at *
 obtain⟨m',l',n,e⟩:=a;rintro⟨n',e',_⟩ _ ⟨h1,h2,rfl⟩;simp only at h1 h2 hk2⊢;subst h1 h2;refine QBM (ca2 (QQ8 (fun he=>?_) (fun he=>?_)))
 ·refine xif (fun h=>?_) (fun h=>?_)
  ·have h0:e'≠0:=by simpa using h
   rw[if_neg h0]at hk2⊢;refine QQC g c os out (QCs c.dev c.log c.idx ⟨m',l',k.X⟩ hk2 ?_);exact QAK [GwB g c os,QA7 c.dev c.log c.idx ⟨m',l',k.X⟩] (QAD ⟨he,by simpa using h0,rfl⟩)
  ·have h0:e'=0:=by simpa using h
   rw[if_pos h0]at hk2⊢;refine QAO (QAQ (xgq (QAQ (xgq ?_))));refine xcl (QZL c.idx c.dev c.log k.X (c.clock,n') (by have:=hk.idx.len;omega)) rdb ?_;rintro⟨t,_⟩ _ rfl;refine QA5 (ca1 ?_);refine QQC g c os out (QCs c.dev c.log c.idx ⟨m',l',QXS k.X (c.clock,n')⟩ hk2 ?_);exact QAK [GwB g c os,QA7 c.dev c.log c.idx ⟨m',l',QXS k.X (c.clock,n')⟩] (QAD ⟨(show (0:Int)≠10 by decide),rfl,rfl⟩)
 ·rw[if_neg (show ¬e'=0 by rw[show e'=10 from he];decide)]at hk2⊢;refine QQC g c os out (QCs c.dev c.log c.idx ⟨m',l',k.X⟩ hk2 ?_);exact QAK [GwB g c os,QA7 c.dev c.log c.idx ⟨m',l',k.X⟩] (QTk ⟨he,rfl⟩)
theorem QGB(q p:Option Addr)(l:LM):Ct Pr 40 [.pointer q] .one [.I] [QAY q p l] emp (fun t Bs=>t.1=l.safe∧Bs=[QAY q p l]):=by
 refine sp1 (QJD _) fun B _=>?_;unfold QJD mf;dsimp only;refine QXQ 0 fun hi b s cs hq hf hs=>?_;subst hq;exact QAQ (xgq (QAx (p:=p) (l:=l) b s cs hi (QAD ⟨rfl,rfl⟩)))
def QJd(k:Kn):Kn×Bool:=if k.log.next>k.log.safe then (⟨(QB2 k.dev k.log).1,(QB2 k.dev k.log).2.1,k.X⟩,(QB2 k.dev k.log).2.2 != 10) else (k,true)
theorem Qa9{k:Kn}(h:KOk k):KOk (QJd k).1:=by
 unfold QJd;split
 ·exact⟨h.ldev.sync.1,h.idx⟩
 ·exact h
theorem QXe(g:Nat)(c:GwC)(os:List QCS)(k:Kn) :
  CtP QCl Pr 234 [.pointer (some ⟨g,0,none⟩)] (.tup []) [] [GwB g c os,QA7 c.dev c.log c.idx k] GTab
  (fun t Bs=>(QJd k).2=true∧Bs=[GwB g c os,QA7 c.dev c.log c.idx (QJd k).1])
  (fun Bs=>(QJd k).2=false∧Bs=[GwB g c os,QA7 c.dev c.log c.idx (QJd k).1]):=by
 refine QdA (QDt _) fun B hr=>?_;haveI:=QKI hr;unfold QDt mfP;dsimp only;refine xgw 0 fun out=>QAO (QAQ (xgq (QAQ (xgq ?_))));refine QGn 2 fun hk=>?_;have hk2:=Qa9 hk;unfold QJd at hk2⊢;refine xd1 (QFE c.log c.dev k.log) (QC6 (h:=xd1 (QGB c.log c.dev k.log) (QAJ (QAA (fun h=>?_) (fun h=>?_)))))
 ·rw[if_pos h]at hk2⊢;refine QAQ (xgq ?_);refine xcl (QJb c.log c.dev k.dev k.log hk.ldev.safe) rdb ?_
  generalize QB2 k.dev k.log=a at *
  obtain⟨m',l',e⟩:=a;rintro⟨e',_⟩ _ ⟨h1,rfl⟩;simp only at h1 hk2⊢;subst h1;refine QBM (ca1 (QQ8 (fun he=>?_) (fun he=>?_)))
  ·refine QQC g c os out (QCs c.dev c.log c.idx ⟨m',l',k.X⟩ hk2 ?_);exact QAK [GwB g c os,QA7 c.dev c.log c.idx ⟨m',l',k.X⟩] (QAD ⟨by simpa using he,rfl⟩)
  ·refine QQC g c os out (QCs c.dev c.log c.idx ⟨m',l',k.X⟩ hk2 ?_);exact QAK [GwB g c os,QA7 c.dev c.log c.idx ⟨m',l',k.X⟩] (QTk ⟨by simpa using he,rfl⟩)
 ·rw[if_neg h]at hk2⊢;refine QQC g c os out (QCs c.dev c.log c.idx k hk2 ?_);exact QAK [GwB g c os,QA7 c.dev c.log c.idx k] (QAD ⟨rfl,rfl⟩)
class GwF(g:Nat)(As:List HP)(c:outParam GwC)(os:outParam (List QCS))(F:outParam (List HP)):Prop where
 perm:As.Perm (GwB g c os::F)
instance (priority:=high) GwF.head(g:Nat)(c:GwC)(os:List QCS)(F:List HP):GwF g (GwB g c os::F) c os F:=⟨List.Perm.refl _⟩
instance GwF.tail(g:Nat)(c:GwC)(os:List QCS)(P:HP)(As F:List HP)[h:GwF g As c os F]:GwF g (P::As) c os (P::F):=⟨(h.perm.cons P).trans (List.Perm.swap _ _ _)⟩
theorem QAz(g off:Nat):Addr.add ⟨g,0,none⟩ off=⟨g,off,none⟩:=by
 unfold Addr.add;split
 ·rename_i h;rw[h]
 ·rw[Nat.zero_add]
section
variable {g off:Nat}{c:GwC}{os:List QCS}
theorem xgf[f:GwF g As c os F]{s:Sh}{x:s.ty}{K:Addr→s.ty→WP}(hv:∀out,(c.v out)[off]? = some (s.mk x):=by intro _;rfl)(h:Ent B As (K ⟨g,0,none⟩ x)):Ent B As (QCe (some ⟨g,0,none⟩) fun a=>QAq s (a.add off) (K a)):=
 Ent.perm f.perm (xgw 0 fun out=>QAQ (by
  rw[QAz]
  exact QAE (hv:=hv out) (h:=QQC g c os out (Ent.perm f.perm.symm h))))
theorem xgc[f:GwF g As c os F]{v:Value}{K:WP}(hv:∀out,(c.v out)[off]? = some v:=by intro _;rfl)(h:Ent B As K):Ent B As (QKv (Addr.add ⟨g,0,none⟩ off) v K):=
 Ent.perm f.perm (xgw 0 fun out=>by
  rw[QAz]
  exact QC6 (hv:=hv out) (h:=QQC g c os out (Ent.perm f.perm.symm h)))
theorem xgs[f:GwF g As c os F](c':GwC){v:Value}{K:WP}(hs:∀out,off<(c.v out).length∧(c.v out).set off v=c'.v out:=by intro _;exact⟨by simp,rfl⟩)(hv:v.oneCell'=true:=by rfl)(h:Ent B (GwB g c' os::F) K):Ent B As (QCe (some ⟨g,0,none⟩) fun a=>QBG (a.add off) v K):=
 Ent.perm f.perm (xgw 0 fun out=>QAQ (by
  rw[QAz]
  exact QHJ (cs:=c.v out) (List.Perm.refl _) (hs out).1 hv (List.Perm.refl _) (by rw[(hs out).2];exact QQC g c' os out h)))
end
theorem QUV{m:SeM}(h:QSx m)(now next:Int):(QJg m now next).2.length≤16∧∀n∈(QJg m now next).2,i64 n:=by
 obtain⟨⟨w1,w2⟩,_,_,b,s,t,tm,_⟩:=h;unfold QJg;split
 ·exact⟨Nat.zero_le _,fun n hn=>by cases hn⟩
 rename_i hr
 (try simp only)
 generalize hq:(if m.sent>m.base∧now≥m.since+m.resend then { m with top:=if next>m.top then next else m.top,sent:=m.base } else { m with top:=if next>m.top then next else m.top }:SeM)=q
 have hqs:m.base≤q.sent∧q.sent≤1099511627776:=by
  rw[←hq];split<;>simp only<;>omega
 have hm:(if m.base+m.window<next then m.base+m.window else next) - q.sent≤16∧(if m.base+m.window<next then m.base+m.window else next)≤1099511627776:=by split<;>omega
 by_cases hz:next≤q.sent∨(if m.base+m.window<next then m.base+m.window else next) - q.sent≤0
 ·rw[if_pos hz];exact⟨Nat.zero_le _,fun n hn=>by cases hn⟩
 rw[if_neg hz];refine⟨?_,fun n hn=>?_⟩
 ·simp only[List.length_map,List.length_range];omega
 ·obtain⟨i,hi,rfl⟩:=List.mem_map.1 hn;have:=List.mem_range.1 hi;exact⟨by omega,by omega⟩
def QOt(epoch:Int)(lg:LM)(n:Int):List QCS:=upM ⟨1,epoch,n,0,0,(QH6 lg n).1⟩
def QCV(epoch clock:Int)(lg:LM)(m:SeM):SeM×List QCS:=((QJg m clock lg.safe).1,(QJg m clock lg.safe).2.flatMap (QOt epoch lg))
theorem QTT{α:Type}{f:α→List QCS}(hf:∀x,(f x).length≤1):∀l:List α,(l.flatMap f).length≤l.length
 | []=>Nat.le_refl 0
 | x::l=>by have:=QTT hf l;have:=hf x;rw[List.flatMap_cons,List.length_append,List.length_cons];omega
theorem QJf{m:SeM}(h:QSx m)(epoch clock:Int)(lg:LM):(QCV epoch clock lg m).2.length≤16:=
 Nat.le_trans (QTT (fun n=>QOv _) _) (QUV h clock lg.safe).1
theorem QdE{q:Option Addr}{m:SeM}{h:QBe}(hg:QBA q m h):QSx m:=hg.1
theorem QH7(g:Nat)(c:GwC)(os:List QCS)(hl:os.length≤900000)(k:Kn)(m:SeM) :
  Ct Pr 133 [.pointer (some ⟨g,0,none⟩)] (.tup []) [] [GwB g c os,QA7 c.dev c.log c.idx k,QBA c.up m] emp
  (fun _ Bs=>Bs=[GwB g c (os++(QCV c.epoch c.clock k.log m).2),QA7 c.dev c.log c.idx k,QBA c.up (QCV c.epoch c.clock k.log m).1]):=by
 refine sp0 (QDA _) fun B _=>?_;unfold QDA mf QCV;dsimp only;refine QBx 2 (P1:=QBA c.up m) (fun f hf=>QdE hf) fun hse=>?_;obtain⟨hfew,hi64⟩:=QUV hse c.clock k.log.safe;refine QGn 1 fun hk=>QAO (xgf (h:=xgf (h:=xgf (h:=?_))));refine xd1 (QGB c.log c.dev k.log) (xgc (h:=xgc (h:=?_)));refine xcl (QQq c.up m c.clock k.log.safe) rdb ?_
 generalize QJg m c.clock k.log.safe=sm at *
 obtain⟨m',ns⟩:=sm;rintro⟨s,_⟩ _ rfl;simp only at hfew hi64⊢;refine QBM (ca1 ?_);refine QCm (E:=I64) (xs:=ns) s fun hsn _=>?_;refine QAK [Ar I64 s ns,GwB g c os,QAY c.log c.dev k.log,QAC c.dev k.dev,QBt c.idx c.dev c.log k.X,QBA c.up m'] ?_;refine QBP (fun n (x:Int) As'=>∃i:Nat,x=(i:Int)∧n=ns.length - i∧i≤ns.length∧As'=[Ar I64 s ns,GwB g c (os++(ns.take i).flatMap (QOt c.epoch k.log)),QAY c.log c.dev k.log,QAC c.dev k.dev,QBt c.idx c.dev c.log k.X,QBA c.up m']) ns.length ⟨0,rfl,rfl,by omega,by simp⟩ ?_;rintro n x As' K ⟨i,rfl,rfl,hi,rfl⟩ hK;refine QAA (fun h=>?_) (fun h=>?_)
 ·have hlt:i<ns.length:=by omega
  obtain⟨v,hv⟩:∃v,ns[i]? = some v:=⟨_,List.getElem?_eq_getElem hlt⟩;have hvi:=hi64 v (List.mem_of_getElem? hv)
  have etake:(ns.take (i+1)).flatMap (QOt c.epoch k.log)=(ns.take i).flatMap (QOt c.epoch k.log)++QOt c.epoch k.log v:=by rw[←QFN hv,List.flatMap_append];simp
  have hlen:((ns.take i).flatMap (QOt c.epoch k.log)).length≤16:=by
   have:=QTT (fun n=>QOv ⟨1,c.epoch,n,0,0,(QH6 k.log n).1⟩) (ns.take i)
   have h2:(ns.take i).length≤ns.length:=by rw[List.length_take];omega
   exact Nat.le_trans this (by omega)
  refine QAH (E:=I64) (xs:=ns) (s:=s) (k:=i) (h1:=hlt) (h:=fun _ _=>?_);refine QAN (E:=I64) (xs:=ns) (i:=i) hv (h:=xgf (h:=?_));refine xcl (QGU c.log c.dev k.log v hvi) rdb ?_;rintro⟨s1,r1,_⟩ _ ⟨_,rfl⟩;refine QBM (ca2 (xgf (h:=?_)));refine xd0 (QKH g c (os++(ns.take i).flatMap (QOt c.epoch k.log)) (by rw[List.length_append];omega) ⟨1,c.epoch,v,0,0,(QH6 k.log v).1⟩ (fun q=>by simp only at q;omega) s1) ?_;rw[QAF i (by omega)];refine QAK [Ar I64 s ns,GwB g c (os++(ns.take i).flatMap (QOt c.epoch k.log)++upM ⟨1,c.epoch,v,0,0,(QH6 k.log v).1⟩),QAY c.log c.dev k.log,QAC c.dev k.dev,QBt c.idx c.dev c.log k.X,QBA c.up m'] (hK (ns.length - (i+1)) _ _ (by omega) ⟨i+1,rfl,rfl,by omega,?_⟩);rw[etake,List.append_assoc];rfl
 ·rw[List.take_of_length_le (by omega)];refine QCs c.dev c.log c.idx k hk ?_;exact QAK [GwB g c (os++ns.flatMap (QOt c.epoch k.log)),QA7 c.dev c.log c.idx k,QBA c.up m'] (QAD rfl)
structure QdW where
 k:Kn
 lost:Int
 ok:Bool
def QZz(clock:Int)(k:Kn)(lost:Int)(r:RE):QdW:=
 let q:=QM0 clock k r
 if q.2=10 then ⟨q.1,lost,false⟩ else if q.2=0 then ⟨q.1,lost,true⟩ else ⟨q.1,IntKind.i64.wrap (lost+1),true⟩
def Qct(m:DM):Int:=m.room - (QBs m.fs:Int)
def QBn(clock:Int)(k:Kn)(lost:Int)(r:RE):QdW:=
 if r.kind=1∨r.kind=2 then
  if Qct k.dev<4096 then ⟨k,IntKind.i64.wrap (lost+1),true⟩
  else if lost>0 then
   let q:=QM0 clock k ⟨3,0,ByteArray.empty,lost,0⟩
   if q.2=10 then ⟨q.1,lost,false⟩ else if q.2=0 then QZz clock q.1 0 r else ⟨q.1,IntKind.i64.wrap (lost+1),true⟩
  else QZz clock k lost r
 else QZz clock k lost r
abbrev GwC.withLost(c:GwC)(l:Int):GwC:={ c with lost:=l }
theorem QFJ(g:Nat)(c:GwC)(os:List QCS)(k:Kn)(r:RE)(hs:r.tag.size≤1000000) :
  CtP QCl Pr 127 [.pointer (some ⟨g,0,none⟩),r.v] (.tup []) [] [GwB g c os,QA7 c.dev c.log c.idx k] GTab
  (fun t Bs=>(QBn c.clock k c.lost r).ok=true∧Bs=[GwB g (c.withLost (QBn c.clock k c.lost r).lost) os,QA7 c.dev c.log c.idx (QBn c.clock k c.lost r).k])
  (fun Bs=>(QBn c.clock k c.lost r).ok=false∧Bs=[GwB g (c.withLost (QBn c.clock k c.lost r).lost) os,QA7 c.dev c.log c.idx (QBn c.clock k c.lost r).k]):=by
 refine QdA (QDy _ _ _ _ _ _) fun B hr=>?_;haveI:=QKI hr;obtain⟨N,hN⟩:∃N,QBn c.clock k c.lost r=N:=⟨_,rfl⟩;rw[hN];unfold QDy mfP;dsimp only
 -- the last put
 have last:∀(k':Kn) (l:Int) (b:Nat),QZz c.clock k' l r=N→Ent B [GwB g (c.withLost l) os,QA7 c.dev c.log c.idx k',Blk b r.cells]
   (QAq (.I) ⟨b,0,none⟩ fun(n6:Int)=>QAq (.I) ⟨b,1,none⟩ fun(n7:Int)=>QAq .str ⟨b,2,none⟩ fun(t:ByteArray)=>QAq (.I) ⟨b,3,none⟩ fun(n8:Int)=>QAq (.I) ⟨b,4,none⟩ fun(n9:Int)=>QFK (Qcf B fun Bs=>N.ok=false∧Bs=[GwB g (c.withLost N.lost) os,QA7 c.dev c.log c.idx N.k]) 198 [.pointer (some ⟨g,0,none⟩),.agg #[.I n6,.I n7,.string t,.I n8,.I n9]] .one [.bool]<|fun(c2:Bool)=>QBc [] (fun K'3=>XIf (!c2) (QCe (some ⟨g,0,none⟩) fun a8=>QAq (.I) (a8.add 25) fun(n10:Int)=>QCe (some ⟨g,0,none⟩) fun a9=>QBG (a9.add 25) (.I (IntKind.i64.wrap (n10+1)))<|K'3) (K'3))<|Ret B (ss:=[]) (fun t Bs=>N.ok=true∧Bs=[GwB g (c.withLost N.lost) os,QA7 c.dev c.log c.idx N.k]) ()):=by
  rintro k' l b rfl;iterate 5 (refine xgq ?_)
  refine QST (QVL g (c.withLost l) os k' r hs) rdb ?_ ?_
  ·rintro⟨c2,_⟩ _ ⟨hne,hc2,rfl⟩;simp only at hc2;subst hc2;refine QBM (ca1 (QAJ (xif (fun h=>?_) (fun h=>?_))))
   ·have h0:¬(QM0 c.clock k' r).2=0:=by simpa using h
    refine xgf (h:=xgs (c.withLost (IntKind.i64.wrap (l+1))) (h:=?_))
    have e:QZz c.clock k' l r=⟨(QM0 c.clock k' r).1,IntKind.i64.wrap (l+1),true⟩:=by unfold QZz;simp only;rw[if_neg hne,if_neg h0]
    rw[e];exact QAK [GwB g (c.withLost (IntKind.i64.wrap (l+1))) os,QA7 c.dev c.log c.idx (QM0 c.clock k' r).1] (QAD ⟨rfl,rfl⟩)
   ·have h0:(QM0 c.clock k' r).2=0:=by simpa using h
    have e:QZz c.clock k' l r=⟨(QM0 c.clock k' r).1,l,true⟩:=by unfold QZz;simp only;rw[if_neg hne,if_pos h0]
    rw[e];exact QAK [GwB g (c.withLost l) os,QA7 c.dev c.log c.idx (QM0 c.clock k' r).1] (QAD ⟨rfl,rfl⟩)
  ·rintro _ ⟨he,rfl⟩
   have e:QZz c.clock k' l r=⟨(QM0 c.clock k' r).1,l,false⟩:=by unfold QZz;simp only;rw[if_pos he]
   rw[e];exact QBM (QAK [GwB g (c.withLost l) os,QA7 c.dev c.log c.idx (QM0 c.clock k' r).1] (QTk ⟨rfl,rfl⟩))
 unfold QBn at hN;refine QAL fun b=>xgq ?_;refine QAS (fun(x:Bool) As'=>(x=true↔(r.kind=1∨r.kind=2))∧As'=[Blk b r.cells,GwB g c os,QA7 c.dev c.log c.idx k]) (fun K hK=>?_) ?_
 ·exact xif (fun e=>hK _ _ ⟨⟨fun _=>.inl (eq_of_beq e),fun _=>rfl⟩,rfl⟩) (fun e=>QAE (h:=hK _ _ ⟨by have:=ne_of_beq_false e;rw[beq_iff_eq];omega,rfl⟩))
 rintro x _ ⟨hx,rfl⟩;refine QAJ (xif (fun h=>?_) (fun h=>?_))
 ·rw[if_pos (hx.1 h)]at hN;refine xgf (h:=QGn 2 fun hk=>?_);refine xd1 (QZU c.dev k.dev) ?_;refine QCs c.dev c.log c.idx k hk (QAA (fun hf=>?_) (fun hf=>?_))
  ·rw[if_pos (show Qct k.dev<4096 from hf)]at hN;subst hN;refine xgf (h:=xgs (c.withLost (IntKind.i64.wrap (c.lost+1))) (h:=?_));exact QAK [GwB g (c.withLost (IntKind.i64.wrap (c.lost+1))) os,QA7 c.dev c.log c.idx k] (QAD ⟨rfl,rfl⟩)
  ·rw[if_neg (show ¬Qct k.dev<4096 from hf)]at hN;refine xgf (h:=QAJ (QAA (fun hl=>?_) (fun hl=>?_)))
   ·rw[if_pos hl]at hN;refine xgf (h:=?_);refine QST (QVL g c os k ⟨3,0,ByteArray.empty,c.lost,0⟩ (show (0:Nat)≤1000000 by decide)) rdb ?_ ?_
    ·rintro⟨c1,_⟩ _ ⟨hne,hc1,rfl⟩;simp only at hc1 hN;subst hc1;rw[if_neg hne]at hN;refine QBM (ca1 (xif (fun h=>?_) (fun h=>?_)))
     ·rw[if_neg (by simpa using h)]at hN;subst hN;refine xgf (h:=xgs (c.withLost (IntKind.i64.wrap (c.lost+1))) (h:=?_));exact QAK [GwB g (c.withLost (IntKind.i64.wrap (c.lost+1))) os,QA7 c.dev c.log c.idx (QM0 c.clock k ⟨3,0,ByteArray.empty,c.lost,0⟩).1] (QAD ⟨rfl,rfl⟩)
     ·rw[if_pos (by simpa using h)]at hN;refine xgs (c.withLost 0) (h:=?_);exact QAK [GwB g (c.withLost 0) os,QA7 c.dev c.log c.idx (QM0 c.clock k ⟨3,0,ByteArray.empty,c.lost,0⟩).1,Blk b r.cells] (last _ 0 b hN)
    ·rintro _ ⟨he,rfl⟩;simp only at hN;rw[if_pos he]at hN;subst hN;exact QBM (QAK [GwB g c os,QA7 c.dev c.log c.idx (QM0 c.clock k ⟨3,0,ByteArray.empty,c.lost,0⟩).1] (QTk ⟨rfl,rfl⟩))
   ·rw[if_neg hl]at hN;exact QAK [GwB g c os,QA7 c.dev c.log c.idx k,Blk b r.cells] (last k c.lost b hN)
 ·rw[if_neg (fun q=>by rw[hx.2 q]at h;cases h)]at hN;exact QAK [GwB g c os,QA7 c.dev c.log c.idx k,Blk b r.cells] (last k c.lost b hN)
end Go.Cx
namespace Go.Cx.Od
open Go Go.Cf Go.Cx
set_option linter.unusedVariables false
set_option maxRecDepth 100000
variable {B:QBE}{As F:List HP}{α:Type}
theorem QIU{p:Option Addr}{m:DM}{g:QBe}(h:QAC p m g):∃b,p=some ⟨b,0,none⟩:=by
 obtain⟨_,b,_,_,h,_⟩:=h;exact⟨b,h⟩
theorem QSz{m:DM}(hi:DInv m)(nm:ByteArray):(QAW m nm).1.length≤16777216:=by
 unfold QAW
 cases ht:QAh m.fs nm.toList with
 | false=>simp
 | true=>
  obtain⟨hf,_⟩:=QCO (d:=⟨nm,[],0⟩) ht;have h1:=QBi hf;have h2:=hi.used;have h3:=hi.room;show (m.fs.getD (QAT m.fs nm.toList) ⟨nm,[],0⟩).b.length≤_;omega
def cmdN:ByteArray:=⟨#[99,109,100]⟩
abbrev JL:=List (Int×Int)
structure JM where
 dead:Bool
 L:JL
def QXO(id:Int):Bool:=decide (1≤id)&&decide (id≤1099511627776)
def QSQ(b:List UInt8):Nat:=beV (QKm b 1)
def QIE(L:JL)(b:List UInt8):Option JL:=
 if b.length<9 then none
 else if !(QXO (QSQ b)) then none
 else if b.getD 0 0=1∧b.length=9∧QBr L (QSQ b)=none∧L.length<1024 then some (L++[((QSQ b:Int),-1)])
 else if b.getD 0 0=2∧b.length=10∧(QBr L (QSQ b)).getD 0<0 then some (QL4 L (QSQ b) ((b.getD 9 0).toNat:Int))
 else none
def QDe:JL→List (List UInt8)→Option JL
 | L,[]=>some L
 | L,b::bs=>match QIE L b with
  | some L'=>QDe L' bs
  | none=>none
def QNB(id code:Int):List UInt8:=(if code<0 then [1] else [2])++be8 id.toNat++(if code<0 then [] else [UInt8.ofNat code.toNat])
def layJ(m:DM)(p:List UInt8):DM×Int:=if (QAM m cmdN (QAn p)).2=0 then QBK (QAM m cmdN (QAn p)).1 cmdN else QAM m cmdN (QAn p)
def mendJ(m:DM)(n len:Nat):DM×Int:=
 if n<len then (if (QBR m cmdN n).2≠0 then QBR m cmdN n else QBK (QBR m cmdN n).1 cmdN) else QBK m cmdN
def openJ(m:DM):DM×Int×Option JL:=
 if m.down then (m,10,none)
 else if (QAW m cmdN).2≠0 then (m,0,some [])
 else match QDe [] (QAv (QAW m cmdN).1).1 with
  | none=>(m,30,none)
  | some L=>if (mendJ m (QAv (QAW m cmdN).1).2 (QAW m cmdN).1.length).2=0 then ((mendJ m (QAv (QAW m cmdN).1).2 (QAW m cmdN).1.length).1,0,some L)
   else ((mendJ m (QAv (QAW m cmdN).1).2 (QAW m cmdN).1.length).1,(mendJ m (QAv (QAW m cmdN).1).2 (QAW m cmdN).1.length).2,none)
def laidJ(m:DM)(J:JM)(p:List UInt8)(L:JL):DM×JM×Int:=
 if (layJ m p).2=0 then ((layJ m p).1,⟨J.dead,L⟩,0) else ((layJ m p).1,⟨decide ((layJ m p).2=10),J.L⟩,(layJ m p).2)
def beginJ(m:DM)(J:JM)(id:Int):DM×JM×Int:=
 if J.dead then (m,J,10)
 else if !(QXO id) then (m,J,3)
 else if (QBr J.L id).isSome then (m,J,7)
 else if J.L.length≥1024 then (m,J,34)
 else laidJ m J (QNB id (-1)) (J.L++[(id,-1)])
def endJ(m:DM)(J:JM)(id code:Int):DM×JM×Int:=
 if J.dead then (m,J,10)
 else if code<0∨code>255 then (m,J,3)
 else match QBr J.L id with
  | none=>(m,J,6)
  | some c=>if c≥0 then (m,J,7) else laidJ m J (QNB id code) (QL4 J.L id code)
def stateJ(L:JL)(id:Int):Int×Int:=match QBr L id with
 | none=>(0,0)
 | some c=>if c<0 then (1,0) else (2,c)
def leftJ(L:JL):List Int:=(L.filter fun p=>decide (p.2<0)).map (·.1)
structure QcL(L:JL):Prop where
 nodup:(L.map (·.1)).Nodup
 ids:∀p∈L,QXO p.1=true
 codes:∀p∈L,-1≤p.2∧p.2≤255
 len:L.length≤1024
theorem QL0{β:Type}:∀{L:List (Int×β)}{k:Int}{v:β},QBr L k=some v→(k,v)∈L
 | [],_,_,h=>by cases h
 | p::L,k,v,h=>by
  unfold QBr at h;split at h
  ·rename_i e;subst e
   simp only[Option.some.injEq]at h;subst h;exact List.mem_cons_self ..
  ·exact List.mem_cons_of_mem _ (QL0 h)
theorem QNj{β:Type}:∀{L:List (Int×β)}{k:Int},QBr L k=none↔∀p∈L,p.1≠k
 | [],_=>by simp[QBr]
 | p::L,k=>by
  unfold QBr;by_cases e:k=p.1
  ·rw[if_pos e];constructor
   ·intro h;cases h
   ·intro h;exact absurd e.symm (h p (List.mem_cons_self ..))
  ·rw[if_neg e,QNj (L:=L)];constructor
   ·intro h q hq;simp only[List.mem_cons]at hq;rcases hq with rfl|hq
    ·exact fun h'=>e h'.symm
    ·exact h q hq
   ·intro h q hq;exact h q (List.mem_cons_of_mem _ hq)
theorem QG8{β:Type}:∀{L:List (Int×β)}{k:Int}{v x:β},QBr L k=some v→(QL4 L k x).map (·.1)=L.map (·.1)
 | [],_,_,_,h=>by cases h
 | p::L,k,v,x,h=>by
  unfold QBr at h;unfold QL4;split at h
  ·rename_i e;rw[if_pos e];simp[e]
  ·rename_i e;rw[if_neg e];simp[QG8 h]
theorem QP3{β:Type}:∀{L:List (Int×β)}{k:Int}{x:β}{p:Int×β},p∈QL4 L k x→p∈L∨p=(k,x)
 | [],_,_,_,h=>by simp[QL4]at h;exact .inr h
 | q::L,k,x,p,h=>by
  unfold QL4 at h;split at h
  ·simp only[List.mem_cons]at h⊢;rcases h with h|h
   ·exact .inr h
   ·exact .inl (.inr h)
  ·simp only[List.mem_cons]at h⊢;rcases h with h|h
   ·exact .inl (.inl h)
   ·rcases QP3 h with h|h
    ·exact .inl (.inr h)
    ·exact .inr h
theorem Qbe{β:Type}{L:List (Int×β)}{k:Int}{v x:β}(h:QBr L k=some v):(QL4 L k x).length=L.length:=by
 have:=congrArg List.length (QG8 (x:=x) h);simpa using this
theorem QbR:QcL []:=⟨by simp,by simp,by simp,by simp⟩
theorem QOR{L:JL}(h:QcL L){id:Int}(h1:QBr L id=none)(h2:QXO id=true)(h3:L.length<1024):QcL (L++[(id,-1)]):=by
 refine⟨?_,?_,?_,by simp;omega⟩
 ·rw[List.map_append,List.nodup_append];refine⟨h.nodup,by simp,?_⟩;intro a ha b hb;simp only[List.map_cons,List.map_nil,List.mem_singleton]at hb;subst hb;obtain⟨p,hp,rfl⟩:=List.mem_map.1 ha;exact QNj.1 h1 p hp
 ·intro p hp;simp only[List.mem_append,List.mem_singleton]at hp;rcases hp with hp|rfl
  ·exact h.ids p hp
  ·exact h2
 ·intro p hp;simp only[List.mem_append,List.mem_singleton]at hp;rcases hp with hp|rfl
  ·exact h.codes p hp
  ·exact⟨Int.le_refl _,show (-1:Int)≤255 by decide⟩
theorem QVR{L:JL}(h:QcL L){id v code:Int}(h1:QBr L id=some v)(h2 : -1≤code∧code≤255):QcL (QL4 L id code):=by
 refine⟨by rw[QG8 h1];exact h.nodup,?_,?_,by rw[Qbe h1];exact h.len⟩
 ·intro p hp;rcases QP3 hp with hp|rfl
  ·exact h.ids p hp
  ·exact h.ids (id,v) (QL0 h1)
 ·intro p hp;rcases QP3 hp with hp|rfl
  ·exact h.codes p hp
  ·exact h2
theorem QUk(id code:Int):(QNB id code).length=if code<0 then 9 else 10:=by
 unfold QNB;split<;>simp[QMn]
theorem QdF{L:JL}(h:(L.map (·.1)).Nodup):leftJ L=((L.map (·.1)).filter fun id=>decide ((QBr L id).getD 0<0)):=by
 have key:∀(p:Int×Int),p∈L→QBr L p.1=some p.2:=by
  induction L with
  | nil=>intro p hp;cases hp
  | cons q L ih=>
   intro p hp;simp only[List.map_cons,List.nodup_cons]at h;simp only[List.mem_cons]at hp;unfold QBr;rcases hp with rfl|hp
   ·rw[if_pos rfl]
   ·have hne:¬p.1=q.1:=fun e=>h.1 (by rw[←e];exact List.mem_map_of_mem hp);rw[if_neg hne];exact ih h.2 p hp
 unfold leftJ;rw[List.filter_map];congr 1;apply List.filter_congr;intro p hp;simp[key p hp]
theorem Qf6{s:Sl}{l r m:Nat}{sz:Nat}{K:Sl→WP}(h1:l≤r)(h2:r≤m)(h3:m≤s.c)(h:Ent B As (K (s.cut l r m sz))):Ent B As (QQU s (l:Int) (r:Int) (m:Int) sz K):=QEh (by omega) (by omega) (by omega) (by omega) h
abbrev QKW(d:Option Addr)(r:Option Nat)(s:Sl)(dead:Bool):List Value:=[.pointer d,.map r,s.v,.bool dead]
def JObj(d q:Option Addr)(J:JM):HP:=fun h=>QcL J.L∧∃b r s,q=some ⟨b,0,none⟩∧QBl [Blk b (QKW d r s J.dead),QOn (.I) r J.L,Ar I64 s (J.L.map (·.1))] h
theorem xjo(i:Nat){d q:Option Addr}{dead:Bool}{L:JL}{F:List HP}[p:Pick i As (JObj d q ⟨dead,L⟩) F]{φ:WP}
  (k:QcL L→∀b r s,q=some ⟨b,0,none⟩→Ent B (Blk b (QKW d r s dead)::QOn (.I) r L::Ar I64 s (L.map (·.1))::F) φ):Ent B As φ:=by
 refine Ent.perm p.perm ?_;intro w hw;obtain⟨g,⟨a,c,⟨hi,b,r,s,hp,pa⟩,pc,d,sa,sc⟩,hm,hu⟩:=hw;exact k hi b r s hp w ⟨g,(QAj [_,_,_] F).2 ⟨a,c,pa,pc,d,sa,sc⟩,hm,hu⟩
theorem QBO(d:Option Addr)(b:Nat)(r:Option Nat)(s:Sl)(dead:Bool){L:JL}{G:List HP}[q:Split [Blk b (QKW d r s dead),QOn (.I) r L,Ar I64 s (L.map (·.1))] As G]{φ:WP}
  (hi:QcL L) (k:Ent B (JObj d (some ⟨b,0,none⟩) ⟨dead,L⟩::G) φ):Ent B As φ:=
 QBQ [Blk b (QKW d r s dead),QOn (.I) r L,Ar I64 s (L.map (·.1))] (JObj d (some ⟨b,0,none⟩) ⟨dead,L⟩) (fun g hg=>⟨hi,b,r,s,rfl,hg⟩) k
theorem QfM(y:UInt8)(n:Nat)(hn:n<256):((y.toNat:Int) == (n:Int))=decide (y=UInt8.ofNat n):=by
 rw[Bool.eq_iff_iff];simp only[beq_iff_eq,decide_eq_true_eq,Int.natCast_inj];constructor
 ·intro h;apply UInt8.toNat_inj.1;rw[UInt8.toNat_ofNat'];omega
 ·intro h;rw[h,UInt8.toNat_ofNat'];omega
theorem QcA(m k:Nat):(((m:Nat):Int) == (k:Int))=decide (m=k):=by
 rw[Bool.eq_iff_iff];simp only[beq_iff_eq,decide_eq_true_eq,Int.natCast_inj]
theorem Qfr(y:UInt8){n m:Nat}(h:m=n)(o:Option Int):(((((y.toNat:Nat):Int) == 1)&&(((n:Nat):Int) == 9))&&(!o.isSome))=decide (y=1∧m=9∧o=none):=by
 subst h;rw[show (((y.toNat:Nat):Int) == 1)=decide (y=1) from QfM y 1 (by decide),show (((m:Nat):Int) == 9)=decide (m=9) from QcA m 9];cases o<;>simp
theorem Qfv(y:UInt8){n m:Nat}(h:m=n)(o:Option Int):((((((y.toNat:Nat):Int) == 2)&&(((n:Nat):Int) == 10))&&o.isSome)&&decide (o.getD 0<0))=decide (y=2∧m=10∧o.getD 0<0):=by
 subst h;rw[show (((y.toNat:Nat):Int) == 2)=decide (y=2) from QfM y 2 (by decide),show (((m:Nat):Int) == 10)=decide (m=10) from QcA m 10];cases o<;>simp[Bool.and_assoc]
theorem QUj(x:Int):(decide (x<1)||decide (x>1099511627776)) = !(QXO x):=by
 unfold QXO;rw[Bool.eq_iff_iff];simp
def QVG(d q:Option Addr)(dead:Bool)(L:JL)(xs:List UInt8):Tup [.bool]→List HP→Prop:=fun t Bs=>
 (t.1=true∧∃L',QIE L xs=some L'∧Bs=[JObj d q ⟨dead,L'⟩])∨(t.1=false∧QIE L xs=none∧Bs=[])
theorem QGj(d q:Option Addr)(dead:Bool)(L:JL)(b:Sl)(xs:List UInt8)(hcap:b.n≤b.c) :
  Ct Pr 185 [.pointer q,b.v] .one [.bool] [JObj d q ⟨dead,L⟩] (RAr U8 b xs) (QVG d q dead L xs):=by
 refine sp1 (QEV _ _) fun B hr=>?_;have fb:Fro B b U8 xs:=⟨hr⟩;have hb:=hr.1;unfold QEV mf;dsimp only;have no:QIE L xs=none→∀{As:List HP},Ent B As (Ret B (QVG d q dead L xs) (false,())):=fun h _=>QAa (l:=[]) (QAD (.inr ⟨rfl,h,rfl⟩));refine QAA (fun h=>no (by unfold QIE;rw[if_pos (by omega)])) (fun h9=>?_);refine Qf6 (l:=1) (r:=9) (by omega) (by omega) (Nat.le_refl _) ?_;have fc:Fro B (b.cut 1 9 b.c 1) U8 (QKm xs 1):=⟨hr.cut 1 9 b.c (by omega) (by omega) (by omega)⟩;have hq:=QVV (xs:=xs) (a:=1) (by omega);have hsn:=fc.rd.1;refine QBb (fun(n:Nat) (v:Int) (i:Int) As=>∃k:Nat,i=(k:Int)∧v=((beV ((QKm xs 1).take k):Nat):Int)∧n=8 - k∧k≤8∧As=[JObj d q ⟨dead,L⟩]) 8 ⟨0,rfl,rfl,rfl,by omega,rfl⟩ ?_;rintro n _ _ _ K ⟨k,rfl,rfl,rfl,hk,rfl⟩ hK;refine QAA (fun h=>?_) (fun h=>?_)
 ·have hk8:k<8:=by omega
  have hx:=List.getElem?_eq_getElem (l:=QKm xs 1) (i:=k) (by omega);refine QAH (h1:=by omega) (h:=fun _ _=>?_);refine QAN hx (h:=QA6 (by decide) ?_);rw[QfW _ _ (QJH hq hk8),QAF k (by omega)];exact hK (8 - (k+1)) _ _ _ (by omega) ⟨k+1,rfl,by rw[QKp hx],rfl,by omega,rfl⟩
 have hk8:k=8:=by omega
 subst hk8;rw[List.take_of_length_le (by omega),show beV (QKm xs 1)=QSQ xs from rfl,QUj];refine xif (fun h=>no ?_) (fun h=>?_)
 ·unfold QIE;rw[if_neg (by omega),if_pos h]
 have hok:QXO (QSQ xs)=true:=by simpa using h
 have hok':1≤((QSQ xs:Nat):Int)∧((QSQ xs:Nat):Int)≤1099511627776:=by simpa [QXO]using hok
 have hw:IntKind.i64.wrap ((QSQ xs:Nat):Int)=((QSQ xs:Nat):Int):=QAB _ (by omega) (by omega);rw[hw]
 have hgo:QIE L xs=if xs.getD 0 0=1∧xs.length=9∧QBr L (QSQ xs)=none∧L.length<1024 then some (L++[((QSQ xs:Int),-1)])
   else if xs.getD 0 0=2∧xs.length=10∧(QBr L (QSQ xs)).getD 0<0 then some (QL4 L (QSQ xs) ((xs.getD 9 0).toNat:Int)) else none:=by
  unfold QIE;rw[if_neg (by omega),if_neg (by rw[hok];simp)]
 generalize ((QSQ xs:Nat):Int)=id at *
 refine xjo 0 fun hi b0 r s hq0=>?_;subst hq0;refine QAQ (xgq ?_);refine QbE (.I) ?_;have x0:=List.getElem?_eq_getElem (l:=xs) (i:=0) (by omega);have g0:=QCf x0;generalize xs[0]=y0 at x0 g0;rw[g0]at hgo;refine QAH (k:=0) (h1:=by omega) (h:=fun _ _=>?_);refine QAN x0 (h:=?_);refine QCm s fun hsl _=>?_;simp only[List.length_map]at hsl;rw[Qfr y0 hb];refine QAJ (QAA (fun hA=>?_) (fun hA=>?_))
 ·obtain⟨rfl,hl9,hn⟩:=hA;refine QAQ (xgq ?_);refine QAJ (QAA (fun hlen=>?_) (fun hlen=>?_))
  ·have hlen:L.length<1024:=by omega
   rw[if_pos ⟨rfl,hl9,hn,hlen⟩]at hgo;refine QAQ (xgq ?_);refine QfO (.I) (-1) (h:=?_)
   have hset:QL4 L id (-1)=L++[(id,-1)]:=by
    rcases QFB (Value.int .i64) id L 0 with⟨_,_,h3⟩|⟨_,_,_,_,h3,_⟩
    ·exact h3 _
    ·rw[hn]at h3;cases h3
   rw[hset];refine QAQ (xgq (QAL fun b1=>?_));refine QEc id (hb:=by simp;omega) (h:=fun s3=>?_);refine QAQ (xsq ?_);rw[show L.map (·.1)++[id]=(L++[(id,(-1:Int))]).map (·.1) by simp];refine QBO d b0 r s3 dead (QOR hi hn hok hlen) ?_;exact QAD (.inl ⟨rfl,_,hgo,rfl⟩)
  ·refine QAH (k:=0) (h1:=by omega) (h:=fun _ _=>?_);refine QAN x0 (h:=QBF rfl (no ?_));rw[hgo,if_neg (fun h=>hlen (by have:=h.2.2.2;omega)),if_neg (fun h=>absurd h.1 (by decide))]
 ·rw[if_neg (fun h=>hA ⟨h.1,h.2.1,h.2.2.1⟩)]at hgo;refine QAJ (QBF rfl ?_);refine QAH (k:=0) (h1:=by omega) (h:=fun _ _=>?_);refine QAN x0 (h:=?_);rw[Qfv y0 hb];refine QAA (fun hB=>?_) (fun hB=>no (by rw[hgo,if_neg hB]));rw[if_pos hB]at hgo;obtain⟨rfl,hl10,hneg⟩:=hB;have x9:=List.getElem?_eq_getElem (l:=xs) (i:=9) (by omega);rw[QCf x9]at hgo;have hy9:=(xs[9]'(by omega)).toNat_lt
  generalize xs[9]=y9 at *
  refine QAO (QAQ (xgq ?_));refine QAH (k:=9) (h1:=by omega) (h:=fun _ _=>?_);refine QAN x9 (h:=?_);rw[QAB ((y9.toNat:Nat):Int) (by omega) (by omega)];refine QfO (.I) ((y9.toNat:Nat):Int) (h:=?_)
  obtain⟨v,hv⟩:∃v,QBr L id=some v:=by
   cases hl:QBr L id with
   | none=>rw[hl]at hneg;exact absurd hneg (by decide)
   | some v=>exact⟨v,rfl⟩
  rw[←QG8 (x:=((y9.toNat:Nat):Int)) hv];refine QBO d b0 r s dead (QVR (code:=((y9.toNat:Nat):Int)) hi hv ⟨by omega,by omega⟩) ?_;exact QAD (.inl ⟨rfl,_,hgo,rfl⟩)
theorem QR0(kind:UInt8)(id:Int)(hid:QXO id=true)(rest:Sl)(ys:List UInt8)(hy:ys.length≤10):Ct Pr 200 [.int .u8 (kind.toNat:Int),.I id,rest.v] .one [.slice] [] (RAr U8 rest ys)
  (fun t Bs=>Bs=[Ar U8 t.1 ([kind]++be8 id.toNat++ys)]):=by
 refine sp1 (QJ2 _ _ _) fun B hr=>?_;have fb:Fro B rest U8 ys:=⟨hr⟩
 have hid':1≤id∧id≤1099511627776:=by simpa [QXO]using hid
 unfold QJ2 mf;dsimp only;refine QAL fun b=>?_;refine QAe (Q:=Ar U8 ⟨some ⟨b,0,none⟩,1,1⟩ [kind]) 0 (fun g hg=>⟨[],QAm [kind] 1 rfl rfl hg⟩) ?_;refine QBb (fun n s i As=>∃k:Nat,i=56 - 8*(k:Int)∧n=8 - k∧k≤8∧As=[Ar U8 s ([kind]++(be8 id.toNat).take k)]) 8 ⟨0,rfl,rfl,by omega,rfl⟩ ?_;rintro n s _ _ K ⟨k,rfl,rfl,hk,rfl⟩ hK;have hbl:=QMn id.toNat;refine QAA (fun h=>?_) (fun h=>?_)
 ·have hk8:k<8:=by omega
  refine QA6 h (QAL fun b2=>?_)
  have e1:(2:Int) ^ (min (Int.toNat (56 - 8*(k:Int))) 64)=((256 ^ (7 - k):Nat):Int):=by
   have:∀k:Nat,k<8→(2:Int) ^ (min (Int.toNat (56 - 8*(k:Int))) 64)=((256 ^ (7 - k):Nat):Int):=by decide
   exact this k hk8
  have e2:id=((id.toNat:Nat):Int):=by omega
  have e3:Int.fdiv id (2 ^ (min (Int.toNat (56 - 8*(k:Int))) 64))=((id.toNat / 256 ^ (7 - k):Nat):Int):=by
   rw[e1]
   conv=>lhs;rw[e2]
   exact QCw _ _ _ rfl
  rw[e3,QAr];refine QEc (UInt8.ofNat (id.toNat / 256 ^ (7 - k))) (hb:=by simp;omega) (h:=fun s'=>?_);rw[show IntKind.i64.wrap (56 - 8*(k:Int) - 8)=56 - 8*((k+1:Nat):Int) by rw[QAB _ (by omega) (by omega)];omega];refine hK (8 - (k+1)) _ _ _ (by omega) ⟨k+1,rfl,rfl,by omega,?_⟩;rw[List.take_add_one,QZr _ hk8,List.append_assoc];rfl
 ·have hk8:k=8:=by omega
  subst hk8;rw[List.take_of_length_le (by omega)];refine QHb (y:=rest) (hb:=by simp[hbl];omega) (h:=fun s1=>?_);exact QAD rfl
theorem QUO(d q:Option Addr)(m:DM)(L:JL)(p:Sl)(xs:List UInt8)(hm:xs.length≤1024):Ct Pr 199 [.pointer q,p.v] .one [.I] [JObj d q ⟨false,L⟩,QAC d m] (RAr U8 p xs)
  (fun t Bs=>t.1=(layJ m xs).2∧Bs=[JObj d q ⟨decide ((layJ m xs).2=10),L⟩,QAC d (layJ m xs).1]):=by
 refine sp1 (QEo _ _) fun B hr=>?_;have fb:Fro B p U8 xs:=⟨hr⟩;unfold QEo mf;dsimp only;refine xcl (QFw p xs hm) rdb ?_;rintro⟨s,r,_⟩ _ ⟨_,rfl⟩;refine QA5 (ca2 ?_);refine xjo 1 fun hi b0 rm sb hq=>?_;subst hq;refine QAQ (xgq ?_);refine xcl (QH3 d m cmdN s (QAn xs)) rdb ?_;rintro⟨r1,_⟩ _ ⟨h1,rfl⟩;simp only at h1;subst h1;refine QA5 (ca1 ?_);refine QAS (fun e As'=>e=(layJ m xs).2∧As'=[QAC d (layJ m xs).1,Blk b0 (QKW d rm sb false),QOn (.I) rm L,Ar I64 sb (L.map (·.1))]) ?_ ?_
 ·intro J hJ;refine xif (fun h=>?_) (fun h=>?_)
  ·have h:(QAM m cmdN (QAn xs)).2=0:=by simpa using h
   have e:layJ m xs=QBK (QAM m cmdN (QAn xs)).1 cmdN:=by unfold layJ;rw[if_pos h]
   refine QAQ (xgq ?_);refine xcl (QHD d (QAM m cmdN (QAn xs)).1 cmdN) rdb ?_;rintro⟨r2,_⟩ _ ⟨h2,rfl⟩;simp only at h2;subst h2;refine QA5 (ca1 ?_);rw[←e];exact QAK [QAC d (layJ m xs).1,Blk b0 (QKW d rm sb false),QOn (.I) rm L,Ar I64 sb (L.map (·.1))] (hJ _ _ ⟨rfl,rfl⟩)
  ·have h:¬(QAM m cmdN (QAn xs)).2=0:=by simpa using h
   have e:layJ m xs=QAM m cmdN (QAn xs):=by unfold layJ;rw[if_neg h]
   rw[←e];exact QAK [QAC d (layJ m xs).1,Blk b0 (QKW d rm sb false),QOn (.I) rm L,Ar I64 sb (L.map (·.1))] (hJ _ _ ⟨rfl,rfl⟩)
 ·rintro _ _ ⟨rfl,rfl⟩;refine QAJ (xif (fun h=>?_) (fun h=>?_))
  ·have h:(layJ m xs).2=10:=by simpa using h
   refine QAQ (xsq ?_);refine QBO d b0 rm sb true hi (QAD ⟨rfl,?_⟩);rw[h];rfl
  ·have h:¬(layJ m xs).2=10:=by simpa using h
   refine QBO d b0 rm sb false hi (QAD ⟨rfl,?_⟩);rw[decide_eq_false h]
theorem Begin_spec(d q:Option Addr)(m:DM)(J:JM)(id:Int):Ct Pr 326 [.pointer q,.I id] .one [.I] [JObj d q J,QAC d m] emp
  (fun t Bs=>t.1=(beginJ m J id).2.2∧Bs=[JObj d q (beginJ m J id).2.1,QAC d (beginJ m J id).1]):=by
 refine sp1 (QD5 _ _) fun B _=>?_;unfold QD5 mf;dsimp only;obtain⟨dead,L⟩:=J;refine xjo 0 fun hi b0 r s hq=>?_;subst hq;refine QAQ (xgq ?_);refine QbE (.I) ?_;refine QAQ (xgq ?_);refine QCm s fun hsl _=>?_;simp only[List.length_map]at hsl;refine xif (fun hd=>?_) (fun hd=>?_)
 ·have hd:dead=true:=hd
  have e:beginJ m ⟨dead,L⟩ id=(m,⟨dead,L⟩,10):=by unfold beginJ;rw[if_pos hd]
  rw[e];exact QBO d b0 r s dead hi (QAD ⟨rfl,rfl⟩)
 have hd:dead=false:=by simpa using hd
 subst hd;rw[QUj];refine xif (fun ho=>?_) (fun ho=>?_)
 ·have e:beginJ m ⟨false,L⟩ id=(m,⟨false,L⟩,3):=by unfold beginJ;rw[if_neg (by simp),if_pos ho]
  rw[e];exact QBO d b0 r s false hi (QAD ⟨rfl,rfl⟩)
 have ho':QXO id=true:=by simpa using ho
 refine xif (fun hk=>?_) (fun hk=>?_)
 ·have e:beginJ m ⟨false,L⟩ id=(m,⟨false,L⟩,7):=by unfold beginJ;rw[if_neg (by simp),if_neg (by simpa using ho),if_pos hk]
  rw[e];exact QBO d b0 r s false hi (QAD ⟨rfl,rfl⟩)
 have hn:QBr L id=none:=by simpa using hk
 refine QAQ (xgq ?_);refine QAA (fun hl=>?_) (fun hl=>?_)
 ·have e:beginJ m ⟨false,L⟩ id=(m,⟨false,L⟩,34):=by unfold beginJ;rw[if_neg (by simp),if_neg (by simpa using ho),if_neg (by simpa using hk),if_pos (by simp only;omega)]
  rw[e];exact QBO d b0 r s false hi (QAD ⟨rfl,rfl⟩)
 have hl:L.length<1024:=by omega
 have e:beginJ m ⟨false,L⟩ id=laidJ m ⟨false,L⟩ (QNB id (-1)) (L++[(id,-1)]):=by unfold beginJ;rw[if_neg (by simp),if_neg (by simpa using ho),if_neg (by simpa using hk),if_neg (by simp only;omega)]
 rw[e];refine QAd U8 ?_;refine xcl (QR0 1 id ho' ⟨none,0,0⟩ [] (by decide)) rdb ?_;rintro⟨s1,_⟩ _ rfl;refine QA5 (ca1 ?_);rw[show [(1:UInt8)]++be8 id.toNat++[]=QNB id (-1) from rfl];refine QBO d b0 r s false hi ?_;refine xcl (QUO d (some ⟨b0,0,none⟩) m L s1 (QNB id (-1)) (by rw[QUk];decide)) rdb ?_;rintro⟨r1,_⟩ _ ⟨h1,rfl⟩;simp only at h1;subst h1;refine QBM (ca1 ?_);refine xif (fun h=>?_) (fun h=>?_)
 ·have h:¬(layJ m (QNB id (-1))).2=0:=by simpa using h
  unfold laidJ;rw[if_neg h];exact QAK [JObj d (some ⟨b0,0,none⟩) ⟨decide ((layJ m (QNB id (-1))).2=10),L⟩,QAC d (layJ m (QNB id (-1))).1] (QAD ⟨rfl,rfl⟩)
 ·have h:(layJ m (QNB id (-1))).2=0:=by simpa using h
  unfold laidJ;rw[if_pos h,h];refine xjo 0 fun hi b1 r s hq=>?_;cases hq;refine QAQ (xgq ?_);refine QfO (.I) (-1) (h:=?_)
  have hset:QL4 L id (-1)=L++[(id,-1)]:=by
   rcases QFB (Value.int .i64) id L 0 with⟨_,_,h3⟩|⟨_,_,_,_,h3,_⟩
   ·exact h3 _
   ·rw[hn]at h3;cases h3
  rw[hset];refine QAQ (xgq (QAL fun b2=>?_));refine QEc id (hb:=by simp;omega) (h:=fun s3=>?_);refine QAQ (xsq ?_);rw[show L.map (·.1)++[id]=(L++[(id,(-1:Int))]).map (·.1) by simp];refine QBO d b0 r s3 (decide ((0:Int)=10)) (QOR hi hn ho' hl) ?_;exact QAK [JObj d (some ⟨b0,0,none⟩) ⟨decide ((0:Int)=10),L++[(id,-1)]⟩,QAC d (layJ m (QNB id (-1))).1] (QAD ⟨rfl,rfl⟩)
theorem End_spec(d q:Option Addr)(m:DM)(J:JM)(id code:Int):Ct Pr 130 [.pointer q,.I id,.I code] .one [.I] [JObj d q J,QAC d m] emp
  (fun t Bs=>t.1=(endJ m J id code).2.2∧Bs=[JObj d q (endJ m J id code).2.1,QAC d (endJ m J id code).1]):=by
 refine sp1 (QE2 _ _ _) fun B _=>?_;unfold QE2 mf;dsimp only;obtain⟨dead,L⟩:=J;refine xjo 0 fun hi b0 r s hq=>?_;subst hq;refine QAQ (xgq ?_);refine QbE (.I) ?_;refine QAQ (xgq ?_);refine xif (fun hd=>?_) (fun hd=>?_)
 ·have hd:dead=true:=hd
  have e:endJ m ⟨dead,L⟩ id code=(m,⟨dead,L⟩,10):=by unfold endJ;rw[if_pos hd]
  rw[e];exact QBO d b0 r s dead hi (QAD ⟨rfl,rfl⟩)
 have hd:dead=false:=by simpa using hd
 subst hd;refine xif (fun ho=>?_) (fun ho=>?_)
 ·have e:endJ m ⟨false,L⟩ id code=(m,⟨false,L⟩,3):=by unfold endJ;rw[if_neg (by simp),if_pos (by simpa using ho)]
  rw[e];exact QBO d b0 r s false hi (QAD ⟨rfl,rfl⟩)
 have ho:¬(code<0∨code>255):=by simpa using ho
 refine xif (fun hk=>?_) (fun hk=>?_)
 ·have hn:QBr L id=none:=by simpa using hk
  have e:endJ m ⟨false,L⟩ id code=(m,⟨false,L⟩,6):=by unfold endJ;rw[if_neg (by simp),if_neg ho];simp only[hn]
  rw[e];exact QBO d b0 r s false hi (QAD ⟨rfl,rfl⟩)
 obtain⟨c,hc⟩:∃c,QBr L id=some c:=Option.isSome_iff_exists.1 (by simpa using hk);have hid:QXO id=true:=hi.ids _ (QL0 hc);rw[hc];refine QAA (fun hl=>?_) (fun hl=>?_)
 ·have hl:c≥0:=hl
  have e:endJ m ⟨false,L⟩ id code=(m,⟨false,L⟩,7):=by unfold endJ;rw[if_neg (by simp),if_neg ho];simp only[hc];rw[if_pos hl]
  rw[e];exact QBO d b0 r s false hi (QAD ⟨rfl,rfl⟩)
 have hl:¬c≥0:=hl
 have e:endJ m ⟨false,L⟩ id code=laidJ m ⟨false,L⟩ (QNB id code) (QL4 L id code):=by unfold endJ;rw[if_neg (by simp),if_neg ho];simp only[hc];rw[if_neg hl]
 rw[e]
 have ec:IntKind.u8.wrap code=((UInt8.ofNat code.toNat).toNat:Int):=by
  have:=QAr code.toNat
  rwa [show ((code.toNat:Nat):Int)=code by omega]at this
 rw[ec];refine QAL fun b=>?_;refine QAe (Q:=Ar U8 ⟨some ⟨b,0,none⟩,1,1⟩ [UInt8.ofNat code.toNat]) 0 (fun g hg=>⟨[],QAm [UInt8.ofNat code.toNat] 1 rfl rfl hg⟩) ?_;refine xcl (QR0 2 id hid ⟨some ⟨b,0,none⟩,1,1⟩ [UInt8.ofNat code.toNat] (by simp)) rdb ?_;rintro⟨s1,_⟩ _ rfl;refine QA5 (ca1 ?_)
 have er:[(2:UInt8)]++be8 id.toNat++[UInt8.ofNat code.toNat]=QNB id code:=by unfold QNB;rw[if_neg (by omega),if_neg (by omega)]
 rw[er];refine QBO d b0 r s false hi ?_;refine xcl (QUO d (some ⟨b0,0,none⟩) m L s1 (QNB id code) (by rw[QUk];split<;>decide)) rdb ?_;rintro⟨r1,_⟩ _ ⟨h1,rfl⟩;simp only at h1;subst h1;refine QBM (ca1 ?_);refine xif (fun h=>?_) (fun h=>?_)
 ·have h:¬(layJ m (QNB id code)).2=0:=by simpa using h
  unfold laidJ;rw[if_neg h];exact QAK [JObj d (some ⟨b0,0,none⟩) ⟨decide ((layJ m (QNB id code)).2=10),L⟩,QAC d (layJ m (QNB id code)).1] (QAD ⟨rfl,rfl⟩)
 ·have h:(layJ m (QNB id code)).2=0:=by simpa using h
  unfold laidJ;rw[if_pos h,h];refine xjo 0 fun hi b1 r s hq=>?_;cases hq;refine QAQ (xgq ?_);refine QfO (.I) code (h:=?_);rw[←QG8 (x:=code) hc];refine QBO d b0 r s (decide ((0:Int)=10)) (QVR (code:=code) hi hc ⟨by omega,by omega⟩) ?_;exact QAK [JObj d (some ⟨b0,0,none⟩) ⟨decide ((0:Int)=10),QL4 L id code⟩,QAC d (layJ m (QNB id code)).1] (QAD ⟨rfl,rfl⟩)
theorem State_spec(d q:Option Addr)(J:JM)(id:Int):Ct Pr 343 [.pointer q,.I id] (.tup [none,none]) [.I,.I] [JObj d q J] emp
  (fun t Bs=>t.1=(stateJ J.L id).1∧t.2.1=(stateJ J.L id).2∧Bs=[JObj d q J]):=by
 refine sp2 (QD1 _ _) fun B _=>?_;unfold QD1 mf;dsimp only;obtain⟨dead,L⟩:=J;refine xjo 0 fun hi b0 r s hq=>?_;subst hq;refine QAQ (xgq ?_);refine QbE (.I) ?_;unfold stateJ
 cases hl:QBr L id with
 | none=>exact QBz rfl (QBO d b0 r s dead hi (QAD ⟨rfl,rfl,rfl⟩))
 | some c=>
  refine QBF rfl (QAA (fun h=>?_) (fun h=>?_))
  ·have h:c<0:=h;simp only[h,if_true];exact QBO d b0 r s dead hi (QAD ⟨rfl,rfl,rfl⟩)
  ·have h:¬c<0:=h;simp only[h,if_false];exact QBO d b0 r s dead hi (QAD ⟨rfl,rfl,rfl⟩)
theorem Left_spec(d q:Option Addr)(J:JM):Ct Pr 128 [.pointer q] .one [.slice] [JObj d q J] emp
  (fun t Bs=>Bs=[JObj d q J,Ar I64 t.1 (leftJ J.L)]):=by
 refine QGr QGY fun B _=>?_;unfold QEX;obtain⟨dead,L⟩:=J;refine xjo 0 fun hi b0 r s hq=>?_;subst hq;have hll:=hi.len;refine QAQ (xgq ?_);refine QCm s fun hsl _=>?_;simp only[List.length_map]at hsl;refine QAd I64 ?_;refine QBb (fun n l i As=>∃k:Nat,i=(k:Int)∧n=L.length - k∧k≤L.length∧As=[Ar I64 l (((L.map (·.1)).take k).filter fun id=>decide ((QBr L id).getD 0<0)),Blk b0 (QKW d r s dead),QOn (.I) r L,Ar I64 s (L.map (·.1))]) L.length ⟨0,rfl,rfl,by omega,rfl⟩ ?_;rintro n l _ _ K ⟨k,rfl,rfl,hk,rfl⟩ hK;refine QAA (fun h=>?_) (fun h=>?_)
 ·have hx:=List.getElem?_eq_getElem (l:=L.map (·.1)) (i:=k) (by simp;omega)
  have htk:(L.map (·.1)).take (k+1)=(L.map (·.1)).take k++[(L.map (·.1))[k]'(by simp;omega)]:=by rw[List.take_add_one,hx];rfl
  generalize (L.map (·.1))[k]'(by simp;omega)=id at hx htk
  have hfl:(((L.map (·.1)).take k).filter fun id=>decide ((QBr L id).getD 0<0)).length≤k:=by
   have:=List.length_filter_le (fun id=>decide ((QBr L id).getD 0<0)) ((L.map (·.1)).take k);simp at this⊢;omega
  refine QAH (h1:=by simp;omega) (h:=fun _ _=>?_);refine QAN hx (h:=?_);refine QAQ (xgq ?_);refine QeQ (.I) ?_;refine QAJ (QAA (fun hneg=>?_) (fun hneg=>?_))
  ·refine QAL fun b=>?_;refine QEc id (hb:=by omega) (h:=fun s1=>?_);rw[QAF k (by omega)];refine hK (L.length - (k+1)) _ _ _ (by omega) ⟨k+1,rfl,rfl,by omega,?_⟩;rw[htk,List.filter_append,List.filter_cons_of_pos (by simpa using hneg)];rfl
  ·rw[QAF k (by omega)];refine hK (L.length - (k+1)) _ _ _ (by omega) ⟨k+1,rfl,rfl,by omega,?_⟩;rw[htk,List.filter_append,List.filter_cons_of_neg (by simpa using hneg)];simp
 ·have hkl:k=L.length:=by omega
  rw[List.take_of_length_le (by simp;omega),←QdF hi.nodup];exact QBO d b0 r s dead hi (QAD rfl)
theorem QLk:∀(xs ys:List (List UInt8)) (L:JL),QDe L (xs++ys)=match QDe L xs with|some L'=>QDe L' ys|none=>none
 | [],_,_=>rfl
 | b::xs,ys,L=>by
  show (match QIE L b with|some L'=>QDe L' (xs++ys)|none=>none)=_;show _=(match (match QIE L b with|some L'=>QDe L' xs|none=>none) with|some L'=>QDe L' ys|none=>none)
  cases QIE L b with
  | none=>rfl
  | some L'=>exact QLk xs ys L'
theorem QWE{rows:List (List UInt8)}{k:Nat}{L L':JL}{b:List UInt8}(h1:QDe [] (rows.take k)=some L)(h2:rows[k]? = some b)(h3:QIE L b=some L'):QDe [] (rows.take (k+1))=some L':=by
 rw[List.take_add_one,h2,QLk,h1];show (match QIE L b with|some L'=>some L'|none=>none)=_;rw[h3]
theorem QWX{rows:List (List UInt8)}{k:Nat}{L:JL}{b:List UInt8}(h1:QDe [] (rows.take k)=some L)(h2:rows[k]? = some b)(h3:QIE L b=none):QDe [] rows=none:=by
 rw[←List.take_append_drop k rows,QLk,h1];have hk:=(List.getElem?_eq_some_iff.1 h2).1
 have e:rows.drop k=b::rows.drop (k+1):=by
  rw[List.drop_eq_getElem_cons hk];rw[List.getElem?_eq_getElem hk]at h2;cases h2;rfl
 rw[e];show (match QIE L b with|some L'=>QDe L' (rows.drop (k+1))|none=>none)=_;rw[h3]
theorem QZY{m:DM}(h:m.down=true):openJ m=(m,10,none):=by unfold openJ;rw[if_pos h]
theorem QZH{m:DM}(h:m.down=false)(h2:(QAW m cmdN).2≠0):openJ m=(m,0,some []):=by unfold openJ;rw[if_neg (by rw[h];simp),if_pos h2]
theorem Qa8{m:DM}(h:m.down=false)(h2:(QAW m cmdN).2=0)(h3:QDe [] (QAv (QAW m cmdN).1).1=none):openJ m=(m,30,none):=by
 unfold openJ;rw[if_neg (by rw[h];simp),if_neg (by rw[h2];simp)];simp only[h3]
theorem QdK{m:DM}(h:m.down=false)(h2:(QAW m cmdN).2=0){L:JL}(h3:QDe [] (QAv (QAW m cmdN).1).1=some L) :
  openJ m=if (mendJ m (QAv (QAW m cmdN).1).2 (QAW m cmdN).1.length).2=0 then ((mendJ m (QAv (QAW m cmdN).1).2 (QAW m cmdN).1.length).1,0,some L)
   else ((mendJ m (QAv (QAW m cmdN).1).2 (QAW m cmdN).1.length).1,(mendJ m (QAv (QAW m cmdN).1).2 (QAW m cmdN).1.length).2,none):=by
 unfold openJ;rw[if_neg (by rw[h];simp),if_neg (by rw[h2];simp)];simp only[h3]
def openPost(p:Option Addr)(m:DM):Tup [.ptr,.I]→List HP→Prop:=fun t Bs=>
 (∃L,(openJ m).2.2=some L∧t.2.1=0∧Bs=[QAC p (openJ m).1,JObj p t.1 ⟨false,L⟩])∨((openJ m).2.2=none∧t.1=none∧t.2.1=(openJ m).2.1∧Bs=[QAC p (openJ m).1])
theorem Open_spec(p:Option Addr)(m:DM):Ct Pr 118 [.pointer p] (.tup [none,none]) [.ptr,.I] [QAC p m] emp (openPost p m):=by
 refine sp2 (QLE _) fun B _=>?_;unfold QLE mf;dsimp only;refine QBx 0 (fun g hg=>(⟨hg.1,QIU hg⟩:DInv m∧∃b,p=some ⟨b,0,none⟩)) fun hi=>?_;obtain⟨hi,bd,rfl⟩:=hi;have hbl:=QSz hi cmdN;refine QAQ ?_;refine xcl (QMb (some ⟨bd,0,none⟩) m) rdb ?_;rintro⟨c,_⟩ _ ⟨hc,rfl⟩;simp only at hc;subst hc;refine QA5 (ca1 (xif (fun hd=>?_) (fun hd=>?_)))
 ·have e:=QZY hd;exact QAD (.inr ⟨by rw[e],rfl,by rw[e],by rw[e]⟩)
 refine QhK (.I) fun mb=>?_;refine QAL fun b=>?_;refine QAd I64 ?_;refine QBQ [Blk b [.pointer (some ⟨bd,0,none⟩),.map (some mb),.slice none 0 0,.bool false],QOn (.I) (some mb) [],Ar I64 ⟨none,0,0⟩ []] (JObj (some ⟨bd,0,none⟩) (some ⟨b,0,none⟩) ⟨false,[]⟩) (fun g hg=>⟨QbR,b,some mb,⟨none,0,0⟩,rfl,hg⟩) ?_;refine xcl (QIj (some ⟨bd,0,none⟩) m cmdN) rdb ?_;rintro⟨s,r,_⟩ _ ⟨hr,rfl⟩;simp only at hr;subst hr;refine QBM (ca2 (xif (fun h2=>?_) (fun h2=>?_)))
 ·have h2:(QAW m cmdN).2≠0:=by simpa using h2
  have e:=QZH hd h2;refine QAK [QAC (some ⟨bd,0,none⟩) m,JObj (some ⟨bd,0,none⟩) (some ⟨b,0,none⟩) ⟨false,[]⟩] (QAD (.inl ⟨[],by rw[e],rfl,by rw[e]⟩))
 have h2:(QAW m cmdN).2=0:=by simpa using h2
 refine QCm s fun hsl hsc=>?_
 replace hsl:(QAW m cmdN).1.length=s.n:=hsl
 refine xcl (QRj s (QAW m cmdN).1 hbl hsc) rdb ?_;rintro⟨s1,r1,_⟩ _ ⟨h3,rs,rfl⟩;simp only at h3;subst h3;refine QBM (ca2 ?_);have hbad:=Qa8 hd h2;have hgo:=fun {L}(h:QDe [] (QAv (QAW m cmdN).1).1=some L)=>QdK hd h2 h;have hmax:=(QIf _ (QAW m cmdN).1 (Nat.le_refl _)).2.1;have hle:=QK3 (QAW m cmdN).1
 generalize hbs:(QAW m cmdN).1=bs at *
 generalize hrows:(QAv bs).1=rows at *
 generalize (QAv bs).2=u at *
 refine QCm s1 fun hrl _=>?_;refine QBx 1 (fun g hg=>Each.length hg) fun hrr=>?_;refine QAK [QAC (some ⟨bd,0,none⟩) m,JObj (some ⟨bd,0,none⟩) (some ⟨b,0,none⟩) ⟨false,[]⟩,Ar SL s1 rs,Each (Ar U8) rs rows] ?_;refine QBP (fun n i As=>∃(k:Nat) (L:JL),i=(k:Int)∧n=rows.length - k∧k≤rows.length∧QDe [] (rows.take k)=some L∧As=[QAC (some ⟨bd,0,none⟩) m,JObj (some ⟨bd,0,none⟩) (some ⟨b,0,none⟩) ⟨false,L⟩,Ar SL s1 rs,Each (Ar U8) rs rows]) rows.length ⟨0,[],rfl,rfl,by omega,rfl,?_⟩ ?_
 ·exact rfl
 rintro n _ _ K ⟨k,L,rfl,rfl,hk,htk,rfl⟩ hK;refine QAA (fun h=>?_) (fun h=>?_)
 ·have hx:=List.getElem?_eq_getElem (l:=rs) (i:=k) (by omega);have hy:=List.getElem?_eq_getElem (l:=rows) (i:=k) (by omega);generalize rs[k]=sl at hx;generalize rows[k]=row at hy;refine QAH (h1:=by omega) (h:=fun _ _=>?_);refine QAN hx (h:=?_);refine QBx 3 (fun g hg=>QDc (R:=Ar U8) (S:=fun sl row (_:QBe)=>sl.n≤sl.c) (fun _ _ _ _ h _=>h) (fun _ _ _ h=>by obtain⟨_,h⟩:=h;exact h.cap) hg hx hy) fun hcap=>?_;refine xcl (QGj (some ⟨bd,0,none⟩) (some ⟨b,0,none⟩) false L sl row hcap) (QK1 2 (fun g hg=>QDc (R:=Ar U8) (S:=fun sl row=>RAr U8 sl row) (fun _ _ _ _ h s=>h.mono s) (fun _ _ _ h=>h.read) hg hx hy) (fun _ _ h s=>h.mono s)) ?_;rintro⟨c,_⟩ _ (⟨hc,L',hL,rfl⟩|⟨hc,hL,rfl⟩)
  ·obtain rfl:c=true:=hc;refine QA5 (ca1 (QBF rfl ?_));rw[QAF k (by omega)];exact QAK [QAC (some ⟨bd,0,none⟩) m,JObj (some ⟨bd,0,none⟩) (some ⟨b,0,none⟩) ⟨false,L'⟩,Ar SL s1 rs,Each (Ar U8) rs rows] (hK (rows.length - (k+1)) _ _ (by omega) ⟨k+1,L',rfl,rfl,by omega,QWE htk hy hL,rfl⟩)
  ·obtain rfl:c=false:=hc;have e:=hbad (QWX htk hy hL);exact QAy (ca1 (QBz rfl (QAK [QAC (some ⟨bd,0,none⟩) m] (QAD (.inr ⟨by rw[e],rfl,by rw[e],by rw[e]⟩)))))
 have hkl:k=rows.length:=by omega
 subst hkl;rw[List.take_of_length_le (Nat.le_refl _)]at htk;have e:=hgo htk;refine QAK [QAC (some ⟨bd,0,none⟩) m,JObj (some ⟨bd,0,none⟩) (some ⟨b,0,none⟩) ⟨false,L⟩] ?_
 have fin:∀m':DM,(mendJ m u bs.length=QBK m' cmdN)→Ent B [QAC (some ⟨bd,0,none⟩) m',JObj (some ⟨bd,0,none⟩) (some ⟨b,0,none⟩) ⟨false,L⟩] (QAb Pr 178 [.pointer (some ⟨bd,0,none⟩),.string cmdN] .one [.I] fun r3=>XIf (r3 != 0) (Ret B (openPost (some ⟨bd,0,none⟩) m) (none,r3,())) (Ret B (openPost (some ⟨bd,0,none⟩) m) (some ⟨b,0,none⟩,0,()))):=by
  intro m' hm;rw[hm]at e;refine xcl (QHD (some ⟨bd,0,none⟩) m' cmdN) rdb ?_;rintro⟨r3,_⟩ _ ⟨h3,rfl⟩;simp only at h3;subst h3;refine QA5 (ca1 (xif (fun h=>?_) (fun h=>?_)))
  ·have h:¬(QBK m' cmdN).2=0:=by simpa using h
   rw[if_neg h]at e;exact QAK [QAC (some ⟨bd,0,none⟩) (QBK m' cmdN).1] (QAD (.inr ⟨by rw[e],rfl,by rw[e],by rw[e]⟩))
  ·have h:(QBK m' cmdN).2=0:=by simpa using h
   rw[if_pos h]at e;exact QAD (.inl ⟨L,by rw[e],rfl,by rw[e]⟩)
 refine QAJ (QAA (fun hlt=>?_) (fun hlt=>?_))
 ·have hlt:u<bs.length:=by omega
  refine xcl (QIu (some ⟨bd,0,none⟩) m cmdN (u:Int)) rdb ?_;rintro⟨r2,_⟩ _ ⟨h2,rfl⟩;simp only at h2;subst h2;refine QA5 (ca1 (xif (fun h=>?_) (fun h=>?_)))
  ·have h:(QBR m cmdN u).2≠0:=by simpa using h
   have em:mendJ m u bs.length=QBR m cmdN u:=by unfold mendJ;rw[if_pos hlt,if_pos h]
   rw[em,if_neg h]at e;exact QAK [QAC (some ⟨bd,0,none⟩) (QBR m cmdN u).1] (QAD (.inr ⟨by rw[e],rfl,by rw[e],by rw[e]⟩))
  ·have h:¬(QBR m cmdN u).2≠0:=by simpa using h
   exact fin _ (by unfold mendJ;rw[if_pos hlt,if_neg h])
 ·exact fin _ (by unfold mendJ;rw[if_neg (by omega)])
end Go.Cx.Od
namespace Go.Cx.Csr
open Go Go.Cf Go.Cx
set_option linter.unusedVariables false
set_option maxRecDepth 100000
variable {B:QBE}{As F:List HP}{α:Type}
theorem QIU{p:Option Addr}{m:DM}{g:QBe}(h:QAC p m g):∃b,p=some ⟨b,0,none⟩:=by
 obtain⟨_,b,_,_,h,_⟩:=h;exact⟨b,h⟩
theorem QSz{m:DM}(hi:DInv m)(nm:ByteArray):(QAW m nm).1.length≤16777216:=by
 unfold QAW
 cases ht:QAh m.fs nm.toList with
 | false=>simp
 | true=>
  obtain⟨hf,_⟩:=QCO (d:=⟨nm,[],0⟩) ht;have h1:=QBi hf;have h2:=hi.used;have h3:=hi.room;show (m.fs.getD (QAT m.fs nm.toList) ⟨nm,[],0⟩).b.length≤_;omega
theorem QNE(c:Cu):Ct Pr 189 [c.v] .agg [.I,.I,.I] [] emp (fun t Bs=>t.1=c.a∧t.2.1=c.b∧t.2.2.1=c.c∧Bs=[]):=by
 refine sp3 (QGE _ _ _) fun B _=>?_;unfold QGE mf;dsimp only;refine QAL fun b=>QAL fun b1=>xgq (xgq (xgq (xsq (xsq (xsq (xgq (xgq (xgq ?_))))))));exact QAa (l:=[]) (QAD ⟨rfl,rfl,rfl,rfl⟩)
theorem QXq(c:Cu):Ct Pr 190 [c.v] .one [.bool] [] emp (fun t Bs=>t.1=QYz c∧Bs=[]):=by
 refine sp1 (QEx _ _ _) fun B _=>?_;unfold QEx mf;dsimp only;refine QAL fun b=>xgq (xgq (xgq (QB5 0 ?_)));refine QBP (fun n i As=>∃k:Nat,i=(k:Int)∧n=3 - k∧k≤3∧(0<k→okN c.a=true)∧(1<k→okN c.b=true)∧(2<k→okN c.c=true)∧As=[]) 3 ⟨0,rfl,rfl,by omega,by simp,by simp,by simp,rfl⟩ ?_;rintro n _ _ K ⟨k,rfl,rfl,hk,h1,h2,h3,rfl⟩ hK;refine QAA (fun h=>?_) (fun h=>?_)
 ·have:k=0∨k=1∨k=2:=by omega
  rcases this with rfl|rfl|rfl
  ·refine QWW (x:=c.a) rfl (by omega) ?_;rw[show ((decide (c.a<0))||(decide (c.a>1099511627776))) = !(okN c.a) from QZh c.a];refine xif (fun g=>QAD ⟨?_,rfl⟩) (fun g=>?_)
   ·simp at g;simp[QYz,g]
   ·simp at g;exact hK 2 _ _ (by omega) ⟨1,rfl,rfl,by omega,fun _=>g,fun h=>by omega,fun h=>by omega,rfl⟩
  ·refine QWW (x:=c.b) rfl (by omega) ?_;rw[show ((decide (c.b<0))||(decide (c.b>1099511627776))) = !(okN c.b) from QZh c.b];refine xif (fun g=>QAD ⟨?_,rfl⟩) (fun g=>?_)
   ·simp at g;simp[QYz,g]
   ·simp at g;exact hK 1 _ _ (by omega) ⟨2,rfl,rfl,by omega,fun _=>h1 (by omega),fun _=>g,fun h=>by omega,rfl⟩
  ·refine QWW (x:=c.c) rfl (by omega) ?_;rw[show ((decide (c.c<0))||(decide (c.c>1099511627776))) = !(okN c.c) from QZh c.c];refine xif (fun g=>QAD ⟨?_,rfl⟩) (fun g=>?_)
   ·simp at g;simp[QYz,g]
   ·simp at g;exact hK 0 _ _ (by omega) ⟨3,rfl,rfl,by omega,fun _=>h1 (by omega),fun _=>h2 (by omega),fun _=>g,rfl⟩
 ·refine QAD ⟨?_,rfl⟩;simp[QYz,h1 (by omega),h2 (by omega),h3 (by omega)]
def curN:ByteArray:=⟨#[99,117,114]⟩
def newCu:ByteArray:=⟨#[99,117,114,46,110,101,119]⟩
def QUC(c:Cu):Nat→List UInt8
 | 0=>[]
 | 1=>be8 c.a.toNat
 | 2=>be8 c.a.toNat++be8 c.b.toNat
 | _=>be8 c.a.toNat++be8 c.b.toNat++be8 c.c.toNat
abbrev cu3(c:Cu):List UInt8:=QUC c 3
def fileC(c:Cu):List UInt8:=QAn (cu3 c)
theorem Qax(c:Cu):∀k,k≤3→(QUC c k).length=8*k:=by
 intro k hk
 have:k=0∨k=1∨k=2∨k=3:=by omega
 rcases this with rfl|rfl|rfl|rfl<;>simp[QUC,QMn]
def saveM(m:DM)(c:Cu):DM×Int:=
 if !(QYz c) then (m,3)
 else if (QAV m newCu).2=10 then ((QAV m newCu).1,10)
 else if (QAM (QAV m newCu).1 newCu (fileC c)).2≠0 then QAM (QAV m newCu).1 newCu (fileC c)
 else if (QBK (QAM (QAV m newCu).1 newCu (fileC c)).1 newCu).2≠0 then QBK (QAM (QAV m newCu).1 newCu (fileC c)).1 newCu
 else QCF (QBK (QAM (QAV m newCu).1 newCu (fileC c)).1 newCu).1 newCu curN
theorem QeJ{x:Int}(h:okN x=true):IntKind.u64.wrap x=((x.toNat:Nat):Int)∧x.toNat<18446744073709551616∧((x.toNat:Nat):Int)=x∧x≤1099511627776:=by
 have h':0≤x∧x≤1099511627776:=by simpa [okN]using h
 have e:((x.toNat:Nat):Int)=x:=by omega
 refine⟨?_,by omega,e,h'.2⟩;have:=QPO x.toNat (by omega);rw[e]at this⊢;exact this
theorem QeW{c:Cu}(h:QYz c=true):okN c.a=true∧okN c.b=true∧okN c.c=true:=by simpa [QYz]using h
theorem Save_spec(p:Option Addr)(m:DM)(c:Cu):Ct Pr 120 [.pointer p,c.v] .one [.I] [QAC p m] emp (fun t Bs=>t.1=(saveM m c).2∧Bs=[QAC p (saveM m c).1]):=by
 refine sp1 (QL1 _ _ _ _) fun B _=>?_;unfold QL1 mf;dsimp only;refine QAL fun b=>xgq (xgq (xgq ?_));refine xcl (QNE c) rdb ?_;rintro⟨r,r1,r2,_⟩ _ ⟨h1,h2,h3,rfl⟩;simp only at h1 h2 h3;subst h1 h2 h3;refine QAy (ca3 ?_);refine QAL fun b1=>xsq (xsq (xsq (xgq (xgq (xgq ?_)))));refine xcl (QXq c) rdb ?_;rintro⟨g,_⟩ _ ⟨hg,rfl⟩;simp only at hg;subst hg;refine QAy (ca1 (xif (fun hm=>?_) (fun hm=>?_)))
 ·have e:saveM m c=(m,3):=by unfold saveM;rw[if_pos hm]
  rw[e];exact QAK [QAC p m] (QAD ⟨rfl,rfl⟩)
 have hmay:QYz c=true:=by simpa using hm
 obtain⟨ha,hb,hc⟩:=QeW hmay;refine xcl (QF8 p m newCu) rdb ?_;rintro⟨r,_⟩ _ ⟨hr,rfl⟩;simp only at hr;subst hr;refine QA5 (ca1 (xif (fun h10=>?_) (fun h10=>?_)))
 ·have h10:(QAV m newCu).2=10:=by simpa using h10
  have e:saveM m c=((QAV m newCu).1,10):=by unfold saveM;rw[if_neg (by simpa using hmay),if_pos h10]
  rw[e];exact QAK [QAC p (QAV m newCu).1] (QAD ⟨h10,rfl⟩)
 have h10:¬(QAV m newCu).2=10:=by simpa using h10
 have e:saveM m c=if (QAM (QAV m newCu).1 newCu (fileC c)).2≠0 then QAM (QAV m newCu).1 newCu (fileC c)
   else if (QBK (QAM (QAV m newCu).1 newCu (fileC c)).1 newCu).2≠0 then QBK (QAM (QAV m newCu).1 newCu (fileC c)).1 newCu
   else QCF (QBK (QAM (QAV m newCu).1 newCu (fileC c)).1 newCu).1 newCu curN:=by
  unfold saveM;rw[if_neg (by simpa using hmay),if_neg h10]
 rw[e];generalize (QAV m newCu).1=m1;refine xgq (xgq (xgq (QAd U8 ?_)));refine QAK [Ar U8 ⟨none,0,0⟩ [],QAC p m1] ?_;refine QBb (fun n o i As=>∃k:Nat,i=(k:Int)∧n=3 - k∧k≤3∧As=[Ar U8 o (QUC c k),QAC p m1]) 3 ⟨0,rfl,rfl,by omega,rfl⟩ ?_;rintro n o _ _ K ⟨k,rfl,rfl,hk,rfl⟩ hK;have hlen:=Qax c k hk;refine QAA (fun h=>?_) (fun h=>?_)
 ·have step:∀x:Int,okN x=true→QUC c (k+1)=QUC c k++be8 x.toNat→Ent B [Ar U8 o (QUC c k),QAC p m1] (QAb Pr 191 [o.v,.int .u64 (IntKind.u64.wrap x),.I 8] (.tup [none,none]) [.slice,.I] fun s r4=>K s (IntKind.i64.wrap ((k:Int)+1))):=by
   intro x hx hp;obtain⟨e1,e2,_,_⟩:=QeJ hx;rw[e1];refine xcl (QRT o (QUC c k) x.toNat e2 (by omega)) rdb ?_;rintro⟨s,r,_⟩ _ ⟨_,rfl⟩;refine QA5 (ca2 ?_);rw[QAF k (by omega),←hp];exact QAK [Ar U8 s (QUC c (k+1)),QAC p m1] (hK (3 - (k+1)) _ _ _ (by omega) ⟨k+1,rfl,rfl,by omega,rfl⟩)
  have:k=0∨k=1∨k=2:=by omega
  rcases this with rfl|rfl|rfl
  ·refine QWW (x:=c.a) rfl (by omega) ?_;exact step c.a ha (by simp[QUC])
  ·refine QWW (x:=c.b) rfl (by omega) ?_;exact step c.b hb (by simp[QUC])
  ·refine QWW (x:=c.c) rfl (by omega) ?_;exact step c.c hc (by simp[QUC])
 have hk3:k=3:=by omega
 subst hk3;refine xcl (QFw o (QUC c 3) (by omega)) rdb ?_;rintro⟨s,r,_⟩ _ ⟨_,rfl⟩;refine QA5 (ca2 ?_);rw[show QAn (QUC c 3)=fileC c from rfl];refine xcl (QH3 p m1 newCu s (fileC c)) rdb ?_;rintro⟨r,_⟩ _ ⟨hr,rfl⟩;simp only at hr;subst hr;refine QA5 (ca1 (xif (fun h2=>?_) (fun h2=>?_)))
 ·have h2:(QAM m1 newCu (fileC c)).2≠0:=by simpa using h2
  rw[if_pos h2];exact QAK [QAC p (QAM m1 newCu (fileC c)).1] (QAD ⟨rfl,rfl⟩)
 have h2:¬(QAM m1 newCu (fileC c)).2≠0:=by simpa using h2
 rw[if_neg h2];refine xcl (QHD p (QAM m1 newCu (fileC c)).1 newCu) rdb ?_;rintro⟨r,_⟩ _ ⟨hr,rfl⟩;simp only at hr;subst hr;refine QA5 (ca1 (xif (fun h3=>?_) (fun h3=>?_)))
 ·have h3:(QBK (QAM m1 newCu (fileC c)).1 newCu).2≠0:=by simpa using h3
  rw[if_pos h3];exact QAK [QAC p (QBK (QAM m1 newCu (fileC c)).1 newCu).1] (QAD ⟨rfl,rfl⟩)
 have h3:¬(QBK (QAM m1 newCu (fileC c)).1 newCu).2≠0:=by simpa using h3
 rw[if_neg h3];refine xcl (QTz p (QBK (QAM m1 newCu (fileC c)).1 newCu).1 newCu curN) rdb ?_;rintro⟨r,_⟩ _ ⟨hr,rfl⟩;exact QA5 (ca1 (QAK [QAC p (QCF (QBK (QAM m1 newCu (fileC c)).1 newCu).1 newCu curN).1] (QAD ⟨hr,rfl⟩)))
abbrev cu0:Cu:=⟨0,0,0⟩
def QN1(p:List UInt8)(k:Nat):Nat:=beV (QKm p (8*k))
def decodeC(b:List UInt8):Cu×Int:=
 if (QBN b).2.2≠0∨(QBN b).2.1≠b.length∨(QBN b).1.length≠24 then (cu0,30)
 else if QN1 (QBN b).1 0>1099511627776∨QN1 (QBN b).1 1>1099511627776∨QN1 (QBN b).1 2>1099511627776 then (cu0,30)
 else (⟨QN1 (QBN b).1 0,QN1 (QBN b).1 1,QN1 (QBN b).1 2⟩,0)
def loadM(m:DM):Cu×Int:=
 if m.down then (cu0,10)
 else if (QAW m curN).2≠0 then (cu0,0)
 else decodeC (QAW m curN).1
theorem QbS(b:List UInt8):(QBN b).1.length≤b.length:=by
 unfold QBN;split
 ·simp
 split
 ·simp
 split
 ·simp
 split
 ·simp;omega
 ·simp
theorem Load_spec(p:Option Addr)(m:DM):Ct Pr 117 [.pointer p] (.tup [some 3,none]) [.I,.I,.I,.I] [QAC p m] emp
  (fun t Bs=>t.1=(loadM m).1.a∧t.2.1=(loadM m).1.b∧t.2.2.1=(loadM m).1.c∧t.2.2.2.1=(loadM m).2∧Bs=[QAC p m]):=by
 refine sp4 (QMS _) fun B _=>?_;unfold QMS mf;dsimp only;refine QBx 0 (fun g hg=>(⟨hg.1,QIU hg⟩:DInv m∧∃b,p=some ⟨b,0,none⟩)) fun hi=>?_;obtain⟨hi,b0,rfl⟩:=hi;have hbl:=QSz hi curN;refine QAL fun b=>QAQ ?_;refine xcl (QMb (some ⟨b0,0,none⟩) m) rdb ?_;rintro⟨c,_⟩ _ ⟨hc,rfl⟩;simp only at hc;subst hc;refine QA5 (ca1 (xif (fun hd=>?_) (fun hd=>?_)))
 ·have e:loadM m=(cu0,10):=by unfold loadM;rw[if_pos hd]
  rw[e];refine xsq (xsq (xsq (xgq (xgq (xgq ?_)))));exact QB5 1 (QAD ⟨rfl,rfl,rfl,rfl,rfl⟩)
 refine xcl (QIj (some ⟨b0,0,none⟩) m curN) rdb ?_;rintro⟨s,r,_⟩ _ ⟨hr,rfl⟩;simp only at hr;subst hr;refine QBM (ca2 (xif (fun h0=>?_) (fun h0=>?_)))
 ·have h0:(QAW m curN).2≠0:=by simpa using h0
  have e:loadM m=(cu0,0):=by unfold loadM;rw[if_neg (by rw[hd];simp),if_pos h0]
  rw[e];refine xsq (xsq (xsq (xgq (xgq (xgq ?_)))));exact QAK [QAC (some ⟨b0,0,none⟩) m] (QAD ⟨rfl,rfl,rfl,rfl,rfl⟩)
 have h0:¬(QAW m curN).2≠0:=by simpa using h0
 have e:loadM m=decodeC (QAW m curN).1:=by unfold loadM;rw[if_neg (by rw[hd];simp),if_neg h0]
 rw[e]
 generalize (QAW m curN).1=f at *
 refine QCm s fun hsn hsc=>?_;refine xcl (QFi s f (by omega) hsc) rdb ?_;rintro⟨s1,r1,r2,_⟩ _ ⟨hr1,hr2,rfl⟩;simp only at hr1 hr2;subst hr1 hr2;refine QA5 (ca3 (QAL fun b1=>?_));have hql:=QbS f;refine QCm s1 fun hs1n hs1c=>?_;refine xif (fun hbad=>?_) (fun hbad=>?_)
 ·have hbad:(QBN f).2.2≠0∨(QBN f).2.1≠f.length∨(QBN f).1.length≠24:=by
   simp only[Bool.or_eq_true,bne_iff_ne,ne_eq]at hbad;rcases hbad with (h|h)|h
   ·exact .inl h
   ·exact .inr (.inl (by omega))
   ·exact .inr (.inr (by omega))
  have e:decodeC f=(cu0,30):=by unfold decodeC;rw[if_pos hbad]
  rw[e];refine xsq (xsq (xsq (xgq (xgq (xgq ?_)))));exact QAK [QAC (some ⟨b0,0,none⟩) m] (QAD ⟨rfl,rfl,rfl,rfl,rfl⟩)
 have hbad:¬((QBN f).2.2≠0∨(QBN f).2.1≠f.length∨(QBN f).1.length≠24):=by
  simp only[Bool.or_eq_false_iff,bne_eq_false_iff_eq]at hbad;obtain⟨⟨h1,h2⟩,h3⟩:=hbad;intro h;rcases h with h|h|h
  ·exact h h1
  ·exact h (by omega)
  ·exact h (by omega)
 have e:decodeC f=if QN1 (QBN f).1 0>1099511627776∨QN1 (QBN f).1 1>1099511627776∨QN1 (QBN f).1 2>1099511627776 then (cu0,30) else (⟨QN1 (QBN f).1 0,QN1 (QBN f).1 1,QN1 (QBN f).1 2⟩,0):=by unfold decodeC;rw[if_neg hbad]
 rw[e];have hq24:(QBN f).1.length=24:=Classical.byContradiction fun h=>hbad (.inr (.inr h))
 generalize (QBN f).1=q at *
 refine QAe (Q:=Ar I64 ⟨some ⟨b1,0,none⟩,3,3⟩ [0,0,0]) 0 (fun g hg=>⟨[],QAm [0,0,0] 3 rfl rfl hg⟩) ?_;refine QAK [Ar I64 ⟨some ⟨b1,0,none⟩,3,3⟩ [0,0,0],Ar U8 s1 q,Blk b [.I 0,.I 0,.I 0],QAC (some ⟨b0,0,none⟩) m] ?_;refine QBP (fun n i As=>∃(k:Nat) (ys:List Int),i=(k:Int)∧n=3 - k∧k≤3∧ys.length=3∧(∀j,j<k→ys[j]? = some ((QN1 q j:Nat):Int)∧QN1 q j≤1099511627776)∧As=[Ar I64 ⟨some ⟨b1,0,none⟩,3,3⟩ ys,Ar U8 s1 q,Blk b [.I 0,.I 0,.I 0],QAC (some ⟨b0,0,none⟩) m]) 3 ⟨0,_,rfl,rfl,by omega,rfl,fun j hj=>by omega,rfl⟩ ?_;rintro n _ _ K ⟨k,ys,rfl,rfl,hk,hyl,hys,rfl⟩ hK;refine QAA (fun h=>?_) (fun h=>?_)
 ·rw[show IntKind.i64.wrap (8*(k:Int))=((8*k:Nat):Int) by rw[QAB _ (by omega) (by omega)];omega];refine xcl (QGf s1 q (8*k) (by omega) (by omega) hs1c) rdb ?_;rintro⟨r3,r4,_⟩ _ ⟨h3,_,rfl⟩;simp only at h3;rw[show beV (QKm q (8*k))=QN1 q k from rfl]at h3;subst h3;refine QAy (ca2 (QAA (fun hbig=>?_) (fun hbig=>?_)))
  ·have:QN1 q 0>1099511627776∨QN1 q 1>1099511627776∨QN1 q 2>1099511627776:=by
    have:k=0∨k=1∨k=2:=by omega
    rcases this with rfl|rfl|rfl
    ·exact .inl (by omega)
    ·exact .inr (.inl (by omega))
    ·exact .inr (.inr (by omega))
   rw[if_pos this];refine xsq (xsq (xsq (xgq (xgq (xgq ?_)))));exact QAK [QAC (some ⟨b0,0,none⟩) m] (QAD ⟨rfl,rfl,rfl,rfl,rfl⟩)
  ·have hy:=List.getElem?_eq_getElem (l:=ys) (i:=k) (by omega);refine QAH (s:=⟨some ⟨b1,0,none⟩,3,3⟩) (h1:=by omega) (h:=fun _ _=>?_);rw[QAB ((QN1 q k:Nat):Int) (by omega) (by omega),QAF k (by omega)];refine QHd ((QN1 q k:Nat):Int) hy (hv:=rfl) (h:=?_);refine hK (3 - (k+1)) _ _ (by omega) ⟨k+1,_,rfl,rfl,by omega,by simpa using hyl,fun j hj=>?_,rfl⟩;rcases Nat.lt_or_ge j k with h3|h3
   ·rw[List.getElem?_set_ne (by omega)];exact hys j h3
   ·obtain rfl:j=k:=by omega
    rw[List.getElem?_set_self (by omega)];exact⟨rfl,by omega⟩
 ·have hk3:k=3:=by omega
  subst hk3;obtain⟨y0,z0⟩:=hys 0 (by omega);obtain⟨y1,z1⟩:=hys 1 (by omega);obtain⟨y2,z2⟩:=hys 2 (by omega);rw[if_neg (by omega)];refine QAH (s:=⟨some ⟨b1,0,none⟩,3,3⟩) (k:=0) (h1:=by omega) (h:=fun _ _=>?_);refine QAN y0 (h:=?_);refine QAH (s:=⟨some ⟨b1,0,none⟩,3,3⟩) (k:=1) (h1:=by omega) (h:=fun _ _=>?_);refine QAN y1 (h:=?_);refine QAH (s:=⟨some ⟨b1,0,none⟩,3,3⟩) (k:=2) (h1:=by omega) (h:=fun _ _=>?_);refine QAN y2 (h:=?_);refine xsq (xsq (xsq (xgq (xgq (xgq ?_)))));exact QAK [QAC (some ⟨b0,0,none⟩) m] (QAD ⟨rfl,rfl,rfl,rfl,rfl⟩)
end Go.Cx.Csr
namespace Go.Cx
open Go Go.Cf
set_option linter.unusedVariables false
set_option maxRecDepth 100000
variable {B:QBE}{As F:List HP}
theorem QZM(n:Int):fK n≠Od.cmdN.toList:=by
 rw[QHy];show preL++_≠(BA [99,109,100]).toList;rw[QEb];intro h;have:=congrArg (fun l=>l[0]?) h;simp[preL]at this
theorem QcP(n:Int):fK n≠Csr.curN.toList:=by
 rw[QHy];show preL++_≠(BA [99,117,114]).toList;rw[QEb];intro h;have:=congrArg (fun l=>l[0]?) h;simp[preL]at this
theorem QQZ(n:Int):fK n≠Csr.newCu.toList:=by
 rw[QHy];show preL++_≠(BA [99,117,114,46,110,101,119]).toList;rw[QEb];intro h;have:=congrArg (fun l=>l[0]?) h;simp[preL]at this
theorem QWj{m:DM}(hI:DInv m)(p:List UInt8):Touch m (Od.layJ m p).1 fun k=>k≠Od.cmdN.toList:=by
 have t:=QGk hI Od.cmdN (QAn p);unfold Od.layJ;split
 ·exact t.trans ((QCq t.inv Od.cmdN).mono fun _ _=>trivial)
 ·exact t
theorem QMl{m:DM}(hI:DInv m)(J:Od.JM)(p:List UInt8)(L:Od.JL):Touch m (Od.laidJ m J p L).1 fun k=>k≠Od.cmdN.toList:=by
 unfold Od.laidJ;split<;>exact QWj hI p
theorem QVp{m:DM}(hI:DInv m)(J:Od.JM)(id code:Int):Touch m (Od.endJ m J id code).1 fun k=>k≠Od.cmdN.toList:=by
 unfold Od.endJ;split
 ·exact Touch.refl hI _
 split
 ·exact Touch.refl hI _
 split
 ·exact Touch.refl hI _
 split
 ·exact Touch.refl hI _
 ·exact QMl hI _ _ _
theorem QQI{m:DM}(hI:DInv m)(J:Od.JM)(id:Int):Touch m (Od.beginJ m J id).1 fun k=>k≠Od.cmdN.toList:=by
 unfold Od.beginJ;split
 ·exact Touch.refl hI _
 split
 ·exact Touch.refl hI _
 split
 ·exact Touch.refl hI _
 split
 ·exact Touch.refl hI _
 ·exact QMl hI _ _ _
theorem QLf{m:DM}(hI:DInv m)(c:Cu):Touch m (Csr.saveM m c).1 fun k=>k≠Csr.newCu.toList∧k≠Csr.curN.toList:=by
 have t1:=(QGV hI Csr.newCu).mono (T:=fun k=>k≠Csr.newCu.toList∧k≠Csr.curN.toList) fun k h=>h.1;have t2:=t1.trans ((QGk t1.inv Csr.newCu (Csr.fileC c)).mono (T:=fun k=>k≠Csr.newCu.toList∧k≠Csr.curN.toList) fun k h=>h.1);have t3:=t2.trans ((QCq t2.inv Csr.newCu).mono (T:=fun k=>k≠Csr.newCu.toList∧k≠Csr.curN.toList) fun k h=>trivial);unfold Csr.saveM;split
 ·exact Touch.refl hI _
 split
 ·exact t1
 split
 ·exact t2
 split
 ·exact t3
 ·exact t3.trans (QQf t3.inv Csr.newCu Csr.curN)
theorem KOk.dev{k:Kn}(h:KOk k){r:DM}{S:Key→Prop}(t:Touch k.dev r S)(hS:∀n:Int,S (fK n)):KOk ⟨r,k.log,k.X⟩:=⟨h.ldev.touch t fun s _=>hS s.n,h.idx⟩
theorem KOk.endJ{k:Kn}(h:KOk k)(J:Od.JM)(id code:Int):KOk ⟨(Od.endJ k.dev J id code).1,k.log,k.X⟩:=h.dev (QVp h.ldev.inv J id code) QZM
theorem KOk.beginJ{k:Kn}(h:KOk k)(J:Od.JM)(id:Int):KOk ⟨(Od.beginJ k.dev J id).1,k.log,k.X⟩:=h.dev (QQI h.ldev.inv J id) QZM
theorem KOk.saveC{k:Kn}(h:KOk k)(c:Cu):KOk ⟨(Csr.saveM k.dev c).1,k.log,k.X⟩:=h.dev (QLf h.ldev.inv c) fun n=>⟨QQZ n,QcP n⟩
abbrev QDh(k:Kn)(J:Od.JM)(id code:Int):Kn×Od.JM×Int:=(⟨(Od.endJ k.dev J id code).1,k.log,k.X⟩,(Od.endJ k.dev J id code).2)
abbrev QBv(k:Kn)(J:Od.JM)(id:Int):Kn×Od.JM×Int:=(⟨(Od.beginJ k.dev J id).1,k.log,k.X⟩,(Od.beginJ k.dev J id).2)
theorem QQ4(d l x q:Option Addr)(k:Kn)(J:Od.JM)(id code:Int):Ct Pr 130 [.pointer q,.I id,.I code] .one [.I] [Od.JObj d q J,QA7 d l x k] emp
  (fun t Bs=>t.1=(QDh k J id code).2.2∧Bs=[Od.JObj d q (QDh k J id code).2.1,QA7 d l x (QDh k J id code).1]):=by
 refine QGr (φ:=QAb Pr 130 [.pointer q,.I id,.I code] .one [.I]) (fun h=>h) fun B _=>?_;refine QGn 1 fun hk=>?_;refine xd1 (Od.End_spec d q k.dev J id code) ?_;exact QCs d l x (QDh k J id code).1 (hk.endJ J id code) (QAK [Od.JObj d q (QDh k J id code).2.1,QA7 d l x (QDh k J id code).1] (QAD ⟨rfl,rfl⟩))
theorem QSi(d l x q:Option Addr)(k:Kn)(J:Od.JM)(id:Int):Ct Pr 326 [.pointer q,.I id] .one [.I] [Od.JObj d q J,QA7 d l x k] emp
  (fun t Bs=>t.1=(QBv k J id).2.2∧Bs=[Od.JObj d q (QBv k J id).2.1,QA7 d l x (QBv k J id).1]):=by
 refine QGr (φ:=QAb Pr 326 [.pointer q,.I id] .one [.I]) (fun h=>h) fun B _=>?_;refine QGn 1 fun hk=>?_;refine xd1 (Od.Begin_spec d q k.dev J id) ?_;exact QCs d l x (QBv k J id).1 (hk.beginJ J id) (QAK [Od.JObj d q (QBv k J id).2.1,QA7 d l x (QBv k J id).1] (QAD ⟨rfl,rfl⟩))
structure GS where
 k:Kn
 lost:Int
 J:Od.JM
 os:List QCS
 ok:Bool
abbrev QHu(clock:Int)(s:GS)(r:RE):GS:=⟨(QBn clock s.k s.lost r).k,(QBn clock s.k s.lost r).lost,s.J,s.os,(QBn clock s.k s.lost r).ok⟩
def QPH(clock:Int)(s:GS)(id:Int):GS:=
 if (QHu clock s ⟨6,0,ByteArray.empty,2,id⟩).ok=true then { (QHu clock s ⟨6,0,ByteArray.empty,2,id⟩) with os:=s.os++QDg id 2 } else QHu clock s ⟨6,0,ByteArray.empty,2,id⟩
def QCX(clock:Int)(s:GS)(id:Int):GS:=
 if (QDh s.k s.J id 2).2.2=10 then ⟨(QDh s.k s.J id 2).1,s.lost,(QDh s.k s.J id 2).2.1,s.os,false⟩
 else if (QDh s.k s.J id 2).2.2=0 then QPH clock ⟨(QDh s.k s.J id 2).1,s.lost,(QDh s.k s.J id 2).2.1,s.os,true⟩ id
 else ⟨(QDh s.k s.J id 2).1,s.lost,(QDh s.k s.J id 2).2.1,s.os,true⟩
def QDG(clock:Int):List Int→GS→GS
 | [],s=>s
 | id::ids,s=>if (QCX clock s id).ok=true then QDG clock ids (QCX clock s id) else QCX clock s id
def QP8(clock epoch:Int)(t:GS)(m:SeM):GS×SeM:=
 let y:=QB2 t.k.dev t.k.log
 if y.2.2=10 then ({ t with k:=⟨y.1,y.2.1,t.k.X⟩,ok:=false },m)
 else ({ t with k:=⟨y.1,y.2.1,t.k.X⟩,os:=t.os++(QCV epoch clock y.2.1 m).2 },(QCV epoch clock y.2.1 m).1)
def QLL(clock epoch:Int)(t:GS)(m:SeM):GS×SeM:=if t.ok=true then QP8 clock epoch t m else (t,m)
def QGJ(clock boots epoch:Int)(s:GS)(m:SeM):GS×SeM:=
 if (QHu clock s ⟨4,0,ByteArray.empty,boots,0⟩).ok=true then QLL clock epoch (QDG clock (Od.leftJ s.J.L) (QHu clock s ⟨4,0,ByteArray.empty,boots,0⟩)) m else (QHu clock s ⟨4,0,ByteArray.empty,boots,0⟩,m)
abbrev GsP(g:Nat)(c:GwC)(s:GS)(m:SeM):List HP:=[GwB g (c.withLost s.lost) s.os,QA7 c.dev c.log c.idx s.k,Od.JObj c.dev c.jr s.J,QBA c.up m]
theorem QWq(g:Nat)(c:GwC)(s:GS)(hl:c.lost=s.lost)(hs:s.ok=true)(ho:s.os.length≤800000)(m:SeM) :
  Ct Pr 62 [.pointer (some ⟨g,0,none⟩)] .one [.I] [GwB g c s.os,QA7 c.dev c.log c.idx s.k,Od.JObj c.dev c.jr s.J,QBA c.up m] GTab
  (fun t Bs=>t.1=(if (QGJ c.clock c.boots c.epoch s m).1.ok=true then 0 else 10)∧Bs=GsP g c (QGJ c.clock c.boots c.epoch s m).1 (QGJ c.clock c.boots c.epoch s m).2):=by
 refine QGr (QFp QYs) fun B hr=>?_;haveI:=QKI hr;obtain⟨N,hN⟩:∃N,QGJ c.clock c.boots c.epoch s m=N:=⟨_,rfl⟩;rw[hN];unfold QCH;refine QAL fun b=>QBu (fun As'=>N.1.ok=false∧As'=Blk b [.I 0]::GsP g c N.1 N.2) (fun Q hQ=>?_) ?_
 ·unfold QGJ at hN;refine xgf (h:=?_);refine QST (QFJ g c s.os s.k ⟨4,0,ByteArray.empty,c.boots,0⟩ (show (0:Nat)≤1000000 by decide)) rdb ?_ ?_
  case refine_2=>
   rintro _ ⟨hok,rfl⟩;rw[hl]at hok⊢;rw[if_neg (fun q=>by rw[show (QHu c.clock s ⟨4,0,ByteArray.empty,c.boots,0⟩).ok=false from hok]at q;cases q)]at hN;subst hN;exact QBM (QAK (Blk b [.I 0]::GsP g c (QHu c.clock s ⟨4,0,ByteArray.empty,c.boots,0⟩) m) (hQ _ ⟨hok,rfl⟩))
  rintro _ _ ⟨hok,rfl⟩;rw[hl]at hok⊢;obtain⟨n,hn⟩:∃n,QHu c.clock s ⟨4,0,ByteArray.empty,c.boots,0⟩=n:=⟨_,rfl⟩
  have hnok:n.ok=true:=by rw[←hn];exact hok
  rw[hn,if_pos hnok]at hN
  have hnos:n.os=s.os:=by rw[←hn]
  have hnJ:n.J=s.J:=by rw[←hn]
  rw[←hnJ]at hN;refine QBM (ca0 ?_);refine QAK (Blk b [.I 0]::GsP g c (QHu c.clock s ⟨4,0,ByteArray.empty,c.boots,0⟩) m) ?_;rw[hn];refine xgf (h:=?_);refine xcl (Od.Left_spec c.dev c.jr n.J) rdb ?_;rintro⟨sl,_⟩ _ rfl;refine QBM (ca1 ?_)
  generalize hids:Od.leftJ n.J.L=ids at *
  refine QBx 0 (P1:=Od.JObj c.dev c.jr n.J) (fun f hf=>hf.1) fun hinv=>?_
  have hlen:ids.length≤1024:=by
   rw[←hids];unfold Od.leftJ;rw[List.length_map];exact Nat.le_trans (List.length_filter_le _ _) hinv.len
  refine QCm (E:=I64) (xs:=ids) sl fun hsn _=>?_;refine QAK (Ar I64 sl ids::Blk b [.I 0]::GsP g c n m) ?_;refine QBP (fun r (x:Int) As'=>∃(i:Nat) (t:GS),x=(i:Int)∧r=ids.length - i∧i≤ids.length∧t.ok=true∧t.os.length≤s.os.length+i∧QDG c.clock ids n=QDG c.clock (ids.drop i) t∧As'=Ar I64 sl ids::Blk b [.I 0]::GsP g c t m) ids.length ⟨0,n,rfl,rfl,by omega,hnok,by rw[hnos];omega,rfl,rfl⟩ ?_;rintro r x As' K ⟨i,t,rfl,rfl,hi,hto,htl,hfold,rfl⟩ hK;refine QAA (fun h=>?_) (fun h=>?_)
  ·have hlt:i<ids.length:=by omega
   obtain⟨id,hid⟩:∃v,ids[i]? = some v:=⟨_,List.getElem?_eq_getElem hlt⟩
   have hdrop:ids.drop i=id::ids.drop (i+1):=by rw[List.drop_eq_getElem_cons hlt];congr 1;exact (List.getElem?_eq_some_iff.1 hid).2
   rw[hdrop,QDG]at hfold;refine QAH (E:=I64) (xs:=ids) (s:=sl) (k:=i) (h1:=hlt) (h:=fun _ _=>?_);refine QAN (E:=I64) (xs:=ids) (i:=i) hid (h:=xgf (h:=?_));refine xcl (QQ4 c.dev c.log c.idx c.jr t.k t.J id 2) rdb ?_;rintro⟨e,_⟩ _ ⟨he,rfl⟩;simp only at he;subst he
   have bad:∀(t':GS),QCX c.clock t id=t'→t'.ok=false→N.1=t'∧N.2=m:=fun t' h1 h2=>by
    rw[h1,if_neg (by rw[h2];decide)]at hfold;rw[hfold]at hN;unfold QLL at hN;rw[if_neg (by rw[h2];decide)]at hN;rw[←hN];exact⟨rfl,rfl⟩
   have good:∀(t':GS),QCX c.clock t id=t'→t'.ok=true→QDG c.clock ids n=QDG c.clock (ids.drop (i+1)) t':=fun t' h1 h2=>by
    rw[h1,if_pos h2]at hfold;exact hfold
   refine QBM (ca1 (QQ8 (fun he=>QAJ (xif (fun h0=>?_) (fun h0=>?_))) (fun he=>?_)))
   ·have h0:(QDh t.k t.J id 2).2.2=0:=by simpa using h0
    have hsp:=QFJ g (c.withLost t.lost) t.os (QDh t.k t.J id 2).1 ⟨6,0,ByteArray.empty,2,id⟩ (show (0:Nat)≤1000000 by decide);obtain⟨nk,hnk⟩:∃nk,QBn c.clock (QDh t.k t.J id 2).1 t.lost ⟨6,0,ByteArray.empty,2,id⟩=nk:=⟨_,rfl⟩;rw[show QBn (c.withLost t.lost).clock (QDh t.k t.J id 2).1 (c.withLost t.lost).lost ⟨6,0,ByteArray.empty,2,id⟩=nk from hnk]at hsp
    have hng:QHu c.clock ⟨(QDh t.k t.J id 2).1,t.lost,(QDh t.k t.J id 2).2.1,t.os,true⟩ ⟨6,0,ByteArray.empty,2,id⟩=⟨nk.k,nk.lost,(QDh t.k t.J id 2).2.1,t.os,nk.ok⟩:=by rw[←hnk]
    have hst0:QCX c.clock t id=if nk.ok=true then ⟨nk.k,nk.lost,(QDh t.k t.J id 2).2.1,t.os++QDg id 2,nk.ok⟩ else ⟨nk.k,nk.lost,(QDh t.k t.J id 2).2.1,t.os,nk.ok⟩:=by
     unfold QCX;rw[if_neg he,if_pos h0];unfold QPH;rw[hng]
    refine QST hsp rdb ?_ ?_
    ·rintro _ _ ⟨hok,rfl⟩;have hst:=hst0;rw[if_pos hok]at hst;refine QBM (ca0 ?_);refine xd0 (QDU g (c.withLost nk.lost) t.os (by omega) id 2) ?_;rw[QAF i (by omega)];refine QAK (Ar I64 sl ids::Blk b [.I 0]::GsP g c ⟨nk.k,nk.lost,(QDh t.k t.J id 2).2.1,t.os++QDg id 2,nk.ok⟩ m) (hK (ids.length - (i+1)) _ _ (by omega) ⟨i+1,_,rfl,rfl,by omega,hok,?_,good _ hst hok,rfl⟩);have:=QOv ⟨4,0,0,id,2,[]⟩;show (t.os++QDg id 2).length≤_;rw[List.length_append];show t.os.length+(upM _).length≤_;omega
    ·rintro _ ⟨hok,rfl⟩;have hst:=hst0;rw[if_neg (by rw[hok];decide)]at hst;obtain⟨e1,e2⟩:=bad _ hst hok;rw[e1,e2]at hQ;exact QBM (QAK (Blk b [.I 0]::GsP g c ⟨nk.k,nk.lost,(QDh t.k t.J id 2).2.1,t.os,nk.ok⟩ m) (hQ _ ⟨hok,rfl⟩))
   ·have h0:(QDh t.k t.J id 2).2.2≠0:=by simpa using h0
    have hst:QCX c.clock t id=⟨(QDh t.k t.J id 2).1,t.lost,(QDh t.k t.J id 2).2.1,t.os,true⟩:=by
     unfold QCX;rw[if_neg he,if_neg h0]
    rw[QAF i (by omega)];exact QAK (Ar I64 sl ids::Blk b [.I 0]::GsP g c ⟨(QDh t.k t.J id 2).1,t.lost,(QDh t.k t.J id 2).2.1,t.os,true⟩ m) (hK (ids.length - (i+1)) _ _ (by omega) ⟨i+1,_,rfl,rfl,by omega,rfl,(by show t.os.length≤_;omega),good _ hst rfl,rfl⟩)
   ·have hst:QCX c.clock t id=⟨(QDh t.k t.J id 2).1,t.lost,(QDh t.k t.J id 2).2.1,t.os,false⟩:=by
     unfold QCX;rw[if_pos he]
    obtain⟨e1,e2⟩:=bad _ hst rfl;rw[e1,e2]at hQ;exact QAK (Blk b [.I 0]::GsP g c ⟨(QDh t.k t.J id 2).1,t.lost,(QDh t.k t.J id 2).2.1,t.os,false⟩ m) (hQ _ ⟨rfl,rfl⟩)
  ·rw[List.drop_of_length_le (by omega),QDG]at hfold;rw[hfold]at hN;unfold QLL at hN;rw[if_pos hto]at hN;unfold QP8 at hN;refine xgf (h:=QGn 3 fun hk=>?_);have hk2:KOk ⟨(QB2 t.k.dev t.k.log).1,(QB2 t.k.dev t.k.log).2.1,t.k.X⟩:=⟨hk.ldev.sync.1,hk.idx⟩;refine xcl (QJb c.log c.dev t.k.dev t.k.log hk.ldev.safe) rdb ?_
   generalize QB2 t.k.dev t.k.log=y at *
   rintro⟨e,_⟩ _ ⟨he,rfl⟩;simp only at he hN;subst he;refine QBM (ca1 (QCs c.dev c.log c.idx ⟨y.1,y.2.1,t.k.X⟩ hk2 (QQ8 (fun he=>?_) (fun he=>?_))))
   ·rw[if_neg he]at hN;refine xcl (QH7 g (c.withLost t.lost) t.os (by omega) ⟨y.1,y.2.1,t.k.X⟩ m) rdb ?_;rintro _ _ rfl;refine QQA (ca0 (xsq (xgq ?_)));subst hN;rw[show ({ t with k:=⟨y.1,y.2.1,t.k.X⟩,os:=t.os++(QCV c.epoch c.clock y.2.1 m).2 }:GS).ok=true from hto,if_pos rfl];exact QAK (GsP g c { t with k:=⟨y.1,y.2.1,t.k.X⟩,os:=t.os++(QCV c.epoch c.clock y.2.1 m).2 } (QCV c.epoch c.clock y.2.1 m).1) (QAD ⟨rfl,rfl⟩)
   ·rw[if_pos he]at hN;subst hN;exact QAK (Blk b [.I 0]::GsP g c { t with k:=⟨y.1,y.2.1,t.k.X⟩,ok:=false } m) (hQ _ ⟨rfl,rfl⟩)
 ·rintro _ ⟨hok,rfl⟩;refine QAL fun b2=>xsq (xgq ?_);rw[hok];exact QAK (GsP g c N.1 N.2) (QAD ⟨rfl,rfl⟩)
end Go.Cx
