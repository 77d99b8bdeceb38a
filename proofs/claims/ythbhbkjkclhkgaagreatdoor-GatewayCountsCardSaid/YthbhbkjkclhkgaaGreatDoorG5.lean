/-
The gateway: the values that a poll has told.
-/
import Derived.Test.YthbhbkjkclhkgaaGreatDoorG1
import Derived.Test.YthbhbkjkclhkgaaGreatDoorPLN
set_option linter.unusedVariables false
set_option maxRecDepth 100000
open Go Go.Cf
variable {B:QBJ}{As F:List HP}
namespace Go.Cx
def HLT:Enc QM5:=⟨fun x=>[.bool x.has,.I x.value,.I x.at_],3,fun _=>rfl,fun x v h=>by simp at h;rcases h with rfl|rfl|rfl<;>rfl,Dc,⟨false,0,0⟩⟩
def ALT:Enc AlV:=⟨fun x=>[.I x.state,.bool x.waits],2,fun _=>rfl,fun x v h=>by simp at h;rcases h with rfl|rfl<;>rfl,Dc,⟨0,false⟩⟩
abbrev QiV(t:Pn.Tag):Ad:=[.string t.name,.I t.unit,.I t.kind,.I t.addr,.I t.every,.bool t.wide,.bool t.sgn,.bool t.swap,.I t.mul,.I t.div,.I t.add,.I t.dead,.I t.quiet,.bool t.ulow,.bool t.uhigh,.bool t.latch,.I t.low,.I t.high,.I t.hyst]
def QXi(t:Pn.Tag):QjE:=⟨t.ulow,t.uhigh,t.latch,t.low,t.high,t.hyst⟩
def QCf(v:Int):UInt16:=UInt16.ofNat v.toNat
theorem Qa4{v:Int}(h0:0<=v)(h1:v<=65535):((QCf v).toNat:Int)=v:=by
 unfold QCf;rw[UInt16.toNat_ofNat'];omega
theorem Qfj{s:Sl}{vs:Ae}(c:QOG vs){h:QBs}(d:RAr W16 s vs h):RAr Pn.U16 s (vs.map QCf) h:=by
 obtain⟨h1,b⟩:=d;refine⟨Si h1,?_⟩
 have e:QAi Pn.U16 (vs.map QCf)=QAi W16 vs:=by
  clear h1 b
  induction vs with
  | nil=>rfl
  | cons v vs a=>
   have hv:=c v (by simp);have a:=a fun x hx=>c x (by simp[hx]);show Pn.U16.f (QCf v)++QAi Pn.U16 (vs.map QCf)=W16.f v++QAi W16 vs;rw[a];show [Value.int .u16 ((QCf v).toNat:Int)]++_=[Value.int .u16 v]++_;rw[Qa4 hv.1 hv.2]
 rw[e];exact b
theorem QeN{t:Pn.Tag}(h:Pn.tagE t=0):(0<=t.dead/\t.dead<=1099511627776)/\(0<=t.quiet/\t.quiet<=1099511627776)/\t.name.size<=16:=by
 unfold Pn.tagE at h
 have b:∀{x y:Int},(if x≠0 then x else y)=0->x=0/\y=0:=fun {x y} h=>by
  by_cases hx:x=0
  ·rw[Wb (by rw[hx];decide)]at h;exact⟨hx,h⟩
  ·rw[We hx]at h;exact absurd h hx
 obtain⟨a,h⟩:=QHF Dc h;obtain⟨_,h⟩:=QHF Dc h;obtain⟨_,h⟩:=QHF Dc h;obtain⟨_,h⟩:=QHF Dc h;obtain⟨_,h⟩:=QHF Dc h;obtain⟨_,h⟩:=b h;obtain⟨_,h⟩:=QHF Dc h;obtain⟨hb,_⟩:=b h;unfold Pn.bandE at hb
 have c:¬(t.dead<0\/t.dead>1099511627776\/t.quiet<0\/t.quiet>1099511627776):=fun q=>by
  rw[We q]at hb;cases hb
 have a:QDQ t.name=true:=Si a
 unfold QDQ at a;simp only[Wf,Wq]at a;exact⟨Om,Om,a.1.2⟩
theorem Qer(ts:List Pn.Tag)(p:Pn.Poll)(on:List Bool)(b:List UInt16):∀(ks:Ae) (c l:Ae) (e:Int),Pn.goV ts p on b ks c=(l,e)->l=[]\/∃vs,l=c++vs/\vs.length=ks.length/\∀(i:Nat) (k:Int),ks[i]? = some k->∃t,Pn.tagAt ts k=some t/\vs[i]? = some (Pn.valueM t p on b)
 | [],c,l,e,h=>by
  obtain⟨rfl,rfl⟩:=Prod.mk.inj h;exact .inr ⟨[],by simp,rfl,fun i k a=>by simp at a⟩
 | k::ks,c,l,e,h=>by
  unfold Pn.goV at h;split at h
  ·obtain⟨rfl,rfl⟩:=Prod.mk.inj h;exact .inl rfl
  rename_i t f
  split at h
  ·rcases Qer ts p on b ks _ l e h with q|⟨vs,g,j,m⟩
   ·exact .inl q
   ·refine .inr ⟨Pn.valueM t p on b::vs,by rw[g];simp,by simp[j],fun i d a=>?_⟩
    match i with
    | 0=>
     have:k=d:=Si a
     exact⟨t,this ▸ f,rfl⟩
    | i+1=>exact m i d (Si a)
  ·obtain⟨rfl,rfl⟩:=Prod.mk.inj h;exact .inl rfl
theorem QYk(t:Pn.Tag)(p:Pn.Poll)(on:List Bool)(a:List UInt16):i64 (Pn.valueM t p on a):=by
 unfold Pn.valueM;split
 ·split<;>exact⟨Dc,Dc⟩
 ·unfold Pn.valN Pn.clampV;split
  ·exact⟨Dc,Dc⟩
  split
  ·exact⟨Dc,Dc⟩
  ·exact⟨Om,Om⟩
structure VS where
 k:Kn
 lost:Int
 held:List QM5
 al:List AlV
 ok:Bool
def QNm(clock:Int)(s:VS)(i:Nat)(t:Pn.Tag)(v:Int):VS:=
 let h:=QEt t.dead t.quiet (s.held.getD i ⟨false,0,0⟩) v clock
 if h.2=true then ⟨(QBi clock s.k s.lost ⟨1,0,t.name,v,0⟩).k,(QBi clock s.k s.lost ⟨1,0,t.name,v,0⟩).lost,s.held.set i h.1,s.al,(QBi clock s.k s.lost ⟨1,0,t.name,v,0⟩).ok⟩ else s
def QR8(clock:Int)(s:VS)(i:Nat)(t:Pn.Tag)(v:Int):VS:=
 let a:=QIc (QXi t) (s.al.getD i ⟨0,false⟩) v
 if a.2≠0 then ⟨(QBi clock s.k s.lost ⟨2,0,t.name,a.2,0⟩).k,(QBi clock s.k s.lost ⟨2,0,t.name,a.2,0⟩).lost,s.held,s.al.set i a.1,(QBi clock s.k s.lost ⟨2,0,t.name,a.2,0⟩).ok⟩ else { s with al:=s.al.set i a.1 }
def QE5(clock:Int)(ts:List Pn.Tag)(s:VS)(k v:Int):VS:=match Pn.tagAt ts k with
 | none=>s
 | some t=>if (QNm clock s k.toNat t v).ok=true then QR8 clock (QNm clock s k.toNat t v) k.toNat t v else QNm clock s k.toNat t v
def QEu(clock:Int)(ts:List Pn.Tag):Ae->Ae->VS->VS
 | k::ks,v::vs,s=>if (QE5 clock ts s k v).ok=true then QEu clock ts ks vs (QE5 clock ts s k v) else QE5 clock ts s k v
 | _,_,s=>s
def QCN(clock:Int)(ts:List Pn.Tag)(p:Pn.Poll)(r:RepV)(s:VS):VS:=QEu clock ts p.tags (Pn.valuesM ts p r.exc r.on (r.set.map QCf) r.files.length).1 s
def HeldOk(l:List QM5):Prop:=∀h∈l,i64 h.value/\i64 h.at_
theorem HeldOk.set{l:List QM5}(h:HeldOk l)(i:Nat){x:QM5}(hx:i64 x.value/\i64 x.at_):HeldOk (l.set i x):=fun y a=>by
 rcases Ou a with q|q
 ·exact h y q
 ·rw[q];exact hx
theorem Qdb{d q:Int}{h:QM5}{v now:Int}(a:i64 h.value/\i64 h.at_)(hv:i64 v)(hn:i64 now):i64 (QEt d q h v now).1.value/\i64 (QEt d q h v now).1.at_:=by
 unfold QEt
 (repeat' split)<;>first|exact⟨hv,hn⟩|exact a
abbrev VsP(g:Nat)(c:GwC)(os:List QCj)(s:VS):List HP:=[GwB g (c.withLost s.lost) os,QA7 c.dev c.log c.idx s.k,Ar HLT c.held s.held,Ar ALT c.alarms s.al]
theorem QT5(g:Nat)(c:GwC)(os:List QCj)(ts:List Pn.Tag)(p:Pn.Poll)(j:Sl)(r:RepV)(V J a3:Sl)(d8:a3.n=r.files.length)(d9:QOG r.set)(hc:J.n<=J.c)(c5:p.tags.length<=1000000)(s:VS)
  (hl:c.lost=s.lost) (d':s.ok=true) (e0:s.held.length=ts.length/\s.al.length=ts.length) (e1:HeldOk s.held) (hn:i64 c.clock) :
  CtP QC1 Pr 239 [.pointer (some ⟨g,0,none⟩),.agg #[.I p.unit,.I p.kind,.I p.addr,.I p.count,.I p.every,j.v],QgR r.exc V J a3] (.tup []) [] [GwB g c os,QA7 c.dev c.log c.idx s.k,Ar HLT c.held s.held,Ar ALT c.alarms s.al]
  (GTab.and ((RAr Pn.TG c.tags ts).and ((RAr I64 j p.tags).and ((RAr BL V r.on).and (RAr W16 J r.set)))))
  (fun _ Bs=>(QCN c.clock ts p r s).ok=true/\HeldOk (QCN c.clock ts p r s).held/\((QCN c.clock ts p r s).held.length=ts.length/\(QCN c.clock ts p r s).al.length=ts.length)/\Bs=VsP g c os (QCN c.clock ts p r s))
  (fun Bs=>(QCN c.clock ts p r s).ok=false/\HeldOk (QCN c.clock ts p r s).held/\((QCN c.clock ts p r s).held.length=ts.length/\(QCN c.clock ts p r s).al.length=ts.length)/\Bs=VsP g c os (QCN c.clock ts p r s)):=by
 refine QfU (QDP _ _ _ _ _ _ _ _ _ _ _) fun B c6=>?_;obtain⟨c9,h1,o,P,Q⟩:=c6;haveI:=QKj c9;haveI:Fro B c.tags Pn.TG ts:=⟨h1⟩;haveI:Fro B j I64 p.tags:=⟨o⟩;haveI:Fro B V BL r.on:=⟨P⟩;haveI:Fro B J Pn.U16 (r.set.map QCf):=⟨Qfj d9 Q⟩;obtain⟨N,L⟩:∃N,QCN c.clock ts p r s=N:=⟨_,rfl⟩;rw[L];unfold QCN at L;unfold QDP mfP;dsimp only;refine QAL fun b=>QAL fun e2=>QAP (xgf (h:=?_));iterate 5 (refine xgq ?_)
 refine xgS j (xgq (xgS V (xgS J (xgS a3 ?_))));refine xcl (Pn.Values_spec c.tags ts p j r.exc V J a3 r.on (r.set.map QCf) hc c5) rdb ?_;rw[d8]
 have Z:(Pn.valuesM ts p r.exc r.on (r.set.map QCf) r.files.length).1≠[]->(Pn.allE ts).1=0:=fun W=>by
  refine Li fun q=>W ?_;unfold Pn.valuesM;rw[We q]
 have S:(Pn.valuesM ts p r.exc r.on (r.set.map QCf) r.files.length).1=[]\/((Pn.valuesM ts p r.exc r.on (r.set.map QCf) r.files.length).1.length=p.tags.length/\∀(i:Nat) (k:Int),p.tags[i]? = some k->∃t,Pn.tagAt ts k=some t/\(Pn.valuesM ts p r.exc r.on (r.set.map QCf) r.files.length).1[i]? = some (Pn.valueM t p r.on (r.set.map QCf))):=by
  unfold Pn.valuesM
  (repeat' split)<;>try exact .inl rfl
  rcases Qer ts p r.on (r.set.map QCf) p.tags [] _ _ rfl with q|⟨vs,m,b5,d1⟩
  ·exact .inl q
  ·rw[W6]at m;rw[m];exact .inr ⟨b5,d1⟩
 generalize Pn.valuesM ts p r.exc r.on (r.set.map QCf) r.files.length=d7 at *
 obtain⟨l,e⟩:=d7;rintro⟨w,(e5:Int),_⟩ _ ⟨_,rfl⟩;simp only at Z S L|-;refine QAz (ca2 ?_);refine QCl (E:=I64) (xs:=l) w fun e3 _=>?_
 have e' : l.length <= 1000000 := by rcases S with q|q
                                     · rw[q];decide
                                     · rw[q.1];exact c5
 rw[show GwB g c os=GwB g (c.withLost s.lost) os by rw[<-hl]];refine QAK (Ar I64 w l::Blk b [.I p.unit,.I p.kind,.I p.addr,.I p.count,.I p.every,j.v]::VsP g c os s) ?_;refine QBa (fun n (x:Int) As'=>∃(i:Nat) (t:VS),x=(i:Int)/\n=l.length - i/\i<=l.length/\t.ok=true/\(t.held.length=ts.length/\t.al.length=ts.length)/\HeldOk t.held/\QEu c.clock ts p.tags l s=QEu c.clock ts (p.tags.drop i) (l.drop i) t/\As'=Ar I64 w l::Blk b [.I p.unit,.I p.kind,.I p.addr,.I p.count,.I p.every,j.v]::VsP g c os t) l.length ⟨0,s,rfl,rfl,Om,d',e0,e1,rfl,rfl⟩ ?_;rintro n x As' K ⟨i,t,rfl,rfl,hi,b3,M,X,A,rfl⟩ c';refine QAB (fun h=>?_) (fun h=>?_)
 case refine_2=>
  rw[Zg (show l.length<=i by omega)]at A
  have:QEu c.clock ts (p.tags.drop i) [] t=t:=by
   cases p.tags.drop i<;>rfl
  rw[this]at A;rw[A]at L;subst L;exact QAK (VsP g c os t) (QAD ⟨b3,X,M,rfl⟩)
 have a1:i<l.length:=Om
 have W:l≠[]:=fun q=>by rw[q]at a1;cases a1
 have Z:=Z W;obtain⟨e6,S⟩:=S.resolve_left W;obtain⟨k,a7⟩:∃k,p.tags[i]? = some k:=⟨_,Wa Om⟩;obtain⟨a,T,hv⟩:=S i k a7;have b8:=QYk a p r.on (r.set.map QCf)
 generalize Pn.valueM a p r.on (r.set.map QCf)=v at *
 have b4:0<=k/\ts[k.toNat]? = some a:=by
  unfold Pn.tagAt at T;split at T
  ·cases T
  ·exact⟨Om,T⟩
 obtain⟨b4,Y⟩:=b4;have d2:k.toNat<ts.length:=(Wc.1 Y).1;obtain⟨e7,e8,e9⟩:=QeN (Pn.allE_tag Z Y)
 have d3:p.tags.drop i=k::p.tags.drop (i+1):=by rw[Ws Om];congr 1;exact (Wc.1 a7).2
 have d4:l.drop i=v::l.drop (i+1):=by rw[Ws a1];congr 1;exact (Wc.1 hv).2
 rw[d3,d4,QEu]at A
 have d5:((k.toNat:Nat):Int)=k:=Om
 have D:QE5 c.clock ts t k v=if (QNm c.clock t k.toNat a v).ok=true then QR8 c.clock (QNm c.clock t k.toNat a v) k.toNat a v else QNm c.clock t k.toNat a v:=by unfold QE5;rw[T]
 have bad:∀{z:VS},QE5 c.clock ts t k v=z->z.ok=false->N=z:=fun {z} h1 o=>by
  rw[h1,Wb (by rw[o];decide)]at A;rw[<-L,A]
 have d6:∀{z:VS},QE5 c.clock ts t k v=z->z.ok=true->QEu c.clock ts p.tags l s=QEu c.clock ts (p.tags.drop (i+1)) (l.drop (i+1)) z:=fun h1 o=>by
  rw[h1,We o]at A;exact A
 refine QAH (E:=I64) (xs:=l) (s:=w) (k:=i) (h1:=a1) (h:=fun _ _=>?_);refine QAN (E:=I64) (xs:=l) (i:=i) hv (h:=xgS j ?_);refine QAH (E:=I64) (xs:=p.tags) (s:=j) (k:=i) (h1:=Om) (h:=fun _ _=>?_);refine QAN (E:=I64) (xs:=p.tags) (i:=i) a7 (h:=xgf (h:=?_));rw[<-d5];refine QAH (E:=Pn.TG) (xs:=ts) (s:=c.tags) (k:=k.toNat) (h1:=d2) (h:=fun _ _=>?_);refine QAN (E:=Pn.TG) (xs:=ts) Y (h:=?_);iterate 18 (refine QAa (E:=Pn.TG) (xs:=ts) Y (h:=?_))
 refine QAL fun a4=>?_;iterate 19 (refine xsq ?_)
 refine QAP (xgq (xgq (xgf (h:=?_))));have a2:t.held[k.toNat]? = some (t.held.getD k.toNat ⟨false,0,0⟩):=gdE Om;have b9:i64 (t.held.getD k.toNat ⟨false,0,0⟩).value/\i64 (t.held.getD k.toNat ⟨false,0,0⟩).at_:=X _ (Wp a2)
 have y:∀q,QEt a.dead a.quiet (t.held.getD k.toNat ⟨false,0,0⟩) v c.clock=q->QNm c.clock t k.toNat a v=if q.2=true then ⟨(QBi c.clock t.k t.lost ⟨1,0,a.name,v,0⟩).k,(QBi c.clock t.k t.lost ⟨1,0,a.name,v,0⟩).lost,t.held.set k.toNat q.1,t.al,(QBi c.clock t.k t.lost ⟨1,0,a.name,v,0⟩).ok⟩ else t:=fun q O=>by unfold QNm;rw[O]
 have b':=Qdb (d:=a.dead) (q:=a.quiet) b9 b8 hn;have c0:=QQN a.dead a.quiet (t.held.getD k.toNat ⟨false,0,0⟩) v c.clock ⟨Om,Om⟩ ⟨Om,Om⟩ b9 b8 hn
 generalize t.held.getD k.toNat ⟨false,0,0⟩=h0 at *
 generalize O:QEt a.dead a.quiet h0 v c.clock=q at *
 replace y:=y q rfl
 obtain⟨m,b5⟩:=q;simp only at y b' c0;refine QAH (E:=HLT) (xs:=t.held) (s:=c.held) (k:=k.toNat) (h1:=Om) (h:=fun _ _=>?_);refine QAN (E:=HLT) (xs:=t.held) a2 (h:=?_);iterate 2 (refine QAa (E:=HLT) (xs:=t.held) a2 (h:=?_))
 have f0:c.withLost t.lost=c.withLost t.lost:=rfl
 have c1:∀{u:VS}{R:List HP},QE5 c.clock ts t k v=u->u.ok=true->HeldOk u.held->u.held.length=ts.length/\u.al.length=ts.length->Ent B (Ar I64 w l::Blk b [.I p.unit,.I p.kind,.I p.addr,.I p.count,.I p.every,j.v]::(VsP g c os u++R)) (K (IntKind.i64.wrap ((i:Int)+1))):=by
  intro u R h1 o P Q;rw[QAE i Om];exact QAd (l:=Ar I64 w l::Blk b [.I p.unit,.I p.kind,.I p.addr,.I p.count,.I p.every,j.v]::VsP g c os u) (c' (l.length - (i+1)) _ _ Om ⟨i+1,u,rfl,rfl,Om,o,Q,P,d6 h1 o,rfl⟩)
 have c2:∀{u:VS}{R:List HP},QE5 c.clock ts t k v=u->u.ok=false->HeldOk u.held->u.held.length=ts.length/\u.al.length=ts.length->Ent B (VsP g c os u++R) (Qeg B fun Bs=>N.ok=false/\HeldOk N.held/\(N.held.length=ts.length/\N.al.length=ts.length)/\Bs=VsP g c os N):=by
  intro u R h1 o P Q;rw[bad h1 o];exact QAd (l:=VsP g c os u) (QTr ⟨o,P,Q,rfl⟩)
 refine xgf (h:=QZK ?_ (QAL fun c7=>?_))
 all_goals
  refine xcl c0 rdb ?_;rintro _ _ ⟨rfl,rfl⟩;first|refine QA2 (QgN (QAL fun c7=>?_))|refine QA2 (QgN ?_)
  iterate 3 (refine xsq ?_)
  refine QBh (fun As'=>∃u:VS,QNm c.clock t k.toNat a v=u/\u.ok=true/\HeldOk u.held/\(u.held.length=ts.length/\u.al.length=ts.length)/\As'=Blk a4 (QiV a)::Ar I64 w l::Blk b [.I p.unit,.I p.kind,.I p.addr,.I p.count,.I p.every,j.v]::VsP g c os u) (fun e4 b2=>?_) ?_
  ·refine xif (fun a5=>?_) (fun a5=>?_)
   ·rw[We a5]at y;refine QAP (xgf (h:=xgq (xgq (xgq ?_))));refine QAH (E:=HLT) (xs:=t.held) (s:=c.held) (k:=k.toNat) (h1:=Om) (h:=fun _ _=>?_);refine QIJ (E:=HLT) ⟨m.has,h0.value,h0.at_⟩ a2 (hv:=rfl) (h:=?_);refine QDB (E:=HLT) (xs:=t.held.set k.toNat ⟨m.has,h0.value,h0.at_⟩) ⟨m.has,m.value,h0.at_⟩ (Wy Om) (hj:=Dc) (hv:=rfl) (h:=?_);refine QDB (E:=HLT) (xs:=(t.held.set k.toNat ⟨m.has,h0.value,h0.at_⟩).set k.toNat ⟨m.has,m.value,h0.at_⟩) m (Wy (by rw[Ob];omega)) (hj:=Dc) (hv:=rfl) (h:=?_);rw[Zc,Zc];refine xgq ?_;have U:=QF8 g (c.withLost t.lost) os t.k ⟨1,0,a.name,v,0⟩ (show a.name.size<=1000000 by omega);generalize b1:QBi (c.withLost t.lost).clock t.k (c.withLost t.lost).lost ⟨1,0,a.name,v,0⟩=f at U;rw[show QBi c.clock t.k t.lost ⟨1,0,a.name,v,0⟩=f from b1]at y;have c3:HeldOk (t.held.set k.toNat m):=X.set _ b';refine QTq U rdb ?_ ?_
    ·rintro _ _ ⟨C,rfl⟩;refine QBK (ca0 ?_);exact QAK (Blk a4 (QiV a)::Ar I64 w l::Blk b [.I p.unit,.I p.kind,.I p.addr,.I p.count,.I p.every,j.v]::VsP g c os ⟨f.k,f.lost,t.held.set k.toNat m,t.al,f.ok⟩) (b2 _ ⟨_,y,C,c3,⟨by rw[Ob];exact M.1,M.2⟩,rfl⟩)
    ·rintro _ ⟨C,rfl⟩;rw[y,Wb (show ¬f.ok=true by rw[C];decide)]at D;refine QBK (QAb (VsP g c os ⟨f.k,f.lost,t.held.set k.toNat m,t.al,f.ok⟩) ?_);exact c2 D C c3 ⟨by rw[Ob];exact M.1,M.2⟩
   ·rw[Wb (by rw[a5];decide)]at y;exact QAK (Blk a4 (QiV a)::Ar I64 w l::Blk b [.I p.unit,.I p.kind,.I p.addr,.I p.count,.I p.every,j.v]::VsP g c os t) (b2 _ ⟨t,y,b3,X,M,rfl⟩)
  rintro _ ⟨u,d0,b6,a8,b7,rfl⟩;rw[d0,We b6]at D;have a':u.al[k.toNat]? = some (u.al.getD k.toNat ⟨0,false⟩):=gdE Om
  have G:∀q,QIc (QXi a) (u.al.getD k.toNat ⟨0,false⟩) v=q->QR8 c.clock u k.toNat a v=if q.2≠0 then ⟨(QBi c.clock u.k u.lost ⟨2,0,a.name,q.2,0⟩).k,(QBi c.clock u.k u.lost ⟨2,0,a.name,q.2,0⟩).lost,u.held,u.al.set k.toNat q.1,(QBi c.clock u.k u.lost ⟨2,0,a.name,q.2,0⟩).ok⟩ else { u with al:=u.al.set k.toNat q.1 }:=fun q O=>by unfold QR8;rw[O]
  have has:=QOX (QXi a) (u.al.getD k.toNat ⟨0,false⟩) v
  generalize u.al.getD k.toNat ⟨0,false⟩=a0 at *
  generalize O:QIc (QXi a) a0 v=c4 at *
  replace G:=G c4 rfl
  obtain⟨H,a9⟩:=c4;simp only at G has;refine QAP ?_;iterate 6 (refine xgq ?_)
  refine xgf (h:=?_);refine QAH (E:=ALT) (xs:=u.al) (s:=c.alarms) (k:=k.toNat) (h1:=Om) (h:=fun _ _=>?_);refine QAN (E:=ALT) (xs:=u.al) a' (h:=QAa (E:=ALT) (xs:=u.al) a' (h:=?_));refine QZK ?_ (QAL fun c8=>?_)
  all_goals
   refine xcl has rdb ?_;rintro _ _ ⟨rfl,rfl⟩;first|refine QA2 (ca3 (QAL fun c8=>?_))|refine QA2 (ca3 ?_)
   iterate 2 (refine xsq ?_)
   refine QAP (xgf (h:=xgq (xgq ?_)));refine QAH (E:=ALT) (xs:=u.al) (s:=c.alarms) (k:=k.toNat) (h1:=Om) (h:=fun _ _=>?_);refine QIJ (E:=ALT) ⟨H.state,a0.waits⟩ a' (hv:=rfl) (h:=?_);refine QDB (E:=ALT) (xs:=u.al.set k.toNat ⟨H.state,a0.waits⟩) H (Wy Om) (hj:=Dc) (hv:=rfl) (h:=?_);rw[Zc];have b0:u.held.length=ts.length/\(u.al.set k.toNat H).length=ts.length:=⟨b7.1,by rw[Ob];exact b7.2⟩;refine QAM (xif (fun a6=>?_) (fun a6=>?_))
   ·rw[We (On.1 a6)]at G;refine xgq ?_;have U:=QF8 g (c.withLost u.lost) os u.k ⟨2,0,a.name,a9,0⟩ (show a.name.size<=1000000 by omega);generalize b1:QBi (c.withLost u.lost).clock u.k (c.withLost u.lost).lost ⟨2,0,a.name,a9,0⟩=f at U;rw[show QBi c.clock u.k u.lost ⟨2,0,a.name,a9,0⟩=f from b1]at G;rw[G]at D;refine QTq U rdb ?_ ?_
    ·rintro _ _ ⟨C,rfl⟩;refine QBK (ca0 ?_);refine QAb (Ar I64 w l::Blk b [.I p.unit,.I p.kind,.I p.addr,.I p.count,.I p.every,j.v]::VsP g c os ⟨f.k,f.lost,u.held,u.al.set k.toNat H,f.ok⟩) ?_;exact c1 D C a8 b0
    ·rintro _ ⟨C,rfl⟩;refine QBK (QAb (VsP g c os ⟨f.k,f.lost,u.held,u.al.set k.toNat H,f.ok⟩) ?_);exact c2 D C a8 b0
   ·rw[Wb (Si a6)]at G;rw[G]at D;refine QAb (Ar I64 w l::Blk b [.I p.unit,.I p.kind,.I p.addr,.I p.count,.I p.every,j.v]::VsP g c os { u with al:=u.al.set k.toNat H }) ?_;exact c1 D b6 a8 b0
abbrev QgO:=QLe×Sl×Sl×Sl
def CE:Enc QgO:=⟨fun x=>cmC x.1 x.2.1 x.2.2.1 x.2.2.2,8,fun _=>rfl,fun x v h=>by simp at h;rcases h with rfl|rfl|rfl|rfl|rfl|rfl|rfl|rfl<;>rfl,Dc,(QcE,nilS,nilS,nilS)⟩
def QGg(r:QgO)(c:QLe):HP:=fun h=>r.1=c/\QBr [Ar BL r.2.1 c.a.on,Ar W16 r.2.2.1 c.a.set,Ar PaE r.2.2.2 c.a.parts] h
def QRc(s:Sl)(qs:List QLe):HP:=fun h=>∃rs:List QgO,rs.length=qs.length/\QBr [Ar CE s rs,Each QGg rs qs] h
def QaH(q:Ac):Option QLe->HP
 | none=>fun _=>q=none
 | some c=>fun h=>∃b d ss e,q=some ⟨b,0,none⟩/\QBr [Blk b (cmC c d ss e),Ar BL d c.a.on,Ar W16 ss c.a.set,Ar PaE e c.a.parts] h
structure GM where
 timeout:Int
 retries:Int
 window:Int
 resend:Int
 span:Int
 keep:Int
 ts:List Pn.Tag
 k:Kn
 saved:Int
 acked:Int
 epoch:Int
 boots:Int
 J:Od.JM
 m:SeM
 ma:MaM
 polls:List Pn.Poll
 slots:List QI3
 held:List QM5
 al:List AlV
 queue:List QLe
 poll:Int
 cmd:Option QLe
 clock:Int
 lost:Int
 stopped:Bool
 os:List QCj
 ok:Bool
structure GwA where
 tags:Sl
 dev:Ac
 log:Ac
 idx:Ac
 jr:Ac
 up:Ac
 line:Ac
 polls:Sl
 slots:Sl
 held:Sl
 alarms:Sl
 queue:Sl
 cmd:Ac
abbrev cOf(a:GwA)(M:GM):GwC:=⟨M.timeout,M.retries,M.window,M.resend,M.span,M.keep,a.tags,a.dev,a.log,a.idx,M.saved,M.acked,M.epoch,M.boots,a.jr,a.up,a.line,a.polls,a.slots,a.held,a.alarms,a.queue,M.poll,a.cmd,M.clock,M.lost,M.stopped⟩
abbrev GwL(g:Nat)(a:GwA)(M:GM):List HP:=[GwB g (cOf a M) M.os,QA7 a.dev a.log a.idx M.k,Od.JObj a.dev a.jr M.J,QBD a.up M.m,QBF a.line M.ma,Ar Pn.TG a.tags M.ts,Pn.OPolls a.polls M.polls,Ar SLT a.slots M.slots,Ar HLT a.held M.held,Ar ALT a.alarms M.al,QRc a.queue M.queue,QaH a.cmd M.cmd]
def Qdh(c:QLe):Prop:=QOG c.a.set/\c.a.code≠20
structure MOk(M:GM):Prop where
 clock:0<=M.clock/\M.clock<=1099511627776
 keep:i64 M.keep
 slots:M.slots.length=M.polls.length
 polls:M.polls.length<=64
 tags:∀p∈M.polls,p.tags.length<=64
 held:M.held.length=M.ts.length/\HeldOk M.held
 al:M.al.length=M.ts.length
 queue:M.queue.length<=8/\∀c∈M.queue,Qdh c
 poll : -1<=M.poll/\M.poll<M.polls.length
 busy:0<M.ma.tries->M.cmd=none->0<=M.poll
theorem Qfb{s:Sl}{ps:List Pn.Poll}{k:Nat}{p:Pn.Poll}(i:ps[k]? = some p){φ:WP}[f:Find (Pn.OPolls s ps) As F]
  (h:∀a c,a.map Prod.fst=ps->a[k]? = some (p,c)->Ent B (Ar I64 c p.tags::Each Pn.EP (a.eraseIdx k) (a.eraseIdx k)::Ar Pn.PR s a::F) φ):Ent B As φ:=by
 refine Ent.perm f.perm (QEZ 0 (P1:=Pn.OPolls s ps) (fun Bs=>∃a,a.map Prod.fst=ps/\Bs=[Ar Pn.PR s a,Each Pn.EP a a]) (fun g e=>?_) ?_)
 ·obtain⟨a,b,l⟩:=e;exact⟨_,⟨a,b,rfl⟩,l⟩
 rintro _ ⟨a,b,rfl⟩
 have m:k<a.length:=by
  have:=(Wc.1 i).1;rw[<-b]at this;simpa using this
 obtain⟨⟨j,c⟩,d⟩:∃q,a[k]? = some q:=⟨_,Wa m⟩
 have n:j=p:=by
  rw[<-b,Ol,d]at i;simpa using i
 subst n;refine QBK (QEZ 1 (P1:=Each Pn.EP a a) (fun Bs=>Bs=[Ar I64 c j.tags,Each Pn.EP (a.eraseIdx k) (a.eraseIdx k)]) (fun g e=>⟨_,rfl,QCA e d d⟩) ?_);rintro _ rfl;exact QBK (h a c b d)
theorem QWX{s:Sl}{ps:List Pn.Poll}{k:Nat}{p:Pn.Poll}{a:List (Pn.Poll×Sl)}{b:Sl}(f:a.map Prod.fst=ps)(e:a[k]? = some (p,b)){G:List HP}[i:Split [Ar I64 b p.tags,Each Pn.EP (a.eraseIdx k) (a.eraseIdx k),Ar Pn.PR s a] As G]{φ:WP}
  (h:Ent B (Pn.OPolls s ps::G) φ):Ent B As φ:=by
 refine Ent.perm i.perm (QLn ?_);have d:=(Wc.1 e).1;refine QBO [Ar I64 b p.tags,Each Pn.EP (a.eraseIdx k) (a.eraseIdx k)] (Each Pn.EP a a) (fun g c=>?_) ?_
 ·have:=QC9 (R:=Pn.EP) (x:=(p,b)) (y:=(p,b)) d d c
  rwa [show a.set k (p,b)=a by rw[<-(Wc.1 e).2,List.set_getElem_self]]at this
 exact QBO [Ar Pn.PR s a,Each Pn.EP a a] (Pn.OPolls s ps) (fun g c=>⟨a,f,c⟩) h
abbrev withV(M:GM)(v:VS):GM:={ M with k:=v.k,lost:=v.lost,held:=v.held,al:=v.al,ok:=v.ok }
def QOQ(M:GM)(o:QZO):GM:=
 if o.what=1 then withV { M with cmd:=none,poll:=-1 } (QCN M.clock M.ts (M.polls.getD M.poll.toNat Pn.poll0) o.r ⟨M.k,M.lost,M.held,M.al,true⟩) else { M with cmd:=none,poll:=-1 }
abbrev QYf(M:GM)(k:Nat)(is:Bool):GM:={ M with slots:=M.slots.set k (QM1 (M.slots.getD k ⟨0,0,0⟩) M.clock is) }
def QUT(M:GM)(o:QZO):GM:=if (QOQ M o).ok=true then QYf (QOQ M o) M.poll.toNat (o.what == 1) else QOQ M o
def QS1(o:QZO):Int:=if o.what=2 then IntKind.i64.wrap (100+o.r.exc) else if o.what=3 then 1 else 0
def QiR(M:GM)(id code:Int)(k:Kn)(J:Od.JM):GM:=
 { M with k:=(QBi M.clock k M.lost ⟨6,0,ByteArray.empty,code,id⟩).k,lost:=(QBi M.clock k M.lost ⟨6,0,ByteArray.empty,code,id⟩).lost,J:=J,ok:=(QBi M.clock k M.lost ⟨6,0,ByteArray.empty,code,id⟩).ok,os:=if (QBi M.clock k M.lost ⟨6,0,ByteArray.empty,code,id⟩).ok=true then M.os++QD7 id code else M.os }
def Qay(M:GM)(id code:Int):GM:=
 if (QD9 M.k M.J id code).2.2=10 then { M with cmd:=none,poll:=-1,k:=(QD9 M.k M.J id code).1,J:=(QD9 M.k M.J id code).2.1,ok:=false }
 else if (QD9 M.k M.J id code).2.2≠0 then { M with cmd:=none,poll:=-1,k:=(QD9 M.k M.J id code).1,J:=(QD9 M.k M.J id code).2.1,os:=M.os++QD7 id 2 }
 else QiR { M with cmd:=none,poll:=-1 } id code (QD9 M.k M.J id code).1 (QD9 M.k M.J id code).2.1
def QDh(M:GM)(o:QZO):GM:=match M.cmd with
 | none=>QUT M o
 | some c=>Qay M c.id (QS1 o)
theorem MOk.drop{M:GM}(h:MOk M)(a:M.ma.tries<=0):MOk { M with cmd:=none,poll:=-1 }:=
 ⟨h.clock,h.keep,h.slots,h.polls,h.tags,h.held,h.al,h.queue,⟨Uo _,by have:=h.poll;show (-1:Int)<M.polls.length;omega⟩,fun q=>by have q:0<M.ma.tries:=q;omega⟩
theorem MOk.withV{M:GM}(h:MOk M)(v:VS)(a:HeldOk v.held)(hl:v.held.length=M.ts.length/\v.al.length=M.ts.length):MOk (withV M v):=
 ⟨h.clock,h.keep,h.slots,h.polls,h.tags,⟨hl.1,a⟩,hl.2,h.queue,h.poll,h.busy⟩
theorem MOk.slot{M:GM}(h:MOk M)(k:Nat)(is:Bool):MOk (QYf M k is):=
 ⟨h.clock,h.keep,by show (M.slots.set _ _).length=_;rw[Ob];exact h.slots,h.polls,h.tags,h.held,h.al,h.queue,h.poll,h.busy⟩
theorem MOk.core{M:GM}(h:MOk M)(k:Kn)(lost:Int)(J:Od.JM)(m:SeM)(os:List QCj)(ok:Bool):MOk { M with k:=k,lost:=lost,J:=J,m:=m,os:=os,ok:=ok }:=
 ⟨h.clock,h.keep,h.slots,h.polls,h.tags,h.held,h.al,h.queue,h.poll,h.busy⟩
abbrev GwA.noCmd(a:GwA):GwA:={ a with cmd:=none }
theorem QPg(g:Nat)(a:GwA)(M:GM)(t:MOk M)(a2:M.ok=true)(a3:M.ma.tries<=0)(b7:M.cmd=none->0<=M.poll)(c2:M.os.length<=900000)(o:QZO)(G:o.r.files=[])(b8:QOG o.r.set)(q j:Sl)(hc:j.n<=j.c) :
  CtP QC1 Pr 151 [.pointer (some ⟨g,0,none⟩),.agg #[.I o.what,.I o.r.exc,q.v,j.v,nilS.v,.I o.tries]] (.tup []) [] (GwL g a M)
  (GTab.and ((RAr BL q o.r.on).and (RAr W16 j o.r.set)))
  (fun _ Bs=>(QDh M o).ok=true/\MOk (QDh M o)/\Bs=GwL g a.noCmd (QDh M o))
  (fun Bs=>(QDh M o).ok=false/\MOk (QDh M o)/\Bs=GwL g a.noCmd (QDh M o)):=by
 refine QfU (QEG _ _ _ _ _ _ _) fun B a4=>?_;obtain⟨a6,h1,D⟩:=a4;haveI:=QKj a6;haveI:Fro B q BL o.r.on:=⟨h1⟩;haveI:Fro B j W16 o.r.set:=⟨D⟩;obtain⟨N,i⟩:∃N,QDh M o=N:=⟨_,rfl⟩;rw[i];unfold QDh at i;unfold QEG mfP;dsimp only;refine QAL fun b=>QAP (xgf (h:=xgf (h:=xgs (cOf a.noCmd M) (h:=xgs (cOf a.noCmd { M with poll:=-1 }) (h:=?_)))))
 cases V:M.cmd with
 | none=>
  rw[V]at i;simp only at i;have b':=b7 V;have c0:=t.poll
  have b0:((M.poll.toNat:Nat):Int)=M.poll:=Om
  have b1:M.poll.toNat<M.polls.length:=Om
  have Z:M.polls[M.poll.toNat]? = some (M.polls.getD M.poll.toNat Pn.poll0):=gdE b1;have c1:=t.tags _ (Wp Z);have b2:∀{l:List QI3},l.length=M.polls.length->l[M.poll.toNat]? = some (l.getD M.poll.toNat ⟨0,0,0⟩):=fun h=>gdE Om;refine QB6 12 (P1:=QaH a.cmd none) (fun f G=>G) fun W=>?_;rw[W,show (cOf a M).cmd=none from W,show (cOf a M).poll=((M.poll.toNat:Nat):Int) from b0.symm];refine QCC rfl (xgq ?_);unfold QUT at i;have C:=t.drop a3;refine QBh (fun As'=>∃u:GM,QOQ M o=u/\u.ok=true/\MOk u/\(u.slots.length=M.polls.length/\u.clock=M.clock)/\As'=Blk b [.I o.what,.I o.r.exc,q.v,j.v,nilS.v,.I o.tries]::GwL g a.noCmd u) (fun K m=>?_) ?_
  ·unfold QOQ at i m;refine xif (fun P=>?_) (fun P=>?_)
   ·rw[We (eq_of_beq P)]at i m;refine QAP (xgf (h:=?_));refine Qfb (s:=a.polls) Z fun Q a5 X H=>?_
    generalize M.polls.getD M.poll.toNat Pn.poll0=p at *
    refine QAH (E:=Pn.PR) (xs:=Q) (s:=a.polls) (k:=M.poll.toNat) (h1:=(Wc.1 H).1) (h:=fun _ _=>?_);refine QAN (E:=Pn.PR) (xs:=Q) H (h:=?_);iterate 5 (refine QAa (E:=Pn.PR) (xs:=Q) H (h:=?_))
    refine xgq (xgS q (xgS j (xgT (h:=?_))));have a0:=QT5 g (cOf a.noCmd { M with cmd:=none,poll:=-1 }) M.os M.ts p a5 o.r q j nilS (by rw[G];rfl) b8 hc Om ⟨M.k,M.lost,M.held,M.al,true⟩ rfl rfl ⟨t.held.1,t.al⟩ t.held.2 ⟨by have:=t.clock;show _<=M.clock;omega,by have:=t.clock;show M.clock<=_;omega⟩;generalize hv:QCN (cOf a.noCmd { M with cmd:=none,poll:=-1 }).clock M.ts p o.r ⟨M.k,M.lost,M.held,M.al,true⟩=v at a0;rw[show QCN M.clock M.ts p o.r ⟨M.k,M.lost,M.held,M.al,true⟩=v from hv]at i m;refine QTq a0 rdb ?_ ?_
    ·rintro _ _ ⟨O,R,S,rfl⟩;refine QgB (ca0 (QWX (s:=a.polls) X H ?_));refine QAb (Blk b [.I o.what,.I o.r.exc,q.v,j.v,nilS.v,.I o.tries]::GwL g a.noCmd (withV { M with cmd:=none,poll:=-1 } v)) ?_;exact QAd (l:=Blk b [.I o.what,.I o.r.exc,q.v,j.v,nilS.v,.I o.tries]::GwL g a.noCmd (withV { M with cmd:=none,poll:=-1 } v)) (m _ ⟨_,rfl,O,C.withV v R S,⟨t.slots,rfl⟩,rfl⟩)
    ·rintro _ ⟨O,R,S,rfl⟩;rw[Wb (show ¬v.ok=true by rw[O];decide)]at i;subst i;refine QgB (QWX (s:=a.polls) X H ?_);exact QAK (GwL g a.noCmd (withV { M with cmd:=none,poll:=-1 } v)) (QTr ⟨O,C.withV v R S,rfl⟩)
   ·rw[Wb (Wv P)]at i m;exact QAK (Blk b [.I o.what,.I o.r.exc,q.v,j.v,nilS.v,.I o.tries]::GwL g a.noCmd { M with cmd:=none,poll:=-1 }) (m _ ⟨_,rfl,a2,C,⟨t.slots,rfl⟩,rfl⟩)
  ·rintro _ ⟨u,a7,Y,a8,⟨a9,b9⟩,rfl⟩;rw[a7,We Y]at i;have T:=b2 a9;unfold QYf at i;have b3:=QQe (u.slots.getD M.poll.toNat ⟨0,0,0⟩) u.clock (o.what == 1)
   generalize b4:u.slots.getD M.poll.toNat ⟨0,0,0⟩=A at *
   generalize b5:QM1 A u.clock (o.what == 1)=d at *
   refine QAP (xgf (h:=xgf (h:=?_)));refine QAH (E:=SLT) (xs:=u.slots) (s:=a.slots) (k:=M.poll.toNat) (h1:=Om) (h:=fun _ _=>?_);refine QAN (E:=SLT) (xs:=u.slots) T (h:=?_);iterate 2 (refine QAa (E:=SLT) (xs:=u.slots) T (h:=?_))
   refine xgf (h:=xgq ?_);refine xcl b3 rdb ?_;rintro _ _ ⟨rfl,rfl⟩;refine QA2 (ca3 (xgc (h:=?_)));refine QAH (E:=SLT) (xs:=u.slots) (s:=a.slots) (k:=M.poll.toNat) (h1:=Om) (h:=fun _ _=>?_);refine QIJ (E:=SLT) ⟨d.every,A.next,A.fails⟩ T (hv:=rfl) (h:=?_);refine QDB (E:=SLT) (xs:=u.slots.set M.poll.toNat ⟨d.every,A.next,A.fails⟩) ⟨d.every,d.next,A.fails⟩ (Wy Om) (hj:=Dc) (hv:=rfl) (h:=?_);refine QDB (E:=SLT) (xs:=(u.slots.set M.poll.toNat ⟨d.every,A.next,A.fails⟩).set M.poll.toNat ⟨d.every,d.next,A.fails⟩) d (Wy (by rw[Ob];omega)) (hj:=Dc) (hv:=rfl) (h:=?_);rw[Zc,Zc];have U:=a8.slot M.poll.toNat (o.what == 1);unfold QYf at U;rw[b4,b5]at U;subst i;exact QAK (GwL g a.noCmd { u with slots:=u.slots.set M.poll.toNat d }) (QAD ⟨Y,U,rfl⟩)
 | some c=>
  rw[V]at i;simp only at i;refine QEZ 12 (P1:=QaH a.cmd (some c)) (fun Bs=>∃w y ss z,a.cmd=some ⟨w,0,none⟩/\Bs=[Blk w (cmC c y ss z),Ar BL y c.a.on,Ar W16 ss c.a.set,Ar PaE z c.a.parts]) (fun f G=>?_) ?_
  ·obtain⟨w,y,ss,z,h1,D⟩:=G;exact⟨_,⟨w,y,ss,z,h1,rfl⟩,D⟩
  rintro _ ⟨w,y,ss,z,a',rfl⟩;rw[show (cOf a M).cmd=some ⟨w,0,none⟩ from a'];have C:=t.drop a3;refine QgB (QBH rfl (xgq ?_));refine QBO [] (QaH none none) (fun _ _=>rfl) ?_;unfold Qay at i;refine QAV (fun(x:Int) As'=>x=QS1 o/\As'=Blk b [.I o.what,.I o.r.exc,q.v,j.v,nilS.v,.I o.tries]::Blk w (cmC c y ss z)::GwL g a.noCmd { M with cmd:=none,poll:=-1 }) (fun K m=>?_) ?_
  ·unfold QS1 at m;refine xif (fun h=>?_) (fun h=>QAM (xif (fun D=>?_) (fun D=>?_)))
   ·rw[We (eq_of_beq h)]at m;refine xgq ?_;exact QAK (Blk b [.I o.what,.I o.r.exc,q.v,j.v,nilS.v,.I o.tries]::Blk w (cmC c y ss z)::GwL g a.noCmd { M with cmd:=none,poll:=-1 }) (m _ _ ⟨rfl,rfl⟩)
   ·rw[Wb (Wv h),We (eq_of_beq D)]at m;exact QAK (Blk b [.I o.what,.I o.r.exc,q.v,j.v,nilS.v,.I o.tries]::Blk w (cmC c y ss z)::GwL g a.noCmd { M with cmd:=none,poll:=-1 }) (m _ _ ⟨rfl,rfl⟩)
   ·rw[Wb (Wv h),Wb (Wv D)]at m;exact QAK (Blk b [.I o.what,.I o.r.exc,q.v,j.v,nilS.v,.I o.tries]::Blk w (cmC c y ss z)::GwL g a.noCmd { M with cmd:=none,poll:=-1 }) (m _ _ ⟨rfl,rfl⟩)
  rintro _ _ ⟨rfl,rfl⟩
  generalize QS1 o=code at *
  refine QAP (xgf (h:=QAO (xgq ?_)));refine xcl (QRm a.dev a.log a.idx a.jr M.k M.J c.id code) rdb ?_;rintro⟨e,_⟩ _ ⟨he,rfl⟩;simp only at he;subst he;refine QBK (ca1 (QP5 (fun he=>xif (fun h0=>?_) (fun h0=>?_)) (fun he=>?_)))
  ·rw[Wb he,We (On.1 h0)]at i;refine QAO (xgq ?_);refine xd0 (QDt g (cOf a.noCmd { M with cmd:=none,poll:=-1 }) M.os Om c.id 2) ?_;subst i;exact QAK (GwL g a.noCmd { M with cmd:=none,poll:=-1,k:=(QD9 M.k M.J c.id code).1,J:=(QD9 M.k M.J c.id code).2.1,os:=M.os++QD7 c.id 2 }) (QAD ⟨a2,C.core _ _ _ _ _ _,rfl⟩)
  ·rw[Wb he,Wb (Si h0)]at i;refine QAO (xgq ?_);have a1:=QF8 g (cOf a.noCmd { M with cmd:=none,poll:=-1 }) M.os (QD9 M.k M.J c.id code).1 ⟨6,0,ByteArray.empty,code,c.id⟩ (show (0:Nat)<=1000000 by decide);generalize b6:QBi (cOf a.noCmd { M with cmd:=none,poll:=-1 }).clock (QD9 M.k M.J c.id code).1 (cOf a.noCmd { M with cmd:=none,poll:=-1 }).lost ⟨6,0,ByteArray.empty,code,c.id⟩=nk at a1;unfold QiR at i;simp only at i;rw[show QBi M.clock (QD9 M.k M.J c.id code).1 M.lost ⟨6,0,ByteArray.empty,code,c.id⟩=nk from b6]at i;refine QTq a1 rdb ?_ ?_
   ·rintro _ _ ⟨L,rfl⟩;rw[We L]at i;refine QBK (ca0 (QAO (xgq ?_)));refine xd0 (QDt g ((cOf a.noCmd { M with cmd:=none,poll:=-1 }).withLost nk.lost) M.os Om c.id code) ?_;subst i;exact QAK (GwL g a.noCmd { M with cmd:=none,poll:=-1,k:=nk.k,lost:=nk.lost,J:=(QD9 M.k M.J c.id code).2.1,ok:=nk.ok,os:=M.os++QD7 c.id code }) (QAD ⟨L,C.core _ _ _ _ _ _,rfl⟩)
   ·rintro _ ⟨L,rfl⟩;rw[Wb (by rw[L];decide)]at i;subst i;exact QBK (QAK (GwL g a.noCmd { M with cmd:=none,poll:=-1,k:=nk.k,lost:=nk.lost,J:=(QD9 M.k M.J c.id code).2.1,ok:=nk.ok,os:=M.os }) (QTr ⟨L,C.core _ _ _ _ _ _,rfl⟩))
  ·rw[We he]at i;subst i;exact QAK (GwL g a.noCmd { M with cmd:=none,poll:=-1,k:=(QD9 M.k M.J c.id code).1,J:=(QD9 M.k M.J c.id code).2.1,ok:=false }) (QTr ⟨rfl,C.core _ _ _ _ _ _,rfl⟩)
theorem QkT{s:Sl}{c:QLe}{qs:List QLe}{φ:WP}[f:Find (QRc s (c::qs)) As F]
  (h:∀i ss j rs,rs.length=qs.length->Ent B (Ar BL i c.a.on::Ar W16 ss c.a.set::Ar PaE j c.a.parts::Each QGg rs qs::Ar CE s ((c,i,ss,j)::rs)::F) φ):Ent B As φ:=by
 refine Ent.perm f.perm (QEZ 0 (P1:=QRc s (c::qs)) (fun Bs=>∃b rs,rs.length=qs.length/\Bs=[Ar CE s (b::rs),Each QGg (b::rs) (c::qs)]) (fun g d=>?_) ?_)
 ·obtain⟨rs,e,k⟩:=d
  cases rs with
  | nil=>simp at e
  | cons b rs=>exact⟨_,⟨b,rs,Si e,rfl⟩,k⟩
 rintro _ ⟨b,rs,e,rfl⟩;refine QBK (QEZ 1 (P1:=Each QGg (b::rs) (c::qs)) (fun Bs=>Bs=[QGg b c,Each QGg rs qs]) (fun g d=>⟨_,rfl,d⟩) ?_);rintro _ rfl;refine QBK (QEZ 0 (P1:=QGg b c) (fun Bs=>b.1=c/\Bs=[Ar BL b.2.1 c.a.on,Ar W16 b.2.2.1 c.a.set,Ar PaE b.2.2.2 c.a.parts]) (fun g d=>⟨_,⟨d.1,rfl⟩,d.2⟩) ?_);rintro _ ⟨rfl,rfl⟩;exact QLn (h b.2.1 b.2.2.1 b.2.2.2 rs e)
abbrev QFm(p:Pn.Poll):AskV:=⟨(Pn.askR p).1,(Pn.askR p).2.1,(Pn.askR p).2.2,[],[],[]⟩
theorem QR9(p:Pn.Poll):(QFm p).code≠20:=by
 show (Pn.askR p).1≠20;unfold Pn.askR;split
 ·rename_i h
  have:=Pn.ask_ok h;simp only;omega
 ·decide
def QLS(M:GM):GM:=
 if QTw M.slots M.clock<0 then M
 else if QMO M.ma M.clock (M.polls.getD (QTw M.slots M.clock).toNat Pn.poll0).unit (QFm (M.polls.getD (QTw M.slots M.clock).toNat Pn.poll0))=0 then
  { M with poll:=QTw M.slots M.clock,ma:=QCR M.ma M.clock (M.polls.getD (QTw M.slots M.clock).toNat Pn.poll0).unit (QFm (M.polls.getD (QTw M.slots M.clock).toNat Pn.poll0)),os:=M.os++[(1,(QCR M.ma M.clock (M.polls.getD (QTw M.slots M.clock).toNat Pn.poll0).unit (QFm (M.polls.getD (QTw M.slots M.clock).toNat Pn.poll0))).fr)] }
 else M
def Qb1(M:GM)(c:QLe):GM:=if QMO M.ma M.clock c.unit c.a=0 then { M with cmd:=some c,ma:=QCR M.ma M.clock c.unit c.a,os:=M.os++[(1,(QCR M.ma M.clock c.unit c.a).fr)] } else M
def QRw(M:GM)(c:QLe)(n:Qc0)(J:Od.JM):GM:=if n.ok=true then Qb1 { M with k:=n.k,lost:=n.lost,J:=J } c else { M with k:=n.k,lost:=n.lost,J:=J,ok:=false }
def QPW(M:GM)(c:QLe):GM:=
 if (QB1 M.k M.J c.id).2.2=10 then { M with k:=(QB1 M.k M.J c.id).1,J:=(QB1 M.k M.J c.id).2.1,ok:=false }
 else if (QB1 M.k M.J c.id).2.2≠0 then { M with k:=(QB1 M.k M.J c.id).1,J:=(QB1 M.k M.J c.id).2.1,os:=M.os++QD7 c.id 3 }
 else QRw M c (QBi M.clock (QB1 M.k M.J c.id).1 M.lost ⟨5,0,ByteArray.empty,0,c.id⟩) (QB1 M.k M.J c.id).2.1
def QDT(M:GM):GM:=match M.queue with
 | c::qs=>QPW { M with queue:=qs } c
 | []=>QLS M
theorem Qg5(l:List QI3)(now:Int) : -1<=QTw l now/\(0<=QTw l now->QTw l now<l.length):=by
 have:=QMo now l l.length (Wt _);unfold QTw;omega
theorem MOk.started{M:GM}(h:MOk M)(ma:MaM)(k:Int)(os:List QCj)(a:0<=k/\k<M.polls.length):MOk { M with poll:=k,ma:=ma,os:=os }:=
 ⟨h.clock,h.keep,h.slots,h.polls,h.tags,h.held,h.al,h.queue,⟨by show (-1:Int)<=k;omega,a.2⟩,fun _ _=>a.1⟩
theorem MOk.cmded{M:GM}(h:MOk M)(ma:MaM)(c:QLe)(os:List QCj):MOk { M with cmd:=some c,ma:=ma,os:=os }:=
 ⟨h.clock,h.keep,h.slots,h.polls,h.tags,h.held,h.al,h.queue,h.poll,fun _ q=>by cases q⟩
theorem MOk.popped{M:GM}{c:QLe}{qs:List QLe}(h:MOk M)(a:M.queue=c::qs):MOk { M with queue:=qs }/\Qdh c:=by
 have hl:=h.queue.1;rw[a,Wl]at hl;exact⟨⟨h.clock,h.keep,h.slots,h.polls,h.tags,h.held,h.al,⟨by show qs.length<=8;omega,fun x hx=>h.queue.2 x (by rw[a];exact Wz _ hx)⟩,h.poll,h.busy⟩,h.queue.2 c (by rw[a];exact W5 ..)⟩
theorem QY7(g:Nat)(a:GwA)(M:GM)(w:MOk M)(A:M.ok=true)(a9:M.os.length<=900000) :
  CtP QC1 Pr 233 [.pointer (some ⟨g,0,none⟩)] (.tup []) [] (GwL g a M) GTab
  (fun _ Bs=>(QDT M).ok=true/\MOk (QDT M)/\∃I,I.dev=a.dev/\Bs=GwL g I (QDT M))
  (fun Bs=>(QDT M).ok=false/\MOk (QDT M)/\∃I,I.dev=a.dev/\Bs=GwL g I (QDT M)):=by
 refine QfU (QDu _) fun B V=>?_;haveI:=QKj V;obtain⟨N,d⟩:∃N,QDT M=N:=⟨_,rfl⟩;rw[d];unfold QDT at d;unfold QDu mfP;dsimp only
 have C:∀(f:QBs),QRc a.queue M.queue f->M.queue.length=a.queue.n/\a.queue.n<=a.queue.c:=fun f r=>by
  obtain⟨rs,hl,x,y,⟨zs,hx⟩,_⟩:=r;exact⟨by rw[<-hl];exact hx.read.1,hx.cap⟩
 refine QB6 10 (P1:=QRc a.queue M.queue) C fun ⟨C,a6⟩=>?_;refine xgf (h:=QAB (fun h=>?_) (fun h=>?_))
 ·obtain⟨c,qs,u⟩:∃c qs,M.queue=c::qs:=by
   have h:(a.queue.n:Int)>0:=h
   cases u:M.queue with
   | nil=>rw[u,O8]at C;omega
   | cons c qs=>exact⟨c,qs,rfl⟩
  obtain⟨K,Z,a0⟩:=w.popped u;rw[u]at d C;rw[Wl]at C;simp only at d;refine QEZ 10 (P1:=QRc a.queue M.queue) (fun Bs=>Bs=[QRc a.queue (c::qs)]) (fun f r=>⟨_,rfl,QCe (u ▸ r)⟩) ?_;rintro _ rfl;refine QAz ?_;refine xgf (h:=QkT (s:=a.queue) (c:=c) (qs:=qs) fun o ss q rs W=>?_);have h0:((c,o,ss,q)::rs)[0]? = some (c,o,ss,q):=rfl;refine QAH (E:=CE) (xs:=(c,o,ss,q)::rs) (s:=a.queue) (k:=0) (h1:=by simp) (h:=fun _ _=>?_);refine QAN (E:=CE) (xs:=(c,o,ss,q)::rs) h0 (h:=?_);iterate 7 (refine QAa (E:=CE) (xs:=(c,o,ss,q)::rs) h0 (h:=?_))
  (try dsimp only)
  refine QAL fun b=>?_;iterate 8 (refine xsq ?_)
  refine xgf (h:=?_);refine QEi Om (by show (1:Int)<=(a.queue.n:Int);omega) (by show (a.queue.n:Int)<=(a.queue.c:Int);omega) (by show (a.queue.c:Int)<=(a.queue.c:Int);omega) ?_;simp only[Wh];refine QAb [Ar CE a.queue ((c,o,ss,q)::rs)] (QAg (Q:=Ar CE (a.queue.cut (Int.toNat 1) a.queue.n a.queue.c 8) rs) 0 (fun f r=>?_) ?_)
  ·obtain⟨z,l⟩:=r;have:=Ars.dropc l 1 (by simp);exact⟨z,this⟩
  generalize a.queue.cut (Int.toNat 1) a.queue.n a.queue.c 8=i;refine QBO [Ar CE i rs,Each QGg rs qs] (QRc i qs) (fun f r=>⟨rs,W,r⟩) ?_;refine xgs (cOf { a with queue:=i } M) (h:=?_);unfold QPW at d;refine QAP (xgf (h:=xgq ?_));refine xcl (QUD a.dev a.log a.idx a.jr M.k M.J c.id) rdb ?_;rintro⟨e,_⟩ _ ⟨he,rfl⟩;simp only at he;subst he;refine QBK (ca1 (QP5 (fun he=>xif (fun h0=>?_) (fun h0=>?_)) (fun he=>?_)))
  ·rw[Wb he,We (On.1 h0)]at d;refine xgq ?_;refine xd0 (QDt g (cOf { a with queue:=i } M) M.os Om c.id 3) ?_;subst d;exact QAK (GwL g { a with queue:=i } { M with queue:=qs,k:=(QB1 M.k M.J c.id).1,J:=(QB1 M.k M.J c.id).2.1,os:=M.os++QD7 c.id 3 }) (QAD ⟨A,K.core _ _ _ _ _ _,{ a with queue:=i },rfl,rfl⟩)
  ·rw[Wb he,Wb (Si h0)]at d;refine xgq ?_;have S:=QF8 g (cOf { a with queue:=i } M) M.os (QB1 M.k M.J c.id).1 ⟨5,0,ByteArray.empty,0,c.id⟩ (show (0:Nat)<=1000000 by decide);generalize a5:QBi (cOf { a with queue:=i } M).clock (QB1 M.k M.J c.id).1 (cOf { a with queue:=i } M).lost ⟨5,0,ByteArray.empty,0,c.id⟩=j at S;rw[show QBi M.clock (QB1 M.k M.J c.id).1 M.lost ⟨5,0,ByteArray.empty,0,c.id⟩=j from a5]at d;unfold QRw at d;have T:MOk { M with queue:=qs,k:=j.k,lost:=j.lost,J:=(QB1 M.k M.J c.id).2.1 }:=K.core j.k j.lost (QB1 M.k M.J c.id).2.1 M.m M.os M.ok;refine QTq S rdb ?_ ?_
   ·rintro _ _ ⟨O,rfl⟩;rw[We O]at d;refine QBK (ca0 (QAP (xgf (h:=xgf (h:=?_)))));iterate 4 (refine xgq ?_)
    refine xgS o (xgS ss (xgS q ?_));refine xcl (QJ5 a.line M.ma M.clock c.unit c.a Z a0 o ss q) rdb ?_;unfold Qb1 at d;simp only at d;rintro⟨P,(a1:Int),_⟩ _ ⟨H,R⟩;simp only at H;subst H;rcases R with⟨l,rfl⟩|⟨l,a2,rfl⟩
    ·rw[We l]at d;rw[l];refine QBK (ca2 (QAM (QCC rfl (xgs (cOf { a with queue:=i,cmd:=some ⟨b,0,none⟩ } { M with lost:=j.lost }) (h:=?_)))));refine xd0 (QJn g (cOf { a with queue:=i,cmd:=some ⟨b,0,none⟩ } { M with lost:=j.lost }) M.os Om 1 P (QCR M.ma M.clock c.unit c.a).fr) ?_;refine QBO [Blk b (cmC c o ss q),Ar BL o c.a.on,Ar W16 ss c.a.set,Ar PaE q c.a.parts] (QaH (some ⟨b,0,none⟩) (some c)) (fun f r=>⟨b,o,ss,q,rfl,r⟩) ?_;subst d;exact QAK (GwL g { a with queue:=i,cmd:=some ⟨b,0,none⟩ } { M with queue:=qs,k:=j.k,lost:=j.lost,J:=(QB1 M.k M.J c.id).2.1,cmd:=some c,ma:=QCR M.ma M.clock c.unit c.a,os:=M.os++[(1,(QCR M.ma M.clock c.unit c.a).fr)] }) (QAD ⟨A,T.cmded _ _ _,{ a with queue:=i,cmd:=some ⟨b,0,none⟩ },rfl,rfl⟩)
    ·rw[Wb l]at d;refine QAz (ca2 (QAM (QBH (Qe6 l) ?_)));subst d;exact QAK (GwL g { a with queue:=i } { M with queue:=qs,k:=j.k,lost:=j.lost,J:=(QB1 M.k M.J c.id).2.1 }) (QAD ⟨A,T,{ a with queue:=i },rfl,rfl⟩)
   ·rintro _ ⟨O,rfl⟩;rw[Wb (by rw[O];decide)]at d;subst d;exact QBK (QAK (GwL g { a with queue:=i } { M with queue:=qs,k:=j.k,lost:=j.lost,J:=(QB1 M.k M.J c.id).2.1,ok:=false }) (QTr ⟨rfl,K.core j.k j.lost (QB1 M.k M.J c.id).2.1 M.m M.os false,{ a with queue:=i },rfl,rfl⟩))
  ·rw[We he]at d;subst d;exact QAK (GwL g { a with queue:=i } { M with queue:=qs,k:=(QB1 M.k M.J c.id).1,J:=(QB1 M.k M.J c.id).2.1,ok:=false }) (QTr ⟨rfl,K.core _ _ _ _ _ _,{ a with queue:=i },rfl,rfl⟩)
 ·have u:M.queue=[]:=Wm (by have:¬(a.queue.n:Int)>0:=h;omega);rw[show (match M.queue with|c::qs=>QPW { M with queue:=qs } c|[]=>QLS M)=QLS M by rw[u]]at d;unfold QLS at d;refine QAP (xgf (h:=xgf (h:=?_)));refine xd1 (QTc a.slots M.slots M.clock (by have:=w.slots;have:=w.polls;omega)) ?_;have a8:=Qg5 M.slots M.clock
  generalize QTw M.slots M.clock=k at *
  refine QAB (fun L=>?_) (fun L=>?_)
  ·rw[We L]at d;subst d;exact QAK (GwL g a M) (QAD ⟨A,w,a,rfl,rfl⟩)
  rw[Wb L]at d;obtain⟨t,rfl⟩:=W1 (show 0<=k by omega);rw[Wh]at d
  have a3:t<M.polls.length:=by have:=w.slots;omega
  have a4:M.polls[t]? = some (M.polls.getD t Pn.poll0):=gdE a3
  generalize M.polls.getD t Pn.poll0=p at *
  refine xgf (h:=Qfb (s:=a.polls) a4 fun D X Y G=>?_);have U:=(Wc.1 G).1;refine QAH (E:=Pn.PR) (xs:=D) (s:=a.polls) (k:=t) (h1:=U) (h:=fun _ _=>?_);refine QAN (E:=Pn.PR) (xs:=D) G (h:=?_);iterate 5 (refine QAa (E:=Pn.PR) (xs:=D) G (h:=?_))
  (try dsimp only)
  refine xcl (Pn.Ask_spec p X) rdb ?_;rintro _ _ ⟨rfl,rfl⟩;refine QA2 (ca7 (QAL fun a7=>?_));iterate 6 (refine xsq ?_)
  refine QAP (xgf (h:=xgf (h:=xgf (h:=?_))));refine QAH (E:=Pn.PR) (xs:=D) (s:=a.polls) (k:=t) (h1:=U) (h:=fun _ _=>?_);refine QAN (E:=Pn.PR) (xs:=D) G (h:=?_)
  (try dsimp only)
  iterate 3 (refine xgq ?_)
  iterate 3 (refine xgT (h:=?_))
  refine QWX (s:=a.polls) Y G ?_;refine xcl (QJ5 a.line M.ma M.clock p.unit (QFm p) (fun v h=>by cases h) (QR9 p) nilS nilS nilS) rdb ?_;rintro⟨P,(a1:Int),_⟩ _ ⟨H,R⟩;simp only at H;subst H;rcases R with⟨l,rfl⟩|⟨l,a2,rfl⟩
  ·rw[We l]at d;rw[l];refine QBK (ca2 (QAM (QCC rfl (xgs (cOf a { M with poll:=(t:Int) }) (h:=?_)))));refine xd0 (QJn g (cOf a { M with poll:=(t:Int) }) M.os Om 1 P (QCR M.ma M.clock p.unit (QFm p)).fr) ?_;subst d;exact QAK (GwL g a { M with poll:=(t:Int),ma:=QCR M.ma M.clock p.unit (QFm p),os:=M.os++[(1,(QCR M.ma M.clock p.unit (QFm p)).fr)] }) (QAD ⟨A,w.started _ _ _ ⟨Om,Om⟩,a,rfl,rfl⟩)
  ·rw[Wb l]at d;refine QAz (ca2 (QAM (QBH (Qe6 l) ?_)));subst d;exact QAK (GwL g a M) (QAD ⟨A,w,a,rfl,rfl⟩)
end Go.Cx
