/-
The gateway: the values that a poll has told.
-/
import Derived.Test.YthbhbkjkclhkgaaGreatDoorG1
import Derived.Test.YthbhbkjkclhkgaaGreatDoorPLN
namespace Go.Cx
open Go Go.Cf
set_option linter.unusedVariables false
set_option maxRecDepth 100000
variable {B:QBG}{As F:List HP}
def HLT:Enc QMZ:=⟨fun x=>[.bool x.has,.I x.value,.I x.at_],3,fun _=>rfl,fun x v h=>by simp at h;rcases h with rfl|rfl|rfl<;>rfl,by decide,⟨false,0,0⟩⟩
def ALT:Enc AlV:=⟨fun x=>[.I x.state,.bool x.waits],2,fun _=>rfl,fun x v h=>by simp at h;rcases h with rfl|rfl<;>rfl,by decide,⟨0,false⟩⟩
abbrev QgQ(t:Pn.Tag):List Value:=[.string t.name,.I t.unit,.I t.kind,.I t.addr,.I t.every,.bool t.wide,.bool t.sgn,.bool t.swap,.I t.mul,.I t.div,.I t.add,.I t.dead,.I t.quiet,.bool t.ulow,.bool t.uhigh,.bool t.latch,.I t.low,.I t.high,.I t.hyst]
def QbP(t:Pn.Tag):QgH:=⟨t.ulow,t.uhigh,t.latch,t.low,t.high,t.hyst⟩
def QFn(v:Int):UInt16:=UInt16.ofNat v.toNat
theorem QZj{v:Int}(h0:0≤v)(h1:v≤65535):((QFn v).toNat:Int)=v:=by
 unfold QFn;rw[UInt16.toNat_ofNat'];omega
theorem Qdr{s:Sl}{vs:List Int}(hw:QMw vs){h:QBh}(hr:RAr W16 s vs h):RAr Pn.U16 s (vs.map QFn) h:=by
 obtain⟨h1,h2⟩:=hr;refine⟨by simpa using h1,?_⟩
 have e:QAg Pn.U16 (vs.map QFn)=QAg W16 vs:=by
  clear h1 h2
  induction vs with
  | nil=>rfl
  | cons v vs ih=>
   have hv:=hw v (by simp);have ih:=ih fun x hx=>hw x (by simp[hx]);show Pn.U16.f (QFn v)++QAg Pn.U16 (vs.map QFn)=W16.f v++QAg W16 vs;rw[ih];show [Value.int .u16 ((QFn v).toNat:Int)]++_=[Value.int .u16 v]++_;rw[QZj hv.1 hv.2]
 rw[e];exact h2
theorem Qbb{t:Pn.Tag}(h:Pn.tagE t=0):(0≤t.dead∧t.dead≤1099511627776)∧(0≤t.quiet∧t.quiet≤1099511627776)∧t.name.size≤16:=by
 unfold Pn.tagE at h
 have itc:∀{x y:Int},(if x≠0 then x else y)=0→x=0∧y=0:=fun {x y} h=>by
  by_cases hx:x=0
  ·rw[if_neg (by rw[hx];decide)]at h;exact⟨hx,h⟩
  ·rw[if_pos hx]at h;exact absurd h hx
 obtain⟨n1,h⟩:=QGU (by decide) h;obtain⟨_,h⟩:=QGU (by decide) h;obtain⟨_,h⟩:=QGU (by decide) h;obtain⟨_,h⟩:=QGU (by decide) h;obtain⟨_,h⟩:=QGU (by decide) h;obtain⟨_,h⟩:=itc h;obtain⟨_,h⟩:=QGU (by decide) h;obtain⟨hb,_⟩:=itc h;unfold Pn.bandE at hb
 have nb:¬(t.dead<0∨t.dead>1099511627776∨t.quiet<0∨t.quiet>1099511627776):=fun q=>by
  rw[if_pos q]at hb;cases hb
 have n1:QEL t.name=true:=by simpa using n1
 unfold QEL at n1;simp only[Bool.and_eq_true,decide_eq_true_eq]at n1;exact⟨by omega,by omega,n1.1.2⟩
theorem Qca(ts:List Pn.Tag)(p:Pn.Poll)(on:List Bool)(ws:List UInt16):∀(ks:List Int) (out l:List Int) (e:Int),Pn.goV ts p on ws ks out=(l,e)→l=[]∨∃vs,l=out++vs∧vs.length=ks.length∧∀(i:Nat) (k:Int),ks[i]? = some k→∃t,Pn.tagAt ts k=some t∧vs[i]? = some (Pn.valueM t p on ws)
 | [],out,l,e,h=>by
  obtain⟨rfl,rfl⟩:=Prod.mk.inj h;exact .inr ⟨[],by simp,rfl,fun i k hk=>by simp at hk⟩
 | k::ks,out,l,e,h=>by
  unfold Pn.goV at h;split at h
  ·obtain⟨rfl,rfl⟩:=Prod.mk.inj h;exact .inl rfl
  rename_i t ht
  split at h
  ·rcases Qca ts p on ws ks _ l e h with q|⟨vs,q1,q2,q3⟩
   ·exact .inl q
   ·refine .inr ⟨Pn.valueM t p on ws::vs,by rw[q1];simp,by simp[q2],fun i k' hk=>?_⟩
    match i with
    | 0=>
     have:k=k':=by simpa using hk
     exact⟨t,this ▸ ht,rfl⟩
    | i+1=>exact q3 i k' (by simpa using hk)
  ·obtain⟨rfl,rfl⟩:=Prod.mk.inj h;exact .inl rfl
theorem QWC(t:Pn.Tag)(p:Pn.Poll)(on:List Bool)(ws:List UInt16):i64 (Pn.valueM t p on ws):=by
 unfold Pn.valueM;split
 ·split<;>exact⟨by decide,by decide⟩
 ·unfold Pn.valN Pn.clampV;split
  ·exact⟨by decide,by decide⟩
  split
  ·exact⟨by decide,by decide⟩
  ·exact⟨by omega,by omega⟩
structure VS where
 k:Kn
 lost:Int
 held:List QMZ
 al:List AlV
 ok:Bool
def QO2(clock:Int)(s:VS)(i:Nat)(t:Pn.Tag)(v:Int):VS:=
 let h:=QFS t.dead t.quiet (s.held.getD i ⟨false,0,0⟩) v clock
 if h.2=true then ⟨(QBa clock s.k s.lost ⟨1,0,t.name,v,0⟩).k,(QBa clock s.k s.lost ⟨1,0,t.name,v,0⟩).lost,s.held.set i h.1,s.al,(QBa clock s.k s.lost ⟨1,0,t.name,v,0⟩).ok⟩ else s
def QVR(clock:Int)(s:VS)(i:Nat)(t:Pn.Tag)(v:Int):VS:=
 let a:=QKH (QbP t) (s.al.getD i ⟨0,false⟩) v
 if a.2≠0 then ⟨(QBa clock s.k s.lost ⟨2,0,t.name,a.2,0⟩).k,(QBa clock s.k s.lost ⟨2,0,t.name,a.2,0⟩).lost,s.held,s.al.set i a.1,(QBa clock s.k s.lost ⟨2,0,t.name,a.2,0⟩).ok⟩ else { s with al:=s.al.set i a.1 }
def QFt(clock:Int)(ts:List Pn.Tag)(s:VS)(k v:Int):VS:=match Pn.tagAt ts k with
 | none=>s
 | some t=>if (QO2 clock s k.toNat t v).ok=true then QVR clock (QO2 clock s k.toNat t v) k.toNat t v else QO2 clock s k.toNat t v
def QGW(clock:Int)(ts:List Pn.Tag):List Int→List Int→VS→VS
 | k::ks,v::vs,s=>if (QFt clock ts s k v).ok=true then QGW clock ts ks vs (QFt clock ts s k v) else QFt clock ts s k v
 | _,_,s=>s
def QCb(clock:Int)(ts:List Pn.Tag)(p:Pn.Poll)(r:RepV)(s:VS):VS:=QGW clock ts p.tags (Pn.valuesM ts p r.exc r.on (r.set.map QFn) r.files.length).1 s
def HeldOk(l:List QMZ):Prop:=∀h∈l,i64 h.value∧i64 h.at_
theorem HeldOk.set{l:List QMZ}(h:HeldOk l)(i:Nat){x:QMZ}(hx:i64 x.value∧i64 x.at_):HeldOk (l.set i x):=fun y hy=>by
 rcases List.mem_or_eq_of_mem_set hy with q|q
 ·exact h y q
 ·rw[q];exact hx
theorem Qbj{d q:Int}{h:QMZ}{v now:Int}(hh:i64 h.value∧i64 h.at_)(hv:i64 v)(hn:i64 now):i64 (QFS d q h v now).1.value∧i64 (QFS d q h v now).1.at_:=by
 unfold QFS
 (repeat' split)<;>first|exact⟨hv,hn⟩|exact hh
abbrev VsP(g:Nat)(c:GwC)(os:List QCh)(s:VS):List HP:=[GwB g (c.withLost s.lost) os,QA5 c.dev c.log c.idx s.k,Ar HLT c.held s.held,Ar ALT c.alarms s.al]
theorem QTn(g:Nat)(c:GwC)(os:List QCh)(ts:List Pn.Tag)(p:Pn.Poll)(sp:Sl)(r:RepV)(r1 r2 r3:Sl)(hr3:r3.n=r.files.length)(hw:QMw r.set)(hc:r2.n≤r2.c)(htl:p.tags.length≤1000000)(s:VS)
  (hl:c.lost=s.lost) (hok:s.ok=true) (hlen:s.held.length=ts.length∧s.al.length=ts.length) (hh:HeldOk s.held) (hn:i64 c.clock) :
  CtP QCf Pr 239 [.pointer (some ⟨g,0,none⟩),.agg #[.I p.unit,.I p.kind,.I p.addr,.I p.count,.I p.every,sp.v],Qdy r.exc r1 r2 r3] (.tup []) [] [GwB g c os,QA5 c.dev c.log c.idx s.k,Ar HLT c.held s.held,Ar ALT c.alarms s.al]
  (GTab.and ((RAr Pn.TG c.tags ts).and ((RAr I64 sp p.tags).and ((RAr BL r1 r.on).and (RAr W16 r2 r.set)))))
  (fun _ Bs=>(QCb c.clock ts p r s).ok=true∧HeldOk (QCb c.clock ts p r s).held∧((QCb c.clock ts p r s).held.length=ts.length∧(QCb c.clock ts p r s).al.length=ts.length)∧Bs=VsP g c os (QCb c.clock ts p r s))
  (fun Bs=>(QCb c.clock ts p r s).ok=false∧HeldOk (QCb c.clock ts p r s).held∧((QCb c.clock ts p r s).held.length=ts.length∧(QCb c.clock ts p r s).al.length=ts.length)∧Bs=VsP g c os (QCb c.clock ts p r s)):=by
 refine QdU (QC3 _ _ _ _ _ _ _ _ _ _ _) fun B hr=>?_;obtain⟨hg,h1,h2,h3,h4⟩:=hr;haveI:=QKc hg;haveI:Fro B c.tags Pn.TG ts:=⟨h1⟩;haveI:Fro B sp I64 p.tags:=⟨h2⟩;haveI:Fro B r1 BL r.on:=⟨h3⟩;haveI:Fro B r2 Pn.U16 (r.set.map QFn):=⟨Qdr hw h4⟩;obtain⟨N,hN⟩:∃N,QCb c.clock ts p r s=N:=⟨_,rfl⟩;rw[hN];unfold QCb at hN;unfold QC3 mfP;dsimp only;refine QAL fun b=>QAL fun b1=>QAP (xgf (h:=?_));iterate 5 (refine xgq ?_)
 refine QAA (s:=.slice) (x:=sp) (hv:=rfl) (h:=xgq (QAA (s:=.slice) (x:=r1) (hv:=rfl) (h:=QAA (s:=.slice) (x:=r2) (hv:=rfl) (h:=QAA (s:=.slice) (x:=r3) (hv:=rfl) (h:=?_)))));refine xcl (Pn.Values_spec c.tags ts p sp r.exc r1 r2 r3 r.on (r.set.map QFn) hc htl) rdb ?_;rw[hr3]
 have hall:(Pn.valuesM ts p r.exc r.on (r.set.map QFn) r.files.length).1≠[]→(Pn.allE ts).1=0:=fun hne=>by
  refine Classical.byContradiction fun q=>hne ?_;unfold Pn.valuesM;rw[if_pos q]
 have hgo:(Pn.valuesM ts p r.exc r.on (r.set.map QFn) r.files.length).1=[]∨((Pn.valuesM ts p r.exc r.on (r.set.map QFn) r.files.length).1.length=p.tags.length∧∀(i:Nat) (k:Int),p.tags[i]? = some k→∃t,Pn.tagAt ts k=some t∧(Pn.valuesM ts p r.exc r.on (r.set.map QFn) r.files.length).1[i]? = some (Pn.valueM t p r.on (r.set.map QFn))):=by
  unfold Pn.valuesM
  (repeat' split)<;>try exact .inl rfl
  rcases Qca ts p r.on (r.set.map QFn) p.tags [] _ _ rfl with q|⟨vs,q1,q2,q3⟩
  ·exact .inl q
  ·rw[List.nil_append]at q1;rw[q1];exact .inr ⟨q2,q3⟩
 generalize Pn.valuesM ts p r.exc r.on (r.set.map QFn) r.files.length=VM at *
 obtain⟨l,e⟩:=VM;rintro⟨s5,(e':Int),_⟩ _ ⟨_,rfl⟩;simp only at hall hgo hN⊢;refine QA8 (ca2 ?_);refine QCn (E:=I64) (xs:=l) s5 fun hsn _=>?_
 have hlb : l.length ≤ 1000000 := by rcases hgo with q|q
                                     · rw[q];decide
                                     · rw[q.1];exact htl
 rw[show GwB g c os=GwB g (c.withLost s.lost) os by rw[←hl]];refine QAM (Ar I64 s5 l::Blk b [.I p.unit,.I p.kind,.I p.addr,.I p.count,.I p.every,sp.v]::VsP g c os s) ?_;refine QBV (fun n (x:Int) As'=>∃(i:Nat) (t:VS),x=(i:Int)∧n=l.length - i∧i≤l.length∧t.ok=true∧(t.held.length=ts.length∧t.al.length=ts.length)∧HeldOk t.held∧QGW c.clock ts p.tags l s=QGW c.clock ts (p.tags.drop i) (l.drop i) t∧As'=Ar I64 s5 l::Blk b [.I p.unit,.I p.kind,.I p.addr,.I p.count,.I p.every,sp.v]::VsP g c os t) l.length ⟨0,s,rfl,rfl,by omega,hok,hlen,hh,rfl,rfl⟩ ?_;rintro n x As' K ⟨i,t,rfl,rfl,hi,hto,htlen,hth,hfold,rfl⟩ hK;refine QAB (fun h=>?_) (fun h=>?_)
 case refine_2=>
  rw[List.drop_of_length_le (show l.length≤i by omega)]at hfold
  have:QGW c.clock ts (p.tags.drop i) [] t=t:=by
   cases p.tags.drop i<;>rfl
  rw[this]at hfold;rw[hfold]at hN;subst hN;exact QAM (VsP g c os t) (QAE ⟨hto,hth,htlen,rfl⟩)
 have hlt:i<l.length:=by omega
 have hne:l≠[]:=fun q=>by rw[q]at hlt;cases hlt
 have hall:=hall hne;obtain⟨hpl,hgo⟩:=hgo.resolve_left hne;obtain⟨k,hk⟩:∃k,p.tags[i]? = some k:=⟨_,List.getElem?_eq_getElem (by omega)⟩;obtain⟨tg,htg,hv⟩:=hgo i k hk;have hvi:=QWC tg p r.on (r.set.map QFn)
 generalize Pn.valueM tg p r.on (r.set.map QFn)=v at *
 have hk0:0≤k∧ts[k.toNat]? = some tg:=by
  unfold Pn.tagAt at htg;split at htg
  ·cases htg
  ·exact⟨by omega,htg⟩
 obtain⟨hk0,htk⟩:=hk0;have hklt:k.toNat<ts.length:=(List.getElem?_eq_some_iff.1 htk).1;obtain⟨hb1,hb2,hnm⟩:=Qbb (Pn.allE_tag hall htk)
 have hdrop1:p.tags.drop i=k::p.tags.drop (i+1):=by rw[List.drop_eq_getElem_cons (by omega)];congr 1;exact (List.getElem?_eq_some_iff.1 hk).2
 have hdrop2:l.drop i=v::l.drop (i+1):=by rw[List.drop_eq_getElem_cons hlt];congr 1;exact (List.getElem?_eq_some_iff.1 hv).2
 rw[hdrop1,hdrop2,QGW]at hfold
 have hkn:((k.toNat:Nat):Int)=k:=by omega
 have hstep:QFt c.clock ts t k v=if (QO2 c.clock t k.toNat tg v).ok=true then QVR c.clock (QO2 c.clock t k.toNat tg v) k.toNat tg v else QO2 c.clock t k.toNat tg v:=by unfold QFt;rw[htg]
 have bad:∀{t':VS},QFt c.clock ts t k v=t'→t'.ok=false→N=t':=fun {t'} h1 h2=>by
  rw[h1,if_neg (by rw[h2];decide)]at hfold;rw[←hN,hfold]
 have good:∀{t':VS},QFt c.clock ts t k v=t'→t'.ok=true→QGW c.clock ts p.tags l s=QGW c.clock ts (p.tags.drop (i+1)) (l.drop (i+1)) t':=fun h1 h2=>by
  rw[h1,if_pos h2]at hfold;exact hfold
 refine QAI (E:=I64) (xs:=l) (s:=s5) (k:=i) (h1:=hlt) (h:=fun _ _=>?_);refine QAO (E:=I64) (xs:=l) (i:=i) hv (h:=QAA (s:=.slice) (x:=sp) (hv:=rfl) (h:=?_));refine QAI (E:=I64) (xs:=p.tags) (s:=sp) (k:=i) (h1:=by omega) (h:=fun _ _=>?_);refine QAO (E:=I64) (xs:=p.tags) (i:=i) hk (h:=xgf (h:=?_));rw[←hkn];refine QAI (E:=Pn.TG) (xs:=ts) (s:=c.tags) (k:=k.toNat) (h1:=hklt) (h:=fun _ _=>?_);refine QAO (E:=Pn.TG) (xs:=ts) htk (h:=?_);iterate 18 (refine QAb (E:=Pn.TG) (xs:=ts) htk (h:=?_))
 refine QAL fun b2=>?_;iterate 19 (refine xsq ?_)
 refine QAP (xgq (xgq (xgf (h:=?_))));have hh0:t.held[k.toNat]? = some (t.held.getD k.toNat ⟨false,0,0⟩):=gdE (by omega);have hhi:i64 (t.held.getD k.toNat ⟨false,0,0⟩).value∧i64 (t.held.getD k.toNat ⟨false,0,0⟩).at_:=hth _ (List.mem_of_getElem? hh0)
 have hbS:∀q,QFS tg.dead tg.quiet (t.held.getD k.toNat ⟨false,0,0⟩) v c.clock=q→QO2 c.clock t k.toNat tg v=if q.2=true then ⟨(QBa c.clock t.k t.lost ⟨1,0,tg.name,v,0⟩).k,(QBa c.clock t.k t.lost ⟨1,0,tg.name,v,0⟩).lost,t.held.set k.toNat q.1,t.al,(QBa c.clock t.k t.lost ⟨1,0,tg.name,v,0⟩).ok⟩ else t:=fun q hq=>by unfold QO2;rw[hq]
 have hbi:=Qbj (d:=tg.dead) (q:=tg.quiet) hhi hvi hn;have hbs:=QPA tg.dead tg.quiet (t.held.getD k.toNat ⟨false,0,0⟩) v c.clock ⟨by omega,by omega⟩ ⟨by omega,by omega⟩ hhi hvi hn
 generalize t.held.getD k.toNat ⟨false,0,0⟩=h0 at *
 generalize hq:QFS tg.dead tg.quiet h0 v c.clock=q at *
 replace hbS:=hbS q rfl
 obtain⟨q1,q2⟩:=q;simp only at hbS hbi hbs;refine QAI (E:=HLT) (xs:=t.held) (s:=c.held) (k:=k.toNat) (h1:=by omega) (h:=fun _ _=>?_);refine QAO (E:=HLT) (xs:=t.held) hh0 (h:=?_);iterate 2 (refine QAb (E:=HLT) (xs:=t.held) hh0 (h:=?_))
 have hcl:c.withLost t.lost=c.withLost t.lost:=rfl
 have hdone:∀{u:VS}{R:List HP},QFt c.clock ts t k v=u→u.ok=true→HeldOk u.held→u.held.length=ts.length∧u.al.length=ts.length→Ent B (Ar I64 s5 l::Blk b [.I p.unit,.I p.kind,.I p.addr,.I p.count,.I p.every,sp.v]::(VsP g c os u++R)) (K (IntKind.i64.wrap ((i:Int)+1))):=by
  intro u R h1 h2 h3 h4;rw[QAF i (by omega)];exact QAa (l:=Ar I64 s5 l::Blk b [.I p.unit,.I p.kind,.I p.addr,.I p.count,.I p.every,sp.v]::VsP g c os u) (hK (l.length - (i+1)) _ _ (by omega) ⟨i+1,u,rfl,rfl,by omega,h2,h4,h3,good h1 h2,rfl⟩)
 have hpan:∀{u:VS}{R:List HP},QFt c.clock ts t k v=u→u.ok=false→HeldOk u.held→u.held.length=ts.length∧u.al.length=ts.length→Ent B (VsP g c os u++R) (Qcr B fun Bs=>N.ok=false∧HeldOk N.held∧(N.held.length=ts.length∧N.al.length=ts.length)∧Bs=VsP g c os N):=by
  intro u R h1 h2 h3 h4;rw[bad h1 h2];exact QAa (l:=VsP g c os u) (QTl ⟨h2,h3,h4,rfl⟩)
 refine xgf (h:=QXY ?_ (QAL fun b3=>?_))
 all_goals
  refine xcl hbs rdb ?_;rintro _ _ ⟨rfl,rfl⟩;first|refine QAz (Qd0 (QAL fun b3=>?_))|refine QAz (Qd0 ?_)
  iterate 3 (refine xsq ?_)
  refine QBx (fun As'=>∃u:VS,QO2 c.clock t k.toNat tg v=u∧u.ok=true∧HeldOk u.held∧(u.held.length=ts.length∧u.al.length=ts.length)∧As'=Blk b2 (QgQ tg)::Ar I64 s5 l::Blk b [.I p.unit,.I p.kind,.I p.addr,.I p.count,.I p.every,sp.v]::VsP g c os u) (fun K1 hK1=>?_) ?_
  ·refine xif (fun h8=>?_) (fun h8=>?_)
   ·rw[if_pos h8]at hbS;refine QAP (xgf (h:=xgq (xgq (xgq ?_))));refine QAI (E:=HLT) (xs:=t.held) (s:=c.held) (k:=k.toNat) (h1:=by omega) (h:=fun _ _=>?_);refine QHZ (E:=HLT) ⟨q1.has,h0.value,h0.at_⟩ hh0 (hv:=rfl) (h:=?_);refine QCr (E:=HLT) (xs:=t.held.set k.toNat ⟨q1.has,h0.value,h0.at_⟩) ⟨q1.has,q1.value,h0.at_⟩ (List.getElem?_set_self (by omega)) (hj:=by decide) (hv:=rfl) (h:=?_);refine QCr (E:=HLT) (xs:=(t.held.set k.toNat ⟨q1.has,h0.value,h0.at_⟩).set k.toNat ⟨q1.has,q1.value,h0.at_⟩) q1 (List.getElem?_set_self (by rw[List.length_set];omega)) (hj:=by decide) (hv:=rfl) (h:=?_);rw[List.set_set,List.set_set];refine xgq ?_;have hns:=QFP g (c.withLost t.lost) os t.k ⟨1,0,tg.name,v,0⟩ (show tg.name.size≤1000000 by omega);generalize hnk:QBa (c.withLost t.lost).clock t.k (c.withLost t.lost).lost ⟨1,0,tg.name,v,0⟩=nk at hns;rw[show QBa c.clock t.k t.lost ⟨1,0,tg.name,v,0⟩=nk from hnk]at hbS;have hho:HeldOk (t.held.set k.toNat q1):=hth.set _ hbi;refine QSL hns rdb ?_ ?_
    ·rintro _ _ ⟨hno,rfl⟩;refine QBM (ca0 ?_);exact QAM (Blk b2 (QgQ tg)::Ar I64 s5 l::Blk b [.I p.unit,.I p.kind,.I p.addr,.I p.count,.I p.every,sp.v]::VsP g c os ⟨nk.k,nk.lost,t.held.set k.toNat q1,t.al,nk.ok⟩) (hK1 _ ⟨_,hbS,hno,hho,⟨by rw[List.length_set];exact htlen.1,htlen.2⟩,rfl⟩)
    ·rintro _ ⟨hno,rfl⟩;rw[hbS,if_neg (show ¬nk.ok=true by rw[hno];decide)]at hstep;refine QBM (QAW (VsP g c os ⟨nk.k,nk.lost,t.held.set k.toNat q1,t.al,nk.ok⟩) ?_);exact hpan hstep hno hho ⟨by rw[List.length_set];exact htlen.1,htlen.2⟩
   ·rw[if_neg (by rw[h8];decide)]at hbS;exact QAM (Blk b2 (QgQ tg)::Ar I64 s5 l::Blk b [.I p.unit,.I p.kind,.I p.addr,.I p.count,.I p.every,sp.v]::VsP g c os t) (hK1 _ ⟨t,hbS,hto,hth,htlen,rfl⟩)
  rintro _ ⟨u,hbu,huok,huh,hulen,rfl⟩;rw[hbu,if_pos huok]at hstep;have ha0:u.al[k.toNat]? = some (u.al.getD k.toNat ⟨0,false⟩):=gdE (by omega)
  have haS:∀q,QKH (QbP tg) (u.al.getD k.toNat ⟨0,false⟩) v=q→QVR c.clock u k.toNat tg v=if q.2≠0 then ⟨(QBa c.clock u.k u.lost ⟨2,0,tg.name,q.2,0⟩).k,(QBa c.clock u.k u.lost ⟨2,0,tg.name,q.2,0⟩).lost,u.held,u.al.set k.toNat q.1,(QBa c.clock u.k u.lost ⟨2,0,tg.name,q.2,0⟩).ok⟩ else { u with al:=u.al.set k.toNat q.1 }:=fun q hq=>by unfold QVR;rw[hq]
  have has:=QMx (QbP tg) (u.al.getD k.toNat ⟨0,false⟩) v
  generalize u.al.getD k.toNat ⟨0,false⟩=a0 at *
  generalize hq:QKH (QbP tg) a0 v=qa at *
  replace haS:=haS qa rfl
  obtain⟨qa1,qa2⟩:=qa;simp only at haS has;refine QAP ?_;iterate 6 (refine xgq ?_)
  refine xgf (h:=?_);refine QAI (E:=ALT) (xs:=u.al) (s:=c.alarms) (k:=k.toNat) (h1:=by omega) (h:=fun _ _=>?_);refine QAO (E:=ALT) (xs:=u.al) ha0 (h:=QAb (E:=ALT) (xs:=u.al) ha0 (h:=?_));refine QXY ?_ (QAL fun b4=>?_)
  all_goals
   refine xcl has rdb ?_;rintro _ _ ⟨rfl,rfl⟩;first|refine QAz (ca3 (QAL fun b4=>?_))|refine QAz (ca3 ?_)
   iterate 2 (refine xsq ?_)
   refine QAP (xgf (h:=xgq (xgq ?_)));refine QAI (E:=ALT) (xs:=u.al) (s:=c.alarms) (k:=k.toNat) (h1:=by omega) (h:=fun _ _=>?_);refine QHZ (E:=ALT) ⟨qa1.state,a0.waits⟩ ha0 (hv:=rfl) (h:=?_);refine QCr (E:=ALT) (xs:=u.al.set k.toNat ⟨qa1.state,a0.waits⟩) qa1 (List.getElem?_set_self (by omega)) (hj:=by decide) (hv:=rfl) (h:=?_);rw[List.set_set];have hle:u.held.length=ts.length∧(u.al.set k.toNat qa1).length=ts.length:=⟨hulen.1,by rw[List.length_set];exact hulen.2⟩;refine QAJ (xif (fun h9=>?_) (fun h9=>?_))
   ·rw[if_pos (bne_iff_ne.1 h9)]at haS;refine xgq ?_;have hns:=QFP g (c.withLost u.lost) os u.k ⟨2,0,tg.name,qa2,0⟩ (show tg.name.size≤1000000 by omega);generalize hnk:QBa (c.withLost u.lost).clock u.k (c.withLost u.lost).lost ⟨2,0,tg.name,qa2,0⟩=nk at hns;rw[show QBa c.clock u.k u.lost ⟨2,0,tg.name,qa2,0⟩=nk from hnk]at haS;rw[haS]at hstep;refine QSL hns rdb ?_ ?_
    ·rintro _ _ ⟨hno,rfl⟩;refine QBM (ca0 ?_);refine QAW (Ar I64 s5 l::Blk b [.I p.unit,.I p.kind,.I p.addr,.I p.count,.I p.every,sp.v]::VsP g c os ⟨nk.k,nk.lost,u.held,u.al.set k.toNat qa1,nk.ok⟩) ?_;exact hdone hstep hno huh hle
    ·rintro _ ⟨hno,rfl⟩;refine QBM (QAW (VsP g c os ⟨nk.k,nk.lost,u.held,u.al.set k.toNat qa1,nk.ok⟩) ?_);exact hpan hstep hno huh hle
   ·rw[if_neg (by simpa using h9)]at haS;rw[haS]at hstep;refine QAW (Ar I64 s5 l::Blk b [.I p.unit,.I p.kind,.I p.addr,.I p.count,.I p.every,sp.v]::VsP g c os { u with al:=u.al.set k.toNat qa1 }) ?_;exact hdone hstep huok huh hle
abbrev Qd6:=QKf×Sl×Sl×Sl
def CE:Enc Qd6:=⟨fun x=>cmC x.1 x.2.1 x.2.2.1 x.2.2.2,8,fun _=>rfl,fun x v h=>by simp at h;rcases h with rfl|rfl|rfl|rfl|rfl|rfl|rfl|rfl<;>rfl,by decide,(QaI,nilS,nilS,nilS)⟩
def QF7(r:Qd6)(c:QKf):HP:=fun h=>r.1=c∧QBn [Ar BL r.2.1 c.a.on,Ar W16 r.2.2.1 c.a.set,Ar PaE r.2.2.2 c.a.parts] h
def QQA(s:Sl)(qs:List QKf):HP:=fun h=>∃rs:List Qd6,rs.length=qs.length∧QBn [Ar CE s rs,Each QF7 rs qs] h
def QXz(q:Option Addr):Option QKf→HP
 | none=>fun _=>q=none
 | some c=>fun h=>∃b so ss sp,q=some ⟨b,0,none⟩∧QBn [Blk b (cmC c so ss sp),Ar BL so c.a.on,Ar W16 ss c.a.set,Ar PaE sp c.a.parts] h
structure GM where
 timeout:Int
 retries:Int
 window:Int
 resend:Int
 span:Int
 keep:Int
 ts:List Pn.Tag
 k:Kn
 saved:Int
 acked:Int
 epoch:Int
 boots:Int
 J:Od.JM
 m:SeM
 ma:MaM
 polls:List Pn.Poll
 slots:List QHt
 held:List QMZ
 al:List AlV
 queue:List QKf
 poll:Int
 cmd:Option QKf
 clock:Int
 lost:Int
 stopped:Bool
 os:List QCh
 ok:Bool
structure GwA where
 tags:Sl
 dev:Option Addr
 log:Option Addr
 idx:Option Addr
 jr:Option Addr
 up:Option Addr
 line:Option Addr
 polls:Sl
 slots:Sl
 held:Sl
 alarms:Sl
 queue:Sl
 cmd:Option Addr
abbrev cOf(a:GwA)(M:GM):GwC:=⟨M.timeout,M.retries,M.window,M.resend,M.span,M.keep,a.tags,a.dev,a.log,a.idx,M.saved,M.acked,M.epoch,M.boots,a.jr,a.up,a.line,a.polls,a.slots,a.held,a.alarms,a.queue,M.poll,a.cmd,M.clock,M.lost,M.stopped⟩
abbrev GwL(g:Nat)(a:GwA)(M:GM):List HP:=[GwB g (cOf a M) M.os,QA5 a.dev a.log a.idx M.k,Od.JObj a.dev a.jr M.J,QBD a.up M.m,QBB a.line M.ma,Ar Pn.TG a.tags M.ts,Pn.OPolls a.polls M.polls,Ar SLT a.slots M.slots,Ar HLT a.held M.held,Ar ALT a.alarms M.al,QQA a.queue M.queue,QXz a.cmd M.cmd]
def Qa0(c:QKf):Prop:=QMw c.a.set∧c.a.code≠20
structure MOk(M:GM):Prop where
 clock:0≤M.clock∧M.clock≤1099511627776
 keep:i64 M.keep
 slots:M.slots.length=M.polls.length
 polls:M.polls.length≤64
 tags:∀p∈M.polls,p.tags.length≤64
 held:M.held.length=M.ts.length∧HeldOk M.held
 al:M.al.length=M.ts.length
 queue:M.queue.length≤8∧∀c∈M.queue,Qa0 c
 poll : -1≤M.poll∧M.poll<M.polls.length
 busy:0<M.ma.tries→M.cmd=none→0≤M.poll
theorem Qdq{s:Sl}{ps:List Pn.Poll}{k:Nat}{p:Pn.Poll}(hk:ps[k]? = some p){φ:WP}[f:Find (Pn.OPolls s ps) As F]
  (h:∀rows sl,rows.map Prod.fst=ps→rows[k]? = some (p,sl)→Ent B (Ar I64 sl p.tags::Each Pn.EP (rows.eraseIdx k) (rows.eraseIdx k)::Ar Pn.PR s rows::F) φ):Ent B As φ:=by
 refine Ent.perm f.perm (QFu 0 (P1:=Pn.OPolls s ps) (fun Bs=>∃rows,rows.map Prod.fst=ps∧Bs=[Ar Pn.PR s rows,Each Pn.EP rows rows]) (fun g hg=>?_) ?_)
 ·obtain⟨rows,hr,hs⟩:=hg;exact⟨_,⟨rows,hr,rfl⟩,hs⟩
 rintro _ ⟨rows,hr,rfl⟩
 have hlt:k<rows.length:=by
  have:=(List.getElem?_eq_some_iff.1 hk).1;rw[←hr]at this;simpa using this
 obtain⟨⟨q1,sl⟩,hq⟩:∃q,rows[k]? = some q:=⟨_,List.getElem?_eq_getElem hlt⟩
 have hq1:q1=p:=by
  rw[←hr,List.getElem?_map,hq]at hk;simpa using hk
 subst hq1;refine QBM (QFu 1 (P1:=Each Pn.EP rows rows) (fun Bs=>Bs=[Ar I64 sl q1.tags,Each Pn.EP (rows.eraseIdx k) (rows.eraseIdx k)]) (fun g hg=>⟨_,rfl,QCB hg hq hq⟩) ?_);rintro _ rfl;exact QBM (h rows sl hr hq)
theorem QU5{s:Sl}{ps:List Pn.Poll}{k:Nat}{p:Pn.Poll}{rows:List (Pn.Poll×Sl)}{sl:Sl}(hr:rows.map Prod.fst=ps)(hq:rows[k]? = some (p,sl)){G:List HP}[sp:Split [Ar I64 sl p.tags,Each Pn.EP (rows.eraseIdx k) (rows.eraseIdx k),Ar Pn.PR s rows] As G]{φ:WP}
  (h:Ent B (Pn.OPolls s ps::G) φ):Ent B As φ:=by
 refine Ent.perm sp.perm (QQC ?_);have hlt:=(List.getElem?_eq_some_iff.1 hq).1;refine QBR [Ar I64 sl p.tags,Each Pn.EP (rows.eraseIdx k) (rows.eraseIdx k)] (Each Pn.EP rows rows) (fun g hg=>?_) ?_
 ·have:=QDJ (R:=Pn.EP) (x:=(p,sl)) (y:=(p,sl)) hlt hlt hg
  rwa [show rows.set k (p,sl)=rows by rw[←(List.getElem?_eq_some_iff.1 hq).2,List.set_getElem_self]]at this
 exact QBR [Ar Pn.PR s rows,Each Pn.EP rows rows] (Pn.OPolls s ps) (fun g hg=>⟨rows,hr,hg⟩) h
abbrev withV(M:GM)(v:VS):GM:={ M with k:=v.k,lost:=v.lost,held:=v.held,al:=v.al,ok:=v.ok }
def QRN(M:GM)(o:QXP):GM:=
 if o.what=1 then withV { M with cmd:=none,poll:=-1 } (QCb M.clock M.ts (M.polls.getD M.poll.toNat Pn.poll0) o.r ⟨M.k,M.lost,M.held,M.al,true⟩) else { M with cmd:=none,poll:=-1 }
abbrev Qbx(M:GM)(k:Nat)(is:Bool):GM:={ M with slots:=M.slots.set k (QLN (M.slots.getD k ⟨0,0,0⟩) M.clock is) }
def QYD(M:GM)(o:QXP):GM:=if (QRN M o).ok=true then Qbx (QRN M o) M.poll.toNat (o.what == 1) else QRN M o
def QQ5(o:QXP):Int:=if o.what=2 then IntKind.i64.wrap (100+o.r.exc) else if o.what=3 then 1 else 0
def Qfg(M:GM)(id code:Int)(k:Kn)(J:Od.JM):GM:=
 { M with k:=(QBa M.clock k M.lost ⟨6,0,ByteArray.empty,code,id⟩).k,lost:=(QBa M.clock k M.lost ⟨6,0,ByteArray.empty,code,id⟩).lost,J:=J,ok:=(QBa M.clock k M.lost ⟨6,0,ByteArray.empty,code,id⟩).ok,os:=if (QBa M.clock k M.lost ⟨6,0,ByteArray.empty,code,id⟩).ok=true then M.os++QDc id code else M.os }
def QZI(M:GM)(id code:Int):GM:=
 if (QDf M.k M.J id code).2.2=10 then { M with cmd:=none,poll:=-1,k:=(QDf M.k M.J id code).1,J:=(QDf M.k M.J id code).2.1,ok:=false }
 else if (QDf M.k M.J id code).2.2≠0 then { M with cmd:=none,poll:=-1,k:=(QDf M.k M.J id code).1,J:=(QDf M.k M.J id code).2.1,os:=M.os++QDc id 2 }
 else Qfg { M with cmd:=none,poll:=-1 } id code (QDf M.k M.J id code).1 (QDf M.k M.J id code).2.1
def QHa(M:GM)(o:QXP):GM:=match M.cmd with
 | none=>QYD M o
 | some c=>QZI M c.id (QQ5 o)
theorem MOk.drop{M:GM}(h:MOk M)(ht:M.ma.tries≤0):MOk { M with cmd:=none,poll:=-1 }:=
 ⟨h.clock,h.keep,h.slots,h.polls,h.tags,h.held,h.al,h.queue,⟨Int.le_refl _,by have:=h.poll;show (-1:Int)<M.polls.length;omega⟩,fun q=>by have q:0<M.ma.tries:=q;omega⟩
theorem MOk.withV{M:GM}(h:MOk M)(v:VS)(hh:HeldOk v.held)(hl:v.held.length=M.ts.length∧v.al.length=M.ts.length):MOk (withV M v):=
 ⟨h.clock,h.keep,h.slots,h.polls,h.tags,⟨hl.1,hh⟩,hl.2,h.queue,h.poll,h.busy⟩
theorem MOk.slot{M:GM}(h:MOk M)(k:Nat)(is:Bool):MOk (Qbx M k is):=
 ⟨h.clock,h.keep,by show (M.slots.set _ _).length=_;rw[List.length_set];exact h.slots,h.polls,h.tags,h.held,h.al,h.queue,h.poll,h.busy⟩
theorem MOk.core{M:GM}(h:MOk M)(k:Kn)(lost:Int)(J:Od.JM)(m:SeM)(os:List QCh)(ok:Bool):MOk { M with k:=k,lost:=lost,J:=J,m:=m,os:=os,ok:=ok }:=
 ⟨h.clock,h.keep,h.slots,h.polls,h.tags,h.held,h.al,h.queue,h.poll,h.busy⟩
abbrev GwA.noCmd(a:GwA):GwA:={ a with cmd:=none }
theorem QN7(g:Nat)(a:GwA)(M:GM)(hM:MOk M)(hok:M.ok=true)(ht:M.ma.tries≤0)(hp:M.cmd=none→0≤M.poll)(hos:M.os.length≤900000)(o:QXP)(hf:o.r.files=[])(hw:QMw o.r.set)(r1 r2:Sl)(hc:r2.n≤r2.c) :
  CtP QCf Pr 151 [.pointer (some ⟨g,0,none⟩),.agg #[.I o.what,.I o.r.exc,r1.v,r2.v,nilS.v,.I o.tries]] (.tup []) [] (GwL g a M)
  (GTab.and ((RAr BL r1 o.r.on).and (RAr W16 r2 o.r.set)))
  (fun _ Bs=>(QHa M o).ok=true∧MOk (QHa M o)∧Bs=GwL g a.noCmd (QHa M o))
  (fun Bs=>(QHa M o).ok=false∧MOk (QHa M o)∧Bs=GwL g a.noCmd (QHa M o)):=by
 refine QdU (QDj _ _ _ _ _ _ _) fun B hr=>?_;obtain⟨hg,h1,h2⟩:=hr;haveI:=QKc hg;haveI:Fro B r1 BL o.r.on:=⟨h1⟩;haveI:Fro B r2 W16 o.r.set:=⟨h2⟩;obtain⟨N,hN⟩:∃N,QHa M o=N:=⟨_,rfl⟩;rw[hN];unfold QHa at hN;unfold QDj mfP;dsimp only;refine QAL fun b=>QAP (xgf (h:=xgf (h:=xgs (cOf a.noCmd M) (h:=xgs (cOf a.noCmd { M with poll:=-1 }) (h:=?_)))))
 cases hcmd:M.cmd with
 | none=>
  rw[hcmd]at hN;simp only at hN;have hp0:=hp hcmd;have hpl:=hM.poll
  have hpk:((M.poll.toNat:Nat):Int)=M.poll:=by omega
  have hklt:M.poll.toNat<M.polls.length:=by omega
  have hpo:M.polls[M.poll.toNat]? = some (M.polls.getD M.poll.toNat Pn.poll0):=gdE hklt;have htag:=hM.tags _ (List.mem_of_getElem? hpo);have hso:∀{l:List QHt},l.length=M.polls.length→l[M.poll.toNat]? = some (l.getD M.poll.toNat ⟨0,0,0⟩):=fun h=>gdE (by omega);refine QCC 12 (P1:=QXz a.cmd none) (fun f hf=>hf) fun hcn=>?_;rw[hcn,show (cOf a M).cmd=none from hcn,show (cOf a M).poll=((M.poll.toNat:Nat):Int) from hpk.symm];refine QBk rfl (xgq ?_);unfold QYD at hN;have hM0:=hM.drop ht;refine QBx (fun As'=>∃u:GM,QRN M o=u∧u.ok=true∧MOk u∧(u.slots.length=M.polls.length∧u.clock=M.clock)∧As'=Blk b [.I o.what,.I o.r.exc,r1.v,r2.v,nilS.v,.I o.tries]::GwL g a.noCmd u) (fun K hK=>?_) ?_
  ·unfold QRN at hN hK;refine xif (fun hw1=>?_) (fun hw1=>?_)
   ·rw[if_pos (eq_of_beq hw1)]at hN hK;refine QAP (xgf (h:=?_));refine Qdq (s:=a.polls) hpo fun rows sl hrr hrq=>?_
    generalize M.polls.getD M.poll.toNat Pn.poll0=p at *
    refine QAI (E:=Pn.PR) (xs:=rows) (s:=a.polls) (k:=M.poll.toNat) (h1:=(List.getElem?_eq_some_iff.1 hrq).1) (h:=fun _ _=>?_);refine QAO (E:=Pn.PR) (xs:=rows) hrq (h:=?_);iterate 5 (refine QAb (E:=Pn.PR) (xs:=rows) hrq (h:=?_))
    refine xgq (QAA (s:=.slice) (x:=r1) (hv:=rfl) (h:=QAA (s:=.slice) (x:=r2) (hv:=rfl) (h:=xgS (h:=?_))));have hvs:=QTn g (cOf a.noCmd { M with cmd:=none,poll:=-1 }) M.os M.ts p sl o.r r1 r2 nilS (by rw[hf];rfl) hw hc (by omega) ⟨M.k,M.lost,M.held,M.al,true⟩ rfl rfl ⟨hM.held.1,hM.al⟩ hM.held.2 ⟨by have:=hM.clock;show _≤M.clock;omega,by have:=hM.clock;show M.clock≤_;omega⟩;generalize hv:QCb (cOf a.noCmd { M with cmd:=none,poll:=-1 }).clock M.ts p o.r ⟨M.k,M.lost,M.held,M.al,true⟩=v at hvs;rw[show QCb M.clock M.ts p o.r ⟨M.k,M.lost,M.held,M.al,true⟩=v from hv]at hN hK;refine QSL hvs rdb ?_ ?_
    ·rintro _ _ ⟨hvok,hvh,hvl,rfl⟩;refine QdQ (ca0 (QU5 (s:=a.polls) hrr hrq ?_));refine QAW (Blk b [.I o.what,.I o.r.exc,r1.v,r2.v,nilS.v,.I o.tries]::GwL g a.noCmd (withV { M with cmd:=none,poll:=-1 } v)) ?_;exact QAa (l:=Blk b [.I o.what,.I o.r.exc,r1.v,r2.v,nilS.v,.I o.tries]::GwL g a.noCmd (withV { M with cmd:=none,poll:=-1 } v)) (hK _ ⟨_,rfl,hvok,hM0.withV v hvh hvl,⟨hM.slots,rfl⟩,rfl⟩)
    ·rintro _ ⟨hvok,hvh,hvl,rfl⟩;rw[if_neg (show ¬v.ok=true by rw[hvok];decide)]at hN;subst hN;refine QdQ (QU5 (s:=a.polls) hrr hrq ?_);exact QAM (GwL g a.noCmd (withV { M with cmd:=none,poll:=-1 } v)) (QTl ⟨hvok,hM0.withV v hvh hvl,rfl⟩)
   ·rw[if_neg (ne_of_beq_false hw1)]at hN hK;exact QAM (Blk b [.I o.what,.I o.r.exc,r1.v,r2.v,nilS.v,.I o.tries]::GwL g a.noCmd { M with cmd:=none,poll:=-1 }) (hK _ ⟨_,rfl,hok,hM0,⟨hM.slots,rfl⟩,rfl⟩)
  ·rintro _ ⟨u,hu,huok,huM,⟨hul,huc⟩,rfl⟩;rw[hu,if_pos huok]at hN;have hs0:=hso hul;unfold Qbx at hN;have hdn:=QPI (u.slots.getD M.poll.toNat ⟨0,0,0⟩) u.clock (o.what == 1)
   generalize hsd:u.slots.getD M.poll.toNat ⟨0,0,0⟩=s0 at *
   generalize hd:QLN s0 u.clock (o.what == 1)=d at *
   refine QAP (xgf (h:=xgf (h:=?_)));refine QAI (E:=SLT) (xs:=u.slots) (s:=a.slots) (k:=M.poll.toNat) (h1:=by omega) (h:=fun _ _=>?_);refine QAO (E:=SLT) (xs:=u.slots) hs0 (h:=?_);iterate 2 (refine QAb (E:=SLT) (xs:=u.slots) hs0 (h:=?_))
   refine xgf (h:=xgq ?_);refine xcl hdn rdb ?_;rintro _ _ ⟨rfl,rfl⟩;refine QAz (ca3 (xgc (h:=?_)));refine QAI (E:=SLT) (xs:=u.slots) (s:=a.slots) (k:=M.poll.toNat) (h1:=by omega) (h:=fun _ _=>?_);refine QHZ (E:=SLT) ⟨d.every,s0.next,s0.fails⟩ hs0 (hv:=rfl) (h:=?_);refine QCr (E:=SLT) (xs:=u.slots.set M.poll.toNat ⟨d.every,s0.next,s0.fails⟩) ⟨d.every,d.next,s0.fails⟩ (List.getElem?_set_self (by omega)) (hj:=by decide) (hv:=rfl) (h:=?_);refine QCr (E:=SLT) (xs:=(u.slots.set M.poll.toNat ⟨d.every,s0.next,s0.fails⟩).set M.poll.toNat ⟨d.every,d.next,s0.fails⟩) d (List.getElem?_set_self (by rw[List.length_set];omega)) (hj:=by decide) (hv:=rfl) (h:=?_);rw[List.set_set,List.set_set];have hMs:=huM.slot M.poll.toNat (o.what == 1);unfold Qbx at hMs;rw[hsd,hd]at hMs;subst hN;exact QAM (GwL g a.noCmd { u with slots:=u.slots.set M.poll.toNat d }) (QAE ⟨huok,hMs,rfl⟩)
 | some c=>
  rw[hcmd]at hN;simp only at hN;refine QFu 12 (P1:=QXz a.cmd (some c)) (fun Bs=>∃b0 so ss sp,a.cmd=some ⟨b0,0,none⟩∧Bs=[Blk b0 (cmC c so ss sp),Ar BL so c.a.on,Ar W16 ss c.a.set,Ar PaE sp c.a.parts]) (fun f hf=>?_) ?_
  ·obtain⟨b0,so,ss,sp,h1,h2⟩:=hf;exact⟨_,⟨b0,so,ss,sp,h1,rfl⟩,h2⟩
  rintro _ ⟨b0,so,ss,sp,hac,rfl⟩;rw[show (cOf a M).cmd=some ⟨b0,0,none⟩ from hac];have hM0:=hM.drop ht;refine QdQ (QBF rfl (xgq ?_));refine QBR [] (QXz none none) (fun _ _=>rfl) ?_;unfold QZI at hN;refine QAU (fun(x:Int) As'=>x=QQ5 o∧As'=Blk b [.I o.what,.I o.r.exc,r1.v,r2.v,nilS.v,.I o.tries]::Blk b0 (cmC c so ss sp)::GwL g a.noCmd { M with cmd:=none,poll:=-1 }) (fun K hK=>?_) ?_
  ·unfold QQ5 at hK;refine xif (fun h=>?_) (fun h=>QAJ (xif (fun h2=>?_) (fun h2=>?_)))
   ·rw[if_pos (eq_of_beq h)]at hK;refine xgq ?_;exact QAM (Blk b [.I o.what,.I o.r.exc,r1.v,r2.v,nilS.v,.I o.tries]::Blk b0 (cmC c so ss sp)::GwL g a.noCmd { M with cmd:=none,poll:=-1 }) (hK _ _ ⟨rfl,rfl⟩)
   ·rw[if_neg (ne_of_beq_false h),if_pos (eq_of_beq h2)]at hK;exact QAM (Blk b [.I o.what,.I o.r.exc,r1.v,r2.v,nilS.v,.I o.tries]::Blk b0 (cmC c so ss sp)::GwL g a.noCmd { M with cmd:=none,poll:=-1 }) (hK _ _ ⟨rfl,rfl⟩)
   ·rw[if_neg (ne_of_beq_false h),if_neg (ne_of_beq_false h2)]at hK;exact QAM (Blk b [.I o.what,.I o.r.exc,r1.v,r2.v,nilS.v,.I o.tries]::Blk b0 (cmC c so ss sp)::GwL g a.noCmd { M with cmd:=none,poll:=-1 }) (hK _ _ ⟨rfl,rfl⟩)
  rintro _ _ ⟨rfl,rfl⟩
  generalize QQ5 o=code at *
  refine QAP (xgf (h:=QAS (xgq ?_)));refine xcl (QQP a.dev a.log a.idx a.jr M.k M.J c.id code) rdb ?_;rintro⟨e,_⟩ _ ⟨he,rfl⟩;simp only at he;subst he;refine QBM (ca1 (QRx (fun he=>xif (fun h0=>?_) (fun h0=>?_)) (fun he=>?_)))
  ·rw[if_neg he,if_pos (bne_iff_ne.1 h0)]at hN;refine QAS (xgq ?_);refine xd0 (QDP g (cOf a.noCmd { M with cmd:=none,poll:=-1 }) M.os (by omega) c.id 2) ?_;subst hN;exact QAM (GwL g a.noCmd { M with cmd:=none,poll:=-1,k:=(QDf M.k M.J c.id code).1,J:=(QDf M.k M.J c.id code).2.1,os:=M.os++QDc c.id 2 }) (QAE ⟨hok,hM0.core _ _ _ _ _ _,rfl⟩)
  ·rw[if_neg he,if_neg (by simpa using h0)]at hN;refine QAS (xgq ?_);have hns:=QFP g (cOf a.noCmd { M with cmd:=none,poll:=-1 }) M.os (QDf M.k M.J c.id code).1 ⟨6,0,ByteArray.empty,code,c.id⟩ (show (0:Nat)≤1000000 by decide);generalize hnk:QBa (cOf a.noCmd { M with cmd:=none,poll:=-1 }).clock (QDf M.k M.J c.id code).1 (cOf a.noCmd { M with cmd:=none,poll:=-1 }).lost ⟨6,0,ByteArray.empty,code,c.id⟩=nk at hns;unfold Qfg at hN;simp only at hN;rw[show QBa M.clock (QDf M.k M.J c.id code).1 M.lost ⟨6,0,ByteArray.empty,code,c.id⟩=nk from hnk]at hN;refine QSL hns rdb ?_ ?_
   ·rintro _ _ ⟨hno,rfl⟩;rw[if_pos hno]at hN;refine QBM (ca0 (QAS (xgq ?_)));refine xd0 (QDP g ((cOf a.noCmd { M with cmd:=none,poll:=-1 }).withLost nk.lost) M.os (by omega) c.id code) ?_;subst hN;exact QAM (GwL g a.noCmd { M with cmd:=none,poll:=-1,k:=nk.k,lost:=nk.lost,J:=(QDf M.k M.J c.id code).2.1,ok:=nk.ok,os:=M.os++QDc c.id code }) (QAE ⟨hno,hM0.core _ _ _ _ _ _,rfl⟩)
   ·rintro _ ⟨hno,rfl⟩;rw[if_neg (by rw[hno];decide)]at hN;subst hN;exact QBM (QAM (GwL g a.noCmd { M with cmd:=none,poll:=-1,k:=nk.k,lost:=nk.lost,J:=(QDf M.k M.J c.id code).2.1,ok:=nk.ok,os:=M.os }) (QTl ⟨hno,hM0.core _ _ _ _ _ _,rfl⟩))
  ·rw[if_pos he]at hN;subst hN;exact QAM (GwL g a.noCmd { M with cmd:=none,poll:=-1,k:=(QDf M.k M.J c.id code).1,J:=(QDf M.k M.J c.id code).2.1,ok:=false }) (QTl ⟨rfl,hM0.core _ _ _ _ _ _,rfl⟩)
theorem Qhf{s:Sl}{c:QKf}{qs:List QKf}{φ:WP}[f:Find (QQA s (c::qs)) As F]
  (h:∀so ss sp rs,rs.length=qs.length→Ent B (Ar BL so c.a.on::Ar W16 ss c.a.set::Ar PaE sp c.a.parts::Each QF7 rs qs::Ar CE s ((c,so,ss,sp)::rs)::F) φ):Ent B As φ:=by
 refine Ent.perm f.perm (QFu 0 (P1:=QQA s (c::qs)) (fun Bs=>∃r0 rs,rs.length=qs.length∧Bs=[Ar CE s (r0::rs),Each QF7 (r0::rs) (c::qs)]) (fun g hg=>?_) ?_)
 ·obtain⟨rs,hr,hs⟩:=hg
  cases rs with
  | nil=>simp at hr
  | cons r0 rs=>exact⟨_,⟨r0,rs,by simpa using hr,rfl⟩,hs⟩
 rintro _ ⟨r0,rs,hr,rfl⟩;refine QBM (QFu 1 (P1:=Each QF7 (r0::rs) (c::qs)) (fun Bs=>Bs=[QF7 r0 c,Each QF7 rs qs]) (fun g hg=>⟨_,rfl,hg⟩) ?_);rintro _ rfl;refine QBM (QFu 0 (P1:=QF7 r0 c) (fun Bs=>r0.1=c∧Bs=[Ar BL r0.2.1 c.a.on,Ar W16 r0.2.2.1 c.a.set,Ar PaE r0.2.2.2 c.a.parts]) (fun g hg=>⟨_,⟨hg.1,rfl⟩,hg.2⟩) ?_);rintro _ ⟨rfl,rfl⟩;exact QQC (h r0.2.1 r0.2.2.1 r0.2.2.2 rs hr)
abbrev QGo(p:Pn.Poll):AskV:=⟨(Pn.askR p).1,(Pn.askR p).2.1,(Pn.askR p).2.2,[],[],[]⟩
theorem QQO(p:Pn.Poll):(QGo p).code≠20:=by
 show (Pn.askR p).1≠20;unfold Pn.askR;split
 ·rename_i h
  have:=Pn.ask_ok h;simp only;omega
 ·decide
def QMr(M:GM):GM:=
 if QUc M.slots M.clock<0 then M
 else if QME M.ma M.clock (M.polls.getD (QUc M.slots M.clock).toNat Pn.poll0).unit (QGo (M.polls.getD (QUc M.slots M.clock).toNat Pn.poll0))=0 then
  { M with poll:=QUc M.slots M.clock,ma:=QCJ M.ma M.clock (M.polls.getD (QUc M.slots M.clock).toNat Pn.poll0).unit (QGo (M.polls.getD (QUc M.slots M.clock).toNat Pn.poll0)),os:=M.os++[(1,(QCJ M.ma M.clock (M.polls.getD (QUc M.slots M.clock).toNat Pn.poll0).unit (QGo (M.polls.getD (QUc M.slots M.clock).toNat Pn.poll0))).fr)] }
 else M
def QYj(M:GM)(c:QKf):GM:=if QME M.ma M.clock c.unit c.a=0 then { M with cmd:=some c,ma:=QCJ M.ma M.clock c.unit c.a,os:=M.os++[(1,(QCJ M.ma M.clock c.unit c.a).fr)] } else M
def QRo(M:GM)(c:QKf)(n:Qdb)(J:Od.JM):GM:=if n.ok=true then QYj { M with k:=n.k,lost:=n.lost,J:=J } c else { M with k:=n.k,lost:=n.lost,J:=J,ok:=false }
def QNl(M:GM)(c:QKf):GM:=
 if (QBw M.k M.J c.id).2.2=10 then { M with k:=(QBw M.k M.J c.id).1,J:=(QBw M.k M.J c.id).2.1,ok:=false }
 else if (QBw M.k M.J c.id).2.2≠0 then { M with k:=(QBw M.k M.J c.id).1,J:=(QBw M.k M.J c.id).2.1,os:=M.os++QDc c.id 3 }
 else QRo M c (QBa M.clock (QBw M.k M.J c.id).1 M.lost ⟨5,0,ByteArray.empty,0,c.id⟩) (QBw M.k M.J c.id).2.1
def QDQ(M:GM):GM:=match M.queue with
 | c::qs=>QNl { M with queue:=qs } c
 | []=>QMr M
theorem QfG(l:List QHt)(now:Int) : -1≤QUc l now∧(0≤QUc l now→QUc l now<l.length):=by
 have:=QRs now l l.length (Nat.le_refl _);unfold QUc;omega
theorem MOk.started{M:GM}(h:MOk M)(ma:MaM)(k:Int)(os:List QCh)(hk:0≤k∧k<M.polls.length):MOk { M with poll:=k,ma:=ma,os:=os }:=
 ⟨h.clock,h.keep,h.slots,h.polls,h.tags,h.held,h.al,h.queue,⟨by show (-1:Int)≤k;omega,hk.2⟩,fun _ _=>hk.1⟩
theorem MOk.cmded{M:GM}(h:MOk M)(ma:MaM)(c:QKf)(os:List QCh):MOk { M with cmd:=some c,ma:=ma,os:=os }:=
 ⟨h.clock,h.keep,h.slots,h.polls,h.tags,h.held,h.al,h.queue,h.poll,fun _ q=>by cases q⟩
theorem MOk.popped{M:GM}{c:QKf}{qs:List QKf}(h:MOk M)(hq:M.queue=c::qs):MOk { M with queue:=qs }∧Qa0 c:=by
 have hl:=h.queue.1;rw[hq,List.length_cons]at hl;exact⟨⟨h.clock,h.keep,h.slots,h.polls,h.tags,h.held,h.al,⟨by show qs.length≤8;omega,fun x hx=>h.queue.2 x (by rw[hq];exact List.mem_cons_of_mem _ hx)⟩,h.poll,h.busy⟩,h.queue.2 c (by rw[hq];exact List.mem_cons_self ..)⟩
theorem QW6(g:Nat)(a:GwA)(M:GM)(hM:MOk M)(hok:M.ok=true)(hos:M.os.length≤900000) :
  CtP QCf Pr 233 [.pointer (some ⟨g,0,none⟩)] (.tup []) [] (GwL g a M) GTab
  (fun _ Bs=>(QDQ M).ok=true∧MOk (QDQ M)∧∃a',a'.dev=a.dev∧Bs=GwL g a' (QDQ M))
  (fun Bs=>(QDQ M).ok=false∧MOk (QDQ M)∧∃a',a'.dev=a.dev∧Bs=GwL g a' (QDQ M)):=by
 refine QdU (QDU _) fun B hr=>?_;haveI:=QKc hr;obtain⟨N,hN⟩:∃N,QDQ M=N:=⟨_,rfl⟩;rw[hN];unfold QDQ at hN;unfold QDU mfP;dsimp only
 have hqn:∀(f:QBh),QQA a.queue M.queue f→M.queue.length=a.queue.n∧a.queue.n≤a.queue.c:=fun f hf=>by
  obtain⟨rs,hl,x,y,⟨zs,hx⟩,_⟩:=hf;exact⟨by rw[←hl];exact hx.read.1,hx.cap⟩
 refine QCC 10 (P1:=QQA a.queue M.queue) hqn fun ⟨hqn,hqc⟩=>?_;refine xgf (h:=QAB (fun h=>?_) (fun h=>?_))
 ·obtain⟨c,qs,hq⟩:∃c qs,M.queue=c::qs:=by
   have h:(a.queue.n:Int)>0:=h
   cases hq:M.queue with
   | nil=>rw[hq,List.length_nil]at hqn;omega
   | cons c qs=>exact⟨c,qs,rfl⟩
  obtain⟨hM0,hcw,hc20⟩:=hM.popped hq;rw[hq]at hN hqn;rw[List.length_cons]at hqn;simp only at hN;refine QFu 10 (P1:=QQA a.queue M.queue) (fun Bs=>Bs=[QQA a.queue (c::qs)]) (fun f hf=>⟨_,rfl,QCd (hq ▸ hf)⟩) ?_;rintro _ rfl;refine QA8 ?_;refine xgf (h:=Qhf (s:=a.queue) (c:=c) (qs:=qs) fun so ss sp rs hrs=>?_);have h0:((c,so,ss,sp)::rs)[0]? = some (c,so,ss,sp):=rfl;refine QAI (E:=CE) (xs:=(c,so,ss,sp)::rs) (s:=a.queue) (k:=0) (h1:=by simp) (h:=fun _ _=>?_);refine QAO (E:=CE) (xs:=(c,so,ss,sp)::rs) h0 (h:=?_);iterate 7 (refine QAb (E:=CE) (xs:=(c,so,ss,sp)::rs) h0 (h:=?_))
  (try dsimp only)
  refine QAL fun b=>?_;iterate 8 (refine xsq ?_)
  refine xgf (h:=?_);refine QEf (by omega) (by show (1:Int)≤(a.queue.n:Int);omega) (by show (a.queue.n:Int)≤(a.queue.c:Int);omega) (by show (a.queue.c:Int)≤(a.queue.c:Int);omega) ?_;simp only[Int.toNat_natCast];refine QAW [Ar CE a.queue ((c,so,ss,sp)::rs)] (QAf (Q:=Ar CE (a.queue.cut (Int.toNat 1) a.queue.n a.queue.c 8) rs) 0 (fun f hf=>?_) ?_)
  ·obtain⟨z,hz⟩:=hf;have:=Ars.dropc hz 1 (by simp);exact⟨z,this⟩
  generalize a.queue.cut (Int.toNat 1) a.queue.n a.queue.c 8=q';refine QBR [Ar CE q' rs,Each QF7 rs qs] (QQA q' qs) (fun f hf=>⟨rs,hrs,hf⟩) ?_;refine xgs (cOf { a with queue:=q' } M) (h:=?_);unfold QNl at hN;refine QAP (xgf (h:=xgq ?_));refine xcl (QTo a.dev a.log a.idx a.jr M.k M.J c.id) rdb ?_;rintro⟨e,_⟩ _ ⟨he,rfl⟩;simp only at he;subst he;refine QBM (ca1 (QRx (fun he=>xif (fun h0=>?_) (fun h0=>?_)) (fun he=>?_)))
  ·rw[if_neg he,if_pos (bne_iff_ne.1 h0)]at hN;refine xgq ?_;refine xd0 (QDP g (cOf { a with queue:=q' } M) M.os (by omega) c.id 3) ?_;subst hN;exact QAM (GwL g { a with queue:=q' } { M with queue:=qs,k:=(QBw M.k M.J c.id).1,J:=(QBw M.k M.J c.id).2.1,os:=M.os++QDc c.id 3 }) (QAE ⟨hok,hM0.core _ _ _ _ _ _,{ a with queue:=q' },rfl,rfl⟩)
  ·rw[if_neg he,if_neg (by simpa using h0)]at hN;refine xgq ?_;have hns:=QFP g (cOf { a with queue:=q' } M) M.os (QBw M.k M.J c.id).1 ⟨5,0,ByteArray.empty,0,c.id⟩ (show (0:Nat)≤1000000 by decide);generalize hnk:QBa (cOf { a with queue:=q' } M).clock (QBw M.k M.J c.id).1 (cOf { a with queue:=q' } M).lost ⟨5,0,ByteArray.empty,0,c.id⟩=nk at hns;rw[show QBa M.clock (QBw M.k M.J c.id).1 M.lost ⟨5,0,ByteArray.empty,0,c.id⟩=nk from hnk]at hN;unfold QRo at hN;have hM1:MOk { M with queue:=qs,k:=nk.k,lost:=nk.lost,J:=(QBw M.k M.J c.id).2.1 }:=hM0.core nk.k nk.lost (QBw M.k M.J c.id).2.1 M.m M.os M.ok;refine QSL hns rdb ?_ ?_
   ·rintro _ _ ⟨hno,rfl⟩;rw[if_pos hno]at hN;refine QBM (ca0 (QAP (xgf (h:=xgf (h:=?_)))));iterate 4 (refine xgq ?_)
    refine QAA (s:=.slice) (x:=so) (hv:=rfl) (h:=QAA (s:=.slice) (x:=ss) (hv:=rfl) (h:=QAA (s:=.slice) (x:=sp) (hv:=rfl) (h:=?_)));refine xcl (QIT a.line M.ma M.clock c.unit c.a hcw hc20 so ss sp) rdb ?_;unfold QYj at hN;simp only at hN;rintro⟨s10,(r2:Int),_⟩ _ ⟨hr2,hor⟩;simp only at hr2;subst hr2;rcases hor with⟨hz,rfl⟩|⟨hz,hs,rfl⟩
    ·rw[if_pos hz]at hN;rw[hz];refine QBM (ca2 (QAJ (QBk rfl (xgs (cOf { a with queue:=q',cmd:=some ⟨b,0,none⟩ } { M with lost:=nk.lost }) (h:=?_)))));refine xd0 (QI8 g (cOf { a with queue:=q',cmd:=some ⟨b,0,none⟩ } { M with lost:=nk.lost }) M.os (by omega) 1 s10 (QCJ M.ma M.clock c.unit c.a).fr) ?_;refine QBR [Blk b (cmC c so ss sp),Ar BL so c.a.on,Ar W16 ss c.a.set,Ar PaE sp c.a.parts] (QXz (some ⟨b,0,none⟩) (some c)) (fun f hf=>⟨b,so,ss,sp,rfl,hf⟩) ?_;subst hN;exact QAM (GwL g { a with queue:=q',cmd:=some ⟨b,0,none⟩ } { M with queue:=qs,k:=nk.k,lost:=nk.lost,J:=(QBw M.k M.J c.id).2.1,cmd:=some c,ma:=QCJ M.ma M.clock c.unit c.a,os:=M.os++[(1,(QCJ M.ma M.clock c.unit c.a).fr)] }) (QAE ⟨hok,hM1.cmded _ _ _,{ a with queue:=q',cmd:=some ⟨b,0,none⟩ },rfl,rfl⟩)
    ·rw[if_neg hz]at hN;refine QA8 (ca2 (QAJ (QBF (Qdj hz) ?_)));subst hN;exact QAM (GwL g { a with queue:=q' } { M with queue:=qs,k:=nk.k,lost:=nk.lost,J:=(QBw M.k M.J c.id).2.1 }) (QAE ⟨hok,hM1,{ a with queue:=q' },rfl,rfl⟩)
   ·rintro _ ⟨hno,rfl⟩;rw[if_neg (by rw[hno];decide)]at hN;subst hN;exact QBM (QAM (GwL g { a with queue:=q' } { M with queue:=qs,k:=nk.k,lost:=nk.lost,J:=(QBw M.k M.J c.id).2.1,ok:=false }) (QTl ⟨rfl,hM0.core nk.k nk.lost (QBw M.k M.J c.id).2.1 M.m M.os false,{ a with queue:=q' },rfl,rfl⟩))
  ·rw[if_pos he]at hN;subst hN;exact QAM (GwL g { a with queue:=q' } { M with queue:=qs,k:=(QBw M.k M.J c.id).1,J:=(QBw M.k M.J c.id).2.1,ok:=false }) (QTl ⟨rfl,hM0.core _ _ _ _ _ _,{ a with queue:=q' },rfl,rfl⟩)
 ·have hq:M.queue=[]:=List.eq_nil_of_length_eq_zero (by have:¬(a.queue.n:Int)>0:=h;omega);rw[show (match M.queue with|c::qs=>QNl { M with queue:=qs } c|[]=>QMr M)=QMr M by rw[hq]]at hN;unfold QMr at hN;refine QAP (xgf (h:=xgf (h:=?_)));refine xd1 (QRn a.slots M.slots M.clock (by have:=hM.slots;have:=hM.polls;omega)) ?_;have hdi:=QfG M.slots M.clock
  generalize QUc M.slots M.clock=k at *
  refine QAB (fun hk=>?_) (fun hk=>?_)
  ·rw[if_pos hk]at hN;subst hN;exact QAM (GwL g a M) (QAE ⟨hok,hM,a,rfl,rfl⟩)
  rw[if_neg hk]at hN;obtain⟨kn,rfl⟩:=Int.eq_ofNat_of_zero_le (show 0≤k by omega);rw[Int.toNat_natCast]at hN
  have hkl:kn<M.polls.length:=by have:=hM.slots;omega
  have hpo:M.polls[kn]? = some (M.polls.getD kn Pn.poll0):=gdE hkl
  generalize M.polls.getD kn Pn.poll0=p at *
  refine xgf (h:=Qdq (s:=a.polls) hpo fun rows sl hrr hrq=>?_);have hrl:=(List.getElem?_eq_some_iff.1 hrq).1;refine QAI (E:=Pn.PR) (xs:=rows) (s:=a.polls) (k:=kn) (h1:=hrl) (h:=fun _ _=>?_);refine QAO (E:=Pn.PR) (xs:=rows) hrq (h:=?_);iterate 5 (refine QAb (E:=Pn.PR) (xs:=rows) hrq (h:=?_))
  (try dsimp only)
  refine xcl (Pn.Ask_spec p sl) rdb ?_;rintro _ _ ⟨rfl,rfl⟩;refine QAz (ca7 (QAL fun b1=>?_));iterate 6 (refine xsq ?_)
  refine QAP (xgf (h:=xgf (h:=xgf (h:=?_))));refine QAI (E:=Pn.PR) (xs:=rows) (s:=a.polls) (k:=kn) (h1:=hrl) (h:=fun _ _=>?_);refine QAO (E:=Pn.PR) (xs:=rows) hrq (h:=?_)
  (try dsimp only)
  iterate 3 (refine xgq ?_)
  iterate 3 (refine xgS (h:=?_))
  refine QU5 (s:=a.polls) hrr hrq ?_;refine xcl (QIT a.line M.ma M.clock p.unit (QGo p) (fun v h=>by cases h) (QQO p) nilS nilS nilS) rdb ?_;rintro⟨s10,(r2:Int),_⟩ _ ⟨hr2,hor⟩;simp only at hr2;subst hr2;rcases hor with⟨hz,rfl⟩|⟨hz,hs,rfl⟩
  ·rw[if_pos hz]at hN;rw[hz];refine QBM (ca2 (QAJ (QBk rfl (xgs (cOf a { M with poll:=(kn:Int) }) (h:=?_)))));refine xd0 (QI8 g (cOf a { M with poll:=(kn:Int) }) M.os (by omega) 1 s10 (QCJ M.ma M.clock p.unit (QGo p)).fr) ?_;subst hN;exact QAM (GwL g a { M with poll:=(kn:Int),ma:=QCJ M.ma M.clock p.unit (QGo p),os:=M.os++[(1,(QCJ M.ma M.clock p.unit (QGo p)).fr)] }) (QAE ⟨hok,hM.started _ _ _ ⟨by omega,by omega⟩,a,rfl,rfl⟩)
  ·rw[if_neg hz]at hN;refine QA8 (ca2 (QAJ (QBF (Qdj hz) ?_)));subst hN;exact QAM (GwL g a M) (QAE ⟨hok,hM,a,rfl,rfl⟩)
end Go.Cx
