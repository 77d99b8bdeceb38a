import Derived.Test.YthbhbkjkclhkgaaGreatDoorG1
import Derived.Test.YthbhbkjkclhkgaaGreatDoorPLN
namespace Go.Cx
open Go Go.Cf
set_option linter.unusedVariables false
set_option maxRecDepth 100000
variable {B:QBE}{As F:List HP}
def HLT:Enc QLG:=⟨fun x=>[.bool x.has,.I x.value,.I x.at_],3,fun _=>rfl,fun x v h=>by simp at h;rcases h with rfl|rfl|rfl<;>rfl,by decide,⟨false,0,0⟩⟩
def ALT:Enc AlV:=⟨fun x=>[.I x.state,.bool x.waits],2,fun _=>rfl,fun x v h=>by simp at h;rcases h with rfl|rfl<;>rfl,by decide,⟨0,false⟩⟩
abbrev QgF(t:Pn.Tag):List Value:=[.string t.name,.I t.unit,.I t.kind,.I t.addr,.I t.every,.bool t.wide,.bool t.sgn,.bool t.swap,.I t.mul,.I t.div,.I t.add,.I t.dead,.I t.quiet,.bool t.ulow,.bool t.uhigh,.bool t.latch,.I t.low,.I t.high,.I t.hyst]
def QaW(t:Pn.Tag):QgA:=⟨t.ulow,t.uhigh,t.latch,t.low,t.high,t.hyst⟩
def QF7(v:Int):UInt16:=UInt16.ofNat v.toNat
theorem QZC{v:Int}(h0:0≤v)(h1:v≤65535):((QF7 v).toNat:Int)=v:=by
 unfold QF7;rw[UInt16.toNat_ofNat'];omega
theorem Qde{s:Sl}{vs:List Int}(hw:QNP vs){h:QBe}(hr:RAr W16 s vs h):RAr Pn.U16 s (vs.map QF7) h:=by
 obtain⟨h1,h2⟩:=hr;refine⟨by simpa using h1,?_⟩
 have e:QAf Pn.U16 (vs.map QF7)=QAf W16 vs:=by
  clear h1 h2
  induction vs with
  | nil=>rfl
  | cons v vs ih=>
   have hv:=hw v (by simp);have ih:=ih fun x hx=>hw x (by simp[hx]);show Pn.U16.f (QF7 v)++QAf Pn.U16 (vs.map QF7)=W16.f v++QAf W16 vs;rw[ih];show [Value.int .u16 ((QF7 v).toNat:Int)]++_=[Value.int .u16 v]++_;rw[QZC hv.1 hv.2]
 rw[e];exact h2
theorem QbQ{t:Pn.Tag}(h:Pn.tagE t=0):(0≤t.dead∧t.dead≤1099511627776)∧(0≤t.quiet∧t.quiet≤1099511627776)∧t.name.size≤16:=by
 unfold Pn.tagE at h
 have itc:∀{x y:Int},(if x≠0 then x else y)=0→x=0∧y=0:=fun {x y} h=>by
  by_cases hx:x=0
  ·rw[if_neg (by rw[hx];decide)]at h;exact⟨hx,h⟩
  ·rw[if_pos hx]at h;exact absurd h hx
 obtain⟨n1,h⟩:=QGR (by decide) h;obtain⟨_,h⟩:=QGR (by decide) h;obtain⟨_,h⟩:=QGR (by decide) h;obtain⟨_,h⟩:=QGR (by decide) h;obtain⟨_,h⟩:=QGR (by decide) h;obtain⟨_,h⟩:=itc h;obtain⟨_,h⟩:=QGR (by decide) h;obtain⟨hb,_⟩:=itc h;unfold Pn.bandE at hb
 have nb:¬(t.dead<0∨t.dead>1099511627776∨t.quiet<0∨t.quiet>1099511627776):=fun q=>by
  rw[if_pos q]at hb;cases hb
 have n1:QEQ t.name=true:=by simpa using n1
 unfold QEQ at n1;simp only[Bool.and_eq_true,decide_eq_true_eq]at n1;exact⟨by omega,by omega,n1.1.2⟩
theorem QcN(ts:List Pn.Tag)(p:Pn.Poll)(on:List Bool)(ws:List UInt16):∀(ks:List Int) (out l:List Int) (e:Int),Pn.goV ts p on ws ks out=(l,e)→l=[]∨∃vs,l=out++vs∧vs.length=ks.length∧∀(i:Nat) (k:Int),ks[i]? = some k→∃t,Pn.tagAt ts k=some t∧vs[i]? = some (Pn.valueM t p on ws)
 | [],out,l,e,h=>by
  obtain⟨rfl,rfl⟩:=Prod.mk.inj h;exact .inr ⟨[],by simp,rfl,fun i k hk=>by simp at hk⟩
 | k::ks,out,l,e,h=>by
  unfold Pn.goV at h;split at h
  ·obtain⟨rfl,rfl⟩:=Prod.mk.inj h;exact .inl rfl
  rename_i t ht
  split at h
  ·rcases QcN ts p on ws ks _ l e h with q|⟨vs,q1,q2,q3⟩
   ·exact .inl q
   ·refine .inr ⟨Pn.valueM t p on ws::vs,by rw[q1];simp,by simp[q2],fun i k' hk=>?_⟩
    match i with
    | 0=>
     have:k=k':=by simpa using hk
     exact⟨t,this ▸ ht,rfl⟩
    | i+1=>exact q3 i k' (by simpa using hk)
  ·obtain⟨rfl,rfl⟩:=Prod.mk.inj h;exact .inl rfl
theorem QWw(t:Pn.Tag)(p:Pn.Poll)(on:List Bool)(ws:List UInt16):i64 (Pn.valueM t p on ws):=by
 unfold Pn.valueM;split
 ·split<;>exact⟨by decide,by decide⟩
 ·unfold Pn.valN Pn.clampV;split
  ·exact⟨by decide,by decide⟩
  split
  ·exact⟨by decide,by decide⟩
  ·exact⟨by omega,by omega⟩
structure VS where
 k:Kn
 lost:Int
 held:List QLG
 al:List AlV
 ok:Bool
def QOj(clock:Int)(s:VS)(i:Nat)(t:Pn.Tag)(v:Int):VS:=
 let h:=QFb t.dead t.quiet (s.held.getD i ⟨false,0,0⟩) v clock
 if h.2=true then ⟨(QBn clock s.k s.lost ⟨1,0,t.name,v,0⟩).k,(QBn clock s.k s.lost ⟨1,0,t.name,v,0⟩).lost,s.held.set i h.1,s.al,(QBn clock s.k s.lost ⟨1,0,t.name,v,0⟩).ok⟩ else s
def QUy(clock:Int)(s:VS)(i:Nat)(t:Pn.Tag)(v:Int):VS:=
 let a:=QKM (QaW t) (s.al.getD i ⟨0,false⟩) v
 if a.2≠0 then ⟨(QBn clock s.k s.lost ⟨2,0,t.name,a.2,0⟩).k,(QBn clock s.k s.lost ⟨2,0,t.name,a.2,0⟩).lost,s.held,s.al.set i a.1,(QBn clock s.k s.lost ⟨2,0,t.name,a.2,0⟩).ok⟩ else { s with al:=s.al.set i a.1 }
def QF6(clock:Int)(ts:List Pn.Tag)(s:VS)(k v:Int):VS:=match Pn.tagAt ts k with
 | none=>s
 | some t=>if (QOj clock s k.toNat t v).ok=true then QUy clock (QOj clock s k.toNat t v) k.toNat t v else QOj clock s k.toNat t v
def QHC(clock:Int)(ts:List Pn.Tag):List Int→List Int→VS→VS
 | k::ks,v::vs,s=>if (QF6 clock ts s k v).ok=true then QHC clock ts ks vs (QF6 clock ts s k v) else QF6 clock ts s k v
 | _,_,s=>s
def QCg(clock:Int)(ts:List Pn.Tag)(p:Pn.Poll)(r:RepV)(s:VS):VS:=QHC clock ts p.tags (Pn.valuesM ts p r.exc r.on (r.set.map QF7) r.files.length).1 s
def HeldOk(l:List QLG):Prop:=∀h∈l,i64 h.value∧i64 h.at_
theorem HeldOk.set{l:List QLG}(h:HeldOk l)(i:Nat){x:QLG}(hx:i64 x.value∧i64 x.at_):HeldOk (l.set i x):=fun y hy=>by
 rcases List.mem_or_eq_of_mem_set hy with q|q
 ·exact h y q
 ·rw[q];exact hx
theorem Qbm{d q:Int}{h:QLG}{v now:Int}(hh:i64 h.value∧i64 h.at_)(hv:i64 v)(hn:i64 now):i64 (QFb d q h v now).1.value∧i64 (QFb d q h v now).1.at_:=by
 unfold QFb
 (repeat' split)<;>first|exact⟨hv,hn⟩|exact hh
abbrev VsP(g:Nat)(c:GwC)(os:List QCS)(s:VS):List HP:=[GwB g (c.withLost s.lost) os,QA7 c.dev c.log c.idx s.k,Ar HLT c.held s.held,Ar ALT c.alarms s.al]
theorem QTr(g:Nat)(c:GwC)(os:List QCS)(ts:List Pn.Tag)(p:Pn.Poll)(sp:Sl)(r:RepV)(r1 r2 r3:Sl)(hr3:r3.n=r.files.length)(hw:QNP r.set)(hc:r2.n≤r2.c)(htl:p.tags.length≤1000000)(s:VS)
  (hl:c.lost=s.lost) (hok:s.ok=true) (hlen:s.held.length=ts.length∧s.al.length=ts.length) (hh:HeldOk s.held) (hn:i64 c.clock) :
  CtP QCl Pr 239 [.pointer (some ⟨g,0,none⟩),.agg #[.I p.unit,.I p.kind,.I p.addr,.I p.count,.I p.every,sp.v],Qdp r.exc r1 r2 r3] (.tup []) [] [GwB g c os,QA7 c.dev c.log c.idx s.k,Ar HLT c.held s.held,Ar ALT c.alarms s.al]
  (GTab.and ((RAr Pn.TG c.tags ts).and ((RAr I64 sp p.tags).and ((RAr BL r1 r.on).and (RAr W16 r2 r.set)))))
  (fun _ Bs=>(QCg c.clock ts p r s).ok=true∧HeldOk (QCg c.clock ts p r s).held∧((QCg c.clock ts p r s).held.length=ts.length∧(QCg c.clock ts p r s).al.length=ts.length)∧Bs=VsP g c os (QCg c.clock ts p r s))
  (fun Bs=>(QCg c.clock ts p r s).ok=false∧HeldOk (QCg c.clock ts p r s).held∧((QCg c.clock ts p r s).held.length=ts.length∧(QCg c.clock ts p r s).al.length=ts.length)∧Bs=VsP g c os (QCg c.clock ts p r s)):=by
 refine QdA (QDC _ _ _ _ _ _ _ _ _ _ _) fun B hr=>?_;obtain⟨hg,h1,h2,h3,h4⟩:=hr;haveI:=QKI hg;haveI:Fro B c.tags Pn.TG ts:=⟨h1⟩;haveI:Fro B sp I64 p.tags:=⟨h2⟩;haveI:Fro B r1 BL r.on:=⟨h3⟩;haveI:Fro B r2 Pn.U16 (r.set.map QF7):=⟨Qde hw h4⟩;obtain⟨N,hN⟩:∃N,QCg c.clock ts p r s=N:=⟨_,rfl⟩;rw[hN];unfold QCg at hN;unfold QDC mfP;dsimp only;refine QAL fun b=>QAL fun b1=>QAO (xgf (h:=?_));iterate 5 (refine xgq ?_)
 refine QAE (s:=.slice) (x:=sp) (hv:=rfl) (h:=xgq (QAE (s:=.slice) (x:=r1) (hv:=rfl) (h:=QAE (s:=.slice) (x:=r2) (hv:=rfl) (h:=QAE (s:=.slice) (x:=r3) (hv:=rfl) (h:=?_)))));refine xcl (Pn.Values_spec c.tags ts p sp r.exc r1 r2 r3 r.on (r.set.map QF7) hc htl) rdb ?_;rw[hr3]
 have hall:(Pn.valuesM ts p r.exc r.on (r.set.map QF7) r.files.length).1≠[]→(Pn.allE ts).1=0:=fun hne=>by
  refine Classical.byContradiction fun q=>hne ?_;unfold Pn.valuesM;rw[if_pos q]
 have hgo:(Pn.valuesM ts p r.exc r.on (r.set.map QF7) r.files.length).1=[]∨((Pn.valuesM ts p r.exc r.on (r.set.map QF7) r.files.length).1.length=p.tags.length∧∀(i:Nat) (k:Int),p.tags[i]? = some k→∃t,Pn.tagAt ts k=some t∧(Pn.valuesM ts p r.exc r.on (r.set.map QF7) r.files.length).1[i]? = some (Pn.valueM t p r.on (r.set.map QF7))):=by
  unfold Pn.valuesM
  (repeat' split)<;>try exact .inl rfl
  rcases QcN ts p r.on (r.set.map QF7) p.tags [] _ _ rfl with q|⟨vs,q1,q2,q3⟩
  ·exact .inl q
  ·rw[List.nil_append]at q1;rw[q1];exact .inr ⟨q2,q3⟩
 generalize Pn.valuesM ts p r.exc r.on (r.set.map QF7) r.files.length=VM at *
 obtain⟨l,e⟩:=VM;rintro⟨s5,(e':Int),_⟩ _ ⟨_,rfl⟩;simp only at hall hgo hN⊢;refine QA5 (ca2 ?_);refine QCm (E:=I64) (xs:=l) s5 fun hsn _=>?_
 have hlb : l.length ≤ 1000000 := by rcases hgo with q|q
                                     · rw[q];decide
                                     · rw[q.1];exact htl
 rw[show GwB g c os=GwB g (c.withLost s.lost) os by rw[←hl]];refine QAK (Ar I64 s5 l::Blk b [.I p.unit,.I p.kind,.I p.addr,.I p.count,.I p.every,sp.v]::VsP g c os s) ?_;refine QBP (fun n (x:Int) As'=>∃(i:Nat) (t:VS),x=(i:Int)∧n=l.length - i∧i≤l.length∧t.ok=true∧(t.held.length=ts.length∧t.al.length=ts.length)∧HeldOk t.held∧QHC c.clock ts p.tags l s=QHC c.clock ts (p.tags.drop i) (l.drop i) t∧As'=Ar I64 s5 l::Blk b [.I p.unit,.I p.kind,.I p.addr,.I p.count,.I p.every,sp.v]::VsP g c os t) l.length ⟨0,s,rfl,rfl,by omega,hok,hlen,hh,rfl,rfl⟩ ?_;rintro n x As' K ⟨i,t,rfl,rfl,hi,hto,htlen,hth,hfold,rfl⟩ hK;refine QAA (fun h=>?_) (fun h=>?_)
 case refine_2=>
  rw[List.drop_of_length_le (show l.length≤i by omega)]at hfold
  have:QHC c.clock ts (p.tags.drop i) [] t=t:=by
   cases p.tags.drop i<;>rfl
  rw[this]at hfold;rw[hfold]at hN;subst hN;exact QAK (VsP g c os t) (QAD ⟨hto,hth,htlen,rfl⟩)
 have hlt:i<l.length:=by omega
 have hne:l≠[]:=fun q=>by rw[q]at hlt;cases hlt
 have hall:=hall hne;obtain⟨hpl,hgo⟩:=hgo.resolve_left hne;obtain⟨k,hk⟩:∃k,p.tags[i]? = some k:=⟨_,List.getElem?_eq_getElem (by omega)⟩;obtain⟨tg,htg,hv⟩:=hgo i k hk;have hvi:=QWw tg p r.on (r.set.map QF7)
 generalize Pn.valueM tg p r.on (r.set.map QF7)=v at *
 have hk0:0≤k∧ts[k.toNat]? = some tg:=by
  unfold Pn.tagAt at htg;split at htg
  ·cases htg
  ·exact⟨by omega,htg⟩
 obtain⟨hk0,htk⟩:=hk0;have hklt:k.toNat<ts.length:=(List.getElem?_eq_some_iff.1 htk).1;obtain⟨hb1,hb2,hnm⟩:=QbQ (Pn.allE_tag hall htk)
 have hdrop1:p.tags.drop i=k::p.tags.drop (i+1):=by rw[List.drop_eq_getElem_cons (by omega)];congr 1;exact (List.getElem?_eq_some_iff.1 hk).2
 have hdrop2:l.drop i=v::l.drop (i+1):=by rw[List.drop_eq_getElem_cons hlt];congr 1;exact (List.getElem?_eq_some_iff.1 hv).2
 rw[hdrop1,hdrop2,QHC]at hfold
 have hkn:((k.toNat:Nat):Int)=k:=by omega
 have hstep:QF6 c.clock ts t k v=if (QOj c.clock t k.toNat tg v).ok=true then QUy c.clock (QOj c.clock t k.toNat tg v) k.toNat tg v else QOj c.clock t k.toNat tg v:=by unfold QF6;rw[htg]
 have bad:∀{t':VS},QF6 c.clock ts t k v=t'→t'.ok=false→N=t':=fun {t'} h1 h2=>by
  rw[h1,if_neg (by rw[h2];decide)]at hfold;rw[←hN,hfold]
 have good:∀{t':VS},QF6 c.clock ts t k v=t'→t'.ok=true→QHC c.clock ts p.tags l s=QHC c.clock ts (p.tags.drop (i+1)) (l.drop (i+1)) t':=fun h1 h2=>by
  rw[h1,if_pos h2]at hfold;exact hfold
 refine QAH (E:=I64) (xs:=l) (s:=s5) (k:=i) (h1:=hlt) (h:=fun _ _=>?_);refine QAN (E:=I64) (xs:=l) (i:=i) hv (h:=QAE (s:=.slice) (x:=sp) (hv:=rfl) (h:=?_));refine QAH (E:=I64) (xs:=p.tags) (s:=sp) (k:=i) (h1:=by omega) (h:=fun _ _=>?_);refine QAN (E:=I64) (xs:=p.tags) (i:=i) hk (h:=xgf (h:=?_));rw[←hkn];refine QAH (E:=Pn.TG) (xs:=ts) (s:=c.tags) (k:=k.toNat) (h1:=hklt) (h:=fun _ _=>?_);refine QAN (E:=Pn.TG) (xs:=ts) htk (h:=?_);iterate 18 (refine QAZ (E:=Pn.TG) (xs:=ts) htk (h:=?_))
 refine QAL fun b2=>?_;iterate 19 (refine xsq ?_)
 refine QAO (xgq (xgq (xgf (h:=?_))));have hh0:t.held[k.toNat]? = some (t.held.getD k.toNat ⟨false,0,0⟩):=gdE (by omega);have hhi:i64 (t.held.getD k.toNat ⟨false,0,0⟩).value∧i64 (t.held.getD k.toNat ⟨false,0,0⟩).at_:=hth _ (List.mem_of_getElem? hh0)
 have hbS:∀q,QFb tg.dead tg.quiet (t.held.getD k.toNat ⟨false,0,0⟩) v c.clock=q→QOj c.clock t k.toNat tg v=if q.2=true then ⟨(QBn c.clock t.k t.lost ⟨1,0,tg.name,v,0⟩).k,(QBn c.clock t.k t.lost ⟨1,0,tg.name,v,0⟩).lost,t.held.set k.toNat q.1,t.al,(QBn c.clock t.k t.lost ⟨1,0,tg.name,v,0⟩).ok⟩ else t:=fun q hq=>by unfold QOj;rw[hq]
 have hbi:=Qbm (d:=tg.dead) (q:=tg.quiet) hhi hvi hn;have hbs:=QO7 tg.dead tg.quiet (t.held.getD k.toNat ⟨false,0,0⟩) v c.clock ⟨by omega,by omega⟩ ⟨by omega,by omega⟩ hhi hvi hn
 generalize t.held.getD k.toNat ⟨false,0,0⟩=h0 at *
 generalize hq:QFb tg.dead tg.quiet h0 v c.clock=q at *
 replace hbS:=hbS q rfl
 obtain⟨q1,q2⟩:=q;simp only at hbS hbi hbs;refine QAH (E:=HLT) (xs:=t.held) (s:=c.held) (k:=k.toNat) (h1:=by omega) (h:=fun _ _=>?_);refine QAN (E:=HLT) (xs:=t.held) hh0 (h:=?_);iterate 2 (refine QAZ (E:=HLT) (xs:=t.held) hh0 (h:=?_))
 have hcl:c.withLost t.lost=c.withLost t.lost:=rfl
 have hdone:∀{u:VS}{R:List HP},QF6 c.clock ts t k v=u→u.ok=true→HeldOk u.held→u.held.length=ts.length∧u.al.length=ts.length→Ent B (Ar I64 s5 l::Blk b [.I p.unit,.I p.kind,.I p.addr,.I p.count,.I p.every,sp.v]::(VsP g c os u++R)) (K (IntKind.i64.wrap ((i:Int)+1))):=by
  intro u R h1 h2 h3 h4;rw[QAF i (by omega)];exact QAa (l:=Ar I64 s5 l::Blk b [.I p.unit,.I p.kind,.I p.addr,.I p.count,.I p.every,sp.v]::VsP g c os u) (hK (l.length - (i+1)) _ _ (by omega) ⟨i+1,u,rfl,rfl,by omega,h2,h4,h3,good h1 h2,rfl⟩)
 have hpan:∀{u:VS}{R:List HP},QF6 c.clock ts t k v=u→u.ok=false→HeldOk u.held→u.held.length=ts.length∧u.al.length=ts.length→Ent B (VsP g c os u++R) (Qcf B fun Bs=>N.ok=false∧HeldOk N.held∧(N.held.length=ts.length∧N.al.length=ts.length)∧Bs=VsP g c os N):=by
  intro u R h1 h2 h3 h4;rw[bad h1 h2];exact QAa (l:=VsP g c os u) (QTk ⟨h2,h3,h4,rfl⟩)
 refine xgf (h:=QXT ?_ (QAL fun b3=>?_))
 all_goals
  refine xcl hbs rdb ?_;rintro _ _ ⟨rfl,rfl⟩;first|refine QAy (Qdx (QAL fun b3=>?_))|refine QAy (Qdx ?_)
  iterate 3 (refine xsq ?_)
  refine QBu (fun As'=>∃u:VS,QOj c.clock t k.toNat tg v=u∧u.ok=true∧HeldOk u.held∧(u.held.length=ts.length∧u.al.length=ts.length)∧As'=Blk b2 (QgF tg)::Ar I64 s5 l::Blk b [.I p.unit,.I p.kind,.I p.addr,.I p.count,.I p.every,sp.v]::VsP g c os u) (fun K1 hK1=>?_) ?_
  ·refine xif (fun h8=>?_) (fun h8=>?_)
   ·rw[if_pos h8]at hbS;refine QAO (xgf (h:=xgq (xgq (xgq ?_))));refine QAH (E:=HLT) (xs:=t.held) (s:=c.held) (k:=k.toNat) (h1:=by omega) (h:=fun _ _=>?_);refine QHd (E:=HLT) ⟨q1.has,h0.value,h0.at_⟩ hh0 (hv:=rfl) (h:=?_);refine QCx (E:=HLT) (xs:=t.held.set k.toNat ⟨q1.has,h0.value,h0.at_⟩) ⟨q1.has,q1.value,h0.at_⟩ (List.getElem?_set_self (by omega)) (hj:=by decide) (hv:=rfl) (h:=?_);refine QCx (E:=HLT) (xs:=(t.held.set k.toNat ⟨q1.has,h0.value,h0.at_⟩).set k.toNat ⟨q1.has,q1.value,h0.at_⟩) q1 (List.getElem?_set_self (by rw[List.length_set];omega)) (hj:=by decide) (hv:=rfl) (h:=?_);rw[List.set_set,List.set_set];refine xgq ?_;have hns:=QFJ g (c.withLost t.lost) os t.k ⟨1,0,tg.name,v,0⟩ (show tg.name.size≤1000000 by omega);generalize hnk:QBn (c.withLost t.lost).clock t.k (c.withLost t.lost).lost ⟨1,0,tg.name,v,0⟩=nk at hns;rw[show QBn c.clock t.k t.lost ⟨1,0,tg.name,v,0⟩=nk from hnk]at hbS;have hho:HeldOk (t.held.set k.toNat q1):=hth.set _ hbi;refine QST hns rdb ?_ ?_
    ·rintro _ _ ⟨hno,rfl⟩;refine QBM (ca0 ?_);exact QAK (Blk b2 (QgF tg)::Ar I64 s5 l::Blk b [.I p.unit,.I p.kind,.I p.addr,.I p.count,.I p.every,sp.v]::VsP g c os ⟨nk.k,nk.lost,t.held.set k.toNat q1,t.al,nk.ok⟩) (hK1 _ ⟨_,hbS,hno,hho,⟨by rw[List.length_set];exact htlen.1,htlen.2⟩,rfl⟩)
    ·rintro _ ⟨hno,rfl⟩;rw[hbS,if_neg (show ¬nk.ok=true by rw[hno];decide)]at hstep;refine QBM (QAU (VsP g c os ⟨nk.k,nk.lost,t.held.set k.toNat q1,t.al,nk.ok⟩) ?_);exact hpan hstep hno hho ⟨by rw[List.length_set];exact htlen.1,htlen.2⟩
   ·rw[if_neg (by rw[h8];decide)]at hbS;exact QAK (Blk b2 (QgF tg)::Ar I64 s5 l::Blk b [.I p.unit,.I p.kind,.I p.addr,.I p.count,.I p.every,sp.v]::VsP g c os t) (hK1 _ ⟨t,hbS,hto,hth,htlen,rfl⟩)
  rintro _ ⟨u,hbu,huok,huh,hulen,rfl⟩;rw[hbu,if_pos huok]at hstep;have ha0:u.al[k.toNat]? = some (u.al.getD k.toNat ⟨0,false⟩):=gdE (by omega)
  have haS:∀q,QKM (QaW tg) (u.al.getD k.toNat ⟨0,false⟩) v=q→QUy c.clock u k.toNat tg v=if q.2≠0 then ⟨(QBn c.clock u.k u.lost ⟨2,0,tg.name,q.2,0⟩).k,(QBn c.clock u.k u.lost ⟨2,0,tg.name,q.2,0⟩).lost,u.held,u.al.set k.toNat q.1,(QBn c.clock u.k u.lost ⟨2,0,tg.name,q.2,0⟩).ok⟩ else { u with al:=u.al.set k.toNat q.1 }:=fun q hq=>by unfold QUy;rw[hq]
  have has:=QNM (QaW tg) (u.al.getD k.toNat ⟨0,false⟩) v
  generalize u.al.getD k.toNat ⟨0,false⟩=a0 at *
  generalize hq:QKM (QaW tg) a0 v=qa at *
  replace haS:=haS qa rfl
  obtain⟨qa1,qa2⟩:=qa;simp only at haS has;refine QAO ?_;iterate 6 (refine xgq ?_)
  refine xgf (h:=?_);refine QAH (E:=ALT) (xs:=u.al) (s:=c.alarms) (k:=k.toNat) (h1:=by omega) (h:=fun _ _=>?_);refine QAN (E:=ALT) (xs:=u.al) ha0 (h:=QAZ (E:=ALT) (xs:=u.al) ha0 (h:=?_));refine QXT ?_ (QAL fun b4=>?_)
  all_goals
   refine xcl has rdb ?_;rintro _ _ ⟨rfl,rfl⟩;first|refine QAy (ca3 (QAL fun b4=>?_))|refine QAy (ca3 ?_)
   iterate 2 (refine xsq ?_)
   refine QAO (xgf (h:=xgq (xgq ?_)));refine QAH (E:=ALT) (xs:=u.al) (s:=c.alarms) (k:=k.toNat) (h1:=by omega) (h:=fun _ _=>?_);refine QHd (E:=ALT) ⟨qa1.state,a0.waits⟩ ha0 (hv:=rfl) (h:=?_);refine QCx (E:=ALT) (xs:=u.al.set k.toNat ⟨qa1.state,a0.waits⟩) qa1 (List.getElem?_set_self (by omega)) (hj:=by decide) (hv:=rfl) (h:=?_);rw[List.set_set];have hle:u.held.length=ts.length∧(u.al.set k.toNat qa1).length=ts.length:=⟨hulen.1,by rw[List.length_set];exact hulen.2⟩;refine QAJ (xif (fun h9=>?_) (fun h9=>?_))
   ·rw[if_pos (bne_iff_ne.1 h9)]at haS;refine xgq ?_;have hns:=QFJ g (c.withLost u.lost) os u.k ⟨2,0,tg.name,qa2,0⟩ (show tg.name.size≤1000000 by omega);generalize hnk:QBn (c.withLost u.lost).clock u.k (c.withLost u.lost).lost ⟨2,0,tg.name,qa2,0⟩=nk at hns;rw[show QBn c.clock u.k u.lost ⟨2,0,tg.name,qa2,0⟩=nk from hnk]at haS;rw[haS]at hstep;refine QST hns rdb ?_ ?_
    ·rintro _ _ ⟨hno,rfl⟩;refine QBM (ca0 ?_);refine QAU (Ar I64 s5 l::Blk b [.I p.unit,.I p.kind,.I p.addr,.I p.count,.I p.every,sp.v]::VsP g c os ⟨nk.k,nk.lost,u.held,u.al.set k.toNat qa1,nk.ok⟩) ?_;exact hdone hstep hno huh hle
    ·rintro _ ⟨hno,rfl⟩;refine QBM (QAU (VsP g c os ⟨nk.k,nk.lost,u.held,u.al.set k.toNat qa1,nk.ok⟩) ?_);exact hpan hstep hno huh hle
   ·rw[if_neg (by simpa using h9)]at haS;rw[haS]at hstep;refine QAU (Ar I64 s5 l::Blk b [.I p.unit,.I p.kind,.I p.addr,.I p.count,.I p.every,sp.v]::VsP g c os { u with al:=u.al.set k.toNat qa1 }) ?_;exact hdone hstep huok huh hle
abbrev Qds:=QKZ×Sl×Sl×Sl
def CE:Enc Qds:=⟨fun x=>cmC x.1 x.2.1 x.2.2.1 x.2.2.2,8,fun _=>rfl,fun x v h=>by simp at h;rcases h with rfl|rfl|rfl|rfl|rfl|rfl|rfl|rfl<;>rfl,by decide,(QZ7,nilS,nilS,nilS)⟩
def QFk(r:Qds)(c:QKZ):HP:=fun h=>r.1=c∧QBl [Ar BL r.2.1 c.a.on,Ar W16 r.2.2.1 c.a.set,Ar PaE r.2.2.2 c.a.parts] h
def QQB(s:Sl)(qs:List QKZ):HP:=fun h=>∃rs:List Qds,rs.length=qs.length∧QBl [Ar CE s rs,Each QFk rs qs] h
def QXi(q:Option Addr):Option QKZ→HP
 | none=>fun _=>q=none
 | some c=>fun h=>∃b so ss sp,q=some ⟨b,0,none⟩∧QBl [Blk b (cmC c so ss sp),Ar BL so c.a.on,Ar W16 ss c.a.set,Ar PaE sp c.a.parts] h
structure GM where
 timeout:Int
 retries:Int
 window:Int
 resend:Int
 span:Int
 keep:Int
 ts:List Pn.Tag
 k:Kn
 saved:Int
 acked:Int
 epoch:Int
 boots:Int
 J:Od.JM
 m:SeM
 ma:MaM
 polls:List Pn.Poll
 slots:List QH5
 held:List QLG
 al:List AlV
 queue:List QKZ
 poll:Int
 cmd:Option QKZ
 clock:Int
 lost:Int
 stopped:Bool
 os:List QCS
 ok:Bool
structure GwA where
 tags:Sl
 dev:Option Addr
 log:Option Addr
 idx:Option Addr
 jr:Option Addr
 up:Option Addr
 line:Option Addr
 polls:Sl
 slots:Sl
 held:Sl
 alarms:Sl
 queue:Sl
 cmd:Option Addr
abbrev cOf(a:GwA)(M:GM):GwC:=⟨M.timeout,M.retries,M.window,M.resend,M.span,M.keep,a.tags,a.dev,a.log,a.idx,M.saved,M.acked,M.epoch,M.boots,a.jr,a.up,a.line,a.polls,a.slots,a.held,a.alarms,a.queue,M.poll,a.cmd,M.clock,M.lost,M.stopped⟩
abbrev GwL(g:Nat)(a:GwA)(M:GM):List HP:=[GwB g (cOf a M) M.os,QA7 a.dev a.log a.idx M.k,Od.JObj a.dev a.jr M.J,QBA a.up M.m,QA3 a.line M.ma,Ar Pn.TG a.tags M.ts,Pn.OPolls a.polls M.polls,Ar SLT a.slots M.slots,Ar HLT a.held M.held,Ar ALT a.alarms M.al,QQB a.queue M.queue,QXi a.cmd M.cmd]
def QaO(c:QKZ):Prop:=QNP c.a.set∧c.a.code≠20
structure MOk(M:GM):Prop where
 clock:0≤M.clock∧M.clock≤1099511627776
 keep:i64 M.keep
 slots:M.slots.length=M.polls.length
 polls:M.polls.length≤64
 tags:∀p∈M.polls,p.tags.length≤64
 held:M.held.length=M.ts.length∧HeldOk M.held
 al:M.al.length=M.ts.length
 queue:M.queue.length≤8∧∀c∈M.queue,QaO c
 poll : -1≤M.poll∧M.poll<M.polls.length
 busy:0<M.ma.tries→M.cmd=none→0≤M.poll
theorem QdP{s:Sl}{ps:List Pn.Poll}{k:Nat}{p:Pn.Poll}(hk:ps[k]? = some p){φ:WP}[f:Find (Pn.OPolls s ps) As F]
  (h:∀rows sl,rows.map Prod.fst=ps→rows[k]? = some (p,sl)→Ent B (Ar I64 sl p.tags::Each Pn.EP (rows.eraseIdx k) (rows.eraseIdx k)::Ar Pn.PR s rows::F) φ):Ent B As φ:=by
 refine Ent.perm f.perm (QFI 0 (P1:=Pn.OPolls s ps) (fun Bs=>∃rows,rows.map Prod.fst=ps∧Bs=[Ar Pn.PR s rows,Each Pn.EP rows rows]) (fun g hg=>?_) ?_)
 ·obtain⟨rows,hr,hs⟩:=hg;exact⟨_,⟨rows,hr,rfl⟩,hs⟩
 rintro _ ⟨rows,hr,rfl⟩
 have hlt:k<rows.length:=by
  have:=(List.getElem?_eq_some_iff.1 hk).1;rw[←hr]at this;simpa using this
 obtain⟨⟨q1,sl⟩,hq⟩:∃q,rows[k]? = some q:=⟨_,List.getElem?_eq_getElem hlt⟩
 have hq1:q1=p:=by
  rw[←hr,List.getElem?_map,hq]at hk;simpa using hk
 subst hq1;refine QBM (QFI 1 (P1:=Each Pn.EP rows rows) (fun Bs=>Bs=[Ar I64 sl q1.tags,Each Pn.EP (rows.eraseIdx k) (rows.eraseIdx k)]) (fun g hg=>⟨_,rfl,QCI hg hq hq⟩) ?_);rintro _ rfl;exact QBM (h rows sl hr hq)
theorem QVH{s:Sl}{ps:List Pn.Poll}{k:Nat}{p:Pn.Poll}{rows:List (Pn.Poll×Sl)}{sl:Sl}(hr:rows.map Prod.fst=ps)(hq:rows[k]? = some (p,sl)){G:List HP}[sp:Split [Ar I64 sl p.tags,Each Pn.EP (rows.eraseIdx k) (rows.eraseIdx k),Ar Pn.PR s rows] As G]{φ:WP}
  (h:Ent B (Pn.OPolls s ps::G) φ):Ent B As φ:=by
 refine Ent.perm sp.perm (QQA ?_);have hlt:=(List.getElem?_eq_some_iff.1 hq).1;refine QBQ [Ar I64 sl p.tags,Each Pn.EP (rows.eraseIdx k) (rows.eraseIdx k)] (Each Pn.EP rows rows) (fun g hg=>?_) ?_
 ·have:=QDP (R:=Pn.EP) (x:=(p,sl)) (y:=(p,sl)) hlt hlt hg
  rwa [show rows.set k (p,sl)=rows by rw[←(List.getElem?_eq_some_iff.1 hq).2,List.set_getElem_self]]at this
 exact QBQ [Ar Pn.PR s rows,Each Pn.EP rows rows] (Pn.OPolls s ps) (fun g hg=>⟨rows,hr,hg⟩) h
abbrev withV(M:GM)(v:VS):GM:={ M with k:=v.k,lost:=v.lost,held:=v.held,al:=v.al,ok:=v.ok }
def QRw(M:GM)(o:QXR):GM:=
 if o.what=1 then withV { M with cmd:=none,poll:=-1 } (QCg M.clock M.ts (M.polls.getD M.poll.toNat Pn.poll0) o.r ⟨M.k,M.lost,M.held,M.al,true⟩) else { M with cmd:=none,poll:=-1 }
abbrev QZ9(M:GM)(k:Nat)(is:Bool):GM:={ M with slots:=M.slots.set k (QLD (M.slots.getD k ⟨0,0,0⟩) M.clock is) }
def QYV(M:GM)(o:QXR):GM:=if (QRw M o).ok=true then QZ9 (QRw M o) M.poll.toNat (o.what == 1) else QRw M o
def QQs(o:QXR):Int:=if o.what=2 then IntKind.i64.wrap (100+o.r.exc) else if o.what=3 then 1 else 0
def QfP(M:GM)(id code:Int)(k:Kn)(J:Od.JM):GM:=
 { M with k:=(QBn M.clock k M.lost ⟨6,0,ByteArray.empty,code,id⟩).k,lost:=(QBn M.clock k M.lost ⟨6,0,ByteArray.empty,code,id⟩).lost,J:=J,ok:=(QBn M.clock k M.lost ⟨6,0,ByteArray.empty,code,id⟩).ok,os:=if (QBn M.clock k M.lost ⟨6,0,ByteArray.empty,code,id⟩).ok=true then M.os++QDg id code else M.os }
def QZa(M:GM)(id code:Int):GM:=
 if (QDh M.k M.J id code).2.2=10 then { M with cmd:=none,poll:=-1,k:=(QDh M.k M.J id code).1,J:=(QDh M.k M.J id code).2.1,ok:=false }
 else if (QDh M.k M.J id code).2.2≠0 then { M with cmd:=none,poll:=-1,k:=(QDh M.k M.J id code).1,J:=(QDh M.k M.J id code).2.1,os:=M.os++QDg id 2 }
 else QfP { M with cmd:=none,poll:=-1 } id code (QDh M.k M.J id code).1 (QDh M.k M.J id code).2.1
def QHa(M:GM)(o:QXR):GM:=match M.cmd with
 | none=>QYV M o
 | some c=>QZa M c.id (QQs o)
theorem MOk.drop{M:GM}(h:MOk M)(ht:M.ma.tries≤0):MOk { M with cmd:=none,poll:=-1 }:=
 ⟨h.clock,h.keep,h.slots,h.polls,h.tags,h.held,h.al,h.queue,⟨Int.le_refl _,by have:=h.poll;show (-1:Int)<M.polls.length;omega⟩,fun q=>by have q:0<M.ma.tries:=q;omega⟩
theorem MOk.withV{M:GM}(h:MOk M)(v:VS)(hh:HeldOk v.held)(hl:v.held.length=M.ts.length∧v.al.length=M.ts.length):MOk (withV M v):=
 ⟨h.clock,h.keep,h.slots,h.polls,h.tags,⟨hl.1,hh⟩,hl.2,h.queue,h.poll,h.busy⟩
theorem MOk.slot{M:GM}(h:MOk M)(k:Nat)(is:Bool):MOk (QZ9 M k is):=
 ⟨h.clock,h.keep,by show (M.slots.set _ _).length=_;rw[List.length_set];exact h.slots,h.polls,h.tags,h.held,h.al,h.queue,h.poll,h.busy⟩
theorem MOk.core{M:GM}(h:MOk M)(k:Kn)(lost:Int)(J:Od.JM)(m:SeM)(os:List QCS)(ok:Bool):MOk { M with k:=k,lost:=lost,J:=J,m:=m,os:=os,ok:=ok }:=
 ⟨h.clock,h.keep,h.slots,h.polls,h.tags,h.held,h.al,h.queue,h.poll,h.busy⟩
abbrev GwA.noCmd(a:GwA):GwA:={ a with cmd:=none }
theorem QOP(g:Nat)(a:GwA)(M:GM)(hM:MOk M)(hok:M.ok=true)(ht:M.ma.tries≤0)(hp:M.cmd=none→0≤M.poll)(hos:M.os.length≤900000)(o:QXR)(hf:o.r.files=[])(hw:QNP o.r.set)(r1 r2:Sl)(hc:r2.n≤r2.c) :
  CtP QCl Pr 151 [.pointer (some ⟨g,0,none⟩),.agg #[.I o.what,.I o.r.exc,r1.v,r2.v,nilS.v,.I o.tries]] (.tup []) [] (GwL g a M)
  (GTab.and ((RAr BL r1 o.r.on).and (RAr W16 r2 o.r.set)))
  (fun _ Bs=>(QHa M o).ok=true∧MOk (QHa M o)∧Bs=GwL g a.noCmd (QHa M o))
  (fun Bs=>(QHa M o).ok=false∧MOk (QHa M o)∧Bs=GwL g a.noCmd (QHa M o)):=by
 refine QdA (QDu _ _ _ _ _ _ _) fun B hr=>?_;obtain⟨hg,h1,h2⟩:=hr;haveI:=QKI hg;haveI:Fro B r1 BL o.r.on:=⟨h1⟩;haveI:Fro B r2 W16 o.r.set:=⟨h2⟩;obtain⟨N,hN⟩:∃N,QHa M o=N:=⟨_,rfl⟩;rw[hN];unfold QHa at hN;unfold QDu mfP;dsimp only;refine QAL fun b=>QAO (xgf (h:=xgf (h:=xgs (cOf a.noCmd M) (h:=xgs (cOf a.noCmd { M with poll:=-1 }) (h:=?_)))))
 cases hcmd:M.cmd with
 | none=>
  rw[hcmd]at hN;simp only at hN;have hp0:=hp hcmd;have hpl:=hM.poll
  have hpk:((M.poll.toNat:Nat):Int)=M.poll:=by omega
  have hklt:M.poll.toNat<M.polls.length:=by omega
  have hpo:M.polls[M.poll.toNat]? = some (M.polls.getD M.poll.toNat Pn.poll0):=gdE hklt;have htag:=hM.tags _ (List.mem_of_getElem? hpo);have hso:∀{l:List QH5},l.length=M.polls.length→l[M.poll.toNat]? = some (l.getD M.poll.toNat ⟨0,0,0⟩):=fun h=>gdE (by omega);refine QBx 12 (P1:=QXi a.cmd none) (fun f hf=>hf) fun hcn=>?_;rw[hcn,show (cOf a M).cmd=none from hcn,show (cOf a M).poll=((M.poll.toNat:Nat):Int) from hpk.symm];refine QBz rfl (xgq ?_);unfold QYV at hN;have hM0:=hM.drop ht;refine QBu (fun As'=>∃u:GM,QRw M o=u∧u.ok=true∧MOk u∧(u.slots.length=M.polls.length∧u.clock=M.clock)∧As'=Blk b [.I o.what,.I o.r.exc,r1.v,r2.v,nilS.v,.I o.tries]::GwL g a.noCmd u) (fun K hK=>?_) ?_
  ·unfold QRw at hN hK;refine xif (fun hw1=>?_) (fun hw1=>?_)
   ·rw[if_pos (eq_of_beq hw1)]at hN hK;refine QAO (xgf (h:=?_));refine QdP (s:=a.polls) hpo fun rows sl hrr hrq=>?_
    generalize M.polls.getD M.poll.toNat Pn.poll0=p at *
    refine QAH (E:=Pn.PR) (xs:=rows) (s:=a.polls) (k:=M.poll.toNat) (h1:=(List.getElem?_eq_some_iff.1 hrq).1) (h:=fun _ _=>?_);refine QAN (E:=Pn.PR) (xs:=rows) hrq (h:=?_);iterate 5 (refine QAZ (E:=Pn.PR) (xs:=rows) hrq (h:=?_))
    refine xgq (QAE (s:=.slice) (x:=r1) (hv:=rfl) (h:=QAE (s:=.slice) (x:=r2) (hv:=rfl) (h:=xgS (h:=?_))));have hvs:=QTr g (cOf a.noCmd { M with cmd:=none,poll:=-1 }) M.os M.ts p sl o.r r1 r2 nilS (by rw[hf];rfl) hw hc (by omega) ⟨M.k,M.lost,M.held,M.al,true⟩ rfl rfl ⟨hM.held.1,hM.al⟩ hM.held.2 ⟨by have:=hM.clock;show _≤M.clock;omega,by have:=hM.clock;show M.clock≤_;omega⟩;generalize hv:QCg (cOf a.noCmd { M with cmd:=none,poll:=-1 }).clock M.ts p o.r ⟨M.k,M.lost,M.held,M.al,true⟩=v at hvs;rw[show QCg M.clock M.ts p o.r ⟨M.k,M.lost,M.held,M.al,true⟩=v from hv]at hN hK;refine QST hvs rdb ?_ ?_
    ·rintro _ _ ⟨hvok,hvh,hvl,rfl⟩;refine Qc4 (ca0 (QVH (s:=a.polls) hrr hrq ?_));refine QAU (Blk b [.I o.what,.I o.r.exc,r1.v,r2.v,nilS.v,.I o.tries]::GwL g a.noCmd (withV { M with cmd:=none,poll:=-1 } v)) ?_;exact QAa (l:=Blk b [.I o.what,.I o.r.exc,r1.v,r2.v,nilS.v,.I o.tries]::GwL g a.noCmd (withV { M with cmd:=none,poll:=-1 } v)) (hK _ ⟨_,rfl,hvok,hM0.withV v hvh hvl,⟨hM.slots,rfl⟩,rfl⟩)
    ·rintro _ ⟨hvok,hvh,hvl,rfl⟩;rw[if_neg (show ¬v.ok=true by rw[hvok];decide)]at hN;subst hN;refine Qc4 (QVH (s:=a.polls) hrr hrq ?_);exact QAK (GwL g a.noCmd (withV { M with cmd:=none,poll:=-1 } v)) (QTk ⟨hvok,hM0.withV v hvh hvl,rfl⟩)
   ·rw[if_neg (ne_of_beq_false hw1)]at hN hK;exact QAK (Blk b [.I o.what,.I o.r.exc,r1.v,r2.v,nilS.v,.I o.tries]::GwL g a.noCmd { M with cmd:=none,poll:=-1 }) (hK _ ⟨_,rfl,hok,hM0,⟨hM.slots,rfl⟩,rfl⟩)
  ·rintro _ ⟨u,hu,huok,huM,⟨hul,huc⟩,rfl⟩;rw[hu,if_pos huok]at hN;have hs0:=hso hul;unfold QZ9 at hN;have hdn:=QPu (u.slots.getD M.poll.toNat ⟨0,0,0⟩) u.clock (o.what == 1)
   generalize hsd:u.slots.getD M.poll.toNat ⟨0,0,0⟩=s0 at *
   generalize hd:QLD s0 u.clock (o.what == 1)=d at *
   refine QAO (xgf (h:=xgf (h:=?_)));refine QAH (E:=SLT) (xs:=u.slots) (s:=a.slots) (k:=M.poll.toNat) (h1:=by omega) (h:=fun _ _=>?_);refine QAN (E:=SLT) (xs:=u.slots) hs0 (h:=?_);iterate 2 (refine QAZ (E:=SLT) (xs:=u.slots) hs0 (h:=?_))
   refine xgf (h:=xgq ?_);refine xcl hdn rdb ?_;rintro _ _ ⟨rfl,rfl⟩;refine QAy (ca3 (xgc (h:=?_)));refine QAH (E:=SLT) (xs:=u.slots) (s:=a.slots) (k:=M.poll.toNat) (h1:=by omega) (h:=fun _ _=>?_);refine QHd (E:=SLT) ⟨d.every,s0.next,s0.fails⟩ hs0 (hv:=rfl) (h:=?_);refine QCx (E:=SLT) (xs:=u.slots.set M.poll.toNat ⟨d.every,s0.next,s0.fails⟩) ⟨d.every,d.next,s0.fails⟩ (List.getElem?_set_self (by omega)) (hj:=by decide) (hv:=rfl) (h:=?_);refine QCx (E:=SLT) (xs:=(u.slots.set M.poll.toNat ⟨d.every,s0.next,s0.fails⟩).set M.poll.toNat ⟨d.every,d.next,s0.fails⟩) d (List.getElem?_set_self (by rw[List.length_set];omega)) (hj:=by decide) (hv:=rfl) (h:=?_);rw[List.set_set,List.set_set];have hMs:=huM.slot M.poll.toNat (o.what == 1);unfold QZ9 at hMs;rw[hsd,hd]at hMs;subst hN;exact QAK (GwL g a.noCmd { u with slots:=u.slots.set M.poll.toNat d }) (QAD ⟨huok,hMs,rfl⟩)
 | some c=>
  rw[hcmd]at hN;simp only at hN;refine QFI 12 (P1:=QXi a.cmd (some c)) (fun Bs=>∃b0 so ss sp,a.cmd=some ⟨b0,0,none⟩∧Bs=[Blk b0 (cmC c so ss sp),Ar BL so c.a.on,Ar W16 ss c.a.set,Ar PaE sp c.a.parts]) (fun f hf=>?_) ?_
  ·obtain⟨b0,so,ss,sp,h1,h2⟩:=hf;exact⟨_,⟨b0,so,ss,sp,h1,rfl⟩,h2⟩
  rintro _ ⟨b0,so,ss,sp,hac,rfl⟩;rw[show (cOf a M).cmd=some ⟨b0,0,none⟩ from hac];have hM0:=hM.drop ht;refine Qc4 (QBF rfl (xgq ?_));refine QBQ [] (QXi none none) (fun _ _=>rfl) ?_;unfold QZa at hN;refine QAS (fun(x:Int) As'=>x=QQs o∧As'=Blk b [.I o.what,.I o.r.exc,r1.v,r2.v,nilS.v,.I o.tries]::Blk b0 (cmC c so ss sp)::GwL g a.noCmd { M with cmd:=none,poll:=-1 }) (fun K hK=>?_) ?_
  ·unfold QQs at hK;refine xif (fun h=>?_) (fun h=>QAJ (xif (fun h2=>?_) (fun h2=>?_)))
   ·rw[if_pos (eq_of_beq h)]at hK;refine xgq ?_;exact QAK (Blk b [.I o.what,.I o.r.exc,r1.v,r2.v,nilS.v,.I o.tries]::Blk b0 (cmC c so ss sp)::GwL g a.noCmd { M with cmd:=none,poll:=-1 }) (hK _ _ ⟨rfl,rfl⟩)
   ·rw[if_neg (ne_of_beq_false h),if_pos (eq_of_beq h2)]at hK;exact QAK (Blk b [.I o.what,.I o.r.exc,r1.v,r2.v,nilS.v,.I o.tries]::Blk b0 (cmC c so ss sp)::GwL g a.noCmd { M with cmd:=none,poll:=-1 }) (hK _ _ ⟨rfl,rfl⟩)
   ·rw[if_neg (ne_of_beq_false h),if_neg (ne_of_beq_false h2)]at hK;exact QAK (Blk b [.I o.what,.I o.r.exc,r1.v,r2.v,nilS.v,.I o.tries]::Blk b0 (cmC c so ss sp)::GwL g a.noCmd { M with cmd:=none,poll:=-1 }) (hK _ _ ⟨rfl,rfl⟩)
  rintro _ _ ⟨rfl,rfl⟩
  generalize QQs o=code at *
  refine QAO (xgf (h:=QAQ (xgq ?_)));refine xcl (QQ4 a.dev a.log a.idx a.jr M.k M.J c.id code) rdb ?_;rintro⟨e,_⟩ _ ⟨he,rfl⟩;simp only at he;subst he;refine QBM (ca1 (QQ8 (fun he=>xif (fun h0=>?_) (fun h0=>?_)) (fun he=>?_)))
  ·rw[if_neg he,if_pos (bne_iff_ne.1 h0)]at hN;refine QAQ (xgq ?_);refine xd0 (QDU g (cOf a.noCmd { M with cmd:=none,poll:=-1 }) M.os (by omega) c.id 2) ?_;subst hN;exact QAK (GwL g a.noCmd { M with cmd:=none,poll:=-1,k:=(QDh M.k M.J c.id code).1,J:=(QDh M.k M.J c.id code).2.1,os:=M.os++QDg c.id 2 }) (QAD ⟨hok,hM0.core _ _ _ _ _ _,rfl⟩)
  ·rw[if_neg he,if_neg (by simpa using h0)]at hN;refine QAQ (xgq ?_);have hns:=QFJ g (cOf a.noCmd { M with cmd:=none,poll:=-1 }) M.os (QDh M.k M.J c.id code).1 ⟨6,0,ByteArray.empty,code,c.id⟩ (show (0:Nat)≤1000000 by decide);generalize hnk:QBn (cOf a.noCmd { M with cmd:=none,poll:=-1 }).clock (QDh M.k M.J c.id code).1 (cOf a.noCmd { M with cmd:=none,poll:=-1 }).lost ⟨6,0,ByteArray.empty,code,c.id⟩=nk at hns;unfold QfP at hN;simp only at hN;rw[show QBn M.clock (QDh M.k M.J c.id code).1 M.lost ⟨6,0,ByteArray.empty,code,c.id⟩=nk from hnk]at hN;refine QST hns rdb ?_ ?_
   ·rintro _ _ ⟨hno,rfl⟩;rw[if_pos hno]at hN;refine QBM (ca0 (QAQ (xgq ?_)));refine xd0 (QDU g ((cOf a.noCmd { M with cmd:=none,poll:=-1 }).withLost nk.lost) M.os (by omega) c.id code) ?_;subst hN;exact QAK (GwL g a.noCmd { M with cmd:=none,poll:=-1,k:=nk.k,lost:=nk.lost,J:=(QDh M.k M.J c.id code).2.1,ok:=nk.ok,os:=M.os++QDg c.id code }) (QAD ⟨hno,hM0.core _ _ _ _ _ _,rfl⟩)
   ·rintro _ ⟨hno,rfl⟩;rw[if_neg (by rw[hno];decide)]at hN;subst hN;exact QBM (QAK (GwL g a.noCmd { M with cmd:=none,poll:=-1,k:=nk.k,lost:=nk.lost,J:=(QDh M.k M.J c.id code).2.1,ok:=nk.ok,os:=M.os }) (QTk ⟨hno,hM0.core _ _ _ _ _ _,rfl⟩))
  ·rw[if_pos he]at hN;subst hN;exact QAK (GwL g a.noCmd { M with cmd:=none,poll:=-1,k:=(QDh M.k M.J c.id code).1,J:=(QDh M.k M.J c.id code).2.1,ok:=false }) (QTk ⟨rfl,hM0.core _ _ _ _ _ _,rfl⟩)
theorem Qg0{s:Sl}{c:QKZ}{qs:List QKZ}{φ:WP}[f:Find (QQB s (c::qs)) As F]
  (h:∀so ss sp rs,rs.length=qs.length→Ent B (Ar BL so c.a.on::Ar W16 ss c.a.set::Ar PaE sp c.a.parts::Each QFk rs qs::Ar CE s ((c,so,ss,sp)::rs)::F) φ):Ent B As φ:=by
 refine Ent.perm f.perm (QFI 0 (P1:=QQB s (c::qs)) (fun Bs=>∃r0 rs,rs.length=qs.length∧Bs=[Ar CE s (r0::rs),Each QFk (r0::rs) (c::qs)]) (fun g hg=>?_) ?_)
 ·obtain⟨rs,hr,hs⟩:=hg
  cases rs with
  | nil=>simp at hr
  | cons r0 rs=>exact⟨_,⟨r0,rs,by simpa using hr,rfl⟩,hs⟩
 rintro _ ⟨r0,rs,hr,rfl⟩;refine QBM (QFI 1 (P1:=Each QFk (r0::rs) (c::qs)) (fun Bs=>Bs=[QFk r0 c,Each QFk rs qs]) (fun g hg=>⟨_,rfl,hg⟩) ?_);rintro _ rfl;refine QBM (QFI 0 (P1:=QFk r0 c) (fun Bs=>r0.1=c∧Bs=[Ar BL r0.2.1 c.a.on,Ar W16 r0.2.2.1 c.a.set,Ar PaE r0.2.2.2 c.a.parts]) (fun g hg=>⟨_,⟨hg.1,rfl⟩,hg.2⟩) ?_);rintro _ ⟨rfl,rfl⟩;exact QQA (h r0.2.1 r0.2.2.1 r0.2.2.2 rs hr)
abbrev QGs(p:Pn.Poll):AskV:=⟨(Pn.askR p).1,(Pn.askR p).2.1,(Pn.askR p).2.2,[],[],[]⟩
theorem QQp(p:Pn.Poll):(QGs p).code≠20:=by
 show (Pn.askR p).1≠20;unfold Pn.askR;split
 ·rename_i h
  have:=Pn.ask_ok h;simp only;omega
 ·decide
def QLl(M:GM):GM:=
 if QUZ M.slots M.clock<0 then M
 else if QLn M.ma M.clock (M.polls.getD (QUZ M.slots M.clock).toNat Pn.poll0).unit (QGs (M.polls.getD (QUZ M.slots M.clock).toNat Pn.poll0))=0 then
  { M with poll:=QUZ M.slots M.clock,ma:=QCG M.ma M.clock (M.polls.getD (QUZ M.slots M.clock).toNat Pn.poll0).unit (QGs (M.polls.getD (QUZ M.slots M.clock).toNat Pn.poll0)),os:=M.os++[(1,(QCG M.ma M.clock (M.polls.getD (QUZ M.slots M.clock).toNat Pn.poll0).unit (QGs (M.polls.getD (QUZ M.slots M.clock).toNat Pn.poll0))).fr)] }
 else M
def QY1(M:GM)(c:QKZ):GM:=if QLn M.ma M.clock c.unit c.a=0 then { M with cmd:=some c,ma:=QCG M.ma M.clock c.unit c.a,os:=M.os++[(1,(QCG M.ma M.clock c.unit c.a).fr)] } else M
def QR8(M:GM)(c:QKZ)(n:QdW)(J:Od.JM):GM:=if n.ok=true then QY1 { M with k:=n.k,lost:=n.lost,J:=J } c else { M with k:=n.k,lost:=n.lost,J:=J,ok:=false }
def QOJ(M:GM)(c:QKZ):GM:=
 if (QBv M.k M.J c.id).2.2=10 then { M with k:=(QBv M.k M.J c.id).1,J:=(QBv M.k M.J c.id).2.1,ok:=false }
 else if (QBv M.k M.J c.id).2.2≠0 then { M with k:=(QBv M.k M.J c.id).1,J:=(QBv M.k M.J c.id).2.1,os:=M.os++QDg c.id 3 }
 else QR8 M c (QBn M.clock (QBv M.k M.J c.id).1 M.lost ⟨5,0,ByteArray.empty,0,c.id⟩) (QBv M.k M.J c.id).2.1
def QDb(M:GM):GM:=match M.queue with
 | c::qs=>QOJ { M with queue:=qs } c
 | []=>QLl M
theorem QfA(l:List QH5)(now:Int) : -1≤QUZ l now∧(0≤QUZ l now→QUZ l now<l.length):=by
 have:=QQe now l l.length (Nat.le_refl _);unfold QUZ;omega
theorem MOk.started{M:GM}(h:MOk M)(ma:MaM)(k:Int)(os:List QCS)(hk:0≤k∧k<M.polls.length):MOk { M with poll:=k,ma:=ma,os:=os }:=
 ⟨h.clock,h.keep,h.slots,h.polls,h.tags,h.held,h.al,h.queue,⟨by show (-1:Int)≤k;omega,hk.2⟩,fun _ _=>hk.1⟩
theorem MOk.cmded{M:GM}(h:MOk M)(ma:MaM)(c:QKZ)(os:List QCS):MOk { M with cmd:=some c,ma:=ma,os:=os }:=
 ⟨h.clock,h.keep,h.slots,h.polls,h.tags,h.held,h.al,h.queue,h.poll,fun _ q=>by cases q⟩
theorem MOk.popped{M:GM}{c:QKZ}{qs:List QKZ}(h:MOk M)(hq:M.queue=c::qs):MOk { M with queue:=qs }∧QaO c:=by
 have hl:=h.queue.1;rw[hq,List.length_cons]at hl;exact⟨⟨h.clock,h.keep,h.slots,h.polls,h.tags,h.held,h.al,⟨by show qs.length≤8;omega,fun x hx=>h.queue.2 x (by rw[hq];exact List.mem_cons_of_mem _ hx)⟩,h.poll,h.busy⟩,h.queue.2 c (by rw[hq];exact List.mem_cons_self ..)⟩
theorem QWA(g:Nat)(a:GwA)(M:GM)(hM:MOk M)(hok:M.ok=true)(hos:M.os.length≤900000) :
  CtP QCl Pr 233 [.pointer (some ⟨g,0,none⟩)] (.tup []) [] (GwL g a M) GTab
  (fun _ Bs=>(QDb M).ok=true∧MOk (QDb M)∧∃a',a'.dev=a.dev∧Bs=GwL g a' (QDb M))
  (fun Bs=>(QDb M).ok=false∧MOk (QDb M)∧∃a',a'.dev=a.dev∧Bs=GwL g a' (QDb M)):=by
 refine QdA (QDQ _) fun B hr=>?_;haveI:=QKI hr;obtain⟨N,hN⟩:∃N,QDb M=N:=⟨_,rfl⟩;rw[hN];unfold QDb at hN;unfold QDQ mfP;dsimp only
 have hqn:∀(f:QBe),QQB a.queue M.queue f→M.queue.length=a.queue.n∧a.queue.n≤a.queue.c:=fun f hf=>by
  obtain⟨rs,hl,x,y,⟨zs,hx⟩,_⟩:=hf;exact⟨by rw[←hl];exact hx.read.1,hx.cap⟩
 refine QBx 10 (P1:=QQB a.queue M.queue) hqn fun ⟨hqn,hqc⟩=>?_;refine xgf (h:=QAA (fun h=>?_) (fun h=>?_))
 ·obtain⟨c,qs,hq⟩:∃c qs,M.queue=c::qs:=by
   have h:(a.queue.n:Int)>0:=h
   cases hq:M.queue with
   | nil=>rw[hq,List.length_nil]at hqn;omega
   | cons c qs=>exact⟨c,qs,rfl⟩
  obtain⟨hM0,hcw,hc20⟩:=hM.popped hq;rw[hq]at hN hqn;rw[List.length_cons]at hqn;simp only at hN;refine QFI 10 (P1:=QQB a.queue M.queue) (fun Bs=>Bs=[QQB a.queue (c::qs)]) (fun f hf=>⟨_,rfl,QCh (hq ▸ hf)⟩) ?_;rintro _ rfl;refine QA5 ?_;refine xgf (h:=Qg0 (s:=a.queue) (c:=c) (qs:=qs) fun so ss sp rs hrs=>?_);have h0:((c,so,ss,sp)::rs)[0]? = some (c,so,ss,sp):=rfl;refine QAH (E:=CE) (xs:=(c,so,ss,sp)::rs) (s:=a.queue) (k:=0) (h1:=by simp) (h:=fun _ _=>?_);refine QAN (E:=CE) (xs:=(c,so,ss,sp)::rs) h0 (h:=?_);iterate 7 (refine QAZ (E:=CE) (xs:=(c,so,ss,sp)::rs) h0 (h:=?_))
  (try dsimp only)
  refine QAL fun b=>?_;iterate 8 (refine xsq ?_)
  refine xgf (h:=?_);refine QEh (by omega) (by show (1:Int)≤(a.queue.n:Int);omega) (by show (a.queue.n:Int)≤(a.queue.c:Int);omega) (by show (a.queue.c:Int)≤(a.queue.c:Int);omega) ?_;simp only[Int.toNat_natCast];refine QAU [Ar CE a.queue ((c,so,ss,sp)::rs)] (QAe (Q:=Ar CE (a.queue.cut (Int.toNat 1) a.queue.n a.queue.c 8) rs) 0 (fun f hf=>?_) ?_)
  ·obtain⟨z,hz⟩:=hf;have:=Ars.dropc hz 1 (by simp);exact⟨z,this⟩
  generalize a.queue.cut (Int.toNat 1) a.queue.n a.queue.c 8=q';refine QBQ [Ar CE q' rs,Each QFk rs qs] (QQB q' qs) (fun f hf=>⟨rs,hrs,hf⟩) ?_;refine xgs (cOf { a with queue:=q' } M) (h:=?_);unfold QOJ at hN;refine QAO (xgf (h:=xgq ?_));refine xcl (QSi a.dev a.log a.idx a.jr M.k M.J c.id) rdb ?_;rintro⟨e,_⟩ _ ⟨he,rfl⟩;simp only at he;subst he;refine QBM (ca1 (QQ8 (fun he=>xif (fun h0=>?_) (fun h0=>?_)) (fun he=>?_)))
  ·rw[if_neg he,if_pos (bne_iff_ne.1 h0)]at hN;refine xgq ?_;refine xd0 (QDU g (cOf { a with queue:=q' } M) M.os (by omega) c.id 3) ?_;subst hN;exact QAK (GwL g { a with queue:=q' } { M with queue:=qs,k:=(QBv M.k M.J c.id).1,J:=(QBv M.k M.J c.id).2.1,os:=M.os++QDg c.id 3 }) (QAD ⟨hok,hM0.core _ _ _ _ _ _,{ a with queue:=q' },rfl,rfl⟩)
  ·rw[if_neg he,if_neg (by simpa using h0)]at hN;refine xgq ?_;have hns:=QFJ g (cOf { a with queue:=q' } M) M.os (QBv M.k M.J c.id).1 ⟨5,0,ByteArray.empty,0,c.id⟩ (show (0:Nat)≤1000000 by decide);generalize hnk:QBn (cOf { a with queue:=q' } M).clock (QBv M.k M.J c.id).1 (cOf { a with queue:=q' } M).lost ⟨5,0,ByteArray.empty,0,c.id⟩=nk at hns;rw[show QBn M.clock (QBv M.k M.J c.id).1 M.lost ⟨5,0,ByteArray.empty,0,c.id⟩=nk from hnk]at hN;unfold QR8 at hN;have hM1:MOk { M with queue:=qs,k:=nk.k,lost:=nk.lost,J:=(QBv M.k M.J c.id).2.1 }:=hM0.core nk.k nk.lost (QBv M.k M.J c.id).2.1 M.m M.os M.ok;refine QST hns rdb ?_ ?_
   ·rintro _ _ ⟨hno,rfl⟩;rw[if_pos hno]at hN;refine QBM (ca0 (QAO (xgf (h:=xgf (h:=?_)))));iterate 4 (refine xgq ?_)
    refine QAE (s:=.slice) (x:=so) (hv:=rfl) (h:=QAE (s:=.slice) (x:=ss) (hv:=rfl) (h:=QAE (s:=.slice) (x:=sp) (hv:=rfl) (h:=?_)));refine xcl (QIl a.line M.ma M.clock c.unit c.a hcw hc20 so ss sp) rdb ?_;unfold QY1 at hN;simp only at hN;rintro⟨s10,(r2:Int),_⟩ _ ⟨hr2,hor⟩;simp only at hr2;subst hr2;rcases hor with⟨hz,rfl⟩|⟨hz,hs,rfl⟩
    ·rw[if_pos hz]at hN;rw[hz];refine QBM (ca2 (QAJ (QBz rfl (xgs (cOf { a with queue:=q',cmd:=some ⟨b,0,none⟩ } { M with lost:=nk.lost }) (h:=?_)))));refine xd0 (QIn g (cOf { a with queue:=q',cmd:=some ⟨b,0,none⟩ } { M with lost:=nk.lost }) M.os (by omega) 1 s10 (QCG M.ma M.clock c.unit c.a).fr) ?_;refine QBQ [Blk b (cmC c so ss sp),Ar BL so c.a.on,Ar W16 ss c.a.set,Ar PaE sp c.a.parts] (QXi (some ⟨b,0,none⟩) (some c)) (fun f hf=>⟨b,so,ss,sp,rfl,hf⟩) ?_;subst hN;exact QAK (GwL g { a with queue:=q',cmd:=some ⟨b,0,none⟩ } { M with queue:=qs,k:=nk.k,lost:=nk.lost,J:=(QBv M.k M.J c.id).2.1,cmd:=some c,ma:=QCG M.ma M.clock c.unit c.a,os:=M.os++[(1,(QCG M.ma M.clock c.unit c.a).fr)] }) (QAD ⟨hok,hM1.cmded _ _ _,{ a with queue:=q',cmd:=some ⟨b,0,none⟩ },rfl,rfl⟩)
    ·rw[if_neg hz]at hN;refine QA5 (ca2 (QAJ (QBF (Qcy hz) ?_)));subst hN;exact QAK (GwL g { a with queue:=q' } { M with queue:=qs,k:=nk.k,lost:=nk.lost,J:=(QBv M.k M.J c.id).2.1 }) (QAD ⟨hok,hM1,{ a with queue:=q' },rfl,rfl⟩)
   ·rintro _ ⟨hno,rfl⟩;rw[if_neg (by rw[hno];decide)]at hN;subst hN;exact QBM (QAK (GwL g { a with queue:=q' } { M with queue:=qs,k:=nk.k,lost:=nk.lost,J:=(QBv M.k M.J c.id).2.1,ok:=false }) (QTk ⟨rfl,hM0.core nk.k nk.lost (QBv M.k M.J c.id).2.1 M.m M.os false,{ a with queue:=q' },rfl,rfl⟩))
  ·rw[if_pos he]at hN;subst hN;exact QAK (GwL g { a with queue:=q' } { M with queue:=qs,k:=(QBv M.k M.J c.id).1,J:=(QBv M.k M.J c.id).2.1,ok:=false }) (QTk ⟨rfl,hM0.core _ _ _ _ _ _,{ a with queue:=q' },rfl,rfl⟩)
 ·have hq:M.queue=[]:=List.eq_nil_of_length_eq_zero (by have:¬(a.queue.n:Int)>0:=h;omega);rw[show (match M.queue with|c::qs=>QOJ { M with queue:=qs } c|[]=>QLl M)=QLl M by rw[hq]]at hN;unfold QLl at hN;refine QAO (xgf (h:=xgf (h:=?_)));refine xd1 (QR2 a.slots M.slots M.clock (by have:=hM.slots;have:=hM.polls;omega)) ?_;have hdi:=QfA M.slots M.clock
  generalize QUZ M.slots M.clock=k at *
  refine QAA (fun hk=>?_) (fun hk=>?_)
  ·rw[if_pos hk]at hN;subst hN;exact QAK (GwL g a M) (QAD ⟨hok,hM,a,rfl,rfl⟩)
  rw[if_neg hk]at hN;obtain⟨kn,rfl⟩:=Int.eq_ofNat_of_zero_le (show 0≤k by omega);rw[Int.toNat_natCast]at hN
  have hkl:kn<M.polls.length:=by have:=hM.slots;omega
  have hpo:M.polls[kn]? = some (M.polls.getD kn Pn.poll0):=gdE hkl
  generalize M.polls.getD kn Pn.poll0=p at *
  refine xgf (h:=QdP (s:=a.polls) hpo fun rows sl hrr hrq=>?_);have hrl:=(List.getElem?_eq_some_iff.1 hrq).1;refine QAH (E:=Pn.PR) (xs:=rows) (s:=a.polls) (k:=kn) (h1:=hrl) (h:=fun _ _=>?_);refine QAN (E:=Pn.PR) (xs:=rows) hrq (h:=?_);iterate 5 (refine QAZ (E:=Pn.PR) (xs:=rows) hrq (h:=?_))
  (try dsimp only)
  refine xcl (Pn.Ask_spec p sl) rdb ?_;rintro _ _ ⟨rfl,rfl⟩;refine QAy (ca7 (QAL fun b1=>?_));iterate 6 (refine xsq ?_)
  refine QAO (xgf (h:=xgf (h:=xgf (h:=?_))));refine QAH (E:=Pn.PR) (xs:=rows) (s:=a.polls) (k:=kn) (h1:=hrl) (h:=fun _ _=>?_);refine QAN (E:=Pn.PR) (xs:=rows) hrq (h:=?_)
  (try dsimp only)
  iterate 3 (refine xgq ?_)
  iterate 3 (refine xgS (h:=?_))
  refine QVH (s:=a.polls) hrr hrq ?_;refine xcl (QIl a.line M.ma M.clock p.unit (QGs p) (fun v h=>by cases h) (QQp p) nilS nilS nilS) rdb ?_;rintro⟨s10,(r2:Int),_⟩ _ ⟨hr2,hor⟩;simp only at hr2;subst hr2;rcases hor with⟨hz,rfl⟩|⟨hz,hs,rfl⟩
  ·rw[if_pos hz]at hN;rw[hz];refine QBM (ca2 (QAJ (QBz rfl (xgs (cOf a { M with poll:=(kn:Int) }) (h:=?_)))));refine xd0 (QIn g (cOf a { M with poll:=(kn:Int) }) M.os (by omega) 1 s10 (QCG M.ma M.clock p.unit (QGs p)).fr) ?_;subst hN;exact QAK (GwL g a { M with poll:=(kn:Int),ma:=QCG M.ma M.clock p.unit (QGs p),os:=M.os++[(1,(QCG M.ma M.clock p.unit (QGs p)).fr)] }) (QAD ⟨hok,hM.started _ _ _ ⟨by omega,by omega⟩,a,rfl,rfl⟩)
  ·rw[if_neg hz]at hN;refine QA5 (ca2 (QAJ (QBF (Qcy hz) ?_)));subst hN;exact QAK (GwL g a M) (QAD ⟨hok,hM,a,rfl,rfl⟩)
end Go.Cx
