import Derived.Test.YthbhbkjkclhkgaaGreatDoorHY
import Derived.Test.YthbhbkjkclhkgaaGreatDoorA4
import Derived.Laws.BitsAllLaws
namespace Go.Cx
open Go Go.Cf
set_option linter.unusedVariables false
set_option maxRecDepth 100000
variable {B:QBE}{As F:List HP}
structure SeM where
 window:Int
 resend:Int
 epoch:Int
 base:Int
 sent:Int
 top:Int
 since:Int
abbrev SeM.cells(m:SeM):List Value:=[.I m.window,.I m.resend,.I m.epoch,.I m.base,.I m.sent,.I m.top,.I m.since]
structure QSx(m:SeM):Prop where
 window:1≤m.window∧m.window≤16
 resend:1≤m.resend∧m.resend≤1048576
 epoch:1≤m.epoch∧m.epoch≤1099511627776
 base:0≤m.base
 sent:m.base≤m.sent
 top:m.sent≤m.top
 topMax:m.top≤1099511627776
 since:0≤m.since∧m.since≤1099511627776
def QBA(q:Option Addr)(m:SeM):HP:=fun h=>QSx m∧∃b,q=some ⟨b,0,none⟩∧QBl [Blk b m.cells] h
abbrev QG9(window resend epoch base:Int):SeM:=⟨window,resend,epoch,base,base,base,0⟩
def QII(window resend epoch base:Int):Bool:=decide (1≤window)&&decide (window≤16)&&decide (1≤resend)&&decide (resend≤1048576)&&decide (1≤epoch)&&decide (epoch≤1099511627776)&&decide (0≤base)&&decide (base≤1099511627776)
def QJg(m:SeM)(now next:Int):SeM×List Int:=
 if now<0∨now>1099511627776∨next>1099511627776 then (m,[]) else
  let m1:SeM:={ m with top:=if next>m.top then next else m.top }
  let m2:SeM:=if m.sent>m.base∧now≥m.since+m.resend then { m1 with sent:=m.base } else m1
  let many:=(if m.base+m.window<next then m.base+m.window else next) - m2.sent
  if next≤m2.sent∨many≤0 then (m2,[]) else ({ m2 with sent:=m2.sent+many,since:=now },(List.range many.toNat).map fun(i:Nat)=>m2.sent+(i:Int))
def QZ2(m:SeM)(now epoch next:Int):SeM×Bool:=
 if now<0∨now>1099511627776∨epoch≠m.epoch∨next≤m.base∨next>m.top then (m,false)
 else ({ m with base:=next,sent:=if next>m.sent then next else m.sent,since:=now },true)
theorem QNC(n lo hi:Int):Ct Pr 121 [.I n,.I lo,.I hi] .one [.bool] [] emp (fun t Bs=>t.1=(decide (n≥lo)&&decide (n≤hi))∧Bs=[]):=by
 refine sp1 (QI3 _ _ _) fun B _=>?_;unfold QI3 mf;dsimp only;exact QAD ⟨rfl,rfl⟩
theorem Qaj{n lo hi:Int}{K:Bool→WP}(h:Ent B As (K (decide (n≥lo)&&decide (n≤hi)))):Ent B As (QAb Pr 121 [.I n,.I lo,.I hi] .one [.bool] fun(c:Bool)=>K c):=by
 refine QAR (QNC n lo hi) rdb ?_;rintro⟨c,_⟩ _ ⟨hc,rfl⟩;obtain rfl:c=_:=hc;exact QAy (ca1 h)
theorem QgK{c:Bool}{n lo hi:Int}{rest:Bool→WP}(h:Ent B As (rest (c || !(decide (n≥lo)&&decide (n≤hi))))) :
  Ent B As (QBc [.bool] (fun(K':Bool→WP)=>XIf c (K' true) (QAb Pr 121 [.I n,.I lo,.I hi] .one [.bool] fun(c2:Bool)=>K' (!c2))) rest):=by
 refine QAJ (xif (fun e=>?_) (fun e=>Qaj ?_))
 ·rw[e,Bool.true_or]at h;exact h
 ·rw[e,Bool.false_or]at h;exact h
theorem QgO(j:Nat){q:Option Addr}{m:SeM}{φ:WP}[p:Pick j As (QBA q m) F](h:∀b,q=some ⟨b,0,none⟩→QSx m→Ent B (Blk b m.cells::F) φ):Ent B As φ:=by
 refine QFI j (fun Bs=>∃b,q=some ⟨b,0,none⟩∧QSx m∧Bs=[Blk b m.cells]) (fun g hg=>?_) ?_
 ·obtain⟨ho,b,e,hb⟩:=hg;exact⟨_,⟨b,e,ho,rfl⟩,hb⟩
 ·rintro _ ⟨b,e,ho,rfl⟩;exact QA5 (h b e ho)
theorem QTJ(window resend epoch base:Int):Ct Pr 58 [.I window,.I resend,.I epoch,.I base] (.tup [none,none]) [.ptr,.I] [] emp
  (fun t Bs=>(QII window resend epoch base=true∧t.2.1=0∧Bs=[QBA t.1 (QG9 window resend epoch base)])∨(QII window resend epoch base=false∧t.1=none∧t.2.1=3∧Bs=[])):=by
 refine sp2 (QNW _ _ _ _) fun B _=>?_;unfold QNW mf;dsimp only;refine Qaj (QgK (QgK (QgK (xif (fun h=>QAD (.inr ⟨?_,rfl,rfl,rfl⟩)) (fun h=>QAL fun b=>?_)))))
 ·simp at h;rcases Bool.eq_false_or_eq_true (QII window resend epoch base) with e|e
  ·unfold QII at e;simp at e;omega
  ·exact e
 ·simp at h;refine QBQ [Blk b (QG9 window resend epoch base).cells] (QBA (some ⟨b,0,none⟩) (QG9 window resend epoch base)) (fun g hg=>⟨?_,b,rfl,hg⟩) (QAD (.inl ⟨?_,rfl,rfl⟩))
  ·constructor<;>simp only[QG9] <;> omega
  ·unfold QII;simp;omega
theorem QQF(q:Option Addr)(m:SeM):Ct Pr 242 [.pointer q] .one [.I] [QBA q m] emp (fun t Bs=>t.1=m.base∧Bs=[QBA q m]):=by
 refine sp1 (QEu _) fun B _=>?_;unfold QEu mf;dsimp only;refine QgO 0 fun b hq hok=>?_;subst hq;refine QAQ (QAE (s:=.I) (x:=m.base) (hv:=rfl) (h:=?_));exact QBQ [Blk b m.cells] (QBA (some ⟨b,0,none⟩) m) (fun g hg=>⟨hok,b,rfl,hg⟩) (QAD ⟨rfl,rfl⟩)
theorem QSb{c d:Bool}{φ:(Bool→WP)→WP}{rest:Bool→WP}(hφ:∀K:Bool→WP,Ent B As (K d)→Ent B As (φ K))(h:Ent B As (rest (c||d))):Ent B As (QBc [.bool] (fun(K':Bool→WP)=>XIf c (K' true) (φ K')) rest):=by
 refine QAJ (xif (fun e=>?_) (fun e=>hφ _ ?_))
 ·rw[e,Bool.true_or]at h;exact h
 ·rw[e,Bool.false_or]at h;exact h
theorem QSr(q:Option Addr)(m:SeM)(now epoch next:Int):Ct Pr 241 [.pointer q,.I now,.I epoch,.I next] .one [.bool] [QBA q m] emp
  (fun t Bs=>t.1=(QZ2 m now epoch next).2∧Bs=[QBA q (QZ2 m now epoch next).1]):=by
 refine sp1 (QFY _ _ _ _) fun B _=>?_;unfold QFY mf;dsimp only;refine Qaj ?_;refine QgO 0 fun b hq hok=>?_;subst hq;refine QSb (fun K h=>QAQ (QAE (s:=.I) (x:=m.epoch) (hv:=rfl) h)) ?_;refine QSb (fun K h=>QAQ (QAE (s:=.I) (x:=m.base) (hv:=rfl) h)) ?_;refine QSb (fun K h=>QAQ (QAE (s:=.I) (x:=m.top) (hv:=rfl) h)) ?_;unfold QZ2;refine xif (fun h=>?_) (fun h=>?_)
 ·rw[if_pos (by simp at h;omega)];exact QBQ [Blk b m.cells] (QBA (some ⟨b,0,none⟩) m) (fun g hg=>⟨hok,b,rfl,hg⟩) (QAD ⟨rfl,rfl⟩)
 ·have h':¬(now<0∨now>1099511627776∨epoch≠m.epoch∨next≤m.base∨next>m.top):=by simp at h;omega
  rw[if_neg h'];refine QAQ (QAE (s:=.I) (x:=m.sent) (hv:=rfl) (h:=?_));refine QAQ (xsq (QAQ (xsq (QAQ (xsq ?_)))));obtain⟨o1,o2,o3,o4,o5,o6,o7,o8⟩:=hok;refine QBQ [Blk b ({ m with base:=next,sent:=if next>m.sent then next else m.sent,since:=now }:SeM).cells] (QBA (some ⟨b,0,none⟩) { m with base:=next,sent:=if next>m.sent then next else m.sent,since:=now }) (fun g hg=>⟨?_,b,rfl,hg⟩) (QAD ⟨rfl,rfl⟩);constructor<;>simp only<;>first|omega|(split<;>omega)
theorem QQq(q:Option Addr)(m:SeM)(now next:Int):Ct Pr 203 [.pointer q,.I now,.I next] .one [.slice] [QBA q m] emp
  (fun t Bs=>Bs=[Ar I64 t.1 (QJg m now next).2,QBA q (QJg m now next).1]):=by
 refine sp1 (QE1 _ _ _) fun B _=>?_;unfold QE1 mf;dsimp only;refine Qaj ?_;refine QgO 0 fun b hq hok=>?_;subst hq;refine xif (fun h=>?_) (fun h=>?_)
 ·have e:QJg m now next=(m,[]):=by unfold QJg;rw[if_pos (by simp at h;omega)]
  rw[e];refine QBQ [Blk b m.cells] (QBA (some ⟨b,0,none⟩) m) (fun g hg=>⟨hok,b,rfl,hg⟩) ?_;exact QAd I64 (QAK [Ar I64 ⟨none,0,0⟩ [],QBA (some ⟨b,0,none⟩) m] (QAD rfl))
 have h0:¬(now<0∨now>1099511627776∨next>1099511627776):=by simp at h;omega
 have e:QJg m now next=QJg m now next:=rfl
 conv at e=>rhs;unfold QJg;rw[if_neg h0]
 simp only at e;obtain⟨o1,o2,o3,o4,o5,o6,o7,o8⟩:=hok;refine QAQ (QAE (s:=.I) (x:=m.top) (hv:=rfl) (h:=QAQ (xsq (QAO ?_))));generalize htop:(if next>m.top then next else m.top)=top' at e
 have ht1:m.top≤top'∧next≤top'∧top'≤1099511627776:=by subst htop;split<;>omega
 refine QAS (fun(c:Bool) As'=>As'=[Blk b ({ m with top:=top' }:SeM).cells]∧(c=true↔(m.sent>m.base∧now≥m.since+m.resend))) (fun K hK=>?_) ?_
 ·refine QAQ (QAE (s:=.I) (x:=m.sent) (hv:=rfl) (h:=QAQ (QAE (s:=.I) (x:=m.base) (hv:=rfl) (h:=?_))));refine QAA (fun h1=>?_) (fun h1=>hK _ _ ⟨rfl,by simp<;>omega⟩);refine QAQ (QAE (s:=.I) (x:=m.since) (hv:=rfl) (h:=QAQ (QAE (s:=.I) (x:=m.resend) (hv:=rfl) (h:=?_))));rw[QAB _ (by omega) (by omega)];exact hK _ _ ⟨rfl,by simp<;>omega⟩
 rintro c _ ⟨rfl,hc⟩;generalize hs2:(if m.sent>m.base∧now≥m.since+m.resend then ({ m with top:=top',sent:=m.base }:SeM) else { m with top:=top' })=m2 at e
 have hm2:m2={ m with top:=top',sent:=m2.sent }∧m.base≤m2.sent∧m2.sent≤m.sent:=by
  subst hs2;split
  ·exact⟨rfl,Int.le_refl _,o5⟩
  ·exact⟨rfl,o5,Int.le_refl _⟩
 obtain⟨hm2,hsl,hsu⟩:=hm2;refine QBu (fun As'=>As'=[Blk b m2.cells]) (fun K hK=>?_) ?_
 ·refine xif (fun h1=>QAQ (QAE (s:=.I) (x:=m.base) (hv:=rfl) (h:=QAQ (xsq (hK _ ?_))))) (fun h1=>hK _ ?_)
  ·rw[←hs2,if_pos (hc.1 h1)]
  ·rw[←hs2,if_neg (fun hh=>by rw[hc.2 hh]at h1;cases h1)]
 rintro _ rfl
 generalize m2.sent=st at *
 subst hm2;refine QAO (QAQ (QAE (s:=.I) (x:=m.base) (hv:=rfl) (h:=QAQ (QAE (s:=.I) (x:=m.window) (hv:=rfl) (h:=?_)))));refine QAQ (QAE (s:=.I) (x:=st) (hv:=rfl) (h:=QAQ (QAE (s:=.I) (x:=st) (hv:=rfl) (h:=?_))));rw[QAB (m.base+m.window) (by omega) (by omega)];generalize hlim:(if m.base+m.window<next then m.base+m.window else next)=lim at e
 have hl1:lim≤m.base+m.window∧lim≤next:=by subst hlim;split<;>omega
 refine xif (fun h1=>?_) (fun h1=>?_)
 ·have hz:next≤st∨lim - st≤0:=by
   by_cases hn:next≤st
   ·exact .inl hn
   ·rw[QAB _ (by subst hlim;split<;>omega) (by omega)]at h1;simp at h1;omega
  rw[if_pos hz]at e;rw[e];refine QBQ [Blk b ({ m with top:=top',sent:=st }:SeM).cells] (QBA (some ⟨b,0,none⟩) { m with top:=top',sent:=st }) (fun g hg=>⟨?_,b,rfl,hg⟩) ?_
  ·constructor<;>simp only<;>omega
  ·exact QAd I64 (QAK [Ar I64 ⟨none,0,0⟩ [],QBA (some ⟨b,0,none⟩) { m with top:=top',sent:=st }] (QAD rfl))
 have hn:¬next≤st:=by simp at h1;omega
 rw[QAB (lim - st) (by subst hlim;split<;>omega) (by omega)]at h1⊢
 have hz:¬(next≤st∨lim - st≤0):=by simp at h1;omega
 rw[if_neg hz]at e;rw[e];obtain⟨k,hk⟩:∃k:Nat,lim - st=(k:Int):=Int.eq_ofNat_of_zero_le (by omega);rw[hk];refine QRK I64 (by omega) (by simp;omega) (h:=fun b2=>?_);simp only[Int.toNat_natCast];refine QBP (fun n (x:Int) As'=>∃j:Nat,x=(j:Int)∧n=k - j∧j≤k∧As'=[Ar I64 ⟨some ⟨b2,0,none⟩,k,k⟩ (((List.range j).map fun(i:Nat)=>st+(i:Int))++List.replicate (k - j) 0),Blk b ({ m with top:=top',sent:=st }:SeM).cells]) k ⟨0,rfl,rfl,by omega,rfl⟩ ?_;rintro n x As' K ⟨j,rfl,rfl,hj,rfl⟩ hK;refine QAA (fun hp=>?_) (fun hp=>?_)
 ·have hp:j<k:=by omega
  refine QAQ (QAE (s:=.I) (x:=st) (hv:=rfl) (h:=?_));refine QAH (E:=I64) (xs:=((List.range j).map fun(i:Nat)=>st+(i:Int))++List.replicate (k - j) 0) (s:=⟨some ⟨b2,0,none⟩,k,k⟩) (h1:=by simp;omega) (h:=fun y hy=>?_);rw[QAB (st+(j:Int)) (by omega) (by omega),QAF j (by omega)];refine QHd (E:=I64) (st+(j:Int)) hy (hv:=rfl) (h:=?_);refine hK (k - (j+1)) _ _ (by omega) ⟨j+1,rfl,rfl,by omega,?_⟩
  have hset:(((List.range j).map fun(i:Nat)=>st+(i:Int))++List.replicate (k - j) 0).set j (st+(j:Int))=((List.range (j+1)).map fun(i:Nat)=>st+(i:Int))++List.replicate (k - (j+1)) 0:=by
   rw[List.set_append_right _ _ (by simp),List.range_succ,List.map_append];simp only[List.length_map,List.length_range,Nat.sub_self];obtain⟨r,hr⟩:∃r,k - j=r+1:=⟨k - j - 1,by omega⟩;rw[hr,List.replicate_succ,List.set_cons_zero,show k - (j+1)=r by omega];simp
  rw[hset]
 ·have hp:j=k:=by omega
  subst hp;refine QAQ (QAE (s:=.I) (x:=st) (hv:=rfl) (h:=QAQ (xsq (QAQ (xsq ?_)))));rw[QAB (st+(j:Int)) (by omega) (by omega)];rw[Nat.sub_self,List.replicate_zero,List.append_nil];refine QBQ [Blk b ({ m with top:=top',sent:=st+(j:Int),since:=now }:SeM).cells] (QBA (some ⟨b,0,none⟩) { m with top:=top',sent:=st+(j:Int),since:=now }) (fun g hg=>⟨?_,b,rfl,hg⟩) ?_
  ·constructor<;>simp only<;>omega
  ·exact QAK [Ar I64 ⟨some ⟨b2,0,none⟩,j,j⟩ ((List.range j).map fun(i:Nat)=>st+(i:Int)),QBA (some ⟨b,0,none⟩) { m with top:=top',sent:=st+(j:Int),since:=now }] (QAD rfl)
structure QH5 where
 every:Int
 next:Int
 fails:Int
 deriving DecidableEq
instance:Inhabited QH5:=⟨⟨0,0,0⟩⟩
def SLT:Enc QH5:=⟨fun x=>[.I x.every,.I x.next,.I x.fails],3,fun _=>rfl,fun x v h=>by simp at h;rcases h with rfl|rfl|rfl<;>rfl,by decide,⟨0,0,0⟩⟩
def QMw(s:QH5):Bool:=decide (s.every>0)&&decide (s.every≤1048576)&&decide (s.next≥0)&&decide (s.next≤2199023255552)&&decide (s.fails≥0)&&decide (s.fails≤10)
def QLD(s:QH5)(now:Int)(ok:Bool):QH5:=
 if QMw s=false∨now<0∨now>1099511627776 then s
 else if ok then ⟨s.every,s.next+s.every*(1+(if now - s.next>0 then now - s.next else 0) / s.every),0⟩
 else
  let f:=if 10<s.fails+1 then 10 else s.fails+1
  ⟨s.every,now+s.every*2 ^ (if 5<f then 5 else f).toNat,f⟩
def QJC(every now:Int):Bool:=decide (every<1)||decide (every>1048576)||decide (now<0)||decide (now>1099511627776)
theorem QKP(every now:Int):Ct Pr 61 [.I every,.I now] (.tup [some 3,none]) [.I,.I,.I,.I] [] emp
  (fun t Bs=>t=(if QJC every now then (0,0,0,3,()) else (every,now,0,0,()))∧Bs=[]):=by
 refine sp4 (QSF _ _) fun B _=>?_;unfold QSF mf;dsimp only;refine QAL fun b=>?_;refine xif (fun h=>?_) (fun h=>?_)
 ·iterate 3 (refine xsq ?_)
  iterate 3 (refine xgq ?_)
  exact QAa (l:=[]) (QAD ⟨by unfold QJC;rw[h];rfl,rfl⟩)
 ·iterate 3 (refine xsq ?_)
  iterate 3 (refine xgq ?_)
  exact QAa (l:=[]) (QAD ⟨by unfold QJC;rw[h];rfl,rfl⟩)
theorem QFu{c d:Bool}{φ:(Bool→WP)→WP}{rest:Bool→WP}(hφ:∀K:Bool→WP,Ent B As (K d)→Ent B As (φ K))(h:Ent B As (rest (c&&d))):Ent B As (QBc [.bool] (fun(K':Bool→WP)=>XIf c (φ K') (K' false)) rest):=by
 refine QAJ (xif (fun e=>hφ _ ?_) (fun e=>?_))
 ·rw[e,Bool.true_and]at h;exact h
 ·rw[e,Bool.false_and]at h;exact h
theorem QVr(s:QH5):Ct Pr 341 [.agg #[.I s.every,.I s.next,.I s.fails]] .one [.bool] [] emp (fun t Bs=>t.1=QMw s∧Bs=[]):=by
 refine sp1 (QLU _ _ _) fun B _=>?_;unfold QLU mf;dsimp only;refine QAL fun b=>QAE (s:=.I) (x:=s.every) (h:=?_);refine QFu (fun K h=>QAE (s:=.I) (x:=s.every) (h:=h)) ?_;refine QFu (fun K h=>QAE (s:=.I) (x:=s.next) (h:=h)) ?_;refine QFu (fun K h=>QAE (s:=.I) (x:=s.next) (h:=h)) ?_;refine QFu (fun K h=>QAE (s:=.I) (x:=s.fails) (h:=h)) ?_;refine QFu (fun K h=>QAE (s:=.I) (x:=s.fails) (h:=h)) ?_;exact QAa (l:=[]) (QAD ⟨rfl,rfl⟩)
theorem QPu(s:QH5)(now:Int)(ok:Bool):Ct Pr 240 [.agg #[.I s.every,.I s.next,.I s.fails],.I now,.bool ok] .agg [.I,.I,.I] [] emp
  (fun t Bs=>t=((QLD s now ok).every,(QLD s now ok).next,(QLD s now ok).fails,())∧Bs=[]):=by
 refine sp3 (QN0 _ _ _ _ _) fun B _=>?_;unfold QN0 mf;dsimp only;refine QAL fun b=>QAL fun b1=>?_;iterate 3 (refine xgq ?_)
 refine QAR (QVr s) rdb ?_;rintro⟨c,_⟩ _ ⟨hc,rfl⟩;obtain rfl:c=QMw s:=hc;refine QAy (ca1 (xif (fun h=>?_) (fun h=>?_)))
 ·iterate 3 (refine xgq ?_)
  iterate 3 (refine xsq ?_)
  iterate 3 (refine xgq ?_)
  have e:QLD s now ok=s:=by unfold QLD;rw[if_pos (by simp at h;rcases h with (h|h)|h<;>simp[h])]
  rw[e];exact QAa (l:=[]) (QAD ⟨rfl,rfl⟩)
 have hn:¬(QMw s=false∨now<0∨now>1099511627776):=by
  simp at h;rintro (hh|hh|hh)
  ·rw[hh]at h;simp at h
  ·omega
  ·omega
 have hs:QMw s=true:=by cases hb:QMw s with|true=>rfl|false=>exact absurd (.inl hb) hn
 have hs':=hs;unfold QMw at hs';simp only[Bool.and_eq_true,decide_eq_true_eq]at hs';obtain⟨⟨⟨⟨⟨s1,s2⟩,s3⟩,s4⟩,s5⟩,s6⟩:=hs'
 have hn':0≤now∧now≤1099511627776:=by omega
 refine xif (fun hok=>?_) (fun hok=>?_)
 ·refine xsq (QAO ?_);refine QAE (h:=QAE (h:=QAE (h:=QAE (h:=QA6 (by omega) ?_))));rw[QAB (now - s.next) (by omega) (by omega)];generalize hd:(if now - s.next>0 then now - s.next else 0)=dd
  have hdd:0≤dd∧dd≤1099511627776:=by subst hd;split<;>omega
  have htd:dd.tdiv s.every=dd / s.every:=Int.tdiv_eq_ediv_of_nonneg hdd.1;have hq:0≤dd / s.every:=Int.ediv_nonneg hdd.1 (by omega);have hq2:dd / s.every≤dd:=Int.ediv_le_self _ hdd.1;have hm:s.every*(dd / s.every)≤dd:=Int.mul_ediv_self_le (by omega)
  have hmul:s.every*(1+dd / s.every)=s.every+s.every*(dd / s.every):=by rw[Int.mul_add,Int.mul_one]
  have hm0:0≤s.every*(dd / s.every):=Int.mul_nonneg (by omega) hq;rw[htd,QAB (dd / s.every) (by omega) (by omega),QAB (1+dd / s.every) (by omega) (by omega),QAB (s.every*(1+dd / s.every)) (by omega) (by omega),QAB (s.next+s.every*(1+dd / s.every)) (by omega) (by omega)];refine xsq ?_;iterate 3 (refine xgq ?_)
  iterate 3 (refine xsq ?_)
  iterate 3 (refine xgq ?_)
  have e:QLD s now ok=⟨s.every,s.next+s.every*(1+dd / s.every),0⟩:=by unfold QLD;rw[if_neg hn,if_pos hok,hd]
  rw[e];exact QAa (l:=[]) (QAD ⟨rfl,rfl⟩)
 ·refine xgq ?_;rw[QAB (s.fails+1) (by omega) (by omega)];generalize hf:(if 10<s.fails+1 then 10 else s.fails+1)=f
  have hff:1≤f∧f≤10:=by subst hf;split<;>omega
  refine xsq (xgq (xgq (QA6 ?_ ?_)))
  ·split<;>omega
  generalize hg:(if 5<f then 5 else f)=g
  have hgg:1≤g∧g≤5:=by subst hg;split<;>omega
  have hmin:min g.toNat 64=g.toNat:=by omega
  rw[hmin]
  have hp:(2:Int) ^ g.toNat≤32∧0≤(2:Int) ^ g.toNat:=by
   have:g.toNat=1∨g.toNat=2∨g.toNat=3∨g.toNat=4∨g.toNat=5:=by omega
   rcases this with h|h|h|h|h<;>rw[h] <;> decide
  have e:QLD s now ok=⟨s.every,now+s.every*2 ^ g.toNat,f⟩:=by
   unfold QLD;rw[if_neg hn,if_neg (by rw[hok];decide)]
   (try simp only)
   rw[hf,hg]
  generalize (2:Int) ^ g.toNat=pw at hp e;have hm1:s.every*pw≤1048576*32:=Int.mul_le_mul s2 hp.1 hp.2 (by decide);have hm0:0≤s.every*pw:=Int.mul_nonneg (by omega) hp.2;rw[QAB (s.every*pw) (by omega) (by omega),QAB (now+s.every*pw) (by omega) (by omega)];refine xsq ?_;iterate 3 (refine xgq ?_)
  iterate 3 (refine xsq ?_)
  iterate 3 (refine xgq ?_)
  rw[e];exact QAa (l:=[]) (QAD ⟨rfl,rfl⟩)
def QE5(now:Int)(l:List QH5)(k:Int)(i:Nat):Int:=
 match l[i]? with
 | some s=>if s.next≤now∧(k<0∨s.next<(l.getD k.toNat default).next) then (i:Int) else k
 | none=>k
def QUZ(l:List QH5)(now:Int):Int:=(List.range l.length).foldl (QE5 now l) (-1)
theorem QQe(now:Int)(l:List QH5):∀n,n≤l.length→-1≤(List.range n).foldl (QE5 now l) (-1)∧(List.range n).foldl (QE5 now l) (-1)<n∨n=0∧(List.range n).foldl (QE5 now l) (-1) = -1:=by
 intro n hn
 induction n with
 | zero=>exact .inr ⟨rfl,rfl⟩
 | succ n ih=>
  have:=ih (by omega);rw[List.range_succ,List.foldl_append,List.foldl_cons,List.foldl_nil];left;generalize (List.range n).foldl (QE5 now l) (-1)=a at this⊢;unfold QE5
  cases hl:l[n]? with
  | none=>have:=List.getElem?_eq_none_iff.1 hl;omega
  | some s=>simp only;split<;>omega
theorem QR2(l:Sl)(ss:List QH5)(now:Int)(hl:ss.length≤1048576):Ct Pr 328 [l.v,.I now] .one [.I] [] (RAr SLT l ss) (fun t Bs=>t.1=QUZ ss now∧Bs=[]):=by
 refine sp1 (QRE _ _) fun B hr=>?_;haveI:Fro B l SLT ss:=⟨hr⟩;have hn:ss.length=l.n:=hr.1;unfold QRE mf;dsimp only;refine QBb (fun n (at':Int) (x:Int) As'=>∃k:Nat,x=(k:Int)∧n=ss.length - k∧k≤ss.length∧at'=(List.range k).foldl (QE5 now ss) (-1)∧As'=[]) ss.length ⟨0,rfl,rfl,by omega,rfl,rfl⟩ ?_;rintro n at' x As' K ⟨k,rfl,rfl,hk,hat,rfl⟩ hK;have hb:=QQe now ss k hk;rw[←hat]at hb;refine QAA (fun hp=>?_) (fun hp=>?_)
 ·have hp:k<ss.length:=by omega
  refine QAH (E:=SLT) (xs:=ss) (s:=l) (h1:=hp) (h:=fun y hy=>?_);refine QAN (E:=SLT) (xs:=ss) hy (h:=?_);refine QAZ (E:=SLT) (xs:=ss) hy (j:=1) (h:=?_);refine QAZ (E:=SLT) (xs:=ss) hy (j:=2) (h:=?_);refine QAL fun b=>?_;iterate 3 (refine xsq ?_)
  refine QAO ?_
  have hstep:(List.range (k+1)).foldl (QE5 now ss) (-1)=if y.next≤now∧(at'<0∨y.next<(ss.getD at'.toNat default).next) then (k:Int) else at':=by
   rw[List.range_succ,List.foldl_append,List.foldl_cons,List.foldl_nil,←hat];unfold QE5;rw[hy]
  refine QAS (fun(c:Bool) As'=>As'=[Blk b [.I y.every,.I y.next,.I y.fails]]∧(c=true↔(y.next≤now∧(at'<0∨y.next<(ss.getD at'.toNat default).next)))) (fun K1 hK1=>?_) ?_
  ·refine QAE (s:=.I) (x:=y.next) (h:=?_);refine QAA (fun h1=>QAA (fun h2=>hK1 _ _ ⟨rfl,fun _=>⟨h1,.inl h2⟩,fun _=>rfl⟩) (fun h2=>?_)) (fun h1=>hK1 _ _ ⟨rfl,fun h=>(by cases h),fun h=>absurd h.1 h1⟩);refine QAE (s:=.I) (x:=y.next) (h:=?_);have h2:¬(at':Int)<0:=h2;obtain⟨a,ha⟩:=Int.eq_ofNat_of_zero_le (by omega:(0:Int)≤at');rw[ha]at hb⊢;refine QAH (E:=SLT) (xs:=ss) (s:=l) (h1:=by omega) (h:=fun z hz=>?_);refine QAZ (E:=SLT) (xs:=ss) hz (j:=1) (h:=?_);refine hK1 _ _ ⟨rfl,?_⟩
   have hg:(ss.getD at'.toNat default)=z:=by rw[ha,Int.toNat_natCast,List.getD_eq_getElem?_getD,hz];rfl
   simp only[hg,Bool.true_and,Bool.false_or,decide_eq_true_eq];exact⟨fun h=>⟨h1,.inr h⟩,fun h=>h.2.resolve_left h2⟩
  rintro c _ ⟨rfl,hc⟩;refine QAS (fun(a1:Int) As'=>As'=[Blk b [.I y.every,.I y.next,.I y.fails]]∧a1=(List.range (k+1)).foldl (QE5 now ss) (-1)) (fun K1 hK1=>?_) ?_
  ·refine xif (fun h=>hK1 _ _ ⟨rfl,?_⟩) (fun h=>hK1 _ _ ⟨rfl,?_⟩)
   ·rw[hstep,if_pos (hc.1 h)]
   ·rw[hstep,if_neg (fun hh=>by rw[hc.2 hh]at h;cases h)]
  rintro a1 _ ⟨rfl,ha1⟩;rw[QAF k (by omega)];exact QAa (l:=[]) (hK (ss.length - (k+1)) _ _ _ (by omega) ⟨k+1,rfl,rfl,by omega,ha1,rfl⟩)
 ·have:k=ss.length:=by omega
  subst this;exact QAD ⟨hat,rfl⟩
structure QLG where
 has:Bool
 value:Int
 at_:Int
 deriving DecidableEq
def QKG(a b:Int):Int:=if a>b then a - b else b - a
def QFb(dead quiet:Int)(h:QLG)(v now:Int):QLG×Bool:=
 if h.has=false then (⟨true,v,now⟩,true)
 else if QKG v h.value>(if 0>dead then 0 else dead) then (⟨true,v,now⟩,true)
 else if quiet>0∧now≥h.at_∧QKG now h.at_≥quiet then (⟨true,v,now⟩,true)
 else (h,false)
theorem QEl(x:Int):IntKind.u64.wrap x=x % 18446744073709551616:=by
 have e1:(2 ^ IntKind.u64.bits:Int)=18446744073709551616:=by decide
 have e2:IntKind.u64.signed=false:=rfl;unfold IntKind.wrap;simp only[e1,e2,Bool.false_and,Bool.false_eq_true,if_false]
theorem QN2(a b:Int)(ha:i64 a)(hb:i64 b):Ct Pr 432 [.I a,.I b] .one [.int .u64] [] emp (fun t Bs=>t.1=QKG a b∧Bs=[]):=by
 obtain⟨a1,a2⟩:=ha;obtain⟨b1,b2⟩:=hb;refine sp1 (QOI _ _) fun B _=>?_;unfold QOI mf;dsimp only;refine QAJ (QAA (fun h=>?_) (fun h=>?_))
 ·refine QAD ⟨?_,rfl⟩;show IntKind.u64.wrap _=_;unfold QKG;rw[if_pos h,QEl,QEl,QEl];omega
 ·refine QAD ⟨?_,rfl⟩;show IntKind.u64.wrap _=_;unfold QKG;rw[if_neg h,QEl,QEl,QEl];omega
theorem QO7(dead quiet:Int)(h:QLG)(v now:Int)(hd:i64 dead)(hq:i64 quiet)(hh:i64 h.value∧i64 h.at_)(hv:i64 v)(hn:i64 now):Ct Pr 339 [.agg #[.I dead,.I quiet],.agg #[.bool h.has,.I h.value,.I h.at_],.agg #[.I v,.I now]] (.tup [some 3,none]) [.bool,.I,.I,.bool] [] emp
  (fun t Bs=>t=((QFb dead quiet h v now).1.has,(QFb dead quiet h v now).1.value,(QFb dead quiet h v now).1.at_,(QFb dead quiet h v now).2,())∧Bs=[]):=by
 refine QgG QS9 fun B _=>?_;unfold QRt;refine QAL fun b=>QAL fun b1=>QAL fun b2=>QAL fun b3=>?_;iterate 2 (refine xgq ?_)
 refine QAL fun b4=>?_;iterate 3 (refine xsq ?_)
 iterate 3 (refine xgq ?_)
 have told:∀(e:QFb dead quiet h v now=(⟨true,v,now⟩,true)) (As':List HP),Ent B (Blk b4 [.bool true,.I v,.I now]::Blk b3 [.bool false,.I 0,.I 0]::As') (QAq .bool ⟨b4,0,none⟩ fun(c3:Bool)=>QAq (.I) ⟨b4,1,none⟩ fun(n4:Int)=>QAq (.I) ⟨b4,2,none⟩ fun(n5:Int)=>QBG ⟨b3,0,none⟩ (.bool c3)<|QBG ⟨b3,1,none⟩ (.I n4)<|QBG ⟨b3,2,none⟩ (.I n5)<|QAq .bool ⟨b3,0,none⟩ fun(x0:Bool)=>QAq (.I) ⟨b3,1,none⟩ fun(x1:Int)=>QAq (.I) ⟨b3,2,none⟩ fun(x2:Int)=>Ret B (fun(t:Tup [.bool,.I,.I,.bool]) Bs=>t=((QFb dead quiet h v now).1.has,(QFb dead quiet h v now).1.value,(QFb dead quiet h v now).1.at_,(QFb dead quiet h v now).2,())∧Bs=[]) (x0,x1,x2,true,())):=by
  intro e As';iterate 3 (refine xgq ?_)
  iterate 3 (refine xsq ?_)
  iterate 3 (refine xgq ?_)
  rw[e];exact QAa (l:=[]) (QAD ⟨rfl,rfl⟩)
 refine QAS (fun(c:Bool) As'=>As'=[Blk b4 [.bool true,.I v,.I now],Blk b3 [.bool false,.I 0,.I 0],Blk b2 [.I v,.I now],Blk b1 [.bool h.has,.I h.value,.I h.at_],Blk b [.I dead,.I quiet]]∧c = !h.has) (fun K hK=>?_) ?_
 ·refine xif (fun h1=>hK _ _ ⟨rfl,?_⟩) (fun h1=>xgq (hK _ _ ⟨rfl,rfl⟩));simp at h1;rw[h1.1];rfl
 rintro c _ ⟨rfl,rfl⟩;refine xif (fun h1=>?_) (fun h1=>?_)
 ·exact told (by unfold QFb;rw[if_pos (by simpa using h1)]) _
 have hhas:¬h.has=false:=by simpa using h1
 refine QAO (xgq (xgq (xgq ?_)));refine QAR (QN2 v h.value hv hh.1) rdb ?_;rintro⟨r,_⟩ _ ⟨hr,rfl⟩;obtain rfl:r=QKG v h.value:=hr;refine QAy (ca1 (QC6 (hv:=rfl) ?_))
 have hw:IntKind.u64.wrap (if 0>dead then 0 else dead)=if 0>dead then 0 else dead:=by
  rw[QEl];obtain⟨d1,d2⟩:=hd;split<;>omega
 rw[hw];refine QAA (fun h2=>?_) (fun h2=>?_)
 ·exact told (by unfold QFb;rw[if_neg hhas,if_pos h2]) _
 refine QAO (QAS (fun(c:Bool) As'=>As'=[Blk b4 [.bool true,.I v,.I now],Blk b3 [.bool false,.I 0,.I 0],Blk b2 [.I v,.I now],Blk b1 [.bool h.has,.I h.value,.I h.at_],Blk b [.I dead,.I quiet]]∧(c=true↔(quiet>0∧now≥h.at_∧QKG now h.at_≥quiet))) (fun K hK=>?_) ?_)
 ·refine QAE (s:=.I) (x:=quiet) (h:=?_);refine QAA (fun h3=>?_) (fun h3=>QBF rfl (hK _ _ ⟨rfl,fun e=>(by cases e),fun e=>absurd e.1 h3⟩));refine QAE (s:=.I) (x:=now) (h:=QAE (s:=.I) (x:=h.at_) (h:=?_));refine QAA (fun h4=>?_) (fun h4=>hK _ _ ⟨rfl,fun e=>(by cases e),fun e=>absurd e.2.1 h4⟩);refine QAE (s:=.I) (x:=now) (h:=QAE (s:=.I) (x:=h.at_) (h:=QAE (s:=.I) (x:=quiet) (h:=?_)));refine QAR (QN2 now h.at_ hn hh.2) rdb ?_;rintro⟨r,_⟩ _ ⟨hr,rfl⟩;obtain rfl:r=QKG now h.at_:=hr;refine QAy (ca1 (QC6 (hv:=rfl) ?_))
  have hw:IntKind.u64.wrap quiet=quiet:=by rw[QEl];obtain⟨d1,d2⟩:=hq;have:(0:Int)<quiet:=h3;omega
  rw[hw];exact hK _ _ ⟨rfl,by rw[decide_eq_true_eq];exact⟨fun e=>⟨h3,h4,e⟩,fun e=>e.2.2⟩⟩
 rintro c _ ⟨rfl,hc⟩;refine xif (fun h3=>?_) (fun h3=>?_)
 ·exact told (by unfold QFb;rw[if_neg hhas,if_neg h2,if_pos (hc.1 h3)]) _
 ·iterate 3 (refine xgq ?_)
  iterate 3 (refine xsq ?_)
  iterate 3 (refine xgq ?_)
  have e:QFb dead quiet h v now=(h,false):=by
   unfold QFb;rw[if_neg hhas,if_neg h2,if_neg (fun hh=>by rw[hc.2 hh]at h3;cases h3)]
  rw[e];exact QAa (l:=[]) (QAD ⟨rfl,rfl⟩)
def QWC(r:Nat):Nat:=if r % 2=1 then (r / 2) ^^^ 40961 else r / 2
def QMH:Nat→Nat→Nat
 | 0,r=>r
 | k+1,r=>QWC (QMH k r)
def QU6(r y:Nat):Nat:=QMH 8 (r ^^^ y)
def QMm(r:Nat)(bs:List UInt8):Nat:=bs.foldl (fun r y=>QU6 r y.toNat) r
theorem QOe{a b:Nat}(ha:a<65536)(hb:b<65536):a ^^^ b<65536:=Nat.xor_lt_two_pow (n:=16) ha hb
theorem Qb2{r:Nat}(h:r<65536):QWC r<65536:=by
 unfold QWC;split
 ·exact QOe (by omega) (by decide)
 ·omega
theorem QL8:∀(k:Nat) {r:Nat},r<65536→QMH k r<65536
 | 0,_,h=>h
 | k+1,_,h=>Qb2 (QL8 k h)
theorem QZE{r:Nat}(h:r<65536)(y:UInt8):QU6 r y.toNat<65536:=QL8 8 (QOe h (by have:=QGe y;omega))
theorem QUE:∀(bs:List UInt8) {r:Nat},r<65536→QMm r bs<65536
 | [],_,h=>h
 | y::bs,_,h=>QUE bs (QZE h y)
theorem QWg(bs:List UInt8)(r:Nat)(y:UInt8):QMm r (bs++[y])=QU6 (QMm r bs) y.toNat:=by
 unfold QMm;rw[List.foldl_append];rfl
theorem QeO(n:Nat)(h:n<65536):IntKind.u16.wrap (n:Int)=n:=by
 have e1:(2 ^ IntKind.u16.bits:Int)=65536:=by decide
 have e3:IntKind.u16.signed=false:=rfl;simp only[IntKind.wrap,e1,e3,Bool.false_and];simp;omega
theorem QeF(r:Nat):Int.fdiv (r:Int) (2 ^ (min (Int.toNat 1) 16))=((r / 2:Nat):Int):=QCw r _ 2 (by decide)
theorem QWB(r:Nat)(h:r<65536):(if (bits .and .u16 (r:Int) 1 == 1)=true then bits .xor .u16 (Int.fdiv (r:Int) (2 ^ (min (Int.toNat 1) 16))) 40961 else Int.fdiv (r:Int) (2 ^ (min (Int.toNat 1) 16)))=((QWC r:Nat):Int):=by
 have e1:bits .and .u16 (r:Int) 1=((r % 2:Nat):Int):=by
  have:=u16_and_nat r 1 h (by decide);rw[Nat.and_one_is_mod]at this;exact this
 rw[e1,QeF];unfold QWC;by_cases g:r % 2=1
 ·rw[if_pos (by rw[g];rfl),if_pos g];exact u16_xor_nat (r / 2) 40961 (by omega) (by decide)
 ·rw[if_neg (by simp;omega),if_neg g]
theorem QTM(crc:Nat)(hc:crc<65536)(b:Sl)(xs:List UInt8)(hm:xs.length≤140737488351232):Ct Pr 347 [.int .u16 (crc:Int),b.v] .one [.int .u16] [] (RAr U8 b xs) (fun t Bs=>t.1=(QMm crc xs:Int)∧Bs=[]):=by
 refine sp1 (QMN _ _) fun B hr=>?_;have fb:Fro B b U8 xs:=⟨hr⟩;have hb:=hr.1;unfold QMN mf;dsimp only;refine QBb (fun(n:Nat) (r:Int) (i:Int) As=>∃k:Nat,i=(k:Int)∧r=(QMm crc (xs.take k):Int)∧n=xs.length - k∧k≤xs.length∧As=[]) xs.length ⟨0,rfl,rfl,rfl,by omega,rfl⟩ ?_;rintro n _ _ _ K ⟨k,rfl,rfl,rfl,hk,rfl⟩ hK;have hlt:=QUE (xs.take k) hc
 have hs:k<xs.length→QMm crc (xs.take (k+1))=QU6 (QMm crc (xs.take k)) (xs.getD k 0).toNat:=fun h=>by
  rw[List.take_add_one,List.getElem?_eq_getElem h];show QMm _ (xs.take k++[xs[k]])=_;rw[QWg,List.getD_eq_getElem?_getD,List.getElem?_eq_getElem h];rfl
 generalize hr':QMm crc (xs.take k)=r at *
 refine QAA (fun h=>?_) (fun h=>?_)
 ·have hkl:k<xs.length:=by omega
  have hx:=List.getElem?_eq_getElem hkl;have hy:=QGe xs[k];have hs:=hs hkl;rw[List.getD_eq_getElem?_getD,hx]at hs;simp only[Option.getD_some]at hs
  generalize xs[k]=y at *
  refine QAH (h1:=hkl) (h:=fun _ _=>?_);refine QAN hx (h:=?_)
  have e1:bits .xor .u16 (r:Int) (IntKind.u16.wrap (y.toNat:Int))=((r ^^^ y.toNat:Nat):Int):=by
   rw[QeO y.toNat (by omega)];exact u16_xor_nat r y.toNat hlt (by omega)
  rw[e1];have h2:r ^^^ y.toNat<65536:=QOe hlt (by omega);refine QBb (fun(n:Nat) (r1:Int) (i:Int) As=>∃j:Nat,i=(j:Int)∧r1=(QMH j (r ^^^ y.toNat):Int)∧n=8 - j∧j≤8∧As=[]) 8 ⟨0,rfl,rfl,rfl,by omega,rfl⟩ ?_;rintro n _ _ _ K2 ⟨j,rfl,rfl,rfl,hj,rfl⟩ hK2;have hl2:=QL8 j h2;refine QAA (fun h=>?_) (fun h=>?_)
  ·have hstep:QMH (j+1) (r ^^^ y.toNat)=QWC (QMH j (r ^^^ y.toNat)):=rfl
   generalize QMH j (r ^^^ y.toNat)=q at *
   have eb:=QWB q hl2;refine QA6 (by decide) (QAJ ?_);rw[QAF j (by omega)];refine xif (fun g=>?_) (fun g=>?_)
   ·rw[if_pos g]at eb;rw[eb];exact hK2 (8 - (j+1)) _ _ _ (by omega) ⟨j+1,rfl,by rw[hstep],rfl,by omega,rfl⟩
   ·rw[if_neg (by rw[g];simp)]at eb;rw[eb];exact hK2 (8 - (j+1)) _ _ _ (by omega) ⟨j+1,rfl,by rw[hstep],rfl,by omega,rfl⟩
  ·have:j=8:=by omega
   subst this;rw[QAF k (by omega)];refine hK (xs.length - (k+1)) _ _ _ (by omega) ⟨k+1,rfl,?_,rfl,by omega,rfl⟩;rw[hs];rfl
 ·have:k=xs.length:=by omega
  subst this;rw[List.take_length]at hr';refine QAD ⟨?_,rfl⟩;rw[hr']
def QGP(xs:List UInt8):Nat:=QMm 65535 xs
theorem QN9(b:Sl)(xs:List UInt8)(hm:xs.length≤140737488351232):Ct Pr 248 [b.v] .one [.int .u16] [] (RAr U8 b xs) (fun t Bs=>t.1=(QGP xs:Int)∧Bs=[]):=by
 refine sp1 (QOX _) fun B hr=>?_;have fb:Fro B b U8 xs:=⟨hr⟩;unfold QOX mf;dsimp only;refine xcl (QTM 65535 (by decide) b xs hm) rdb ?_;rintro⟨r,_⟩ _ ⟨h,rfl⟩;exact QAy (ca1 (QAD ⟨h,rfl⟩))
def QYE(c:Nat):List UInt8:=[UInt8.ofNat c,UInt8.ofNat (c / 256)]
def Qaw(c:Nat):List UInt8:=[UInt8.ofNat c,UInt8.ofNat (c / 256),UInt8.ofNat (c / 65536),UInt8.ofNat (c / 16777216)]
def QVX(xs:List UInt8):List UInt8:=xs++QYE (QGP xs)
def QUF(xs:List UInt8):List UInt8:=xs++Qaw (QFZ 0 xs)
def QDR(xs:List UInt8):Int×List UInt8:=
 if xs.length<2 then (1,[]) else if xs.drop (xs.length - 2)=QYE (QGP (xs.take (xs.length - 2))) then (0,xs.take (xs.length - 2)) else (5,[])
def QEU(xs:List UInt8):Int×List UInt8:=
 if xs.length<4 then (1,[]) else if xs.drop (xs.length - 4)=Qaw (QFZ 0 (xs.take (xs.length - 4))) then (0,xs.take (xs.length - 4)) else (5,[])
theorem QS0(b:Sl)(xs:List UInt8)(hm:xs.length≤1000000):Ct Pr 169 [b.v] .one [.slice] [] (RAr U8 b xs) (fun t Bs=>Bs=[Ar U8 t.1 (QVX xs)]):=by
 refine sp1 (QLo _) fun B hr=>?_;have fb:Fro B b U8 xs:=⟨hr⟩;unfold QLo mf;dsimp only;refine xcl (QN9 b xs (by omega)) rdb ?_;rintro⟨r,_⟩ _ ⟨h,rfl⟩;obtain rfl:r=(QGP xs:Int):=h;refine QAy (ca1 (QAL fun b1=>?_));refine QAe (Q:=Ar U8 ⟨some ⟨b1,0,none⟩,0,0⟩ []) 0 (fun g hg=>⟨[],QAm [] 0 rfl rfl hg⟩) ?_;refine QHb (E:=U8) (s:=⟨some ⟨b1,0,none⟩,0,0⟩) (y:=b) (hb:=by simp;omega) (h:=fun s=>?_);refine QA6 (by decide) ?_;rw[QCw (QGP xs) _ 256 (by decide),QAr,QAr];refine QAL fun b2=>?_;refine QAe (Q:=Ar U8 ⟨some ⟨b2,0,none⟩,2,2⟩ (QYE (QGP xs))) 0 (fun g hg=>⟨[],QAm (QYE (QGP xs)) 2 rfl rfl hg⟩) ?_;refine QHb (E:=U8) (s:=s) (y:=⟨some ⟨b2,0,none⟩,2,2⟩) (hb:=by simp[QYE];omega) (h:=fun s1=>?_);rw[List.nil_append];exact QAK [Ar U8 s1 (xs++QYE (QGP xs))] (QAD rfl)
theorem QS4(b:Sl)(xs:List UInt8)(hm:xs.length≤1000000):Ct Pr 156 [b.v] .one [.slice] [] (RAr U8 b xs) (fun t Bs=>Bs=[Ar U8 t.1 (QUF xs)]):=by
 refine sp1 (QMM _) fun B hr=>?_;have fb:Fro B b U8 xs:=⟨hr⟩;unfold QMM mf;dsimp only;refine xcl (QOo b xs (by omega)) rdb ?_;rintro⟨r,_⟩ _ ⟨h,rfl⟩;obtain rfl:r=(QFZ 0 xs:Int):=h;refine QAy (ca1 (QAL fun b1=>?_));refine QAe (Q:=Ar U8 ⟨some ⟨b1,0,none⟩,0,0⟩ []) 0 (fun g hg=>⟨[],QAm [] 0 rfl rfl hg⟩) ?_;refine QHb (E:=U8) (s:=⟨some ⟨b1,0,none⟩,0,0⟩) (y:=b) (hb:=by simp;omega) (h:=fun s=>?_);refine QA6 (by decide) (QA6 (by decide) (QA6 (by decide) ?_));rw[QCw (QFZ 0 xs) (2 ^ (min (Int.toNat 8) 32)) 256 (by decide),QCw (QFZ 0 xs) (2 ^ (min (Int.toNat 16) 32)) 65536 (by decide),QCw (QFZ 0 xs) (2 ^ (min (Int.toNat 24) 32)) 16777216 (by decide),QAr,QAr,QAr,QAr];refine QAL fun b2=>?_;refine QAe (Q:=Ar U8 ⟨some ⟨b2,0,none⟩,4,4⟩ (Qaw (QFZ 0 xs))) 0 (fun g hg=>⟨[],QAm (Qaw (QFZ 0 xs)) 4 rfl rfl hg⟩) ?_;refine QHb (E:=U8) (s:=s) (y:=⟨some ⟨b2,0,none⟩,4,4⟩) (hb:=by simp[Qaw];omega) (h:=fun s1=>?_);rw[List.nil_append];exact QAK [Ar U8 s1 (xs++Qaw (QFZ 0 xs))] (QAD rfl)
theorem QM5{y:UInt8}{c:Nat}:(((y.toNat:Int) != ((UInt8.ofNat c).toNat:Int))=false)↔y=UInt8.ofNat c:=by
 simp only[bne_eq_false_iff_eq,Int.natCast_inj];exact⟨fun h=>UInt8.toNat_inj.1 h,fun h=>by rw[h]⟩
theorem QSl(b:Sl)(xs:List UInt8)(hm:xs.length≤1000000)(hcap:b.n≤b.c):Ct Pr 158 [b.v] (.tup [none,none]) [.slice,.I] [] (RAr U8 b xs)
  (fun t Bs=>t.2.1=(QDR xs).1∧Bs=[Ar U8 t.1 (QDR xs).2]):=by
 refine sp2 (QL6 _) fun B hr=>?_;have fb:Fro B b U8 xs:=⟨hr⟩;have hb:=hr.1;unfold QL6 mf;dsimp only;rw[QAB ((b.n:Int) - 2) (by omega) (by omega)];refine QAA (fun h=>?_) (fun h=>?_)
 ·refine QAd U8 (QAD ?_);unfold QDR;rw[if_pos (by omega)];exact⟨rfl,rfl⟩
 obtain⟨k,hk⟩:∃k:Nat,xs.length=k+2:=⟨xs.length - 2,by omega⟩
 have hbk:(b.n:Int) - 2=(k:Int):=by omega
 rw[hbk,QAB ((k:Int)+1) (by omega) (by omega),show ((k:Int)+1)=((k+1:Nat):Int) by omega]
 have hgo:QDR xs=if xs.drop k=QYE (QGP (xs.take k)) then (0,xs.take k) else (5,[]):=by
  unfold QDR;rw[if_neg (by omega),show xs.length - 2=k by omega]
 have fc:Fro B (b.cut 0 k b.c 1) U8 (xs.take k):=⟨by have:=hr.cut 0 k b.c (by omega) (by omega) (by omega);rw[List.drop_zero]at this;exact this⟩;refine QEh (by omega) (by omega) (by omega) (by omega) ?_;simp only[Int.toNat_natCast,Int.toNat_zero];refine xcl (QN9 (b.cut 0 k b.c 1) (xs.take k) (by simp;omega)) rdb ?_;rintro⟨r,_⟩ _ ⟨h2,rfl⟩;obtain rfl:r=(QGP (xs.take k):Int):=h2;refine QAy (ca1 ?_);have x0:=List.getElem?_eq_getElem (l:=xs) (i:=k) (by omega);have x1:=List.getElem?_eq_getElem (l:=xs) (i:=k+1) (by omega)
 have hdrop:xs.drop k=[xs[k],xs[k+1]]:=by
  rw[List.drop_eq_getElem_cons (by omega),List.drop_eq_getElem_cons (by omega),List.drop_eq_nil_of_le (by omega)]
 generalize xs[k]=y0 at *
 generalize xs[k+1]=y1 at *
 rw[QCw (QGP (xs.take k)) _ 256 (by decide),QAr,QAr];refine QAH (k:=k) (h1:=by omega) (h:=fun _ _=>?_);refine QAN x0 (h:=?_);refine QAS (fun(c:Bool) As'=>As'=[]∧(c=false↔xs.drop k=QYE (QGP (xs.take k)))) (fun K hK=>?_) ?_
 ·refine xif (fun h1=>hK _ _ ⟨rfl,?_⟩) (fun h1=>?_)
  ·rw[hdrop];refine⟨fun e=>(by cases e),fun e=>?_⟩;simp only[QYE,List.cons.injEq]at e;rw[QM5.2 e.1]at h1;cases h1
  ·refine QAH (k:=k+1) (h1:=by omega) (h:=fun _ _=>?_);refine QAN x1 (h:=QA6 (by decide) (hK _ _ ⟨rfl,?_⟩));have e0:=QM5.1 h1;rw[QM5,hdrop];simp only[QYE,List.cons.injEq,and_true];exact⟨fun e=>⟨e0,e⟩,fun e=>e.2⟩
 rintro c _ ⟨rfl,hc⟩;refine xif (fun h1=>?_) (fun h1=>?_)
 ·refine QAd U8 (QAD ?_);rw[hgo,if_neg (fun e=>by rw[hc.2 e]at h1;cases h1)];exact⟨rfl,rfl⟩
 ·rw[hgo,if_pos (hc.1 h1)];refine QAL fun b1=>?_;refine QAe (Q:=Ar U8 ⟨some ⟨b1,0,none⟩,0,0⟩ []) 0 (fun g hg=>⟨[],QAm [] 0 rfl rfl hg⟩) ?_;refine QEh (by omega) (by omega) (by omega) (by omega) ?_;simp only[Int.toNat_natCast,Int.toNat_zero];refine QHb (E:=U8) (s:=⟨some ⟨b1,0,none⟩,0,0⟩) (y:=b.cut 0 k b.c 1) (hb:=by simp;omega) (h:=fun s1=>?_);rw[List.nil_append];exact QAK [Ar U8 s1 (xs.take k)] (QAD ⟨rfl,rfl⟩)
theorem QTS(b:Sl)(xs:List UInt8)(hm:xs.length≤1000000)(hcap:b.n≤b.c):Ct Pr 98 [b.v] (.tup [none,none]) [.slice,.I] [] (RAr U8 b xs)
  (fun t Bs=>t.2.1=(QEU xs).1∧Bs=[Ar U8 t.1 (QEU xs).2]):=by
 refine sp2 (QLz _) fun B hr=>?_;have fb:Fro B b U8 xs:=⟨hr⟩;have hb:=hr.1;unfold QLz mf;dsimp only;rw[QAB ((b.n:Int) - 4) (by omega) (by omega)];refine QAA (fun h=>?_) (fun h=>?_)
 ·refine QAd U8 (QAD ?_);unfold QEU;rw[if_pos (by omega)];exact⟨rfl,rfl⟩
 obtain⟨k,hk⟩:∃k:Nat,xs.length=k+4:=⟨xs.length - 4,by omega⟩
 have hbk:(b.n:Int) - 4=(k:Int):=by omega
 rw[hbk,QAB ((k:Int)+1) (by omega) (by omega),QAB ((k:Int)+2) (by omega) (by omega),QAB ((k:Int)+3) (by omega) (by omega),show ((k:Int)+1)=((k+1:Nat):Int) by omega,show ((k:Int)+2)=((k+2:Nat):Int) by omega,show ((k:Int)+3)=((k+3:Nat):Int) by omega]
 have hgo:QEU xs=if xs.drop k=Qaw (QFZ 0 (xs.take k)) then (0,xs.take k) else (5,[]):=by
  unfold QEU;rw[if_neg (by omega),show xs.length - 4=k by omega]
 have fc:Fro B (b.cut 0 k b.c 1) U8 (xs.take k):=⟨by have:=hr.cut 0 k b.c (by omega) (by omega) (by omega);rw[List.drop_zero]at this;exact this⟩;refine QEh (by omega) (by omega) (by omega) (by omega) ?_;simp only[Int.toNat_natCast,Int.toNat_zero];refine xcl (QOo (b.cut 0 k b.c 1) (xs.take k) (by simp;omega)) rdb ?_;rintro⟨r,_⟩ _ ⟨h2,rfl⟩;obtain rfl:r=(QFZ 0 (xs.take k):Int):=h2;refine QAy (ca1 ?_);have x0:=List.getElem?_eq_getElem (l:=xs) (i:=k) (by omega);have x1:=List.getElem?_eq_getElem (l:=xs) (i:=k+1) (by omega);have x2:=List.getElem?_eq_getElem (l:=xs) (i:=k+2) (by omega);have x3:=List.getElem?_eq_getElem (l:=xs) (i:=k+3) (by omega)
 have hdrop:xs.drop k=[xs[k],xs[k+1],xs[k+2],xs[k+3]]:=by
  rw[List.drop_eq_getElem_cons (by omega),List.drop_eq_getElem_cons (by omega),List.drop_eq_getElem_cons (by omega),List.drop_eq_getElem_cons (by omega),List.drop_eq_nil_of_le (by omega)]
 generalize xs[k]=y0 at *
 generalize xs[k+1]=y1 at *
 generalize xs[k+2]=y2 at *
 generalize xs[k+3]=y3 at *
 rw[QCw (QFZ 0 (xs.take k)) (2 ^ (min (Int.toNat 8) 32)) 256 (by decide),QCw (QFZ 0 (xs.take k)) (2 ^ (min (Int.toNat 16) 32)) 65536 (by decide),QCw (QFZ 0 (xs.take k)) (2 ^ (min (Int.toNat 24) 32)) 16777216 (by decide),QAr,QAr,QAr,QAr];refine QAH (k:=k) (h1:=by omega) (h:=fun _ _=>?_);refine QAN x0 (h:=?_);refine QSb (fun K h=>QAH (k:=k+1) (h1:=by omega) (h:=fun _ _=>QAN x1 (h:=QA6 (by decide) h))) ?_;refine QSb (fun K h=>QAH (k:=k+2) (h1:=by omega) (h:=fun _ _=>QAN x2 (h:=QA6 (by decide) h))) ?_;refine QSb (fun K h=>QAH (k:=k+3) (h1:=by omega) (h:=fun _ _=>QAN x3 (h:=QA6 (by decide) h))) ?_;refine xif (fun h1=>?_) (fun h1=>?_)
 ·refine QAd U8 (QAD ?_);rw[hgo,if_neg (fun e=>?_)]
  ·exact⟨rfl,rfl⟩
  ·rw[hdrop]at e;simp only[Qaw,List.cons.injEq,and_true]at e;rw[QM5.2 e.1,QM5.2 e.2.1,QM5.2 e.2.2.1,QM5.2 e.2.2.2]at h1;cases h1
 ·simp only[Bool.or_eq_false_iff,QM5]at h1;rw[hgo,if_pos (by rw[hdrop,h1.1.1.1,h1.1.1.2,h1.1.2,h1.2];rfl)];refine QAL fun b1=>?_;refine QAe (Q:=Ar U8 ⟨some ⟨b1,0,none⟩,0,0⟩ []) 0 (fun g hg=>⟨[],QAm [] 0 rfl rfl hg⟩) ?_;refine QEh (by omega) (by omega) (by omega) (by omega) ?_;simp only[Int.toNat_natCast,Int.toNat_zero];refine QHb (E:=U8) (s:=⟨some ⟨b1,0,none⟩,0,0⟩) (y:=b.cut 0 k b.c 1) (hb:=by simp;omega) (h:=fun s1=>?_);rw[List.nil_append];exact QAK [Ar U8 s1 (xs.take k)] (QAD ⟨rfl,rfl⟩)
def QG7(n:Nat):Int:=if n=0 then 1 else if n>253 then 2 else 0
def QXD(u:UInt8):Bool:=decide (1≤u.toNat)&&decide (u.toNat≤247)
def QWS(u:UInt8)(pdu:List UInt8):Int×List UInt8:=if QXD u=false then (24,[]) else if QG7 pdu.length≠0 then (QG7 pdu.length,[]) else (0,QVX (u::pdu))
def QAo(xs:List UInt8):Int×UInt8×List UInt8:=
 if xs.length<4 then (1,0,[]) else if xs.length>256 then (2,0,[]) else
 if (QDR xs).1≠0 then ((QDR xs).1,0,[]) else if QXD ((QDR xs).2.headD 0)=false then (24,0,[]) else (0,(QDR xs).2.headD 0,(QDR xs).2.tail)
theorem QMh(u:UInt8):Ct Pr 159 [.int .u8 u.toNat] .one [.bool] [] emp (fun t Bs=>t.1=QXD u∧Bs=[]):=by
 refine sp1 (QKT _) fun B _=>?_;unfold QKT mf;dsimp only;refine QAD ⟨?_,rfl⟩;show (decide ((u.toNat:Int)≥1)&&decide ((u.toNat:Int)≤247))=_;unfold QXD;congr 1<;>exact decide_eq_decide.2 (by omega)
theorem QTu(s:Sl):Ct Pr 168 [s.v] .one [.I] [] emp (fun t Bs=>t.1=QG7 s.n∧Bs=[]):=by
 refine sp1 (QLp _) fun B _=>?_;unfold QLp mf;dsimp only;unfold QG7;refine xif (fun h=>QAD ⟨?_,rfl⟩) (fun h=>xif (fun h2=>QAD ⟨?_,rfl⟩) (fun h2=>QAD ⟨?_,rfl⟩))
 ·rw[if_pos (by simp at h;omega)]
 ·rw[if_neg (by simp at h;omega),if_pos (by simp at h2;omega)]
 ·rw[if_neg (by simp at h;omega),if_neg (by simp at h2;omega)]
theorem QVC(u:UInt8)(s:Sl)(pdu:List UInt8):Ct Pr 107 [.int .u8 u.toNat,s.v] (.tup [none,none]) [.slice,.I] [] (RAr U8 s pdu) (fun t Bs=>t.2.1=(QWS u pdu).1∧Bs=[Ar U8 t.1 (QWS u pdu).2]):=by
 refine sp2 (QRn _ _) fun B hr=>?_;have fb:Fro B s U8 pdu:=⟨hr⟩;have hs:=hr.1;unfold QRn mf;dsimp only;refine QAR (QMh u) rdb ?_;rintro⟨c,_⟩ _ ⟨hc,rfl⟩;obtain rfl:c=QXD u:=hc;unfold QWS;refine QAy (ca1 (xif (fun h=>?_) (fun h=>?_)))
 ·rw[if_pos (by simpa using h)];exact QAd U8 (QAD ⟨rfl,rfl⟩)
 rw[if_neg (by simpa using h)];refine QAR (QTu s) rdb ?_;rintro⟨r,_⟩ _ ⟨hr2,rfl⟩;obtain rfl:r=QG7 s.n:=hr2;rw[←hs];refine QAy (ca1 (xif (fun h=>?_) (fun h=>?_)))
 ·rw[if_pos (by simpa using h)];exact QAd U8 (QAD ⟨rfl,rfl⟩)
 rw[if_neg (by simpa using h)]
 have hl:1≤pdu.length∧pdu.length≤253:=by
  have:QG7 pdu.length=0:=by simpa using h
  unfold QG7 at this;split at this
  ·cases this
  ·split at this
   ·cases this
   ·omega
 rw[QAB _ (by omega) (by omega),show (1+(pdu.length:Int))=((1+pdu.length:Nat):Int) by omega];refine QRK U8 (by omega) (by simp;omega) (h:=fun b=>?_);simp only[Int.toNat_natCast];refine QAH (E:=U8) (xs:=List.replicate (1+pdu.length) U8.zero) (s:=⟨some ⟨b,0,none⟩,1+pdu.length,1+pdu.length⟩) (k:=0) (h1:=by simp;omega) (h:=fun y hy=>?_);refine QHd (E:=U8) u hy (hv:=rfl) (h:=?_)
 have e1:(List.replicate (1+pdu.length) U8.zero).set 0 u=u::List.replicate pdu.length 0:=by
  rw[Nat.add_comm,List.replicate_succ,List.set_cons_zero];rfl
 rw[e1];refine QEh (by omega) (by show (1:Int)≤((1+pdu.length:Nat):Int);omega) (by show ((1+pdu.length:Nat):Int)≤((1+pdu.length:Nat):Int);omega) (by show ((1+pdu.length:Nat):Int)≤((1+pdu.length:Nat):Int);omega) ?_;simp only[Int.toNat_natCast,Int.toNat_one];refine Qd8 0 fun zs h1 h2=>?_
 have hz:zs=[]:=by
  simp at h1 h2;exact List.length_eq_zero_iff.1 (by omega)
 subst hz;refine QRY (E:=U8) (s:=⟨some ⟨b,0,none⟩,1+pdu.length,1+pdu.length⟩) (y:=s) (ys:=pdu) (fun w hw=>(inferInstance:RdA B _ s U8 pdu).rd w hw) (u::pdu) [] (hrm:=Nat.le_refl _) (hlk:=by simp;omega) (hl:=by simp) (he:=by simp;omega) (h:=fun n=>?_);refine xar ?_;refine xcl (QS0 ⟨some ⟨b,0,none⟩,1+pdu.length,1+pdu.length⟩ (u::pdu) (by simp;omega)) rdb ?_;rintro⟨s2,_⟩ _ rfl;refine QA5 (ca1 ?_);exact QAK [Ar U8 s2 (QVX (u::pdu))] (QAD ⟨rfl,rfl⟩)
theorem QGc(s:Sl)(xs:List UInt8)(hcap:s.n≤s.c):Ct Pr 104 [s.v] (.tup [none,none,none]) [.int .u8,.slice,.I] [] (RAr U8 s xs)
  (fun t Bs=>t.1=(QAo xs).2.1.toNat∧t.2.2.1=(QAo xs).1∧Bs=[Ar U8 t.2.1 (QAo xs).2.2]):=by
 refine sp3 (QJG _) fun B hr=>?_;have fb:Fro B s U8 xs:=⟨hr⟩;have hs:=hr.1;unfold QJG mf;dsimp only;unfold QAo;refine QAA (fun h=>?_) (fun h=>?_)
 ·rw[if_pos (by omega)];exact QAd U8 (QAD ⟨rfl,rfl,rfl⟩)
 rw[if_neg (by omega)];refine QAA (fun h2=>?_) (fun h2=>?_)
 ·rw[if_pos (by omega)];exact QAd U8 (QAD ⟨rfl,rfl,rfl⟩)
 rw[if_neg (by omega)];refine QAR (QSl s xs (by omega) hcap) rdb ?_;rintro⟨s1,r,_⟩ _ ⟨hr1,rfl⟩;obtain rfl:r=(QDR xs).1:=hr1;refine QA5 (ca2 (xif (fun h3=>?_) (fun h3=>?_)))
 ·rw[if_pos (by simpa using h3)];exact QAd U8 (QAK [Ar U8 ⟨none,0,0⟩ []] (QAD ⟨rfl,rfl,rfl⟩))
 have h3':(QDR xs).1=0:=by simpa using h3
 rw[if_neg (by simpa using h3)]
 have hne:2≤(QDR xs).2.length:=by
  unfold QDR at h3' ⊢;rw[if_neg (by omega)]at h3' ⊢;split at h3'
  ·rename_i hh;rw[if_pos hh];simp;omega
  ·cases h3'
 generalize (QDR xs).2=l at hne
 obtain⟨y,l,rfl⟩:∃y m,l=y::m:=by cases l with|nil=>simp at hne|cons y m=>exact⟨y,m,rfl⟩
 refine QCm (E:=U8) (xs:=y::l) s1 fun hn1 hc1=>?_;refine QAH (E:=U8) (xs:=y::l) (s:=s1) (k:=0) (h1:=by simp) (h:=fun _ _=>?_);refine QAN (E:=U8) (xs:=y::l) (i:=0) (x:=y) rfl (h:=?_);refine QAR (QMh y) rdb ?_;rintro⟨c,_⟩ _ ⟨hc,rfl⟩;obtain rfl:c=QXD y:=hc;refine QAy (ca1 (xif (fun h4=>?_) (fun h4=>?_)))
 ·rw[if_pos (by simpa using h4)];exact QAd U8 (QAK [Ar U8 ⟨none,0,0⟩ []] (QAD ⟨rfl,rfl,rfl⟩))
 rw[if_neg (by simpa using h4)];refine QAO ?_;refine QAH (E:=U8) (xs:=y::l) (s:=s1) (k:=0) (h1:=by simp) (h:=fun _ _=>?_);refine QAN (E:=U8) (xs:=y::l) (i:=0) (x:=y) rfl (h:=?_)
 have hn1':l.length+1=s1.n:=by simpa using hn1
 refine QEh (by omega) (by omega) (by omega) (by omega) ?_;simp only[Int.toNat_natCast,Int.toNat_one];refine QAe (Q:=Ar U8 (s1.cut 1 s1.n s1.c 1) l) 0 (fun g hg=>?_) (QAD ⟨rfl,rfl,rfl⟩);obtain⟨zs,hz⟩:=hg;exact⟨zs,Ars.dropc hz 1 (by simp)⟩
theorem QFN{α:Type}{xs:List α}{k:Nat}{x:α}(h:xs[k]? = some x):xs.take k++[x]=xs.take (k+1):=by
 rw[List.take_add_one,h];rfl
def QCr(v:Int):List UInt8:=[UInt8.ofNat (v.toNat / 256),UInt8.ofNat v.toNat]
theorem QU7(s:Sl)(xs:List UInt8)(l:Sl)(vs:List Int)(hv:∀v∈vs,0≤v∧v≤65535)(hx:xs.length≤100000)(hl:vs.length≤100000):Ct Pr 170 [s.v,l.v] .one [.slice] [Ar U8 s xs] (RAr I64 l vs) (fun t Bs=>Bs=[Ar U8 t.1 (xs++vs.flatMap QCr)]):=by
 refine sp1 (QZl _ _) fun B hr=>?_;haveI:Fro B l I64 vs:=⟨hr⟩;have hn:vs.length=l.n:=hr.1;unfold QZl mf;dsimp only;refine QBb (fun n (b1:Sl) (x:Int) As'=>∃k:Nat,x=(k:Int)∧n=vs.length - k∧k≤vs.length∧As'=[Ar U8 b1 (xs++(vs.take k).flatMap QCr)]) vs.length ⟨0,rfl,rfl,by omega,by simp⟩ ?_;rintro n b1 x As' K ⟨k,rfl,rfl,hk,rfl⟩ hK
 have hlen:((vs.take k).flatMap QCr).length=2*k:=by
  rw[List.length_flatMap]
  have:(vs.take k).map (fun a=>(QCr a).length)=List.replicate k 2:=by
   apply List.ext_getElem
   ·simp;omega
   ·intro i h1 h2;simp[QCr]
  rw[this];simp;omega
 refine QAA (fun hp=>?_) (fun hp=>?_)
 ·have hp:k<vs.length:=by omega
  refine QAH (E:=I64) (xs:=vs) (s:=l) (h1:=hp) (h:=fun y hy=>?_);refine QAN (E:=I64) (xs:=vs) hy (h:=QA6 (by decide) ?_);obtain⟨hy0,hy1⟩:=hv y (List.mem_of_getElem? hy);obtain⟨m,rfl⟩:=Int.eq_ofNat_of_zero_le hy0;rw[QCw m _ 256 (by decide),QAr,QAr];refine QAL fun b2=>?_;refine QAe (Q:=Ar U8 ⟨some ⟨b2,0,none⟩,2,2⟩ (QCr (m:Int))) 0 (fun g hg=>⟨[],QAm (QCr (m:Int)) 2 rfl rfl hg⟩) ?_;refine QHb (E:=U8) (s:=b1) (y:=⟨some ⟨b2,0,none⟩,2,2⟩) (hb:=by simp[QCr,hlen];omega) (h:=fun s1=>?_);rw[QAF k (by omega),List.append_assoc]
  have e:(vs.take k).flatMap QCr++QCr (m:Int)=(vs.take (k+1)).flatMap QCr:=by
   rw[←QFN hy,List.flatMap_append];simp
  rw[e];exact QAK [Ar U8 s1 (xs++(vs.take (k+1)).flatMap QCr)] (hK (vs.length - (k+1)) _ _ _ (by omega) ⟨k+1,rfl,rfl,by omega,rfl⟩)
 ·rw[List.take_of_length_le (by omega)];exact QAD rfl
def QOz(code:Int):Bool:=(((code == 5)||(code == 6))||(code == 15))||(code == 16)
theorem QLJ(code addr count:Int)(on set ps:Sl):Ct Pr 109 [.agg #[.I code,.I addr,.I count,on.v,set.v,ps.v]] .one [.bool] [] emp (fun t Bs=>t.1=QOz code∧Bs=[]):=by
 refine sp1 (QNt _ _ _ _ _ _) fun B _=>?_;unfold QNt mf;dsimp only;refine QAL fun b=>QAE (s:=.I) (x:=code) (h:=?_);refine QSb (fun K h=>QAE (s:=.I) (x:=code) (h:=h)) ?_;refine QSb (fun K h=>QAE (s:=.I) (x:=code) (h:=h)) ?_;refine QSb (fun K h=>QAE (s:=.I) (x:=code) (h:=h)) ?_;exact QAa (l:=[]) (QAD ⟨rfl,rfl⟩)
def QHi(xs:List UInt8):Int:=
 let c:=(xs.getD 0 0).toNat
 if c=20∧xs.length<2∨15≤c∧c<20∧xs.length<6 then 1 else
 let n:=if c=20 then 2+(xs.getD 1 0).toNat else if 15≤c then 6+(xs.getD 5 0).toNat else 5
 if xs.length<n then 1 else if xs.length>n then 2 else 0
theorem QSh(b:Sl)(xs:List UInt8)(h1:1≤xs.length)(hc:(xs.getD 0 0).toNat≤20)(hm:xs.length≤1000000):Ct Pr 161 [b.v] .one [.I] [] (RAr U8 b xs) (fun t Bs=>t.1=QHi xs∧Bs=[]):=by
 refine sp1 (QQu _) fun B hr=>?_;haveI:Fro B b U8 xs:=⟨hr⟩;have hn:xs.length=b.n:=hr.1;unfold QQu mf;dsimp only;have x0:=List.getElem?_eq_getElem (l:=xs) (i:=0) (by omega)
 have e0:xs.getD 0 0=xs[0]:=by rw[List.getD_eq_getElem?_getD,x0];rfl
 rw[e0]at hc
 generalize xs[0]=y0 at *
 have hs:QHi xs=(if y0.toNat=20∧xs.length<2∨15≤y0.toNat∧y0.toNat<20∧xs.length<6 then 1 else
   if xs.length<(if y0.toNat=20 then 2+(xs.getD 1 0).toNat else if 15≤y0.toNat then 6+(xs.getD 5 0).toNat else 5) then 1 else if xs.length>(if y0.toNat=20 then 2+(xs.getD 1 0).toNat else if 15≤y0.toNat then 6+(xs.getD 5 0).toNat else 5) then 2 else 0):=by
  unfold QHi;rw[e0]
 refine QAH (E:=U8) (xs:=xs) (s:=b) (k:=0) (h1:=h1) (h:=fun _ _=>?_);refine QAN (E:=U8) (xs:=xs) x0 (h:=?_);refine QAS (fun(c:Bool) As'=>As'=[]∧(c=true↔(y0.toNat=20∧xs.length<2∨15≤y0.toNat∧y0.toNat<20∧xs.length<6))) (fun K hK=>?_) ?_
 ·refine xif (fun h=>hK _ _ ⟨rfl,?_⟩) (fun h=>?_)
  ·simp at h⊢;omega
  ·refine QAH (E:=U8) (xs:=xs) (s:=b) (k:=0) (h1:=h1) (h:=fun _ _=>?_);refine QAN (E:=U8) (xs:=xs) x0 (h:=?_);refine QAS (fun(c:Bool) As'=>As'=[]∧(c=true↔(15≤y0.toNat∧y0.toNat<20))) (fun K1 hK1=>?_) ?_
   ·refine QAA (fun h2=>?_) (fun h2=>hK1 _ _ ⟨rfl,by simp;omega⟩);refine QAH (E:=U8) (xs:=xs) (s:=b) (k:=0) (h1:=h1) (h:=fun _ _=>?_);refine QAN (E:=U8) (xs:=xs) x0 (h:=hK1 _ _ ⟨rfl,?_⟩);rw[decide_eq_true_eq];omega
   rintro c _ ⟨rfl,hcc⟩;refine hK _ _ ⟨rfl,?_⟩;rw[Bool.and_eq_true,decide_eq_true_eq,hcc];simp at h;omega
 rintro c _ ⟨rfl,hcc⟩;refine xif (fun h=>QAD ⟨?_,rfl⟩) (fun h=>?_)
 ·rw[hs,if_pos (hcc.1 h)]
 have hno:¬(y0.toNat=20∧xs.length<2∨15≤y0.toNat∧y0.toNat<20∧xs.length<6):=fun hh=>by rw[hcc.2 hh]at h;cases h
 rw[if_neg hno]at hs;refine QAH (E:=U8) (xs:=xs) (s:=b) (k:=0) (h1:=h1) (h:=fun _ _=>?_);refine QAN (E:=U8) (xs:=xs) x0 (h:=?_);generalize hN:(if y0.toNat=20 then 2+(xs.getD 1 0).toNat else if 15≤y0.toNat then 6+(xs.getD 5 0).toNat else 5)=n at hs;have hy0:=QGe y0;refine QAS (fun(m:Int) As'=>As'=[]∧m=(n:Int)) (fun K hK=>?_) ?_
 ·refine xif (fun h2=>?_) (fun h2=>?_)
  ·have h20:y0.toNat=20:=by simp at h2;omega
   have x1:=List.getElem?_eq_getElem (l:=xs) (i:=1) (by omega)
   have e1:xs.getD 1 0=xs[1]'(by omega):=by rw[List.getD_eq_getElem?_getD,x1];rfl
   rw[e1]at hN
   generalize xs[1]'(by omega)=y1 at *
   have hy1:=QGe y1;refine QAH (E:=U8) (xs:=xs) (s:=b) (k:=1) (h1:=by omega) (h:=fun _ _=>?_);refine QAN (E:=U8) (xs:=xs) x1 (h:=hK _ _ ⟨rfl,?_⟩);rw[QAB (y1.toNat:Int) (by omega) (by omega),QAB _ (by omega) (by omega)];rw[if_pos h20]at hN;omega
  ·have h20:y0.toNat≠20:=by simp at h2;omega
   rw[if_neg h20]at hN;refine QAH (E:=U8) (xs:=xs) (s:=b) (k:=0) (h1:=h1) (h:=fun _ _=>?_);refine QAN (E:=U8) (xs:=xs) x0 (h:=?_);refine QAS (fun(m:Int) As'=>As'=[]∧m=(n:Int)) (fun K1 hK1=>?_) ?_
   ·refine QAA (fun h3=>?_) (fun h3=>hK1 _ _ ⟨rfl,?_⟩)
    ·have h15:15≤y0.toNat:=by omega
     rw[if_pos h15]at hN;have x5:=List.getElem?_eq_getElem (l:=xs) (i:=5) (by omega)
     have e5:xs.getD 5 0=xs[5]'(by omega):=by rw[List.getD_eq_getElem?_getD,x5];rfl
     rw[e5]at hN
     generalize xs[5]'(by omega)=y5 at *
     have hy5:=QGe y5;refine QAH (E:=U8) (xs:=xs) (s:=b) (k:=5) (h1:=by omega) (h:=fun _ _=>?_);refine QAN (E:=U8) (xs:=xs) x5 (h:=hK1 _ _ ⟨rfl,?_⟩);rw[QAB (y5.toNat:Int) (by omega) (by omega),QAB _ (by omega) (by omega)];omega
    ·rw[if_neg (by omega)]at hN;omega
   rintro m _ ⟨rfl,hm1⟩;exact hK _ _ ⟨rfl,hm1⟩
 rintro m _ ⟨rfl,hm1⟩;obtain rfl:m=(n:Int):=hm1;rw[hs];refine QAA (fun h2=>QAD ⟨?_,rfl⟩) (fun h2=>QAA (fun h3=>QAD ⟨?_,rfl⟩) (fun h3=>QAD ⟨?_,rfl⟩))
 ·rw[if_pos (by omega)]
 ·rw[if_neg (by omega),if_pos (by omega)]
 ·rw[if_neg (by omega),if_neg (by omega)]
def be2(xs:List UInt8)(i:Nat):Nat:=(xs.getD i 0).toNat*256+(xs.getD (i+1) 0).toNat
def QMp:Nat→List UInt8→List P3→List P3×Bool
 | 0,_,_=>([],false)
 | n+1,xs,acc=>if 7≤xs.length then (if xs.getD 0 0=6 then QMp n (xs.drop 7) (acc++[((be2 xs 1:Int),(be2 xs 3:Int),(be2 xs 5:Int))]) else ([],false)) else (acc,decide (xs.length=0))
theorem QTB:∀(n m:Nat) (xs:List UInt8) (acc:List P3),xs.length<n→xs.length<m→QMp n xs acc=QMp m xs acc:=by
 intro n
 induction n with
 | zero=>intro m xs acc h _;omega
 | succ n ih=>
  intro m xs acc h1 h2;obtain⟨m,rfl⟩:∃k,m=k+1:=⟨m - 1,by omega⟩;unfold QMp;split
  ·split
   ·exact ih m _ _ (by simp;omega) (by simp;omega)
   ·rfl
  ·rfl
def QKA(xs:List UInt8):List P3×Bool:=QMp (xs.length+1) xs []
theorem QWf(b:Sl)(xs:List UInt8)(hm:xs.length≤1000)(hcap:b.n≤b.c):Ct Pr 249 [b.v] (.tup [none,none]) [.slice,.bool] [] (RAr U8 b xs) (fun t Bs=>t.2.1=(QKA xs).2∧Bs=[Ar PaE t.1 (QKA xs).1]):=by
 refine sp2 (QQT _) fun B hr=>?_;unfold QQT mf;dsimp only;refine QAd PaE ?_;refine QAK [Ar PaE ⟨none,0,0⟩ []] ?_;refine QBb (fun n (l:Sl) (b1:Sl) As'=>∃(ys:List UInt8) (acc:List P3),RAr U8 b1 ys (frz B.W B.h0)∧b1.n≤b1.c∧n=ys.length∧ys.length+7*acc.length≤1000∧QKA xs=QMp (n+1) ys acc∧As'=[Ar PaE l acc]) xs.length ⟨xs,[],hr,hcap,rfl,by simpa using hm,rfl,rfl⟩ ?_;rintro n l b1 As' K ⟨ys,acc,hy,hc1,rfl,hle,hp,rfl⟩ hK;haveI:Fro B b1 U8 ys:=⟨hy⟩;have hn:ys.length=b1.n:=hy.1;unfold QMp at hp;refine QAA (fun h=>?_) (fun h=>?_)
 ·have h7:7≤ys.length:=by omega
  rw[if_pos h7]at hp;have x0:=List.getElem?_eq_getElem (l:=ys) (i:=0) (by omega);have x1:=List.getElem?_eq_getElem (l:=ys) (i:=1) (by omega);have x2:=List.getElem?_eq_getElem (l:=ys) (i:=2) (by omega);have x3:=List.getElem?_eq_getElem (l:=ys) (i:=3) (by omega);have x4:=List.getElem?_eq_getElem (l:=ys) (i:=4) (by omega);have x5:=List.getElem?_eq_getElem (l:=ys) (i:=5) (by omega);have x6:=List.getElem?_eq_getElem (l:=ys) (i:=6) (by omega);rw[show be2 ys 1=ys[1].toNat*256+ys[2].toNat by unfold be2;rw[QCf x1,QCf x2],show be2 ys 3=ys[3].toNat*256+ys[4].toNat by unfold be2;rw[QCf x3,QCf x4],show be2 ys 5=ys[5].toNat*256+ys[6].toNat by unfold be2;rw[QCf x5,QCf x6],QCf x0]at hp
  generalize ys[0]=y0 at *
  generalize ys[1]=y1 at *
  generalize ys[2]=y2 at *
  generalize ys[3]=y3 at *
  generalize ys[4]=y4 at *
  generalize ys[5]=y5 at *
  generalize ys[6]=y6 at *
  refine QAH (k:=0) (h1:=by omega) (h:=fun _ _=>?_);refine QAN x0 (h:=?_);refine xif (fun h6=>?_) (fun h6=>?_)
  ·have e6:y0=6:=by
    have:y0.toNat=6:=by simp at h6;omega
    exact UInt8.toNat_inj.1 this
   rw[if_pos e6]at hp;refine QAO ?_;refine QAH (k:=1) (h1:=by omega) (h:=fun _ _=>?_);refine QAN x1 (h:=QA6 (by decide) ?_);refine QAH (k:=2) (h1:=by omega) (h:=fun _ _=>?_);refine QAN x2 (h:=?_);refine QAH (k:=3) (h1:=by omega) (h:=fun _ _=>?_);refine QAN x3 (h:=QA6 (by decide) ?_);refine QAH (k:=4) (h1:=by omega) (h:=fun _ _=>?_);refine QAN x4 (h:=?_);refine QAH (k:=5) (h1:=by omega) (h:=fun _ _=>?_);refine QAN x5 (h:=QA6 (by decide) ?_);refine QAH (k:=6) (h1:=by omega) (h:=fun _ _=>?_);refine QAN x6 (h:=?_);rw[QOb y1 y2,QOb y3 y4,QOb y5 y6];refine QAL fun b2=>?_;refine QEc (E:=PaE) (((y1.toNat*256+y2.toNat:Nat):Int),((y3.toNat*256+y4.toNat:Nat):Int),((y5.toNat*256+y6.toNat:Nat):Int)) (hb:=by omega) (h:=fun s1=>?_);refine QEh (by omega) (by omega) (by omega) (by omega) ?_;simp only[Int.toNat_natCast];refine hK (ys.length - 7) _ _ _ (by omega) ⟨ys.drop 7,acc++[(((y1.toNat*256+y2.toNat:Nat):Int),((y3.toNat*256+y4.toNat:Nat):Int),((y5.toNat*256+y6.toNat:Nat):Int))],QOH b1 ys hy 7 h7 hc1,?_,by simp,by simp;omega,?_,rfl⟩
   ·show (b1.cut 7 b1.n b1.c 1).n≤(b1.cut 7 b1.n b1.c 1).c;unfold Sl.cut;split<;>simp only<;>omega
   ·rw[hp];exact QTB _ _ _ _ (by simp only[List.length_drop];omega) (by simp only[List.length_drop];omega)
  ·have e6:¬y0=6:=fun e=>by subst e;simp at h6
   rw[if_neg e6]at hp;rw[hp];exact QAd PaE (QAK [Ar PaE ⟨none,0,0⟩ []] (QAD ⟨rfl,rfl⟩))
 ·rw[if_neg (by omega)]at hp;rw[hp];refine QAD ⟨?_,rfl⟩;show ((b1.n:Int) == 0)=_;rw[←hn];rcases Nat.eq_zero_or_pos ys.length with h0|h0
  ·simp[h0]
  ·have:ys.length≠0:=by omega
   simp[this]
def QAs(c:Int):Tup [.I,.bool,.bool,.bool,.bool,.bool]:=
 if c=1∨c=2 then (2000,true,false,false,false,true,()) else
 if c=3∨c=4 then (125,true,false,false,false,true,()) else
 if c=5 then (1,false,true,false,false,true,()) else
 if c=6 then (1,false,false,true,false,true,()) else
 if c=15 then (1968,false,true,false,false,true,()) else
 if c=16 then (123,false,false,true,false,true,()) else
 if c=20 then (35,false,false,false,true,true,()) else
 (0,false,false,false,false,false,())
theorem QMQ(c:Int):Ct Pr 160 [.I c] (.tup [some 5,none]) [.I,.bool,.bool,.bool,.bool,.bool] [] emp (fun t Bs=>t=QAs c∧Bs=[]):=by
 refine QAg (ss:=[.I,.bool,.bool,.bool,.bool,.bool]) (φ:=fun K=>(QIA _ K).1) (fun h=>cf _ rfl (by kernel_rfl) h) fun B _=>?_;show Ent B [] (QIA c fun x0 x1 x2 x3 x4 x5=>Ret B (ss:=[.I,.bool,.bool,.bool,.bool,.bool]) (fun t Bs=>t=QAs c∧Bs=[]) (x0,x1,x2,x3,x4,x5,()));unfold QIA mf;dsimp only
 have key:∀{P:Prop} [Decidable P] {b:Bool},(b=true↔P)→(b=false↔¬P):=fun h=>by
  rename_i P _ b
  cases b<;>simp_all
 refine QAL fun b=>?_;refine QAS (fun(x:Bool) As'=>As'=[Blk b [.I 0,.bool false,.bool false,.bool false,.bool false]]∧(x=true↔(c=1∨c=2))) (fun K hK=>?_) ?_
 ·refine xif (fun h=>hK _ _ ⟨rfl,?_⟩) (fun h=>hK _ _ ⟨rfl,?_⟩)
  ·simp at h⊢;omega
  ·simp at h⊢;omega
 rintro x _ ⟨rfl,hx⟩;refine xif (fun h=>?_) (fun h=>?_)
 ·iterate 5 (refine xsq ?_)
  iterate 5 (refine xgq ?_)
  have e:QAs c=(2000,true,false,false,false,true,()):=by unfold QAs;rw[if_pos (hx.1 h)]
  rw[e];exact QAa (l:=[]) (QAD ⟨rfl,rfl⟩)
 have n1:=(key hx).1 h;refine QAS (fun(x:Bool) As'=>As'=[Blk b [.I 0,.bool false,.bool false,.bool false,.bool false]]∧(x=true↔(c=3∨c=4))) (fun K hK=>?_) ?_
 ·refine xif (fun h=>hK _ _ ⟨rfl,?_⟩) (fun h=>hK _ _ ⟨rfl,?_⟩)
  ·simp at h⊢;omega
  ·simp at h⊢;omega
 rintro x2 _ ⟨rfl,hx2⟩;refine xif (fun h=>?_) (fun h=>?_)
 ·iterate 5 (refine xsq ?_)
  iterate 5 (refine xgq ?_)
  have e:QAs c=(125,true,false,false,false,true,()):=by unfold QAs;rw[if_neg n1,if_pos (hx2.1 h)]
  rw[e];exact QAa (l:=[]) (QAD ⟨rfl,rfl⟩)
 have n2:=(key hx2).1 h;refine xif (fun h=>?_) (fun h=>?_)
 ·iterate 5 (refine xsq ?_)
  iterate 5 (refine xgq ?_)
  have e:QAs c=(1,false,true,false,false,true,()):=by unfold QAs;rw[if_neg n1,if_neg n2,if_pos (by simpa using h)]
  rw[e];exact QAa (l:=[]) (QAD ⟨rfl,rfl⟩)
 have n3:¬c=5:=by simpa using h
 refine xif (fun h=>?_) (fun h=>?_)
 ·iterate 5 (refine xsq ?_)
  iterate 5 (refine xgq ?_)
  have e:QAs c=(1,false,false,true,false,true,()):=by unfold QAs;rw[if_neg n1,if_neg n2,if_neg n3,if_pos (by simpa using h)]
  rw[e];exact QAa (l:=[]) (QAD ⟨rfl,rfl⟩)
 have n4:¬c=6:=by simpa using h
 refine xif (fun h=>?_) (fun h=>?_)
 ·iterate 5 (refine xsq ?_)
  iterate 5 (refine xgq ?_)
  have e:QAs c=(1968,false,true,false,false,true,()):=by unfold QAs;rw[if_neg n1,if_neg n2,if_neg n3,if_neg n4,if_pos (by simpa using h)]
  rw[e];exact QAa (l:=[]) (QAD ⟨rfl,rfl⟩)
 have n5:¬c=15:=by simpa using h
 refine xif (fun h=>?_) (fun h=>?_)
 ·iterate 5 (refine xsq ?_)
  iterate 5 (refine xgq ?_)
  have e:QAs c=(123,false,false,true,false,true,()):=by unfold QAs;rw[if_neg n1,if_neg n2,if_neg n3,if_neg n4,if_neg n5,if_pos (by simpa using h)]
  rw[e];exact QAa (l:=[]) (QAD ⟨rfl,rfl⟩)
 have n6:¬c=16:=by simpa using h
 refine xif (fun h=>?_) (fun h=>?_)
 ·iterate 5 (refine xsq ?_)
  iterate 5 (refine xgq ?_)
  have e:QAs c=(35,false,false,false,true,true,()):=by unfold QAs;rw[if_neg n1,if_neg n2,if_neg n3,if_neg n4,if_neg n5,if_neg n6,if_pos (by simpa using h)]
  rw[e];exact QAa (l:=[]) (QAD ⟨rfl,rfl⟩)
 have n7:¬c=20:=by simpa using h
 iterate 5 (refine xsq ?_)
 iterate 5 (refine xgq ?_)
 have e:QAs c=(0,false,false,false,false,false,()):=by unfold QAs;rw[if_neg n1,if_neg n2,if_neg n3,if_neg n4,if_neg n5,if_neg n6,if_neg n7]
 rw[e];exact QAa (l:=[]) (QAD ⟨rfl,rfl⟩)
theorem QfR{c d:Bool}{φ:(Bool→WP)→WP}{rest:Bool→WP}(hφ:∀K:Bool→WP,Ent B As (K d)→Ent B As (φ K))(h:Ent B As (rest (c||d))):Ent B As (QBc [.bool] (fun(K':Bool→WP)=>XIf c (K' c) (φ K')) rest):=by
 refine QAJ (xif (fun e=>?_) (fun e=>hφ _ ?_))
 ·rw[e,Bool.true_or]at h;rw[e];exact h
 ·rw[e,Bool.false_or]at h;exact h
def QKh(c o s:Bool)(count:Int)(no ns np:Nat):Int:=if c then count else if o then (no:Int) else if s then (ns:Int) else (np:Int)
theorem QVi(m:Int)(c o s n:Bool)(code addr count:Int)(s1 s2 s3:Sl):Ct Pr 252 [.agg #[.I m,.bool c,.bool o,.bool s,.bool n],.agg #[.I code,.I addr,.I count,s1.v,s2.v,s3.v]] .one [.I] [] emp
  (fun t Bs=>t.1=QKh c o s count s1.n s2.n s3.n∧Bs=[]):=by
 refine sp1 (QT7 _ _ _ _ _ _ _ _ _ _ _) fun B _=>?_;unfold QT7 mf;dsimp only;refine QAL fun b=>QAL fun b1=>?_;unfold QKh;refine QAE (s:=.bool) (x:=c) (h:=xif (fun h=>QAE (s:=.I) (x:=count) (h:=QAa (l:=[]) (QAD ⟨?_,rfl⟩))) (fun h=>QAE (s:=.bool) (x:=o) (h:=xif (fun h2=>QAE (s:=.slice) (x:=s1) (h:=QAa (l:=[]) (QAD ⟨?_,rfl⟩))) (fun h2=>QAE (s:=.bool) (x:=s) (h:=xif (fun h3=>QAE (s:=.slice) (x:=s2) (h:=QAa (l:=[]) (QAD ⟨?_,rfl⟩))) (fun h3=>QAE (s:=.slice) (x:=s3) (h:=QAa (l:=[]) (QAD ⟨?_,rfl⟩))))))))
 ·rw[h];rfl
 ·rw[h,h2];rfl
 ·rw[h,h2,h3];rfl
 ·rw[h,h2,h3];rfl
def askE(code addr count:Int)(no ns:Nat)(ps:List P3):Int:=
 if (QAs code).2.2.2.2.2.1=false then 20 else
 if ((!(QAs code).2.1)&&(count != 0))||(((!(QAs code).2.2.1)&&decide ((no:Int)>0))||(((!(QAs code).2.2.2.1)&&decide ((ns:Int)>0))||(((!(QAs code).2.2.2.2.1)&&decide ((ps.length:Int)>0))||((QAs code).2.2.2.2.1&&(addr != 0))))) then 23 else
 if addr<0∨addr>65535 then 21 else
 let m:=QKh (QAs code).2.1 (QAs code).2.2.1 (QAs code).2.2.2.1 count no ns ps.length
 if m<1∨m>(QAs code).1 then 22 else
 if (QAs code).2.2.2.2.1=false∧addr+m>65536 then 21 else QUD 245 ps
theorem QGl(code addr count:Int)(on set s:Sl)(ps:List P3):Ct Pr 163 [.agg #[.I code,.I addr,.I count,on.v,set.v,s.v]] .one [.I] [] (RAr PaE s ps) (fun t Bs=>t.1=askE code addr count on.n set.n ps∧Bs=[]):=by
 refine QGr QZK fun B hr=>?_;haveI:Fro B s PaE ps:=⟨hr⟩;have hsn:=hr.1;obtain⟨V,hV⟩:∃V,askE code addr count on.n set.n ps=V:=⟨_,rfl⟩;rw[hV];have fin:∀{x:Int}{As:List HP},V=x→Ent B As (Ret B (ss:=[.I]) (fun r Bs=>r.1=V∧Bs=[]) (x,())):=fun h=>QAa (l:=[]) (QAD ⟨h.symm,rfl⟩);unfold QT0;refine QAL fun b=>QAE (s:=.I) (x:=code) (h:=?_);refine QAR (QMQ code) rdb ?_;rintro t _ ⟨ht,rfl⟩;unfold askE at hV;rw[←ht]at hV;obtain⟨(most:Int),(c:Bool),(o:Bool),(st:Bool),(n:Bool),(ok:Bool),u⟩:=t;simp only at hV;subst hV;refine QAy (ca6 (QAL fun b1=>?_));iterate 5 (refine xsq ?_)
 refine xeq QPV ?_;unfold QHt;refine xif (fun h=>fin ?_) (fun hok=>?_)
 ·rw[if_pos (by simpa using h)]
 rw[if_neg (by simpa using hok)]at fin;rw[if_neg (by simpa using hok)];refine QAE (s:=.bool) (x:=c) (h:=QFu (fun K h=>QAE (s:=.I) (x:=count) (h:=h)) ?_);refine QfR (fun K h=>QAE (s:=.bool) (x:=o) (h:=QFu (fun K h=>QAE (s:=.slice) (x:=on) (h:=h)) (QfR (fun K h=>QAE (s:=.bool) (x:=st) (h:=QFu (fun K h=>QAE (s:=.slice) (x:=set) (h:=h)) (QfR (fun K h=>QAE (s:=.bool) (x:=n) (h:=QFu (fun K h=>QAE (s:=.slice) (x:=s) (h:=h)) (QfR (fun K h=>QAE (s:=.bool) (x:=n) (h:=QFu (fun K h=>QAE (s:=.I) (x:=addr) (h:=h)) h)) h))) h))) h))) ?_;rw[←hsn];refine xif (fun h=>fin ?_) (fun hbad=>?_)
 ·rw[if_pos h]
 rw[if_neg (by rw[hbad];decide)]at fin;rw[if_neg (by rw[hbad];decide)];refine QAE (s:=.I) (x:=addr) (h:=QSb (fun K h=>QAE (s:=.I) (x:=addr) (h:=h)) (xif (fun h=>fin ?_) (fun hadd=>?_)))
 ·rw[if_pos (by simpa using h)]
 have hadd':¬(addr<0∨addr>65535):=by simpa using hadd
 rw[if_neg hadd']at fin;rw[if_neg hadd'];refine xeq QPk ?_;unfold QIO;refine QAE (s:=.I) (x:=most) (h:=QAE (s:=.bool) (x:=c) (h:=QAE (s:=.bool) (x:=o) (h:=QAE (s:=.bool) (x:=st) (h:=QAE (s:=.bool) (x:=n) (h:=?_)))));refine QAE (s:=.I) (x:=code) (h:=QAE (s:=.I) (x:=addr) (h:=QAE (s:=.I) (x:=count) (h:=QAE (s:=.slice) (x:=on) (h:=QAE (s:=.slice) (x:=set) (h:=QAE (s:=.slice) (x:=s) (h:=?_))))));refine QAR (QVi most c o st n code addr count on set s) rdb ?_;rintro⟨(m:Int),_⟩ _ ⟨hm,rfl⟩;have hm:m=QKh c o st count on.n set.n s.n:=hm;rw[←hsn]at hm;rw[←hm]at fin⊢;refine QAy (ca1 (QSb (fun K h=>QAE (s:=.I) (x:=most) (h:=h)) (xif (fun h=>fin ?_) (fun hmm=>?_))))
 ·rw[if_pos (by simpa using h)]
 have hmm':¬(m<1∨m>most):=by simpa using hmm
 rw[if_neg hmm']at fin;rw[if_neg hmm']
 have hmost:most≤2000:=by
  have h1:most=(QAs code).1:=by rw[←ht]
  rw[h1];unfold QAs;repeat' split
  all_goals decide
 refine QAE (s:=.bool) (x:=n) (h:=QFu (fun K h=>QAE (s:=.I) (x:=addr) (h:=h)) (xif (fun h=>fin ?_) (fun hw=>?_)))
 ·rw[QAB _ (by omega) (by omega)]at h;rw[if_pos (by simpa using h)]
 rw[QAB _ (by omega) (by omega)]at hw
 have hw':¬(n=false∧addr+m>65536):=by simpa using hw
 rw[if_neg hw']at fin;rw[if_neg hw']
 have hpl:ps.length≤2000:=by
  have h20:(QAs code).2.2.2.2.1=true→(QAs code).2.1=false∧(QAs code).2.2.1=false∧(QAs code).2.2.2.1=false:=by
   unfold QAs;repeat' split
   all_goals simp
  rw[←ht]at h20;simp only at h20
  cases n with
  | true=>
   obtain⟨q1,q2,q3⟩:=h20 rfl;subst q1 q2 q3;have:m=(ps.length:Int):=hm;omega
  | false=>
   simp at hbad;have:=hbad.2.2.2;simp[this]
 refine xeq QPQ ?_;unfold QLi;refine xgq ?_;refine QAK [] ?_;refine QBb (fun n (room:Int) (x4:Int) As'=>∃k:Nat,x4=(k:Int)∧n=ps.length - k∧k≤ps.length∧QUD 245 ps=QUD room (ps.drop k)∧-(20002*(k:Int))≤room∧room≤245∧As'=[]) ps.length ⟨0,rfl,by omega,by omega,rfl,by omega,by omega,rfl⟩ ?_;rintro n room _ _ K ⟨k,rfl,rfl,hk,he,r1,r2,rfl⟩ hK;refine QAA (fun hlt=>?_) (fun hlt=>?_)
 ·have hkl:k<ps.length:=by omega
  obtain⟨⟨a,f,c⟩,hy⟩:∃y,ps[k]? = some y:=⟨_,List.getElem?_eq_getElem hkl⟩
  have hdrop:ps.drop k=(a,f,c)::ps.drop (k+1):=by rw[List.drop_eq_getElem_cons hkl];congr 1;exact (List.getElem?_eq_some_iff.1 hy).2
  rw[hdrop,QUD]at he;refine QAH (E:=PaE) (xs:=ps) (s:=s) (h1:=hkl) (h:=fun _ _=>?_);refine QAN (E:=PaE) (xs:=ps) hy (h:=?_);refine QAZ (E:=PaE) (xs:=ps) hy (h:=?_);refine QAZ (E:=PaE) (xs:=ps) hy (h:=?_)
  (try dsimp only)
  refine QAL fun b2=>?_;iterate 3 (refine xsq ?_)
  refine xgq ?_;refine QAS (fun(x:Bool) As'=>x=(decide (a<1)||decide (a>65535))∧As'=[Blk b2 [.I a,.I f,.I c]]) (fun K1 hK1=>xif (fun h=>hK1 _ _ ⟨by rw[h];rfl,rfl⟩) (fun h=>QAE (h:=hK1 _ _ ⟨by rw[h];rfl,rfl⟩))) ?_;rintro x _ ⟨hx,rfl⟩;refine QAS (fun(y:Bool) As'=>y=(x||decide (f<0))∧As'=[Blk b2 [.I a,.I f,.I c]]) (fun K1 hK1=>xif (fun h=>hK1 _ _ ⟨by rw[h];rfl,rfl⟩) (fun h=>QAE (h:=hK1 _ _ ⟨by rw[h];rfl,rfl⟩))) ?_;rintro x2 _ ⟨hx2,rfl⟩;refine QAS (fun(y:Bool) As'=>y=(x2||decide (f≥10000))∧As'=[Blk b2 [.I a,.I f,.I c]]) (fun K1 hK1=>xif (fun h=>hK1 _ _ ⟨by rw[h];rfl,rfl⟩) (fun h=>QAE (h:=hK1 _ _ ⟨by rw[h];rfl,rfl⟩))) ?_;rintro x3 _ ⟨hx3,rfl⟩;refine QAS (fun(y:Bool) As'=>y=(x3||decide (c<1))∧As'=[Blk b2 [.I a,.I f,.I c]]) (fun K1 hK1=>xif (fun h=>hK1 _ _ ⟨by rw[h];rfl,rfl⟩) (fun h=>QAE (h:=hK1 _ _ ⟨by rw[h];rfl,rfl⟩))) ?_;rintro x4 _ ⟨hx4,rfl⟩
  have hf:x4=false→0≤f∧f<10000∧1≤c:=fun h=>by
   rw[h]at hx4;have h4:=hx4.symm;rw[Bool.or_eq_false_iff]at h4;rw[hx3,hx2]at h4;simp at h4;omega
  refine QAS (fun(y:Bool) As'=>y=(x4||decide (c>10000 - f))∧As'=[Blk b2 [.I a,.I f,.I c]]) (fun K1 hK1=>xif (fun h=>hK1 _ _ ⟨by rw[h];rfl,rfl⟩) (fun h=>xgq (xgq (hK1 _ _ ⟨?_,rfl⟩)))) ?_
  ·obtain⟨f0,f1,_⟩:=hf h;rw[h,QAB _ (by omega) (by omega)];rfl
  rintro x5 _ ⟨hx5,rfl⟩
  have hp:x5=QZs (a,f,c):=by rw[hx5,hx4,hx3,hx2,hx];rfl
  rw[←hp]at he;refine xif (fun h=>fin ?_) (fun h=>xgq ?_)
  ·rw[he,if_pos h]
  rw[if_neg (by rw[h];simp)]at he;rw[h]at hx5;have h5:=hx5.symm;rw[Bool.or_eq_false_iff]at h5;obtain⟨f0,f1,f2⟩:=hf h5.1
  have f3:c≤10000 - f:=by have:=h5.2;simp at this;omega
  have w1:IntKind.i64.wrap (room - IntKind.i64.wrap (2+IntKind.i64.wrap (2*c)))=room - (2+2*c):=by
   rw[QAB (2*c) (by omega) (by omega),QAB (2+2*c) (by omega) (by omega),QAB _ (by omega) (by omega)]
  rw[w1,QAF k (by omega)];refine QAK [] ?_;exact hK _ _ _ _ (by omega) ⟨k+1,rfl,rfl,by omega,he,by omega,by omega,rfl⟩
 ·rw[List.drop_of_length_le (by omega),QUD]at he;refine QAA (fun h=>fin ?_) (fun h=>fin ?_)
  ·rw[he,if_pos h]
  ·rw[he,if_neg h]
end Go.Cx
namespace Go.Cx
open Go Go.Cf Go.Cx
set_option linter.unusedVariables false
set_option maxRecDepth 100000
variable {B:QBE}{As F:List HP}{α:Type}
def QDH(used:Bool)(v:Int):Bool:=v == 0||(used&&decide (-1099511627776≤v)&&decide (v≤1099511627776))
def QZ5(ulow uhigh:Bool)(low high hyst:Int):Int:=
 if hyst<0∨hyst>1099511627776∨QDH ulow low=false∨QDH uhigh high=false∨(ulow=true∧uhigh=true∧hyst≥high - low) then 27 else 0
theorem QVg(u:Bool)(v:Int):Ct Pr 349 [.bool u,.I v] .one [.bool] [] emp (fun t Bs=>t.1=QDH u v∧Bs=[]):=by
 refine sp1 (QLV _ _) fun B _=>?_;unfold QLV mf;dsimp only;refine QAJ (xif (fun h=>QAD ⟨?_,rfl⟩) (fun h=>QAD ⟨?_,rfl⟩))
 ·simp only[QDH,h,Bool.true_or]
 ·simp only[QDH,h,Bool.false_or,ge_iff_le]
theorem QI0(ulow uhigh latch:Bool)(low high hyst:Int):Ct Pr 258 [.agg #[.bool ulow,.bool uhigh,.bool latch,.I low,.I high,.I hyst]] .one [.I] [] emp (fun t Bs=>t.1=QZ5 ulow uhigh low high hyst∧Bs=[]):=by
 refine sp1 (QMF _ _ _ _ _ _) fun B _=>?_;have fin:∀{x:Int}{As:List HP},x=QZ5 ulow uhigh low high hyst→Ent B As (Ret B (ss:=[.I]) (fun t Bs=>t.1=QZ5 ulow uhigh low high hyst∧Bs=[]) (x,())):=fun h=>QAa (l:=[]) (QAD ⟨h,rfl⟩)
 have hW:IntKind.i64.wrap (high - low)=high - low∨low < -1099511627776∨low>1099511627776∨high < -1099511627776∨high>1099511627776:=by
  by_cases h:low < -1099511627776∨low>1099511627776∨high < -1099511627776∨high>1099511627776
  ·exact .inr h
  ·exact .inl (QAB _ (by omega) (by omega))
 unfold QMF mf;dsimp only;cases ulow<;>cases uhigh
 all_goals
  refine QAL fun b=>?_;repeat' (first|refine QAJ ?_|refine QBz rfl ?_|refine QBF rfl ?_|refine xgq ?_|(refine QAR (QVg _ _) rdb ?_;rintro⟨x,_⟩ _ ⟨hx,rfl⟩;simp only at hx;subst hx;refine QAy (ca1 ?_))|refine xif (fun h0=>?_) (fun h0=>?_))
  all_goals
   refine fin ?_
   simp only[QDH,Bool.or_eq_true,Bool.or_eq_false_iff,decide_eq_true_eq,decide_eq_false_iff_not,bne_iff_ne,ne_eq,bne_eq_false_iff_eq,Bool.not_eq_true',Bool.not_eq_false',Bool.false_and,Bool.true_and,Bool.or_false,beq_eq_false_iff_ne,beq_iff_eq,Bool.and_eq_true,Bool.and_eq_false_iff,true_and,false_and,Bool.false_eq_true,and_false,or_false]at *
   simp only[QZ5,QDH,Bool.false_and,Bool.true_and,Bool.or_false,Bool.or_eq_false_iff,beq_eq_false_iff_ne,ne_eq,Bool.and_eq_false_iff,decide_eq_false_iff_not,true_and,false_and,Bool.false_eq_true,and_false,or_false];first|rw[if_pos (by omega)]|rw[if_neg (by omega)]
end Go.Cx
namespace Go.Cx
open Go Go.Cf
set_option linter.unusedVariables false
set_option maxRecDepth 100000
variable {B:QBE}{As F:List HP}
section
variable (b:Nat) (ulow uhigh latch:Bool) (low high hyst v:Int)
theorem QWD:Ct Pr 489 [.I v,.pointer (some ⟨b,0,none⟩)] .one [.bool] [Blk b [.bool ulow,.bool uhigh,.bool latch,.I low,.I high,.I hyst]] emp
  (fun t Bs=>t.1=(ulow&&decide (v≤low))∧Bs=[Blk b [.bool ulow,.bool uhigh,.bool latch,.I low,.I high,.I hyst]]):=by
 refine sp1 (QI8 _ _) fun B _=>?_;unfold QI8 mf;dsimp only;exact QAE (s:=.bool) (x:=ulow) (hv:=rfl) (h:=QFu (fun K h=>QAE (s:=.I) (x:=low) (hv:=rfl) (h:=h)) (QAD ⟨rfl,rfl⟩))
theorem QVZ:Ct Pr 491 [.I v,.pointer (some ⟨b,0,none⟩)] .one [.bool] [Blk b [.bool ulow,.bool uhigh,.bool latch,.I low,.I high,.I hyst]] emp
  (fun t Bs=>t.1=(uhigh&&decide (v≥high))∧Bs=[Blk b [.bool ulow,.bool uhigh,.bool latch,.I low,.I high,.I hyst]]):=by
 refine sp1 (QIa _ _) fun B _=>?_;unfold QIa mf;dsimp only;exact QAE (s:=.bool) (x:=uhigh) (hv:=rfl) (h:=QFu (fun K h=>QAE (s:=.I) (x:=high) (hv:=rfl) (h:=h)) (QAD ⟨rfl,rfl⟩))
theorem QWy(h1 : -1099511627776≤low∧low≤1099511627776)(h2:0≤hyst∧hyst≤1099511627776):Ct Pr 490 [.I v,.pointer (some ⟨b,0,none⟩)] .one [.bool] [Blk b [.bool ulow,.bool uhigh,.bool latch,.I low,.I high,.I hyst]] emp
  (fun t Bs=>t.1=(!ulow||decide (v>low+hyst))∧Bs=[Blk b [.bool ulow,.bool uhigh,.bool latch,.I low,.I high,.I hyst]]):=by
 refine sp1 (QIe _ _) fun B _=>?_;unfold QIe mf;dsimp only;exact QAE (s:=.bool) (x:=ulow) (hv:=rfl) (h:=QSb (fun K h=>QAE (s:=.I) (x:=low) (hv:=rfl) (h:=QAE (s:=.I) (x:=hyst) (hv:=rfl) (h:=by rw[QAB _ (by omega) (by omega)];exact h))) (QAD ⟨rfl,rfl⟩))
theorem QWo(h1 : -1099511627776≤high∧high≤1099511627776)(h2:0≤hyst∧hyst≤1099511627776):Ct Pr 492 [.I v,.pointer (some ⟨b,0,none⟩)] .one [.bool] [Blk b [.bool ulow,.bool uhigh,.bool latch,.I low,.I high,.I hyst]] emp
  (fun t Bs=>t.1=(!uhigh||decide (v<high - hyst))∧Bs=[Blk b [.bool ulow,.bool uhigh,.bool latch,.I low,.I high,.I hyst]]):=by
 refine sp1 (QIg _ _) fun B _=>?_;unfold QIg mf;dsimp only;exact QAE (s:=.bool) (x:=uhigh) (hv:=rfl) (h:=QSb (fun K h=>QAE (s:=.I) (x:=high) (hv:=rfl) (h:=QAE (s:=.I) (x:=hyst) (hv:=rfl) (h:=by rw[QAB _ (by omega) (by omega)];exact h))) (QAD ⟨rfl,rfl⟩))
end
def QQy(ulow uhigh latch:Bool)(low high hyst:Int)(t:Tup [.I,.I,.val,.val,.I,.I,.val,.val])(Bs:List HP):Prop:=
 ∃b:Nat,t=(1,1,.func (.func 489) #[] #[.pointer (some ⟨b,0,none⟩)],.func (.func 490) #[] #[.pointer (some ⟨b,0,none⟩)],2,2,.func (.func 491) #[] #[.pointer (some ⟨b,0,none⟩)],.func (.func 492) #[] #[.pointer (some ⟨b,0,none⟩)],()) ∧
  Bs=[Blk b [.bool ulow,.bool uhigh,.bool latch,.I low,.I high,.I hyst]]
theorem QWJ(ulow uhigh latch:Bool)(low high hyst:Int):Ct Pr 433 [.agg #[.bool ulow,.bool uhigh,.bool latch,.I low,.I high,.I hyst]] .agg [.I,.I,.val,.val,.I,.I,.val,.val] [] emp
  (QQy ulow uhigh latch low high hyst):=by
 refine QAg (ss:=[.I,.I,.val,.val,.I,.I,.val,.val]) (φ:=fun K=>(QHx _ _ _ _ _ _ K).1) (fun h=>cf _ rfl (by kernel_rfl) h) fun B _=>?_;show Ent B [] (QHx ulow uhigh latch low high hyst fun x0 x1 x2 x3 x4 x5 x6 x7=>Ret B (ss:=[.I,.I,.val,.val,.I,.I,.val,.val]) (QQy ulow uhigh latch low high hyst) (x0,x1,x2,x3,x4,x5,x6,x7,()));unfold QHx mf;dsimp only;refine QAL fun b=>QAL fun b1=>?_;iterate 8 (refine xsq ?_)
 iterate 8 (refine xgq ?_)
 exact QAK [Blk b [.bool ulow,.bool uhigh,.bool latch,.I low,.I high,.I hyst]] (QAD ⟨b,rfl,rfl⟩)
theorem QUG{cs:List Value}{n sz:Nat}{ss:List Sh}{K:Cur ss}{k:Nat}(hk:k<n)(t:Tup ss)(ht:Tup.vals ss t=(cs.drop (k*sz)).take sz)(h:Ent B As (Cur.app ss K t)):Ent B As (QLc cs (k:Int) n sz ss K):=
 fun w hw=>⟨by omega,by omega,t,by rw[Int.toNat_natCast];exact ht,h w hw⟩
theorem QbP:QB8 Pr 489=true:=by kernel_rfl
theorem Qb0:QB8 Pr 490=true:=by kernel_rfl
theorem QaA:QB8 Pr 491=true:=by kernel_rfl
theorem QbG:QB8 Pr 492=true:=by kernel_rfl
theorem QhB{s0 s1 s2 s3 s4 s5 s6 s7:Sh}{K:s0.ty→s1.ty→s2.ty→s3.ty→s4.ty→s5.ty→s6.ty→s7.ty→WP}{x0:s0.ty}{x1:s1.ty}{x2:s2.ty}{x3:s3.ty}{x4:s4.ty}{x5:s5.ty}{x6:s6.ty}{x7:s7.ty}{v:Unit}(h:Ent B As (K x0 x1 x2 x3 x4 x5 x6 x7)):Ent B As (Cur.app [s0,s1,s2,s3,s4,s5,s6,s7] K (x0,x1,x2,x3,x4,x5,x6,x7,v)):=h
theorem Qdx{s0 s1 s2 s3:Sh}{K:s0.ty→s1.ty→s2.ty→s3.ty→WP}{x0:s0.ty}{x1:s1.ty}{x2:s2.ty}{x3:s3.ty}{v:Unit}(h:Ent B As (K x0 x1 x2 x3)):Ent B As (Cur.app [s0,s1,s2,s3] K (x0,x1,x2,x3,v)):=h
structure QgA where
 ulow:Bool
 uhigh:Bool
 latch:Bool
 low:Int
 high:Int
 hyst:Int
structure AlV where
 state:Int
 waits:Bool
 deriving DecidableEq
def QKM(l:QgA)(a:AlV)(v:Int):AlV×Int:=
 if QZ5 l.ulow l.uhigh l.low l.high l.hyst≠0∨a.state<0∨a.state>2 then (a,0)
 else if (l.ulow&&decide (v≤l.low))=true then (if a.state=1 then (a,0) else (⟨1,true⟩,1))
 else if (l.uhigh&&decide (v≥l.high))=true then (if a.state=2 then (a,0) else (⟨2,true⟩,2))
 else if (((a.state == 1)&&(!l.ulow||decide (v>l.low+l.hyst))) && !(l.latch&&a.waits))=true then (⟨0,a.waits⟩,3)
 else if (((a.state == 2)&&(!l.uhigh||decide (v<l.high - l.hyst))) && !(l.latch&&a.waits))=true then (⟨0,a.waits⟩,3)
 else (a,0)
theorem QNM(l:QgA)(a:AlV)(v:Int):Ct Pr 340 [.agg #[.bool l.ulow,.bool l.uhigh,.bool l.latch,.I l.low,.I l.high,.I l.hyst],.agg #[.I a.state,.bool a.waits],.I v] (.tup [some 2,none]) [.I,.bool,.I] [] emp
  (fun t Bs=>t=((QKM l a v).1.state,(QKM l a v).1.waits,(QKM l a v).2,())∧Bs=[]):=by
 obtain⟨ulow,uhigh,latch,low,high,hyst⟩:=l;obtain⟨state,waits⟩:=a;refine sp3 (QOW _ _ _ _ _ _ _ _ _) fun B _=>?_;unfold QOW mf;dsimp only
 (try simp only)
 refine QAL fun b=>QAL fun b1=>QAL fun b2=>?_;iterate 6 (refine xgq ?_)
 refine QAR (QI0 ulow uhigh latch low high hyst) rdb ?_;rintro⟨(r:Int),_⟩ _ ⟨hr,rfl⟩;have hr:r=QZ5 ulow uhigh low high hyst:=hr;refine QAy (ca1 ?_);refine QSb (fun K h=>QAE (s:=.I) (x:=state) (h:=h)) ?_;refine QSb (fun K h=>QAE (s:=.I) (x:=state) (h:=h)) ?_;generalize hV:QKM ⟨ulow,uhigh,latch,low,high,hyst⟩ ⟨state,waits⟩ v=V;unfold QKM at hV;simp only at hV;refine xif (fun h=>?_) (fun hok=>?_)
 ·rw[if_pos (by rw[hr]at h;simp at h;omega)]at hV;subst hV;iterate 2 (refine xgq ?_)
  iterate 2 (refine xsq ?_)
  iterate 2 (refine xgq ?_)
  exact QAa (l:=[]) (QAD ⟨rfl,rfl⟩)
 have hok':¬(QZ5 ulow uhigh low high hyst≠0∨state<0∨state>2):=by rw[hr]at hok;simp at hok;omega
 rw[if_neg hok']at hV
 have hl0:QZ5 ulow uhigh low high hyst=0:=by omega
 iterate 6 (refine xgq ?_)
 refine QAR (QWJ ulow uhigh latch low high hyst) rdb ?_;rintro _ _ ⟨bs,rfl,rfl⟩;refine QA5 (QhB (QAL fun b3=>?_));iterate 8 (refine xsq ?_)
 iterate 8 (refine xgq ?_)
 have lim_ok:∀(u:Bool) (x:Int),QDH u x=true→-1099511627776≤x∧x≤1099511627776:=by
  intro u x hx;unfold QDH at hx;simp at hx;omega
 have hlim:(-1099511627776≤low∧low≤1099511627776)∧(-1099511627776≤high∧high≤1099511627776)∧0≤hyst∧hyst≤1099511627776:=by
  have h0:=hl0;unfold QZ5 at h0;split at h0
  ·cases h0
  ·rename_i hh
   have q1:QDH ulow low=true:=by cases e:QDH ulow low with|true=>rfl|false=>exact absurd (.inr (.inr (.inl e))) hh
   have q2:QDH uhigh high=true:=by cases e:QDH uhigh high with|true=>rfl|false=>exact absurd (.inr (.inr (.inr (.inl e)))) hh
   exact⟨lim_ok _ _ q1,lim_ok _ _ q2,by omega,by omega⟩
 obtain⟨hlo,hhi,hhy⟩:=hlim;refine QBP (fun n (x:Int) As'=>∃k:Nat,x=(k:Int)∧n=2 - k∧k≤2∧(1≤k→(ulow&&decide (v≤low))=false)∧(2≤k→(uhigh&&decide (v≥high))=false)∧As'=[Blk b3 [.I 1,.I 1,.func (.func 489) #[] #[.pointer (some ⟨bs,0,none⟩)],.func (.func 490) #[] #[.pointer (some ⟨bs,0,none⟩)],.I 2,.I 2,.func (.func 491) #[] #[.pointer (some ⟨bs,0,none⟩)],.func (.func 492) #[] #[.pointer (some ⟨bs,0,none⟩)]],Blk bs [.bool ulow,.bool uhigh,.bool latch,.I low,.I high,.I hyst],Blk b2 [.I 0,.bool false],Blk b1 [.I state,.bool waits],Blk b [.bool ulow,.bool uhigh,.bool latch,.I low,.I high,.I hyst]]) 2 ⟨0,rfl,rfl,by omega,fun h=>by omega,fun h=>by omega,rfl⟩ ?_;rintro n x As' K ⟨k,rfl,rfl,hk,hc1,hc2,rfl⟩ hK;refine QAA (fun hp=>?_) (fun hp=>?_)
 ·have hk2:k=0∨k=1:=by omega
  rcases hk2 with rfl|rfl
  ·refine QUG (by omega) (1,1,.func (.func 489) #[] #[.pointer (some ⟨bs,0,none⟩)],.func (.func 490) #[] #[.pointer (some ⟨bs,0,none⟩)],()) rfl (Qdx (QAL fun b4=>?_));iterate 4 (refine xsq ?_)
   refine QAE (s:=.val) (x:=.func (.func 489) #[] #[.pointer (some ⟨bs,0,none⟩)]) (hv:=rfl) (h:=QbY QbP ?_);refine xcl (QWD bs ulow uhigh latch low high hyst v) rdb ?_;rintro⟨c,_⟩ _ ⟨hc,rfl⟩;obtain rfl:c=(ulow&&decide (v≤low)):=hc;refine QA5 (ca1 (xif (fun h=>?_) (fun h=>?_)))
   ·rw[if_pos h]at hV;refine QAE (b:=b1) (s:=.I) (x:=state) (hv:=rfl) (h:=QAE (b:=b4) (s:=.I) (x:=1) (hv:=rfl) (h:=xif (fun h1=>?_) (fun h1=>?_)))
    ·rw[if_pos (by simpa using h1)]at hV;subst hV;refine QAE (b:=b1) (s:=.I) (x:=state) (hv:=rfl) (h:=QAE (b:=b1) (s:=.bool) (x:=waits) (hv:=rfl) (h:=?_));refine QSP (b:=b2) (h:=QSP (b:=b2) (h:=?_));refine QAE (b:=b2) (s:=.I) (x:=state) (hv:=rfl) (h:=QAE (b:=b2) (s:=.bool) (x:=waits) (hv:=rfl) (h:=?_));exact QAa (l:=[]) (QAD ⟨rfl,rfl⟩)
    ·rw[if_neg (by simpa using h1)]at hV;subst hV;refine QAO (QAE (b:=b4) (s:=.I) (x:=1) (hv:=rfl) (h:=QAE (b:=b4) (s:=.I) (x:=1) (hv:=rfl) (h:=?_)));refine QSP (b:=b2) (h:=QSP (b:=b2) (h:=QC6 (b:=b4) (hv:=rfl) ?_));refine QAE (b:=b2) (s:=.I) (x:=1) (hv:=rfl) (h:=QAE (b:=b2) (s:=.bool) (x:=true) (hv:=rfl) (h:=?_));exact QAa (l:=[]) (QAD ⟨rfl,rfl⟩)
   ·rw[QAF 0 (by omega)];exact QAK [Blk b3 [.I 1,.I 1,.func (.func 489) #[] #[.pointer (some ⟨bs,0,none⟩)],.func (.func 490) #[] #[.pointer (some ⟨bs,0,none⟩)],.I 2,.I 2,.func (.func 491) #[] #[.pointer (some ⟨bs,0,none⟩)],.func (.func 492) #[] #[.pointer (some ⟨bs,0,none⟩)]],Blk bs [.bool ulow,.bool uhigh,.bool latch,.I low,.I high,.I hyst],Blk b2 [.I 0,.bool false],Blk b1 [.I state,.bool waits],Blk b [.bool ulow,.bool uhigh,.bool latch,.I low,.I high,.I hyst]] (hK 1 _ _ (by omega) ⟨1,rfl,rfl,by omega,fun _=>h,fun h=>by omega,rfl⟩)
  ·have hc1:=hc1 (by omega);rw[if_neg (by rw[hc1];decide)]at hV;refine QUG (by omega) (2,2,.func (.func 491) #[] #[.pointer (some ⟨bs,0,none⟩)],.func (.func 492) #[] #[.pointer (some ⟨bs,0,none⟩)],()) rfl (Qdx (QAL fun b4=>?_));iterate 4 (refine xsq ?_)
   refine QAE (s:=.val) (x:=.func (.func 491) #[] #[.pointer (some ⟨bs,0,none⟩)]) (hv:=rfl) (h:=QbY QaA ?_);refine xcl (QVZ bs ulow uhigh latch low high hyst v) rdb ?_;rintro⟨c,_⟩ _ ⟨hc,rfl⟩;obtain rfl:c=(uhigh&&decide (v≥high)):=hc;refine QA5 (ca1 (xif (fun h=>?_) (fun h=>?_)))
   ·rw[if_pos h]at hV;refine QAE (b:=b1) (s:=.I) (x:=state) (hv:=rfl) (h:=QAE (b:=b4) (s:=.I) (x:=2) (hv:=rfl) (h:=xif (fun h1=>?_) (fun h1=>?_)))
    ·rw[if_pos (by simpa using h1)]at hV;subst hV;refine QAE (b:=b1) (s:=.I) (x:=state) (hv:=rfl) (h:=QAE (b:=b1) (s:=.bool) (x:=waits) (hv:=rfl) (h:=?_));refine QSP (b:=b2) (h:=QSP (b:=b2) (h:=?_));refine QAE (b:=b2) (s:=.I) (x:=state) (hv:=rfl) (h:=QAE (b:=b2) (s:=.bool) (x:=waits) (hv:=rfl) (h:=?_));exact QAa (l:=[]) (QAD ⟨rfl,rfl⟩)
    ·rw[if_neg (by simpa using h1)]at hV;subst hV;refine QAO (QAE (b:=b4) (s:=.I) (x:=2) (hv:=rfl) (h:=QAE (b:=b4) (s:=.I) (x:=2) (hv:=rfl) (h:=?_)));refine QSP (b:=b2) (h:=QSP (b:=b2) (h:=QC6 (b:=b4) (hv:=rfl) ?_));refine QAE (b:=b2) (s:=.I) (x:=2) (hv:=rfl) (h:=QAE (b:=b2) (s:=.bool) (x:=true) (hv:=rfl) (h:=?_));exact QAa (l:=[]) (QAD ⟨rfl,rfl⟩)
   ·rw[QAF 1 (by omega)];exact QAK [Blk b3 [.I 1,.I 1,.func (.func 489) #[] #[.pointer (some ⟨bs,0,none⟩)],.func (.func 490) #[] #[.pointer (some ⟨bs,0,none⟩)],.I 2,.I 2,.func (.func 491) #[] #[.pointer (some ⟨bs,0,none⟩)],.func (.func 492) #[] #[.pointer (some ⟨bs,0,none⟩)]],Blk bs [.bool ulow,.bool uhigh,.bool latch,.I low,.I high,.I hyst],Blk b2 [.I 0,.bool false],Blk b1 [.I state,.bool waits],Blk b [.bool ulow,.bool uhigh,.bool latch,.I low,.I high,.I hyst]] (hK 0 _ _ (by omega) ⟨2,rfl,rfl,by omega,fun _=>hc1,fun _=>h,rfl⟩)
 ·have hk2:k=2:=by omega
  subst hk2;have hc1:=hc1 (by omega);have hc2:=hc2 (by omega);rw[if_neg (by rw[hc1];decide),if_neg (by rw[hc2];decide)]at hV;iterate 8 (refine xgq ?_)
  refine QBP (fun n (x:Int) As'=>∃k:Nat,x=(k:Int)∧n=2 - k∧k≤2∧(1≤k→(((state == 1)&&(!ulow||decide (v>low+hyst))) && !(latch&&waits))=false)∧(2≤k→(((state == 2)&&(!uhigh||decide (v<high - hyst))) && !(latch&&waits))=false)∧As'=[Blk b3 [.I 1,.I 1,.func (.func 489) #[] #[.pointer (some ⟨bs,0,none⟩)],.func (.func 490) #[] #[.pointer (some ⟨bs,0,none⟩)],.I 2,.I 2,.func (.func 491) #[] #[.pointer (some ⟨bs,0,none⟩)],.func (.func 492) #[] #[.pointer (some ⟨bs,0,none⟩)]],Blk bs [.bool ulow,.bool uhigh,.bool latch,.I low,.I high,.I hyst],Blk b2 [.I 0,.bool false],Blk b1 [.I state,.bool waits],Blk b [.bool ulow,.bool uhigh,.bool latch,.I low,.I high,.I hyst]]) 2 ⟨0,rfl,rfl,by omega,fun h=>by omega,fun h=>by omega,rfl⟩ ?_;clear hK;rintro n x As' K ⟨k,rfl,rfl,hk,hd1,hd2,rfl⟩ hK;refine QAA (fun hp=>?_) (fun hp=>?_)
  ·have hk2:k=0∨k=1:=by omega
   rcases hk2 with rfl|rfl
   ·refine QUG (by omega) (1,1,.func (.func 489) #[] #[.pointer (some ⟨bs,0,none⟩)],.func (.func 490) #[] #[.pointer (some ⟨bs,0,none⟩)],()) rfl (Qdx (QAL fun b5=>?_));iterate 4 (refine xsq ?_)
    refine QAE (b:=b1) (s:=.I) (x:=state) (hv:=rfl) (h:=QAE (b:=b5) (s:=.I) (x:=1) (hv:=rfl) (h:=?_));refine QFu (d:=(!ulow||decide (v>low+hyst))) (fun K h=>QAE (b:=b5) (s:=.val) (x:=.func (.func 490) #[] #[.pointer (some ⟨bs,0,none⟩)]) (hv:=rfl) (h:=QbY Qb0 (xcl (QWy bs ulow uhigh latch low high hyst v hlo hhy) rdb ?_))) ?_
    ·rintro⟨c,_⟩ _ ⟨hc,rfl⟩;obtain rfl:c=(!ulow||decide (v>low+hyst)):=hc;exact QA5 (ca1 (QAK [Blk b5 [.I 1,.I 1,.func (.func 489) #[] #[.pointer (some ⟨bs,0,none⟩)],.func (.func 490) #[] #[.pointer (some ⟨bs,0,none⟩)]],Blk b3 [.I 1,.I 1,.func (.func 489) #[] #[.pointer (some ⟨bs,0,none⟩)],.func (.func 490) #[] #[.pointer (some ⟨bs,0,none⟩)],.I 2,.I 2,.func (.func 491) #[] #[.pointer (some ⟨bs,0,none⟩)],.func (.func 492) #[] #[.pointer (some ⟨bs,0,none⟩)]],Blk bs [.bool ulow,.bool uhigh,.bool latch,.I low,.I high,.I hyst],Blk b2 [.I 0,.bool false],Blk b1 [.I state,.bool waits],Blk b [.bool ulow,.bool uhigh,.bool latch,.I low,.I high,.I hyst]] h))
    refine QFu (d:=!(latch&&waits)) (fun K h=>QAE (b:=b) (s:=.bool) (x:=latch) (hv:=rfl) (h:=QFu (fun K h=>QAE (b:=b1) (s:=.bool) (x:=waits) (hv:=rfl) (h:=h)) h)) ?_;refine xif (fun h=>?_) (fun h=>?_)
    ·rw[if_pos h]at hV;subst hV;refine QAE (b:=b1) (s:=.bool) (x:=waits) (hv:=rfl) (h:=?_);refine QSP (b:=b2) (h:=QSP (b:=b2) (h:=?_));refine QAE (b:=b2) (s:=.I) (x:=0) (hv:=rfl) (h:=QAE (b:=b2) (s:=.bool) (x:=waits) (hv:=rfl) (h:=?_));exact QAa (l:=[]) (QAD ⟨rfl,rfl⟩)
    ·rw[QAF 0 (by omega)];exact QAK [Blk b3 [.I 1,.I 1,.func (.func 489) #[] #[.pointer (some ⟨bs,0,none⟩)],.func (.func 490) #[] #[.pointer (some ⟨bs,0,none⟩)],.I 2,.I 2,.func (.func 491) #[] #[.pointer (some ⟨bs,0,none⟩)],.func (.func 492) #[] #[.pointer (some ⟨bs,0,none⟩)]],Blk bs [.bool ulow,.bool uhigh,.bool latch,.I low,.I high,.I hyst],Blk b2 [.I 0,.bool false],Blk b1 [.I state,.bool waits],Blk b [.bool ulow,.bool uhigh,.bool latch,.I low,.I high,.I hyst]] (hK 1 _ _ (by omega) ⟨1,rfl,rfl,by omega,fun _=>h,fun h=>by omega,rfl⟩)
   ·have hd1:=hd1 (by omega);rw[if_neg (by rw[hd1];decide)]at hV;refine QUG (by omega) (2,2,.func (.func 491) #[] #[.pointer (some ⟨bs,0,none⟩)],.func (.func 492) #[] #[.pointer (some ⟨bs,0,none⟩)],()) rfl (Qdx (QAL fun b5=>?_));iterate 4 (refine xsq ?_)
    refine QAE (b:=b1) (s:=.I) (x:=state) (hv:=rfl) (h:=QAE (b:=b5) (s:=.I) (x:=2) (hv:=rfl) (h:=?_));refine QFu (d:=(!uhigh||decide (v<high - hyst))) (fun K h=>QAE (b:=b5) (s:=.val) (x:=.func (.func 492) #[] #[.pointer (some ⟨bs,0,none⟩)]) (hv:=rfl) (h:=QbY QbG (xcl (QWo bs ulow uhigh latch low high hyst v hhi hhy) rdb ?_))) ?_
    ·rintro⟨c,_⟩ _ ⟨hc,rfl⟩;obtain rfl:c=(!uhigh||decide (v<high - hyst)):=hc;exact QA5 (ca1 (QAK [Blk b5 [.I 2,.I 2,.func (.func 491) #[] #[.pointer (some ⟨bs,0,none⟩)],.func (.func 492) #[] #[.pointer (some ⟨bs,0,none⟩)]],Blk b3 [.I 1,.I 1,.func (.func 489) #[] #[.pointer (some ⟨bs,0,none⟩)],.func (.func 490) #[] #[.pointer (some ⟨bs,0,none⟩)],.I 2,.I 2,.func (.func 491) #[] #[.pointer (some ⟨bs,0,none⟩)],.func (.func 492) #[] #[.pointer (some ⟨bs,0,none⟩)]],Blk bs [.bool ulow,.bool uhigh,.bool latch,.I low,.I high,.I hyst],Blk b2 [.I 0,.bool false],Blk b1 [.I state,.bool waits],Blk b [.bool ulow,.bool uhigh,.bool latch,.I low,.I high,.I hyst]] h))
    refine QFu (d:=!(latch&&waits)) (fun K h=>QAE (b:=b) (s:=.bool) (x:=latch) (hv:=rfl) (h:=QFu (fun K h=>QAE (b:=b1) (s:=.bool) (x:=waits) (hv:=rfl) (h:=h)) h)) ?_;refine xif (fun h=>?_) (fun h=>?_)
    ·rw[if_pos h]at hV;subst hV;refine QAE (b:=b1) (s:=.bool) (x:=waits) (hv:=rfl) (h:=?_);refine QSP (b:=b2) (h:=QSP (b:=b2) (h:=?_));refine QAE (b:=b2) (s:=.I) (x:=0) (hv:=rfl) (h:=QAE (b:=b2) (s:=.bool) (x:=waits) (hv:=rfl) (h:=?_));exact QAa (l:=[]) (QAD ⟨rfl,rfl⟩)
    ·rw[QAF 1 (by omega)];exact QAK [Blk b3 [.I 1,.I 1,.func (.func 489) #[] #[.pointer (some ⟨bs,0,none⟩)],.func (.func 490) #[] #[.pointer (some ⟨bs,0,none⟩)],.I 2,.I 2,.func (.func 491) #[] #[.pointer (some ⟨bs,0,none⟩)],.func (.func 492) #[] #[.pointer (some ⟨bs,0,none⟩)]],Blk bs [.bool ulow,.bool uhigh,.bool latch,.I low,.I high,.I hyst],Blk b2 [.I 0,.bool false],Blk b1 [.I state,.bool waits],Blk b [.bool ulow,.bool uhigh,.bool latch,.I low,.I high,.I hyst]] (hK 0 _ _ (by omega) ⟨2,rfl,rfl,by omega,fun _=>hd1,fun _=>h,rfl⟩)
  ·have hk2:k=2:=by omega
   subst hk2;rw[if_neg (by rw[hd1 (by omega)];decide),if_neg (by rw[hd2 (by omega)];decide)]at hV;subst hV;refine QAE (b:=b1) (s:=.I) (x:=state) (hv:=rfl) (h:=QAE (b:=b1) (s:=.bool) (x:=waits) (hv:=rfl) (h:=?_));refine QSP (b:=b2) (h:=QSP (b:=b2) (h:=?_));refine QAE (b:=b2) (s:=.I) (x:=state) (hv:=rfl) (h:=QAE (b:=b2) (s:=.bool) (x:=waits) (hv:=rfl) (h:=?_));exact QAa (l:=[]) (QAD ⟨rfl,rfl⟩)
end Go.Cx
namespace Go.Cx
open Go Go.Cf
set_option linter.unusedVariables false
set_option maxRecDepth 100000
variable {B:QBE}{As F:List HP}
def beK(v:Nat):Nat→List UInt8
 | 0=>[]
 | j+1=>beK v j++[UInt8.ofNat (v / 2 ^ (56 - 8*j))]
def QPg(v:Nat):List UInt8:=beK v 8
theorem QPv(v:Nat):∀j,(beK v j).length=j
 | 0=>rfl
 | j+1=>by rw[beK,List.length_append,QPv v j];rfl
theorem QP0(s:Sl)(xs:List UInt8)(l:Sl)(vs:List Nat)(hx:xs.length≤100000)(hl:vs.length≤1000):Ct Pr 155 [s.v,l.v] .one [.slice] [Ar U8 s xs] (RAr I64 l (vs.map fun(v:Nat)=>(v:Int))) (fun t Bs=>Bs=[Ar U8 t.1 (xs++vs.flatMap QPg)]):=by
 refine sp1 (QKJ _ _) fun B hr=>?_;haveI:Fro B l I64 (vs.map fun(v:Nat)=>(v:Int)):=⟨hr⟩
 have hn:vs.length=l.n:=by simpa using hr.1
 unfold QKJ mf;dsimp only;refine QBb (fun n (b1:Sl) (x:Int) As'=>∃k:Nat,x=(k:Int)∧n=vs.length - k∧k≤vs.length∧As'=[Ar U8 b1 (xs++(vs.take k).flatMap QPg)]) vs.length ⟨0,rfl,rfl,by omega,by simp⟩ ?_;rintro n b1 x As' K ⟨k,rfl,rfl,hk,rfl⟩ hK
 have hlen:((vs.take k).flatMap QPg).length=8*k:=by
  rw[List.length_flatMap]
  have:(vs.take k).map (fun a=>(QPg a).length)=List.replicate k 8:=by
   apply List.ext_getElem
   ·simp;omega
   ·intro i h1 h2;simp[QPg,QPv]
  rw[this];simp;omega
 refine QAA (fun hp=>?_) (fun hp=>?_)
 ·have hp:k<vs.length:=by omega
  obtain⟨v,hv⟩:∃v,vs[k]? = some v:=⟨_,List.getElem?_eq_getElem hp⟩
  have hv':(vs.map fun(v:Nat)=>(v:Int))[k]? = some (v:Int):=by rw[List.getElem?_map,hv];rfl
  refine QAH (E:=I64) (xs:=vs.map fun(v:Nat)=>(v:Int)) (s:=l) (h1:=by simpa using hp) (h:=fun y hy=>?_);refine QAN (E:=I64) (xs:=vs.map fun(v:Nat)=>(v:Int)) hv' (h:=?_);refine QBb (fun n (b2:Sl) (i:Int) As'=>∃j:Nat,i=56 - 8*(j:Int)∧n=8 - j∧j≤8∧As'=[Ar U8 b2 (xs++(vs.take k).flatMap QPg++beK v j)]) 8 ⟨0,rfl,rfl,by omega,by rw[beK,List.append_nil]⟩ ?_;rintro n b2 i As' K2 ⟨j,rfl,rfl,hj,rfl⟩ hK2;refine QAA (fun h8=>?_) (fun h8=>?_)
  ·have h8:j<8:=by omega
   refine QA6 (by omega) ?_
   have hsh:Int.fdiv (v:Int) (2 ^ (min (Int.toNat (56 - 8*(j:Int))) 64))=((v / 2 ^ (56 - 8*j):Nat):Int):=by
    refine QCw v _ (2 ^ (56 - 8*j)) ?_;rw[show min (Int.toNat (56 - 8*(j:Int))) 64=56 - 8*j by omega];simp
   rw[hsh,QAr];refine QAL fun b3=>?_;refine QEc (E:=U8) (UInt8.ofNat (v / 2 ^ (56 - 8*j))) (hb:=by simp[hlen,QPv];omega) (h:=fun s1=>?_);rw[QAB (56 - 8*(j:Int) - 8) (by omega) (by omega),List.append_assoc (xs++(vs.take k).flatMap QPg)];exact hK2 (8 - (j+1)) _ _ _ (by omega) ⟨j+1,by omega,rfl,by omega,rfl⟩
  ·have:j=8:=by omega
   subst this;rw[QAF k (by omega)];refine hK (vs.length - (k+1)) _ _ _ (by omega) ⟨k+1,rfl,rfl,by omega,?_⟩
   have e:(vs.take k).flatMap QPg++QPg v=(vs.take (k+1)).flatMap QPg:=by
    rw[←QFN hv,List.flatMap_append];simp
   rw[←e,←List.append_assoc];rfl
 ·rw[List.take_of_length_le (by omega)];exact QAD rfl
theorem QTs(v a b:Int):Ct Pr 99 [.I v,.I a,.I b] .one [.bool] [] emp (fun t Bs=>t.1=(decide (v<a)||decide (v>b))∧Bs=[]):=by
 refine sp1 (QOZ _ _ _) fun B _=>?_;unfold QOZ mf;dsimp only;exact QAD ⟨rfl,rfl⟩
theorem QQ3{n lo hi:Int}{K:Bool→WP}(h:Ent B As (K (decide (n<lo)||decide (n>hi)))):Ent B As (QAb Pr 99 [.I n,.I lo,.I hi] .one [.bool] fun(c:Bool)=>K c):=by
 refine QAR (QTs n lo hi) rdb ?_;rintro⟨c,_⟩ _ ⟨hc,rfl⟩;obtain rfl:c=_:=hc;exact QAy (ca1 h)
def hi8(n:Nat):UInt8:=UInt8.ofNat (n / 256)
def lo8(n:Nat):UInt8:=UInt8.ofNat n
def QY3(t:UInt16)(u:UInt8)(n:Nat):List UInt8:=[hi8 t.toNat,lo8 t.toNat,0,0,hi8 (1+n),lo8 (1+n),u]
def Qe7(t:UInt16)(u:UInt8)(pdu:List UInt8):Int×List UInt8:=
 if QG7 pdu.length≠0 then (QG7 pdu.length,[]) else (0,QY3 t u pdu.length++pdu)
theorem QLN{n:Nat}(h:QG7 n=0):1≤n∧n≤253:=by
 unfold QG7 at h;split at h
 ·cases h
 ·split at h
  ·cases h
  ·omega
structure QgX where
 err:Int
 tr:Nat
 unit:UInt8
 pdu:List UInt8
 used:Nat
def QfQ(xs:List UInt8):QgX:=
 if xs.length<7 then ⟨1,0,0,[],0⟩
 else if be2 xs 2≠0∨be2 xs 4<2∨be2 xs 4>254 then ⟨4,0,0,[],0⟩
 else if xs.length<6+be2 xs 4 then ⟨1,0,0,[],0⟩
 else ⟨0,be2 xs 0,xs.getD 6 0,(xs.take (6+be2 xs 4)).drop 7,6+be2 xs 4⟩
end Go.Cx
