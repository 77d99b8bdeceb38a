import Derived.Test.YthbhbkjkclhkgaaGreatDoorH
import Derived.Test.YthbhbkjkclhkgaaGreatDoorA4
import Derived.Test.YthbhbkjkclhkgaaGreatDoorSL
import Derived.Test.YthbhbkjkclhkgaaGreatDoorA3
import Derived.Test.YthbhbkjkclhkgaaGreatDoorDK
namespace Go.Cx
open Go Go.Cf
set_option linter.unusedVariables false
set_option maxRecDepth 100000
variable {B:QBE}{As:List HP}
theorem Sx.below{w w':World}(h:Sx B As w)(hb:Go.RowKit.Below w.heap.size w w')(hd:w.drawn≤w'.drawn):Sx B As w':=by
 obtain⟨g,hs,hm,hu⟩:=h;refine⟨g,hs,fun k o e=>?_,hb.os.trans hu.os,hb.tape.trans hu.tape,hb.output.trans hu.output,Nat.le_trans hu.drawn hd,Nat.le_trans hu.size hb.size,fun k hk h0=>⟨?_,(hu.old k hk h0).2⟩⟩
 ·have:=hm k o e;show w'.heap[k]? = some o;rw[hb.block k (Array.getElem?_eq_some_iff.1 this).1];exact this
 ·rw[hb.block k (Nat.lt_of_lt_of_le hk hu.size)];exact (hu.old k hk h0).1
theorem QV1(w:World)(n:Nat)(os:Array Obj):Go.RowKit.Below w.heap.size w (Go.Sort.grow (w.drewN n) os):=
 ⟨rfl,rfl,rfl,by simp[Go.Sort.grow,World.drewN],fun k hk=>by
  show (w.heap++os)[k]? = _
  rw[Array.getElem?_append_left hk]⟩
theorem QPr{P:Program}{f:FuncId}{args:List Value}{rs:Rs}{ss:List Sh}{rd:HP}{post:Tup ss→List HP→Prop}{t:Tup ss}
  (hp:post t []) (h:∀w:World,rd (mem w)→Calls P f args.toArray w fun e w'=>e=.returned (rs.mk (Tup.vals ss t))∧Go.RowKit.Below w.heap.size w w'∧w.drawn≤w'.drawn)
  (mono:∀g f,rd g→Sub g f→rd f):Ct P f args rs ss [] rd post:=by
 intro w g hs hm hr;refine (h w (mono _ _ hr fun k o hk=>?_)).mono ?_
 ·unfold frz at hk
  cases hg:g k with
  | some _=>rw[hg]at hk;cases hk
  | none=>rw[hg]at hk;exact hk
 ·rintro e w' ⟨he,hb,hd⟩;exact⟨t,[],he,hp,Sx.below (Sx.start (pre:=[]) hs hm) hb hd⟩
def Qgd(n:Int):ByteArray:=⟨(Lib.itoa n).toArray⟩
def GTab:HP:=fun h=>∃e fr,h 1=some (.cells (Lib.pow10Tab.map fun z=>Value.int .u64 z).toArray e fr)
theorem GTab.mono:∀g f,GTab g→Sub g f→GTab f:=fun _ _ ⟨e,fr,h⟩ s=>⟨e,fr,s _ _ h⟩
theorem QKI{B:QBE}(h:GTab (frz B.W B.h0)):Qfm B GTab:=⟨h,fun _ _ h s=>GTab.mono _ _ h s⟩
theorem globTab:Pr.globalNamed "internal/strconv.uint64pow10" = some 1:=by kernel_rfl
theorem GTab.tab{w:World}(h:GTab (mem w)):Lib.TabIs Pr w "internal/strconv.uint64pow10" .u64 Lib.pow10Tab:=by
 obtain⟨e,fr,h⟩:=h
 have h':w.heap[1]? = some _:=h
 show w.var? Pr _=_
 unfold World.var?
 rw[globTab]
 simp only[Option.bind_some,h']
theorem QZX(n:Int)(h0 : -9223372036854775808≤n)(h1:n≤9223372036854775807):Ct Pr 259 [.I n] .one [.str] [] GTab (fun t Bs=>t.1=Qgd n∧Bs=[]):=
 QPr (t:=(Qgd n,())) ⟨rfl,rfl⟩ (fun w hw=>(Go.Proofs.Tryz.strconv_Itoa n h0 h1 w hw.tab).mono fun e w' ⟨he,k,os,hw'⟩=>⟨he,hw' ▸ QV1 w k os,hw' ▸ Nat.le_add_right _ _⟩) GTab.mono
theorem QNK(s p:ByteArray):Ct Pr 260 [.string s,.string p] (.tup [none,none]) [.str,.bool] [] emp (fun t Bs=>t.1=⟨(Lib.trimPrefix s.data.toList p.data.toList).toArray⟩∧t.2.1=Lib.hasPrefix s.data.toList p.data.toList∧Bs=[]):=
 QPr (t:=(⟨(Lib.trimPrefix s.data.toList p.data.toList).toArray⟩,Lib.hasPrefix s.data.toList p.data.toList,())) ⟨rfl,rfl,rfl⟩ (fun w _=>(Go.Proofs.Tryz.strings_CutPrefix s p w).mono fun e w' ⟨he,hw'⟩=>⟨he,hw' ▸ Go.RowKit.Below.refl _ _,hw' ▸ Nat.le_refl _⟩) (fun _ _ h _=>h)
theorem Qfi(xs:List ByteArray):QAf Cf.ST xs=xs.map Value.string:=by
 induction xs with
 | nil=>rfl
 | cons x xs ih=>show _++QAf Cf.ST xs=_;rw[ih];rfl
section
open Go.Proofs Go.Shelf Go.RowKit
variable {P:Program}{ρ:Ren}
theorem QV2(L:Lays.n160 P ρ)(h116:(P.info? (ρ.t 116)).map (fun i=>(i.zero,i.size))=some (some (.agg (Array.replicate 256 (.bool false))),256))(s c:ByteArray)(w:World)(hs:s.size≤9223372036854775807)(hcs:c.size<4294967281)(ha:∀(j:Nat) b,c.data.toList[j]? = some b→b.toNat<128) :
  Calls P (ρ.f 160) #[.string s,.string c] w fun e w'=>e=.returned (.string ⟨(Lib.trimS s.data.toList c.data.toList).toArray⟩)∧Below w.heap.size w w'∧w.drawn≤w'.drawn:=by
 by_cases h:s.size=0∨c.size=0
 ·refine (Any.strings_Trim_empty L s c w h).mono fun e w' ⟨h1,h2⟩=>⟨?_,h2 ▸ Below.refl _ _,h2 ▸ Nat.le_refl _⟩;rw[h1];rcases h with h|h
  ·have hl:s.data.toList=[]:=List.eq_nil_of_length_eq_zero (by rw[←Lib.size_eq];exact h);rw[hl];congr 2;rw[←Lib.mk_data s,hl];rfl
  ·have hl:c.data.toList=[]:=List.eq_nil_of_length_eq_zero (by rw[←Lib.size_eq];exact h);rw[hl,show Lib.trimS s.data.toList []=s.data.toList from by unfold Lib.trimS;rw[Lib.trimRightS_none,Lib.trimLeftS_none],Lib.mk_data]
 by_cases h1:c.size=1
 ·match hh:c.data.toList,(Lib.size_eq c).symm.trans h1 with
  | [b],_=>
   have hcut:c=⟨#[b]⟩:=by rw[←Lib.mk_data c,hh]
   rw[Lib.trimS_one,hcut]
   exact (Any.strings_Trim_one L s b (ha 0 b (by rw[hh];rfl)) w hs).mono fun e w' ⟨h1,h2⟩=>⟨h1,by
    rcases h2 with rfl|rfl
    ·exact⟨Below.refl _ _,Nat.le_refl _⟩
    ·exact⟨(Below.refl _ _).drew,Nat.le_succ _⟩⟩
 ·refine (Any.strings_Trim_set L (zero_of_info h116).1 (zero_of_info h116).2 s c w (by omega) (by omega) hs hcs ha).mono fun e w' ⟨h1,q,h2⟩=>⟨h1,?_⟩;subst h2;exact⟨(((Below.refl _ _).alloc (Nat.le_refl _) _).alloc (by simp) _).trans ⟨rfl,rfl,rfl,Nat.le_refl _,fun _ _=>rfl⟩,Nat.le_add_right _ _⟩
end
theorem QZe(s p:ByteArray)(hs:s.size≤4611686018427387904)(hp:p.size<1000)(ha:p.data.toList.all (fun b=>decide (b.toNat<128))=true):Ct Pr 261 [.string s,.string p] .one [.str] [] emp (fun t Bs=>t.1=⟨(Lib.trimS s.data.toList p.data.toList).toArray⟩∧Bs=[]):=
 QPr (t:=(⟨(Lib.trimS s.data.toList p.data.toList).toArray⟩,())) ⟨rfl,rfl⟩ (fun w _=>QV2 Go.Proofs.Tryz.lays160 (by kernel_rfl) s p w (by omega) (by omega) (fun _ b hb=>of_decide_eq_true (List.all_eq_true.1 ha b (List.mem_of_getElem? hb)))) (fun _ _ h _=>h)
end Go.Cx
namespace Go.Cx
open Go Go.Cf
set_option linter.unusedVariables false
set_option maxRecDepth 100000
variable {B:QBE}{As F:List HP}
theorem QX4(n:Int)(h0:0≤n)(h1:n≤4398046511104):Ct Pr 175 [.I n] .one [.str] [] GTab (fun t Bs=>t.1=fN n∧Bs=[]):=by
 refine sp1 (QQO _) fun B hr=>?_;haveI:=QKI hr;unfold QQO mf;dsimp only;refine QAR (QZX n (by omega) (by omega)) rdb ?_;rintro⟨t,_⟩ _ ⟨ht,rfl⟩;obtain rfl:t=BA (Lib.itoa n):=ht;have hl:=QbA (n:=n) (by omega) (by omega);refine QAy (ca1 (QA6 ?_ (QAD ⟨?_,rfl⟩)))
 ·rw[QTj,show (⟨#[108,111,103,45]⟩:ByteArray).size=4 from rfl];omega
 ·rw[show (⟨#[108,111,103,45]⟩:ByteArray)=BA preL from rfl,Qed];rfl
theorem QWQ{n:Int}{K:ByteArray→WP}[r:Rdb B As GTab](h0:0≤n)(h1:n≤4398046511104)(h:Ent B As (K (fN n))):Ent B As (QAb Pr 175 [.I n] .one [.str] K):=by
 refine QAR (QX4 n h0 h1) rdb ?_;rintro⟨t,_⟩ _ ⟨ht,rfl⟩;obtain rfl:t=fN n:=ht;exact QAy (ca1 h)
abbrev CS:=Int×Int×Int×Sl
def SEG:Enc CS:=⟨fun x=>[.I x.1,.I x.2.1,.I x.2.2.1,x.2.2.2.v],4,fun _=>rfl,fun x v h=>by simp at h;rcases h with rfl|rfl|rfl|rfl<;>rfl,by decide,(0,0,0,⟨none,0,0⟩)⟩
def QFC(c:CS)(s:Sg):HP:=fun h=>c.1=s.n∧c.2.1=s.first∧c.2.2.1=s.size∧Qe8 c.2.2.2 s.ps h
abbrev QAp(p:Option Addr)(l:LM)(s:Sl):List Value:=[.pointer p,.I l.n,.I l.first,s.v,.I l.safe]
def QAY(q p:Option Addr)(l:LM):HP:=fun h=>LInv l∧∃b s cs,q=some ⟨b,0,none⟩∧QBl [Blk b (QAp p l s),Ar SEG s cs,Each QFC cs l.segs] h
structure LF(cs:List CS)(ss:List Sg):Prop where
 len:cs.length=ss.length
 each:∀(i:Nat) (c:CS) (s:Sg),cs[i]? = some c→ss[i]? = some s→c.1=s.n∧c.2.1=s.first∧c.2.2.1=s.size∧c.2.2.2.n=s.ps.length∧c.2.2.2.n≤c.2.2.2.c
theorem QX0{s:Sl}{ps:List (List UInt8)}{h:QBe}(hr:Qe8 s ps h):s.n=ps.length∧s.n≤s.c:=by
 obtain⟨rs,a,b,⟨zs,pa⟩,⟨c,d,pc,_⟩,_⟩:=hr;have:=Each.length pc;exact⟨by rw[←pa.1];exact this,pa.cap⟩
theorem Qe2{cs:List CS}{ss:List Sg}{g:QBe}(h:Each QFC cs ss g):LF cs ss:=
 ⟨h.length,fun i c s a b=>QDc (R:=QFC) (S:=fun c s _=>c.1=s.n∧c.2.1=s.first∧c.2.2.1=s.size∧c.2.2.2.n=s.ps.length∧c.2.2.2.n≤c.2.2.2.c) (fun _ _ _ _ h _=>h) (fun x y g ⟨h1,h2,h3,h4⟩=>⟨h1,h2,h3,QX0 h4⟩) h a b⟩
theorem QXQ(i:Nat){q p:Option Addr}{l:LM}{F:List HP}[r:Pick i As (QAY q p l) F]{φ:WP}
  (k:LInv l→∀b s cs,q=some ⟨b,0,none⟩→LF cs l.segs→s.n=cs.length→Ent B (Blk b (QAp p l s)::Ar SEG s cs::Each QFC cs l.segs::F) φ):Ent B As φ:=by
 refine Ent.perm r.perm ?_;intro w hw;obtain⟨g,⟨a,c,⟨hi,b,s,cs,hp,pa⟩,pc,d,sa,sc⟩,hm,hu⟩:=hw
 have hl:LF cs l.segs∧s.n=cs.length:=by
  obtain⟨_,_,_,⟨_,_,⟨_,par⟩,⟨_,_,pe,_⟩,_⟩,_⟩:=pa;exact⟨Qe2 pe,par.1.symm⟩
 exact k hi b s cs hp hl.1 hl.2 w ⟨g,(QAj [_,_,_] F).2 ⟨a,c,pa,pc,d,sa,sc⟩,hm,hu⟩
theorem QAx(b:Nat)(s:Sl)(cs:List CS){p:Option Addr}{l:LM}{G:List HP}[q:Split [Blk b (QAp p l s),Ar SEG s cs,Each QFC cs l.segs] As G]{φ:WP}
  (hi:LInv l) (k:Ent B (QAY (some ⟨b,0,none⟩) p l::G) φ):Ent B As φ:=
 QBQ [Blk b (QAp p l s),Ar SEG s cs,Each QFC cs l.segs] (QAY (some ⟨b,0,none⟩) p l) (fun g hg=>⟨hi,b,s,cs,rfl,hg⟩) k
theorem QGX(a b c:Int)(s:Sl):Ct Pr 51 [.agg #[.I a,.I b,.I c,s.v]] .one [.I] [] emp (fun t Bs=>t.1=IntKind.i64.wrap (b+s.n)∧Bs=[]):=by
 refine sp1 (QFQ _ _ _ _) fun B _=>?_;unfold QFQ mf;dsimp only;refine QAL fun b=>xgq (xgq ?_);exact QAa (l:=[]) (QAD ⟨rfl,rfl⟩)
theorem QF5(b:Nat)(p:Option Addr)(l:LM)(s:Sl)(cs:List CS)(hs:s.n=cs.length)(hl:cs.length≤64):Ct Pr 103 [.pointer (some ⟨b,0,none⟩)] .one [.ptr] [Blk b (QAp p l s),Ar SEG s cs] emp
  (fun t Bs=>t.1=(if cs=[] then none else some (s.at 4 (cs.length - 1)))∧Bs=[Blk b (QAp p l s),Ar SEG s cs]):=by
 refine sp1 (QGH _) fun B _=>?_;unfold QGH mf;dsimp only;refine QAQ (xgq (xif (fun h=>QAD ⟨?_,rfl⟩) (fun h=>?_)))
 ·have:cs=[]:=List.eq_nil_of_length_eq_zero (by simp at h;omega);rw[if_pos this]
 have hne:cs≠[]:=fun e=>by subst e;simp at hs;simp[hs]at h
 have hpos:0<cs.length:=List.length_pos_iff.2 hne;refine QAO (QAQ (xgq (QAQ (xgq ?_))));rw[QAB _ (by omega) (by omega),show (s.n:Int) - 1=((cs.length - 1:Nat):Int) by omega];refine QAH (E:=SEG) (xs:=cs) (s:=s) (h1:=by omega) (h:=fun c hc=>QAD ⟨?_,rfl⟩);rw[if_neg hne]
theorem QKo{cs:List CS}{ss:List Sg}(h:LF cs ss){s:Sg}(hs:ss.getLast? = some s):∃c,cs[cs.length - 1]? = some c∧c.1=s.n∧c.2.1=s.first∧c.2.2.1=s.size∧c.2.2.2.n=s.ps.length∧c.2.2.2.n≤c.2.2.2.c:=by
 have h1:=QF3 hs;have hlt:=(List.getElem?_eq_some_iff.1 h1).1;have hc:=List.getElem?_eq_getElem (l:=cs) (i:=cs.length - 1) (by rw[h.len];exact hlt);exact⟨_,hc,h.each _ _ _ hc (by rw[h.len];exact h1)⟩
theorem QSL{cs:List CS}{ss:List Sg}(h:LF cs ss):cs=[]↔ss.getLast? = none:=by
 rw[List.getLast?_eq_none_iff];have:=h.len;constructor
 ·rintro rfl;exact List.eq_nil_of_length_eq_zero (by simpa using this.symm)
 ·rintro rfl;exact List.eq_nil_of_length_eq_zero (by simpa using this)
theorem QFv(b:Nat)(p:Option Addr)(l:LM)(s:Sl)(cs:List CS)(hs:s.n=cs.length)(hf:LF cs l.segs)(hi:LInv l):Ct Pr 39 [.pointer (some ⟨b,0,none⟩)] .one [.I] [Blk b (QAp p l s),Ar SEG s cs] emp
  (fun t Bs=>t.1=l.next∧Bs=[Blk b (QAp p l s),Ar SEG s cs]):=by
 refine sp1 (QJJ _) fun B _=>?_;unfold QJJ mf;dsimp only;have hfew:=hi.few;refine xcl (QF5 b p l s cs hs (by rw[hf.len];exact hfew)) rdb ?_;rintro⟨t,_⟩ _ ⟨ht,rfl⟩;simp only at ht;subst ht;refine QBM (ca1 ?_)
 cases hc:l.segs.getLast? with
 | none=>
  rw[if_pos ((QSL hf).2 hc)];refine QBF rfl (QAQ (xgq (QAD ⟨?_,rfl⟩)));unfold LM.next LM.cur;rw[hc]
 | some sg=>
  rw[if_neg (fun e=>by have:=(QSL hf).1 e;rw[hc]at this;cases this)];obtain⟨c,h1,h2,h3,h4,h5,h6⟩:=QKo hf hc;obtain⟨g1,g2,g3,g4,_⟩:=hi.segs sg (List.mem_of_getLast? hc);refine QBz rfl (QAQ ?_);refine QAN (E:=SEG) (xs:=cs) h1 (h:=?_);iterate 3 (refine QAZ (E:=SEG) (xs:=cs) h1 (h:=?_))
  refine QAR (QGX _ _ _ c.2.2.2) rdb ?_;rintro⟨t,_⟩ _ ⟨ht,rfl⟩;simp only at ht;subst ht;refine QAy (ca1 (QAD ⟨?_,rfl⟩))
  (try simp only)
  rw[QAB _ (by omega) (by omega),h3,h5];unfold LM.next LM.cur;rw[hc];rfl
theorem QSy{p:Option Addr}{m:DM}{g:QBe}(h:QAC p m g):∃b,p=some ⟨b,0,none⟩:=by
 obtain⟨_,b,_,_,e,_⟩:=h;exact⟨b,e⟩
theorem QME(b:Nat)(p:Option Addr)(m:DM)(l:LM)(s:Sl):Ct Pr 202 [.pointer (some ⟨b,0,none⟩)] .one [.I] [Blk b (QAp p l s),QAC p m] emp
  (fun t Bs=>t.1=(if m.down=true then 10 else 0)∧Bs=[Blk b (QAp p l s),QAC p m]):=by
 refine sp1 (QHo _) fun B _=>?_;unfold QHo mf;dsimp only;refine QAQ (xgq ?_);refine QBx 1 (P1:=QAC p m) (fun g hg=>QSy hg) fun ⟨pb,hp⟩=>?_;subst hp;refine QAQ ?_;refine xcl (QMb (some ⟨pb,0,none⟩) m) rdb ?_;rintro⟨c,_⟩ _ ⟨hc,rfl⟩;obtain rfl:c=m.down:=hc;refine QA5 (ca1 (QGD 1 (xif (fun h=>QAD ⟨by rw[if_pos h],rfl⟩) (fun h=>QAD ⟨by rw[if_neg (by rw[h];decide)],rfl⟩))))
theorem QJb(q p:Option Addr)(m:DM)(l:LM)(hn:l.segs=[]→l.safe=l.next):Ct Pr 132 [.pointer q] .one [.I] [QAY q p l,QAC p m] GTab
  (fun t Bs=>t.1=(QB2 m l).2.2∧Bs=[QAY q p (QB2 m l).2.1,QAC p (QB2 m l).1]):=by
 refine sp1 (QIb _) fun B hr=>?_;haveI:=QKI hr;unfold QIb mf;dsimp only;refine QXQ 0 fun hi b s cs hq hf hs=>?_;subst hq;refine xcl (QME b p m l s) rdb ?_;rintro⟨t,_⟩ _ ⟨ht,rfl⟩;simp only at ht;subst ht;refine QBM (ca1 (xif (fun h=>?_) (fun h=>?_)))
 ·have hd:m.down=true:=by
   cases e:m.down with
   | true=>rfl
   | false=>rw[e]at h;cases h
  refine QAx (p:=p) (l:=l) b s cs hi ?_;rw[if_pos hd]
  have e:QB2 m l=(m,l,10):=by unfold QB2;rw[if_pos hd]
  rw[e];exact QAD ⟨rfl,rfl⟩
 have hd:m.down=false:=by
  cases e:m.down with
  | false=>rfl
  | true=>rw[e]at h;cases h
 refine QAO (QAQ (xgq ?_));refine xcl (QFv b p l s cs hs hf hi) rdb ?_;rintro⟨t,_⟩ _ ⟨ht,rfl⟩;simp only at ht;subst ht;refine QBM (ca1 (QC6 (h:=xif (fun h1=>?_) (fun h1=>?_))))
 ·have h1:l.safe=l.next:=by simpa using h1
  have e:QB2 m l=(m,l,0):=by unfold QB2;rw[if_neg (by rw[hd];decide),if_pos h1]
  rw[e];exact QAx (p:=p) (l:=l) b s cs hi (QAD ⟨rfl,rfl⟩)
 have h1:¬l.safe=l.next:=by simpa using h1
 refine QAO (QAQ (xgq ?_));refine xcl (QF5 b p l s cs hs (by rw[hf.len];exact hi.few)) rdb ?_;rintro⟨t,_⟩ _ ⟨ht,rfl⟩;simp only at ht;subst ht;refine QBM (ca1 (QC6 (h:=?_)));have hne:l.segs≠[]:=fun e=>h1 (hn e);obtain⟨sg,hc⟩:∃sg,l.segs.getLast? = some sg:=⟨_,List.getLast?_eq_some_getLast hne⟩;rw[if_neg (fun e=>by have:=(QSL hf).1 e;rw[hc]at this;cases this)];obtain⟨c,g1,g2,g3,g4,g5,g6⟩:=QKo hf hc;obtain⟨k1,k2,k3,k4,_⟩:=hi.segs sg (List.mem_of_getLast? hc);refine QAQ (QAN (E:=SEG) (xs:=cs) g1 (h:=?_));rw[g2];refine QWQ (by omega) (by omega) (QC6 (h:=?_));refine xcl (QHD p m (fN sg.n)) rdb ?_;rintro⟨t,_⟩ _ ⟨ht,rfl⟩;simp only at ht;subst ht
 have e:QB2 m l=if (QBK m (fN sg.n)).2≠0 then ((QBK m (fN sg.n)).1,l,(QBK m (fN sg.n)).2) else ((QBK m (fN sg.n)).1,{ l with safe:=l.next },0):=by
  unfold QB2 LM.cur;rw[if_neg (by rw[hd];decide),if_neg h1,hc];rfl
 rw[e];refine QA5 (ca1 (xif (fun h2=>?_) (fun h2=>?_)))
 ·have h2:(QBK m (fN sg.n)).2≠0:=by simpa using h2
  rw[if_pos h2];exact QAx (p:=p) (l:=l) b s cs hi (QAD ⟨rfl,rfl⟩)
 ·have h2:¬(QBK m (fN sg.n)).2≠0:=by simpa using h2
  rw[if_neg h2];refine xcl (QFv b p l s cs hs hf hi) rdb ?_;rintro⟨t,_⟩ _ ⟨ht,rfl⟩;simp only at ht;subst ht;refine QBM (ca1 (QAQ (xsq ?_)));have hb:=hi.next;exact QAx (p:=p) (l:={ l with safe:=l.next }) b s cs ⟨hi.n,hi.first,hi.segs,hi.few,by simp only;omega,hi.chain⟩ (QAD ⟨rfl,rfl⟩)
end Go.Cx
namespace Go.Cx
open Go Go.Cf
set_option linter.unusedVariables false
set_option maxRecDepth 100000
variable {B:QBE}{As F:List HP}
theorem QYl(p:Option Addr)(m:DM)(nm:ByteArray):Ct Pr 173 [.pointer p,.string nm] .one [.I] [QAC p m] emp (fun t Bs=>t.1=(QAt m nm).2∧Bs=[QAC p (QAt m nm).1]):=by
 refine sp1 (QRQ _ _) fun B _=>?_;unfold QRQ mf;dsimp only;refine xcl (QF8 p m nm) rdb ?_;rintro⟨t,_⟩ _ ⟨ht,rfl⟩;simp only at ht;subst ht;unfold QAt;refine QA5 (ca1 (xif (fun h=>?_) (fun h=>?_)))
 ·have h:¬(QAV m nm).2=6:=by simpa using h
  rw[if_neg h];exact QAD ⟨rfl,rfl⟩
 ·have h:(QAV m nm).2=6:=by simpa using h
  rw[if_pos h];exact QAD ⟨rfl,rfl⟩
theorem QQb(v:Nat)(h:v≤9223372036854775807):IntKind.i64.wrap (v:Int)=v:=QAB _ (by omega) (by omega)
theorem QPo(p:Option Addr)(m:DM):Ct Pr 174 [.pointer p] (.tup [none,none,none]) [.I,.I,.I] [QAC p m] emp
  (fun t Bs=>t.1=(QC4 m).1∧t.2.1=(QC4 m).2.1∧t.2.2.1=(QC4 m).2.2∧Bs=[QAC p m]):=by
 refine sp3 (QI6 _) fun B _=>?_;unfold QI6 mf;dsimp only;refine QBx 0 (P1:=QAC p m) (fun g hg=>hg.1) fun hI=>?_;have hlen:=QPE hI QMX;refine xcl (QIj p m QMX) rdb ?_;rintro⟨s,r,_⟩ _ ⟨hr,rfl⟩;simp only at hr;subst hr;unfold QC4;refine QBM (ca2 (xif (fun h=>?_) (fun h=>?_)))
 ·have h:(QAW m QMX).2≠0:=by simpa using h
  rw[if_pos h];exact QAK [QAC p m] (QAD ⟨rfl,rfl,rfl,rfl⟩)
 have h:¬(QAW m QMX).2≠0:=by simpa using h
 rw[if_neg h];refine QCm s fun hsl hsc=>?_
 replace hsl:(QAW m QMX).1.length=s.n:=hsl
 refine xcl (pre:=[]) (QFi s (QAW m QMX).1 (by omega) hsc) rdb ?_;rintro⟨s1,r1,r2,_⟩ _ ⟨h1,h2,rfl⟩;simp only at h1 h2;subst h1 h2
 generalize hx:(QAW m QMX).1=xs at *
 generalize hg:QBN xs=gx at *
 obtain⟨pl,u,e⟩:=gx;refine QA5 (ca3 ?_);refine QCm s1 fun hl1 hc1=>?_
 replace hl1:pl.length=s1.n:=hl1
 replace hsl:xs.length=s.n:=hsl
 have hcond:(((e != 0)||(((u:Nat):Int) != (s.n:Int)))||(((s1.n:Int)) != 16))=decide (e≠0∨u≠xs.length∨pl.length≠16):=by
  rw[Bool.eq_iff_iff];simp only[Bool.or_eq_true,bne_iff_ne,ne_eq,decide_eq_true_eq];omega
 (try simp only)
 rw[hcond];refine QAA (fun h3=>?_) (fun h3=>?_)
 ·rw[if_pos h3];exact QAK [QAC p m] (QAD ⟨rfl,rfl,rfl,rfl⟩)
 rw[if_neg h3]
 have hp16:pl.length=16:=by
  by_cases e:pl.length=16
  ·exact e
  ·exact absurd (.inr (.inr e)) h3
 refine xcl (pre:=[]) (QGf s1 pl 0 (by omega) (by omega) hc1) rdb ?_;rintro⟨x,z,_⟩ _ ⟨hx1,_,rfl⟩;simp only at hx1;subst hx1;refine QAy (ca2 ?_);refine xcl (pre:=[]) (QGf s1 pl 8 (by omega) (by omega) hc1) rdb ?_;rintro⟨y,z1,_⟩ _ ⟨hy1,_,rfl⟩;simp only at hy1;subst hy1;refine QAy (ca2 ?_)
 have hcond2:(((decide (((beV (QKm pl 0):Nat):Int)<1))||(decide (((beV (QKm pl 0):Nat):Int)>999999999999)))||(decide (((beV (QKm pl 8):Nat):Int)>1099511627776)))=decide (beV (QKm pl 0)<1∨beV (QKm pl 0)>999999999999∨beV (QKm pl 8)>1099511627776):=by
  rw[Bool.eq_iff_iff];simp only[Bool.or_eq_true,decide_eq_true_eq];omega
 rw[hcond2];refine QAA (fun h4=>?_) (fun h4=>?_)
 ·rw[if_pos h4];exact QAK [QAC p m] (QAD ⟨rfl,rfl,rfl,rfl⟩)
 ·rw[if_neg h4,QQb _ (by omega),QQb _ (by omega)];exact QAK [QAC p m] (QAD ⟨rfl,rfl,rfl,rfl⟩)
theorem QEC{α:Type}(p:α→Bool):∀l:List α,(l.dropWhile p=[]↔l.all p=true)
 | []=>by simp
 | x::l=>by
  simp only[List.dropWhile_cons,List.all_cons,Bool.and_eq_true];split
  ·rename_i h;rw[QEC p l];simp[h]
  ·rename_i h;simp[h]
theorem QHe{α:Type}(p:α→Bool):∀(l:List α) x r,l.dropWhile p=x::r→p x=false
 | [],x,r,h=>by simp at h
 | y::l,x,r,h=>by
  rw[List.dropWhile_cons]at h;split at h
  ·exact QHe p l x r h
  ·rename_i hp
   obtain⟨rfl,_⟩:=List.cons.inj h;simpa using hp
theorem Qbd(d cs:List UInt8):Lib.trimS d cs=[]↔d.all (cs.contains ·)=true:=by
 unfold Lib.trimS Lib.trimLeftS Lib.trimRightS;rw[QEC,List.all_reverse]
 cases e:d.reverse.dropWhile (cs.contains ·) with
 | nil=>
  have:=(QEC (cs.contains ·) d.reverse).1 e;rw[List.all_reverse]at this;simp only[List.all_nil,true_iff];exact this
 | cons x r=>
  have hx:=QHe _ _ _ _ e;simp only[List.all_cons,hx,Bool.false_and];constructor
  ·intro h;cases h
  ·intro h;rw[←List.all_reverse,←QEC,e]at h;cases h
theorem QQl(b:UInt8):([48,49,50,51,52,53,54,55,56,57]:List UInt8).contains b=QPP b:=by
 have:∀n:Fin 256,([48,49,50,51,52,53,54,55,56,57]:List UInt8).contains (UInt8.ofNat n.val)=QPP (UInt8.ofNat n.val):=by decide
 have h:=this ⟨b.toNat,b.toNat_lt⟩;simpa using h
theorem QTP(s:ByteArray)(hs:s.size≤4096):Ct Pr 179 [.string s] .one [.bool] [] emp (fun t Bs=>t.1=QEM s.data.toList∧Bs=[]):=by
 refine sp1 (QLW _) fun B hr=>?_;unfold QLW mf;dsimp only;refine QAR (QNK s _) rdb ?_;rintro⟨t,c,_⟩ _ ⟨ht,hc,rfl⟩;have hlit:(⟨#[108,111,103,45]⟩:ByteArray).data.toList=preL:=rfl;rw[hlit]at ht hc;simp only at ht hc
 have hsz:s.data.toList.length=s.size:=by rw[Array.length_toList];rfl
 generalize s.data.toList=l at *
 refine QAy (ca2 ?_);have fin:∀{As:List HP}{c:Bool},c=QEM l→Ent B As (Ret B (ss:=[.bool]) (fun t Bs=>t.1=QEM l∧Bs=[]) (c,())):=fun {As}{c} h=>QAa (l:=[]) (QAD ⟨h,rfl⟩)
 cases hp:Lib.hasPrefix l preL with
 | false=>
  rw[hp]at hc;subst hc;refine QAJ (QBF rfl (QAJ (QBF rfl (QAJ (QBF rfl (fin ?_))))));symm;unfold QEM;simp only[Bool.and_eq_false_iff,Bool.not_eq_false',decide_eq_false_iff_not,beq_eq_false_iff_ne];refine .inl (.inl (.inr fun e=>?_))
  have:preL.isPrefixOf l=true:=by
   rw[List.isPrefixOf_iff_prefix,←e];exact List.take_prefix _ _
  unfold Lib.hasPrefix at hp;rw[this]at hp;cases hp
 | true=>
  rw[hp]at hc;subst hc
  obtain⟨d,rfl⟩:∃d,l=preL++d:=by
   unfold Lib.hasPrefix at hp;rw[List.isPrefixOf_iff_prefix]at hp;obtain⟨d,hd⟩:=hp;exact⟨d,hd.symm⟩
  have htd:t=BA d:=by
   rw[ht];unfold Lib.trimPrefix;rw[if_pos hp,List.drop_left];rfl
  subst htd;have e4:preL.length=4:=rfl
  have hm:QEM (preL++d)=(!(d == [])&&decide (d.length≤12) && !(d[0]? == some 48)&&d.all QPP):=by
   unfold QEM
   have h1:(preL++d).take 4=preL:=by rw[←e4,List.take_left]
   have h2:(preL++d).drop 4=d:=by rw[←e4,List.drop_left]
   have h3:(preL++d)[4]? = d[0]?:=by rw[List.getElem?_append_right (by omega),e4]
   have h4:(decide (5≤(preL++d).length)) = !(d == []):=by
    rw[List.length_append,e4,Bool.eq_iff_iff]
    cases d with
    | nil=>simp
    | cons y r=>simp;omega
   have h5:decide ((preL++d).length≤16)=decide (d.length≤12):=by
    rw[List.length_append,e4,Bool.eq_iff_iff];simp only[decide_eq_true_eq];omega
   rw[h1,h2,h3,h4,h5];simp
  have fin:=fun {As:List HP}{c:Bool}(h:c=(!(d == [])&&decide (d.length≤12) && !(d[0]? == some 48)&&d.all QPP))=>fin (As:=As) (h.trans hm.symm)
  have hde:((BA d).toList == ByteArray.empty.toList)=(d == []):=by rw[QEb,QJY]
  refine QAJ (QBz rfl ?_);rw[hde];rw[QTj]
  have hdl:((decide ((d.length:Int)≤12)):Bool)=decide (d.length≤12):=by
   rw[Bool.eq_iff_iff];simp only[decide_eq_true_eq];omega
  rw[hdl]
  cases hd:d with
  | nil=>
   subst hd;refine QAJ (QBF rfl (QAJ (QBF rfl (fin rfl))))
  | cons y r=>
   rw[←hd]
   have hd0:d[0]? = some y:=by rw[hd];rfl
   have hne:(d == [])=false:=by rw[hd];rfl
   rw[hne,hd0]at fin;rw[hne]
   have hy:((y.toNat:Int) != 48) = !((some y:Option UInt8) == some 48):=by
    rw[Bool.eq_iff_iff];simp only[bne_iff_ne,ne_eq,Bool.not_eq_true',beq_eq_false_iff_ne,Option.some.injEq];constructor
    ·rintro h rfl;exact h rfl
    ·intro h e
     exact h (UInt8.toNat_inj.1 (by have : y.toNat = 48 := by omega
                                    exact this))
   cases h12:decide (d.length≤12) with
   | false=>
    rw[h12]at fin;exact QAJ (QBF rfl (QAJ (QBF rfl (fin rfl))))
   | true=>
    rw[h12]at fin;refine QAJ (QBz rfl (QgE (k:=0) rfl (by rw[QOh];exact hd0) ?_));rw[hy];refine QAJ (xif (fun h=>?_) (fun h=>fin ?_))
    ·rw[h]at fin;refine QAR (QZe (BA d) _ (by rw[QTj];simp at h12;omega) (by decide) (by decide)) rdb ?_;rintro⟨t1,_⟩ _ ⟨ht1,rfl⟩;have hcs:(⟨#[48,49,50,51,52,53,54,55,56,57]⟩:ByteArray).data.toList=[48,49,50,51,52,53,54,55,56,57]:=rfl;rw[QOh,hcs]at ht1;obtain rfl:t1=BA (Lib.trimS d [48,49,50,51,52,53,54,55,56,57]):=ht1;refine QAy (ca1 (fin ?_));rw[QEb,QJY,Bool.eq_iff_iff,beq_iff_eq,Qbd]
     have:d.all (fun x=>([48,49,50,51,52,53,54,55,56,57]:List UInt8).contains x)=d.all QPP:=by
      congr 1;funext b;exact QQl b
     rw[this];simp
    ·rw[h];rfl
theorem QW1(c:CS)(a:Nat)(nm:ByteArray)(h0:0≤c.1)(h1:c.1≤4398046511104):Ct Pr 181 [.agg #[.I c.1,.I c.2.1,.I c.2.2.1,c.2.2.2.v],.pointer (some ⟨a,0,none⟩)] .one [.bool] [Blk a [.string nm]] GTab
  (fun t Bs=>t.1=(fK c.1 == nm.toList)∧Bs=[Blk a [.string nm]]):=by
 refine sp1 (QMr _ _ _ _ _) fun B hr=>?_;haveI:=QKI hr;unfold QMr mf;dsimp only;refine QAL fun b=>QAO (xgq (xgq ?_));refine QWQ h0 h1 (QC6 (h:=?_));exact QAK [Blk a [.string nm]] (QAD ⟨rfl,rfl⟩)
theorem QR1(a:Nat)(nm:ByteArray)(s:Sl)(cs:List CS)(ss:List Sg)(hf:LF cs ss)(hs:s.n=cs.length)(hl:ss.length≤64)(hb:∀x∈ss,1≤x.n∧x.n≤2000000000000) :
  Ct Pr 180 [s.v,.func (.func 181) #[] #[.pointer (some ⟨a,0,none⟩)]] .one [.bool] [Blk a [.string nm],Ar SEG s cs] GTab
  (fun t Bs=>t.1=(ss.any fun x=>fK x.n == nm.toList)∧Bs=[Blk a [.string nm],Ar SEG s cs]):=by
 refine sp1 (QA0 _ _) fun B hr=>?_;haveI:=QKI hr;unfold QA0 mf;dsimp only
 have idx:Ct Pr 262 [s.v,.func (.func 181) #[] #[.pointer (some ⟨a,0,none⟩)]] .one [.I] [Blk a [.string nm],Ar SEG s cs] GTab
   (fun t Bs=>(decide (t.1≥0):Bool)=(ss.any fun x=>fK x.n == nm.toList)∧Bs=[Blk a [.string nm],Ar SEG s cs]):=by
  refine sp1 (QA4 _ _) fun B hr=>?_;haveI:=QKI hr;unfold QA4 mf;dsimp only;refine QBP (fun n i As=>∃k:Nat,i=(k:Int)∧n=cs.length - k∧k≤cs.length∧((ss.take k).any fun x=>fK x.n == nm.toList)=false∧As=[Blk a [.string nm],Ar SEG s cs]) cs.length ⟨0,rfl,rfl,by omega,rfl,rfl⟩ ?_;rintro n _ _ K ⟨k,rfl,rfl,hk,hno,rfl⟩ hK;refine QAA (fun h=>?_) (fun h=>?_)
  ·have hlt:k<cs.length:=by omega
   have hx:=List.getElem?_eq_getElem hlt;have hy:=List.getElem?_eq_getElem (l:=ss) (i:=k) (by rw[←hf.len];exact hlt);obtain⟨g1,g2,g3,g4,g5⟩:=hf.each k _ _ hx hy;have hbx:=hb _ (List.mem_of_getElem? hy)
   generalize cs[k]=c at *
   generalize hsg:ss[k]'(by rw[←hf.len];exact hlt)=sg at *
   refine QAH (E:=SEG) (xs:=cs) (s:=s) (h1:=hlt) (h:=fun _ _=>?_);refine QAN (E:=SEG) (xs:=cs) hx (h:=?_);iterate 3 (refine QAZ (E:=SEG) (xs:=cs) hx (h:=?_))
   refine xcl (QW1 c a nm (by omega) (by omega)) rdb ?_;rintro⟨t,_⟩ _ ⟨ht,rfl⟩;simp only at ht;subst ht
   have hsn:ss.take (k+1)=ss.take k++[sg]:=by rw[List.take_add_one,hy];rfl
   refine QA5 (ca1 (xif (fun h2=>?_) (fun h2=>?_)))
   ·refine QAD ⟨?_,rfl⟩
    have:ss.any (fun x=>fK x.n == nm.toList)=true:=by
     refine List.any_eq_true.2 ⟨sg,List.mem_of_getElem? hy,?_⟩;rw[←g1];exact h2
    rw[this];simp
   ·rw[QAF k (by rw[hf.len]at hlt;omega)];refine hK (cs.length - (k+1)) _ _ (by omega) ⟨k+1,rfl,rfl,by omega,?_,rfl⟩;rw[hsn,List.any_append,hno];simp only[List.any_cons,List.any_nil,Bool.or_false,Bool.false_or];rw[←g1];exact h2
  ·have:k=ss.length:=by rw[←hf.len];omega
   rw[this,List.take_of_length_le (Nat.le_refl _)]at hno;refine QAD ⟨?_,rfl⟩;rw[hno];rfl
 refine xcl idx rdb ?_;rintro⟨t,_⟩ _ ⟨ht,rfl⟩;exact QBM (ca1 (QAD ⟨ht,rfl⟩))
end Go.Cx
namespace Go.Cx
open Go Go.Cf
set_option linter.unusedVariables false
set_option maxRecDepth 100000
variable {B:QBE}{As F:List HP}
theorem QZm{m:DM}(h:(QAt m QEj).2≠0):QDk m=((QAt m QEj).1,none,(QAt m QEj).2):=by unfold QDk;rw[if_pos h]
theorem QY5{m:DM}(h:¬(QAt m QEj).2≠0)(h2:(QC4 (QAt m QEj).1).2.2≠0):QDk m=((QAt m QEj).1,none,(QC4 (QAt m QEj).1).2.2):=by unfold QDk;rw[if_neg h];simp only[if_pos h2]
theorem QYM{m:DM}(h:¬(QAt m QEj).2≠0)(h2:¬(QC4 (QAt m QEj).1).2.2≠0){m':DM}{l:LM}{e:Int}(h3:QLj 70 (QAt m QEj).1 (QC4 (QAt m QEj).1).1 ⟨(QC4 (QAt m QEj).1).1,(QC4 (QAt m QEj).1).2.1,[],0⟩=(m',l,e))(he:e≠0):QDk m=(m',none,e):=by
 unfold QDk;rw[if_neg h];simp only[if_neg h2,h3,if_pos he]
theorem QYy{m:DM}(h:¬(QAt m QEj).2≠0)(h2:¬(QC4 (QAt m QEj).1).2.2≠0){m':DM}{l:LM}(h3:QLj 70 (QAt m QEj).1 (QC4 (QAt m QEj).1).1 ⟨(QC4 (QAt m QEj).1).1,(QC4 (QAt m QEj).1).2.1,[],0⟩=(m',l,0)){w:DM×Int}(hw:QC7 l (m'.fs.map (·.nm)) m'=w) :
  QDk m=if w.2≠0 then (w.1,none,w.2) else (w.1,some { l with safe:=l.next },0):=by
 unfold QDk;rw[if_neg h];simp only[if_neg h2,h3,hw];rfl
def openPost(p:Option Addr)(m:DM):Tup [.ptr,.I]→List HP→Prop:=fun t Bs=>
 (∃l b,(QDk m).2.1=some l∧(QDk m).2.2=0∧t.1=some ⟨b,0,none⟩∧t.2.1=0∧Bs=[QAY (some ⟨b,0,none⟩) p l,QAC p (QDk m).1]) ∨
 ((QDk m).2.1=none∧(QDk m).2.2≠0∧t.1=none∧t.2.1=(QDk m).2.2∧Bs=[QAC p (QDk m).1])
theorem QV3{l:LM}{nms:List ByteArray}{k:Nat}{nm:ByteArray}{m:DM}(h:nms[k]? = some nm) :
  QC7 l (nms.drop k) m=if QRl l nm then QC7 l (nms.drop (k+1)) m else if (QAV m nm).2≠0 then QAV m nm else QC7 l (nms.drop (k+1)) (QAV m nm).1:=by
 have hk:=(List.getElem?_eq_some_iff.1 h).1;rw[List.drop_eq_getElem_cons hk,(List.getElem?_eq_some_iff.1 h).2];rfl
theorem QVt(p:Option Addr)(m:DM):Ct Pr 116 [.pointer p] (.tup [none,none]) [.ptr,.I] [QAC p m] GTab (openPost p m):=by
 refine sp2 (QQV _) fun B hr=>?_;haveI:=QKI hr;unfold QQV mf;dsimp only;refine xcl (QYl p m QEj) rdb ?_;rintro⟨t,_⟩ _ ⟨ht,rfl⟩;simp only at ht;subst ht;refine QA5 (ca1 (xif (fun h=>?_) (fun h=>?_)))
 ·have h:(QAt m QEj).2≠0:=by simpa using h
  have e:=QZm h;exact QAD (.inr ⟨by rw[e],by rw[e];exact h,rfl,by rw[e],by rw[e]⟩)
 have h1:¬(QAt m QEj).2≠0:=by simpa using h
 refine xcl (QPo p (QAt m QEj).1) rdb ?_;rintro⟨t,t1,t2,_⟩ _ ⟨ht,ht1,ht2,rfl⟩;simp only at ht ht1 ht2;subst ht ht1 ht2;refine QA5 (ca3 (xif (fun h=>?_) (fun h=>?_)))
 ·have h:(QC4 (QAt m QEj).1).2.2≠0:=by simpa using h
  have e:=QY5 h1 h;exact QAD (.inr ⟨by rw[e],by rw[e];exact h,rfl,by rw[e],by rw[e]⟩)
 have h2:¬(QC4 (QAt m QEj).1).2.2≠0:=by simpa using h
 have he3:=fun {m' l e} h3 he=>QYM (m:=m) h1 h2 (m':=m') (l:=l) (e:=e) h3 he;have he4:=fun {m' l} h3 {w} hw=>QYy (m:=m) h1 h2 (m':=m') (l:=l) h3 (w:=w) hw;have hb:=QMV (QAt m QEj).1 (by simpa using h2);refine QBx 0 (P1:=QAC p (QAt m QEj).1) (fun g hg=>hg.1) fun hI=>?_
 generalize hm1:(QAt m QEj).1=m1 at *
 generalize hn0:(QC4 m1).1=n0 at *
 generalize hf0:(QC4 m1).2.1=f0 at *
 obtain⟨hb1,hb2⟩:=hb;have hstart:=ReadI.start (n0:=n0) hI hb2
 generalize hR0:QLj 70 m1 n0 ⟨n0,f0,[],0⟩=R0 at *
 refine QAL fun b=>?_;refine QAd SEG ?_;refine QX1 (A:=Each QFC [] []) trivial ?_;refine QBQ [Blk b [.pointer p,.I n0,.I f0,.slice none 0 0,.I 0],Ar SEG ⟨none,0,0⟩ [],Each QFC [] []] (QAY (some ⟨b,0,none⟩) p ⟨n0,f0,[],0⟩) (fun g hg=>⟨hstart.linv hb1 hb2,b,⟨none,0,0⟩,[],rfl,hg⟩) ?_;refine QAS (fun(n1:Int) As'=>∃(m':DM) (l':LM),R0=(m',l',0)∧ReadI n0 f0 m' l'∧As'=[QAY (some ⟨b,0,none⟩) p l',QAC p m']) (fun K hK=>?_) ?_
 ·refine QBP (fun fuel (n:Int) As'=>∃(m':DM) (l':LM),n=n0+l'.segs.length∧fuel+l'.segs.length=70∧R0=QLj fuel m' n l'∧ReadI n0 f0 m' l'∧As'=[QAY (some ⟨b,0,none⟩) p l',QAC p m']) 70 ⟨m1,⟨n0,f0,[],0⟩,by simp,rfl,by simpa using hR0.symm,hstart,rfl⟩ ?_;rintro fuel n As' K2 ⟨m',l',rfl,hfu,heq,hR,rfl⟩ hK2;have hfew:=hR.few hb1.1;obtain⟨fuel,rfl⟩:∃k,fuel=k+1:=⟨fuel - 1,by omega⟩;have hlen:=QPE hR.inv (fN (n0+l'.segs.length));refine QWQ (by omega) (by omega) ?_;refine xcl (QIj p m' (fN (n0+l'.segs.length))) rdb ?_;rintro⟨s,r,_⟩ _ ⟨hr4,rfl⟩;simp only at hr4;subst hr4;rw[QLj]at heq;refine QBM (ca2 (xif (fun h4=>?_) (fun h4=>?_)))
  ·have h4:(QAW m' (fN (n0+l'.segs.length))).2≠0:=by simpa using h4
   rw[if_pos h4]at heq;exact QAK [QAY (some ⟨b,0,none⟩) p l',QAC p m'] (hK _ _ ⟨m',l',heq,hR,rfl⟩)
  have h4:¬(QAW m' (fN (n0+l'.segs.length))).2≠0:=by simpa using h4
  rw[if_neg h4]at heq;have hmore:=hR.more hb1.1 (by simpa using h4);refine QCm s fun hsl hsc=>?_
  replace hsl:(QAW m' (fN (n0+l'.segs.length))).1.length=s.n:=hsl
  refine xcl (pre:=[]) (QRj s (QAW m' (fN (n0+l'.segs.length))).1 hlen hsc) rdb ?_;rintro⟨s1,r1,_⟩ _ ⟨h5,rs,rfl⟩;simp only at h5;subst h5;have hsu:=QK3 (QAW m' (fN (n0+l'.segs.length))).1;have hme:QD6 m' (n0+l'.segs.length)=(let t:=if (QAv (QAW m' (fN (n0+l'.segs.length))).1).2<(QAW m' (fN (n0+l'.segs.length))).1.length then QBR m' (fN (n0+l'.segs.length)) (QAv (QAW m' (fN (n0+l'.segs.length))).1).2 else (m',0);if t.2≠0 then t else QBK t.1 (fN (n0+l'.segs.length))):=rfl
  generalize hbs:(QAW m' (fN (n0+l'.segs.length))).1=bs at *
  generalize hrows:(QAv bs).1=rows at *
  generalize hu:(QAv bs).2=u at *
  simp only[hrows,hu]at heq;simp only at hme;refine QBM (ca2 ?_);refine QBu (fun As'=>∃m2:DM,QD6 m' (n0+l'.segs.length)=QBK m2 (fN (n0+l'.segs.length))∧As'=[QAY (some ⟨b,0,none⟩) p l',QAC p m2,Ar SL s1 rs,Each (Ar U8) rs rows]) (fun K3 hK3=>?_) ?_
  ·refine QAA (fun h5=>?_) (fun h5=>?_)
   ·replace h5:u<bs.length:=by omega
    rw[if_pos h5]at hme;refine QWQ (by omega) (by omega) ?_;refine xcl (QIu p m' (fN (n0+l'.segs.length)) (u:Int)) rdb ?_;rintro⟨t,_⟩ _ ⟨ht,rfl⟩;simp only at ht;subst ht;refine QA5 (ca1 (xif (fun h6=>?_) (fun h6=>?_)))
    ·have h6:(QBR m' (fN (n0+l'.segs.length)) (u:Int)).2≠0:=by simpa using h6
     rw[if_pos h6]at hme;rw[hme,if_pos h6]at heq;have e:=he3 heq h6;exact QAK [QAC p (QBR m' (fN (n0+l'.segs.length)) (u:Int)).1] (QAD (.inr ⟨by rw[e],by rw[e];exact h6,rfl,by rw[e],by rw[e]⟩))
    ·have h6:¬(QBR m' (fN (n0+l'.segs.length)) (u:Int)).2≠0:=by simpa using h6
     rw[if_neg h6]at hme;exact QAK [QAY (some ⟨b,0,none⟩) p l',QAC p (QBR m' (fN (n0+l'.segs.length)) (u:Int)).1,Ar SL s1 rs,Each (Ar U8) rs rows] (hK3 _ ⟨_,hme,rfl⟩)
   ·replace h5:¬u<bs.length:=by omega
    rw[if_neg h5]at hme;rw[if_neg (by simp)]at hme;exact QAK [QAY (some ⟨b,0,none⟩) p l',QAC p m',Ar SL s1 rs,Each (Ar U8) rs rows] (hK3 _ ⟨_,hme,rfl⟩)
  rintro As2 ⟨m2,hm2,rfl⟩;rw[hm2]at heq hmore;refine QWQ (by omega) (by omega) ?_;refine xcl (QHD p m2 (fN (n0+l'.segs.length))) rdb ?_;rintro⟨t,_⟩ _ ⟨ht,rfl⟩;simp only at ht;subst ht;refine QA5 (ca1 (xif (fun h6=>?_) (fun h6=>?_)))
  ·have h6:(QBK m2 (fN (n0+l'.segs.length))).2≠0:=by simpa using h6
   rw[if_pos h6]at heq;have e:=he3 heq h6;exact QAK [QAC p (QBK m2 (fN (n0+l'.segs.length))).1] (QAD (.inr ⟨by rw[e],by rw[e];exact h6,rfl,by rw[e],by rw[e]⟩))
  have h6:¬(QBK m2 (fN (n0+l'.segs.length))).2≠0:=by simpa using h6
  rw[if_neg h6]at heq
  generalize (QBK m2 (fN (n0+l'.segs.length))).1=m3 at *
  refine QAO (QAQ ?_);refine QXQ 1 fun hi b' s2 cs hq hf hs=>?_
  obtain rfl:b=b':=by cases hq;rfl
  refine xgq ?_;refine xcl (QFv b p l' s2 cs hs hf hi) rdb ?_;rintro⟨t,_⟩ _ ⟨ht,rfl⟩;simp only at ht;subst ht;refine QBM (ca1 (QC6 (h:=QAL fun b1=>?_)))
  have hcl:cs.length≤64:=by rw[hf.len];exact hfew
  refine QEc (E:=SEG) ((n0+l'.segs.length,l'.next,(u:Int),s1):CS) (hb:=by omega) (h:=fun s3=>QAQ (xsq ?_));have hLI:=hmore.linv hb1 hb2;refine QBQ [Blk b (QAp p { l' with segs:=l'.segs++[⟨n0+l'.segs.length,l'.next,(u:Int),rows⟩] } s3),Ar SEG s3 (cs++[(n0+l'.segs.length,l'.next,(u:Int),s1)]),Each QFC cs l'.segs,Ar SL s1 rs,Each (Ar U8) rs rows] (QAY (some ⟨b,0,none⟩) p { l' with segs:=l'.segs++[⟨n0+l'.segs.length,l'.next,(u:Int),rows⟩] }) (fun g hg=>⟨hLI,b,s3,cs++[(n0+l'.segs.length,l'.next,(u:Int),s1)],rfl,?_⟩) ?_
  ·refine QBC (l:=[Ar SEG s3 (cs++[(n0+l'.segs.length,l'.next,(u:Int),s1)]),Each QFC cs l'.segs,Ar SL s1 rs,Each (Ar U8) rs rows]) (fun h hh=>?_) hg;refine QBC (l:=[Each QFC cs l'.segs,Ar SL s1 rs,Each (Ar U8) rs rows]) (fun h hh=>?_) hh;refine QCh (QEL ?_);exact QBC (l:=[Ar SL s1 rs,Each (Ar U8) rs rows]) (fun h hh=>QCh ⟨rfl,rfl,rfl,rs,hh⟩) hh
  refine QAA (fun h7=>?_) (fun h7=>?_)
  ·replace h7:u<bs.length:=by omega
   rw[if_pos h7]at heq;exact QAK [QAY (some ⟨b,0,none⟩) p { l' with segs:=l'.segs++[⟨n0+l'.segs.length,l'.next,(u:Int),rows⟩] },QAC p m3] (hK _ _ ⟨m3,_,heq,hmore,rfl⟩)
  ·replace h7:¬u<bs.length:=by omega
   rw[if_neg h7]at heq;rw[QAB _ (by omega) (by omega)];exact QAK [QAY (some ⟨b,0,none⟩) p { l' with segs:=l'.segs++[⟨n0+l'.segs.length,l'.next,(u:Int),rows⟩] },QAC p m3] (hK2 fuel _ _ (by omega) ⟨m3,_,by simp;omega,by simp;omega,heq,hmore,rfl⟩)
 rintro n1 As2 ⟨m',l',heq,hR,rfl⟩;have hLI:=hR.linv hb1 hb2;have hfin:=he4 heq rfl;refine QBx 1 (P1:=QAC p m') (fun g hg=>hg.1) fun hI'=>?_;have hnl:=hI'.len
 have hnames:∀nm∈m'.fs.map (·.nm),nm.size≤16:=by
  intro nm hnm;obtain⟨f,hf,rfl⟩:=List.mem_map.1 hnm;have:=hI'.names f hf;unfold QDT at this;simp only[Bool.and_eq_true,decide_eq_true_eq]at this;omega
 refine xcl (QWc p m') rdb ?_;rintro⟨s4,_⟩ _ rfl;refine QBM (ca1 ?_)
 have hnl:(m'.fs.map (·.nm)).length≤64:=by rw[List.length_map];exact hnl
 generalize hN:m'.fs.map (·.nm)=nms at *
 refine QCm s4 fun hl4 _=>?_
 replace hl4:nms.length=s4.n:=hl4
 refine QAK [QAY (some ⟨b,0,none⟩) p l',QAC p m',Ar Cf.ST s4 nms] ?_;refine QBP (fun mm (x:Int) As'=>∃(k:Nat) (mk:DM),x=(k:Int)∧mm=nms.length - k∧k≤nms.length∧QC7 l' nms m'=QC7 l' (nms.drop k) mk∧As'=[QAY (some ⟨b,0,none⟩) p l',QAC p mk,Ar Cf.ST s4 nms]) nms.length ⟨0,m',rfl,rfl,by omega,rfl,rfl⟩ ?_;rintro mm x As' K ⟨k,mk,rfl,rfl,hk,hsw,rfl⟩ hK;refine QAA (fun hp=>?_) (fun hp=>?_)
 ·have hp:k<nms.length:=by omega
  refine QAH (E:=Cf.ST) (xs:=nms) (s:=s4) (h1:=hp) (h:=fun nm hnm=>?_);refine QAN (E:=Cf.ST) (xs:=nms) hnm (h:=QAL fun b2=>xsq (xgq ?_));have hsz:=hnames nm (List.mem_of_getElem? hnm);rw[QV3 hnm]at hsw;refine QAR (QTP nm (by omega)) rdb ?_;rintro⟨c,_⟩ _ ⟨hc,rfl⟩;obtain rfl:c=QEM nm.data.toList:=hc;refine QAy (ca1 ?_);refine QAS (fun(c:Bool) As'=>c = !(QRl l' nm)∧As'=[QAY (some ⟨b,0,none⟩) p l',QAC p mk,Ar Cf.ST s4 nms,Blk b2 [.string nm]]) (fun K2 hK2=>?_) ?_
  ·refine xif (fun h=>?_) (fun h=>?_)
   ·refine QXQ 1 fun hi b' s2 cs hq hf hs=>?_
    obtain rfl:b=b':=by cases hq;rfl
    refine QAQ (xgq ?_);refine xcl (QR1 b2 nm s2 cs l'.segs hf hs hi.few (fun x hx=>(hi.segs x hx).1)) rdb ?_;rintro⟨t,_⟩ _ ⟨ht,rfl⟩;simp only at ht;subst ht;refine QBM (ca1 (QAx (p:=p) (l:=l') b s2 cs hi ?_));refine QAK [QAY (some ⟨b,0,none⟩) p l',QAC p mk,Ar Cf.ST s4 nms,Blk b2 [.string nm]] (hK2 _ _ ⟨?_,rfl⟩);unfold QRl;rw[h];rfl
   ·refine QAK [QAY (some ⟨b,0,none⟩) p l',QAC p mk,Ar Cf.ST s4 nms,Blk b2 [.string nm]] (hK2 _ _ ⟨?_,rfl⟩);unfold QRl;rw[h];rfl
  rintro c As2 ⟨rfl,rfl⟩;refine QAJ (xif (fun h=>?_) (fun h=>?_))
  ·have h:¬QRl l' nm=true:=by simpa using h
   rw[if_neg h]at hsw;refine xgq ?_;refine xcl (QF8 p mk nm) rdb ?_;rintro⟨t,_⟩ _ ⟨ht,rfl⟩;simp only at ht;subst ht;refine QA5 (ca1 (xif (fun h2=>?_) (fun h2=>?_)))
   ·have h2:(QAV mk nm).2≠0:=by simpa using h2
    rw[if_pos h2]at hsw;rw[hsw,if_pos h2]at hfin;exact QAK [QAC p (QAV mk nm).1] (QAD (.inr ⟨by rw[hfin],by rw[hfin];exact h2,rfl,by rw[hfin],by rw[hfin]⟩))
   ·have h2:¬(QAV mk nm).2≠0:=by simpa using h2
    rw[if_neg h2]at hsw;rw[QAF k (by omega)];exact QAK [QAY (some ⟨b,0,none⟩) p l',QAC p (QAV mk nm).1,Ar Cf.ST s4 nms] (hK _ _ _ (by omega) ⟨k+1,_,rfl,rfl,by omega,hsw,rfl⟩)
  ·have h:QRl l' nm=true:=by simpa using h
   rw[if_pos h]at hsw;rw[QAF k (by omega)];exact QAK [QAY (some ⟨b,0,none⟩) p l',QAC p mk,Ar Cf.ST s4 nms] (hK _ _ _ (by omega) ⟨k+1,mk,rfl,rfl,by omega,hsw,rfl⟩)
 ·obtain rfl:k=nms.length:=by omega
  rw[List.drop_length]at hsw;have hsw:QC7 l' nms m'=(mk,0):=hsw;rw[hsw,if_neg (by simp)]at hfin;refine QXQ 0 fun hi b' s2 cs hq hf hs=>?_
  obtain rfl:b=b':=by cases hq;rfl
  refine xcl (QFv b p l' s2 cs hs hf hi) rdb ?_;rintro⟨t,_⟩ _ ⟨ht,rfl⟩;simp only at ht;subst ht;refine QBM (ca1 (QAQ (xsq ?_)));have hnx:=hi.next;refine QAx (p:=p) (l:={ l' with safe:=l'.next }) b s2 cs ⟨hi.n,hi.first,hi.segs,hi.few,by simp only;omega,hi.chain⟩ ?_;refine QAK [QAY (some ⟨b,0,none⟩) p { l' with safe:=l'.next },QAC p mk] (QAD (.inl ⟨_,b,by rw[hfin],by rw[hfin],rfl,rfl,by rw[hfin]⟩))
end Go.Cx
namespace Go.Cx
open Go Go.Cf
set_option linter.unusedVariables false
set_option maxRecDepth 100000
variable {B:QBE}{As F:List HP}
theorem QOy(p:Sl)(xs:List UInt8)(hm:1024<xs.length):Ct Pr 192 [p.v] (.tup [none,none]) [.slice,.I] [] (RAr U8 p xs) (fun t Bs=>t.1=⟨none,0,0⟩∧t.2.1=2∧Bs=[]):=by
 refine sp2 (QIs _) fun B hr=>?_;have hp:=hr.1;unfold QIs mf;dsimp only;exact QBz (by simp;omega) (QAD ⟨rfl,rfl,rfl⟩)
theorem QFf(q p:Option Addr)(l:LM):Ct Pr 41 [.pointer q] .one [.I] [QAY q p l] emp (fun t Bs=>t.1=l.lo∧Bs=[QAY q p l]):=by
 refine sp1 (QDO _) fun B _=>?_;unfold QDO mf;dsimp only;refine QXQ 0 fun hi b s cs hq hf hs=>?_;subst hq;refine QAQ (xgq (xif (fun h=>?_) (fun h=>?_)))
 ·have h0:cs.length=0:=by simp at h;omega
  have e:l.segs=[]:=List.eq_nil_of_length_eq_zero (by rw[←hf.len];exact h0);refine QAQ (xgq (QAx (p:=p) (l:=l) b s cs hi (QAD ⟨?_,rfl⟩)));unfold LM.lo;rw[e]
 ·have h0:0<cs.length:=by simp at h;omega
  refine QAQ (xgq ?_);refine QZ4 (E:=SEG) (xs:=cs) (s:=s) (h0:=by decide) (h1:=by omega) (h:=fun c hc=>?_);refine QAZ (E:=SEG) (xs:=cs) hc (h:=?_);refine QAx (p:=p) (l:=l) b s cs hi (QAD ⟨?_,rfl⟩);unfold LM.lo
  cases e:l.segs with
  | nil=>have:=hf.len;rw[e,List.length_nil]at this;omega
  | cons sg r=>
   have:=hf.each 0 c sg hc (by rw[e];rfl);exact this.2.1
theorem QFE(q p:Option Addr)(l:LM):Ct Pr 39 [.pointer q] .one [.I] [QAY q p l] emp (fun t Bs=>t.1=l.next∧Bs=[QAY q p l]):=by
 refine QGr (φ:=QAb Pr 39 [.pointer q] .one [.I]) id fun B _=>?_;refine QXQ 0 fun hi b s cs hq hf hs=>?_;subst hq;refine xcl (QFv b p l s cs hs hf hi) rdb ?_;rintro⟨t,_⟩ _ ⟨ht,rfl⟩;simp only at ht;subst ht;exact QBM (ca1 (QAx (p:=p) (l:=l) b s cs hi (QAD ⟨rfl,rfl⟩)))
theorem QOU{α:Type}{p:α→Bool}:∀{l:List α}{k:Nat}{x:α},l[k]? = some x→p x=true→(∀j y,j<k→l[j]? = some y→p y=false)→l.find? p=some x
 | [],k,x,h,_,_=>by simp at h
 | y::l,0,x,h,hp,_=>by
  obtain rfl:y=x:=by simpa using h
  simp[List.find?_cons,hp]
 | y::l,k+1,x,h,hp,hn=>by
  have h0:=hn 0 y (by omega) rfl;simp only[List.find?_cons,h0];exact QOU (k:=k) (by simpa using h) hp fun j z hj hz=>hn (j+1) z (by omega) (by simpa using hz)
theorem QYS{R:CS→Sg→HP}{cs:List CS}{ss:List Sg}{k:Nat}{c:CS}{s:Sg}(hc:cs[k]? = some c)(hs:ss[k]? = some s){g:QBe}(h:QBl [R c s,Each R (cs.eraseIdx k) (ss.eraseIdx k)] g):Each R cs ss g:=by
 have h1:=(List.getElem?_eq_some_iff.1 hc).1;have h2:=(List.getElem?_eq_some_iff.1 hs).1;have:=QDP h1 h2 h
 have e1:cs.set k c=cs:=by
  apply List.ext_getElem?;intro j;by_cases e:k=j
  ·subst e;rw[List.getElem?_set_self h1,hc]
  ·rw[List.getElem?_set_ne e]
 have e2:ss.set k s=ss:=by
  apply List.ext_getElem?;intro j;by_cases e:k=j
  ·subst e;rw[List.getElem?_set_self h2,hs]
  ·rw[List.getElem?_set_ne e]
 rw[e1,e2]at this;exact this
theorem Qgj{cs:List CS}{ss:List Sg}{k:Nat}{c:CS}{s:Sg}{F:List HP}{φ:WP}(i:Nat)[q:Pick i As (Each QFC cs ss) F](hc:cs[k]? = some c)(hs:ss[k]? = some s)
  (h:∀rs,Ent B (Ar SL c.2.2.2 rs::Each (Ar U8) rs s.ps::Each QFC (cs.eraseIdx k) (ss.eraseIdx k)::F) φ):Ent B As φ:=by
 refine QFI i (fun Bs=>∃rs,Bs=[Ar SL c.2.2.2 rs,Each (Ar U8) rs s.ps,Each QFC (cs.eraseIdx k) (ss.eraseIdx k)]) (fun g hg=>?_) ?_
 ·have:=QCI hg hc hs;obtain⟨a,b,⟨h1,h2,h3,rs,pa⟩,pb,d,sa,sb⟩:=this;exact⟨_,⟨rs,rfl⟩,(QAj [_,_] [_]).2 ⟨a,b,pa,pb,d,sa,sb⟩⟩
 ·rintro _ ⟨rs,rfl⟩;exact h rs
theorem Qao{rs:List Sl}{c:CS}{s:Sg}(h1:c.1=s.n)(h2:c.2.1=s.first)(h3:c.2.2.1=s.size){l:List HP}{g:QBe}(h:QBl (Ar SL c.2.2.2 rs::Each (Ar U8) rs s.ps::l) g):QBl (QFC c s::l) g:=by
 obtain⟨a,b,pa,pb,d,sa,sb⟩:=(QAj [Ar SL c.2.2.2 rs,Each (Ar U8) rs s.ps] l).1 h;exact⟨a,b,⟨h1,h2,h3,rs,pa⟩,pb,d,sa,sb⟩
theorem QGU(q p:Option Addr)(l:LM)(n:Int)(hn:i64 n):Ct Pr 19 [.pointer q,.I n] (.tup [none,none]) [.slice,.I] [QAY q p l] emp
  (fun t Bs=>t.2.1=(QH6 l n).2∧Bs=[QAY q p l,Ar U8 t.1 (QH6 l n).1]):=by
 refine sp2 (QKO _ _) fun B _=>?_;unfold QKO mf;dsimp only;refine xcl (QFf q p l) rdb ?_;rintro⟨t,_⟩ _ ⟨ht,rfl⟩;simp only at ht;subst ht;refine QA5 (ca1 (QAA (fun h=>?_) (fun h=>?_)))
 ·have e:QH6 l n=([],31):=by unfold QH6;rw[if_pos h]
  rw[e];exact QAd U8 (QAK [QAY q p l,Ar U8 ⟨none,0,0⟩ []] (QAD ⟨rfl,rfl⟩))
 have hg:QH6 l n=match l.segs.find? fun s=>decide (n<s.next) with
   | some s=>((s.ps[(n - s.first).toNat]?).getD [],0)
   | none=>([],6):=by unfold QH6;rw[if_neg h];rfl
 refine QXQ 0 fun hi b s cs hq hf hs=>?_;subst hq;refine QAQ (xgq ?_);have hfew:=hi.few;have hcl:=hf.len;refine QBP (fun m (x:Int) As'=>∃k:Nat,x=(k:Int)∧m=cs.length - k∧k≤cs.length∧(∀j y,j<k→l.segs[j]? = some y→decide (n<y.next)=false)∧As'=[Blk b (QAp p l s),Ar SEG s cs,Each QFC cs l.segs]) cs.length ⟨0,rfl,rfl,by omega,fun j y hj=>by omega,rfl⟩ ?_;rintro m x As' K ⟨k,rfl,rfl,hk,hno,rfl⟩ hK;refine QAA (fun hp=>?_) (fun hp=>?_)
 ·have hlt:k<cs.length:=by omega
  obtain⟨c,hc⟩:∃c,cs[k]? = some c:=⟨_,List.getElem?_eq_getElem hlt⟩;obtain⟨sg,hsg⟩:∃sg,l.segs[k]? = some sg:=⟨_,List.getElem?_eq_getElem (by rw[←hf.len];exact hlt)⟩;obtain⟨g1,g2,g3,g4,g5⟩:=hf.each k c sg hc hsg;obtain⟨b1,b2,b3,b4,b5⟩:=hi.segs sg (List.mem_of_getElem? hsg);refine QAH (E:=SEG) (xs:=cs) (s:=s) (h1:=hlt) (h:=fun _ _=>?_);refine QAN (E:=SEG) (xs:=cs) hc (h:=?_);iterate 3 (refine QAZ (E:=SEG) (xs:=cs) hc (h:=?_))
  refine QAL fun bk=>?_;iterate 4 (refine xsq ?_)
  iterate 4 (refine xgq ?_)
  refine QAR (QGX c.1 c.2.1 c.2.2.1 c.2.2.2) rdb ?_;rintro⟨t,_⟩ _ ⟨ht,rfl⟩;simp only at ht;subst ht
  have hnx:IntKind.i64.wrap (c.2.1+(c.2.2.2.n:Int))=sg.next:=by
   rw[QAB _ (by omega) (by omega),g2,g4];rfl
  refine QAy (ca1 ?_)
  (try simp only)
  rw[hnx];refine QAA (fun h2=>?_) (fun h2=>?_)
  ·have hfind:=QOU hsg (p:=fun s=>decide (n<s.next)) (by simpa using h2) hno;rw[hfind]at hg;simp only at hg
   have hge:sg.first≤n:=by
    cases k with
    | zero=>
     have:l.lo=sg.first:=by
      unfold LM.lo
      cases e:l.segs with
      | nil=>rw[e]at hsg;simp at hsg
      | cons y r => rw[e]at hsg; obtain rfl : y = sg := by simpa using hsg
                    rfl
     rw[←this];omega
    | succ k=>
     obtain⟨y,hy⟩:∃y,l.segs[k]? = some y:=⟨_,List.getElem?_eq_getElem (by have:=(List.getElem?_eq_some_iff.1 hsg).1;omega)⟩;have:=hno k y (by omega) hy;have e:=hi.chain k y sg hy hsg;simp only[decide_eq_false_iff_not]at this;omega
   simp only[Sg.next]at h2
   have hidx:(n - sg.first).toNat<sg.ps.length:=by omega
   refine xgq (xgq ?_);rw[g2,QAB _ (by omega) (by omega),show n - sg.first=(((n - sg.first).toNat:Nat):Int) by omega]
   generalize hj:(n - sg.first).toNat=j at *
   refine QAK [Each QFC cs l.segs,Blk b (QAp p l s),Ar SEG s cs] ?_;refine Qgj (k:=k) 0 hc hsg fun rs=>?_;refine QBx 1 (P1:=Each (Ar U8) rs sg.ps) (fun g hg=>hg.length) fun hrl=>?_;obtain⟨r,hr⟩:∃r,rs[j]? = some r:=⟨_,List.getElem?_eq_getElem (by omega)⟩;obtain⟨y,hy⟩:∃y,sg.ps[j]? = some y:=⟨_,List.getElem?_eq_getElem (by omega)⟩;have hyl:=b5 y (List.mem_of_getElem? hy);rw[hy]at hg;refine QAH (E:=SL) (xs:=rs) (s:=c.2.2.2) (h1:=by omega) (h:=fun _ _=>?_);refine QAN (E:=SL) (xs:=rs) hr (h:=?_);refine xcl (pre:=[]) (QIN r y (by omega)) (QK1 1 (fun g hg=>QDc (R:=Ar U8) (S:=fun sl row=>RAr U8 sl row) (fun _ _ _ _ h s=>h.mono s) (fun _ _ _ h=>h.read) hg hr hy) (fun _ _ h s=>h.mono s)) ?_;rintro⟨t,_⟩ _ rfl;refine QA5 (ca1 ?_);refine QBQ [Ar SL c.2.2.2 rs,Each (Ar U8) rs sg.ps,Each QFC (cs.eraseIdx k) (l.segs.eraseIdx k)] (Each QFC cs l.segs) (fun g hg=>QYS hc hsg (Qao g1 g2 g3 hg)) ?_;refine QAx (p:=p) (l:=l) b s cs hi ?_;rw[hg];exact QAK [QAY (some ⟨b,0,none⟩) p l,Ar U8 t y] (QAD ⟨rfl,rfl⟩)
  ·rw[QAF k (by omega)];refine QAK [Blk b (QAp p l s),Ar SEG s cs,Each QFC cs l.segs] (hK _ _ _ (by omega) ⟨k+1,rfl,rfl,by omega,fun j y hj hy=>?_,rfl⟩);by_cases e:j<k
   ·exact hno j y e hy
   ·obtain rfl:j=k:=by omega
    rw[hsg]at hy;obtain rfl:=Option.some.inj hy;simpa using h2
 ·have hkl:k=l.segs.length:=by rw[←hf.len];omega
  have hfind:(l.segs.find? fun s=>decide (n<s.next))=none:=by
   rw[List.find?_eq_none];intro y hy;obtain⟨j,hj⟩:=List.mem_iff_getElem?.1 hy;have:=hno j y (by have:=(List.getElem?_eq_some_iff.1 hj).1;omega) hj;rw[this];decide
  rw[hfind]at hg;simp only at hg;rw[hg];exact QAd U8 (QAx (p:=p) (l:=l) b s cs hi (QAK [QAY (some ⟨b,0,none⟩) p l,Ar U8 ⟨none,0,0⟩ []] (QAD ⟨rfl,rfl⟩)))
end Go.Cx
namespace Go.Cx
open Go Go.Cf
set_option linter.unusedVariables false
set_option maxRecDepth 100000
variable {B:QBE}{As F:List HP}
theorem QUf{ss:List Sg}{s:Sg}(h:ss.getLast? = some s)(p:List UInt8):QaU ss p=ss.set (ss.length - 1) { s with size:=s.size+(QAn p).length,ps:=s.ps++[p] }:=by
 unfold QaU;rw[h]
 (try simp only)
 obtain⟨r,rfl⟩:∃r,ss=r++[s]:=by
  have hne:ss≠[]:=by rintro rfl;simp at h
  refine⟨ss.dropLast,?_⟩;have:=List.dropLast_concat_getLast hne;rw[List.getLast?_eq_some_getLast hne]at h;rw[←Option.some.inj h];exact this.symm
 rw[List.dropLast_concat,List.length_append,List.length_singleton,Nat.add_sub_cancel,List.set_append_right _ _ (Nat.le_refl _),Nat.sub_self];rfl
theorem QQj(m:DM)(l:LM):(QB2 m l).2.1.segs=l.segs∧(QB2 m l).2.1.n=l.n∧(QB2 m l).2.1.first=l.first:=by
 unfold QB2;split
 ·exact⟨rfl,rfl,rfl⟩
 split
 ·exact⟨rfl,rfl,rfl⟩
 (try simp only)
 split<;>exact⟨rfl,rfl,rfl⟩
theorem QYw{l l':LM}(h:l'.segs=l.segs)(h2:l'.first=l.first):l'.next=l.next:=by unfold LM.next LM.cur;rw[h,h2]
theorem QRk(q p:Option Addr)(m:DM)(l:LM)(s:Sl)(xs:List UInt8)(hn:l.segs=[]→l.safe=l.next)(hL:LInv (QCC m l xs).2.1) :
  Ct Pr 271 [.pointer q,s.v] (.tup [none,none]) [.I,.I] [QAY q p l,QAC p m] ((RAr U8 s xs).and GTab)
  (fun t Bs=>t.1=(QCC m l xs).2.2.1∧t.2.1=(QCC m l xs).2.2.2∧Bs=[QAY q p (QCC m l xs).2.1,QAC p (QCC m l xs).1]):=by
 refine sp2 (QGS _ _) fun B hr=>?_;haveI:Fro B s U8 xs:=⟨hr.1⟩;haveI:=QKI hr.2;unfold QGS mf;dsimp only;refine QXQ 0 fun hi b s0 cs hq hf hs=>?_;subst hq;have hfew:=hi.few;have hcl:=hf.len;refine xcl (QME b p m l s0) rdb ?_;rintro⟨t,_⟩ _ ⟨ht,rfl⟩;simp only at ht;subst ht;refine QBM (ca1 (xif (fun h=>?_) (fun h=>?_)))
 ·have hd:m.down=true:=by
   cases e:m.down with
   | true=>rfl
   | false=>rw[e]at h;cases h
  have e:QCC m l xs=(m,l,0,10):=by unfold QCC;rw[if_pos hd]
  rw[if_pos hd,e];exact QAx (p:=p) (l:=l) b s0 cs hi (QAD ⟨rfl,rfl,rfl⟩)
 have hd:m.down=false:=by
  cases e:m.down with
  | false=>rfl
  | true=>rw[e]at h;cases h
 by_cases hlen:xs.length>1024
 ·refine xcl (pre:=[]) (QOy s xs hlen) rdb ?_;rintro⟨t,t1,_⟩ _ ⟨ht,ht1,rfl⟩;simp only at ht ht1;subst ht ht1;refine QAy (ca2 (QBz rfl ?_))
  have e:QCC m l xs=(m,l,0,2):=by unfold QCC;rw[if_neg (by rw[hd];decide),if_pos hlen]
  rw[e];exact QAx (p:=p) (l:=l) b s0 cs hi (QAD ⟨rfl,rfl,rfl⟩)
 refine xcl (pre:=[]) (QFw s xs (by omega)) rdb ?_;rintro⟨sb,t1,_⟩ _ ⟨ht1,rfl⟩;simp only at ht1;subst ht1;refine QA5 (ca2 (QBF rfl ?_));refine xcl (QF5 b p l s0 cs hs (by rw[hf.len];exact hi.few)) rdb ?_;rintro⟨t,_⟩ _ ⟨ht,rfl⟩;simp only at ht;subst ht;refine QBM (ca1 ?_)
 -- what the last segment says
 have hcase:(cs=[]∧l.segs=[]∧l.full=false∧l.curN=l.n)∨(∃sg c,cs≠[]∧l.segs.getLast? = some sg∧cs[cs.length - 1]? = some c∧c.1=sg.n∧c.2.1=sg.first∧c.2.2.1=sg.size∧l.full=decide (sg.size≥1024)∧l.curN=sg.n):=by
  cases hc:l.segs.getLast? with
  | none=>
   have e:=(QSL hf).2 hc;refine .inl ⟨e,List.getLast?_eq_none_iff.1 hc,?_,?_⟩
   ·unfold LM.full LM.cur;rw[hc]
   ·unfold LM.curN LM.cur;rw[hc]
  | some sg=>
   obtain⟨c,g1,g2,g3,g4,g5,g6⟩:=QKo hf hc;refine .inr ⟨sg,c,fun e=>?_,rfl,g1,g2,g3,g4,?_,?_⟩
   ·have:=(QSL hf).1 e;rw[hc]at this;cases this
   ·unfold LM.full LM.cur;rw[hc]
   ·unfold LM.curN LM.cur;rw[hc]
 have hcurN:1≤l.curN∧l.curN≤2000000000000:=by
  rcases hcase with⟨_,_,_,e⟩|⟨sg,c,_,hc,_,_,_,_,_,e⟩
  ·rw[e];exact hi.n
  ·rw[e];exact (hi.segs sg (List.mem_of_getLast? hc)).1
 have hnone:QDF (if cs=[] then none else some (s0.at 4 (cs.length - 1)))=decide (l.segs=[]):=by
  rcases hcase with⟨e,e2,_⟩|⟨sg,c,e,hc,_⟩
  ·rw[if_pos e,e2];rfl
  ·rw[if_neg e]
   have:l.segs≠[]:=by rintro e;rw[e]at hc;simp at hc
   simp[this,QDF]
 refine QAS (fun(c:Bool) As'=>c=l.full∧As'=[Blk b (QAp p l s0),Ar SEG s0 cs,Ar U8 sb (QAn xs),QAC p m,Each QFC cs l.segs]) (fun K hK=>?_) ?_
 ·rcases hcase with⟨e,e2,e3,_⟩|⟨sg,c,e,hc,hc1,g1,g2,g3,e3,_⟩
  ·rw[if_pos e];refine QBF rfl (QAK [Blk b (QAp p l s0),Ar SEG s0 cs,Ar U8 sb (QAn xs),QAC p m,Each QFC cs l.segs] (hK _ _ ⟨e3.symm,rfl⟩))
  ·rw[if_neg e];refine QBz rfl (QAQ (QAZ (E:=SEG) (xs:=cs) hc1 (h:=?_)));refine QAK [Blk b (QAp p l s0),Ar SEG s0 cs,Ar U8 sb (QAn xs),QAC p m,Each QFC cs l.segs] (hK _ _ ⟨?_,rfl⟩);rw[e3,g3]
 rintro c As2 ⟨rfl,rfl⟩;refine xcl (QFv b p l s0 cs hs hf hi) rdb ?_;rintro⟨t,_⟩ _ ⟨ht,rfl⟩;simp only at ht;subst ht;refine QBM (ca1 ?_);refine QAS (fun(c:Bool) As'=>c=decide (l.next≥1099511627776∨(l.full=true∧l.curN=QKg))∧As'=[Blk b (QAp p l s0),Ar SEG s0 cs,Ar U8 sb (QAn xs),QAC p m,Each QFC cs l.segs]) (fun K hK=>?_) ?_
 ·refine QAA (fun h1=>?_) (fun h1=>?_)
  ·exact QAK [Blk b (QAp p l s0),Ar SEG s0 cs,Ar U8 sb (QAn xs),QAC p m,Each QFC cs l.segs] (hK _ _ ⟨by simp[h1],rfl⟩)
  ·refine QAJ (xif (fun h2=>?_) (fun h2=>?_))
   ·rcases hcase with⟨e,e2,e3,_⟩|⟨sg,c,e,hc,hc1,g1,g2,g3,e3,e4⟩
    ·rw[e3]at h2;cases h2
    ·rw[if_neg e];refine QAQ (QAN (E:=SEG) (xs:=cs) hc1 (h:=?_));refine QAK [Blk b (QAp p l s0),Ar SEG s0 cs,Ar U8 sb (QAn xs),QAC p m,Each QFC cs l.segs] (hK _ _ ⟨?_,rfl⟩);rw[g1,e4,h2,Bool.eq_iff_iff];simp[h1]
   ·refine QAK [Blk b (QAp p l s0),Ar SEG s0 cs,Ar U8 sb (QAn xs),QAC p m,Each QFC cs l.segs] (hK _ _ ⟨?_,rfl⟩);rw[h2];simp[h1]
 rintro c As2 ⟨rfl,rfl⟩;refine QAA (fun h1=>?_) (fun h1=>?_)
 ·have e:QCC m l xs=(m,l,0,12):=by unfold QCC;rw[if_neg (by rw[hd];decide),if_neg hlen,if_pos h1]
  rw[e];exact QAx (p:=p) (l:=l) b s0 cs hi (QAK [QAY (some ⟨b,0,none⟩) p l,QAC p m] (QAD ⟨rfl,rfl,rfl⟩))
 have heq:QCC m l xs=(let y:=if l.full then QB2 m l else (m,l,0)
   if y.2.2≠0 then (y.1,y.2.1,0,y.2.2)
   else
    let n:=if l.full then l.curN+1 else l.curN
    let a:=QAM y.1 (fN n) (QAn xs)
    if a.2≠0 then (a.1,y.2.1,0,a.2)
    else
     let ss:=if l.segs=[]∨l.full=true then l.segs++[⟨n,l.next,0,[]⟩] else l.segs
     (a.1,{ y.2.1 with segs:=QaU ss xs },l.next,0)):=by
  unfold QCC;rw[if_neg (by rw[hd];decide),if_neg hlen,if_neg h1]
 refine QAQ (xgq ?_);refine QAS (fun(x:Int) As'=>x=l.curN∧As'=[Blk b (QAp p l s0),Ar SEG s0 cs,Ar U8 sb (QAn xs),QAC p m,Each QFC cs l.segs]) (fun K hK=>?_) ?_
 ·rcases hcase with⟨e,e2,e3,e4⟩|⟨sg,c,e,hc,hc1,g1,g2,g3,e3,e4⟩
  ·rw[if_pos e];exact QBF rfl (hK _ _ ⟨e4.symm,rfl⟩)
  ·rw[if_neg e];refine QBz rfl (QAQ (QAN (E:=SEG) (xs:=cs) hc1 (h:=?_)));exact hK _ _ ⟨by rw[g1,e4],rfl⟩
 rintro x As2 ⟨rfl,rfl⟩
 -- Sync, where the segment is full
 refine QAS (fun(x:Int) As'=>∃(m1:DM) (l1:LM),(if l.full then QB2 m l else (m,l,0))=(m1,l1,0)∧l1.segs=l.segs∧l1.n=l.n∧l1.first=l.first∧x=(if l.full then l.curN+1 else l.curN)∧As'=[QAY (some ⟨b,0,none⟩) p l1,QAC p m1,Ar U8 sb (QAn xs)]) (fun K hK=>?_) ?_
 ·refine xif (fun h2=>?_) (fun h2=>?_)
  ·refine QAx (p:=p) (l:=l) b s0 cs hi ?_;refine xcl (QJb (some ⟨b,0,none⟩) p m l hn) rdb ?_;rintro⟨t,_⟩ _ ⟨ht,rfl⟩;simp only at ht;subst ht;rw[if_pos h2]at heq;refine QBM (ca1 (xif (fun h3=>?_) (fun h3=>?_)))
   ·have h3:(QB2 m l).2.2≠0:=by simpa using h3
    simp only at heq;rw[if_pos h3]at heq;rw[heq];exact QAK [QAY (some ⟨b,0,none⟩) p (QB2 m l).2.1,QAC p (QB2 m l).1] (QAD ⟨rfl,rfl,rfl⟩)
   ·have h3:(QB2 m l).2.2=0:=by simpa using h3
    obtain⟨k1,k2,k3⟩:=QQj m l;rw[QAB _ (by omega) (by omega)];refine QAK [QAY (some ⟨b,0,none⟩) p (QB2 m l).2.1,QAC p (QB2 m l).1,Ar U8 sb (QAn xs)] (hK _ _ ⟨_,_,?_,k1,k2,k3,by rw[if_pos h2],rfl⟩);rw[if_pos h2,←h3]
  ·refine QAx (p:=p) (l:=l) b s0 cs hi ?_;refine QAK [QAY (some ⟨b,0,none⟩) p l,QAC p m,Ar U8 sb (QAn xs)] (hK _ _ ⟨m,l,by rw[if_neg (by rw[h2];decide)],rfl,rfl,rfl,by rw[if_neg (by rw[h2];decide)],rfl⟩)
 rintro (n5:Int) As2 ⟨m1,l1,hy,hs1,hn1,hf1,hn5,rfl⟩;rw[hy]at heq;rw[←hn5]at heq;simp only[ne_eq,not_true_eq_false,if_false]at heq
 have hn5b:1≤n5∧n5≤2000000000001:=by
  obtain⟨c1,c2⟩:=hcurN;rw[hn5];cases l.full
  ·rw[if_neg (by decide)];omega
  ·rw[if_pos rfl];omega
 refine QAO (QAQ ?_);refine QXQ 0 fun hi1 b' s1 cs1 hq hfl1 hsl1=>?_
 obtain rfl:b=b':=by cases hq;rfl
 have hfew1:=hi1.few;have hcl1:=hfl1.len;refine xgq ?_;refine QWQ (by omega) (by omega) (QC6 (h:=?_));refine xcl (QH3 p m1 (fN n5) sb (QAn xs)) rdb ?_;rintro⟨t,_⟩ _ ⟨ht,rfl⟩;simp only at ht;subst ht;refine QA5 (ca1 (xif (fun h2=>?_) (fun h2=>?_)))
 ·have h2:¬(QAM m1 (fN n5) (QAn xs)).2=0:=by simpa using h2
  rw[if_pos h2]at heq;rw[heq];refine QAx (p:=p) (l:=l1) b s1 cs1 hi1 ?_;exact QAK [QAY (some ⟨b,0,none⟩) p l1,QAC p (QAM m1 (fN n5) (QAn xs)).1] (QAD ⟨rfl,rfl,rfl⟩)
 have h2:(QAM m1 (fN n5) (QAn xs)).2=0:=by simpa using h2
 rw[if_neg (by rw[h2];simp)]at heq
 generalize (QAM m1 (fN n5) (QAn xs)).1=m2 at *
 have hnx:=QYw hs1 hf1;refine xcl (QFv b p l1 s1 cs1 hsl1 hfl1 hi1) rdb ?_;rintro⟨t,_⟩ _ ⟨ht,rfl⟩;simp only at ht;subst ht;rw[hnx];refine QBM (ca1 ?_);have hsbl:sb.n=(QAn xs).length→True:=fun _=>trivial;refine QCm sb fun hsb _=>?_
 replace hsb:(QAn xs).length=sb.n:=hsb
 have hfl:=QRc xs;refine QBu (fun As'=>∃(s2:Sl) (cs2:List CS) (ss:List Sg),ss=(if l.segs=[]∨l.full=true then l.segs++[⟨n5,l.next,0,[]⟩] else l.segs)∧As'=[Blk b (QAp p l1 s2),Ar SEG s2 cs2,Each QFC cs2 ss,QAC p m2]) (fun K hK=>?_) ?_
 ·have hcond:(QDF (if cs=[] then none else some (s0.at 4 (cs.length - 1)))||l.full)=decide (l.segs=[]∨l.full=true):=by
   rw[hnone];cases l.full<;>simp
  rw[hcond];refine QAA (fun h3=>?_) (fun h3=>?_)
  ·refine QAQ (xgq (QAL fun b1=>?_));refine QEc (E:=SEG) ((n5,l.next,(0:Int),⟨none,0,0⟩):CS) (hb:=by omega) (h:=fun s2=>QAQ (xsq ?_));refine QAd SL ?_;refine QX1 (A:=Each (Ar U8) [] []) trivial ?_;refine QBQ [Each QFC cs1 l1.segs,Ar SL ⟨none,0,0⟩ [],Each (Ar U8) [] []] (Each QFC (cs1++[(n5,l.next,(0:Int),⟨none,0,0⟩)]) (l1.segs++[⟨n5,l.next,0,[]⟩])) (fun g hg=>QEL (QBC (l:=[Ar SL ⟨none,0,0⟩ [],Each (Ar U8) [] []]) (fun h hh=>QCh ⟨rfl,rfl,rfl,[],hh⟩) hg)) ?_;refine QAK [Blk b (QAp p l1 s2),Ar SEG s2 (cs1++[(n5,l.next,(0:Int),⟨none,0,0⟩)]),Each QFC (cs1++[(n5,l.next,(0:Int),⟨none,0,0⟩)]) (l1.segs++[⟨n5,l.next,0,[]⟩]),QAC p m2] (hK _ ⟨s2,_,_,?_,rfl⟩);rw[if_pos h3,hs1]
  ·refine QAK [Blk b (QAp p l1 s1),Ar SEG s1 cs1,Each QFC cs1 l1.segs,QAC p m2] (hK _ ⟨s1,cs1,l1.segs,by rw[if_neg h3,hs1],rfl⟩)
 rintro As2 ⟨s2,cs2,ss,hss,rfl⟩;rw[←hss]at heq
 have hssn:ss≠[]:=by
  rw[hss];split
  ·simp
  ·rename_i h3
   exact fun e=>h3 (.inl e)
 have hssl:ss.length≤65:=by
  rw[hss];split
  ·rw[List.length_append,List.length_singleton];omega
  ·omega
 refine QBx 2 (P1:=Each QFC cs2 ss) (fun g hg=>Qe2 hg) fun hf2=>?_;refine QCm s2 fun hs2 _=>?_
 replace hs2:cs2.length=s2.n:=hs2
 have hcl2:=hf2.len;have hL2:=hL;rw[heq]at hL2
 have hsslen:ss.length≤64:=by
  have:=hL2.few;obtain⟨sg,hsg⟩:∃sg,ss.getLast? = some sg:=⟨_,List.getLast?_eq_some_getLast hssn⟩;simp only at this;rw[QUf hsg,List.length_set]at this;exact this
 refine xcl (QF5 b p l1 s2 cs2 hs2.symm (by omega)) rdb ?_;rintro⟨t,_⟩ _ ⟨ht,rfl⟩;simp only at ht;subst ht;have hne2:cs2≠[]:=fun e=>hssn (List.eq_nil_of_length_eq_zero (by rw[←hcl2,e];rfl));obtain⟨sg,hsg⟩:∃sg,ss.getLast? = some sg:=⟨_,List.getLast?_eq_some_getLast hssn⟩;obtain⟨c,g1,g2,g3,g4,g5,g6⟩:=QKo hf2 hsg
 have hsgk:ss[cs2.length - 1]? = some sg:=by rw[hcl2];exact QF3 hsg
 have hlt:=(List.getElem?_eq_some_iff.1 g1).1
 have hbnd:(0≤sg.size∧sg.size≤16777216)∧(sg.ps.length:Int)≤sg.size:=by
  have hm:=List.mem_of_getLast? hsg;rw[hss]at hm;have inl:sg∈l.segs→(0≤sg.size∧sg.size≤16777216)∧(sg.ps.length:Int)≤sg.size:=fun hm=>⟨(hi.segs sg hm).2.2.1,(hi.segs sg hm).2.2.2.1⟩;split at hm
  ·rcases List.mem_append.1 hm with hm|hm
   ·exact inl hm
   ·obtain rfl:=List.mem_singleton.1 hm;simp
  ·exact inl hm
 refine QBM (ca1 ?_);rw[if_neg hne2];refine QAQ (QAZ (E:=SEG) (xs:=cs2) g1 (h:=QAQ ?_));rw[g4,QAB _ (by omega) (by omega)];refine QCx (E:=SEG) (xs:=cs2) ((c.1,c.2.1,sg.size+(sb.n:Int),c.2.2.2):CS) g1 rfl (by decide) rfl ?_
 have g1':(cs2.set (cs2.length - 1) ((c.1,c.2.1,sg.size+(sb.n:Int),c.2.2.2):CS))[cs2.length - 1]? = some ((c.1,c.2.1,sg.size+(sb.n:Int),c.2.2.2):CS):=by
  rw[List.getElem?_set_self hlt]
 generalize hk:cs2.length - 1=k at *
 refine QAO (QAQ (QAZ (E:=SEG) (xs:=cs2.set k ((c.1,c.2.1,sg.size+(sb.n:Int),c.2.2.2):CS)) g1' (h:=?_)));refine xcl (pre:=[]) (QIN s xs (by omega)) rdb ?_;rintro⟨s4,_⟩ _ rfl;refine QA5 (ca1 (QU2 (E:=SEG) (xs:=cs2.set k ((c.1,c.2.1,sg.size+(sb.n:Int),c.2.2.2):CS)) g1' (h:=QAL fun b1=>?_)));refine QAK [Each QFC cs2 ss,Blk b1 [s4.v],Ar U8 s4 xs,Ar SEG s2 (cs2.set k ((c.1,c.2.1,sg.size+(sb.n:Int),c.2.2.2):CS)),Blk b (QAp p l1 s2),QAC p m2] ?_;refine Qgj (k:=k) 0 g1 hsgk fun rs=>?_;refine QBx 1 (P1:=Each (Ar U8) rs sg.ps) (fun g hg=>hg.length) fun hrl=>?_;refine QEc (E:=SL) s4 (hb:=by omega) (h:=fun s5=>QAQ ?_);refine QCx (E:=SEG) (xs:=cs2.set k ((c.1,c.2.1,sg.size+(sb.n:Int),c.2.2.2):CS)) ((c.1,c.2.1,sg.size+(sb.n:Int),s5):CS) g1' rfl (by decide) rfl ?_;rw[List.set_set];have hadd:=QUf hsg xs
 have hkk:ss.length - 1=k:=by rw[←hcl2];exact hk
 rw[hkk]at hadd;rw[heq];refine QBQ [Ar SL s5 (rs++[s4]),Each (Ar U8) rs sg.ps,Ar U8 s4 xs,Each QFC (cs2.eraseIdx k) (ss.eraseIdx k)] (Each QFC (cs2.set k ((c.1,c.2.1,sg.size+(sb.n:Int),s5):CS)) (QaU ss xs)) (fun g hg=>?_) ?_
 ·rw[hadd];refine QDP hlt (by have:=(List.getElem?_eq_some_iff.1 hsgk).1;exact this) ?_
  have h1:QBl [Ar SL s5 (rs++[s4]),Each (Ar U8) (rs++[s4]) (sg.ps++[xs]),Each QFC (cs2.eraseIdx k) (ss.eraseIdx k)] g:=by
   refine QBC (l:=[Each (Ar U8) rs sg.ps,Ar U8 s4 xs,Each QFC (cs2.eraseIdx k) (ss.eraseIdx k)]) (fun h hh=>?_) hg;obtain⟨a,e,pa,pb,d,sa,sb'⟩:=(QAj [Each (Ar U8) rs sg.ps,Ar U8 s4 xs] [Each QFC (cs2.eraseIdx k) (ss.eraseIdx k)]).1 hh;exact⟨a,e,QEL pa,pb,d,sa,sb'⟩
  obtain⟨a,e,pa,pb,d,sa,sb'⟩:=(QAj [Ar SL s5 (rs++[s4]),Each (Ar U8) (rs++[s4]) (sg.ps++[xs])] [Each QFC (cs2.eraseIdx k) (ss.eraseIdx k)]).1 h1;exact⟨a,e,⟨g2,g3,by simp only;rw[hsb],_,pa⟩,pb,d,sa,sb'⟩
 refine QAx (p:=p) (l:={ l1 with segs:=QaU ss xs }) b s2 (cs2.set k ((c.1,c.2.1,sg.size+(sb.n:Int),s5):CS)) hL2 ?_;exact QAK [QAY (some ⟨b,0,none⟩) p { l1 with segs:=QaU ss xs },QAC p m2] (QAD ⟨rfl,rfl,rfl⟩)
end Go.Cx
