/-
The library's functions by the kit's contracts, in the words of these rules (what is drawn is kept).
-/
import Derived.Test.YthbhbkjkclhkgaaGreatDoorH
import Derived.Test.YthbhbkjkclhkgaaGreatDoorA4
import Derived.Test.YthbhbkjkclhkgaaGreatDoorSL
import Derived.Test.YthbhbkjkclhkgaaGreatDoorA3
import Derived.Test.YthbhbkjkclhkgaaGreatDoorDK
namespace Go.Cx
open Go Go.Cf
set_option linter.unusedVariables false
set_option maxRecDepth 100000
variable {B:QBG}{As:List HP}
theorem Sx.below{w w':World}(h:Sx B As w)(hb:Go.RowKit.Below w.heap.size w w')(hd:w.drawn≤w'.drawn):Sx B As w':=by
 obtain⟨g,hs,hm,hu⟩:=h;refine⟨g,hs,fun k o e=>?_,hb.os.trans hu.os,hb.tape.trans hu.tape,hb.output.trans hu.output,Nat.le_trans hu.drawn hd,Nat.le_trans hu.size hb.size,fun k hk h0=>⟨?_,(hu.old k hk h0).2⟩⟩
 ·have:=hm k o e;show w'.heap[k]? = some o;rw[hb.block k (Array.getElem?_eq_some_iff.1 this).1];exact this
 ·rw[hb.block k (Nat.lt_of_lt_of_le hk hu.size)];exact (hu.old k hk h0).1
theorem QWd(w:World)(n:Nat)(os:Array Obj):Go.RowKit.Below w.heap.size w (Go.Sort.grow (w.drewN n) os):=
 ⟨rfl,rfl,rfl,by simp[Go.Sort.grow,World.drewN],fun k hk=>by
  show (w.heap++os)[k]? = _
  rw[Array.getElem?_append_left hk]⟩
/-- A call whose contract is the kit's, and that changes nothing that was there. -/
theorem QPC{P:Program}{f:FuncId}{args:List Value}{rs:Rs}{ss:List Sh}{rd:HP}{post:Tup ss→List HP→Prop}{t:Tup ss}
  (hp:post t []) (h:∀w:World,rd (mem w)→Calls P f args.toArray w fun e w'=>e=.returned (rs.mk (Tup.vals ss t))∧Go.RowKit.Below w.heap.size w w'∧w.drawn≤w'.drawn)
  (mono:∀g f,rd g→Sub g f→rd f):Ct P f args rs ss [] rd post:=by
 intro w g hs hm hr;refine (h w (mono _ _ hr fun k o hk=>?_)).mono ?_
 ·unfold frz at hk
  cases hg:g k with
  | some _=>rw[hg]at hk;cases hk
  | none=>rw[hg]at hk;exact hk
 ·rintro e w' ⟨he,hb,hd⟩;exact⟨t,[],he,hp,Sx.below (Sx.start (pre:=[]) hs hm) hb hd⟩
def Qgg(n:Int):ByteArray:=⟨(Lib.itoa n).toArray⟩
/-- The library's table of powers of ten, as it lies. -/
def GTab:HP:=fun h=>∃e fr,h 1=some (.cells (Lib.pow10Tab.map fun z=>Value.int .u64 z).toArray e fr)
theorem GTab.mono:∀g f,GTab g→Sub g f→GTab f:=fun _ _ ⟨e,fr,h⟩ s=>⟨e,fr,s _ _ h⟩
theorem QKc{B:QBG}(h:GTab (frz B.W B.h0)):Qf9 B GTab:=⟨h,fun _ _ h s=>GTab.mono _ _ h s⟩
theorem globTab:Pr.globalNamed "internal/strconv.uint64pow10" = some 1:=by kernel_rfl
theorem GTab.tab{w:World}(h:GTab (mem w)):Lib.TabIs Pr w "internal/strconv.uint64pow10" .u64 Lib.pow10Tab:=by
 obtain⟨e,fr,h⟩:=h
 have h':w.heap[1]? = some _:=h
 show w.var? Pr _=_
 unfold World.var?
 rw[globTab]
 simp only[Option.bind_some,h']
theorem QZ3(n:Int)(h0 : -9223372036854775808≤n)(h1:n≤9223372036854775807):Ct Pr 259 [.I n] .one [.str] [] GTab (fun t Bs=>t.1=Qgg n∧Bs=[]):=
 QPC (t:=(Qgg n,())) ⟨rfl,rfl⟩ (fun w hw=>(Go.Proofs.Tryz.strconv_Itoa n h0 h1 w hw.tab).mono fun e w' ⟨he,k,os,hw'⟩=>⟨he,hw' ▸ QWd w k os,hw' ▸ Nat.le_add_right _ _⟩) GTab.mono
theorem QNJ(s p:ByteArray):Ct Pr 260 [.string s,.string p] (.tup [none,none]) [.str,.bool] [] emp (fun t Bs=>t.1=⟨(Lib.trimPrefix s.data.toList p.data.toList).toArray⟩∧t.2.1=Lib.hasPrefix s.data.toList p.data.toList∧Bs=[]):=
 QPC (t:=(⟨(Lib.trimPrefix s.data.toList p.data.toList).toArray⟩,Lib.hasPrefix s.data.toList p.data.toList,())) ⟨rfl,rfl,rfl⟩ (fun w _=>(Go.Proofs.Tryz.strings_CutPrefix s p w).mono fun e w' ⟨he,hw'⟩=>⟨he,hw' ▸ Go.RowKit.Below.refl _ _,hw' ▸ Nat.le_refl _⟩) (fun _ _ h _=>h)
theorem Qfx(xs:List ByteArray):QAg Cf.ST xs=xs.map Value.string:=by
 induction xs with
 | nil=>rfl
 | cons x xs ih=>show _++QAg Cf.ST xs=_;rw[ih];rfl
section
open Go.Proofs Go.Shelf Go.RowKit
variable {P:Program}{ρ:Ren}
theorem QVn(L:Lays.n160 P ρ)(h116:(P.info? (ρ.t 116)).map (fun i=>(i.zero,i.size))=some (some (.agg (Array.replicate 256 (.bool false))),256))(s c:ByteArray)(w:World)(hs:s.size≤9223372036854775807)(hcs:c.size<4294967281)(ha:∀(j:Nat) b,c.data.toList[j]? = some b→b.toNat<128) :
  Calls P (ρ.f 160) #[.string s,.string c] w fun e w'=>e=.returned (.string ⟨(Lib.trimS s.data.toList c.data.toList).toArray⟩)∧Below w.heap.size w w'∧w.drawn≤w'.drawn:=by
 by_cases h:s.size=0∨c.size=0
 ·refine (Any.strings_Trim_empty L s c w h).mono fun e w' ⟨h1,h2⟩=>⟨?_,h2 ▸ Below.refl _ _,h2 ▸ Nat.le_refl _⟩;rw[h1];rcases h with h|h
  ·have hl:s.data.toList=[]:=List.eq_nil_of_length_eq_zero (by rw[←Lib.size_eq];exact h);rw[hl];congr 2;rw[←Lib.mk_data s,hl];rfl
  ·have hl:c.data.toList=[]:=List.eq_nil_of_length_eq_zero (by rw[←Lib.size_eq];exact h);rw[hl,show Lib.trimS s.data.toList []=s.data.toList from by unfold Lib.trimS;rw[Lib.trimRightS_none,Lib.trimLeftS_none],Lib.mk_data]
 by_cases h1:c.size=1
 ·match hh:c.data.toList,(Lib.size_eq c).symm.trans h1 with
  | [b],_=>
   have hcut:c=⟨#[b]⟩:=by rw[←Lib.mk_data c,hh]
   rw[Lib.trimS_one,hcut]
   exact (Any.strings_Trim_one L s b (ha 0 b (by rw[hh];rfl)) w hs).mono fun e w' ⟨h1,h2⟩=>⟨h1,by
    rcases h2 with rfl|rfl
    ·exact⟨Below.refl _ _,Nat.le_refl _⟩
    ·exact⟨(Below.refl _ _).drew,Nat.le_succ _⟩⟩
 ·refine (Any.strings_Trim_set L (zero_of_info h116).1 (zero_of_info h116).2 s c w (by omega) (by omega) hs hcs ha).mono fun e w' ⟨h1,q,h2⟩=>⟨h1,?_⟩;subst h2;exact⟨(((Below.refl _ _).alloc (Nat.le_refl _) _).alloc (by simp) _).trans ⟨rfl,rfl,rfl,Nat.le_refl _,fun _ _=>rfl⟩,Nat.le_add_right _ _⟩
end
theorem QXl(s p:ByteArray)(hs:s.size≤4611686018427387904)(hp:p.size<1000)(ha:p.data.toList.all (fun b=>decide (b.toNat<128))=true):Ct Pr 261 [.string s,.string p] .one [.str] [] emp (fun t Bs=>t.1=⟨(Lib.trimS s.data.toList p.data.toList).toArray⟩∧Bs=[]):=
 QPC (t:=(⟨(Lib.trimS s.data.toList p.data.toList).toArray⟩,())) ⟨rfl,rfl⟩ (fun w _=>QVn Go.Proofs.Tryz.lays160 (by kernel_rfl) s p w (by omega) (by omega) (fun _ b hb=>of_decide_eq_true (List.all_eq_true.1 ha b (List.mem_of_getElem? hb)))) (fun _ _ h _=>h)
end Go.Cx
namespace Go.Cx
open Go Go.Cf
set_option linter.unusedVariables false
set_option maxRecDepth 100000
variable {B:QBG}{As F:List HP}
theorem QYZ(n:Int)(h0:0≤n)(h1:n≤4398046511104):Ct Pr 175 [.I n] .one [.str] [] GTab (fun t Bs=>t.1=fN n∧Bs=[]):=by
 refine sp1 (QRF _) fun B hr=>?_;haveI:=QKc hr;unfold QRF mf;dsimp only;refine QAR (QZ3 n (by omega) (by omega)) rdb ?_;rintro⟨t,_⟩ _ ⟨ht,rfl⟩;obtain rfl:t=BA (Lib.itoa n):=ht;have hl:=QaW (n:=n) (by omega) (by omega);refine QAz (ca1 (QA6 ?_ (QAE ⟨?_,rfl⟩)))
 ·rw[QTi,show (⟨#[108,111,103,45]⟩:ByteArray).size=4 from rfl];omega
 ·rw[show (⟨#[108,111,103,45]⟩:ByteArray)=BA preL from rfl,QfJ];rfl
theorem QV3{n:Int}{K:ByteArray→WP}[r:Rdb B As GTab](h0:0≤n)(h1:n≤4398046511104)(h:Ent B As (K (fN n))):Ent B As (QAe Pr 175 [.I n] .one [.str] K):=by
 refine QAR (QYZ n h0 h1) rdb ?_;rintro⟨t,_⟩ _ ⟨ht,rfl⟩;obtain rfl:t=fN n:=ht;exact QAz (ca1 h)
abbrev CS:=Int×Int×Int×Sl
def SEG:Enc CS:=⟨fun x=>[.I x.1,.I x.2.1,.I x.2.2.1,x.2.2.2.v],4,fun _=>rfl,fun x v h=>by simp at h;rcases h with rfl|rfl|rfl|rfl<;>rfl,by decide,(0,0,0,⟨none,0,0⟩)⟩
def QFV(c:CS)(s:Sg):HP:=fun h=>c.1=s.n∧c.2.1=s.first∧c.2.2.1=s.size∧QfT c.2.2.2 s.ps h
abbrev QAo(p:Option Addr)(l:LM)(s:Sl):List Value:=[.pointer p,.I l.n,.I l.first,s.v,.I l.safe]
def QAZ(q p:Option Addr)(l:LM):HP:=fun h=>LInv l∧∃b s cs,q=some ⟨b,0,none⟩∧QBn [Blk b (QAo p l s),Ar SEG s cs,Each QFV cs l.segs] h
structure LF(cs:List CS)(ss:List Sg):Prop where
 len:cs.length=ss.length
 each:∀(i:Nat) (c:CS) (s:Sg),cs[i]? = some c→ss[i]? = some s→c.1=s.n∧c.2.1=s.first∧c.2.2.1=s.size∧c.2.2.2.n=s.ps.length∧c.2.2.2.n≤c.2.2.2.c
theorem QZG{s:Sl}{ps:List (List UInt8)}{h:QBh}(hr:QfT s ps h):s.n=ps.length∧s.n≤s.c:=by
 obtain⟨rs,a,b,⟨zs,pa⟩,⟨c,d,pc,_⟩,_⟩:=hr;have:=Each.length pc;exact⟨by rw[←pa.1];exact this,pa.cap⟩
theorem Qe4{cs:List CS}{ss:List Sg}{g:QBh}(h:Each QFV cs ss g):LF cs ss:=
 ⟨h.length,fun i c s a b=>QDV (R:=QFV) (S:=fun c s _=>c.1=s.n∧c.2.1=s.first∧c.2.2.1=s.size∧c.2.2.2.n=s.ps.length∧c.2.2.2.n≤c.2.2.2.c) (fun _ _ _ _ h _=>h) (fun x y g ⟨h1,h2,h3,h4⟩=>⟨h1,h2,h3,QZG h4⟩) h a b⟩
theorem QXR(i:Nat){q p:Option Addr}{l:LM}{F:List HP}[r:Pick i As (QAZ q p l) F]{φ:WP}
  (k:LInv l→∀b s cs,q=some ⟨b,0,none⟩→LF cs l.segs→s.n=cs.length→Ent B (Blk b (QAo p l s)::Ar SEG s cs::Each QFV cs l.segs::F) φ):Ent B As φ:=by
 refine Ent.perm r.perm ?_;intro w hw;obtain⟨g,⟨a,c,⟨hi,b,s,cs,hp,pa⟩,pc,d,sa,sc⟩,hm,hu⟩:=hw
 have hl:LF cs l.segs∧s.n=cs.length:=by
  obtain⟨_,_,_,⟨_,_,⟨_,par⟩,⟨_,_,pe,_⟩,_⟩,_⟩:=pa;exact⟨Qe4 pe,par.1.symm⟩
 exact k hi b s cs hp hl.1 hl.2 w ⟨g,(QAj [_,_,_] F).2 ⟨a,c,pa,pc,d,sa,sc⟩,hm,hu⟩
theorem QAw(b:Nat)(s:Sl)(cs:List CS){p:Option Addr}{l:LM}{G:List HP}[q:Split [Blk b (QAo p l s),Ar SEG s cs,Each QFV cs l.segs] As G]{φ:WP}
  (hi:LInv l) (k:Ent B (QAZ (some ⟨b,0,none⟩) p l::G) φ):Ent B As φ:=
 QBR [Blk b (QAo p l s),Ar SEG s cs,Each QFV cs l.segs] (QAZ (some ⟨b,0,none⟩) p l) (fun g hg=>⟨hi,b,s,cs,rfl,hg⟩) k
theorem QGs(a b c:Int)(s:Sl):Ct Pr 51 [.agg #[.I a,.I b,.I c,s.v]] .one [.I] [] emp (fun t Bs=>t.1=IntKind.i64.wrap (b+s.n)∧Bs=[]):=by
 refine sp1 (QFa _ _ _ _) fun B _=>?_;unfold QFa mf;dsimp only;refine QAL fun b=>xgq (xgq ?_);exact QAa (l:=[]) (QAE ⟨rfl,rfl⟩)
theorem QF4(b:Nat)(p:Option Addr)(l:LM)(s:Sl)(cs:List CS)(hs:s.n=cs.length)(hl:cs.length≤64):Ct Pr 103 [.pointer (some ⟨b,0,none⟩)] .one [.ptr] [Blk b (QAo p l s),Ar SEG s cs] emp
  (fun t Bs=>t.1=(if cs=[] then none else some (s.at 4 (cs.length - 1)))∧Bs=[Blk b (QAo p l s),Ar SEG s cs]):=by
 refine sp1 (QGE _) fun B _=>?_;unfold QGE mf;dsimp only;refine QAS (xgq (xif (fun h=>QAE ⟨?_,rfl⟩) (fun h=>?_)))
 ·have:cs=[]:=List.eq_nil_of_length_eq_zero (by simp at h;omega);rw[if_pos this]
 have hne:cs≠[]:=fun e=>by subst e;simp at hs;simp[hs]at h
 have hpos:0<cs.length:=List.length_pos_iff.2 hne;refine QAP (QAS (xgq (QAS (xgq ?_))));rw[QAD _ (by omega) (by omega),show (s.n:Int) - 1=((cs.length - 1:Nat):Int) by omega];refine QAI (E:=SEG) (xs:=cs) (s:=s) (h1:=by omega) (h:=fun c hc=>QAE ⟨?_,rfl⟩);rw[if_neg hne]
theorem QKi{cs:List CS}{ss:List Sg}(h:LF cs ss){s:Sg}(hs:ss.getLast? = some s):∃c,cs[cs.length - 1]? = some c∧c.1=s.n∧c.2.1=s.first∧c.2.2.1=s.size∧c.2.2.2.n=s.ps.length∧c.2.2.2.n≤c.2.2.2.c:=by
 have h1:=QFi hs;have hlt:=(List.getElem?_eq_some_iff.1 h1).1;have hc:=List.getElem?_eq_getElem (l:=cs) (i:=cs.length - 1) (by rw[h.len];exact hlt);exact⟨_,hc,h.each _ _ _ hc (by rw[h.len];exact h1)⟩
theorem QRy{cs:List CS}{ss:List Sg}(h:LF cs ss):cs=[]↔ss.getLast? = none:=by
 rw[List.getLast?_eq_none_iff];have:=h.len;constructor
 ·rintro rfl;exact List.eq_nil_of_length_eq_zero (by simpa using this.symm)
 ·rintro rfl;exact List.eq_nil_of_length_eq_zero (by simpa using this)
theorem QFg(b:Nat)(p:Option Addr)(l:LM)(s:Sl)(cs:List CS)(hs:s.n=cs.length)(hf:LF cs l.segs)(hi:LInv l):Ct Pr 39 [.pointer (some ⟨b,0,none⟩)] .one [.I] [Blk b (QAo p l s),Ar SEG s cs] emp
  (fun t Bs=>t.1=l.next∧Bs=[Blk b (QAo p l s),Ar SEG s cs]):=by
 refine sp1 (QIb _) fun B _=>?_;unfold QIb mf;dsimp only;have hfew:=hi.few;refine xcl (QF4 b p l s cs hs (by rw[hf.len];exact hfew)) rdb ?_;rintro⟨t,_⟩ _ ⟨ht,rfl⟩;simp only at ht;subst ht;refine QBM (ca1 ?_)
 cases hc:l.segs.getLast? with
 | none=>
  rw[if_pos ((QRy hf).2 hc)];refine QBF rfl (QAS (xgq (QAE ⟨?_,rfl⟩)));unfold LM.next LM.cur;rw[hc]
 | some sg=>
  rw[if_neg (fun e=>by have:=(QRy hf).1 e;rw[hc]at this;cases this)];obtain⟨c,h1,h2,h3,h4,h5,h6⟩:=QKi hf hc;obtain⟨g1,g2,g3,g4,_⟩:=hi.segs sg (List.mem_of_getLast? hc);refine QBk rfl (QAS ?_);refine QAO (E:=SEG) (xs:=cs) h1 (h:=?_);iterate 3 (refine QAb (E:=SEG) (xs:=cs) h1 (h:=?_))
  refine QAR (QGs _ _ _ c.2.2.2) rdb ?_;rintro⟨t,_⟩ _ ⟨ht,rfl⟩;simp only at ht;subst ht;refine QAz (ca1 (QAE ⟨?_,rfl⟩))
  (try simp only)
  rw[QAD _ (by omega) (by omega),h3,h5];unfold LM.next LM.cur;rw[hc];rfl
theorem QTY{p:Option Addr}{m:DM}{g:QBh}(h:QAC p m g):∃b,p=some ⟨b,0,none⟩:=by
 obtain⟨_,b,_,_,e,_⟩:=h;exact⟨b,e⟩
theorem QMO(b:Nat)(p:Option Addr)(m:DM)(l:LM)(s:Sl):Ct Pr 202 [.pointer (some ⟨b,0,none⟩)] .one [.I] [Blk b (QAo p l s),QAC p m] emp
  (fun t Bs=>t.1=(if m.down=true then 10 else 0)∧Bs=[Blk b (QAo p l s),QAC p m]):=by
 refine sp1 (QHo _) fun B _=>?_;unfold QHo mf;dsimp only;refine QAS (xgq ?_);refine QCC 1 (P1:=QAC p m) (fun g hg=>QTY hg) fun ⟨pb,hp⟩=>?_;subst hp;refine QAS ?_;refine xcl (QLa (some ⟨pb,0,none⟩) m) rdb ?_;rintro⟨c,_⟩ _ ⟨hc,rfl⟩;obtain rfl:c=m.down:=hc;refine QA8 (ca1 (QGK 1 (xif (fun h=>QAE ⟨by rw[if_pos h],rfl⟩) (fun h=>QAE ⟨by rw[if_neg (by rw[h];decide)],rfl⟩))))
theorem QJU(q p:Option Addr)(m:DM)(l:LM)(hn:l.segs=[]→l.safe=l.next):Ct Pr 132 [.pointer q] .one [.I] [QAZ q p l,QAC p m] GTab
  (fun t Bs=>t.1=(QBZ m l).2.2∧Bs=[QAZ q p (QBZ m l).2.1,QAC p (QBZ m l).1]):=by
 refine sp1 (QIS _) fun B hr=>?_;haveI:=QKc hr;unfold QIS mf;dsimp only;refine QXR 0 fun hi b s cs hq hf hs=>?_;subst hq;refine xcl (QMO b p m l s) rdb ?_;rintro⟨t,_⟩ _ ⟨ht,rfl⟩;simp only at ht;subst ht;refine QBM (ca1 (xif (fun h=>?_) (fun h=>?_)))
 ·have hd:m.down=true:=by
   cases e:m.down with
   | true=>rfl
   | false=>rw[e]at h;cases h
  refine QAw (p:=p) (l:=l) b s cs hi ?_;rw[if_pos hd]
  have e:QBZ m l=(m,l,10):=by unfold QBZ;rw[if_pos hd]
  rw[e];exact QAE ⟨rfl,rfl⟩
 have hd:m.down=false:=by
  cases e:m.down with
  | false=>rfl
  | true=>rw[e]at h;cases h
 refine QAP (QAS (xgq ?_));refine xcl (QFg b p l s cs hs hf hi) rdb ?_;rintro⟨t,_⟩ _ ⟨ht,rfl⟩;simp only at ht;subst ht;refine QBM (ca1 (QC7 (h:=xif (fun h1=>?_) (fun h1=>?_))))
 ·have h1:l.safe=l.next:=by simpa using h1
  have e:QBZ m l=(m,l,0):=by unfold QBZ;rw[if_neg (by rw[hd];decide),if_pos h1]
  rw[e];exact QAw (p:=p) (l:=l) b s cs hi (QAE ⟨rfl,rfl⟩)
 have h1:¬l.safe=l.next:=by simpa using h1
 refine QAP (QAS (xgq ?_));refine xcl (QF4 b p l s cs hs (by rw[hf.len];exact hi.few)) rdb ?_;rintro⟨t,_⟩ _ ⟨ht,rfl⟩;simp only at ht;subst ht;refine QBM (ca1 (QC7 (h:=?_)));have hne:l.segs≠[]:=fun e=>h1 (hn e);obtain⟨sg,hc⟩:∃sg,l.segs.getLast? = some sg:=⟨_,List.getLast?_eq_some_getLast hne⟩;rw[if_neg (fun e=>by have:=(QRy hf).1 e;rw[hc]at this;cases this)];obtain⟨c,g1,g2,g3,g4,g5,g6⟩:=QKi hf hc;obtain⟨k1,k2,k3,k4,_⟩:=hi.segs sg (List.mem_of_getLast? hc);refine QAS (QAO (E:=SEG) (xs:=cs) g1 (h:=?_));rw[g2];refine QV3 (by omega) (by omega) (QC7 (h:=?_));refine xcl (QGe p m (fN sg.n)) rdb ?_;rintro⟨t,_⟩ _ ⟨ht,rfl⟩;simp only at ht;subst ht
 have e:QBZ m l=if (QBE m (fN sg.n)).2≠0 then ((QBE m (fN sg.n)).1,l,(QBE m (fN sg.n)).2) else ((QBE m (fN sg.n)).1,{ l with safe:=l.next },0):=by
  unfold QBZ LM.cur;rw[if_neg (by rw[hd];decide),if_neg h1,hc];rfl
 rw[e];refine QA8 (ca1 (xif (fun h2=>?_) (fun h2=>?_)))
 ·have h2:(QBE m (fN sg.n)).2≠0:=by simpa using h2
  rw[if_pos h2];exact QAw (p:=p) (l:=l) b s cs hi (QAE ⟨rfl,rfl⟩)
 ·have h2:¬(QBE m (fN sg.n)).2≠0:=by simpa using h2
  rw[if_neg h2];refine xcl (QFg b p l s cs hs hf hi) rdb ?_;rintro⟨t,_⟩ _ ⟨ht,rfl⟩;simp only at ht;subst ht;refine QBM (ca1 (QAS (xsq ?_)));have hb:=hi.next;exact QAw (p:=p) (l:={ l with safe:=l.next }) b s cs ⟨hi.n,hi.first,hi.segs,hi.few,by simp only;omega,hi.chain⟩ (QAE ⟨rfl,rfl⟩)
end Go.Cx
namespace Go.Cx
open Go Go.Cf
set_option linter.unusedVariables false
set_option maxRecDepth 100000
variable {B:QBG}{As F:List HP}
theorem QYT(p:Option Addr)(m:DM)(nm:ByteArray):Ct Pr 173 [.pointer p,.string nm] .one [.I] [QAC p m] emp (fun t Bs=>t.1=(QAt m nm).2∧Bs=[QAC p (QAt m nm).1]):=by
 refine sp1 (QR4 _ _) fun B _=>?_;unfold QR4 mf;dsimp only;refine xcl (QFz p m nm) rdb ?_;rintro⟨t,_⟩ _ ⟨ht,rfl⟩;simp only at ht;subst ht;unfold QAt;refine QA8 (ca1 (xif (fun h=>?_) (fun h=>?_)))
 ·have h:¬(QAV m nm).2=6:=by simpa using h
  rw[if_neg h];exact QAE ⟨rfl,rfl⟩
 ·have h:(QAV m nm).2=6:=by simpa using h
  rw[if_pos h];exact QAE ⟨rfl,rfl⟩
theorem QR3(v:Nat)(h:v≤9223372036854775807):IntKind.i64.wrap (v:Int)=v:=QAD _ (by omega) (by omega)
theorem QOy(p:Option Addr)(m:DM):Ct Pr 174 [.pointer p] (.tup [none,none,none]) [.I,.I,.I] [QAC p m] emp
  (fun t Bs=>t.1=(QCz m).1∧t.2.1=(QCz m).2.1∧t.2.2.1=(QCz m).2.2∧Bs=[QAC p m]):=by
 refine sp3 (QIc _) fun B _=>?_;unfold QIc mf;dsimp only;refine QCC 0 (P1:=QAC p m) (fun g hg=>hg.1) fun hI=>?_;have hlen:=QP0 hI QLj;refine xcl (QJA p m QLj) rdb ?_;rintro⟨s,r,_⟩ _ ⟨hr,rfl⟩;simp only at hr;subst hr;unfold QCz;refine QBM (ca2 (xif (fun h=>?_) (fun h=>?_)))
 ·have h:(QAX m QLj).2≠0:=by simpa using h
  rw[if_pos h];exact QAM [QAC p m] (QAE ⟨rfl,rfl,rfl,rfl⟩)
 have h:¬(QAX m QLj).2≠0:=by simpa using h
 rw[if_neg h];refine QCn s fun hsl hsc=>?_
 replace hsl:(QAX m QLj).1.length=s.n:=hsl
 refine xcl (pre:=[]) (QFc s (QAX m QLj).1 (by omega) hsc) rdb ?_;rintro⟨s1,r1,r2,_⟩ _ ⟨h1,h2,rfl⟩;simp only at h1 h2;subst h1 h2
 generalize hx:(QAX m QLj).1=xs at *
 generalize hg:QBN xs=gx at *
 obtain⟨pl,u,e⟩:=gx;refine QA8 (ca3 ?_);refine QCn s1 fun hl1 hc1=>?_
 replace hl1:pl.length=s1.n:=hl1
 replace hsl:xs.length=s.n:=hsl
 have hcond:(((e != 0)||(((u:Nat):Int) != (s.n:Int)))||(((s1.n:Int)) != 16))=decide (e≠0∨u≠xs.length∨pl.length≠16):=by
  rw[Bool.eq_iff_iff];simp only[Bool.or_eq_true,bne_iff_ne,ne_eq,decide_eq_true_eq];omega
 (try simp only)
 rw[hcond];refine QAB (fun h3=>?_) (fun h3=>?_)
 ·rw[if_pos h3];exact QAM [QAC p m] (QAE ⟨rfl,rfl,rfl,rfl⟩)
 rw[if_neg h3]
 have hp16:pl.length=16:=by
  by_cases e:pl.length=16
  ·exact e
  ·exact absurd (.inr (.inr e)) h3
 refine xcl (pre:=[]) (QGV s1 pl 0 (by omega) (by omega) hc1) rdb ?_;rintro⟨x,z,_⟩ _ ⟨hx1,_,rfl⟩;simp only at hx1;subst hx1;refine QAz (ca2 ?_);refine xcl (pre:=[]) (QGV s1 pl 8 (by omega) (by omega) hc1) rdb ?_;rintro⟨y,z1,_⟩ _ ⟨hy1,_,rfl⟩;simp only at hy1;subst hy1;refine QAz (ca2 ?_)
 have hcond2:(((decide (((beV (QKn pl 0):Nat):Int)<1))||(decide (((beV (QKn pl 0):Nat):Int)>999999999999)))||(decide (((beV (QKn pl 8):Nat):Int)>1099511627776)))=decide (beV (QKn pl 0)<1∨beV (QKn pl 0)>999999999999∨beV (QKn pl 8)>1099511627776):=by
  rw[Bool.eq_iff_iff];simp only[Bool.or_eq_true,decide_eq_true_eq];omega
 rw[hcond2];refine QAB (fun h4=>?_) (fun h4=>?_)
 ·rw[if_pos h4];exact QAM [QAC p m] (QAE ⟨rfl,rfl,rfl,rfl⟩)
 ·rw[if_neg h4,QR3 _ (by omega),QR3 _ (by omega)];exact QAM [QAC p m] (QAE ⟨rfl,rfl,rfl,rfl⟩)
theorem QD6{α:Type}(p:α→Bool):∀l:List α,(l.dropWhile p=[]↔l.all p=true)
 | []=>by simp
 | x::l=>by
  simp only[List.dropWhile_cons,List.all_cons,Bool.and_eq_true];split
  ·rename_i h;rw[QD6 p l];simp[h]
  ·rename_i h;simp[h]
theorem QHi{α:Type}(p:α→Bool):∀(l:List α) x r,l.dropWhile p=x::r→p x=false
 | [],x,r,h=>by simp at h
 | y::l,x,r,h=>by
  rw[List.dropWhile_cons]at h;split at h
  ·exact QHi p l x r h
  ·rename_i hp
   obtain⟨rfl,_⟩:=List.cons.inj h;simpa using hp
theorem Qbw(d cs:List UInt8):Lib.trimS d cs=[]↔d.all (cs.contains ·)=true:=by
 unfold Lib.trimS Lib.trimLeftS Lib.trimRightS;rw[QD6,List.all_reverse]
 cases e:d.reverse.dropWhile (cs.contains ·) with
 | nil=>
  have:=(QD6 (cs.contains ·) d.reverse).1 e;rw[List.all_reverse]at this;simp only[List.all_nil,true_iff];exact this
 | cons x r=>
  have hx:=QHi _ _ _ _ e;simp only[List.all_cons,hx,Bool.false_and];constructor
  ·intro h;cases h
  ·intro h;rw[←List.all_reverse,←QD6,e]at h;cases h
theorem QRL(b:UInt8):([48,49,50,51,52,53,54,55,56,57]:List UInt8).contains b=QPO b:=by
 have:∀n:Fin 256,([48,49,50,51,52,53,54,55,56,57]:List UInt8).contains (UInt8.ofNat n.val)=QPO (UInt8.ofNat n.val):=by decide
 have h:=this ⟨b.toNat,b.toNat_lt⟩;simpa using h
theorem QSh(s:ByteArray)(hs:s.size≤4096):Ct Pr 179 [.string s] .one [.bool] [] emp (fun t Bs=>t.1=QEb s.data.toList∧Bs=[]):=by
 refine sp1 (QLP _) fun B hr=>?_;unfold QLP mf;dsimp only;refine QAR (QNJ s _) rdb ?_;rintro⟨t,c,_⟩ _ ⟨ht,hc,rfl⟩;have hlit:(⟨#[108,111,103,45]⟩:ByteArray).data.toList=preL:=rfl;rw[hlit]at ht hc;simp only at ht hc
 have hsz:s.data.toList.length=s.size:=by rw[Array.length_toList];rfl
 generalize s.data.toList=l at *
 refine QAz (ca2 ?_);have fin:∀{As:List HP}{c:Bool},c=QEb l→Ent B As (Ret B (ss:=[.bool]) (fun t Bs=>t.1=QEb l∧Bs=[]) (c,())):=fun {As}{c} h=>QAa (l:=[]) (QAE ⟨h,rfl⟩)
 cases hp:Lib.hasPrefix l preL with
 | false=>
  rw[hp]at hc;subst hc;refine QAJ (QBF rfl (QAJ (QBF rfl (QAJ (QBF rfl (fin ?_))))));symm;unfold QEb;simp only[Bool.and_eq_false_iff,Bool.not_eq_false',decide_eq_false_iff_not,beq_eq_false_iff_ne];refine .inl (.inl (.inr fun e=>?_))
  have:preL.isPrefixOf l=true:=by
   rw[List.isPrefixOf_iff_prefix,←e];exact List.take_prefix _ _
  unfold Lib.hasPrefix at hp;rw[this]at hp;cases hp
 | true=>
  rw[hp]at hc;subst hc
  obtain⟨d,rfl⟩:∃d,l=preL++d:=by
   unfold Lib.hasPrefix at hp;rw[List.isPrefixOf_iff_prefix]at hp;obtain⟨d,hd⟩:=hp;exact⟨d,hd.symm⟩
  have htd:t=BA d:=by
   rw[ht];unfold Lib.trimPrefix;rw[if_pos hp,List.drop_left];rfl
  subst htd;have e4:preL.length=4:=rfl
  have hm:QEb (preL++d)=(!(d == [])&&decide (d.length≤12) && !(d[0]? == some 48)&&d.all QPO):=by
   unfold QEb
   have h1:(preL++d).take 4=preL:=by rw[←e4,List.take_left]
   have h2:(preL++d).drop 4=d:=by rw[←e4,List.drop_left]
   have h3:(preL++d)[4]? = d[0]?:=by rw[List.getElem?_append_right (by omega),e4]
   have h4:(decide (5≤(preL++d).length)) = !(d == []):=by
    rw[List.length_append,e4,Bool.eq_iff_iff]
    cases d with
    | nil=>simp
    | cons y r=>simp;omega
   have h5:decide ((preL++d).length≤16)=decide (d.length≤12):=by
    rw[List.length_append,e4,Bool.eq_iff_iff];simp only[decide_eq_true_eq];omega
   rw[h1,h2,h3,h4,h5];simp
  have fin:=fun {As:List HP}{c:Bool}(h:c=(!(d == [])&&decide (d.length≤12) && !(d[0]? == some 48)&&d.all QPO))=>fin (As:=As) (h.trans hm.symm)
  have hde:((BA d).toList == ByteArray.empty.toList)=(d == []):=by rw[QEF,QJc]
  refine QAJ (QBk rfl ?_);rw[hde];rw[QTi]
  have hdl:((decide ((d.length:Int)≤12)):Bool)=decide (d.length≤12):=by
   rw[Bool.eq_iff_iff];simp only[decide_eq_true_eq];omega
  rw[hdl]
  cases hd:d with
  | nil=>
   subst hd;refine QAJ (QBF rfl (QAJ (QBF rfl (fin rfl))))
  | cons y r=>
   rw[←hd]
   have hd0:d[0]? = some y:=by rw[hd];rfl
   have hne:(d == [])=false:=by rw[hd];rfl
   rw[hne,hd0]at fin;rw[hne]
   have hy:((y.toNat:Int) != 48) = !((some y:Option UInt8) == some 48):=by
    rw[Bool.eq_iff_iff];simp only[bne_iff_ne,ne_eq,Bool.not_eq_true',beq_eq_false_iff_ne,Option.some.injEq];constructor
    ·rintro h rfl;exact h rfl
    ·intro h e
     exact h (UInt8.toNat_inj.1 (by have : y.toNat = 48 := by omega
                                    exact this))
   cases h12:decide (d.length≤12) with
   | false=>
    rw[h12]at fin;exact QAJ (QBF rfl (QAJ (QBF rfl (fin rfl))))
   | true=>
    rw[h12]at fin;refine QAJ (QBk rfl (QgV (k:=0) rfl (by rw[QOo];exact hd0) ?_));rw[hy];refine QAJ (xif (fun h=>?_) (fun h=>fin ?_))
    ·rw[h]at fin;refine QAR (QXl (BA d) _ (by rw[QTi];simp at h12;omega) (by decide) (by decide)) rdb ?_;rintro⟨t1,_⟩ _ ⟨ht1,rfl⟩;have hcs:(⟨#[48,49,50,51,52,53,54,55,56,57]⟩:ByteArray).data.toList=[48,49,50,51,52,53,54,55,56,57]:=rfl;rw[QOo,hcs]at ht1;obtain rfl:t1=BA (Lib.trimS d [48,49,50,51,52,53,54,55,56,57]):=ht1;refine QAz (ca1 (fin ?_));rw[QEF,QJc,Bool.eq_iff_iff,beq_iff_eq,Qbw]
     have:d.all (fun x=>([48,49,50,51,52,53,54,55,56,57]:List UInt8).contains x)=d.all QPO:=by
      congr 1;funext b;exact QRL b
     rw[this];simp
    ·rw[h];rfl
theorem QWS(c:CS)(a:Nat)(nm:ByteArray)(h0:0≤c.1)(h1:c.1≤4398046511104):Ct Pr 181 [.agg #[.I c.1,.I c.2.1,.I c.2.2.1,c.2.2.2.v],.pointer (some ⟨a,0,none⟩)] .one [.bool] [Blk a [.string nm]] GTab
  (fun t Bs=>t.1=(fK c.1 == nm.toList)∧Bs=[Blk a [.string nm]]):=by
 refine sp1 (QMk _ _ _ _ _) fun B hr=>?_;haveI:=QKc hr;unfold QMk mf;dsimp only;refine QAL fun b=>QAP (xgq (xgq ?_));refine QV3 h0 h1 (QC7 (h:=?_));exact QAM [Blk a [.string nm]] (QAE ⟨rfl,rfl⟩)
theorem QQW(a:Nat)(nm:ByteArray)(s:Sl)(cs:List CS)(ss:List Sg)(hf:LF cs ss)(hs:s.n=cs.length)(hl:ss.length≤64)(hb:∀x∈ss,1≤x.n∧x.n≤2000000000000) :
  Ct Pr 180 [s.v,.func (.func 181) #[] #[.pointer (some ⟨a,0,none⟩)]] .one [.bool] [Blk a [.string nm],Ar SEG s cs] GTab
  (fun t Bs=>t.1=(ss.any fun x=>fK x.n == nm.toList)∧Bs=[Blk a [.string nm],Ar SEG s cs]):=by
 refine sp1 (QAy _ _) fun B hr=>?_;haveI:=QKc hr;unfold QAy mf;dsimp only
 have idx:Ct Pr 262 [s.v,.func (.func 181) #[] #[.pointer (some ⟨a,0,none⟩)]] .one [.I] [Blk a [.string nm],Ar SEG s cs] GTab
   (fun t Bs=>(decide (t.1≥0):Bool)=(ss.any fun x=>fK x.n == nm.toList)∧Bs=[Blk a [.string nm],Ar SEG s cs]):=by
  refine sp1 (QA4 _ _) fun B hr=>?_;haveI:=QKc hr;unfold QA4 mf;dsimp only;refine QBV (fun n i As=>∃k:Nat,i=(k:Int)∧n=cs.length - k∧k≤cs.length∧((ss.take k).any fun x=>fK x.n == nm.toList)=false∧As=[Blk a [.string nm],Ar SEG s cs]) cs.length ⟨0,rfl,rfl,by omega,rfl,rfl⟩ ?_;rintro n _ _ K ⟨k,rfl,rfl,hk,hno,rfl⟩ hK;refine QAB (fun h=>?_) (fun h=>?_)
  ·have hlt:k<cs.length:=by omega
   have hx:=List.getElem?_eq_getElem hlt;have hy:=List.getElem?_eq_getElem (l:=ss) (i:=k) (by rw[←hf.len];exact hlt);obtain⟨g1,g2,g3,g4,g5⟩:=hf.each k _ _ hx hy;have hbx:=hb _ (List.mem_of_getElem? hy)
   generalize cs[k]=c at *
   generalize hsg:ss[k]'(by rw[←hf.len];exact hlt)=sg at *
   refine QAI (E:=SEG) (xs:=cs) (s:=s) (h1:=hlt) (h:=fun _ _=>?_);refine QAO (E:=SEG) (xs:=cs) hx (h:=?_);iterate 3 (refine QAb (E:=SEG) (xs:=cs) hx (h:=?_))
   refine xcl (QWS c a nm (by omega) (by omega)) rdb ?_;rintro⟨t,_⟩ _ ⟨ht,rfl⟩;simp only at ht;subst ht
   have hsn:ss.take (k+1)=ss.take k++[sg]:=by rw[List.take_add_one,hy];rfl
   refine QA8 (ca1 (xif (fun h2=>?_) (fun h2=>?_)))
   ·refine QAE ⟨?_,rfl⟩
    have:ss.any (fun x=>fK x.n == nm.toList)=true:=by
     refine List.any_eq_true.2 ⟨sg,List.mem_of_getElem? hy,?_⟩;rw[←g1];exact h2
    rw[this];simp
   ·rw[QAF k (by rw[hf.len]at hlt;omega)];refine hK (cs.length - (k+1)) _ _ (by omega) ⟨k+1,rfl,rfl,by omega,?_,rfl⟩;rw[hsn,List.any_append,hno];simp only[List.any_cons,List.any_nil,Bool.or_false,Bool.false_or];rw[←g1];exact h2
  ·have:k=ss.length:=by rw[←hf.len];omega
   rw[this,List.take_of_length_le (Nat.le_refl _)]at hno;refine QAE ⟨?_,rfl⟩;rw[hno];rfl
 refine xcl idx rdb ?_;rintro⟨t,_⟩ _ ⟨ht,rfl⟩;exact QBM (ca1 (QAE ⟨ht,rfl⟩))
end Go.Cx
namespace Go.Cx
open Go Go.Cf
set_option linter.unusedVariables false
set_option maxRecDepth 100000
variable {B:QBG}{As F:List HP}
theorem QXn{m:DM}(h:(QAt m QEo).2≠0):QDb m=((QAt m QEo).1,none,(QAt m QEo).2):=by unfold QDb;rw[if_pos h]
theorem QXg{m:DM}(h:¬(QAt m QEo).2≠0)(h2:(QCz (QAt m QEo).1).2.2≠0):QDb m=((QAt m QEo).1,none,(QCz (QAt m QEo).1).2.2):=by unfold QDb;rw[if_neg h];simp only[if_pos h2]
theorem QYt{m:DM}(h:¬(QAt m QEo).2≠0)(h2:¬(QCz (QAt m QEo).1).2.2≠0){m':DM}{l:LM}{e:Int}(h3:QLY 70 (QAt m QEo).1 (QCz (QAt m QEo).1).1 ⟨(QCz (QAt m QEo).1).1,(QCz (QAt m QEo).1).2.1,[],0⟩=(m',l,e))(he:e≠0):QDb m=(m',none,e):=by
 unfold QDb;rw[if_neg h];simp only[if_neg h2,h3,if_pos he]
theorem QZ9{m:DM}(h:¬(QAt m QEo).2≠0)(h2:¬(QCz (QAt m QEo).1).2.2≠0){m':DM}{l:LM}(h3:QLY 70 (QAt m QEo).1 (QCz (QAt m QEo).1).1 ⟨(QCz (QAt m QEo).1).1,(QCz (QAt m QEo).1).2.1,[],0⟩=(m',l,0)){w:DM×Int}(hw:QC5 l (m'.fs.map (·.nm)) m'=w) :
  QDb m=if w.2≠0 then (w.1,none,w.2) else (w.1,some { l with safe:=l.next },0):=by
 unfold QDb;rw[if_neg h];simp only[if_neg h2,h3,hw];rfl
def openPost(p:Option Addr)(m:DM):Tup [.ptr,.I]→List HP→Prop:=fun t Bs=>
 (∃l b,(QDb m).2.1=some l∧(QDb m).2.2=0∧t.1=some ⟨b,0,none⟩∧t.2.1=0∧Bs=[QAZ (some ⟨b,0,none⟩) p l,QAC p (QDb m).1]) ∨
 ((QDb m).2.1=none∧(QDb m).2.2≠0∧t.1=none∧t.2.1=(QDb m).2.2∧Bs=[QAC p (QDb m).1])
theorem QWH{l:LM}{nms:List ByteArray}{k:Nat}{nm:ByteArray}{m:DM}(h:nms[k]? = some nm) :
  QC5 l (nms.drop k) m=if QRK l nm then QC5 l (nms.drop (k+1)) m else if (QAV m nm).2≠0 then QAV m nm else QC5 l (nms.drop (k+1)) (QAV m nm).1:=by
 have hk:=(List.getElem?_eq_some_iff.1 h).1;rw[List.drop_eq_getElem_cons hk,(List.getElem?_eq_some_iff.1 h).2];rfl
theorem QVy(p:Option Addr)(m:DM):Ct Pr 116 [.pointer p] (.tup [none,none]) [.ptr,.I] [QAC p m] GTab (openPost p m):=by
 refine sp2 (QSB _) fun B hr=>?_;haveI:=QKc hr;unfold QSB mf;dsimp only;refine xcl (QYT p m QEo) rdb ?_;rintro⟨t,_⟩ _ ⟨ht,rfl⟩;simp only at ht;subst ht;refine QA8 (ca1 (xif (fun h=>?_) (fun h=>?_)))
 ·have h:(QAt m QEo).2≠0:=by simpa using h
  have e:=QXn h;exact QAE (.inr ⟨by rw[e],by rw[e];exact h,rfl,by rw[e],by rw[e]⟩)
 have h1:¬(QAt m QEo).2≠0:=by simpa using h
 refine xcl (QOy p (QAt m QEo).1) rdb ?_;rintro⟨t,t1,t2,_⟩ _ ⟨ht,ht1,ht2,rfl⟩;simp only at ht ht1 ht2;subst ht ht1 ht2;refine QA8 (ca3 (xif (fun h=>?_) (fun h=>?_)))
 ·have h:(QCz (QAt m QEo).1).2.2≠0:=by simpa using h
  have e:=QXg h1 h;exact QAE (.inr ⟨by rw[e],by rw[e];exact h,rfl,by rw[e],by rw[e]⟩)
 have h2:¬(QCz (QAt m QEo).1).2.2≠0:=by simpa using h
 have he3:=fun {m' l e} h3 he=>QYt (m:=m) h1 h2 (m':=m') (l:=l) (e:=e) h3 he;have he4:=fun {m' l} h3 {w} hw=>QZ9 (m:=m) h1 h2 (m':=m') (l:=l) h3 (w:=w) hw;have hb:=QLO (QAt m QEo).1 (by simpa using h2);refine QCC 0 (P1:=QAC p (QAt m QEo).1) (fun g hg=>hg.1) fun hI=>?_
 generalize hm1:(QAt m QEo).1=m1 at *
 generalize hn0:(QCz m1).1=n0 at *
 generalize hf0:(QCz m1).2.1=f0 at *
 obtain⟨hb1,hb2⟩:=hb;have hstart:=ReadI.start (n0:=n0) hI hb2
 generalize hR0:QLY 70 m1 n0 ⟨n0,f0,[],0⟩=R0 at *
 refine QAL fun b=>?_;refine QAd SEG ?_;refine QYz (A:=Each QFV [] []) trivial ?_;refine QBR [Blk b [.pointer p,.I n0,.I f0,.slice none 0 0,.I 0],Ar SEG ⟨none,0,0⟩ [],Each QFV [] []] (QAZ (some ⟨b,0,none⟩) p ⟨n0,f0,[],0⟩) (fun g hg=>⟨hstart.linv hb1 hb2,b,⟨none,0,0⟩,[],rfl,hg⟩) ?_;refine QAU (fun(n1:Int) As'=>∃(m':DM) (l':LM),R0=(m',l',0)∧ReadI n0 f0 m' l'∧As'=[QAZ (some ⟨b,0,none⟩) p l',QAC p m']) (fun K hK=>?_) ?_
 ·refine QBV (fun fuel (n:Int) As'=>∃(m':DM) (l':LM),n=n0+l'.segs.length∧fuel+l'.segs.length=70∧R0=QLY fuel m' n l'∧ReadI n0 f0 m' l'∧As'=[QAZ (some ⟨b,0,none⟩) p l',QAC p m']) 70 ⟨m1,⟨n0,f0,[],0⟩,by simp,rfl,by simpa using hR0.symm,hstart,rfl⟩ ?_;rintro fuel n As' K2 ⟨m',l',rfl,hfu,heq,hR,rfl⟩ hK2;have hfew:=hR.few hb1.1;obtain⟨fuel,rfl⟩:∃k,fuel=k+1:=⟨fuel - 1,by omega⟩;have hlen:=QP0 hR.inv (fN (n0+l'.segs.length));refine QV3 (by omega) (by omega) ?_;refine xcl (QJA p m' (fN (n0+l'.segs.length))) rdb ?_;rintro⟨s,r,_⟩ _ ⟨hr4,rfl⟩;simp only at hr4;subst hr4;rw[QLY]at heq;refine QBM (ca2 (xif (fun h4=>?_) (fun h4=>?_)))
  ·have h4:(QAX m' (fN (n0+l'.segs.length))).2≠0:=by simpa using h4
   rw[if_pos h4]at heq;exact QAM [QAZ (some ⟨b,0,none⟩) p l',QAC p m'] (hK _ _ ⟨m',l',heq,hR,rfl⟩)
  have h4:¬(QAX m' (fN (n0+l'.segs.length))).2≠0:=by simpa using h4
  rw[if_neg h4]at heq;have hmore:=hR.more hb1.1 (by simpa using h4);refine QCn s fun hsl hsc=>?_
  replace hsl:(QAX m' (fN (n0+l'.segs.length))).1.length=s.n:=hsl
  refine xcl (pre:=[]) (QQT s (QAX m' (fN (n0+l'.segs.length))).1 hlen hsc) rdb ?_;rintro⟨s1,r1,_⟩ _ ⟨h5,rs,rfl⟩;simp only at h5;subst h5;have hsu:=QKh (QAX m' (fN (n0+l'.segs.length))).1;have hme:QD7 m' (n0+l'.segs.length)=(let t:=if (QAv (QAX m' (fN (n0+l'.segs.length))).1).2<(QAX m' (fN (n0+l'.segs.length))).1.length then QBP m' (fN (n0+l'.segs.length)) (QAv (QAX m' (fN (n0+l'.segs.length))).1).2 else (m',0);if t.2≠0 then t else QBE t.1 (fN (n0+l'.segs.length))):=rfl
  generalize hbs:(QAX m' (fN (n0+l'.segs.length))).1=bs at *
  generalize hrows:(QAv bs).1=rows at *
  generalize hu:(QAv bs).2=u at *
  simp only[hrows,hu]at heq;simp only at hme;refine QBM (ca2 ?_);refine QBx (fun As'=>∃m2:DM,QD7 m' (n0+l'.segs.length)=QBE m2 (fN (n0+l'.segs.length))∧As'=[QAZ (some ⟨b,0,none⟩) p l',QAC p m2,Ar SL s1 rs,Each (Ar U8) rs rows]) (fun K3 hK3=>?_) ?_
  ·refine QAB (fun h5=>?_) (fun h5=>?_)
   ·replace h5:u<bs.length:=by omega
    rw[if_pos h5]at hme;refine QV3 (by omega) (by omega) ?_;refine xcl (QIP p m' (fN (n0+l'.segs.length)) (u:Int)) rdb ?_;rintro⟨t,_⟩ _ ⟨ht,rfl⟩;simp only at ht;subst ht;refine QA8 (ca1 (xif (fun h6=>?_) (fun h6=>?_)))
    ·have h6:(QBP m' (fN (n0+l'.segs.length)) (u:Int)).2≠0:=by simpa using h6
     rw[if_pos h6]at hme;rw[hme,if_pos h6]at heq;have e:=he3 heq h6;exact QAM [QAC p (QBP m' (fN (n0+l'.segs.length)) (u:Int)).1] (QAE (.inr ⟨by rw[e],by rw[e];exact h6,rfl,by rw[e],by rw[e]⟩))
    ·have h6:¬(QBP m' (fN (n0+l'.segs.length)) (u:Int)).2≠0:=by simpa using h6
     rw[if_neg h6]at hme;exact QAM [QAZ (some ⟨b,0,none⟩) p l',QAC p (QBP m' (fN (n0+l'.segs.length)) (u:Int)).1,Ar SL s1 rs,Each (Ar U8) rs rows] (hK3 _ ⟨_,hme,rfl⟩)
   ·replace h5:¬u<bs.length:=by omega
    rw[if_neg h5]at hme;rw[if_neg (by simp)]at hme;exact QAM [QAZ (some ⟨b,0,none⟩) p l',QAC p m',Ar SL s1 rs,Each (Ar U8) rs rows] (hK3 _ ⟨_,hme,rfl⟩)
  rintro As2 ⟨m2,hm2,rfl⟩;rw[hm2]at heq hmore;refine QV3 (by omega) (by omega) ?_;refine xcl (QGe p m2 (fN (n0+l'.segs.length))) rdb ?_;rintro⟨t,_⟩ _ ⟨ht,rfl⟩;simp only at ht;subst ht;refine QA8 (ca1 (xif (fun h6=>?_) (fun h6=>?_)))
  ·have h6:(QBE m2 (fN (n0+l'.segs.length))).2≠0:=by simpa using h6
   rw[if_pos h6]at heq;have e:=he3 heq h6;exact QAM [QAC p (QBE m2 (fN (n0+l'.segs.length))).1] (QAE (.inr ⟨by rw[e],by rw[e];exact h6,rfl,by rw[e],by rw[e]⟩))
  have h6:¬(QBE m2 (fN (n0+l'.segs.length))).2≠0:=by simpa using h6
  rw[if_neg h6]at heq
  generalize (QBE m2 (fN (n0+l'.segs.length))).1=m3 at *
  refine QAP (QAS ?_);refine QXR 1 fun hi b' s2 cs hq hf hs=>?_
  obtain rfl:b=b':=by cases hq;rfl
  refine xgq ?_;refine xcl (QFg b p l' s2 cs hs hf hi) rdb ?_;rintro⟨t,_⟩ _ ⟨ht,rfl⟩;simp only at ht;subst ht;refine QBM (ca1 (QC7 (h:=QAL fun b1=>?_)))
  have hcl:cs.length≤64:=by rw[hf.len];exact hfew
  refine QEQ (E:=SEG) ((n0+l'.segs.length,l'.next,(u:Int),s1):CS) (hb:=by omega) (h:=fun s3=>QAS (xsq ?_));have hLI:=hmore.linv hb1 hb2;refine QBR [Blk b (QAo p { l' with segs:=l'.segs++[⟨n0+l'.segs.length,l'.next,(u:Int),rows⟩] } s3),Ar SEG s3 (cs++[(n0+l'.segs.length,l'.next,(u:Int),s1)]),Each QFV cs l'.segs,Ar SL s1 rs,Each (Ar U8) rs rows] (QAZ (some ⟨b,0,none⟩) p { l' with segs:=l'.segs++[⟨n0+l'.segs.length,l'.next,(u:Int),rows⟩] }) (fun g hg=>⟨hLI,b,s3,cs++[(n0+l'.segs.length,l'.next,(u:Int),s1)],rfl,?_⟩) ?_
  ·refine QBA (l:=[Ar SEG s3 (cs++[(n0+l'.segs.length,l'.next,(u:Int),s1)]),Each QFV cs l'.segs,Ar SL s1 rs,Each (Ar U8) rs rows]) (fun h hh=>?_) hg;refine QBA (l:=[Each QFV cs l'.segs,Ar SL s1 rs,Each (Ar U8) rs rows]) (fun h hh=>?_) hh;refine QCd (QEV ?_);exact QBA (l:=[Ar SL s1 rs,Each (Ar U8) rs rows]) (fun h hh=>QCd ⟨rfl,rfl,rfl,rs,hh⟩) hh
  refine QAB (fun h7=>?_) (fun h7=>?_)
  ·replace h7:u<bs.length:=by omega
   rw[if_pos h7]at heq;exact QAM [QAZ (some ⟨b,0,none⟩) p { l' with segs:=l'.segs++[⟨n0+l'.segs.length,l'.next,(u:Int),rows⟩] },QAC p m3] (hK _ _ ⟨m3,_,heq,hmore,rfl⟩)
  ·replace h7:¬u<bs.length:=by omega
   rw[if_neg h7]at heq;rw[QAD _ (by omega) (by omega)];exact QAM [QAZ (some ⟨b,0,none⟩) p { l' with segs:=l'.segs++[⟨n0+l'.segs.length,l'.next,(u:Int),rows⟩] },QAC p m3] (hK2 fuel _ _ (by omega) ⟨m3,_,by simp;omega,by simp;omega,heq,hmore,rfl⟩)
 rintro n1 As2 ⟨m',l',heq,hR,rfl⟩;have hLI:=hR.linv hb1 hb2;have hfin:=he4 heq rfl;refine QCC 1 (P1:=QAC p m') (fun g hg=>hg.1) fun hI'=>?_;have hnl:=hI'.len
 have hnames:∀nm∈m'.fs.map (·.nm),nm.size≤16:=by
  intro nm hnm;obtain⟨f,hf,rfl⟩:=List.mem_map.1 hnm;have:=hI'.names f hf;unfold QDX at this;simp only[Bool.and_eq_true,decide_eq_true_eq]at this;omega
 refine xcl (QJn p m') rdb ?_;rintro⟨s4,_⟩ _ rfl;refine QBM (ca1 ?_)
 have hnl:(m'.fs.map (·.nm)).length≤64:=by rw[List.length_map];exact hnl
 generalize hN:m'.fs.map (·.nm)=nms at *
 refine QCn s4 fun hl4 _=>?_
 replace hl4:nms.length=s4.n:=hl4
 refine QAM [QAZ (some ⟨b,0,none⟩) p l',QAC p m',Ar Cf.ST s4 nms] ?_;refine QBV (fun mm (x:Int) As'=>∃(k:Nat) (mk:DM),x=(k:Int)∧mm=nms.length - k∧k≤nms.length∧QC5 l' nms m'=QC5 l' (nms.drop k) mk∧As'=[QAZ (some ⟨b,0,none⟩) p l',QAC p mk,Ar Cf.ST s4 nms]) nms.length ⟨0,m',rfl,rfl,by omega,rfl,rfl⟩ ?_;rintro mm x As' K ⟨k,mk,rfl,rfl,hk,hsw,rfl⟩ hK;refine QAB (fun hp=>?_) (fun hp=>?_)
 ·have hp:k<nms.length:=by omega
  refine QAI (E:=Cf.ST) (xs:=nms) (s:=s4) (h1:=hp) (h:=fun nm hnm=>?_);refine QAO (E:=Cf.ST) (xs:=nms) hnm (h:=QAL fun b2=>xsq (xgq ?_));have hsz:=hnames nm (List.mem_of_getElem? hnm);rw[QWH hnm]at hsw;refine QAR (QSh nm (by omega)) rdb ?_;rintro⟨c,_⟩ _ ⟨hc,rfl⟩;obtain rfl:c=QEb nm.data.toList:=hc;refine QAz (ca1 ?_);refine QAU (fun(c:Bool) As'=>c = !(QRK l' nm)∧As'=[QAZ (some ⟨b,0,none⟩) p l',QAC p mk,Ar Cf.ST s4 nms,Blk b2 [.string nm]]) (fun K2 hK2=>?_) ?_
  ·refine xif (fun h=>?_) (fun h=>?_)
   ·refine QXR 1 fun hi b' s2 cs hq hf hs=>?_
    obtain rfl:b=b':=by cases hq;rfl
    refine QAS (xgq ?_);refine xcl (QQW b2 nm s2 cs l'.segs hf hs hi.few (fun x hx=>(hi.segs x hx).1)) rdb ?_;rintro⟨t,_⟩ _ ⟨ht,rfl⟩;simp only at ht;subst ht;refine QBM (ca1 (QAw (p:=p) (l:=l') b s2 cs hi ?_));refine QAM [QAZ (some ⟨b,0,none⟩) p l',QAC p mk,Ar Cf.ST s4 nms,Blk b2 [.string nm]] (hK2 _ _ ⟨?_,rfl⟩);unfold QRK;rw[h];rfl
   ·refine QAM [QAZ (some ⟨b,0,none⟩) p l',QAC p mk,Ar Cf.ST s4 nms,Blk b2 [.string nm]] (hK2 _ _ ⟨?_,rfl⟩);unfold QRK;rw[h];rfl
  rintro c As2 ⟨rfl,rfl⟩;refine QAJ (xif (fun h=>?_) (fun h=>?_))
  ·have h:¬QRK l' nm=true:=by simpa using h
   rw[if_neg h]at hsw;refine xgq ?_;refine xcl (QFz p mk nm) rdb ?_;rintro⟨t,_⟩ _ ⟨ht,rfl⟩;simp only at ht;subst ht;refine QA8 (ca1 (xif (fun h2=>?_) (fun h2=>?_)))
   ·have h2:(QAV mk nm).2≠0:=by simpa using h2
    rw[if_pos h2]at hsw;rw[hsw,if_pos h2]at hfin;exact QAM [QAC p (QAV mk nm).1] (QAE (.inr ⟨by rw[hfin],by rw[hfin];exact h2,rfl,by rw[hfin],by rw[hfin]⟩))
   ·have h2:¬(QAV mk nm).2≠0:=by simpa using h2
    rw[if_neg h2]at hsw;rw[QAF k (by omega)];exact QAM [QAZ (some ⟨b,0,none⟩) p l',QAC p (QAV mk nm).1,Ar Cf.ST s4 nms] (hK _ _ _ (by omega) ⟨k+1,_,rfl,rfl,by omega,hsw,rfl⟩)
  ·have h:QRK l' nm=true:=by simpa using h
   rw[if_pos h]at hsw;rw[QAF k (by omega)];exact QAM [QAZ (some ⟨b,0,none⟩) p l',QAC p mk,Ar Cf.ST s4 nms] (hK _ _ _ (by omega) ⟨k+1,mk,rfl,rfl,by omega,hsw,rfl⟩)
 ·obtain rfl:k=nms.length:=by omega
  rw[List.drop_length]at hsw;have hsw:QC5 l' nms m'=(mk,0):=hsw;rw[hsw,if_neg (by simp)]at hfin;refine QXR 0 fun hi b' s2 cs hq hf hs=>?_
  obtain rfl:b=b':=by cases hq;rfl
  refine xcl (QFg b p l' s2 cs hs hf hi) rdb ?_;rintro⟨t,_⟩ _ ⟨ht,rfl⟩;simp only at ht;subst ht;refine QBM (ca1 (QAS (xsq ?_)));have hnx:=hi.next;refine QAw (p:=p) (l:={ l' with safe:=l'.next }) b s2 cs ⟨hi.n,hi.first,hi.segs,hi.few,by simp only;omega,hi.chain⟩ ?_;refine QAM [QAZ (some ⟨b,0,none⟩) p { l' with safe:=l'.next },QAC p mk] (QAE (.inl ⟨_,b,by rw[hfin],by rw[hfin],rfl,rfl,by rw[hfin]⟩))
end Go.Cx
namespace Go.Cx
open Go Go.Cf
set_option linter.unusedVariables false
set_option maxRecDepth 100000
variable {B:QBG}{As F:List HP}
theorem QO7(p:Sl)(xs:List UInt8)(hm:1024<xs.length):Ct Pr 192 [p.v] (.tup [none,none]) [.slice,.I] [] (RAr U8 p xs) (fun t Bs=>t.1=⟨none,0,0⟩∧t.2.1=2∧Bs=[]):=by
 refine sp2 (QIq _) fun B hr=>?_;have hp:=hr.1;unfold QIq mf;dsimp only;exact QBk (by simp;omega) (QAE ⟨rfl,rfl,rfl⟩)
theorem QGC(q p:Option Addr)(l:LM):Ct Pr 41 [.pointer q] .one [.I] [QAZ q p l] emp (fun t Bs=>t.1=l.lo∧Bs=[QAZ q p l]):=by
 refine sp1 (QDI _) fun B _=>?_;unfold QDI mf;dsimp only;refine QXR 0 fun hi b s cs hq hf hs=>?_;subst hq;refine QAS (xgq (xif (fun h=>?_) (fun h=>?_)))
 ·have h0:cs.length=0:=by simp at h;omega
  have e:l.segs=[]:=List.eq_nil_of_length_eq_zero (by rw[←hf.len];exact h0);refine QAS (xgq (QAw (p:=p) (l:=l) b s cs hi (QAE ⟨?_,rfl⟩)));unfold LM.lo;rw[e]
 ·have h0:0<cs.length:=by simp at h;omega
  refine QAS (xgq ?_);refine QaE (E:=SEG) (xs:=cs) (s:=s) (h0:=by decide) (h1:=by omega) (h:=fun c hc=>?_);refine QAb (E:=SEG) (xs:=cs) hc (h:=?_);refine QAw (p:=p) (l:=l) b s cs hi (QAE ⟨?_,rfl⟩);unfold LM.lo
  cases e:l.segs with
  | nil=>have:=hf.len;rw[e,List.length_nil]at this;omega
  | cons sg r=>
   have:=hf.each 0 c sg hc (by rw[e];rfl);exact this.2.1
theorem QFB(q p:Option Addr)(l:LM):Ct Pr 39 [.pointer q] .one [.I] [QAZ q p l] emp (fun t Bs=>t.1=l.next∧Bs=[QAZ q p l]):=by
 refine QGR (φ:=QAe Pr 39 [.pointer q] .one [.I]) id fun B _=>?_;refine QXR 0 fun hi b s cs hq hf hs=>?_;subst hq;refine xcl (QFg b p l s cs hs hf hi) rdb ?_;rintro⟨t,_⟩ _ ⟨ht,rfl⟩;simp only at ht;subst ht;exact QBM (ca1 (QAw (p:=p) (l:=l) b s cs hi (QAE ⟨rfl,rfl⟩)))
theorem QNj{α:Type}{p:α→Bool}:∀{l:List α}{k:Nat}{x:α},l[k]? = some x→p x=true→(∀j y,j<k→l[j]? = some y→p y=false)→l.find? p=some x
 | [],k,x,h,_,_=>by simp at h
 | y::l,0,x,h,hp,_=>by
  obtain rfl:y=x:=by simpa using h
  simp[List.find?_cons,hp]
 | y::l,k+1,x,h,hp,hn=>by
  have h0:=hn 0 y (by omega) rfl;simp only[List.find?_cons,h0];exact QNj (k:=k) (by simpa using h) hp fun j z hj hz=>hn (j+1) z (by omega) (by simpa using hz)
theorem QX2{R:CS→Sg→HP}{cs:List CS}{ss:List Sg}{k:Nat}{c:CS}{s:Sg}(hc:cs[k]? = some c)(hs:ss[k]? = some s){g:QBh}(h:QBn [R c s,Each R (cs.eraseIdx k) (ss.eraseIdx k)] g):Each R cs ss g:=by
 have h1:=(List.getElem?_eq_some_iff.1 hc).1;have h2:=(List.getElem?_eq_some_iff.1 hs).1;have:=QDJ h1 h2 h
 have e1:cs.set k c=cs:=by
  apply List.ext_getElem?;intro j;by_cases e:k=j
  ·subst e;rw[List.getElem?_set_self h1,hc]
  ·rw[List.getElem?_set_ne e]
 have e2:ss.set k s=ss:=by
  apply List.ext_getElem?;intro j;by_cases e:k=j
  ·subst e;rw[List.getElem?_set_self h2,hs]
  ·rw[List.getElem?_set_ne e]
 rw[e1,e2]at this;exact this
theorem Qg5{cs:List CS}{ss:List Sg}{k:Nat}{c:CS}{s:Sg}{F:List HP}{φ:WP}(i:Nat)[q:Pick i As (Each QFV cs ss) F](hc:cs[k]? = some c)(hs:ss[k]? = some s)
  (h:∀rs,Ent B (Ar SL c.2.2.2 rs::Each (Ar U8) rs s.ps::Each QFV (cs.eraseIdx k) (ss.eraseIdx k)::F) φ):Ent B As φ:=by
 refine QFu i (fun Bs=>∃rs,Bs=[Ar SL c.2.2.2 rs,Each (Ar U8) rs s.ps,Each QFV (cs.eraseIdx k) (ss.eraseIdx k)]) (fun g hg=>?_) ?_
 ·have:=QCB hg hc hs;obtain⟨a,b,⟨h1,h2,h3,rs,pa⟩,pb,d,sa,sb⟩:=this;exact⟨_,⟨rs,rfl⟩,(QAj [_,_] [_]).2 ⟨a,b,pa,pb,d,sa,sb⟩⟩
 ·rintro _ ⟨rs,rfl⟩;exact h rs
theorem QbU{rs:List Sl}{c:CS}{s:Sg}(h1:c.1=s.n)(h2:c.2.1=s.first)(h3:c.2.2.1=s.size){l:List HP}{g:QBh}(h:QBn (Ar SL c.2.2.2 rs::Each (Ar U8) rs s.ps::l) g):QBn (QFV c s::l) g:=by
 obtain⟨a,b,pa,pb,d,sa,sb⟩:=(QAj [Ar SL c.2.2.2 rs,Each (Ar U8) rs s.ps] l).1 h;exact⟨a,b,⟨h1,h2,h3,rs,pa⟩,pb,d,sa,sb⟩
theorem QGc(q p:Option Addr)(l:LM)(n:Int)(hn:i64 n):Ct Pr 19 [.pointer q,.I n] (.tup [none,none]) [.slice,.I] [QAZ q p l] emp
  (fun t Bs=>t.2.1=(QHw l n).2∧Bs=[QAZ q p l,Ar U8 t.1 (QHw l n).1]):=by
 refine sp2 (QJ7 _ _) fun B _=>?_;unfold QJ7 mf;dsimp only;refine xcl (QGC q p l) rdb ?_;rintro⟨t,_⟩ _ ⟨ht,rfl⟩;simp only at ht;subst ht;refine QA8 (ca1 (QAB (fun h=>?_) (fun h=>?_)))
 ·have e:QHw l n=([],31):=by unfold QHw;rw[if_pos h]
  rw[e];exact QAd U8 (QAM [QAZ q p l,Ar U8 ⟨none,0,0⟩ []] (QAE ⟨rfl,rfl⟩))
 have hg:QHw l n=match l.segs.find? fun s=>decide (n<s.next) with
   | some s=>((s.ps[(n - s.first).toNat]?).getD [],0)
   | none=>([],6):=by unfold QHw;rw[if_neg h];rfl
 refine QXR 0 fun hi b s cs hq hf hs=>?_;subst hq;refine QAS (xgq ?_);have hfew:=hi.few;have hcl:=hf.len;refine QBV (fun m (x:Int) As'=>∃k:Nat,x=(k:Int)∧m=cs.length - k∧k≤cs.length∧(∀j y,j<k→l.segs[j]? = some y→decide (n<y.next)=false)∧As'=[Blk b (QAo p l s),Ar SEG s cs,Each QFV cs l.segs]) cs.length ⟨0,rfl,rfl,by omega,fun j y hj=>by omega,rfl⟩ ?_;rintro m x As' K ⟨k,rfl,rfl,hk,hno,rfl⟩ hK;refine QAB (fun hp=>?_) (fun hp=>?_)
 ·have hlt:k<cs.length:=by omega
  obtain⟨c,hc⟩:∃c,cs[k]? = some c:=⟨_,List.getElem?_eq_getElem hlt⟩;obtain⟨sg,hsg⟩:∃sg,l.segs[k]? = some sg:=⟨_,List.getElem?_eq_getElem (by rw[←hf.len];exact hlt)⟩;obtain⟨g1,g2,g3,g4,g5⟩:=hf.each k c sg hc hsg;obtain⟨b1,b2,b3,b4,b5⟩:=hi.segs sg (List.mem_of_getElem? hsg);refine QAI (E:=SEG) (xs:=cs) (s:=s) (h1:=hlt) (h:=fun _ _=>?_);refine QAO (E:=SEG) (xs:=cs) hc (h:=?_);iterate 3 (refine QAb (E:=SEG) (xs:=cs) hc (h:=?_))
  refine QAL fun bk=>?_;iterate 4 (refine xsq ?_)
  iterate 4 (refine xgq ?_)
  refine QAR (QGs c.1 c.2.1 c.2.2.1 c.2.2.2) rdb ?_;rintro⟨t,_⟩ _ ⟨ht,rfl⟩;simp only at ht;subst ht
  have hnx:IntKind.i64.wrap (c.2.1+(c.2.2.2.n:Int))=sg.next:=by
   rw[QAD _ (by omega) (by omega),g2,g4];rfl
  refine QAz (ca1 ?_)
  (try simp only)
  rw[hnx];refine QAB (fun h2=>?_) (fun h2=>?_)
  ·have hfind:=QNj hsg (p:=fun s=>decide (n<s.next)) (by simpa using h2) hno;rw[hfind]at hg;simp only at hg
   have hge:sg.first≤n:=by
    cases k with
    | zero=>
     have:l.lo=sg.first:=by
      unfold LM.lo
      cases e:l.segs with
      | nil=>rw[e]at hsg;simp at hsg
      | cons y r => rw[e]at hsg; obtain rfl : y = sg := by simpa using hsg
                    rfl
     rw[←this];omega
    | succ k=>
     obtain⟨y,hy⟩:∃y,l.segs[k]? = some y:=⟨_,List.getElem?_eq_getElem (by have:=(List.getElem?_eq_some_iff.1 hsg).1;omega)⟩;have:=hno k y (by omega) hy;have e:=hi.chain k y sg hy hsg;simp only[decide_eq_false_iff_not]at this;omega
   simp only[Sg.next]at h2
   have hidx:(n - sg.first).toNat<sg.ps.length:=by omega
   refine xgq (xgq ?_);rw[g2,QAD _ (by omega) (by omega),show n - sg.first=(((n - sg.first).toNat:Nat):Int) by omega]
   generalize hj:(n - sg.first).toNat=j at *
   refine QAM [Each QFV cs l.segs,Blk b (QAo p l s),Ar SEG s cs] ?_;refine Qg5 (k:=k) 0 hc hsg fun rs=>?_;refine QCC 1 (P1:=Each (Ar U8) rs sg.ps) (fun g hg=>hg.length) fun hrl=>?_;obtain⟨r,hr⟩:∃r,rs[j]? = some r:=⟨_,List.getElem?_eq_getElem (by omega)⟩;obtain⟨y,hy⟩:∃y,sg.ps[j]? = some y:=⟨_,List.getElem?_eq_getElem (by omega)⟩;have hyl:=b5 y (List.mem_of_getElem? hy);rw[hy]at hg;refine QAI (E:=SL) (xs:=rs) (s:=c.2.2.2) (h1:=by omega) (h:=fun _ _=>?_);refine QAO (E:=SL) (xs:=rs) hr (h:=?_);refine xcl (pre:=[]) (QIH r y (by omega)) (QKq 1 (fun g hg=>QDV (R:=Ar U8) (S:=fun sl row=>RAr U8 sl row) (fun _ _ _ _ h s=>h.mono s) (fun _ _ _ h=>h.read) hg hr hy) (fun _ _ h s=>h.mono s)) ?_;rintro⟨t,_⟩ _ rfl;refine QA8 (ca1 ?_);refine QBR [Ar SL c.2.2.2 rs,Each (Ar U8) rs sg.ps,Each QFV (cs.eraseIdx k) (l.segs.eraseIdx k)] (Each QFV cs l.segs) (fun g hg=>QX2 hc hsg (QbU g1 g2 g3 hg)) ?_;refine QAw (p:=p) (l:=l) b s cs hi ?_;rw[hg];exact QAM [QAZ (some ⟨b,0,none⟩) p l,Ar U8 t y] (QAE ⟨rfl,rfl⟩)
  ·rw[QAF k (by omega)];refine QAM [Blk b (QAo p l s),Ar SEG s cs,Each QFV cs l.segs] (hK _ _ _ (by omega) ⟨k+1,rfl,rfl,by omega,fun j y hj hy=>?_,rfl⟩);by_cases e:j<k
   ·exact hno j y e hy
   ·obtain rfl:j=k:=by omega
    rw[hsg]at hy;obtain rfl:=Option.some.inj hy;simpa using h2
 ·have hkl:k=l.segs.length:=by rw[←hf.len];omega
  have hfind:(l.segs.find? fun s=>decide (n<s.next))=none:=by
   rw[List.find?_eq_none];intro y hy;obtain⟨j,hj⟩:=List.mem_iff_getElem?.1 hy;have:=hno j y (by have:=(List.getElem?_eq_some_iff.1 hj).1;omega) hj;rw[this];decide
  rw[hfind]at hg;simp only at hg;rw[hg];exact QAd U8 (QAw (p:=p) (l:=l) b s cs hi (QAM [QAZ (some ⟨b,0,none⟩) p l,Ar U8 ⟨none,0,0⟩ []] (QAE ⟨rfl,rfl⟩)))
end Go.Cx
namespace Go.Cx
open Go Go.Cf
set_option linter.unusedVariables false
set_option maxRecDepth 100000
variable {B:QBG}{As F:List HP}
theorem QUA{ss:List Sg}{s:Sg}(h:ss.getLast? = some s)(p:List UInt8):Qae ss p=ss.set (ss.length - 1) { s with size:=s.size+(QAk p).length,ps:=s.ps++[p] }:=by
 unfold Qae;rw[h]
 (try simp only)
 obtain⟨r,rfl⟩:∃r,ss=r++[s]:=by
  have hne:ss≠[]:=by rintro rfl;simp at h
  refine⟨ss.dropLast,?_⟩;have:=List.dropLast_concat_getLast hne;rw[List.getLast?_eq_some_getLast hne]at h;rw[←Option.some.inj h];exact this.symm
 rw[List.dropLast_concat,List.length_append,List.length_singleton,Nat.add_sub_cancel,List.set_append_right _ _ (Nat.le_refl _),Nat.sub_self];rfl
theorem QR9(m:DM)(l:LM):(QBZ m l).2.1.segs=l.segs∧(QBZ m l).2.1.n=l.n∧(QBZ m l).2.1.first=l.first:=by
 unfold QBZ;split
 ·exact⟨rfl,rfl,rfl⟩
 split
 ·exact⟨rfl,rfl,rfl⟩
 (try simp only)
 split<;>exact⟨rfl,rfl,rfl⟩
theorem QYn{l l':LM}(h:l'.segs=l.segs)(h2:l'.first=l.first):l'.next=l.next:=by unfold LM.next LM.cur;rw[h,h2]
theorem QRP(q p:Option Addr)(m:DM)(l:LM)(s:Sl)(xs:List UInt8)(hn:l.segs=[]→l.safe=l.next)(hL:LInv (QBe m l xs).2.1) :
  Ct Pr 271 [.pointer q,s.v] (.tup [none,none]) [.I,.I] [QAZ q p l,QAC p m] ((RAr U8 s xs).and GTab)
  (fun t Bs=>t.1=(QBe m l xs).2.2.1∧t.2.1=(QBe m l xs).2.2.2∧Bs=[QAZ q p (QBe m l xs).2.1,QAC p (QBe m l xs).1]):=by
 refine sp2 (QHA _ _) fun B hr=>?_;haveI:Fro B s U8 xs:=⟨hr.1⟩;haveI:=QKc hr.2;unfold QHA mf;dsimp only;refine QXR 0 fun hi b s0 cs hq hf hs=>?_;subst hq;have hfew:=hi.few;have hcl:=hf.len;refine xcl (QMO b p m l s0) rdb ?_;rintro⟨t,_⟩ _ ⟨ht,rfl⟩;simp only at ht;subst ht;refine QBM (ca1 (xif (fun h=>?_) (fun h=>?_)))
 ·have hd:m.down=true:=by
   cases e:m.down with
   | true=>rfl
   | false=>rw[e]at h;cases h
  have e:QBe m l xs=(m,l,0,10):=by unfold QBe;rw[if_pos hd]
  rw[if_pos hd,e];exact QAw (p:=p) (l:=l) b s0 cs hi (QAE ⟨rfl,rfl,rfl⟩)
 have hd:m.down=false:=by
  cases e:m.down with
  | false=>rfl
  | true=>rw[e]at h;cases h
 by_cases hlen:xs.length>1024
 ·refine xcl (pre:=[]) (QO7 s xs hlen) rdb ?_;rintro⟨t,t1,_⟩ _ ⟨ht,ht1,rfl⟩;simp only at ht ht1;subst ht ht1;refine QAz (ca2 (QBk rfl ?_))
  have e:QBe m l xs=(m,l,0,2):=by unfold QBe;rw[if_neg (by rw[hd];decide),if_pos hlen]
  rw[e];exact QAw (p:=p) (l:=l) b s0 cs hi (QAE ⟨rfl,rfl,rfl⟩)
 refine xcl (pre:=[]) (QFe s xs (by omega)) rdb ?_;rintro⟨sb,t1,_⟩ _ ⟨ht1,rfl⟩;simp only at ht1;subst ht1;refine QA8 (ca2 (QBF rfl ?_));refine xcl (QF4 b p l s0 cs hs (by rw[hf.len];exact hi.few)) rdb ?_;rintro⟨t,_⟩ _ ⟨ht,rfl⟩;simp only at ht;subst ht;refine QBM (ca1 ?_)
 -- what the last segment says
 have hcase:(cs=[]∧l.segs=[]∧l.full=false∧l.curN=l.n)∨(∃sg c,cs≠[]∧l.segs.getLast? = some sg∧cs[cs.length - 1]? = some c∧c.1=sg.n∧c.2.1=sg.first∧c.2.2.1=sg.size∧l.full=decide (sg.size≥1024)∧l.curN=sg.n):=by
  cases hc:l.segs.getLast? with
  | none=>
   have e:=(QRy hf).2 hc;refine .inl ⟨e,List.getLast?_eq_none_iff.1 hc,?_,?_⟩
   ·unfold LM.full LM.cur;rw[hc]
   ·unfold LM.curN LM.cur;rw[hc]
  | some sg=>
   obtain⟨c,g1,g2,g3,g4,g5,g6⟩:=QKi hf hc;refine .inr ⟨sg,c,fun e=>?_,rfl,g1,g2,g3,g4,?_,?_⟩
   ·have:=(QRy hf).1 e;rw[hc]at this;cases this
   ·unfold LM.full LM.cur;rw[hc]
   ·unfold LM.curN LM.cur;rw[hc]
 have hcurN:1≤l.curN∧l.curN≤2000000000000:=by
  rcases hcase with⟨_,_,_,e⟩|⟨sg,c,_,hc,_,_,_,_,_,e⟩
  ·rw[e];exact hi.n
  ·rw[e];exact (hi.segs sg (List.mem_of_getLast? hc)).1
 have hnone:QCv (if cs=[] then none else some (s0.at 4 (cs.length - 1)))=decide (l.segs=[]):=by
  rcases hcase with⟨e,e2,_⟩|⟨sg,c,e,hc,_⟩
  ·rw[if_pos e,e2];rfl
  ·rw[if_neg e]
   have:l.segs≠[]:=by rintro e;rw[e]at hc;simp at hc
   simp[this,QCv]
 refine QAU (fun(c:Bool) As'=>c=l.full∧As'=[Blk b (QAo p l s0),Ar SEG s0 cs,Ar U8 sb (QAk xs),QAC p m,Each QFV cs l.segs]) (fun K hK=>?_) ?_
 ·rcases hcase with⟨e,e2,e3,_⟩|⟨sg,c,e,hc,hc1,g1,g2,g3,e3,_⟩
  ·rw[if_pos e];refine QBF rfl (QAM [Blk b (QAo p l s0),Ar SEG s0 cs,Ar U8 sb (QAk xs),QAC p m,Each QFV cs l.segs] (hK _ _ ⟨e3.symm,rfl⟩))
  ·rw[if_neg e];refine QBk rfl (QAS (QAb (E:=SEG) (xs:=cs) hc1 (h:=?_)));refine QAM [Blk b (QAo p l s0),Ar SEG s0 cs,Ar U8 sb (QAk xs),QAC p m,Each QFV cs l.segs] (hK _ _ ⟨?_,rfl⟩);rw[e3,g3]
 rintro c As2 ⟨rfl,rfl⟩;refine xcl (QFg b p l s0 cs hs hf hi) rdb ?_;rintro⟨t,_⟩ _ ⟨ht,rfl⟩;simp only at ht;subst ht;refine QBM (ca1 ?_);refine QAU (fun(c:Bool) As'=>c=decide (l.next≥1099511627776∨(l.full=true∧l.curN=QKW))∧As'=[Blk b (QAo p l s0),Ar SEG s0 cs,Ar U8 sb (QAk xs),QAC p m,Each QFV cs l.segs]) (fun K hK=>?_) ?_
 ·refine QAB (fun h1=>?_) (fun h1=>?_)
  ·exact QAM [Blk b (QAo p l s0),Ar SEG s0 cs,Ar U8 sb (QAk xs),QAC p m,Each QFV cs l.segs] (hK _ _ ⟨by simp[h1],rfl⟩)
  ·refine QAJ (xif (fun h2=>?_) (fun h2=>?_))
   ·rcases hcase with⟨e,e2,e3,_⟩|⟨sg,c,e,hc,hc1,g1,g2,g3,e3,e4⟩
    ·rw[e3]at h2;cases h2
    ·rw[if_neg e];refine QAS (QAO (E:=SEG) (xs:=cs) hc1 (h:=?_));refine QAM [Blk b (QAo p l s0),Ar SEG s0 cs,Ar U8 sb (QAk xs),QAC p m,Each QFV cs l.segs] (hK _ _ ⟨?_,rfl⟩);rw[g1,e4,h2,Bool.eq_iff_iff];simp[h1]
   ·refine QAM [Blk b (QAo p l s0),Ar SEG s0 cs,Ar U8 sb (QAk xs),QAC p m,Each QFV cs l.segs] (hK _ _ ⟨?_,rfl⟩);rw[h2];simp[h1]
 rintro c As2 ⟨rfl,rfl⟩;refine QAB (fun h1=>?_) (fun h1=>?_)
 ·have e:QBe m l xs=(m,l,0,12):=by unfold QBe;rw[if_neg (by rw[hd];decide),if_neg hlen,if_pos h1]
  rw[e];exact QAw (p:=p) (l:=l) b s0 cs hi (QAM [QAZ (some ⟨b,0,none⟩) p l,QAC p m] (QAE ⟨rfl,rfl,rfl⟩))
 have heq:QBe m l xs=(let y:=if l.full then QBZ m l else (m,l,0)
   if y.2.2≠0 then (y.1,y.2.1,0,y.2.2)
   else
    let n:=if l.full then l.curN+1 else l.curN
    let a:=QAK y.1 (fN n) (QAk xs)
    if a.2≠0 then (a.1,y.2.1,0,a.2)
    else
     let ss:=if l.segs=[]∨l.full=true then l.segs++[⟨n,l.next,0,[]⟩] else l.segs
     (a.1,{ y.2.1 with segs:=Qae ss xs },l.next,0)):=by
  unfold QBe;rw[if_neg (by rw[hd];decide),if_neg hlen,if_neg h1]
 refine QAS (xgq ?_);refine QAU (fun(x:Int) As'=>x=l.curN∧As'=[Blk b (QAo p l s0),Ar SEG s0 cs,Ar U8 sb (QAk xs),QAC p m,Each QFV cs l.segs]) (fun K hK=>?_) ?_
 ·rcases hcase with⟨e,e2,e3,e4⟩|⟨sg,c,e,hc,hc1,g1,g2,g3,e3,e4⟩
  ·rw[if_pos e];exact QBF rfl (hK _ _ ⟨e4.symm,rfl⟩)
  ·rw[if_neg e];refine QBk rfl (QAS (QAO (E:=SEG) (xs:=cs) hc1 (h:=?_)));exact hK _ _ ⟨by rw[g1,e4],rfl⟩
 rintro x As2 ⟨rfl,rfl⟩
 -- Sync, where the segment is full
 refine QAU (fun(x:Int) As'=>∃(m1:DM) (l1:LM),(if l.full then QBZ m l else (m,l,0))=(m1,l1,0)∧l1.segs=l.segs∧l1.n=l.n∧l1.first=l.first∧x=(if l.full then l.curN+1 else l.curN)∧As'=[QAZ (some ⟨b,0,none⟩) p l1,QAC p m1,Ar U8 sb (QAk xs)]) (fun K hK=>?_) ?_
 ·refine xif (fun h2=>?_) (fun h2=>?_)
  ·refine QAw (p:=p) (l:=l) b s0 cs hi ?_;refine xcl (QJU (some ⟨b,0,none⟩) p m l hn) rdb ?_;rintro⟨t,_⟩ _ ⟨ht,rfl⟩;simp only at ht;subst ht;rw[if_pos h2]at heq;refine QBM (ca1 (xif (fun h3=>?_) (fun h3=>?_)))
   ·have h3:(QBZ m l).2.2≠0:=by simpa using h3
    simp only at heq;rw[if_pos h3]at heq;rw[heq];exact QAM [QAZ (some ⟨b,0,none⟩) p (QBZ m l).2.1,QAC p (QBZ m l).1] (QAE ⟨rfl,rfl,rfl⟩)
   ·have h3:(QBZ m l).2.2=0:=by simpa using h3
    obtain⟨k1,k2,k3⟩:=QR9 m l;rw[QAD _ (by omega) (by omega)];refine QAM [QAZ (some ⟨b,0,none⟩) p (QBZ m l).2.1,QAC p (QBZ m l).1,Ar U8 sb (QAk xs)] (hK _ _ ⟨_,_,?_,k1,k2,k3,by rw[if_pos h2],rfl⟩);rw[if_pos h2,←h3]
  ·refine QAw (p:=p) (l:=l) b s0 cs hi ?_;refine QAM [QAZ (some ⟨b,0,none⟩) p l,QAC p m,Ar U8 sb (QAk xs)] (hK _ _ ⟨m,l,by rw[if_neg (by rw[h2];decide)],rfl,rfl,rfl,by rw[if_neg (by rw[h2];decide)],rfl⟩)
 rintro (n5:Int) As2 ⟨m1,l1,hy,hs1,hn1,hf1,hn5,rfl⟩;rw[hy]at heq;rw[←hn5]at heq;simp only[ne_eq,not_true_eq_false,if_false]at heq
 have hn5b:1≤n5∧n5≤2000000000001:=by
  obtain⟨c1,c2⟩:=hcurN;rw[hn5];cases l.full
  ·rw[if_neg (by decide)];omega
  ·rw[if_pos rfl];omega
 refine QAP (QAS ?_);refine QXR 0 fun hi1 b' s1 cs1 hq hfl1 hsl1=>?_
 obtain rfl:b=b':=by cases hq;rfl
 have hfew1:=hi1.few;have hcl1:=hfl1.len;refine xgq ?_;refine QV3 (by omega) (by omega) (QC7 (h:=?_));refine xcl (QHp p m1 (fN n5) sb (QAk xs)) rdb ?_;rintro⟨t,_⟩ _ ⟨ht,rfl⟩;simp only at ht;subst ht;refine QA8 (ca1 (xif (fun h2=>?_) (fun h2=>?_)))
 ·have h2:¬(QAK m1 (fN n5) (QAk xs)).2=0:=by simpa using h2
  rw[if_pos h2]at heq;rw[heq];refine QAw (p:=p) (l:=l1) b s1 cs1 hi1 ?_;exact QAM [QAZ (some ⟨b,0,none⟩) p l1,QAC p (QAK m1 (fN n5) (QAk xs)).1] (QAE ⟨rfl,rfl,rfl⟩)
 have h2:(QAK m1 (fN n5) (QAk xs)).2=0:=by simpa using h2
 rw[if_neg (by rw[h2];simp)]at heq
 generalize (QAK m1 (fN n5) (QAk xs)).1=m2 at *
 have hnx:=QYn hs1 hf1;refine xcl (QFg b p l1 s1 cs1 hsl1 hfl1 hi1) rdb ?_;rintro⟨t,_⟩ _ ⟨ht,rfl⟩;simp only at ht;subst ht;rw[hnx];refine QBM (ca1 ?_);have hsbl:sb.n=(QAk xs).length→True:=fun _=>trivial;refine QCn sb fun hsb _=>?_
 replace hsb:(QAk xs).length=sb.n:=hsb
 have hfl:=QRz xs;refine QBx (fun As'=>∃(s2:Sl) (cs2:List CS) (ss:List Sg),ss=(if l.segs=[]∨l.full=true then l.segs++[⟨n5,l.next,0,[]⟩] else l.segs)∧As'=[Blk b (QAo p l1 s2),Ar SEG s2 cs2,Each QFV cs2 ss,QAC p m2]) (fun K hK=>?_) ?_
 ·have hcond:(QCv (if cs=[] then none else some (s0.at 4 (cs.length - 1)))||l.full)=decide (l.segs=[]∨l.full=true):=by
   rw[hnone];cases l.full<;>simp
  rw[hcond];refine QAB (fun h3=>?_) (fun h3=>?_)
  ·refine QAS (xgq (QAL fun b1=>?_));refine QEQ (E:=SEG) ((n5,l.next,(0:Int),⟨none,0,0⟩):CS) (hb:=by omega) (h:=fun s2=>QAS (xsq ?_));refine QAd SL ?_;refine QYz (A:=Each (Ar U8) [] []) trivial ?_;refine QBR [Each QFV cs1 l1.segs,Ar SL ⟨none,0,0⟩ [],Each (Ar U8) [] []] (Each QFV (cs1++[(n5,l.next,(0:Int),⟨none,0,0⟩)]) (l1.segs++[⟨n5,l.next,0,[]⟩])) (fun g hg=>QEV (QBA (l:=[Ar SL ⟨none,0,0⟩ [],Each (Ar U8) [] []]) (fun h hh=>QCd ⟨rfl,rfl,rfl,[],hh⟩) hg)) ?_;refine QAM [Blk b (QAo p l1 s2),Ar SEG s2 (cs1++[(n5,l.next,(0:Int),⟨none,0,0⟩)]),Each QFV (cs1++[(n5,l.next,(0:Int),⟨none,0,0⟩)]) (l1.segs++[⟨n5,l.next,0,[]⟩]),QAC p m2] (hK _ ⟨s2,_,_,?_,rfl⟩);rw[if_pos h3,hs1]
  ·refine QAM [Blk b (QAo p l1 s1),Ar SEG s1 cs1,Each QFV cs1 l1.segs,QAC p m2] (hK _ ⟨s1,cs1,l1.segs,by rw[if_neg h3,hs1],rfl⟩)
 rintro As2 ⟨s2,cs2,ss,hss,rfl⟩;rw[←hss]at heq
 have hssn:ss≠[]:=by
  rw[hss];split
  ·simp
  ·rename_i h3
   exact fun e=>h3 (.inl e)
 have hssl:ss.length≤65:=by
  rw[hss];split
  ·rw[List.length_append,List.length_singleton];omega
  ·omega
 refine QCC 2 (P1:=Each QFV cs2 ss) (fun g hg=>Qe4 hg) fun hf2=>?_;refine QCn s2 fun hs2 _=>?_
 replace hs2:cs2.length=s2.n:=hs2
 have hcl2:=hf2.len;have hL2:=hL;rw[heq]at hL2
 have hsslen:ss.length≤64:=by
  have:=hL2.few;obtain⟨sg,hsg⟩:∃sg,ss.getLast? = some sg:=⟨_,List.getLast?_eq_some_getLast hssn⟩;simp only at this;rw[QUA hsg,List.length_set]at this;exact this
 refine xcl (QF4 b p l1 s2 cs2 hs2.symm (by omega)) rdb ?_;rintro⟨t,_⟩ _ ⟨ht,rfl⟩;simp only at ht;subst ht;have hne2:cs2≠[]:=fun e=>hssn (List.eq_nil_of_length_eq_zero (by rw[←hcl2,e];rfl));obtain⟨sg,hsg⟩:∃sg,ss.getLast? = some sg:=⟨_,List.getLast?_eq_some_getLast hssn⟩;obtain⟨c,g1,g2,g3,g4,g5,g6⟩:=QKi hf2 hsg
 have hsgk:ss[cs2.length - 1]? = some sg:=by rw[hcl2];exact QFi hsg
 have hlt:=(List.getElem?_eq_some_iff.1 g1).1
 have hbnd:(0≤sg.size∧sg.size≤16777216)∧(sg.ps.length:Int)≤sg.size:=by
  have hm:=List.mem_of_getLast? hsg;rw[hss]at hm;have inl:sg∈l.segs→(0≤sg.size∧sg.size≤16777216)∧(sg.ps.length:Int)≤sg.size:=fun hm=>⟨(hi.segs sg hm).2.2.1,(hi.segs sg hm).2.2.2.1⟩;split at hm
  ·rcases List.mem_append.1 hm with hm|hm
   ·exact inl hm
   ·obtain rfl:=List.mem_singleton.1 hm;simp
  ·exact inl hm
 refine QBM (ca1 ?_);rw[if_neg hne2];refine QAS (QAb (E:=SEG) (xs:=cs2) g1 (h:=QAS ?_));rw[g4,QAD _ (by omega) (by omega)];refine QCr (E:=SEG) (xs:=cs2) ((c.1,c.2.1,sg.size+(sb.n:Int),c.2.2.2):CS) g1 rfl (by decide) rfl ?_
 have g1':(cs2.set (cs2.length - 1) ((c.1,c.2.1,sg.size+(sb.n:Int),c.2.2.2):CS))[cs2.length - 1]? = some ((c.1,c.2.1,sg.size+(sb.n:Int),c.2.2.2):CS):=by
  rw[List.getElem?_set_self hlt]
 generalize hk:cs2.length - 1=k at *
 refine QAP (QAS (QAb (E:=SEG) (xs:=cs2.set k ((c.1,c.2.1,sg.size+(sb.n:Int),c.2.2.2):CS)) g1' (h:=?_)));refine xcl (pre:=[]) (QIH s xs (by omega)) rdb ?_;rintro⟨s4,_⟩ _ rfl;refine QA8 (ca1 (QUM (E:=SEG) (xs:=cs2.set k ((c.1,c.2.1,sg.size+(sb.n:Int),c.2.2.2):CS)) g1' (h:=QAL fun b1=>?_)));refine QAM [Each QFV cs2 ss,Blk b1 [s4.v],Ar U8 s4 xs,Ar SEG s2 (cs2.set k ((c.1,c.2.1,sg.size+(sb.n:Int),c.2.2.2):CS)),Blk b (QAo p l1 s2),QAC p m2] ?_;refine Qg5 (k:=k) 0 g1 hsgk fun rs=>?_;refine QCC 1 (P1:=Each (Ar U8) rs sg.ps) (fun g hg=>hg.length) fun hrl=>?_;refine QEQ (E:=SL) s4 (hb:=by omega) (h:=fun s5=>QAS ?_);refine QCr (E:=SEG) (xs:=cs2.set k ((c.1,c.2.1,sg.size+(sb.n:Int),c.2.2.2):CS)) ((c.1,c.2.1,sg.size+(sb.n:Int),s5):CS) g1' rfl (by decide) rfl ?_;rw[List.set_set];have hadd:=QUA hsg xs
 have hkk:ss.length - 1=k:=by rw[←hcl2];exact hk
 rw[hkk]at hadd;rw[heq];refine QBR [Ar SL s5 (rs++[s4]),Each (Ar U8) rs sg.ps,Ar U8 s4 xs,Each QFV (cs2.eraseIdx k) (ss.eraseIdx k)] (Each QFV (cs2.set k ((c.1,c.2.1,sg.size+(sb.n:Int),s5):CS)) (Qae ss xs)) (fun g hg=>?_) ?_
 ·rw[hadd];refine QDJ hlt (by have:=(List.getElem?_eq_some_iff.1 hsgk).1;exact this) ?_
  have h1:QBn [Ar SL s5 (rs++[s4]),Each (Ar U8) (rs++[s4]) (sg.ps++[xs]),Each QFV (cs2.eraseIdx k) (ss.eraseIdx k)] g:=by
   refine QBA (l:=[Each (Ar U8) rs sg.ps,Ar U8 s4 xs,Each QFV (cs2.eraseIdx k) (ss.eraseIdx k)]) (fun h hh=>?_) hg;obtain⟨a,e,pa,pb,d,sa,sb'⟩:=(QAj [Each (Ar U8) rs sg.ps,Ar U8 s4 xs] [Each QFV (cs2.eraseIdx k) (ss.eraseIdx k)]).1 hh;exact⟨a,e,QEV pa,pb,d,sa,sb'⟩
  obtain⟨a,e,pa,pb,d,sa,sb'⟩:=(QAj [Ar SL s5 (rs++[s4]),Each (Ar U8) (rs++[s4]) (sg.ps++[xs])] [Each QFV (cs2.eraseIdx k) (ss.eraseIdx k)]).1 h1;exact⟨a,e,⟨g2,g3,by simp only;rw[hsb],_,pa⟩,pb,d,sa,sb'⟩
 refine QAw (p:=p) (l:={ l1 with segs:=Qae ss xs }) b s2 (cs2.set k ((c.1,c.2.1,sg.size+(sb.n:Int),s5):CS)) hL2 ?_;exact QAM [QAZ (some ⟨b,0,none⟩) p { l1 with segs:=Qae ss xs },QAC p m2] (QAE ⟨rfl,rfl,rfl⟩)
end Go.Cx
