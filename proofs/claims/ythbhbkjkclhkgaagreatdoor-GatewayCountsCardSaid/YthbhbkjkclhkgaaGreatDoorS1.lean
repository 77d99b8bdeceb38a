/-
The library's functions by the kit's contracts, in the words of these rules (what is drawn is kept).
-/
import Derived.Test.YthbhbkjkclhkgaaGreatDoorH
import Derived.Test.YthbhbkjkclhkgaaGreatDoorA4
import Derived.Test.YthbhbkjkclhkgaaGreatDoorSL
import Derived.Test.YthbhbkjkclhkgaaGreatDoorA3
import Derived.Test.YthbhbkjkclhkgaaGreatDoorDK
set_option linter.unusedSimpArgs false
namespace Go.Cx
open Go Go.Cf
set_option linter.unusedVariables false
set_option maxRecDepth 100000
variable {B:QBJ}{As:List HP}
theorem Sx.below{w w':World}(h:Sx B As w)(hb:Go.RowKit.Below w.heap.size w w')(f:w.drawn<=w'.drawn):Sx B As w':=by
 obtain⟨g,c,d,a⟩:=h;refine⟨g,c,fun k o e=>?_,hb.os.trans a.os,hb.tape.trans a.tape,hb.output.trans a.output,Oq a.drawn f,Oq a.size hb.size,fun k b h0=>⟨?_,(a.old k b h0).2⟩⟩
 ·have:=d k o e;show w'.heap[k]? = some o;rw[hb.block k (W9.1 this).1];exact this
 ·rw[hb.block k (Ug b a.size)];exact (a.old k b h0).1
theorem QYw(w:World)(n:Nat)(os:Array Obj):Go.RowKit.Below w.heap.size w (Go.Sort.grow (w.drewN n) os):=
 ⟨rfl,rfl,rfl,by simp[Go.Sort.grow,World.drewN],fun k a=>by
  show (w.heap++os)[k]? = _
  rw[Ud a]⟩
/-- A call whose contract is the kit's, and that changes nothing that was there. -/
theorem QQE{P:Program}{f:FuncId}{args:Ad}{rs:Rs}{ss:List Sh}{rd:HP}{post:Tup ss->List HP->Prop}{t:Tup ss}
  (l:post t []) (h:∀w:World,rd (mem w)->Calls P f args.toArray w fun e w'=>e=.returned (rs.mk (Tup.vals ss t))/\Go.RowKit.Below w.heap.size w w'/\w.drawn<=w'.drawn)
  (mono:∀g f,rd g->Sub g f->rd f):Ct P f args rs ss [] rd post:=by
 intro w g c d i;refine (h w (mono _ _ i fun k o a=>?_)).mono ?_
 ·unfold frz at a
  cases b:g k with
  | some _=>rw[b]at a;cases a
  | none=>rw[b]at a;exact a
 ·rintro e w' ⟨he,hb,j⟩;exact⟨t,[],he,l,Sx.below (Sx.start (pre:=[]) c d) hb j⟩
def Qjt(n:Int):ByteArray:=⟨(Lib.itoa n).toArray⟩
/-- The library's table of powers of ten, as it lies. -/
def GTab:HP:=fun h=>∃e fr,h 1=some (.cells (Lib.pow10Tab.map fun z=>Value.int .u64 z).toArray e fr)
theorem GTab.mono:∀g f,GTab g->Sub g f->GTab f:=fun _ _ ⟨e,fr,h⟩ s=>⟨e,fr,s _ _ h⟩
theorem QKj{B:QBJ}(h:GTab (frz B.W B.h0)):Qhj B GTab:=⟨h,fun _ _ h s=>GTab.mono _ _ h s⟩
theorem globTab:Pr.globalNamed "internal/strconv.uint64pow10" = some 1:=Kr
theorem GTab.tab{w:World}(h:GTab (mem w)):Lib.TabIs Pr w "internal/strconv.uint64pow10" .u64 Lib.pow10Tab:=by
 obtain⟨e,fr,h⟩:=h
 have a:w.heap[1]? = some _:=h
 show w.var? Pr _=_
 unfold World.var?
 rw[globTab]
 simp only[Option.bind_some,a]
theorem Qau(n:Int)(h0 : -9223372036854775808<=n)(h1:n<=9223372036854775807):Ct Pr 259 [.I n] .one [.str] [] GTab (fun t Bs=>t.1=Qjt n/\Bs=[]):=
 QQE (t:=(Qjt n,())) ⟨rfl,rfl⟩ (fun w b=>(Go.Proofs.Tryz.strconv_Itoa n h0 h1 w b.tab).mono fun e w' ⟨he,k,os,a⟩=>⟨he,a ▸ QYw w k os,a ▸ Ue _ _⟩) GTab.mono
theorem QOH(s p:ByteArray):Ct Pr 260 [.string s,.string p] (.tup [none,none]) [.str,.bool] [] emp (fun t Bs=>t.1=⟨(Lib.trimPrefix s.data.toList p.data.toList).toArray⟩/\t.2.1=Lib.hasPrefix s.data.toList p.data.toList/\Bs=[]):=
 QQE (t:=(⟨(Lib.trimPrefix s.data.toList p.data.toList).toArray⟩,Lib.hasPrefix s.data.toList p.data.toList,())) ⟨rfl,rfl,rfl⟩ (fun w _=>(Go.Proofs.Tryz.strings_CutPrefix s p w).mono fun e w' ⟨he,a⟩=>⟨he,a ▸ Go.RowKit.Below.refl _ _,a ▸ Wt _⟩) (fun _ _ h _=>h)
theorem Qir(xs:List ByteArray):QAi Cf.ST xs=xs.map Value.string:=by
 induction xs with
 | nil=>rfl
 | cons x xs ih=>show _++QAi Cf.ST xs=_;rw[ih];rfl
section
open Go.Proofs Go.Shelf Go.RowKit
variable {P:Program}{ρ:Ren}
theorem QYv(L:Lays.n160 P ρ)(d:(P.info? (ρ.t 116)).map (fun i=>(i.zero,i.size))=some (some (.agg (Array.replicate 256 (.bool false))),256))(s c:ByteArray)(w:World)(g:s.size<=9223372036854775807)(m:c.size<4294967281)(k:∀(j:Nat) b,c.data.toList[j]? = some b->b.toNat<128) :
  Calls P (ρ.f 160) #[.string s,.string c] w fun e w'=>e=.returned (.string ⟨(Lib.trimS s.data.toList c.data.toList).toArray⟩)/\Below w.heap.size w w'/\w.drawn<=w'.drawn:=by
 by_cases h:s.size=0\/c.size=0
 ·refine (Any.strings_Trim_empty L s c w h).mono fun e w' ⟨h1,a⟩=>⟨?_,a ▸ Below.refl _ _,a ▸ Wt _⟩;rw[h1];rcases h with h|h
  ·have hl:s.data.toList=[]:=Wm (by rw[<-Lib.size_eq];exact h);rw[hl];congr 2;rw[<-Lib.mk_data s,hl];rfl
  ·have hl:c.data.toList=[]:=Wm (by rw[<-Lib.size_eq];exact h);rw[hl,show Lib.trimS s.data.toList []=s.data.toList from by unfold Lib.trimS;rw[Lib.trimRightS_none,Lib.trimLeftS_none],Lib.mk_data]
 by_cases h1:c.size=1
 ·match hh:c.data.toList,(Lib.size_eq c).symm.trans h1 with
  | [b],_=>
   have l:c=⟨#[b]⟩:=by rw[<-Lib.mk_data c,hh]
   rw[Lib.trimS_one,l]
   exact (Any.strings_Trim_one L s b (k 0 b (by rw[hh];rfl)) w g).mono fun e w' ⟨h1,a⟩=>⟨h1,by
    rcases a with rfl|rfl
    ·exact⟨Below.refl _ _,Wt _⟩
    ·exact⟨(Below.refl _ _).drew,Kl _⟩⟩
 ·refine (Any.strings_Trim_set L (zero_of_info d).1 (zero_of_info d).2 s c w Om Om g m k).mono fun e w' ⟨h1,q,a⟩=>⟨h1,?_⟩;subst a;exact⟨(((Below.refl _ _).alloc (Wt _) _).alloc (by simp) _).trans ⟨rfl,rfl,rfl,Wt _,fun _ _=>rfl⟩,Ue _ _⟩
end
theorem QbX(s p:ByteArray)(c:s.size<=4611686018427387904)(d:p.size<1000)(a:p.data.toList.all (fun b=>decide (b.toNat<128))=true):Ct Pr 261 [.string s,.string p] .one [.str] [] emp (fun t Bs=>t.1=⟨(Lib.trimS s.data.toList p.data.toList).toArray⟩/\Bs=[]):=
 QQE (t:=(⟨(Lib.trimS s.data.toList p.data.toList).toArray⟩,())) ⟨rfl,rfl⟩ (fun w _=>QYv Go.Proofs.Tryz.lays160 Kr s p w Om Om (fun _ b hb=>Ox (Ot.1 a b (Wp hb)))) (fun _ _ h _=>h)
end Go.Cx
namespace Go.Cx
open Go Go.Cf
set_option linter.unusedVariables false
set_option maxRecDepth 100000
variable {B:QBJ}{As F:List HP}
theorem QZ7(n:Int)(h0:0<=n)(h1:n<=4398046511104):Ct Pr 175 [.I n] .one [.str] [] GTab (fun t Bs=>t.1=fN n/\Bs=[]):=by
 refine sp1 (QSY _) fun B a=>?_;haveI:=QKj a;unfold QSY mf;dsimp only;refine QAS (Qau n Om Om) rdb ?_;rintro⟨t,_⟩ _ ⟨b,rfl⟩;obtain rfl:t=BA (Lib.itoa n):=b;have hl:=QcP (n:=n) Om Om;refine QA2 (ca1 (QBA ?_ (QAD ⟨?_,rfl⟩)))
 ·rw[QU1,show (⟨#[108,111,103,45]⟩:ByteArray).size=4 from rfl];omega
 ·rw[show (⟨#[108,111,103,45]⟩:ByteArray)=BA preL from rfl,QhD];rfl
theorem QUV{n:Int}{K:ByteArray->WP}[r:Rdb B As GTab](h0:0<=n)(h1:n<=4398046511104)(h:Ent B As (K (fN n))):Ent B As (QAX Pr 175 [.I n] .one [.str] K):=by
 refine QAS (QZ7 n h0 h1) rdb ?_;rintro⟨t,_⟩ _ ⟨a,rfl⟩;obtain rfl:t=fN n:=a;exact QA2 (ca1 h)
abbrev CS:=Int×Int×Int×Sl
def SEG:Enc CS:=⟨fun x=>[.I x.1,.I x.2.1,.I x.2.2.1,x.2.2.2.v],4,fun _=>rfl,fun x v h=>by simp at h;rcases h with rfl|rfl|rfl|rfl<;>rfl,Dc,(0,0,0,⟨none,0,0⟩)⟩
def QEf(c:CS)(s:Sg):HP:=fun h=>c.1=s.n/\c.2.1=s.first/\c.2.2.1=s.size/\Qhg c.2.2.2 s.ps h
abbrev QAe(p:Ac)(l:LM)(s:Sl):Ad:=[.pointer p,.I l.n,.I l.first,s.v,.I l.safe]
def QAQ(q p:Ac)(l:LM):HP:=fun h=>LInv l/\∃b s cs,q=some ⟨b,0,none⟩/\QBr [Blk b (QAe p l s),Ar SEG s cs,Each QEf cs l.segs] h
structure LF(cs:List CS)(ss:List Sg):Prop where
 len:cs.length=ss.length
 each:∀(i:Nat) (c:CS) (s:Sg),cs[i]? = some c->ss[i]? = some s->c.1=s.n/\c.2.1=s.first/\c.2.2.1=s.size/\c.2.2.2.n=s.ps.length/\c.2.2.2.n<=c.2.2.2.c
theorem QZ0{s:Sl}{ps:List Ab}{h:QBs}(g:Qhg s ps h):s.n=ps.length/\s.n<=s.c:=by
 obtain⟨rs,a,b,⟨zs,e⟩,⟨c,d,f,_⟩,_⟩:=g;have:=Each.length f;exact⟨by rw[<-e.1];exact this,e.cap⟩
theorem Qh9{cs:List CS}{ss:List Sg}{g:QBs}(h:Each QEf cs ss g):LF cs ss:=
 ⟨h.length,fun i c s a b=>QD0 (R:=QEf) (S:=fun c s _=>c.1=s.n/\c.2.1=s.first/\c.2.2.1=s.size/\c.2.2.2.n=s.ps.length/\c.2.2.2.n<=c.2.2.2.c) (fun _ _ _ _ h _=>h) (fun x y g ⟨h1,d,e,f⟩=>⟨h1,d,e,QZ0 f⟩) h a b⟩
theorem QZQ(i:Nat){q p:Ac}{l:LM}{F:List HP}[r:Pick i As (QAQ q p l) F]{φ:WP}
  (k:LInv l->∀b s cs,q=some ⟨b,0,none⟩->LF cs l.segs->s.n=cs.length->Ent B (Blk b (QAe p l s)::Ar SEG s cs::Each QEf cs l.segs::F) φ):Ent B As φ:=by
 refine Ent.perm r.perm ?_;intro w f;obtain⟨g,⟨a,c,⟨hi,b,s,cs,h,e⟩,j,d,m,o⟩,t,u⟩:=f
 have hl:LF cs l.segs/\s.n=cs.length:=by
  obtain⟨_,_,_,⟨_,_,⟨_,v⟩,⟨_,_,x,_⟩,_⟩,_⟩:=e;exact⟨Qh9 x,v.1.symm⟩
 exact k hi b s cs h hl.1 hl.2 w ⟨g,(QAl [_,_,_] F).2 ⟨a,c,e,j,d,m,o⟩,t,u⟩
theorem QAw(b:Nat)(s:Sl)(cs:List CS){p:Ac}{l:LM}{G:List HP}[q:Split [Blk b (QAe p l s),Ar SEG s cs,Each QEf cs l.segs] As G]{φ:WP}
  (hi:LInv l) (k:Ent B (QAQ (some ⟨b,0,none⟩) p l::G) φ):Ent B As φ:=
 QBO [Blk b (QAe p l s),Ar SEG s cs,Each QEf cs l.segs] (QAQ (some ⟨b,0,none⟩) p l) (fun g a=>⟨hi,b,s,cs,rfl,a⟩) k
theorem QHu(a b c:Int)(s:Sl):Ct Pr 51 [.agg #[.I a,.I b,.I c,s.v]] .one [.I] [] emp (fun t Bs=>t.1=IntKind.i64.wrap (b+s.n)/\Bs=[]):=by
 refine sp1 (QF2 _ _ _ _) fun B _=>?_;unfold QF2 mf;dsimp only;refine QAL fun b=>xgq (xgq ?_);exact QAd (l:=[]) (QAD ⟨rfl,rfl⟩)
theorem QGo(b:Nat)(p:Ac)(l:LM)(s:Sl)(cs:List CS)(d:s.n=cs.length)(hl:cs.length<=64):Ct Pr 103 [.pointer (some ⟨b,0,none⟩)] .one [.ptr] [Blk b (QAe p l s),Ar SEG s cs] emp
  (fun t Bs=>t.1=(if cs=[] then none else some (s.at 4 (cs.length - 1)))/\Bs=[Blk b (QAe p l s),Ar SEG s cs]):=by
 refine sp1 (QG5 _) fun B _=>?_;unfold QG5 mf;dsimp only;refine QAO (xgq (xif (fun h=>QAD ⟨?_,rfl⟩) (fun h=>?_)))
 ·have:cs=[]:=Wm (by simp at h;omega);rw[We this]
 have a:cs≠[]:=fun e=>by subst e;simp at d;simp[d]at h
 have f:0<cs.length:=Km.2 a;refine QAP (QAO (xgq (QAO (xgq ?_))));rw[QAC _ Om Om,show (s.n:Int) - 1=((cs.length - 1:Nat):Int) by omega];refine QAH (E:=SEG) (xs:=cs) (s:=s) (h1:=Om) (h:=fun c hc=>QAD ⟨?_,rfl⟩);rw[Wb a]
theorem QL6{cs:List CS}{ss:List Sg}(h:LF cs ss){s:Sg}(b:ss.getLast? = some s):∃c,cs[cs.length - 1]? = some c/\c.1=s.n/\c.2.1=s.first/\c.2.2.1=s.size/\c.2.2.2.n=s.ps.length/\c.2.2.2.n<=c.2.2.2.c:=by
 have h1:=QGr b;have a:=(Wc.1 h1).1;have hc:=Wa (l:=cs) (i:=cs.length - 1) (by rw[h.len];exact a);exact⟨_,hc,h.each _ _ _ hc (by rw[h.len];exact h1)⟩
theorem QSV{cs:List CS}{ss:List Sg}(h:LF cs ss):cs=[]↔ss.getLast? = none:=by
 rw[Kj];have:=h.len;constructor
 ·rintro rfl;exact Wm (Si this.symm)
 ·rintro rfl;exact Wm (Si this)
theorem QGm(b:Nat)(p:Ac)(l:LM)(s:Sl)(cs:List CS)(j:s.n=cs.length)(d:LF cs l.segs)(hi:LInv l):Ct Pr 39 [.pointer (some ⟨b,0,none⟩)] .one [.I] [Blk b (QAe p l s),Ar SEG s cs] emp
  (fun t Bs=>t.1=l.next/\Bs=[Blk b (QAe p l s),Ar SEG s cs]):=by
 refine sp1 (QJl _) fun B _=>?_;unfold QJl mf;dsimp only;have i:=hi.few;refine xcl (QGo b p l s cs j (by rw[d.len];exact i)) rdb ?_;rintro⟨t,_⟩ _ ⟨a,rfl⟩;simp only at a;subst a;refine QBK (ca1 ?_)
 cases hc:l.segs.getLast? with
 | none=>
  rw[We ((QSV d).2 hc)];refine QBH rfl (QAO (xgq (QAD ⟨?_,rfl⟩)));unfold LM.next LM.cur;rw[hc]
 | some sg=>
  rw[Wb (fun e=>by have:=(QSV d).1 e;rw[hc]at this;cases this)];obtain⟨c,h1,k,f,m,g,o⟩:=QL6 d hc;obtain⟨q,r,g3,g4,_⟩:=hi.segs sg (Zo hc);refine QCC rfl (QAO ?_);refine QAN (E:=SEG) (xs:=cs) h1 (h:=?_);iterate 3 (refine QAa (E:=SEG) (xs:=cs) h1 (h:=?_))
  refine QAS (QHu _ _ _ c.2.2.2) rdb ?_;rintro⟨t,_⟩ _ ⟨a,rfl⟩;simp only at a;subst a;refine QA2 (ca1 (QAD ⟨?_,rfl⟩))
  (try simp only)
  rw[QAC _ Om Om,f,g];unfold LM.next LM.cur;rw[hc];rfl
theorem QUv{p:Ac}{m:DM}{g:QBs}(h:QAA p m g):∃b,p=some ⟨b,0,none⟩:=by
 obtain⟨_,b,_,_,e,_⟩:=h;exact⟨b,e⟩
theorem QMz(b:Nat)(p:Ac)(m:DM)(l:LM)(s:Sl):Ct Pr 202 [.pointer (some ⟨b,0,none⟩)] .one [.I] [Blk b (QAe p l s),QAA p m] emp
  (fun t Bs=>t.1=(if m.down=true then 10 else 0)/\Bs=[Blk b (QAe p l s),QAA p m]):=by
 refine sp1 (QIQ _) fun B _=>?_;unfold QIQ mf;dsimp only;refine QAO (xgq ?_);refine QB6 1 (P1:=QAA p m) (fun g a=>QUv a) fun ⟨d,e⟩=>?_;subst e;refine QAO ?_;refine xcl (QJW (some ⟨d,0,none⟩) m) rdb ?_;rintro⟨c,_⟩ _ ⟨hc,rfl⟩;obtain rfl:c=m.down:=hc;refine QAz (ca1 (QFt 1 (xif (fun h=>QAD ⟨by rw[We h],rfl⟩) (fun h=>QAD ⟨by rw[Wb (by rw[h];decide)],rfl⟩))))
theorem QKm(q p:Ac)(m:DM)(l:LM)(hn:l.segs=[]->l.safe=l.next):Ct Pr 132 [.pointer q] .one [.I] [QAQ q p l,QAA p m] GTab
  (fun t Bs=>t.1=(QBP m l).2.2/\Bs=[QAQ q p (QBP m l).2.1,QAA p (QBP m l).1]):=by
 refine sp1 (QJR _) fun B k=>?_;haveI:=QKj k;unfold QJR mf;dsimp only;refine QZQ 0 fun hi b s cs o g j=>?_;subst o;refine xcl (QMz b p m l s) rdb ?_;rintro⟨t,_⟩ _ ⟨a,rfl⟩;simp only at a;subst a;refine QBK (ca1 (xif (fun h=>?_) (fun h=>?_)))
 ·have i:m.down=true:=by
   cases e:m.down with
   | true=>rfl
   | false=>rw[e]at h;cases h
  refine QAw (p:=p) (l:=l) b s cs hi ?_;rw[We i]
  have e:QBP m l=(m,l,10):=by unfold QBP;rw[We i]
  rw[e];exact QAD ⟨rfl,rfl⟩
 have i:m.down=false:=by
  cases e:m.down with
  | false=>rfl
  | true=>rw[e]at h;cases h
 refine QAP (QAO (xgq ?_));refine xcl (QGm b p l s cs j g hi) rdb ?_;rintro⟨t,_⟩ _ ⟨a,rfl⟩;simp only at a;subst a;refine QBK (ca1 (QDK (h:=xif (fun h1=>?_) (fun h1=>?_))))
 ·have h1:l.safe=l.next:=Si h1
  have e:QBP m l=(m,l,0):=by unfold QBP;rw[Wb (by rw[i];decide),We h1]
  rw[e];exact QAw (p:=p) (l:=l) b s cs hi (QAD ⟨rfl,rfl⟩)
 have h1:¬l.safe=l.next:=Si h1
 refine QAP (QAO (xgq ?_));refine xcl (QGo b p l s cs j (by rw[g.len];exact hi.few)) rdb ?_;rintro⟨t,_⟩ _ ⟨a,rfl⟩;simp only at a;subst a;refine QBK (ca1 (QDK (h:=?_)));have v:l.segs≠[]:=fun e=>h1 (hn e);obtain⟨d,hc⟩:∃d,l.segs.getLast? = some d:=⟨_,Zz v⟩;rw[Wb (fun e=>by have:=(QSV g).1 e;rw[hc]at this;cases this)];obtain⟨c,r,u,g3,g4,w,x⟩:=QL6 g hc;obtain⟨y,z,A,C,_⟩:=hi.segs d (Zo hc);refine QAO (QAN (E:=SEG) (xs:=cs) r (h:=?_));rw[u];refine QUV Om Om (QDK (h:=?_));refine xcl (QE0 p m (fN d.n)) rdb ?_;rintro⟨t,_⟩ _ ⟨a,rfl⟩;simp only at a;subst a
 have e:QBP m l=if (QA0 m (fN d.n)).2≠0 then ((QA0 m (fN d.n)).1,l,(QA0 m (fN d.n)).2) else ((QA0 m (fN d.n)).1,{ l with safe:=l.next },0):=by
  unfold QBP LM.cur;rw[Wb (by rw[i];decide),Wb h1,hc];rfl
 rw[e];refine QAz (ca1 (xif (fun f=>?_) (fun f=>?_)))
 ·have f:(QA0 m (fN d.n)).2≠0:=Si f
  rw[We f];exact QAw (p:=p) (l:=l) b s cs hi (QAD ⟨rfl,rfl⟩)
 ·have f:¬(QA0 m (fN d.n)).2≠0:=Si f
  rw[Wb f];refine xcl (QGm b p l s cs j g hi) rdb ?_;rintro⟨t,_⟩ _ ⟨a,rfl⟩;simp only at a;subst a;refine QBK (ca1 (QAO (xsq ?_)));have hb:=hi.next;exact QAw (p:=p) (l:={ l with safe:=l.next }) b s cs ⟨hi.n,hi.first,hi.segs,hi.few,by simp only;omega,hi.chain⟩ (QAD ⟨rfl,rfl⟩)
end Go.Cx
namespace Go.Cx
open Go Go.Cf
set_option linter.unusedVariables false
set_option maxRecDepth 100000
variable {B:QBJ}{As F:List HP}
theorem QSl(p:Ac)(m:DM)(nm:ByteArray):Ct Pr 173 [.pointer p,.string nm] .one [.I] [QAA p m] emp (fun t Bs=>t.1=(QAj m nm).2/\Bs=[QAA p (QAj m nm).1]):=by
 refine sp1 (QSP _ _) fun B _=>?_;unfold QSP mf;dsimp only;refine xcl (QFA p m nm) rdb ?_;rintro⟨t,_⟩ _ ⟨a,rfl⟩;simp only at a;subst a;unfold QAj;refine QAz (ca1 (xif (fun h=>?_) (fun h=>?_)))
 ·have h:¬(QAJ m nm).2=6:=Si h
  rw[Wb h];exact QAD ⟨rfl,rfl⟩
 ·have h:(QAJ m nm).2=6:=Si h
  rw[We h];exact QAD ⟨rfl,rfl⟩
theorem QRo(v:Nat)(h:v<=9223372036854775807):IntKind.i64.wrap (v:Int)=v:=QAC _ Om Om
theorem QRK(p:Ac)(m:DM):Ct Pr 174 [.pointer p] (.tup [none,none,none]) [.I,.I,.I] [QAA p m] emp
  (fun t Bs=>t.1=(QDM m).1/\t.2.1=(QDM m).2.1/\t.2.2.1=(QDM m).2.2/\Bs=[QAA p m]):=by
 refine sp3 (QKN _) fun B _=>?_;unfold QKN mf;dsimp only;refine QB6 0 (P1:=QAA p m) (fun g i=>i.1) fun hI=>?_;have J:=QQy hI headN;refine xcl (QKL p m headN) rdb ?_;rintro⟨s,r,_⟩ _ ⟨l,rfl⟩;simp only at l;subst l;unfold QDM;refine QBK (ca2 (xif (fun h=>?_) (fun h=>?_)))
 ·have h:(QAc m headN).2≠0:=Si h
  rw[We h];exact QAK [QAA p m] (QAD ⟨rfl,rfl,rfl,rfl⟩)
 have h:¬(QAc m headN).2≠0:=Si h
 rw[Wb h];refine QCl s fun c w=>?_
 replace c:(QAc m headN).1.length=s.n:=c
 refine xcl (pre:=[]) (QGi s (QAc m headN).1 Om w) rdb ?_;rintro⟨b,E,G,_⟩ _ ⟨h1,o,rfl⟩;simp only at h1 o;subst h1 o
 generalize hx:(QAc m headN).1=xs at *
 generalize i:QBX xs=D at *
 obtain⟨a,u,e⟩:=D;refine QAz (ca3 ?_);refine QCl b fun j k=>?_
 replace j:a.length=b.n:=j
 replace c:xs.length=s.n:=c
 have A:(((e != 0)||(((u:Nat):Int) != (s.n:Int)))||(((b.n:Int)) != 16))=decide (e≠0\/u≠xs.length\/a.length≠16):=by
  rw[Oo];simp only[Oz,On,ne_eq,Wq];omega
 (try simp only)
 rw[A];refine QAB (fun d=>?_) (fun d=>?_)
 ·rw[We d];exact QAK [QAA p m] (QAD ⟨rfl,rfl,rfl,rfl⟩)
 rw[Wb d]
 have K:a.length=16:=by
  by_cases e:a.length=16
  ·exact e
  ·exact absurd (.inr (.inr e)) d
 refine xcl (pre:=[]) (QHd b a 0 Om Om k) rdb ?_;rintro⟨x,z,_⟩ _ ⟨q,_,rfl⟩;simp only at q;subst q;refine QA2 (ca2 ?_);refine xcl (pre:=[]) (QHd b a 8 Om Om k) rdb ?_;rintro⟨y,H,_⟩ _ ⟨v,_,rfl⟩;simp only at v;subst v;refine QA2 (ca2 ?_)
 have C:(((decide (((beV (QLo a 0):Nat):Int)<1))||(decide (((beV (QLo a 0):Nat):Int)>999999999999)))||(decide (((beV (QLo a 8):Nat):Int)>1099511627776)))=decide (beV (QLo a 0)<1\/beV (QLo a 0)>999999999999\/beV (QLo a 8)>1099511627776):=by
  rw[Oo];simp only[Oz,Wq];omega
 rw[C];refine QAB (fun f=>?_) (fun f=>?_)
 ·rw[We f];exact QAK [QAA p m] (QAD ⟨rfl,rfl,rfl,rfl⟩)
 ·rw[Wb f,QRo _ Om,QRo _ Om];exact QAK [QAA p m] (QAD ⟨rfl,rfl,rfl,rfl⟩)
theorem QEY{α:Type}(p:α->Bool):∀l:List α,(l.dropWhile p=[]↔l.all p=true)
 | []=>by simp
 | x::l=>by
  simp only[List.dropWhile_cons,List.all_cons,Wf];split
  ·rename_i h;rw[QEY p l];simp[h]
  ·rename_i h;simp[h]
theorem QIe{α:Type}(p:α->Bool):∀(l:List α) x r,l.dropWhile p=x::r->p x=false
 | [],x,r,h=>by simp at h
 | y::l,x,r,h=>by
  rw[List.dropWhile_cons]at h;split at h
  ·exact QIe p l x r h
  ·rename_i a
   obtain⟨rfl,_⟩:=List.cons.inj h;simpa using a
theorem Qdo(d cs:Ab):Lib.trimS d cs=[]↔d.all (cs.contains ·)=true:=by
 unfold Lib.trimS Lib.trimLeftS Lib.trimRightS;rw[QEY,List.all_reverse]
 cases e:d.reverse.dropWhile (cs.contains ·) with
 | nil=>
  have:=(QEY (cs.contains ·) d.reverse).1 e;rw[List.all_reverse]at this;simp only[List.all_nil,true_iff];exact this
 | cons x r=>
  have hx:=QIe _ _ _ _ e;simp only[List.all_cons,hx,Bool.false_and];constructor
  ·intro h;cases h
  ·intro h;rw[<-List.all_reverse,<-QEY,e]at h;cases h
theorem QSs(b:UInt8):([48,49,50,51,52,53,54,55,56,57]:Ab).contains b=QP8 b:=by
 have:∀n:Fin 256,([48,49,50,51,52,53,54,55,56,57]:Ab).contains (UInt8.ofNat n.val)=QP8 (UInt8.ofNat n.val):=Dc
 have h:=this ⟨b.toNat,b.toNat_lt⟩;simpa using h
theorem QUc(s:ByteArray)(K:s.size<=4096):Ct Pr 179 [.string s] .one [.bool] [] emp (fun t Bs=>t.1=QE8 s.data.toList/\Bs=[]):=by
 refine sp1 (QMi _) fun B J=>?_;unfold QMi mf;dsimp only;refine QAS (QOH s _) rdb ?_;rintro⟨t,c,_⟩ _ ⟨j,hc,rfl⟩;have u:(⟨#[108,111,103,45]⟩:ByteArray).data.toList=preL:=rfl;rw[u]at j hc;simp only at j hc
 have hsz:s.data.toList.length=s.size:=by rw[Zy];rfl
 generalize s.data.toList=l at *
 refine QA2 (ca2 ?_);have a:∀{As:List HP}{c:Bool},c=QE8 l->Ent B As (Ret B (ss:=[.bool]) (fun t Bs=>t.1=QE8 l/\Bs=[]) (c,())):=fun {As}{c} h=>QAd (l:=[]) (QAD ⟨h,rfl⟩)
 cases f:Lib.hasPrefix l preL with
 | false=>
  rw[f]at hc;subst hc;refine QAM (QBH rfl (QAM (QBH rfl (QAM (QBH rfl (a ?_))))));symm;unfold QE8;simp only[Uc,Lf,Wx,U1];refine .inl (.inl (.inr fun e=>?_))
  have:preL.isPrefixOf l=true:=by
   rw[List.isPrefixOf_iff_prefix,<-e];exact List.take_prefix _ _
  unfold Lib.hasPrefix at f;rw[this]at f;cases f
 | true=>
  rw[f]at hc;subst hc
  obtain⟨d,rfl⟩:∃d,l=preL++d:=by
   unfold Lib.hasPrefix at f;rw[List.isPrefixOf_iff_prefix]at f;obtain⟨d,g⟩:=f;exact⟨d,g.symm⟩
  have v:t=BA d:=by
   rw[j];unfold Lib.trimPrefix;rw[We f,Z0];rfl
  subst v;have i:preL.length=4:=rfl
  have w:QE8 (preL++d)=(!(d == [])&&decide (d.length<=12) && !(d[0]? == some 48)&&d.all QP8):=by
   unfold QE8
   have h1:(preL++d).take 4=preL:=by rw[<-i,Lg]
   have z:(preL++d).drop 4=d:=by rw[<-i,Z0]
   have A:(preL++d)[4]? = d[0]?:=by rw[Wr Om,i]
   have C:(decide (5<=(preL++d).length)) = !(d == []):=by
    rw[Wd,i,Oo]
    cases d with
    | nil=>simp
    | cons y r=>simp;omega
   have D:decide ((preL++d).length<=16)=decide (d.length<=12):=by
    rw[Wd,i,Oo];simp only[Wq];omega
   rw[h1,z,A,C,D];simp
  have a:=fun {As:List HP}{c:Bool}(h:c=(!(d == [])&&decide (d.length<=12) && !(d[0]? == some 48)&&d.all QP8))=>a (As:=As) (h.trans w.symm)
  have E:((BA d).toList == ByteArray.empty.toList)=(d == []):=by rw[QCq,QKY]
  refine QAM (QCC rfl ?_);rw[E];rw[QU1]
  have G:((decide ((d.length:Int)<=12)):Bool)=decide (d.length<=12):=by
   rw[Oo];simp only[Wq];omega
  rw[G]
  cases g:d with
  | nil=>
   subst g;refine QAM (QBH rfl (QAM (QBH rfl (a rfl))))
  | cons y r=>
   rw[<-g]
   have o:d[0]? = some y:=by rw[g];rfl
   have p:(d == [])=false:=by rw[g];rfl
   rw[p,o]at a;rw[p]
   have H:((y.toNat:Int) != 48) = !((some y:Option UInt8) == some 48):=by
    rw[Oo];simp only[On,ne_eq,W2,U1,Wg];constructor
    ·rintro h rfl;exact h rfl
    ·intro h e
     exact h (Z8.1 (by have : y.toNat = 48 := Om;exact this))
   cases m:decide (d.length<=12) with
   | false=>
    rw[m]at a;exact QAM (QBH rfl (QAM (QBH rfl (a rfl))))
   | true=>
    rw[m]at a;refine QAM (QCC rfl (Qip (k:=0) rfl (by rw[QQY];exact o) ?_));rw[H];refine QAM (xif (fun h=>?_) (fun h=>a ?_))
    ·rw[h]at a;refine QAS (QbX (BA d) _ (by rw[QU1];simp at m;omega) Dc Dc) rdb ?_;rintro⟨q,_⟩ _ ⟨n,rfl⟩;have I:(⟨#[48,49,50,51,52,53,54,55,56,57]⟩:ByteArray).data.toList=[48,49,50,51,52,53,54,55,56,57]:=rfl;rw[QQY,I]at n;obtain rfl:q=BA (Lib.trimS d [48,49,50,51,52,53,54,55,56,57]):=n;refine QA2 (ca1 (a ?_));rw[QCq,QKY,Oo,Zq,Qdo]
     have:d.all (fun x=>([48,49,50,51,52,53,54,55,56,57]:Ab).contains x)=d.all QP8:=by
      congr 1;funext b;exact QSs b
     rw[this];simp
    ·rw[h];rfl
theorem QXY(c:CS)(a:Nat)(nm:ByteArray)(h0:0<=c.1)(h1:c.1<=4398046511104):Ct Pr 181 [.agg #[.I c.1,.I c.2.1,.I c.2.2.1,c.2.2.2.v],.pointer (some ⟨a,0,none⟩)] .one [.bool] [Blk a [.string nm]] GTab
  (fun t Bs=>t.1=(fK c.1 == nm.toList)/\Bs=[Blk a [.string nm]]):=by
 refine sp1 (QMD _ _ _ _ _) fun B d=>?_;haveI:=QKj d;unfold QMD mf;dsimp only;refine QAL fun b=>QAP (xgq (xgq ?_));refine QUV h0 h1 (QDK (h:=?_));exact QAK [Blk a [.string nm]] (QAD ⟨rfl,rfl⟩)
theorem QSo(a:Nat)(nm:ByteArray)(s:Sl)(cs:List CS)(ss:List Sg)(d:LF cs ss)(A:s.n=cs.length)(hl:ss.length<=64)(hb:∀x∈ss,1<=x.n/\x.n<=2000000000000) :
  Ct Pr 180 [s.v,.func (.func 181) #[] #[.pointer (some ⟨a,0,none⟩)]] .one [.bool] [Blk a [.string nm],Ar SEG s cs] GTab
  (fun t Bs=>t.1=(ss.any fun x=>fK x.n == nm.toList)/\Bs=[Blk a [.string nm],Ar SEG s cs]):=by
 refine sp1 (QA3 _ _) fun B g=>?_;haveI:=QKj g;unfold QA3 mf;dsimp only
 have idx:Ct Pr 262 [s.v,.func (.func 181) #[] #[.pointer (some ⟨a,0,none⟩)]] .one [.I] [Blk a [.string nm],Ar SEG s cs] GTab
   (fun t Bs=>(decide (t.1>=0):Bool)=(ss.any fun x=>fK x.n == nm.toList)/\Bs=[Blk a [.string nm],Ar SEG s cs]):=by
  refine sp1 (QA9 _ _) fun B g=>?_;haveI:=QKj g;unfold QA9 mf;dsimp only;refine QBa (fun n i As=>∃k:Nat,i=(k:Int)/\n=cs.length - k/\k<=cs.length/\((ss.take k).any fun x=>fK x.n == nm.toList)=false/\As=[Blk a [.string nm],Ar SEG s cs]) cs.length ⟨0,rfl,rfl,Om,rfl,rfl⟩ ?_;rintro n _ _ K ⟨k,rfl,rfl,r,m,rfl⟩ p;refine QAB (fun h=>?_) (fun h=>?_)
  ·have b:k<cs.length:=Om
   have hx:=Wa b;have f:=Wa (l:=ss) (i:=k) (by rw[<-d.len];exact b);obtain⟨o,u,g3,g4,w⟩:=d.each k _ _ hx f;have y:=hb _ (Wp f)
   generalize cs[k]=c at *
   generalize z:ss[k]'(by rw[<-d.len];exact b)=sg at *
   refine QAH (E:=SEG) (xs:=cs) (s:=s) (h1:=b) (h:=fun _ _=>?_);refine QAN (E:=SEG) (xs:=cs) hx (h:=?_);iterate 3 (refine QAa (E:=SEG) (xs:=cs) hx (h:=?_))
   refine xcl (QXY c a nm Om Om) rdb ?_;rintro⟨t,_⟩ _ ⟨e,rfl⟩;simp only at e;subst e
   have q:ss.take (k+1)=ss.take k++[sg]:=by rw[Og,f];rfl
   refine QAz (ca1 (xif (fun j=>?_) (fun j=>?_)))
   ·refine QAD ⟨?_,rfl⟩
    have:ss.any (fun x=>fK x.n == nm.toList)=true:=by
     refine List.any_eq_true.2 ⟨sg,Wp f,?_⟩;rw[<-o];exact j
    rw[this];simp
   ·rw[QAE k (by rw[d.len]at b;omega)];refine p (cs.length - (k+1)) _ _ Om ⟨k+1,rfl,rfl,Om,?_,rfl⟩;rw[q,List.any_append,m];simp only[List.any_cons,List.any_nil,Lo,Bool.false_or];rw[<-o];exact j
  ·have:k=ss.length:=by rw[<-d.len];omega
   rw[this,Wn (Wt _)]at m;refine QAD ⟨?_,rfl⟩;rw[m];rfl
 refine xcl idx rdb ?_;rintro⟨t,_⟩ _ ⟨e,rfl⟩;exact QBK (ca1 (QAD ⟨e,rfl⟩))
end Go.Cx
namespace Go.Cx
open Go Go.Cf
set_option linter.unusedVariables false
set_option maxRecDepth 100000
variable {B:QBJ}{As F:List HP}
theorem QZW{m:DM}(h:(QAj m newN).2≠0):QD8 m=((QAj m newN).1,none,(QAj m newN).2):=by unfold QD8;rw[We h]
theorem QZp{m:DM}(h:¬(QAj m newN).2≠0)(a:(QDM (QAj m newN).1).2.2≠0):QD8 m=((QAj m newN).1,none,(QDM (QAj m newN).1).2.2):=by unfold QD8;rw[Wb h];simp only[We a]
theorem QbE{m:DM}(h:¬(QAj m newN).2≠0)(a:¬(QDM (QAj m newN).1).2.2≠0){m':DM}{l:LM}{e:Int}(b:QNI 70 (QAj m newN).1 (QDM (QAj m newN).1).1 ⟨(QDM (QAj m newN).1).1,(QDM (QAj m newN).1).2.1,[],0⟩=(m',l,e))(he:e≠0):QD8 m=(m',none,e):=by
 unfold QD8;rw[Wb h];simp only[Wb a,b,We he]
theorem QbT{m:DM}(h:¬(QAj m newN).2≠0)(a:¬(QDM (QAj m newN).1).2.2≠0){m':DM}{l:LM}(b:QNI 70 (QAj m newN).1 (QDM (QAj m newN).1).1 ⟨(QDM (QAj m newN).1).1,(QDM (QAj m newN).1).2.1,[],0⟩=(m',l,0)){w:DM×Int}(c:QDO l (m'.fs.map (·.nm)) m'=w) :
  QD8 m=if w.2≠0 then (w.1,none,w.2) else (w.1,some { l with safe:=l.next },0):=by
 unfold QD8;rw[Wb h];simp only[Wb a,b,c];rfl
def openPost(p:Ac)(m:DM):Tup [.ptr,.I]->List HP->Prop:=fun t Bs=>
 (∃l b,(QD8 m).2.1=some l/\(QD8 m).2.2=0/\t.1=some ⟨b,0,none⟩/\t.2.1=0/\Bs=[QAQ (some ⟨b,0,none⟩) p l,QAA p (QD8 m).1]) \/
 ((QD8 m).2.1=none/\(QD8 m).2.2≠0/\t.1=none/\t.2.1=(QD8 m).2.2/\Bs=[QAA p (QD8 m).1])
theorem QXU{l:LM}{a:List ByteArray}{k:Nat}{nm:ByteArray}{m:DM}(h:a[k]? = some nm) :
  QDO l (a.drop k) m=if QTb l nm then QDO l (a.drop (k+1)) m else if (QAJ m nm).2≠0 then QAJ m nm else QDO l (a.drop (k+1)) (QAJ m nm).1:=by
 have b:=(Wc.1 h).1;rw[Ws b,(Wc.1 h).2];rfl
theorem QYX(p:Ac)(m:DM):Ct Pr 116 [.pointer p] (.tup [none,none]) [.ptr,.I] [QAA p m] GTab (openPost p m):=by
 refine sp2 (QTV _) fun B c1=>?_;haveI:=QKj c1;unfold QTV mf;dsimp only;refine xcl (QSl p m newN) rdb ?_;rintro⟨t,_⟩ _ ⟨a,rfl⟩;simp only at a;subst a;refine QAz (ca1 (xif (fun h=>?_) (fun h=>?_)))
 ·have h:(QAj m newN).2≠0:=Si h
  have e:=QZW h;exact QAD (.inr ⟨by rw[e],by rw[e];exact h,rfl,by rw[e],by rw[e]⟩)
 have h1:¬(QAj m newN).2≠0:=Si h
 refine xcl (QRK p (QAj m newN).1) rdb ?_;rintro⟨t,d5,t2,_⟩ _ ⟨a,b4,b5,rfl⟩;simp only at a b4 b5;subst a b4 b5;refine QAz (ca3 (xif (fun h=>?_) (fun h=>?_)))
 ·have h:(QDM (QAj m newN).1).2.2≠0:=Si h
  have e:=QZp h1 h;exact QAD (.inr ⟨by rw[e],by rw[e];exact h,rfl,by rw[e],by rw[e]⟩)
 have q:¬(QDM (QAj m newN).1).2.2≠0:=Si h
 have b7:=fun {m' l e} a8 he=>QbE (m:=m) h1 q (m':=m') (l:=l) (e:=e) a8 he;have c7:=fun {m' l} a8 {w} c2=>QbT (m:=m) h1 q (m':=m') (l:=l) a8 (w:=w) c2;have hb:=QNB (QAj m newN).1 (Si q);refine QB6 0 (P1:=QAA p (QAj m newN).1) (fun g N=>N.1) fun hI=>?_
 generalize e1:(QAj m newN).1=a6 at *
 generalize e2:(QDM a6).1=n0 at *
 generalize e3:(QDM a6).2.1=f0 at *
 obtain⟨a0,a4⟩:=hb;have b8:=ReadI.start (n0:=n0) hI a4
 generalize d0:QNI 70 a6 n0 ⟨n0,f0,[],0⟩=c0 at *
 refine QAL fun b=>?_;refine QAf SEG ?_;refine QZM (A:=Each QEf [] []) trivial ?_;refine QBO [Blk b [.pointer p,.I n0,.I f0,.slice none 0 0,.I 0],Ar SEG ⟨none,0,0⟩ [],Each QEf [] []] (QAQ (some ⟨b,0,none⟩) p ⟨n0,f0,[],0⟩) (fun g N=>⟨b8.linv a0 a4,b,⟨none,0,0⟩,[],rfl,N⟩) ?_;refine QAV (fun(c3:Int) As'=>∃(m':DM) (l':LM),c0=(m',l',0)/\ReadI n0 f0 m' l'/\As'=[QAQ (some ⟨b,0,none⟩) p l',QAA p m']) (fun K T=>?_) ?_
 ·refine QBa (fun O (n:Int) As'=>∃(m':DM) (l':LM),n=n0+l'.segs.length/\O+l'.segs.length=70/\c0=QNI O m' n l'/\ReadI n0 f0 m' l'/\As'=[QAQ (some ⟨b,0,none⟩) p l',QAA p m']) 70 ⟨a6,⟨n0,f0,[],0⟩,by simp,rfl,Si d0.symm,b8,rfl⟩ ?_;rintro O n As' c5 ⟨m',l',rfl,d6,j,R,rfl⟩ a3;have c8:=R.few a0.1;obtain⟨O,rfl⟩:∃k,O=k+1:=⟨O - 1,Om⟩;have c9:=QQy R.inv (fN (n0+l'.segs.length));refine QUV Om Om ?_;refine xcl (QKL p m' (fN (n0+l'.segs.length))) rdb ?_;rintro⟨s,r,_⟩ _ ⟨b6,rfl⟩;simp only at b6;subst b6;rw[QNI]at j;refine QBK (ca2 (xif (fun H=>?_) (fun H=>?_)))
  ·have H:(QAc m' (fN (n0+l'.segs.length))).2≠0:=Si H
   rw[We H]at j;exact QAK [QAQ (some ⟨b,0,none⟩) p l',QAA p m'] (T _ _ ⟨m',l',j,R,rfl⟩)
  have H:¬(QAc m' (fN (n0+l'.segs.length))).2≠0:=Si H
  rw[Wb H]at j;have a5:=R.more a0.1 (Si H);refine QCl s fun a' c4=>?_
  replace a':(QAc m' (fN (n0+l'.segs.length))).1.length=s.n:=a'
  refine xcl (pre:=[]) (QSr s (QAc m' (fN (n0+l'.segs.length))).1 c9 c4) rdb ?_;rintro⟨y,d7,_⟩ _ ⟨J,rs,rfl⟩;simp only at J;subst J;have d9:=QL2 (QAc m' (fN (n0+l'.segs.length))).1;have D:QEb m' (n0+l'.segs.length)=(let t:=if (QAx (QAc m' (fN (n0+l'.segs.length))).1).2<(QAc m' (fN (n0+l'.segs.length))).1.length then QBc m' (fN (n0+l'.segs.length)) (QAx (QAc m' (fN (n0+l'.segs.length))).1).2 else (m',0);if t.2≠0 then t else QA0 t.1 (fN (n0+l'.segs.length))):=rfl
  generalize e4:(QAc m' (fN (n0+l'.segs.length))).1=S at *
  generalize d1:(QAx S).1=z at *
  generalize d2:(QAx S).2=u at *
  simp only[d1,d2]at j;simp only at D;refine QBK (ca2 ?_);refine QBh (fun As'=>∃M:DM,QEb m' (n0+l'.segs.length)=QA0 M (fN (n0+l'.segs.length))/\As'=[QAQ (some ⟨b,0,none⟩) p l',QAA p M,Ar SL y rs,Each (Ar U8) rs z]) (fun d3 b0=>?_) ?_
  ·refine QAB (fun J=>?_) (fun J=>?_)
   ·replace J:u<S.length:=Om
    rw[We J]at D;refine QUV Om Om ?_;refine xcl (QJy p m' (fN (n0+l'.segs.length)) (u:Int)) rdb ?_;rintro⟨t,_⟩ _ ⟨a,rfl⟩;simp only at a;subst a;refine QAz (ca1 (xif (fun d=>?_) (fun d=>?_)))
    ·have d:(QBc m' (fN (n0+l'.segs.length)) (u:Int)).2≠0:=Si d
     rw[We d]at D;rw[D,We d]at j;have e:=b7 j d;exact QAK [QAA p (QBc m' (fN (n0+l'.segs.length)) (u:Int)).1] (QAD (.inr ⟨by rw[e],by rw[e];exact d,rfl,by rw[e],by rw[e]⟩))
    ·have d:¬(QBc m' (fN (n0+l'.segs.length)) (u:Int)).2≠0:=Si d
     rw[Wb d]at D;exact QAK [QAQ (some ⟨b,0,none⟩) p l',QAA p (QBc m' (fN (n0+l'.segs.length)) (u:Int)).1,Ar SL y rs,Each (Ar U8) rs z] (b0 _ ⟨_,D,rfl⟩)
   ·replace J:¬u<S.length:=Om
    rw[Wb J]at D;rw[Wb (by simp)]at D;exact QAK [QAQ (some ⟨b,0,none⟩) p l',QAA p m',Ar SL y rs,Each (Ar U8) rs z] (b0 _ ⟨_,D,rfl⟩)
  rintro As2 ⟨M,c6,rfl⟩;rw[c6]at j a5;refine QUV Om Om ?_;refine xcl (QE0 p M (fN (n0+l'.segs.length))) rdb ?_;rintro⟨t,_⟩ _ ⟨a,rfl⟩;simp only at a;subst a;refine QAz (ca1 (xif (fun d=>?_) (fun d=>?_)))
  ·have d:(QA0 M (fN (n0+l'.segs.length))).2≠0:=Si d
   rw[We d]at j;have e:=b7 j d;exact QAK [QAA p (QA0 M (fN (n0+l'.segs.length))).1] (QAD (.inr ⟨by rw[e],by rw[e];exact d,rfl,by rw[e],by rw[e]⟩))
  have d:¬(QA0 M (fN (n0+l'.segs.length))).2≠0:=Si d
  rw[Wb d]at j
  generalize (QA0 M (fN (n0+l'.segs.length))).1=a7 at *
  refine QAP (QAO ?_);refine QZQ 1 fun hi U Q cs V L W=>?_
  obtain rfl:b=U:=by cases V;rfl
  refine xgq ?_;refine xcl (QGm b p l' Q cs W L hi) rdb ?_;rintro⟨t,_⟩ _ ⟨a,rfl⟩;simp only at a;subst a;refine QBK (ca1 (QDK (h:=QAL fun d4=>?_)))
  have d':cs.length<=64:=by rw[L.len];exact c8
  refine QE4 (E:=SEG) ((n0+l'.segs.length,l'.next,(u:Int),y):CS) (hb:=Om) (h:=fun a1=>QAO (xsq ?_));have b9:=a5.linv a0 a4;refine QBO [Blk b (QAe p { l' with segs:=l'.segs++[⟨n0+l'.segs.length,l'.next,(u:Int),z⟩] } a1),Ar SEG a1 (cs++[(n0+l'.segs.length,l'.next,(u:Int),y)]),Each QEf cs l'.segs,Ar SL y rs,Each (Ar U8) rs z] (QAQ (some ⟨b,0,none⟩) p { l' with segs:=l'.segs++[⟨n0+l'.segs.length,l'.next,(u:Int),z⟩] }) (fun g N=>⟨b9,b,a1,cs++[(n0+l'.segs.length,l'.next,(u:Int),y)],rfl,?_⟩) ?_
  ·refine QBC (l:=[Ar SEG a1 (cs++[(n0+l'.segs.length,l'.next,(u:Int),y)]),Each QEf cs l'.segs,Ar SL y rs,Each (Ar U8) rs z]) (fun h X=>?_) N;refine QBC (l:=[Each QEf cs l'.segs,Ar SL y rs,Each (Ar U8) rs z]) (fun h X=>?_) X;refine QCe (QEn ?_);exact QBC (l:=[Ar SL y rs,Each (Ar U8) rs z]) (fun h X=>QCe ⟨rfl,rfl,rfl,rs,X⟩) X
  refine QAB (fun Y=>?_) (fun Y=>?_)
  ·replace Y:u<S.length:=Om
   rw[We Y]at j;exact QAK [QAQ (some ⟨b,0,none⟩) p { l' with segs:=l'.segs++[⟨n0+l'.segs.length,l'.next,(u:Int),z⟩] },QAA p a7] (T _ _ ⟨a7,_,j,a5,rfl⟩)
  ·replace Y:¬u<S.length:=Om
   rw[Wb Y]at j;rw[QAC _ Om Om];exact QAK [QAQ (some ⟨b,0,none⟩) p { l' with segs:=l'.segs++[⟨n0+l'.segs.length,l'.next,(u:Int),z⟩] },QAA p a7] (a3 O _ _ Om ⟨a7,_,by simp;omega,by simp;omega,j,a5,rfl⟩)
 rintro c3 As2 ⟨m',l',j,R,rfl⟩;have b9:=R.linv a0 a4;have G:=c7 j rfl;refine QB6 1 (P1:=QAA p m') (fun g N=>N.1) fun b1=>?_;have b':=b1.len
 have c':∀nm∈m'.fs.map (·.nm),nm.size<=16:=by
  intro nm Z;obtain⟨f,L,rfl⟩:=Uz.1 Z;have:=b1.names f L;unfold QDN at this;simp only[Wf,Wq]at this;omega
 refine xcl (QYU p m') rdb ?_;rintro⟨C,_⟩ _ rfl;refine QBK (ca1 ?_)
 have b':(m'.fs.map (·.nm)).length<=64:=by rw[O3];exact b'
 generalize e5:m'.fs.map (·.nm)=i at *
 refine QCl C fun b2 _=>?_
 replace b2:i.length=C.n:=b2
 refine QAK [QAQ (some ⟨b,0,none⟩) p l',QAA p m',Ar Cf.ST C i] ?_;refine QBa (fun b3 (x:Int) As'=>∃(k:Nat) (o:DM),x=(k:Int)/\b3=i.length - k/\k<=i.length/\QDO l' i m'=QDO l' (i.drop k) o/\As'=[QAQ (some ⟨b,0,none⟩) p l',QAA p o,Ar Cf.ST C i]) i.length ⟨0,m',rfl,rfl,Om,rfl,rfl⟩ ?_;rintro b3 x As' K ⟨k,o,rfl,rfl,d8,v,rfl⟩ T;refine QAB (fun a9=>?_) (fun a9=>?_)
 ·have a9:k<i.length:=Om
  refine QAH (E:=Cf.ST) (xs:=i) (s:=C) (h1:=a9) (h:=fun nm Z=>?_);refine QAN (E:=Cf.ST) (xs:=i) Z (h:=QAL fun a2=>xsq (xgq ?_));have hsz:=c' nm (Wp Z);rw[QXU Z]at v;refine QAS (QUc nm Om) rdb ?_;rintro⟨c,_⟩ _ ⟨hc,rfl⟩;obtain rfl:c=QE8 nm.data.toList:=hc;refine QA2 (ca1 ?_);refine QAV (fun(c:Bool) As'=>c = !(QTb l' nm)/\As'=[QAQ (some ⟨b,0,none⟩) p l',QAA p o,Ar Cf.ST C i,Blk a2 [.string nm]]) (fun c5 a3=>?_) ?_
  ·refine xif (fun h=>?_) (fun h=>?_)
   ·refine QZQ 1 fun hi U Q cs V L W=>?_
    obtain rfl:b=U:=by cases V;rfl
    refine QAO (xgq ?_);refine xcl (QSo a2 nm Q cs l'.segs L W hi.few (fun x hx=>(hi.segs x hx).1)) rdb ?_;rintro⟨t,_⟩ _ ⟨a,rfl⟩;simp only at a;subst a;refine QBK (ca1 (QAw (p:=p) (l:=l') b Q cs hi ?_));refine QAK [QAQ (some ⟨b,0,none⟩) p l',QAA p o,Ar Cf.ST C i,Blk a2 [.string nm]] (a3 _ _ ⟨?_,rfl⟩);unfold QTb;rw[h];rfl
   ·refine QAK [QAQ (some ⟨b,0,none⟩) p l',QAA p o,Ar Cf.ST C i,Blk a2 [.string nm]] (a3 _ _ ⟨?_,rfl⟩);unfold QTb;rw[h];rfl
  rintro c As2 ⟨rfl,rfl⟩;refine QAM (xif (fun h=>?_) (fun h=>?_))
  ·have h:¬QTb l' nm=true:=Si h
   rw[Wb h]at v;refine xgq ?_;refine xcl (QFA p o nm) rdb ?_;rintro⟨t,_⟩ _ ⟨a,rfl⟩;simp only at a;subst a;refine QAz (ca1 (xif (fun q=>?_) (fun q=>?_)))
   ·have q:(QAJ o nm).2≠0:=Si q
    rw[We q]at v;rw[v,We q]at G;exact QAK [QAA p (QAJ o nm).1] (QAD (.inr ⟨by rw[G],by rw[G];exact q,rfl,by rw[G],by rw[G]⟩))
   ·have q:¬(QAJ o nm).2≠0:=Si q
    rw[Wb q]at v;rw[QAE k Om];exact QAK [QAQ (some ⟨b,0,none⟩) p l',QAA p (QAJ o nm).1,Ar Cf.ST C i] (T _ _ _ Om ⟨k+1,_,rfl,rfl,Om,v,rfl⟩)
  ·have h:QTb l' nm=true:=Si h
   rw[We h]at v;rw[QAE k Om];exact QAK [QAQ (some ⟨b,0,none⟩) p l',QAA p o,Ar Cf.ST C i] (T _ _ _ Om ⟨k+1,o,rfl,rfl,Om,v,rfl⟩)
 ·obtain rfl:k=i.length:=Om
  rw[List.drop_length]at v;have v:QDO l' i m'=(o,0):=v;rw[v,Wb (by simp)]at G;refine QZQ 0 fun hi U Q cs V L W=>?_
  obtain rfl:b=U:=by cases V;rfl
  refine xcl (QGm b p l' Q cs W L hi) rdb ?_;rintro⟨t,_⟩ _ ⟨a,rfl⟩;simp only at a;subst a;refine QBK (ca1 (QAO (xsq ?_)));have e0:=hi.next;refine QAw (p:=p) (l:={ l' with safe:=l'.next }) b Q cs ⟨hi.n,hi.first,hi.segs,hi.few,by simp only;omega,hi.chain⟩ ?_;refine QAK [QAQ (some ⟨b,0,none⟩) p { l' with safe:=l'.next },QAA p o] (QAD (.inl ⟨_,b,by rw[G],by rw[G],rfl,rfl,by rw[G]⟩))
end Go.Cx
namespace Go.Cx
open Go Go.Cf
set_option linter.unusedVariables false
set_option maxRecDepth 100000
variable {B:QBJ}{As F:List HP}
theorem QQc(p:Sl)(xs:Ab)(c:1024<xs.length):Ct Pr 192 [p.v] (.tup [none,none]) [.slice,.I] [] (RAr U8 p xs) (fun t Bs=>t.1=⟨none,0,0⟩/\t.2.1=2/\Bs=[]):=by
 refine sp2 (QJx _) fun B a=>?_;have b:=a.1;unfold QJx mf;dsimp only;exact QCC (by simp;omega) (QAD ⟨rfl,rfl,rfl⟩)
theorem QEl(q p:Ac)(l:LM):Ct Pr 41 [.pointer q] .one [.I] [QAQ q p l] emp (fun t Bs=>t.1=l.lo/\Bs=[QAQ q p l]):=by
 refine sp1 (QDk _) fun B _=>?_;unfold QDk mf;dsimp only;refine QZQ 0 fun hi b s cs d a f=>?_;subst d;refine QAO (xgq (xif (fun h=>?_) (fun h=>?_)))
 ·have h0:cs.length=0:=by simp at h;omega
  have e:l.segs=[]:=Wm (by rw[<-a.len];exact h0);refine QAO (xgq (QAw (p:=p) (l:=l) b s cs hi (QAD ⟨?_,rfl⟩)));unfold LM.lo;rw[e]
 ·have h0:0<cs.length:=by simp at h;omega
  refine QAO (xgq ?_);refine Qb7 (E:=SEG) (xs:=cs) (s:=s) (h0:=Dc) (h1:=Om) (h:=fun c hc=>?_);refine QAa (E:=SEG) (xs:=cs) hc (h:=?_);refine QAw (p:=p) (l:=l) b s cs hi (QAD ⟨?_,rfl⟩);unfold LM.lo
  cases e:l.segs with
  | nil=>have:=a.len;rw[e,O8]at this;omega
  | cons sg r=>
   have:=a.each 0 c sg hc (by rw[e];rfl);exact this.2.1
theorem QF9(q p:Ac)(l:LM):Ct Pr 39 [.pointer q] .one [.I] [QAQ q p l] emp (fun t Bs=>t.1=l.next/\Bs=[QAQ q p l]):=by
 refine QG9 (φ:=QAX Pr 39 [.pointer q] .one [.I]) id fun B _=>?_;refine QZQ 0 fun hi b s cs c d e=>?_;subst c;refine xcl (QGm b p l s cs e d hi) rdb ?_;rintro⟨t,_⟩ _ ⟨a,rfl⟩;simp only at a;subst a;exact QBK (ca1 (QAw (p:=p) (l:=l) b s cs hi (QAD ⟨rfl,rfl⟩)))
theorem QPe{α:Type}{p:α->Bool}:∀{l:List α}{k:Nat}{x:α},l[k]? = some x->p x=true->(∀j y,j<k->l[j]? = some y->p y=false)->l.find? p=some x
 | [],k,x,h,_,_=>by simp at h
 | y::l,0,x,h,hp,_=>by
  obtain rfl:y=x:=Si h
  simp[List.find?_cons,hp]
 | y::l,k+1,x,h,hp,hn=>by
  have h0:=hn 0 y Om rfl;simp only[List.find?_cons,h0];exact QPe (k:=k) (Si h) hp fun j z hj a=>hn (j+1) z Om (Si a)
theorem QZ3{R:CS->Sg->HP}{cs:List CS}{ss:List Sg}{k:Nat}{c:CS}{s:Sg}(hc:cs[k]? = some c)(b:ss[k]? = some s){g:QBs}(h:QBr [R c s,Each R (cs.eraseIdx k) (ss.eraseIdx k)] g):Each R cs ss g:=by
 have h1:=(Wc.1 hc).1;have a:=(Wc.1 b).1;have:=QC9 h1 a h
 have d:cs.set k c=cs:=by
  apply Uf;intro j;by_cases e:k=j
  ·subst e;rw[Wy h1,hc]
  ·rw[Oy e]
 have f:ss.set k s=ss:=by
  apply Uf;intro j;by_cases e:k=j
  ·subst e;rw[Wy a,b]
  ·rw[Oy e]
 rw[d,f]at this;exact this
theorem QjX{cs:List CS}{ss:List Sg}{k:Nat}{c:CS}{s:Sg}{F:List HP}{φ:WP}(i:Nat)[q:Pick i As (Each QEf cs ss) F](hc:cs[k]? = some c)(n:ss[k]? = some s)
  (h:∀rs,Ent B (Ar SL c.2.2.2 rs::Each (Ar U8) rs s.ps::Each QEf (cs.eraseIdx k) (ss.eraseIdx k)::F) φ):Ent B As φ:=by
 refine QEZ i (fun Bs=>∃rs,Bs=[Ar SL c.2.2.2 rs,Each (Ar U8) rs s.ps,Each QEf (cs.eraseIdx k) (ss.eraseIdx k)]) (fun g e=>?_) ?_
 ·have:=QCA e hc n;obtain⟨a,b,⟨h1,o,p,rs,f⟩,j,d,l,m⟩:=this;exact⟨_,⟨rs,rfl⟩,(QAl [_,_] [_]).2 ⟨a,b,f,j,d,l,m⟩⟩
 ·rintro _ ⟨rs,rfl⟩;exact h rs
theorem Qdd{rs:List Sl}{c:CS}{s:Sg}(h1:c.1=s.n)(k:c.2.1=s.first)(m:c.2.2.1=s.size){l:List HP}{g:QBs}(h:QBr (Ar SL c.2.2.2 rs::Each (Ar U8) rs s.ps::l) g):QBr (QEf c s::l) g:=by
 obtain⟨a,b,e,f,d,i,j⟩:=(QAl [Ar SL c.2.2.2 rs,Each (Ar U8) rs s.ps] l).1 h;exact⟨a,b,⟨h1,k,m,rs,e⟩,f,d,i,j⟩
theorem QFu(q p:Ac)(l:LM)(n:Int)(hn:i64 n):Ct Pr 19 [.pointer q,.I n] (.tup [none,none]) [.slice,.I] [QAQ q p l] emp
  (fun t Bs=>t.2.1=(QCc l n).2/\Bs=[QAQ q p l,Ar U8 t.1 (QCc l n).1]):=by
 refine sp2 (QLY _ _) fun B _=>?_;unfold QLY mf;dsimp only;refine xcl (QEl q p l) rdb ?_;rintro⟨t,_⟩ _ ⟨o,rfl⟩;simp only at o;subst o;refine QAz (ca1 (QAB (fun h=>?_) (fun h=>?_)))
 ·have e:QCc l n=([],31):=by unfold QCc;rw[We h]
  rw[e];exact QAf U8 (QAK [QAQ q p l,Ar U8 ⟨none,0,0⟩ []] (QAD ⟨rfl,rfl⟩))
 have d:QCc l n=match l.segs.find? fun s=>decide (n<s.next) with
   | some s=>((s.ps[(n - s.first).toNat]?).getD [],0)
   | none=>([],6):=by unfold QCc;rw[Wb h];rfl
 refine QZQ 0 fun hi b s cs G u T=>?_;subst G;refine QAO (xgq ?_);have a2:=hi.few;have a3:=u.len;refine QBa (fun m (x:Int) As'=>∃k:Nat,x=(k:Int)/\m=cs.length - k/\k<=cs.length/\(∀j y,j<k->l.segs[j]? = some y->decide (n<y.next)=false)/\As'=[Blk b (QAe p l s),Ar SEG s cs,Each QEf cs l.segs]) cs.length ⟨0,rfl,rfl,Om,fun j y hj=>Om,rfl⟩ ?_;rintro m x As' K ⟨k,rfl,rfl,W,w,rfl⟩ M;refine QAB (fun H=>?_) (fun H=>?_)
 ·have A:k<cs.length:=Om
  obtain⟨c,hc⟩:∃c,cs[k]? = some c:=⟨_,Wa A⟩;obtain⟨a,i⟩:∃a,l.segs[k]? = some a:=⟨_,Wa (by rw[<-u.len];exact A)⟩;obtain⟨N,z,g3,g4,X⟩:=u.each k c a hc i;obtain⟨Y,Z,a0,a1,O⟩:=hi.segs a (Wp i);refine QAH (E:=SEG) (xs:=cs) (s:=s) (h1:=A) (h:=fun _ _=>?_);refine QAN (E:=SEG) (xs:=cs) hc (h:=?_);iterate 3 (refine QAa (E:=SEG) (xs:=cs) hc (h:=?_))
  refine QAL fun U=>?_;iterate 4 (refine xsq ?_)
  iterate 4 (refine xgq ?_)
  refine QAS (QHu c.1 c.2.1 c.2.2.1 c.2.2.2) rdb ?_;rintro⟨t,_⟩ _ ⟨o,rfl⟩;simp only at o;subst o
  have Q:IntKind.i64.wrap (c.2.1+(c.2.2.2.n:Int))=a.next:=by
   rw[QAC _ Om Om,z,g4];rfl
  refine QA2 (ca1 ?_)
  (try simp only)
  rw[Q];refine QAB (fun v=>?_) (fun v=>?_)
  ·have C:=QPe i (p:=fun s=>decide (n<s.next)) (Si v) w;rw[C]at d;simp only at d
   have a4:a.first<=n:=by
    cases k with
    | zero=>
     have:l.lo=a.first:=by
      unfold LM.lo
      cases e:l.segs with
      | nil=>rw[e]at i;simp at i
      | cons y r => rw[e]at i; obtain rfl : y = a := Si i;rfl
     rw[<-this];omega
    | succ k=>
     obtain⟨y,f⟩:∃y,l.segs[k]? = some y:=⟨_,Wa (by have:=(Wc.1 i).1;omega)⟩;have:=w k y Om f;have e:=hi.chain k y a f i;simp only[Wx]at this;omega
   simp only[Sg.next]at v
   have a5:(n - a.first).toNat<a.ps.length:=Om
   refine xgq (xgq ?_);rw[z,QAC _ Om Om,show n - a.first=(((n - a.first).toNat:Nat):Int) by omega]
   generalize hj:(n - a.first).toNat=j at *
   refine QAK [Each QEf cs l.segs,Blk b (QAe p l s),Ar SEG s cs] ?_;refine QjX (k:=k) 0 hc i fun rs=>?_;refine QB6 1 (P1:=Each (Ar U8) rs a.ps) (fun g d=>d.length) fun V=>?_;obtain⟨r,D⟩:∃r,rs[j]? = some r:=⟨_,Wa Om⟩;obtain⟨y,f⟩:∃y,a.ps[j]? = some y:=⟨_,Wa Om⟩;have a6:=O y (Wp f);rw[f]at d;refine QAH (E:=SL) (xs:=rs) (s:=c.2.2.2) (h1:=Om) (h:=fun _ _=>?_);refine QAN (E:=SL) (xs:=rs) D (h:=?_);refine xcl (pre:=[]) (QI6 r y Om) (QL3 1 (fun g d=>QD0 (R:=Ar U8) (S:=fun J L=>RAr U8 J L) (fun _ _ _ _ h s=>h.mono s) (fun _ _ _ h=>h.read) d D f) (fun _ _ h s=>h.mono s)) ?_;rintro⟨t,_⟩ _ rfl;refine QAz (ca1 ?_);refine QBO [Ar SL c.2.2.2 rs,Each (Ar U8) rs a.ps,Each QEf (cs.eraseIdx k) (l.segs.eraseIdx k)] (Each QEf cs l.segs) (fun g d=>QZ3 hc i (Qdd N z g3 d)) ?_;refine QAw (p:=p) (l:=l) b s cs hi ?_;rw[d];exact QAK [QAQ (some ⟨b,0,none⟩) p l,Ar U8 t y] (QAD ⟨rfl,rfl⟩)
  ·rw[QAE k Om];refine QAK [Blk b (QAe p l s),Ar SEG s cs,Each QEf cs l.segs] (M _ _ _ Om ⟨k+1,rfl,rfl,Om,fun j y hj f=>?_,rfl⟩);by_cases e:j<k
   ·exact w j y e f
   ·obtain rfl:j=k:=Om
    rw[i]at f;obtain rfl:=W3 f;simpa using v
 ·have a7:k=l.segs.length:=by rw[<-u.len];omega
  have C:(l.segs.find? fun s=>decide (n<s.next))=none:=by
   rw[List.find?_eq_none];intro y f;obtain⟨j,hj⟩:=Oh.1 f;have:=w j y (by have:=(Wc.1 hj).1;omega) hj;rw[this];decide
  rw[C]at d;simp only at d;rw[d];exact QAf U8 (QAw (p:=p) (l:=l) b s cs hi (QAK [QAQ (some ⟨b,0,none⟩) p l,Ar U8 ⟨none,0,0⟩ []] (QAD ⟨rfl,rfl⟩)))
end Go.Cx
namespace Go.Cx
open Go Go.Cf
set_option linter.unusedVariables false
set_option maxRecDepth 100000
variable {B:QBJ}{As F:List HP}
theorem QWK{ss:List Sg}{s:Sg}(h:ss.getLast? = some s)(p:Ab):QVv ss p=ss.set (ss.length - 1) { s with size:=s.size+(QAY p).length,ps:=s.ps++[p] }:=by
 unfold QVv;rw[h]
 (try simp only)
 obtain⟨r,rfl⟩:∃r,ss=r++[s]:=by
  have a:ss≠[]:=by rintro rfl;simp at h
  refine⟨ss.dropLast,?_⟩;have:=K4 a;rw[Zz a]at h;rw[<-W3 h];exact this.symm
 rw[List.dropLast_concat,Wd,W8,Nat.add_sub_cancel,U5 _ _ (Wt _),Ur];rfl
theorem QSp(m:DM)(l:LM):(QBP m l).2.1.segs=l.segs/\(QBP m l).2.1.n=l.n/\(QBP m l).2.1.first=l.first:=by
 unfold QBP;split
 ·exact⟨rfl,rfl,rfl⟩
 split
 ·exact⟨rfl,rfl,rfl⟩
 (try simp only)
 split<;>exact⟨rfl,rfl,rfl⟩
theorem Qad{l l':LM}(h:l'.segs=l.segs)(a:l'.first=l.first):l'.next=l.next:=by unfold LM.next LM.cur;rw[h,a]
theorem QSN(q p:Ac)(m:DM)(l:LM)(s:Sl)(xs:Ab)(hn:l.segs=[]->l.safe=l.next)(e2:LInv (QAy m l xs).2.1) :
  Ct Pr 271 [.pointer q,s.v] (.tup [none,none]) [.I,.I] [QAQ q p l,QAA p m] ((RAr U8 s xs).and GTab)
  (fun t Bs=>t.1=(QAy m l xs).2.2.1/\t.2.1=(QAy m l xs).2.2.2/\Bs=[QAQ q p (QAy m l xs).2.1,QAA p (QAy m l xs).1]):=by
 refine sp2 (QHZ _ _) fun B b9=>?_;haveI:Fro B s U8 xs:=⟨b9.1⟩;haveI:=QKj b9.2;unfold QHZ mf;dsimp only;refine QZQ 0 fun hi b i cs a6 S b'=>?_;subst a6;have e7:=hi.few;have e8:=S.len;refine xcl (QMz b p m l i) rdb ?_;rintro⟨t,_⟩ _ ⟨r,rfl⟩;simp only at r;subst r;refine QBK (ca1 (xif (fun h=>?_) (fun h=>?_)))
 ·have W:m.down=true:=by
   cases e:m.down with
   | true=>rfl
   | false=>rw[e]at h;cases h
  have e:QAy m l xs=(m,l,0,10):=by unfold QAy;rw[We W]
  rw[We W,e];exact QAw (p:=p) (l:=l) b i cs hi (QAD ⟨rfl,rfl,rfl⟩)
 have W:m.down=false:=by
  cases e:m.down with
  | false=>rfl
  | true=>rw[e]at h;cases h
 by_cases a5:xs.length>1024
 ·refine xcl (pre:=[]) (QQc s xs a5) rdb ?_;rintro⟨t,c9,_⟩ _ ⟨r,Y,rfl⟩;simp only at r Y;subst r Y;refine QA2 (ca2 (QCC rfl ?_))
  have e:QAy m l xs=(m,l,0,2):=by unfold QAy;rw[Wb (by rw[W];decide),We a5]
  rw[e];exact QAw (p:=p) (l:=l) b i cs hi (QAD ⟨rfl,rfl,rfl⟩)
 refine xcl (pre:=[]) (QDD s xs Om) rdb ?_;rintro⟨o,c9,_⟩ _ ⟨Y,rfl⟩;simp only at Y;subst Y;refine QAz (ca2 (QBH rfl ?_));refine xcl (QGo b p l i cs b' (by rw[S.len];exact hi.few)) rdb ?_;rintro⟨t,_⟩ _ ⟨r,rfl⟩;simp only at r;subst r;refine QBK (ca1 ?_)
 -- what the last segment says
 have a1:(cs=[]/\l.segs=[]/\l.full=false/\l.curN=l.n)\/(∃f c,cs≠[]/\l.segs.getLast? = some f/\cs[cs.length - 1]? = some c/\c.1=f.n/\c.2.1=f.first/\c.2.2.1=f.size/\l.full=decide (f.size>=1024)/\l.curN=f.n):=by
  cases hc:l.segs.getLast? with
  | none=>
   have e:=(QSV S).2 hc;refine .inl ⟨e,Kj.1 hc,?_,?_⟩
   ·unfold LM.full LM.cur;rw[hc]
   ·unfold LM.curN LM.cur;rw[hc]
  | some f=>
   obtain⟨c,L,U,g3,g4,c',d0⟩:=QL6 S hc;refine .inr ⟨f,c,fun e=>?_,rfl,L,U,g3,g4,?_,?_⟩
   ·have:=(QSV S).1 e;rw[hc]at this;cases this
   ·unfold LM.full LM.cur;rw[hc]
   ·unfold LM.curN LM.cur;rw[hc]
 have d6:1<=l.curN/\l.curN<=2000000000000:=by
  rcases a1 with⟨_,_,_,e⟩|⟨f,c,_,hc,_,_,_,_,_,e⟩
  ·rw[e];exact hi.n
  ·rw[e];exact (hi.segs f (Zo hc)).1
 have d7:QCy (if cs=[] then none else some (i.at 4 (cs.length - 1)))=decide (l.segs=[]):=by
  rcases a1 with⟨e,a4,_⟩|⟨f,c,e,hc,_⟩
  ·rw[We e,a4];rfl
  ·rw[Wb e]
   have:l.segs≠[]:=by rintro e;rw[e]at hc;simp at hc
   simp[this,QCy]
 refine QAV (fun(c:Bool) As'=>c=l.full/\As'=[Blk b (QAe p l i),Ar SEG i cs,Ar U8 o (QAY xs),QAA p m,Each QEf cs l.segs]) (fun K z=>?_) ?_
 ·rcases a1 with⟨e,a4,Q,_⟩|⟨f,c,e,hc,Z,L,U,g3,Q,_⟩
  ·rw[We e];refine QBH rfl (QAK [Blk b (QAe p l i),Ar SEG i cs,Ar U8 o (QAY xs),QAA p m,Each QEf cs l.segs] (z _ _ ⟨Q.symm,rfl⟩))
  ·rw[Wb e];refine QCC rfl (QAO (QAa (E:=SEG) (xs:=cs) Z (h:=?_)));refine QAK [Blk b (QAe p l i),Ar SEG i cs,Ar U8 o (QAY xs),QAA p m,Each QEf cs l.segs] (z _ _ ⟨?_,rfl⟩);rw[Q,g3]
 rintro c As2 ⟨rfl,rfl⟩;refine xcl (QGm b p l i cs b' S hi) rdb ?_;rintro⟨t,_⟩ _ ⟨r,rfl⟩;simp only at r;subst r;refine QBK (ca1 ?_);refine QAV (fun(c:Bool) As'=>c=decide (l.next>=1099511627776\/(l.full=true/\l.curN=QLc))/\As'=[Blk b (QAe p l i),Ar SEG i cs,Ar U8 o (QAY xs),QAA p m,Each QEf cs l.segs]) (fun K z=>?_) ?_
 ·refine QAB (fun h1=>?_) (fun h1=>?_)
  ·exact QAK [Blk b (QAe p l i),Ar SEG i cs,Ar U8 o (QAY xs),QAA p m,Each QEf cs l.segs] (z _ _ ⟨by simp[h1],rfl⟩)
  ·refine QAM (xif (fun w=>?_) (fun w=>?_))
   ·rcases a1 with⟨e,a4,Q,_⟩|⟨f,c,e,hc,Z,L,U,g3,Q,a0⟩
    ·rw[Q]at w;cases w
    ·rw[Wb e];refine QAO (QAN (E:=SEG) (xs:=cs) Z (h:=?_));refine QAK [Blk b (QAe p l i),Ar SEG i cs,Ar U8 o (QAY xs),QAA p m,Each QEf cs l.segs] (z _ _ ⟨?_,rfl⟩);rw[L,a0,w,Oo];simp[h1]
   ·refine QAK [Blk b (QAe p l i),Ar SEG i cs,Ar U8 o (QAY xs),QAA p m,Each QEf cs l.segs] (z _ _ ⟨?_,rfl⟩);rw[w];simp[h1]
 rintro c As2 ⟨rfl,rfl⟩;refine QAB (fun h1=>?_) (fun h1=>?_)
 ·have e:QAy m l xs=(m,l,0,12):=by unfold QAy;rw[Wb (by rw[W];decide),Wb a5,We h1]
  rw[e];exact QAw (p:=p) (l:=l) b i cs hi (QAK [QAQ (some ⟨b,0,none⟩) p l,QAA p m] (QAD ⟨rfl,rfl,rfl⟩))
 have H:QAy m l xs=(let y:=if l.full then QBP m l else (m,l,0)
   if y.2.2≠0 then (y.1,y.2.1,0,y.2.2)
   else
    let n:=if l.full then l.curN+1 else l.curN
    let a:=QAF y.1 (fN n) (QAY xs)
    if a.2≠0 then (a.1,y.2.1,0,a.2)
    else
     let ss:=if l.segs=[]\/l.full=true then l.segs++[⟨n,l.next,0,[]⟩] else l.segs
     (a.1,{ y.2.1 with segs:=QVv ss xs },l.next,0)):=by
  unfold QAy;rw[Wb (by rw[W];decide),Wb a5,Wb h1]
 refine QAO (xgq ?_);refine QAV (fun(x:Int) As'=>x=l.curN/\As'=[Blk b (QAe p l i),Ar SEG i cs,Ar U8 o (QAY xs),QAA p m,Each QEf cs l.segs]) (fun K z=>?_) ?_
 ·rcases a1 with⟨e,a4,Q,a0⟩|⟨f,c,e,hc,Z,L,U,g3,Q,a0⟩
  ·rw[We e];exact QBH rfl (z _ _ ⟨a0.symm,rfl⟩)
  ·rw[Wb e];refine QCC rfl (QAO (QAN (E:=SEG) (xs:=cs) Z (h:=?_)));exact z _ _ ⟨by rw[L,a0],rfl⟩
 rintro x As2 ⟨rfl,rfl⟩
 -- Sync, where the segment is full
 refine QAV (fun(x:Int) As'=>∃(O:DM) (u:LM),(if l.full then QBP m l else (m,l,0))=(O,u,0)/\u.segs=l.segs/\u.n=l.n/\u.first=l.first/\x=(if l.full then l.curN+1 else l.curN)/\As'=[QAQ (some ⟨b,0,none⟩) p u,QAA p O,Ar U8 o (QAY xs)]) (fun K z=>?_) ?_
 ·refine xif (fun w=>?_) (fun w=>?_)
  ·refine QAw (p:=p) (l:=l) b i cs hi ?_;refine xcl (QKm (some ⟨b,0,none⟩) p m l hn) rdb ?_;rintro⟨t,_⟩ _ ⟨r,rfl⟩;simp only at r;subst r;rw[We w]at H;refine QBK (ca1 (xif (fun D=>?_) (fun D=>?_)))
   ·have D:(QBP m l).2.2≠0:=Si D
    simp only at H;rw[We D]at H;rw[H];exact QAK [QAQ (some ⟨b,0,none⟩) p (QBP m l).2.1,QAA p (QBP m l).1] (QAD ⟨rfl,rfl,rfl⟩)
   ·have D:(QBP m l).2.2=0:=Si D
    obtain⟨d1,d2,d3⟩:=QSp m l;rw[QAC _ Om Om];refine QAK [QAQ (some ⟨b,0,none⟩) p (QBP m l).2.1,QAA p (QBP m l).1,Ar U8 o (QAY xs)] (z _ _ ⟨_,_,?_,d1,d2,d3,by rw[We w],rfl⟩);rw[We w,<-D]
  ·refine QAw (p:=p) (l:=l) b i cs hi ?_;refine QAK [QAQ (some ⟨b,0,none⟩) p l,QAA p m,Ar U8 o (QAY xs)] (z _ _ ⟨m,l,by rw[Wb (by rw[w];decide)],rfl,rfl,rfl,by rw[Wb (by rw[w];decide)],rfl⟩)
 rintro (C:Int) As2 ⟨O,u,d4,b0,e4,d5,c3,rfl⟩;rw[d4]at H;rw[<-c3]at H;simp only[ne_eq,Uq,Oa]at H
 have e9:1<=C/\C<=2000000000001:=by
  obtain⟨e5,e6⟩:=d6;rw[c3];cases l.full
  ·rw[Wb Dc];omega
  ·rw[We rfl];omega
 refine QAP (QAO ?_);refine QZQ 0 fun a7 c7 X N a6 c0 c8=>?_
 obtain rfl:b=c7:=by cases a6;rfl
 have e':=a7.few;have f0:=c0.len;refine xgq ?_;refine QUV Om Om (QDK (h:=?_));refine xcl (QE3 p O (fN C) o (QAY xs)) rdb ?_;rintro⟨t,_⟩ _ ⟨r,rfl⟩;simp only at r;subst r;refine QAz (ca1 (xif (fun w=>?_) (fun w=>?_)))
 ·have w:¬(QAF O (fN C) (QAY xs)).2=0:=Si w
  rw[We w]at H;rw[H];refine QAw (p:=p) (l:=u) b X N a7 ?_;exact QAK [QAQ (some ⟨b,0,none⟩) p u,QAA p (QAF O (fN C) (QAY xs)).1] (QAD ⟨rfl,rfl,rfl⟩)
 have w:(QAF O (fN C) (QAY xs)).2=0:=Si w
 rw[Wb (by rw[w];simp)]at H
 generalize (QAF O (fN C) (QAY xs)).1=a2 at *
 have d8:=Qad b0 d5;refine xcl (QGm b p u X N c8 c0 a7) rdb ?_;rintro⟨t,_⟩ _ ⟨r,rfl⟩;simp only at r;subst r;rw[d8];refine QBK (ca1 ?_);have f1:o.n=(QAY xs).length->True:=fun _=>trivial;refine QCl o fun a8 _=>?_
 replace a8:(QAY xs).length=o.n:=a8
 have f2:=QRi xs;refine QBh (fun As'=>∃(G:Sl) (j:List CS) (ss:List Sg),ss=(if l.segs=[]\/l.full=true then l.segs++[⟨C,l.next,0,[]⟩] else l.segs)/\As'=[Blk b (QAe p u G),Ar SEG G j,Each QEf j ss,QAA p a2]) (fun K z=>?_) ?_
 ·have d9:(QCy (if cs=[] then none else some (i.at 4 (cs.length - 1)))||l.full)=decide (l.segs=[]\/l.full=true):=by
   rw[d7];cases l.full<;>simp
  rw[d9];refine QAB (fun D=>?_) (fun D=>?_)
  ·refine QAO (xgq (QAL fun c1=>?_));refine QE4 (E:=SEG) ((C,l.next,(0:Int),⟨none,0,0⟩):CS) (hb:=Om) (h:=fun G=>QAO (xsq ?_));refine QAf SL ?_;refine QZM (A:=Each (Ar U8) [] []) trivial ?_;refine QBO [Each QEf N u.segs,Ar SL ⟨none,0,0⟩ [],Each (Ar U8) [] []] (Each QEf (N++[(C,l.next,(0:Int),⟨none,0,0⟩)]) (u.segs++[⟨C,l.next,0,[]⟩])) (fun g R=>QEn (QBC (l:=[Ar SL ⟨none,0,0⟩ [],Each (Ar U8) [] []]) (fun h a9=>QCe ⟨rfl,rfl,rfl,[],a9⟩) R)) ?_;refine QAK [Blk b (QAe p u G),Ar SEG G (N++[(C,l.next,(0:Int),⟨none,0,0⟩)]),Each QEf (N++[(C,l.next,(0:Int),⟨none,0,0⟩)]) (u.segs++[⟨C,l.next,0,[]⟩]),QAA p a2] (z _ ⟨G,_,_,?_,rfl⟩);rw[We D,b0]
  ·refine QAK [Blk b (QAe p u X),Ar SEG X N,Each QEf N u.segs,QAA p a2] (z _ ⟨X,N,u.segs,by rw[Wb D,b0],rfl⟩)
 rintro As2 ⟨G,j,ss,a3,rfl⟩;rw[<-a3]at H
 have b5:ss≠[]:=by
  rw[a3];split
  ·simp
  ·rename_i D
   exact fun e=>D (.inl e)
 have f3:ss.length<=65:=by
  rw[a3];split
  ·rw[Wd,W8];omega
  ·omega
 refine QB6 2 (P1:=Each QEf j ss) (fun g R=>Qh9 R) fun c2=>?_;refine QCl G fun a' _=>?_
 replace a':j.length=G.n:=a'
 have b6:=c2.len;have b7:=e2;rw[H]at b7
 have f4:ss.length<=64:=by
  have:=b7.few;obtain⟨f,V⟩:∃f,ss.getLast? = some f:=⟨_,Zz b5⟩;simp only at this;rw[QWK V,Ob]at this;exact this
 refine xcl (QGo b p u G j a'.symm Om) rdb ?_;rintro⟨t,_⟩ _ ⟨r,rfl⟩;simp only at r;subst r;have d':j≠[]:=fun e=>b5 (Wm (by rw[<-b6,e];rfl));obtain⟨f,V⟩:∃f,ss.getLast? = some f:=⟨_,Zz b5⟩;obtain⟨c,L,U,g3,g4,c',d0⟩:=QL6 c2 V
 have c4:ss[j.length - 1]? = some f:=by rw[b6];exact QGr V
 have c5:=(Wc.1 L).1
 have f5:(0<=f.size/\f.size<=16777216)/\(f.ps.length:Int)<=f.size:=by
  have J:=Zo V;rw[a3]at J;have inl:f∈l.segs->(0<=f.size/\f.size<=16777216)/\(f.ps.length:Int)<=f.size:=fun J=>⟨(hi.segs f J).2.2.1,(hi.segs f J).2.2.2.1⟩;split at J
  ·rcases W4.1 J with J|J
   ·exact inl J
   ·obtain rfl:=Oe.1 J;simp
  ·exact inl J
 refine QBK (ca1 ?_);rw[Wb d'];refine QAO (QAa (E:=SEG) (xs:=j) L (h:=QAO ?_));rw[g4,QAC _ Om Om];refine QDB (E:=SEG) (xs:=j) ((c.1,c.2.1,f.size+(o.n:Int),c.2.2.2):CS) L rfl Dc rfl ?_
 have b8:(j.set (j.length - 1) ((c.1,c.2.1,f.size+(o.n:Int),c.2.2.2):CS))[j.length - 1]? = some ((c.1,c.2.1,f.size+(o.n:Int),c.2.2.2):CS):=by
  rw[Wy c5]
 generalize e1:j.length - 1=k at *
 refine QAP (QAO (QAa (E:=SEG) (xs:=j.set k ((c.1,c.2.1,f.size+(o.n:Int),c.2.2.2):CS)) b8 (h:=?_)));refine xcl (pre:=[]) (QI6 s xs Om) rdb ?_;rintro⟨M,_⟩ _ rfl;refine QAz (ca1 (QWB (E:=SEG) (xs:=j.set k ((c.1,c.2.1,f.size+(o.n:Int),c.2.2.2):CS)) b8 (h:=QAL fun c1=>?_)));refine QAK [Each QEf j ss,Blk c1 [M.v],Ar U8 M xs,Ar SEG G (j.set k ((c.1,c.2.1,f.size+(o.n:Int),c.2.2.2):CS)),Blk b (QAe p u G),QAA p a2] ?_;refine QjX (k:=k) 0 L c4 fun rs=>?_;refine QB6 1 (P1:=Each (Ar U8) rs f.ps) (fun g R=>R.length) fun e3=>?_;refine QE4 (E:=SL) M (hb:=Om) (h:=fun T=>QAO ?_);refine QDB (E:=SEG) (xs:=j.set k ((c.1,c.2.1,f.size+(o.n:Int),c.2.2.2):CS)) ((c.1,c.2.1,f.size+(o.n:Int),T):CS) b8 rfl Dc rfl ?_;rw[Zc];have c6:=QWK V xs
 have e0:ss.length - 1=k:=by rw[<-b6];exact e1
 rw[e0]at c6;rw[H];refine QBO [Ar SL T (rs++[M]),Each (Ar U8) rs f.ps,Ar U8 M xs,Each QEf (j.eraseIdx k) (ss.eraseIdx k)] (Each QEf (j.set k ((c.1,c.2.1,f.size+(o.n:Int),T):CS)) (QVv ss xs)) (fun g R=>?_) ?_
 ·rw[c6];refine QC9 c5 (by have:=(Wc.1 c4).1;exact this) ?_
  have h1:QBr [Ar SL T (rs++[M]),Each (Ar U8) (rs++[M]) (f.ps++[xs]),Each QEf (j.eraseIdx k) (ss.eraseIdx k)] g:=by
   refine QBC (l:=[Each (Ar U8) rs f.ps,Ar U8 M xs,Each QEf (j.eraseIdx k) (ss.eraseIdx k)]) (fun h a9=>?_) R;obtain⟨a,e,b1,b2,d,b3,b4⟩:=(QAl [Each (Ar U8) rs f.ps,Ar U8 M xs] [Each QEf (j.eraseIdx k) (ss.eraseIdx k)]).1 a9;exact⟨a,e,QEn b1,b2,d,b3,b4⟩
  obtain⟨a,e,b1,b2,d,b3,b4⟩:=(QAl [Ar SL T (rs++[M]),Each (Ar U8) (rs++[M]) (f.ps++[xs])] [Each QEf (j.eraseIdx k) (ss.eraseIdx k)]).1 h1;exact⟨a,e,⟨U,g3,by simp only;rw[a8],_,b1⟩,b2,d,b3,b4⟩
 refine QAw (p:=p) (l:={ u with segs:=QVv ss xs }) b G (j.set k ((c.1,c.2.1,f.size+(o.n:Int),T):CS)) b7 ?_;exact QAK [QAQ (some ⟨b,0,none⟩) p { u with segs:=QVv ss xs },QAA p a2] (QAD ⟨rfl,rfl,rfl⟩)
end Go.Cx
