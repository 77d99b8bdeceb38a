import Derived.Test.YthbhbkjkclhkgaaGreatDoorA2
import Derived.Below
import Derived.Laws.Append
import Derived.Laws.AppendOwn
import Derived.Laws.MakeOwn
import Derived.Deep.Matrix
import Derived.Carry
import Derived.SizedLaws
import Derived.Laws.Externs
import Derived.DefersIn
import Derived.RecoverIn
import Derived.MapKept
import Derived.Laws.IdiomStrings
import Derived.RangeFuncSeq
set_option linter.unusedSectionVars false
namespace Go.Cf
open Go
abbrev QBe:=Nat→Option Obj
abbrev HP:=QBe→Prop
def Sub(h g:QBe):Prop:=∀k o,h k=some o→g k=some o
def Dis(h g:QBe):Prop:=∀k,h k=none∨g k=none
abbrev mem(w:World):QBe:=fun k=>w.heap[k]?
theorem Sub.refl(h:QBe):Sub h h:=fun _ _ e=>e
theorem Sub.trans{a b c:QBe}(h:Sub a b)(k:Sub b c):Sub a c:=fun i o e=>k i o (h i o e)
theorem Dis.symm{a b:QBe}(h:Dis a b):Dis b a:=fun k=>(h k).symm
theorem Dis.sub{a a' b b':QBe}(h:Dis a b)(ha:Sub a' a)(hb:Sub b' b):Dis a' b':=fun k=>by
 rcases h k with e|e
 ·left
  cases ha':a' k with
  | none=>rfl
  | some o=>rw[ha k o ha']at e;cases e
 ·right
  cases hb':b' k with
  | none=>rfl
  | some o=>rw[hb k o hb']at e;cases e
def uni(h g:QBe):QBe:=fun k=>match h k with
 | some o=>some o
 | none=>g k
theorem QBV(h g:QBe):Sub h (uni h g):=fun k o e=>by simp[uni,e]
theorem QBT{h g:QBe}(d:Dis h g):Sub g (uni h g):=fun k o e=>by
 rcases d k with e'|e'
 ·simp[uni,e',e]
 ·rw[e]at e';cases e'
theorem QEI{h g f:QBe}(a:Sub h f)(b:Sub g f):Sub (uni h g) f:=fun k o e=>by
 unfold uni at e
 cases hk:h k with
 | some o'=>rw[hk]at e;exact a k o (by rw[hk];exact e)
 | none=>rw[hk]at e;exact b k o e
theorem QEB{h g:QBe}{k:Nat}:uni h g k=none↔h k=none∧g k=none:=by
 unfold uni;cases h k<;>simp
theorem QSW{a h g:QBe}(x:Dis a h)(y:Dis a g):Dis a (uni h g):=fun k=>by
 rcases x k with e|e
 ·exact .inl e
 ·rcases y k with e'|e'
  ·exact .inl e'
  ·exact .inr (QEB.2 ⟨e,e'⟩)
def QBl:List HP→HP
 | []=>fun _=>True
 | P::Ps=>fun h=>∃h1 h2,P h1∧QBl Ps h2∧Dis h1 h2∧Sub h1 h∧Sub h2 h
theorem QCc:∀(l:List HP) {h g:QBe},QBl l h→Sub h g→QBl l g:=by
 intro l
 cases l with
 | nil=>intro h g _ _;trivial
 | cons P l=>rintro h g ⟨a,b,pa,pb,d,sa,sb⟩ s;exact⟨a,b,pa,pb,d,sa.trans s,sb.trans s⟩
theorem QDV{P Q:HP}{l:List HP}{h:QBe}(hs:QBl (P::Q::l) h):QBl (Q::P::l) h:=by
 obtain⟨a,b,pa,⟨c,d,pc,pd,dcd,sc,sd⟩,dab,sa,sb⟩:=hs;refine⟨c,uni a d,pc,⟨a,d,pa,pd,dab.sub (Sub.refl _) sd,QBV _ _,QBT (dab.sub (Sub.refl _) sd)⟩,?_,sc.trans sb,QEI sa (sd.trans sb)⟩;exact QSW (dab.sub (Sub.refl _) sc).symm dcd
theorem QBC{P:HP}{l l':List HP}(h:∀g,QBl l g→QBl l' g){g:QBe}(hs:QBl (P::l) g):QBl (P::l') g:=by
 obtain⟨a,b,pa,pb,d,sa,sb⟩:=hs;exact⟨a,b,pa,h _ pb,d,sa,sb⟩
theorem QFW{l l':List HP}(p:l.Perm l'):∀{h:QBe},QBl l h→QBl l' h:=by
 induction p with
 | nil=>exact fun h=>h
 | cons x _ ih=>exact fun h=>QBC (fun g hg=>ih hg) h
 | swap x y l=>exact fun h=>QDV h
 | trans _ _ ih1 ih2=>exact fun h=>ih2 (ih1 h)
theorem QA2{P Q:HP}{l:List HP}(h:∀g,P g→Q g){g:QBe}(hs:QBl (P::l) g):QBl (Q::l) g:=by
 obtain⟨a,b,pa,pb,d,sa,sb⟩:=hs;exact⟨a,b,h _ pa,pb,d,sa,sb⟩
theorem QAj:∀(l l':List HP) {h:QBe},QBl (l++l') h↔∃a b,QBl l a∧QBl l' b∧Dis a b∧Sub a h∧Sub b h:=by
 intro l
 induction l with
 | nil=>
  intro l' h;constructor
  ·exact fun hs=>⟨fun _=>none,h,trivial,hs,fun _=>.inl rfl,fun _ _ e=>(by cases e),Sub.refl _⟩
  ·rintro⟨a,b,_,hb,_,_,sb⟩;exact QCc _ hb sb
 | cons P l ih=>
  intro l' h;constructor
  ·rintro⟨a,b,pa,pb,d,sa,sb⟩;obtain⟨c,e,pc,pe,dce,sc,se⟩:=(ih l').1 pb;refine⟨uni a c,e,⟨a,c,pa,pc,d.sub (Sub.refl _) sc,QBV _ _,QBT (d.sub (Sub.refl _) sc)⟩,pe,?_,QEI sa (sc.trans sb),se.trans sb⟩;exact (QSW (d.sub (Sub.refl _) se).symm dce.symm).symm
  ·rintro⟨a,b,⟨c,e,pc,pe,dce,sc,se⟩,pb,d,sa,sb⟩;refine⟨c,uni e b,pc,(ih l').2 ⟨e,b,pe,pb,d.sub se (Sub.refl _),QBV _ _,QBT (d.sub se (Sub.refl _))⟩,?_,sc.trans sa,QEI (se.trans sa) sb⟩;exact QSW dce (d.sub sc (Sub.refl _))
structure QBE where
 W:World
 h0:QBe
structure Upd(B:QBE)(h:QBe)(w:World):Prop where
 os:w.os=B.W.os
 tape:w.tape=B.W.tape
 output:w.output=B.W.output
 drawn:B.W.drawn≤w.drawn
 size:B.W.heap.size≤w.heap.size
 old:∀k,k<B.W.heap.size→B.h0 k=none→w.heap[k]? = B.W.heap[k]?∧h k=none
def Sx(B:QBE)(As:List HP)(w:World):Prop:=∃h,QBl As h∧Sub h (mem w)∧Upd B h w
def Ent(B:QBE)(As:List HP)(φ:WP):Prop:=∀w,Sx B As w→φ w
variable {B:QBE}{As:List HP}
theorem Sx.perm{As':List HP}{w:World}(h:Sx B As w)(p:As.Perm As'):Sx B As' w:=by
 obtain⟨g,hs,hsub,hu⟩:=h;exact⟨g,QFW p hs,hsub,hu⟩
theorem Ent.perm{As':List HP}{φ:WP}(p:As.Perm As')(h:Ent B As' φ):Ent B As φ:=fun w hw=>h w (hw.perm p)
theorem Sx.drew{w:World}(h:Sx B As w):Sx B As w.drew:=by
 obtain⟨g,hs,hsub,hu⟩:=h;exact⟨g,hs,hsub,hu.os,hu.tape,hu.output,Nat.le_succ_of_le hu.drawn,hu.size,hu.old⟩
theorem Sx.head{P:HP}{w:World}(h:Sx B (P::As) w):∃g,P g∧Sub g (mem w):=by
 obtain⟨g,⟨a,b,pa,_,_,sa,_⟩,hsub,_⟩:=h;exact⟨a,pa,sa.trans hsub⟩
def Blk(b:Nat)(cs:List Value):HP:=fun h=>∃e fr,h b=some (.cells cs.toArray e fr)∧∀i,i<cs.length→¬(fr.1≤i∧i<fr.2)
class Own(b:Nat)(As:List HP)(cs:outParam (List Value))(upd:outParam (List Value→List HP))(rest:outParam (List HP)):Prop where
 eq:As=upd cs
 perm:∀c,(upd c).Perm (Blk b c::rest)
instance Own.head(b:Nat)(cs:List Value)(As:List HP):Own b (Blk b cs::As) cs (fun c=>Blk b c::As) As:=⟨rfl,fun _=>List.Perm.refl _⟩
instance Own.tail(b:Nat)(A:HP)(As:List HP)(cs:List Value)(upd:List Value→List HP)(rest:List HP)[o:Own b As cs upd rest]:Own b (A::As) cs (fun c=>A::upd c) (A::rest):=
 ⟨by rw[←o.eq],fun c=>((o.perm c).cons A).trans (List.Perm.swap _ _ _)⟩
theorem Blk.world{b:Nat}{cs:List Value}{h:QBe}{w:World}(hb:Blk b cs h)(hs:Sub h (mem w)):∃e fr,w.heap[b]? = some (.cells cs.toArray e fr)∧∀i,i<cs.length→¬(fr.1≤i∧i<fr.2):=by
 obtain⟨e,fr,hb,hf⟩:=hb;exact⟨e,fr,hs _ _ hb,hf⟩
theorem Sx.own{b:Nat}{cs:List Value}{upd:List Value→List HP}{rest:List HP}[o:Own b As cs upd rest]{w:World}(h:Sx B As w):Sx B (Blk b cs::rest) w:=
 h.perm (by rw[o.eq];exact o.perm cs)
theorem QAE{b:Nat}{cs:List Value}{upd:List Value→List HP}{rest:List HP}[o:Own b As cs upd rest]{off:Nat}{s:Sh}{x:s.ty}{K:s.ty→WP}(hv:cs[off]? = some (s.mk x):=by rfl)(h:Ent B As (K x)):Ent B As (QAq s ⟨b,off,none⟩ K):=by
 intro w hw;obtain⟨g,hg,hs⟩:=(hw.own (b:=b)).head;obtain⟨e,fr,hb,_⟩:=hg.world hs;refine⟨x,?_,h w hw⟩;simp only[World.cell?,hb];simpa using hv
theorem xgq{b:Nat}{cs:List Value}{upd:List Value→List HP}{rest:List HP}[o:Own b As cs upd rest]{off:Nat}{s:Sh}{x:s.ty}{K:s.ty→WP}(h:Ent B As (K x))(hv:cs[off]? = some (s.mk x):=by rfl):Ent B As (QAq s ⟨b,off,none⟩ K):=QAE (o:=o) hv h
theorem QC6{b:Nat}{cs:List Value}{upd:List Value→List HP}{rest:List HP}[o:Own b As cs upd rest]{off:Nat}{v:Value}{K:WP}(hv:cs[off]? = some v:=by rfl)(h:Ent B As K):Ent B As (QKv ⟨b,off,none⟩ v K):=by
 intro w hw;obtain⟨g,hg,hs⟩:=(hw.own (b:=b)).head;obtain⟨e,fr,hb,_⟩:=hg.world hs;refine⟨?_,h w hw⟩;simp only[World.cell?,hb];simpa using hv
class LSet(l:List Value)(i:Nat)(v:Value)(l':outParam (List Value)):Prop where
 eq:l'=l.set i v
 lt:i<l.length
instance LSet.zero(a v:Value)(l:List Value):LSet (a::l) 0 v (v::l):=⟨rfl,by simp⟩
instance LSet.succ(a v:Value)(l l':List Value)(i:Nat)[h:LSet l i v l']:LSet (a::l) (i+1) v (a::l'):=⟨by rw[h.eq];rfl,by have:=h.lt;simp;omega⟩
def Szd(w w':World):Prop:=w'.heap.size=w.heap.size∧w.drawn≤w'.drawn
theorem Sx.write{b:Nat}{cs cs':List Value}{rest:List HP}{w:World}{e:TypeId}{fr:Nat×Nat}(h:Sx B (Blk b cs::rest) w){w':World}(hw:w.heap[b]? = some (.cells cs.toArray e fr))
  (hn:∀k,k≠b→w'.heap[k]? = w.heap[k]?) (hb:w'.heap[b]? = some (.cells cs'.toArray e fr)) (hl:cs'.length=cs.length) (hos:w'.os=w.os) (ht:w'.tape=w.tape) (ho:w'.output=w.output) (hsz:Szd w w') :
  Sx B (Blk b cs'::rest) w':=by
 obtain⟨g,⟨h1,h2,p1,p2,d,s1,s2⟩,hsub,hu⟩:=h;obtain⟨e1,fr1,q1,f1⟩:=p1;have hq:=hsub _ _ (s1 _ _ q1)
 have heq:e1=e∧fr1=fr:=by
  have:(Obj.cells cs.toArray e1 fr1)=.cells cs.toArray e fr:=by
   have:=hq.symm.trans hw;simpa using this
  simpa using this
 obtain⟨rfl,rfl⟩:=heq
 have h2b:h2 b=none:=by
  rcases d b with e|e
  ·rw[q1]at e;cases e
  ·exact e
 have hB:∀k,k<B.W.heap.size→B.h0 k=none→k≠b:=fun k hk h0 e=>by
  subst e;have:=(hu.old k hk h0).2;rw[s1 _ _ q1]at this;cases this
 refine⟨uni (fun k=>if k=b then some (.cells cs'.toArray e1 fr1) else none) h2,?_,?_,?_⟩
 ·refine⟨_,h2,⟨e1,fr1,by simp,fun i hi=>f1 i (by omega)⟩,p2,fun k=>?_,QBV _ _,QBT fun k=>?_⟩ <;>
  ·by_cases e:k=b
   ·subst e;exact .inr h2b
   ·exact .inl (by simp[e])
 ·refine QEI (fun k o ho=>?_) (fun k o ho=>?_)
  ·by_cases e:k=b
   ·subst e;simp only[if_true,Option.some.injEq]at ho;rw[←ho];exact hb
   ·simp[e]at ho
  ·have hk:k≠b:=fun e=>by subst e;rw[h2b]at ho;cases ho
   show w'.heap[k]? = some o;rw[hn k hk];exact hsub _ _ (s2 _ _ ho)
 ·refine⟨by rw[hos,hu.os],by rw[ht,hu.tape],by rw[ho,hu.output],Nat.le_trans hu.drawn hsz.2,by rw[hsz.1];exact hu.size,fun k hk h0=>?_⟩;have hkb:=hB k hk h0;have:=hu.old k hk h0;refine⟨by rw[hn k hkb];exact this.1,QEB.2 ⟨by simp[hkb],?_⟩⟩
  cases h2k:h2 k with
  | none=>rfl
  | some o=>rw[s2 _ _ h2k]at this;cases this.2
theorem QKD(w:World)(b off:Nat)(v:Value)(k:Nat)(h:k≠b):(w.setCell ⟨b,off,none⟩ v).heap[k]? = w.heap[k]?:=by
 simp only[World.setCell];rw[Array.getElem?_modify];simp[Ne.symm h]
theorem QJ8(w:World)(b off:Nat)(v:Value){cs:List Value}{e:TypeId}{fr:Nat×Nat}(h:w.heap[b]? = some (.cells cs.toArray e fr)):(w.setCell ⟨b,off,none⟩ v).heap[b]? = some (.cells (cs.set off v).toArray e fr):=by
 simp only[World.setCell];rw[Array.getElem?_modify];simp[h]
theorem QHJ{b:Nat}{cs:List Value}{rest:List HP}{off:Nat}{v:Value}{K:WP}{As':List HP}(hp:As.Perm (Blk b cs::rest))(hlt:off<cs.length)(hv:v.oneCell'=true)
  (hp':(Blk b (cs.set off v)::rest).Perm As') (h:Ent B As' K):Ent B As (QBG ⟨b,off,none⟩ v K):=by
 intro w hw;have hw1:=hw.perm hp;obtain⟨g,hg,hs⟩:=hw1.head;obtain⟨e,fr,hb,hf⟩:=hg.world hs;refine⟨⟨cs[off],by simp[World.cell?,hb,hlt]⟩,?_,hv,h _ ((hw1.write (cs':=cs.set off v) hb (fun k hk=>QKD w b off v k hk) (QJ8 w b off v hb) (by simp) rfl rfl rfl ⟨by simp,Nat.le_refl _⟩).perm hp')⟩;simp only[World.frozen?,hb,Bool.and_eq_false_iff,decide_eq_false_iff_not];have:=hf off hlt;omega
theorem QSP{b:Nat}{cs cs':List Value}{upd:List Value→List HP}{rest:List HP}[o:Own b As cs upd rest]{off:Nat}{v:Value}{K:WP}[l:LSet cs off v cs'](hv:v.oneCell'=true:=by rfl)
  (h:Ent B (upd cs') K):Ent B As (QBG ⟨b,off,none⟩ v K):=by
 refine QHJ (cs:=cs) (rest:=rest) (by rw[o.eq];exact o.perm cs) l.lt hv ?_ h;rw[l.eq];exact (o.perm _).symm
theorem xsq{b:Nat}{cs cs':List Value}{upd:List Value→List HP}{rest:List HP}[o:Own b As cs upd rest]{off:Nat}{v:Value}{K:WP}[l:LSet cs off v cs'](h:Ent B (upd cs') K)(hv:v.oneCell'=true:=by rfl):Ent B As (QBG ⟨b,off,none⟩ v K):=QSP (o:=o) (l:=l) hv h
theorem Sx.allocQ{w:World}(h:Sx B As w){cs:List Value}{e:TypeId}{Q:HP}(hQ:Q (fun k=>if k=w.heap.size then some (Obj.cells cs.toArray e) else none)):Sx B (Q::As) (w.alloc (.cells cs.toArray e)):=by
 obtain⟨g,hs,hsub,hu⟩:=h
 have hg:g w.heap.size=none:=by
  cases hh:g w.heap.size with
  | none=>rfl
  | some o=>have:=hsub _ _ hh;simp[mem]at this
 have hd:Dis (fun k=>if k=w.heap.size then some (Obj.cells cs.toArray e) else none) g:=fun k=>by
  by_cases he:k=w.heap.size
  ·subst he;exact .inr hg
  ·exact .inl (by simp[he])
 refine⟨uni (fun k=>if k=w.heap.size then some (Obj.cells cs.toArray e) else none) g,⟨_,g,hQ,hs,hd,QBV _ _,QBT hd⟩,?_,?_⟩
 ·refine QEI (fun k o ho=>?_) (fun k o ho=>?_)
  ·by_cases he:k=w.heap.size
   ·subst he;simp only[if_true,Option.some.injEq]at ho;rw[←ho];show (w.heap.push _)[w.heap.size]? = _;simp
   ·simp[he]at ho
  ·have h1:=hsub _ _ ho;have hlt:k<w.heap.size:=(Array.getElem?_eq_some_iff.1 h1).1;show (w.heap.push _)[k]? = some o;rw[Array.getElem?_push_lt hlt,←h1];exact (Array.getElem?_eq_getElem hlt).symm
 ·refine⟨hu.os,hu.tape,hu.output,hu.drawn,by have:=hu.size;simp;omega,fun k hk h0=>?_⟩;have hlt:k<w.heap.size:=Nat.lt_of_lt_of_le hk hu.size;have:=hu.old k hk h0;refine⟨?_,QEB.2 ⟨by simp;omega,this.2⟩⟩;show (w.heap.push _)[k]? = _;rw[Array.getElem?_push_lt hlt,←this.1];exact (Array.getElem?_eq_getElem hlt).symm
theorem Sx.alloc{w:World}(h:Sx B As w)(cs:List Value)(e:TypeId):Sx B (Blk w.heap.size cs::As) (w.alloc (.cells cs.toArray e)):=
 h.allocQ ⟨e,(0,0),by simp,fun i _ h=>by simp at h⟩
theorem QAL{cs:List Value}{e:TypeId}{K:Nat→WP}(h:∀b,Ent B (Blk b cs::As) (K b)):Ent B As (QDE cs e K):=fun _ hw=>h _ _ (hw.alloc cs e)
theorem xif{b:Bool}{X Y:WP}(h1:b=true→Ent B As X)(h2:b=false→Ent B As Y):Ent B As (XIf b X Y):=fun w hw=>⟨fun e=>h1 e w hw,fun e=>h2 e w hw⟩
theorem QAA{p:Prop}[Decidable p]{X Y:WP}(h1:p→Ent B As X)(h2:¬p→Ent B As Y):Ent B As (XIf (decide p) X Y):=xif (fun e=>h1 (of_decide_eq_true e)) (fun e=>h2 (of_decide_eq_false e))
theorem QXT{X Y:WP}(h1:Ent B As X)(h2:Ent B As Y):Ent B As (Qat X Y):=fun w hw=>⟨h1 w hw,h2 w hw⟩
theorem QBz{b:Bool}{X Y:WP}(hb:b=true)(h:Ent B As X):Ent B As (XIf b X Y):=xif (fun _=>h) (fun e=>by rw[hb]at e;cases e)
theorem QBF{b:Bool}{X Y:WP}(hb:b=false)(h:Ent B As Y):Ent B As (XIf b X Y):=xif (fun e=>by rw[hb]at e;cases e) (fun _=>h)
theorem QA6{p:Prop}{K:WP}(hp:p)(h:Ent B As K):Ent B As (QLu p K):=fun w hw=>⟨hp,h w hw⟩
theorem QAQ{a:Addr}{K:Addr→WP}(h:Ent B As (K a)):Ent B As (QCe (some a) K):=fun w hw=>⟨a,rfl,h w hw⟩
theorem QAO{K:WP}(h:Ent B As K):Ent B As (QFX K):=fun _ hw=>h _ hw.drew
theorem QAJ{ss:List Sh}{body:Cur ss→WP}{rest:Cur ss}(h:Ent B As (body rest)):Ent B As (QBc ss body rest):=h
theorem QAS{s:Sh}{body:(s.ty→WP)→WP}{rest:s.ty→WP}(J:s.ty→List HP→Prop)(h1:∀K:s.ty→WP,(∀x As',J x As'→Ent B As' (K x))→Ent B As (body K))(h2:∀x As',J x As'→Ent B As' (rest x)) :
  Ent B As (QBc [s] body rest):=h1 rest h2
theorem QBu{body:WP→WP}{rest:WP}(J:List HP→Prop)(h1:∀K:WP,(∀As',J As'→Ent B As' K)→Ent B As (body K))(h2:∀As',J As'→Ent B As' rest) :
  Ent B As (QBc [] body rest):=h1 rest h2
theorem QBP{s:Sh}{body:(s.ty→WP)→s.ty→WP}{x0:s.ty}(I:Nat→s.ty→List HP→Prop)(n0:Nat)(h0:I n0 x0 As)
  (round:∀n x As' (K:s.ty→WP),I n x As'→(∀m y As'',m<n→I m y As''→Ent B As'' (K y))→Ent B As' (body K x)):Ent B As (QGp [s] body x0):=by
 intro w hw;refine⟨n0+1,?_⟩
 have key:∀n x As',I n x As'→∀k,n<k→Ent B As' (Cur.app [s] (QHB [s] body k) (x,())):=by
  intro n
  induction n using Nat.strongRecOn with
  | _ n ih=>
   intro x As' hI k hk
   cases k with
   | zero=>omega
   | succ k=>exact round n x As' (QHB [s] body k) hI fun m y As'' hm hI'=>ih m hm y As'' hI' k (by omega)
 exact key n0 x0 As h0 (n0+1) (by omega) w hw
theorem QBb{s t:Sh}{body:(s.ty→t.ty→WP)→s.ty→t.ty→WP}{x0:s.ty}{y0:t.ty}(I:Nat→s.ty→t.ty→List HP→Prop)(n0:Nat)(h0:I n0 x0 y0 As)
  (round:∀n x y As' (K:s.ty→t.ty→WP),I n x y As'→(∀m x' y' As'',m<n→I m x' y' As''→Ent B As'' (K x' y'))→Ent B As' (body K x y)):Ent B As (QGp [s,t] body x0 y0):=by
 intro w hw;refine⟨n0+1,?_⟩
 have key:∀n x y As',I n x y As'→∀k,n<k→Ent B As' (Cur.app [s,t] (QHB [s,t] body k) (x,y,())):=by
  intro n
  induction n using Nat.strongRecOn with
  | _ n ih=>
   intro x y As' hI k hk
   cases k with
   | zero=>omega
   | succ k=>exact round n x y As' (QHB [s,t] body k) hI fun m x' y' As'' hm hI'=>ih m hm x' y' As'' hI' k (by omega)
 exact key n0 x0 y0 As h0 (n0+1) (by omega) w hw
def frz(w:World)(h:QBe):QBe:=fun k=>match h k with
 | some _=>none
 | none=>w.heap[k]?
def Ct(P:Program)(f:FuncId)(args:List Value)(rs:Rs)(ss:List Sh)(pre:List HP)(rd:HP)(post:Tup ss→List HP→Prop):Prop:=
 ∀(w:World) (h:QBe),QBl pre h→Sub h (mem w)→rd (frz w h)→Calls P f args.toArray w fun e w'=>∃t Bs,e=.returned (rs.mk (Tup.vals ss t))∧post t Bs∧Sx ⟨w,h⟩ Bs w'
def Ret(B:QBE){ss:List Sh}(post:Tup ss→List HP→Prop)(t:Tup ss):WP:=fun w=>∃Bs,post t Bs∧Sx B Bs w
theorem QAD{ss:List Sh}{post:Tup ss→List HP→Prop}{t:Tup ss}(h:post t As):Ent B As (Ret B post t):=fun _ hw=>⟨As,h,hw⟩
theorem Sx.start{w:World}{h:QBe}{pre:List HP}(hs:QBl pre h)(hm:Sub h (mem w)):Sx ⟨w,h⟩ pre w:=
 ⟨h,hs,hm,rfl,rfl,rfl,Nat.le_refl _,Nat.le_refl _,fun _ _ e=>⟨rfl,e⟩⟩
theorem QAg{P:Program}{f:FuncId}{args:List Value}{rs:Rs}{ss:List Sh}{pre:List HP}{rd:HP}{post:Tup ss→List HP→Prop}{φ:Cur ss→WP}(c:∀{K:Cur ss}{w:World},φ K w→QAb P f args rs ss K w)
  (h:∀B:QBE,rd (frz B.W B.h0)→Ent B pre (φ (Cur.ofT ss (Ret B post)))):Ct P f args rs ss pre rd post:=by
 intro w g hs hm hr;have:=c (h ⟨w,g⟩ hr w (Sx.start hs hm));unfold QAb at this;refine this.mono ?_;rintro e w' ⟨t,he,hk⟩;rw[Cur.app_ofT]at hk;obtain⟨Bs,hp,hx⟩:=hk;exact⟨t,Bs,he,hp,hx⟩
theorem Qg4{P:Program}{f:FuncId}{args:List Value}{rs:Rs}{pre:List HP}{rd:HP}{post:Tup []→List HP→Prop}{φ:WP→WP}(c:∀{K:WP}{w:World},φ K w→QAb P f args rs [] K w)
  (h:∀B:QBE,rd (frz B.W B.h0)→Ent B pre (φ (Ret B post ()))):Ct P f args rs [] pre rd post:=QAg (ss:=[]) c h
theorem QGr{P:Program}{f:FuncId}{args:List Value}{rs:Rs}{s:Sh}{pre:List HP}{rd:HP}{post:Tup [s]→List HP→Prop}{φ:(s.ty→WP)→WP}(c:∀{K:s.ty→WP}{w:World},φ K w→QAb P f args rs [s] K w)
  (h:∀B:QBE,rd (frz B.W B.h0)→Ent B pre (φ fun x=>Ret B post (x,()))):Ct P f args rs [s] pre rd post:=QAg (ss:=[s]) c h
theorem QeH{P:Program}{f:FuncId}{args:List Value}{rs:Rs}{s t:Sh}{pre:List HP}{rd:HP}{post:Tup [s,t]→List HP→Prop}{φ:(s.ty→t.ty→WP)→WP}(c:∀{K:s.ty→t.ty→WP}{w:World},φ K w→QAb P f args rs [s,t] K w)
  (h:∀B:QBE,rd (frz B.W B.h0)→Ent B pre (φ fun x y=>Ret B post (x,y,()))):Ct P f args rs [s,t] pre rd post:=QAg (ss:=[s,t]) c h
theorem QhP{P:Program}{f:FuncId}{args:List Value}{rs:Rs}{s t u:Sh}{pre:List HP}{rd:HP}{post:Tup [s,t,u]→List HP→Prop}{φ:(s.ty→t.ty→u.ty→WP)→WP}(c:∀{K:s.ty→t.ty→u.ty→WP}{w:World},φ K w→QAb P f args rs [s,t,u] K w)
  (h:∀B:QBE,rd (frz B.W B.h0)→Ent B pre (φ fun x y z=>Ret B post (x,y,z,()))):Ct P f args rs [s,t,u] pre rd post:=QAg (ss:=[s,t,u]) c h
def Rds(B:QBE)(F:List HP)(rd:HP):Prop:=∀(w:World) (hp hF:QBe),QBl F hF→Sub hF (mem w)→Dis hp hF→Sub hp (mem w)→Upd B (uni hp hF) w→rd (frz w hp)
theorem Upd.sub{h g:QBe}{w:World}(hu:Upd B h w)(s:Sub g h):Upd B g w:=
 ⟨hu.os,hu.tape,hu.output,hu.drawn,hu.size,fun k hk h0=>⟨(hu.old k hk h0).1,by
  cases hg:g k with
  | none=>rfl
  | some o=>have:=(hu.old k hk h0).2;rw[s k o hg]at this;cases this⟩⟩
theorem Qdb{P:Program}{f:FuncId}{args:List Value}{rs:Rs}{ss:List Sh}{pre F:List HP}{rd:HP}{post:Tup ss→List HP→Prop}{K:Cur ss}(sp:Ct P f args rs ss pre rd post)(p:As.Perm (pre++F))(hrd:Rds B F rd)
  (h:∀t Bs,post t Bs→Ent B (Bs++F) (Cur.app ss K t)):Ent B As (QAb P f args rs ss K):=by
 intro w hw;obtain⟨g,hs,hm,hu⟩:=hw.perm p;obtain⟨a,b,ha,hb,hd,sa,sb⟩:=(QAj pre F).1 hs;have hu':Upd B (uni a b) w:=hu.sub (QEI sa sb);unfold QAb;refine (sp w a ha (sa.trans hm) (hrd w a b hb (sb.trans hm) hd (sa.trans hm) hu')).mono ?_;rintro e w' ⟨t,Bs,he,hp,c,hc,hcm,hcu⟩;refine⟨t,he,h t Bs hp w' ⟨uni c b,(QAj Bs F).2 ⟨c,b,hc,hb,?_,QBV _ _,?_⟩,?_,?_⟩⟩
 all_goals
  have key:∀k o,b k=some o→w'.heap[k]? = some o∧c k=none:=by
   intro k o hk;have h1:w.heap[k]? = some o:=(sb.trans hm) k o hk;have hlt:k<w.heap.size:=(Array.getElem?_eq_some_iff.1 h1).1
   have ha0:a k=none:=by
    rcases hd k with e|e
    ·exact e
    ·rw[hk]at e;cases e
   have:=hcu.old k hlt ha0;exact⟨by rw[this.1];exact h1,this.2⟩
  have hdis:Dis c b:=fun k=>by
   cases hk:b k with
   | none=>exact .inr rfl
   | some o=>exact .inl (key k o hk).2
 ·exact hdis
 ·exact QBT hdis
 ·exact QEI hcm fun k o hk=>(key k o hk).1
 ·refine⟨by rw[hcu.os,hu.os],by rw[hcu.tape,hu.tape],by rw[hcu.output,hu.output],Nat.le_trans hu.drawn hcu.drawn,Nat.le_trans hu.size hcu.size,fun k hk h0=>?_⟩;have h1:=hu'.old k hk h0;have h2:=QEB.1 h1.2;have h3:=hcu.old k (Nat.lt_of_lt_of_le hk hu.size) h2.1;exact⟨by rw[h3.1];exact h1.1,QEB.2 ⟨h3.2,h2.2⟩⟩
def emp:HP:=fun _=>True
class Pick(i:Nat)(As:List HP)(P:outParam HP)(F:outParam (List HP)):Prop where
 perm:As.Perm (P::F)
instance Pick.zero(A:HP)(As:List HP):Pick 0 (A::As) A As:=⟨List.Perm.refl _⟩
instance Pick.succ(i:Nat)(A P:HP)(As F:List HP)[h:Pick i As P F]:Pick (i+1) (A::As) P (A::F):=⟨(h.perm.cons A).trans (List.Perm.swap _ _ _)⟩
theorem QAy{F:List HP}{φ:WP}(h:Ent B F φ):Ent B ([]++F) φ:=h
theorem QA5{A:HP}{F:List HP}{φ:WP}(h:Ent B (A::F) φ):Ent B ([A]++F) φ:=h
theorem QBM{A A':HP}{F:List HP}{φ:WP}(h:Ent B (A::A'::F) φ):Ent B ([A,A']++F) φ:=h
theorem QQA{A A' A'':HP}{F:List HP}{φ:WP}(h:Ent B (A::A'::A''::F) φ):Ent B ([A,A',A'']++F) φ:=h
variable {P:Program}{f:FuncId}{args:List Value}{rs:Rs}{ss:List Sh}{rd:HP}{post:Tup ss→List HP→Prop}{K:Cur ss}
theorem QAR(sp:Ct P f args rs ss [] rd post)(hrd:Rds B As rd)(h:∀t Bs,post t Bs→Ent B (Bs++As) (Cur.app ss K t)):Ent B As (QAb P f args rs ss K):=
 Qdb sp (List.Perm.refl _) hrd h
theorem QeV(i:Nat){P1:HP}{F:List HP}[p:Pick i As P1 F](sp:Ct P f args rs ss [P1] rd post)(hrd:Rds B F rd)(h:∀t Bs,post t Bs→Ent B (Bs++F) (Cur.app ss K t)):Ent B As (QAb P f args rs ss K):=
 Qdb sp p.perm hrd h
theorem QhE(i:Nat){P1:HP}{F:List HP}[p:Pick i As P1 F]{Bs:List HP}{φ:WP}(h:∀g,P1 g→QBl Bs g)(k:Ent B (Bs++F) φ):Ent B As φ:=by
 refine Ent.perm p.perm ?_;intro w hw;obtain⟨g,⟨a,b,pa,pb,d,sa,sb⟩,hm,hu⟩:=hw;exact k w ⟨g,(QAj Bs F).2 ⟨a,b,h a pa,pb,d,sa,sb⟩,hm,hu⟩
theorem QFI(i:Nat){P1:HP}{F:List HP}[p:Pick i As P1 F]{φ:WP}(R:List HP→Prop)(h:∀g,P1 g→∃Bs,R Bs∧QBl Bs g)(k:∀Bs,R Bs→Ent B (Bs++F) φ):Ent B As φ:=by
 refine Ent.perm p.perm ?_;intro w hw;obtain⟨g,⟨a,b,pa,pb,d,sa,sb⟩,hm,hu⟩:=hw;obtain⟨Bs,hR,hB⟩:=h a pa;exact k Bs hR w ⟨g,(QAj Bs F).2 ⟨a,b,hB,pb,d,sa,sb⟩,hm,hu⟩
theorem QHn{As':List HP}{φ:WP}(h:∀g,QBl As g→QBl As' g)(k:Ent B As' φ):Ent B As φ:=by
 rintro w ⟨g,hs,hm,hu⟩;exact k w ⟨g,h g hs,hm,hu⟩
end Go.Cf
namespace Go.Cf
open Go
structure Enc(α:Type) where
 f:α→List Value
 sz:Nat
 len:∀x,(f x).length=sz
 one:∀x,∀v∈f x,v.oneCell'=true
 pos:0<sz
 zero:α
def QAf{α:Type}(E:Enc α)(xs:List α):List Value:=xs.flatMap E.f
theorem QAG{α:Type}(E:Enc α)(xs:List α):(QAf E xs).length=xs.length*E.sz:=by
 induction xs with
 | nil=>simp[QAf]
 | cons x xs ih=>
  have:QAf E (x::xs)=E.f x++QAf E xs:=by simp[QAf]
  rw[this,List.length_append,E.len,ih,List.length_cons,Nat.succ_mul];omega
theorem QAP{α:Type}(E:Enc α)(xs ys:List α):QAf E (xs++ys)=QAf E xs++QAf E ys:=by simp[QAf]
theorem QVF{α:Type}(E:Enc α):∀(xs:List α) (i j:Nat) (x:α),xs[i]? = some x→j<E.sz→(QAf E xs)[i*E.sz+j]? = (E.f x)[j]?:=by
 intro xs
 induction xs with
 | nil=>intro i j x h;simp at h
 | cons y xs ih=>
  intro i j x h hj
  have e:QAf E (y::xs)=E.f y++QAf E xs:=by simp[QAf]
  rw[e]
  cases i with
  | zero=>
   simp only[List.getElem?_cons_zero,Option.some.injEq]at h;subst h;rw[Nat.zero_mul,Nat.zero_add,List.getElem?_append_left (by rw[E.len];exact hj)]
  | succ i=>
   rw[List.getElem?_append_right (by rw[E.len,Nat.succ_mul];omega),E.len];rw[show (i+1)*E.sz+j - E.sz=i*E.sz+j by rw[Nat.succ_mul];omega];exact ih i j x (by simpa using h) hj
theorem Qbv{α:Type}(E:Enc α):∀(xs:List α) (i j:Nat) (x x':α) (v:Value),xs[i]? = some x→j<E.sz→(E.f x).set j v=E.f x'→(QAf E xs).set (i*E.sz+j) v=QAf E (xs.set i x'):=by
 intro xs
 induction xs with
 | nil=>intro i j x x' v h;simp at h
 | cons y xs ih=>
  intro i j x x' v h hj hx
  have e:∀y,QAf E (y::xs)=E.f y++QAf E xs:=fun y=>by simp[QAf]
  cases i with
  | zero=>
   simp only[List.getElem?_cons_zero,Option.some.injEq]at h;subst h;rw[Nat.zero_mul,Nat.zero_add,e,List.set_append_left _ _ (by rw[E.len];exact hj),hx];simp[QAf]
  | succ i=>
   rw[e,List.set_append_right _ _ (by rw[E.len,Nat.succ_mul];omega),E.len];rw[show (i+1)*E.sz+j - E.sz=i*E.sz+j by rw[Nat.succ_mul];omega];rw[ih i j x x' v (by simpa using h) hj hx];simp[QAf]
theorem QIW{α:Type}(E:Enc α)(xs:List α):∀v∈QAf E xs,v.oneCell'=true:=by
 intro v hv;simp only[QAf,List.mem_flatMap]at hv;obtain⟨x,_,hx⟩:=hv;exact E.one x v hx
def RArr(s:Sl)(sz:Nat)(cs:List Value):HP:=fun h=>cs.length=s.n*sz ∧
 (0<s.n→∃b o pre post e fr,s.p=some ⟨b,o,none⟩∧h b=some (.cells (pre++cs++post).toArray e fr)∧pre.length=o)
theorem RArr.mono{s:Sl}{sz:Nat}{cs:List Value}{h g:QBe}(ha:RArr s sz cs h)(hs:Sub h g):RArr s sz cs g:=by
 obtain⟨hl,hc⟩:=ha;refine⟨hl,fun hn=>?_⟩;obtain⟨b,o,pre,post,e,fr,hp,hb,ho⟩:=hc hn;exact⟨b,o,pre,post,e,fr,hp,hs _ _ hb,ho⟩
variable {α:Type}
def RAr(E:Enc α)(s:Sl)(xs:List α):HP:=fun h=>xs.length=s.n∧RArr s E.sz (QAf E xs) h
def Ars(E:Enc α)(s:Sl)(xs zs:List α):HP:=fun h=>xs.length=s.n∧xs.length+zs.length=s.c ∧
 ((s.p=none∧s.c=0)∨∃b o pre post e fr,s.p=some ⟨b,o,none⟩∧h b=some (.cells (pre++QAf E (xs++zs)++post).toArray e fr)∧pre.length=o ∧
  (∀i,i<(pre++QAf E (xs++zs)++post).length→¬(fr.1≤i∧i<fr.2))∧s.c≤9223372036854775807)
def Ar(E:Enc α)(s:Sl)(xs:List α):HP:=fun h=>∃zs,Ars E s xs zs h
theorem Ars.read{E:Enc α}{s:Sl}{xs zs:List α}{h:QBe}(ha:Ars E s xs zs h):RAr E s xs h:=by
 obtain⟨hn,hcap,hc⟩:=ha;refine⟨hn,by rw[QAG,hn],fun h0=>?_⟩;rcases hc with⟨_,h⟩|⟨b,o,pre,post,e,fr,hp,hb,ho,_⟩
 ·omega
 ·exact⟨b,o,pre,QAf E zs++post,e,fr,hp,by rw[hb,QAP];simp[List.append_assoc],ho⟩
theorem Ar.read{E:Enc α}{s:Sl}{xs:List α}{h:QBe}(ha:Ar E s xs h):RAr E s xs h:=by
 obtain⟨zs,ha⟩:=ha;exact ha.read
theorem Ars.shift{E:Enc α}{p:Option Addr}{n n' c:Nat}{xs zs xs' zs':List α}{h:QBe}(ha:Ars E ⟨p,n,c⟩ xs zs h)(hx:xs++zs=xs'++zs')(hn:xs'.length=n'):Ars E ⟨p,n',c⟩ xs' zs' h:=by
 obtain⟨h1,h2,h3⟩:=ha
 have hl:xs.length+zs.length=xs'.length+zs'.length:=by simpa using congrArg List.length hx
 refine⟨hn,by rw[←hl];exact h2,?_⟩;rw[←hx];exact h3
theorem RAr.mono{E:Enc α}{s:Sl}{xs:List α}{h g:QBe}(ha:RAr E s xs h)(hs:Sub h g):RAr E s xs g:=⟨ha.1,ha.2.mono hs⟩
variable {B:QBE}{As:List HP}
theorem Sx.tail{A:HP}{w:World}(h:Sx B (A::As) w):Sx B As w:=by
 obtain⟨g,⟨a,b,_,pb,_,_,sb⟩,hm,hu⟩:=h;exact⟨b,pb,sb.trans hm,hu.sub sb⟩
theorem Sx.frz{w:World}(h:Sx B As w):Sub (frz B.W B.h0) (mem w):=by
 obtain⟨g,_,_,hu⟩:=h;intro k o hk;unfold Cf.frz at hk
 cases hb:B.h0 k with
 | some x=>rw[hb]at hk;cases hk
 | none=>
  rw[hb]at hk;have hlt:k<B.W.heap.size:=(Array.getElem?_eq_some_iff.1 hk).1;show w.heap[k]? = some o;rw[(hu.old k hlt hb).1];exact hk
class Fro(B:QBE)(s:Sl){α:outParam Type}(E:outParam (Enc α))(xs:outParam (List α)):Prop where
 rd:RAr E s xs (frz B.W B.h0)
class RdA(B:QBE)(As:List HP)(s:Sl){α:outParam Type}(E:outParam (Enc α))(xs:outParam (List α)):Prop where
 rd:∀w,Sx B As w→RAr E s xs (mem w)
instance (priority:=low) RdA.fro(B:QBE)(As:List HP)(s:Sl)(E:Enc α)(xs:List α)[f:Fro B s E xs]:RdA B As s E xs:=⟨fun _ h=>f.rd.mono h.frz⟩
instance RdA.tail(B:QBE)(A:HP)(As:List HP)(s:Sl)(E:Enc α)(xs:List α)[r:RdA B As s E xs]:RdA B (A::As) s E xs:=⟨fun w h=>r.rd w h.tail⟩
instance (priority:=high) RdA.head(B:QBE)(As:List HP)(s:Sl)(E:Enc α)(xs:List α):RdA B (Ar E s xs::As) s E xs:=⟨fun w h=>by
 obtain⟨g,hg,hs⟩:=h.head
 exact hg.read.mono hs⟩
class OwnA(s:Sl)(As:List HP){α:outParam Type}(E:outParam (Enc α))(xs:outParam (List α))(upd:outParam (Sl→List α→List HP))(rest:outParam (List HP)):Prop where
 eq:As=upd s xs
 perm:∀t c,(upd t c).Perm (Ar E t c::rest)
instance OwnA.head(s:Sl)(E:Enc α)(xs:List α)(As:List HP):OwnA s (Ar E s xs::As) E xs (fun t c=>Ar E t c::As) As:=⟨rfl,fun _ _=>List.Perm.refl _⟩
instance OwnA.tail(s:Sl)(A:HP)(As:List HP)(E:Enc α)(xs:List α)(upd:Sl→List α→List HP)(rest:List HP)[o:OwnA s As E xs upd rest]:OwnA s (A::As) E xs (fun t c=>A::upd t c) (A::rest):=
 ⟨by rw[←o.eq],fun t c=>((o.perm t c).cons A).trans (List.Perm.swap _ _ _)⟩
theorem OwnA.start{s:Sl}{E:Enc α}{xs:List α}{upd:Sl→List α→List HP}{rest:List HP}(o:OwnA s As E xs upd rest):As.Perm (Ar E s xs::rest):=by rw[o.eq];exact o.perm s xs
def Sl.at(s:Sl)(sz i:Nat):Addr:=(s.p.getD ⟨0,0,none⟩).add (i*sz)
theorem QCR(b o n:Nat):(⟨b,o,none⟩:Addr).add n=⟨b,o+n,none⟩:=by
 unfold Addr.add;split
 ·rename_i h;subst h;rfl
 ·rfl
theorem RAr.cell{E:Enc α}{s:Sl}{xs:List α}{w:World}(h:RAr E s xs (mem w)){i j:Nat}{x:α}(hx:xs[i]? = some x)(hj:j<E.sz) :
  ∃b o,s.p=some ⟨b,o,none⟩∧(s.at E.sz i).add j=⟨b,o+(i*E.sz+j),none⟩∧w.cell? ⟨b,o+(i*E.sz+j),none⟩=(E.f x)[j]?:=by
 obtain⟨hl,_,hc⟩:=h;have hi:i<xs.length:=(List.getElem?_eq_some_iff.1 hx).1;obtain⟨b,o,pre,post,e,fr,hp,hb,ho⟩:=hc (by omega);refine⟨b,o,hp,?_,?_⟩
 ·simp only[Sl.at,hp,Option.getD_some,QCR,Nat.add_assoc]
 ·have hb':w.heap[b]? = some (.cells (pre++QAf E xs++post).toArray e fr):=hb;have hlen:=QAG E xs
  have hlt:i*E.sz+j<(QAf E xs).length:=by
   rw[hlen];have:(i+1)*E.sz≤xs.length*E.sz:=Nat.mul_le_mul_right _ hi;rw[Nat.succ_mul]at this;omega
  simp only[World.cell?,hb'];simp only[Option.isSome_none,Bool.false_eq_true,if_false,List.getElem?_toArray];rw[List.append_assoc,List.getElem?_append_right (by omega),ho,Nat.add_sub_cancel_left,List.getElem?_append_left hlt];exact QVF E xs i j x hx hj
theorem QZ4{E:Enc α}{xs:List α}{s:Sl}[r:RdA B As s E xs]{i:Int}{sz:Nat}{K:Addr→WP}(_hsz:E.sz=sz:=by rfl)(h0:0≤i)(h1:i<xs.length)
  (h:∀x,xs[i.toNat]? = some x→Ent B As (K (s.at sz i.toNat))):Ent B As (QKB s.p s.n i sz K):=by
 intro w hw;have hr:=r.rd w hw
 have hlt:i.toNat<xs.length:=by omega
 obtain⟨b,o,hp,_,_⟩:=hr.cell (i:=i.toNat) (j:=0) (List.getElem?_eq_getElem hlt) E.pos;refine⟨_,hp,h0,by rw[←hr.1];exact h1,?_⟩;have:=h _ (List.getElem?_eq_getElem hlt) w hw;simp only[Sl.at,hp,Option.getD_some]at this;exact this
theorem QAH{E:Enc α}{xs:List α}{s:Sl}[r:RdA B As s E xs]{k:Nat}{sz:Nat}{K:Addr→WP}(hsz:E.sz=sz:=by rfl)(h1:k<xs.length)
  (h:∀x,xs[k]? = some x→Ent B As (K (s.at sz k))):Ent B As (QKB s.p s.n (k:Int) sz K):=
 QZ4 hsz (by omega) (by omega) (by simpa using h)
theorem QAN{E:Enc α}{xs:List α}{s:Sl}[r:RdA B As s E xs]{i sz:Nat}{x:α}{sh:Sh}{v:sh.ty}{K:sh.ty→WP}(hx:xs[i]? = some x)(hsz:E.sz=sz:=by rfl)(hv:(E.f x)[0]? = some (sh.mk v):=by rfl)
  (h:Ent B As (K v)):Ent B As (QAq sh (s.at sz i) K):=by
 intro w hw;subst hsz;obtain⟨b,o,_,ha,hc⟩:=(r.rd w hw).cell hx E.pos;refine⟨v,?_,h w hw⟩
 have e:(s.at E.sz i).add 0=s.at E.sz i:=by simp[Addr.add]
 rw[←e,ha,hc,hv]
theorem QAZ{E:Enc α}{xs:List α}{s:Sl}[r:RdA B As s E xs]{i j sz:Nat}{x:α}{sh:Sh}{v:sh.ty}{K:sh.ty→WP}(hx:xs[i]? = some x)(hsz:E.sz=sz:=by rfl)(hv:(E.f x)[j]? = some (sh.mk v):=by rfl)
  (h:Ent B As (K v)):Ent B As (QAq sh ((s.at sz i).add j) K):=by
 intro w hw;subst hsz
 have hj:j<E.sz:=by
  rw[←E.len x];exact (List.getElem?_eq_some_iff.1 hv).1
 obtain⟨b,o,_,ha,hc⟩:=(r.rd w hw).cell hx hj;exact⟨v,by rw[ha,hc,hv],h w hw⟩
theorem QM1{E:Enc α}{xs:List α}{s:Sl}[r:RdA B As s E xs]{i sz:Nat}{x:α}{v:Value}{K:WP}(hx:xs[i]? = some x)(hsz:E.sz=sz:=by rfl)(hv:(E.f x)[0]? = some v:=by rfl)
  (h:Ent B As K):Ent B As (QKv (s.at sz i) v K):=by
 intro w hw;subst hsz;obtain⟨b,o,_,ha,hc⟩:=(r.rd w hw).cell hx E.pos
 have e:(s.at E.sz i).add 0=s.at E.sz i:=by simp[Addr.add]
 exact⟨by rw[←e,ha,hc,hv],h w hw⟩
theorem QU2{E:Enc α}{xs:List α}{s:Sl}[r:RdA B As s E xs]{i j sz:Nat}{x:α}{v:Value}{K:WP}(hx:xs[i]? = some x)(hsz:E.sz=sz:=by rfl)(hv:(E.f x)[j]? = some v:=by rfl)
  (h:Ent B As K):Ent B As (QKv ((s.at sz i).add j) v K):=by
 intro w hw;subst hsz
 have hj:j<E.sz:=by
  rw[←E.len x];exact (List.getElem?_eq_some_iff.1 hv).1
 obtain⟨b,o,_,ha,hc⟩:=(r.rd w hw).cell hx hj;exact⟨by rw[ha,hc,hv],h w hw⟩
theorem Ars.cap_le{E:Enc α}{s:Sl}{xs zs:List α}{h:QBe}(ha:Ars E s xs zs h):s.c≤9223372036854775807:=by
 rcases ha.2.2 with⟨_,h0⟩|⟨_,_,_,_,_,_,_,_,_,_,hM⟩
 ·omega
 ·exact hM
theorem Ars.blk{E:Enc α}{s:Sl}{xs zs:List α}{h:QBe}(ha:Ars E s xs zs h){b o:Nat}(hp:s.p=some ⟨b,o,none⟩) :
  ∃pre post,Blk b (pre++QAf E (xs++zs)++post) h∧pre.length=o:=by
 obtain⟨_,_,hc⟩:=ha;rcases hc with⟨h0,_⟩|⟨b',o',pre,post,e,fr,hp',hb,ho,hfr,_⟩
 ·rw[hp]at h0;cases h0
 ·rw[hp]at hp';cases hp';exact⟨pre,post,⟨e,fr,hb,hfr⟩,ho⟩
theorem Ars.of_blk{E:Enc α}{s:Sl}{xs zs:List α}{h:QBe}{b o:Nat}{pre post:List Value}(hb:Blk b (pre++QAf E (xs++zs)++post) h)(hp:s.p=some ⟨b,o,none⟩)(ho:pre.length=o)(hn:xs.length=s.n)(hc:xs.length+zs.length=s.c)(hM:s.c≤9223372036854775807):Ars E s xs zs h:=by
 obtain⟨e,fr,hb,hfr⟩:=hb;exact⟨hn,hc,.inr ⟨b,o,pre,post,e,fr,hp,hb,ho,hfr,hM⟩⟩
theorem QCx{E:Enc α}{xs:List α}{s:Sl}{upd:Sl→List α→List HP}{rest:List HP}[o:OwnA s As E xs upd rest]{i j sz:Nat}{x:α}(x':α){v:Value}{K:WP}(hx:xs[i]? = some x)(hsz:E.sz=sz:=by rfl)(hj:j<E.sz)
  (hv:(E.f x).set j v=E.f x') (h:Ent B (upd s (xs.set i x')) K):Ent B As (QBG ((s.at sz i).add j) v K):=by
 subst hsz;intro w hw;have hw1:=hw.perm o.start;obtain⟨g,⟨h1,h2,⟨zs,p1⟩,p2,d,s1,s2⟩,hsub,hu⟩:=hw1;have hr:=(p1.read).mono (s1.trans hsub);obtain⟨b,o',hp,ha,_⟩:=hr.cell hx hj;obtain⟨pre,post,hblk,hpre⟩:=p1.blk hp;rw[ha];have hi:i<xs.length:=(List.getElem?_eq_some_iff.1 hx).1
 have hx2:(xs++zs)[i]? = some x:=by rw[List.getElem?_append_left hi];exact hx
 have hlt:i*E.sz+j<(QAf E (xs++zs)).length:=by
  rw[QAG];have:(i+1)*E.sz≤(xs++zs).length*E.sz:=Nat.mul_le_mul_right _ (by simp;omega);rw[Nat.succ_mul]at this;omega
 have hone:v.oneCell'=true:=by
  refine E.one x' v ?_;rw[←hv];exact List.mem_set (by rw[E.len];exact hj) v
 have hset:(pre++QAf E (xs++zs)++post).set (o'+(i*E.sz+j)) v=pre++QAf E (xs.set i x'++zs)++post:=by
  rw[List.append_assoc,List.set_append_right _ _ (by omega),hpre,Nat.add_sub_cancel_left,List.set_append_left _ _ hlt,Qbv E _ i j x x' v hx2 hj hv,List.set_append_left _ _ hi,List.append_assoc]
 refine QHJ (B:=B) (As:=Blk b (pre++QAf E (xs++zs)++post)::rest) (b:=b) (cs:=pre++QAf E (xs++zs)++post) (rest:=rest) (off:=o'+(i*E.sz+j)) (v:=v) (K:=K) (As':=Blk b (pre++QAf E (xs.set i x'++zs)++post)::rest) (List.Perm.refl _)
  (by simp only[List.length_append]at hlt⊢;omega) hone (by rw[hset]) ?_ w ⟨g,⟨h1,h2,hblk,p2,d,s1,s2⟩,hsub,hu⟩
 refine QHn (As':=upd s (xs.set i x')) (fun g' hg'=>?_) h;refine QFW (o.perm s (xs.set i x')).symm (QA2 (fun q hq=>⟨zs,?_⟩) hg');exact Ars.of_blk hq hp hpre (by simpa using p1.1) (by simpa using p1.2.1) p1.cap_le
theorem QHd{E:Enc α}{xs:List α}{s:Sl}{upd:Sl→List α→List HP}{rest:List HP}[o:OwnA s As E xs upd rest]{i sz:Nat}{x:α}(x':α){v:Value}{K:WP}(hx:xs[i]? = some x)(hsz:E.sz=sz:=by rfl)
  (hv:(E.f x).set 0 v=E.f x') (h:Ent B (upd s (xs.set i x')) K):Ent B As (QBG (s.at sz i) v K):=by
 have e:(s.at sz i).add 0=s.at sz i:=by simp[Addr.add]
 rw[←e];exact QCx x' hx hsz E.pos hv h
theorem QAd(E:Enc α){φ:WP}(h:Ent B (Ar E ⟨none,0,0⟩ []::As) φ):Ent B As φ:=by
 rintro w ⟨g,hs,hm,hu⟩;exact h w ⟨g,⟨fun _=>none,g,⟨[],rfl,rfl,.inl ⟨rfl,rfl⟩⟩,hs,fun _=>.inl rfl,fun _ _ e=>(by cases e),Sub.refl _⟩,hm,hu⟩
theorem QAm{E:Enc α}{b:Nat}{cs:List Value}(xs:List α)(n:Nat)(hn:xs.length=n)(hcs:QAf E xs=cs){h:QBe}(hb:Blk b cs h)(hM:n≤9223372036854775807:=by decide):Ars E ⟨some ⟨b,0,none⟩,n,n⟩ xs [] h:=by
 subst hcs;exact Ars.of_blk (pre:=[]) (post:=[]) (by simpa using hb) rfl rfl hn (by simpa using hn) hM
end Go.Cf
namespace Go.Cf
open Go
def QH4(P:Program)(t e:TypeId)(sz by_:Nat):Bool:=
 match P.underlying t,P.info? e with
 | some (.slice e'),some i=>Nat.beq e' e&&Nat.beq i.size sz&&Nat.beq i.bytes by_&&Nat.blt 0 by_ &&
   (match i.zero with|some z=>Nat.beq z.cells.toList.length sz|none=>false)
 | _,_=>false
class QIH(P:Program)(t:TypeId)(e sz by_:outParam Nat)(z:outParam (List Value)):Prop where
 ok:QH4 P t e sz by_=true
 zero:QEw P e=some z
theorem QBq{P:Program}{t e:TypeId}{sz by_:Nat}(h:QH4 P t e sz by_=true) :
  ∃i z,P.underlying t=some (.slice e)∧P.info? e=some i∧i.size=sz∧i.bytes=by_∧0<by_∧i.zero=some z∧z.cells.size=sz:=by
 unfold QH4 at h
 cases ht:P.underlying t with
 | none=>rw[ht]at h;cases h
 | some dt=>
 cases hi:P.info? e with
 | none=>rw[ht,hi]at h;cases dt<;>cases h
 | some i=>
 rw[ht,hi]at h;cases dt<;>simp only[Bool.false_eq_true]at h
 rename_i e'
 simp only[Bool.and_eq_true]at h;obtain⟨⟨⟨⟨h1,h2⟩,h3⟩,h4⟩,h6⟩:=h;obtain rfl:=Nat.eq_of_beq_eq_true h1
 cases hz:i.zero with
 | none=>rw[hz]at h6;cases h6
 | some z=>
  rw[hz]at h6;exact⟨i,z,rfl,rfl,Nat.eq_of_beq_eq_true h2,Nat.eq_of_beq_eq_true h3,by simpa [Nat.blt_eq]using h4,hz,by simpa using Nat.eq_of_beq_eq_true h6⟩
theorem QCa{P:Program}(b:Nat)(e:TypeId)(fr:Nat×Nat):∀(vs:List Value) (o i:Nat) (l:List Value) (w:World),w.heap[b]? = some (.cells l.toArray e fr)→o+i+vs.length≤l.length →
  (∀k,k<l.length→¬(fr.1≤k∧k<fr.2))→(∀v∈vs,v.oneCell'=true) →
  ∃w',(storeCells ⟨b,o,none⟩ vs i).run P w=.ok () w'∧w'.heap[b]? = some (.cells (QER vs (o+i) l).toArray e fr)∧(∀k,k≠b→w'.heap[k]? = w.heap[k]?)∧w'.os=w.os∧w'.tape=w.tape∧w'.output=w.output∧Szd w w':=by
 intro vs
 induction vs with
 | nil=>intro o i l w hb _ _ _;exact⟨w,rfl,hb,fun _ _=>rfl,rfl,rfl,rfl,rfl,Nat.le_refl _⟩
 | cons v vs ih=>
  intro o i l w hb hle hfr hone;simp only[List.length_cons]at hle;have hset:=QJ8 w b (o+i) v hb;obtain⟨w',h1,h2,h3,h4,h5,h6,h7⟩:=ih o (i+1) (l.set (o+i) v) (w.setCell ⟨b,o+i,none⟩ v) hset (by simp;omega) (by simpa using hfr) (fun u hu=>hone u (List.mem_cons_of_mem _ hu));refine⟨w',?_,by rw[h2];rfl,fun k hk=>by rw[h3 k hk,QKD w b (o+i) v k hk],h4,h5,h6,by rw[h7.1];simp,h7.2⟩
  have hc:w.cell? ⟨b,o+i,none⟩=some l[o+i]:=by simp[World.cell?,hb,show o+i<l.length by omega]
  have hf:w.frozen? ⟨b,o+i,none⟩=false:=by
   simp only[World.frozen?,hb,Bool.and_eq_false_iff,decide_eq_false_iff_not];have:=hfr (o+i) (by omega);omega
  simp only[storeCells,QCR,Sem.run_bind,run_store P w _ v _ (hone v (List.mem_cons_self ..)),hc,hf,Bool.false_eq_true,if_false,Result.andThen_ok];exact h1
theorem QFc:∀(vs a c d:List Value),c.length=vs.length→QER vs a.length (a++c++d)=a++vs++d:=by
 intro vs
 induction vs with
 | nil=>intro a c d h;simp at h;subst h;simp[QER]
 | cons v vs ih=>
  intro a c d h
  cases c with
  | nil=>simp at h
  | cons x c=>
   have h':c.length=vs.length:=by simpa using h
   simp only[QER]
   have e:(a++x::c++d).set a.length v=(a++[v])++c++d:=by
    rw[List.append_assoc,List.set_append_right _ _ (Nat.le_refl _)];simp
   rw[e];have:=ih (a++[v]) c d h';simp only[List.length_append,List.length_cons,List.length_nil,Nat.zero_add]at this;rw[this];simp
theorem QYQ(w:World)(need old:Nat)(e:TypeId)(h:need<9223372036854775808):(Question.appendCap need old e).cut (w.tape w.drawn (.appendCap need old e))≤9223372036854775807:=by
 simp only[Question.cut]
 have e1:(2 ^ 63:Nat)=9223372036854775808:=by decide
 have:=Nat.mod_lt (w.tape w.drawn (.appendCap need old e)) (show 0<2 ^ 63 - need by omega);omega
theorem QXZ(w:World)(need old:Nat)(e:TypeId):need≤(Question.appendCap need old e).cut (w.tape w.drawn (.appendCap need old e)):=by
 simp only[Question.cut];omega
theorem RArr.first{P:Program}{q:Option Addr}{n c:Nat}{sz:Nat}{cs:List Value}{w:World}(h:RArr ⟨q,n,c⟩ sz cs (mem w)):(Builtin.firstCells sz n (.slice q n c)).run P w=.ok cs.toArray w:=by
 obtain⟨hl,hc⟩:=h;have nil:n=0→cs=[]:=fun hn=>List.eq_nil_of_length_eq_zero (by rw[hl];simp[hn])
 cases q with
 | none=>
  have hn:n=0:=by
   rcases Nat.eq_zero_or_pos n with h|h
   ·exact h
   ·obtain⟨b,o,_,_,_,_,hp',_⟩:=hc h;cases hp'
  rw[nil hn];simp[Builtin.firstCells]
 | some a=>
  rcases Nat.eq_zero_or_pos n with hn|hn
  ·rw[nil hn,hn];simp[Builtin.firstCells,loadCells,loadCellsFrom]
  ·obtain⟨b,o,pre,post,e,fr,hp',hb,ho⟩:=hc hn;simp only[Option.some.injEq]at hp';subst hp';have hb':w.heap[b]? = some (.cells (pre++cs++post).toArray e fr):=hb
   exact run_firstCells_some (P:=P) w sz n ⟨b,o,none⟩ n c cs hl (fun j v hj=>by
    have hlt:j<cs.length:=(List.getElem?_eq_some_iff.1 hj).1;rw[QCR];simp only[World.cell?,hb'];simp only[Option.isSome_none,Bool.false_eq_true,if_false,List.getElem?_toArray];rw[List.append_assoc,List.getElem?_append_right (by omega),ho,Nat.add_sub_cancel_left,List.getElem?_append_left hlt]
    exact hj)
section
variable {P:Program}{t ty e:TypeId}{sz by_:Nat}{w:World}
theorem QTm(hok:QH4 P t e sz by_=true){q:Option Addr}{sc n c:Nat}{cs:List Value}(hf:(Builtin.firstCells sz n (.slice q n c)).run P w=.ok cs.toArray w){sn:Nat}(hroom:sn+n≤sc) :
  (Builtin.append_ #[t,t] ty #[.slice none sn sc,.slice q n c]).run P w=.ok (.slice none (sn+n) sc) w:=by
 obtain⟨i,z,ht,hi,hsize,hbytes,hpos,hz,hzs⟩:=QBq hok;subst hsize;simp[Builtin.append_,run_underlying ht,sizeOf,typeInfo,hi,Builtin.lenOf,hroom,hf]
theorem QMD(hok:QH4 P t e sz by_=true){a:Addr}{q:Option Addr}{sn sc n c:Nat}{cs:List Value}(hf:(Builtin.firstCells sz n (.slice q n c)).run P w=.ok cs.toArray w)(hroom:sn+n≤sc){w':World}
  (hs:(storeCells (a.add (sn*sz)) cs).run P w=.ok () w'):(Builtin.append_ #[t,t] ty #[.slice (some a) sn sc,.slice q n c]).run P w=.ok (.slice (some a) (sn+n) sc) w':=by
 obtain⟨i,z,ht,hi,hsize,hbytes,hpos,hz,hzs⟩:=QBq hok;subst hsize;simp[Builtin.append_,run_underlying ht,sizeOf,typeInfo,hi,Builtin.lenOf,hroom,hf,hs]
theorem QRo(hok:QH4 P t e sz by_=true){p q:Option Addr}{sn sc n c:Nat}{os cs:List Value}(hfs:∀w2:World,mem w2=mem w→(Builtin.firstCells sz sn (.slice p sn sc)).run P w2=.ok os.toArray w2)
  (hf:∀w2:World,mem w2=mem w→(Builtin.firstCells sz n (.slice q n c)).run P w2=.ok cs.toArray w2) (hroom:¬sn+n≤sc) (hb:(sn+n)*by_≤140737488355328) {zl:List Value}(hzl:QEw P e=some zl) :
  ∃(k:Nat),sn+n≤k∧k≤9223372036854775807∧(Builtin.append_ #[t,t] ty #[.slice p sn sc,.slice q n c]).run P w=.ok (.slice (some ⟨w.heap.size,0,none⟩) (sn+n) k) (w.drew.alloc (.cells (os++cs++QIQ zl (k - (sn+n))).toArray e)):=by
 obtain⟨i,z,ht,hi,hsize,hbytes,hpos,hz,hzs⟩:=QBq hok;subst hsize;subst hbytes;have h48:=growslice_fits (by omega:sc<sn+n) hb
 have h63:¬(9223372036854775807<((sn:Int)+(n:Int))):=by
  have:sn+n≤(sn+n)*i.bytes:=Nat.le_mul_of_pos_right _ hpos;omega
 have h48':¬(281474976710656<Builtin.nextslicecap (sn+n) sc*i.bytes):=by omega
 have hf1:=hf w.drew rfl;have hf2:=hfs w.drew rfl;obtain⟨i',z',hi',hz',rfl⟩:=QCM hzl
 obtain rfl:i'=i:=by rw[hi]at hi';exact (Option.some.inj hi').symm
 obtain rfl:z'=z:=by rw[hz]at hz';exact (Option.some.inj hz').symm
 have hzc:∀m,Builtin.zeroCells z'.cells m=(QIQ z'.cells.toList m).toArray:=fun m=>by rw[←QEH];rfl
 refine⟨grownCap w (sn+n) sc e,QXZ w _ _ _,QYQ w _ _ _ (by omega),?_⟩;simp[Builtin.append_,run_underlying ht,sizeOf,typeInfo,zeroValue,hi,hz,Builtin.lenOf,hroom,h63,h48',Question.forced,hf1,hf2,newRow,grownCap,hzc]
end
variable {B:QBE}{As:List HP}{α:Type}
theorem QEf(E:Enc α)(m:Nat):QIQ (E.f E.zero) m=QAf E (List.replicate m E.zero):=by
 induction m with
 | zero=>rfl
 | succ m ih=>simp only[QIQ,ih,List.replicate_succ];simp[QAf]
theorem QLh{P:Program}{t ty e:TypeId}{sz by_:Nat}(hok:QH4 P t e sz by_=true){E:Enc α}(hsz:E.sz=sz)(hz:QEw P e=some (E.f E.zero)){s y:Sl}{xs ys:List α}{F:List HP}{w:World}(hw:Sx B (Ar E s xs::F) w)(hy:RAr E y ys (mem w))
  (hb:(xs.length+ys.length)*by_≤140737488355328) :
  ∃s' w',(Builtin.append_ #[t,t] ty #[s.v,y.v]).run P w=.ok (Sl.v s') w'∧Sx B (Ar E s' (xs++ys)::F) w':=by
 subst hsz;obtain⟨p,sn,sc⟩:=s;obtain⟨q,n,c⟩:=y;obtain⟨hyn,hyr⟩:=hy;simp only at hyn;have hfy:=fun(w2:World) (h:mem w2=mem w)=>RArr.first (P:=P) (w:=w2) (by rw[h];exact hyr)
 have hw0:=hw;obtain⟨g,⟨h1,h2,⟨zs,p1⟩,p2,dd,s1,s2⟩,hsub,hupd⟩:=hw;have hxr:RAr E ⟨p,sn,sc⟩ xs (mem w):=p1.read.mono (s1.trans hsub);have hfx:=fun(w2:World) (h:mem w2=mem w)=>RArr.first (P:=P) (w:=w2) (by rw[h];exact hxr.2)
 have hxn:xs.length=sn:=p1.1;have hxc:xs.length+zs.length=sc:=p1.2.1;by_cases hroom:sn+n≤sc
 ·cases p with
  | none=>
   have h0:sc=0:=by
    rcases p1.2.2 with⟨_,h⟩|⟨b,o,_,_,_,_,h,_⟩
    ·exact h
    ·cases h
   have hys:ys=[]:=List.eq_nil_of_length_eq_zero (by omega)
   have hn0:n=0:=by omega
   subst hys hn0;refine⟨⟨none,sn+0,sc⟩,w,QTm hok (hfy w rfl) hroom,?_⟩;rw[List.append_nil];exact hw0
  | some a=>
   rcases p1.2.2 with⟨h,_⟩|⟨b,o,pre,post,e1,fr,hp,hbk,ho,hfr,hM⟩
   ·cases h
   ·simp only[Option.some.injEq]at hp;subst hp;have hwb:w.heap[b]? = some (.cells (pre++QAf E (xs++zs)++post).toArray e1 fr):=hsub _ _ (s1 _ _ hbk);have hfl:=QAG E xs;have hfly:=QAG E ys
    have hzl:ys.length≤zs.length:=by omega
    have hzsplit:QAf E (xs++zs)=QAf E xs++QAf E (zs.take ys.length)++QAf E (zs.drop ys.length):=by
     rw[←QAP,←QAP,List.append_assoc,List.take_append_drop]
    obtain⟨w',r1,r2,r3,r4,r5,r6,r7⟩:=QCa (P:=P) b e1 fr (QAf E ys) (o+sn*E.sz) 0 (pre++QAf E (xs++zs)++post) w hwb (by
     have:(xs.length+ys.length)*E.sz≤(xs.length+zs.length)*E.sz:=Nat.mul_le_mul_right _ (by omega);rw[Nat.add_mul]at this
     simp only[List.length_append,QAG,hfly,ho,←hxn];omega) hfr (QIW E ys)
    have hseg:QER (QAf E ys) (o+sn*E.sz+0) (pre++QAf E (xs++zs)++post)=pre++QAf E (xs++ys++zs.drop ys.length)++post:=by
     have:=QFc (QAf E ys) (pre++QAf E xs) (QAf E (zs.take ys.length)) (QAf E (zs.drop ys.length)++post) (by rw[QAG,QAG,List.length_take,Nat.min_eq_left hzl]);rw[List.length_append,ho,hfl,hxn]at this;rw[Nat.add_zero,hzsplit,QAP,QAP];simp only[List.append_assoc]at this⊢;exact this
    rw[hseg]at r2;refine⟨⟨some ⟨b,o,none⟩,sn+n,sc⟩,w',QMD hok (hfy w rfl) hroom (by rw[QCR];exact r1),?_⟩;have hst:Sx B (Blk b (pre++QAf E (xs++zs)++post)::F) w:=⟨g,⟨h1,h2,⟨e1,fr,hbk,hfr⟩,p2,dd,s1,s2⟩,hsub,hupd⟩
    have:=hst.write (cs':=pre++QAf E (xs++ys++zs.drop ys.length)++post) hwb r3 r2 (by
     simp only[List.length_append,List.length_drop,QAG]
     have:xs.length+ys.length+(zs.length - ys.length)=xs.length+zs.length:=by omega
     rw[this]) r4 r5 r6 r7
    obtain⟨g',hg',hm',hu'⟩:=this;exact⟨g',QA2 (fun q hq=>⟨zs.drop ys.length,Ars.of_blk hq rfl ho (by simp;omega) (by simp;omega) hM⟩) hg',hm',hu'⟩
 ·obtain⟨k,hk,hkM,hrun⟩:=QRo (ty:=ty) hok hfx hfy hroom (by rw[←hxn,←hyn];exact hb) hz;refine⟨⟨some ⟨w.heap.size,0,none⟩,sn+n,k⟩,_,hrun,?_⟩;have hd:Sx B (Ar E ⟨p,sn,sc⟩ xs::F) w.drew:=hw0.drew;have ha:=(hd.tail).alloc (QAf E xs++QAf E ys++QIQ (E.f E.zero) (k - (sn+n))) e;obtain⟨g',hg',hm',hu'⟩:=ha;refine⟨g',QA2 (fun q hq=>⟨List.replicate (k - (sn+n)) E.zero,?_⟩) hg',hm',hu'⟩;rw[QEf,←QAP,←QAP]at hq;exact Ars.of_blk (pre:=[]) (post:=[]) (by simpa using hq) rfl rfl (by simp;omega) (by simp;omega) hkM
theorem QHb{P:Program}{t ty e:TypeId}{sz by_:Nat}{z:List Value}[a:QIH P t e sz by_ z]{E:Enc α}{s y:Sl}{xs ys:List α}{upd:Sl→List α→List HP}{rest:List HP}{K:Sl→WP}[o:OwnA s As E xs upd rest][r:RdA B As y E ys]
  (hsz:E.sz=sz:=by rfl) (hz:E.f E.zero=z:=by rfl) (hb:(xs.length+ys.length)*by_≤140737488355328) (h:∀s',Ent B (upd s' (xs++ys)) (K s')):Ent B As (QSR P t t ty s.v y.v K):=by
 intro w hw;obtain⟨s',w',hr,hx⟩:=QLh (ty:=ty) a.ok hsz (by rw[hz];exact a.zero) (hw.perm o.start) (r.rd w hw) hb;exact⟨s',w',hr,h s' w' (hx.perm (o.perm s' (xs++ys)).symm)⟩
theorem QEc{P:Program}{t ty e:TypeId}{sz by_:Nat}{z:List Value}[a:QIH P t e sz by_ z]{E:Enc α}{s:Sl}{xs:List α}{upd:Sl→List α→List HP}{rest:List HP}{b:Nat}{cs:List Value}{updb:List Value→List HP}{F:List HP}{K:Sl→WP}
  [ob:Own b As cs updb F] [o:OwnA s F E xs upd rest] (x:α) (hx:E.f x=cs:=by rfl) (hsz:E.sz=sz:=by rfl) (hz:E.f E.zero=z:=by rfl) (hb:(xs.length+1)*by_≤140737488355328) (h:∀s',Ent B (upd s' (xs++[x])) (K s')) :
  Ent B As (QSR P t t ty s.v (.slice (some ⟨b,0,none⟩) 1 1) K):=by
 intro w hw;have hw1:Sx B (Blk b cs::F) w:=hw.own
 have hw2:Sx B (Ars E ⟨some ⟨b,0,none⟩,1,1⟩ [x] []::F) w:=by
  obtain⟨g,hg,hm,hu⟩:=hw1;exact⟨g,QA2 (fun q hq=>QAm [x] 1 rfl (by simp[QAf,hx]) hq) hg,hm,hu⟩
 obtain⟨q,hq,hqs⟩:=hw2.head;obtain⟨s',w',hr,hx'⟩:=QLh (ty:=ty) a.ok hsz (by rw[hz];exact a.zero) (hw1.tail.perm o.start) (hq.read.mono hqs) (by simpa using hb);exact⟨s',w',hr,h s' w' (hx'.perm (o.perm s' (xs++[x])).symm)⟩
end Go.Cf
namespace Go.Cf
open Go
def U8:Enc UInt8:=⟨fun x=>[.int .u8 x.toNat],1,fun _=>rfl,fun x v h=>by simp at h;subst h;rfl,by decide,0⟩
def I64:Enc Int:=⟨fun x=>[.int .i64 x],1,fun _=>rfl,fun x v h=>by simp at h;subst h;rfl,by decide,0⟩
def BL:Enc Bool:=⟨fun x=>[.bool x],1,fun _=>rfl,fun x v h=>by simp at h;subst h;rfl,by decide,false⟩
def SL:Enc Sl:=⟨fun x=>[x.v],1,fun _=>rfl,fun x v h=>by simp at h;subst h;rfl,by decide,⟨none,0,0⟩⟩
def ST:Enc ByteArray:=⟨fun x=>[.string x],1,fun _=>rfl,fun x v h=>by simp at h;subst h;rfl,by decide,ByteArray.empty⟩
theorem QAB(x:Int)(h1 : -9223372036854775808≤x)(h2:x≤9223372036854775807):IntKind.i64.wrap x=x:=by
 have e1:(2 ^ IntKind.i64.bits:Int)=18446744073709551616:=by decide
 have e2:(2 ^ (IntKind.i64.bits - 1):Int)=9223372036854775808:=by decide
 have e3:IntKind.i64.signed=true:=rfl;simp only[IntKind.wrap,e1,e2,e3,Bool.true_and,decide_eq_true_eq];split<;>omega
theorem QAF(k:Nat)(h:k<9223372036854775807):IntKind.i64.wrap ((k:Int)+1)=((k+1:Nat):Int):=by
 rw[QAB _ (by omega) (by omega)];simp
theorem QM5(x y:UInt8):((x.toNat:Int) != (y.toNat:Int))=(x != y):=by
 rw[Bool.eq_iff_iff];simp only[bne_iff_ne,ne_eq];rw[Int.natCast_inj,UInt8.toNat_inj]
end Go.Cf
namespace Go.Cf
open Go
section
variable {α β:Type}
def Each(R:α→β→HP):List α→List β→HP
 | [],[]=>fun _=>True
 | x::xs,y::ys=>QBl [R x y,Each R xs ys]
 | _,_=>fun _=>False
theorem Each.length{R:α→β→HP}:∀{xs:List α}{ys:List β}{h:QBe},Each R xs ys h→xs.length=ys.length:=by
 intro xs
 induction xs with
 | nil=>intro ys h hh;cases ys<;>first|rfl|exact hh.elim
 | cons x xs ih=>
  intro ys h hh
  cases ys with
  | nil=>exact hh.elim
  | cons y ys=>
   obtain⟨a,b,_,⟨c,d,pc,_,_,_,_⟩,_,_,_⟩:=hh;simp[ih pc]
theorem Each.mono{R:α→β→HP}:∀{xs:List α}{ys:List β}{h g:QBe},Each R xs ys h→Sub h g→Each R xs ys g:=by
 intro xs
 cases xs with
 | nil=>intro ys h g hh _;cases ys<;>first|trivial|exact hh.elim
 | cons x xs=>
  intro ys h g hh s
  cases ys with
  | nil=>exact hh.elim
  | cons y ys=>exact QCc _ hh s
theorem QFL{P:HP}{l l':List HP}{h:QBe}(hp:∀g,P g→QBl l g)(hs:QBl (P::l') h):QBl (l++l') h:=by
 obtain⟨a,b,pa,pb,d,sa,sb⟩:=hs;exact (QAj l l').2 ⟨a,b,hp a pa,pb,d,sa,sb⟩
theorem QDL{P:HP}{l l':List HP}{h:QBe}(hp:∀g,QBl l g→P g)(hs:QBl (l++l') h):QBl (P::l') h:=by
 obtain⟨a,b,pa,pb,d,sa,sb⟩:=(QAj l l').1 hs;exact⟨a,b,hp a pa,pb,d,sa,sb⟩
theorem QEL{R:α→β→HP}{x:α}{y:β}:∀{xs:List α}{ys:List β}{h:QBe},QBl [Each R xs ys,R x y] h→Each R (xs++[x]) (ys++[y]) h:=by
 intro xs
 induction xs with
 | nil=>
  intro ys h hh
  cases ys with
  | cons=>obtain⟨a,_,pa,_⟩:=hh;exact pa.elim
  | nil=>
   have h2:=QDV hh;exact QCc _ h2 (Sub.refl _)
 | cons x' xs ih=>
  intro ys h hh
  cases ys with
  | nil=>obtain⟨a,_,pa,_⟩:=hh;exact pa.elim
  | cons y' ys=>
   have h1:QBl ([R x' y',Each R xs ys]++[R x y]) h:=QFL (fun g hg=>hg) hh;exact QBC (l':=[Each R (xs++[x]) (ys++[y])]) (fun g hg=>⟨g,fun _=>none,ih hg,trivial,fun _=>.inr rfl,Sub.refl _,fun _ _ e=>by cases e⟩) h1
theorem QCI{R:α→β→HP}:∀{xs:List α}{ys:List β}{h:QBe}{i:Nat}{x:α}{y:β},Each R xs ys h→xs[i]? = some x→ys[i]? = some y→QBl [R x y,Each R (xs.eraseIdx i) (ys.eraseIdx i)] h:=by
 intro xs
 induction xs with
 | nil=>intro ys h i x y _ hx;simp at hx
 | cons x' xs ih=>
  intro ys h i x y hh hx hy
  cases ys with
  | nil=>exact hh.elim
  | cons y' ys=>
   cases i with
   | zero=>
    simp only[List.getElem?_cons_zero,Option.some.injEq]at hx hy;subst hx hy;exact hh
   | succ i=>
    have h1:QBl [R x' y',R x y,Each R (xs.eraseIdx i) (ys.eraseIdx i)] h:=by
     refine QBC (fun g hg=>?_) hh;obtain⟨a,b,pa,_,_,sa,_⟩:=hg;exact QCc _ (ih pa (by simpa using hx) (by simpa using hy)) sa
    refine QBC (l':=[Each R ((x'::xs).eraseIdx (i+1)) ((y'::ys).eraseIdx (i+1))]) (fun g hg=>?_) (QDV h1);exact⟨g,fun _=>none,QCc _ hg (Sub.refl _),trivial,fun _=>.inr rfl,Sub.refl _,fun _ _ e=>by cases e⟩
theorem QDP{R:α→β→HP}:∀{xs:List α}{ys:List β}{h:QBe}{i:Nat}{x:α}{y:β},i<xs.length→i<ys.length→QBl [R x y,Each R (xs.eraseIdx i) (ys.eraseIdx i)] h→Each R (xs.set i x) (ys.set i y) h:=by
 intro xs
 induction xs with
 | nil=>intro ys h i x y hi;simp at hi
 | cons x' xs ih=>
  intro ys h i x y hi hj hh
  cases ys with
  | nil=>simp at hj
  | cons y' ys=>
   cases i with
   | zero=>exact hh
   | succ i=>
    have h1:QBl ([R x' y',Each R (xs.eraseIdx i) (ys.eraseIdx i)]++[R x y]) h:=QFL (fun g hg=>hg) (QDV hh);refine QBC (l':=[Each R (xs.set i x) (ys.set i y)]) (fun g hg=>?_) h1;exact⟨g,fun _=>none,ih (by simpa using hi) (by simpa using hj) (QDV hg),trivial,fun _=>.inr rfl,Sub.refl _,fun _ _ e=>by cases e⟩
theorem QDc{R:α→β→HP}{S:α→β→HP}(hm:∀x y g f,S x y g→Sub g f→S x y f)(hr:∀x y g,R x y g→S x y g):∀{xs:List α}{ys:List β}{h:QBe}{i:Nat}{x:α}{y:β},Each R xs ys h→xs[i]? = some x→ys[i]? = some y→S x y h:=by
 intro xs ys h i x y hh hx hy;obtain⟨a,b,pa,_,_,sa,_⟩:=QCI hh hx hy;exact hm _ _ _ _ (hr _ _ _ pa) sa
end
def Qe8(s:Sl)(bss:List (List UInt8)):HP:=fun h=>∃rs:List Sl,QBl [Ar SL s rs,Each (Ar U8) rs bss] h
end Go.Cf
namespace Go.Cf
open Go
set_option linter.unusedVariables false
variable {B:QBE}{As F:List HP}{α:Type}
theorem Upd.frz{h:QBe}{w:World}(hu:Upd B h w){g:QBe}(hg:Sub g h):Sub (frz B.W B.h0) (Cf.frz w g):=by
 intro k o hk;unfold Cf.frz at hk
 cases hb:B.h0 k with
 | some x=>rw[hb]at hk;cases hk
 | none=>
  rw[hb]at hk;have hlt:k<B.W.heap.size:=(Array.getElem?_eq_some_iff.1 hk).1;have h2:=hu.old k hlt hb
  have hgk:g k=none:=by
   cases h3:g k with
   | none=>rfl
   | some x=>have:=hg k x h3;rw[h2.2]at this;cases this
  unfold Cf.frz;rw[hgk];show w.heap[k]? = some o;rw[h2.1];exact hk
theorem QKF{rd:HP}(h:∀g,Sub (frz B.W B.h0) g→∀hF,QBl F hF→Sub hF g→rd g):Rds B F rd:=by
 intro w hp hF hs hm hd hpm hu;refine h _ (hu.frz (QBV _ _)) hF hs ?_;intro k o hk;unfold Cf.frz;rcases hd k with e|e
 ·rw[e];exact hm k o hk
 ·rw[hk]at e;cases e
class Rdb(B:QBE)(F:List HP)(rd:HP):Prop where
 go:∀g,Sub (frz B.W B.h0) g→∀hF,QBl F hF→Sub hF g→rd g
theorem rdb{rd:HP}[r:Rdb B F rd]:Rds B F rd:=QKF r.go
def HP.and(P Q:HP):HP:=fun h=>P h∧Q h
instance Rdb.emp:Rdb B F emp:=⟨fun _ _ _ _ _=>trivial⟩
instance Rdb.and(P Q:HP)[p:Rdb B F P][q:Rdb B F Q]:Rdb B F (P.and Q):=⟨fun g a b c d=>⟨p.go g a b c d,q.go g a b c d⟩⟩
instance (priority:=low) Rdb.fro(s:Sl)(E:Enc α)(xs:List α)[f:Fro B s E xs]:Rdb B F (RAr E s xs):=⟨fun _ a _ _ _=>f.rd.mono a⟩
instance (priority:=high) Rdb.head(s:Sl)(E:Enc α)(xs:List α):Rdb B (Ar E s xs::F) (RAr E s xs):=⟨fun g _ hF ⟨_,_,pa,_,_,sa,_⟩ c=>pa.read.mono (sa.trans c)⟩
instance Rdb.tail(A:HP)(rd:HP)[r:Rdb B F rd]:Rdb B (A::F) rd:=⟨fun g a hF ⟨_,q,_,pb,_,_,sb⟩ c=>r.go g a q pb (sb.trans c)⟩
class Qfm(B:QBE)(rd:HP):Prop where
 now:rd (frz B.W B.h0)
 mono:∀g h,rd g→Sub g h→rd h
instance (priority:=low) Rdb.froP(rd:HP)[f:Qfm B rd]:Rdb B F rd:=⟨fun g a _ _ _=>f.mono _ g f.now a⟩
theorem Sx.keep{l l':List HP}{w:World}(h:Sx B (l++l') w):Sx B l w:=by
 obtain⟨g,hs,hm,hu⟩:=h;obtain⟨a,b,pa,_,_,sa,_⟩:=(QAj l l').1 hs;exact⟨a,pa,sa.trans hm,hu.sub sa⟩
theorem QB5(i:Nat){P1:HP}{F:List HP}[p:Pick i As P1 F]{φ:WP}(h:Ent B F φ):Ent B As φ:=fun w hw=>h w (hw.perm p.perm).tail
theorem QAa{l l':List HP}{φ:WP}(h:Ent B l φ):Ent B (l++l') φ:=fun w hw=>h w hw.keep
theorem QgC(s:Sl)(l h m sz:Nat):∀b o,s.p=some ⟨b,o,none⟩→l<m→(s.cut l h m sz).p=some ⟨b,o+l*sz,none⟩:=by
 intro b o hp hlt;unfold Sl.cut;rw[if_neg (by omega),hp];simp[QCR]
theorem RAr.cut{E:Enc α}{s:Sl}{xs:List α}{h:QBe}(ha:RAr E s xs h)(l r m:Nat)(h1:l≤r)(h2:r≤m)(h3:r≤xs.length):RAr E (s.cut l r m E.sz) ((xs.take r).drop l) h:=by
 obtain⟨hn,hc,hr⟩:=ha
 have hlen:((xs.take r).drop l).length=r - l:=by simp[Nat.min_eq_left h3]
 refine⟨hlen,by rw[QAG,hlen];rfl,fun h0=>?_⟩;have h0':0<r - l:=h0;obtain⟨b,o,pre,post,e,fr,hp,hb,ho⟩:=hr (by omega);refine⟨b,o+l*E.sz,pre++QAf E (xs.take l),QAf E (xs.drop r)++post,e,fr,QgC s l r m E.sz b o hp (by omega),?_,?_⟩
 ·rw[hb];congr 3
  have e1:xs=xs.take l++((xs.take r).drop l++xs.drop r):=by
   conv=>lhs;rw[←List.take_append_drop r xs]
   conv=>lhs;rw[←List.take_append_drop l (xs.take r)]
   rw[List.take_take,Nat.min_eq_left h1,List.append_assoc]
  conv=>lhs;rw[e1]
  rw[QAP,QAP];simp only[List.append_assoc]
 ·rw[List.length_append,QAG,ho,List.length_take,Nat.min_eq_left (by omega)]
theorem QEh{s:Sl}{l r m:Int}{sz:Nat}{K:Sl→WP}(h0:0≤l)(h1:l≤r)(h2:r≤m)(h3:m≤s.c)(h:Ent B As (K (s.cut l.toNat r.toNat m.toNat sz))):Ent B As (QQU s l r m sz K):=
 fun w hw=>⟨h0,h1,h2,h3,h w hw⟩
theorem QHM(s:Sl)(r sz:Nat):s.cut 0 r s.c sz=⟨s.p,r,s.c⟩:=by
 unfold Sl.cut;split
 ·simp
 ·cases s.p with
  | none=>simp
  | some a=>simp[Addr.add]
theorem Ars.cap{E:Enc α}{s:Sl}{xs zs:List α}{h:QBe}(ha:Ars E s xs zs h):s.n≤s.c:=by
 have:=ha.1;have:=ha.2.1;omega
theorem QZO{P:Program}{t ty e:TypeId}{sz by_:Nat}(hok:QH4 P t e sz by_=true){E:Enc α}(hsz:E.sz=sz){p:Option Addr}{sn sc:Nat}{y:Sl}{xs zs ys:List α}{F:List HP}{w:World}(hw:Sx B (Ars E ⟨p,sn,sc⟩ xs zs::F) w)(hy:RAr E y ys (mem w))
  (hroom:xs.length+ys.length≤sc) (h0:0<sc) :
  ∃w',(Builtin.append_ #[t,t] ty #[.slice p sn sc,y.v]).run P w=.ok (.slice p (sn+y.n) sc) w'∧Sx B (Ars E ⟨p,sn+y.n,sc⟩ (xs++ys) (zs.drop ys.length)::F) w':=by
 subst hsz;obtain⟨q,n,c⟩:=y;obtain⟨hyn,hyr⟩:=hy;simp only at hyn;have hfy:=fun(w2:World) (h:mem w2=mem w)=>RArr.first (P:=P) (w:=w2) (by rw[h];exact hyr)
 obtain⟨g,⟨h1,h2,p1,p2,dd,s1,s2⟩,hsub,hupd⟩:=hw;have hxn:xs.length=sn:=p1.1;have hxc:xs.length+zs.length=sc:=p1.2.1;rcases p1.2.2 with⟨_,h⟩|⟨b,o,pre,post,e1,fr,hp,hbk,ho,hfr,hM⟩
 ·simp only at h;omega
 simp only at hp;subst hp;have hwb:w.heap[b]? = some (.cells (pre++QAf E (xs++zs)++post).toArray e1 fr):=hsub _ _ (s1 _ _ hbk);have hfl:=QAG E xs;have hfly:=QAG E ys
 have hzl:ys.length≤zs.length:=by omega
 have hzsplit:QAf E (xs++zs)=QAf E xs++QAf E (zs.take ys.length)++QAf E (zs.drop ys.length):=by
  rw[←QAP,←QAP,List.append_assoc,List.take_append_drop]
 obtain⟨w',r1,r2,r3,r4,r5,r6,r7⟩:=QCa (P:=P) b e1 fr (QAf E ys) (o+sn*E.sz) 0 (pre++QAf E (xs++zs)++post) w hwb (by
  have:(xs.length+ys.length)*E.sz≤(xs.length+zs.length)*E.sz:=Nat.mul_le_mul_right _ (by omega);rw[Nat.add_mul]at this
  simp only[List.length_append,QAG,hfly,ho,←hxn];omega) hfr (QIW E ys)
 have hseg:QER (QAf E ys) (o+sn*E.sz+0) (pre++QAf E (xs++zs)++post)=pre++QAf E (xs++ys++zs.drop ys.length)++post:=by
  have:=QFc (QAf E ys) (pre++QAf E xs) (QAf E (zs.take ys.length)) (QAf E (zs.drop ys.length)++post) (by rw[QAG,QAG,List.length_take,Nat.min_eq_left hzl]);rw[List.length_append,ho,hfl,hxn]at this;rw[Nat.add_zero,hzsplit,QAP,QAP];simp only[List.append_assoc]at this⊢;exact this
 rw[hseg]at r2;refine⟨w',QMD hok (hfy w rfl) (by omega) (by rw[QCR];exact r1),?_⟩;have hst:Sx B (Blk b (pre++QAf E (xs++zs)++post)::F) w:=⟨g,⟨h1,h2,⟨e1,fr,hbk,hfr⟩,p2,dd,s1,s2⟩,hsub,hupd⟩
 have:=hst.write (cs':=pre++QAf E (xs++ys++zs.drop ys.length)++post) hwb r3 r2 (by
  simp only[List.length_append,List.length_drop,QAG]
  have:xs.length+ys.length+(zs.length - ys.length)=xs.length+zs.length:=by omega
  rw[this]) r4 r5 r6 r7
 obtain⟨g',hg',hm',hu'⟩:=this;exact⟨g',QA2 (fun q hq=>Ars.of_blk hq rfl ho (by simp;omega) (by simp;omega) (by exact hM)) hg',hm',hu'⟩
theorem QaX{P:Program}{t ty e:TypeId}{sz by_:Nat}(hok:QH4 P t e sz by_=true){E:Enc α}(hsz:E.sz=sz)(hz:QEw P e=some (E.f E.zero)){s:Sl}{xs zs us:List α}{l k c:Nat}{F:List HP}{w:World}(hw:Sx B (Ars E s xs zs::F) w)
  (hu:xs++zs=us) (hlk:l+k≤us.length) (h0:0<s.c) :
  ∃w',(Builtin.clear_ #[t] ty #[.slice (s.p.map (·.add (l*sz))) k c]).run P w=.ok (.tuple #[]) w'∧∀xs' zs',xs'++zs'=us.take l++List.replicate k E.zero++us.drop (l+k)→xs'.length=xs.length→Sx B (Ars E s xs' zs'::F) w':=by
 subst hsz hu;obtain⟨i,z,ht,hi,hsize,hbytes,hpos,hz0,hzs⟩:=QBq hok;obtain⟨i',z',hi',hz',hzf⟩:=QCM hz
 obtain rfl:i'=i:=by rw[hi]at hi';exact (Option.some.inj hi').symm
 obtain rfl:z'=z:=by rw[hz0]at hz';exact (Option.some.inj hz').symm
 have hzc:(Builtin.zeroCells z'.cells k).toList=QIQ z'.cells.toList k:=by
  have:=QEH (z:=z'.cells) (n:=k);show (Builtin.zeroCells z'.cells k).toList=_
  have h2:Builtin.zeroCells z'.cells k=(QIQ z'.cells.toList k).toArray:=by rw[←this];rfl
  rw[h2]
 have hst0:=hw;obtain⟨g,⟨h1,h2,p1,p2,dd,s1,s2⟩,hsub,hupd⟩:=hw;rcases p1.2.2 with⟨_,h⟩|⟨b,o,pre,post,e1,fr,hp,hbk,ho,hfr,hM⟩
 ·omega
 have hwb:w.heap[b]? = some (.cells (pre++QAf E (xs++zs)++post).toArray e1 fr):=hsub _ _ (s1 _ _ hbk)
 have hL:QIQ z'.cells.toList k=QAf E (List.replicate k E.zero):=by rw[←hzf,QEf]
 obtain⟨w',r1,r2,r3,r4,r5,r6,r7⟩:=QCa (P:=P) b e1 fr (QAf E (List.replicate k E.zero)) (o+l*E.sz) 0 (pre++QAf E (xs++zs)++post) w hwb (by
  have:(l+k)*E.sz≤(xs++zs).length*E.sz:=Nat.mul_le_mul_right _ hlk;rw[Nat.add_mul]at this
  simp only[List.length_append,QAG,ho,List.length_replicate]at this⊢;omega) hfr (QIW E _)
 have hsplit:QAf E (xs++zs)=QAf E ((xs++zs).take l)++QAf E (((xs++zs).drop l).take k)++QAf E ((xs++zs).drop (l+k)):=by
  rw[←QAP,←QAP,List.append_assoc,←List.drop_drop,List.take_append_drop,List.take_append_drop]
 have hseg:QER (QAf E (List.replicate k E.zero)) (o+l*E.sz+0) (pre++QAf E (xs++zs)++post)=pre++QAf E ((xs++zs).take l++List.replicate k E.zero++(xs++zs).drop (l+k))++post:=by
  have:=QFc (QAf E (List.replicate k E.zero)) (pre++QAf E ((xs++zs).take l)) (QAf E (((xs++zs).drop l).take k)) (QAf E ((xs++zs).drop (l+k))++post) (by
   rw[QAG,QAG,List.length_take,List.length_drop,List.length_replicate,Nat.min_eq_left (by omega)])
  rw[List.length_append,ho,QAG,List.length_take,Nat.min_eq_left (by omega)]at this;rw[Nat.add_zero,hsplit,QAP,QAP];simp only[List.append_assoc]at this⊢;exact this
 rw[hseg]at r2;by_cases hk:k=0
 ·subst hk;refine⟨w,by simp[Builtin.clear_,run_underlying ht,hp],fun xs' zs' he hl'=>?_⟩;obtain⟨g,hg,hm,hu⟩:=hst0;refine⟨g,QA2 (fun q hq=>?_) hg,hm,hu⟩;obtain⟨p,n,c'⟩:=s;exact hq.shift (by rw[he];simp) (by rw[hl'];exact hq.1)
 ·refine⟨w',?_,fun xs' zs' he hl'=>?_⟩
  ·obtain⟨m,rfl⟩:∃m,k=m+1:=⟨k - 1,by omega⟩;rw[hL]at hzc;simp[Builtin.clear_,run_underlying ht,hp,QCR,zeroValue,typeInfo,hi,hz0,hzc,r1]
  ·have hst:Sx B (Blk b (pre++QAf E (xs++zs)++post)::F) w:=⟨g,⟨h1,h2,⟨e1,fr,hbk,hfr⟩,p2,dd,s1,s2⟩,hsub,hupd⟩
   have hlen:((xs++zs).take l++List.replicate k E.zero++(xs++zs).drop (l+k)).length=(xs++zs).length:=by
    simp only[List.length_append,List.length_take,List.length_replicate,List.length_drop]at hlk⊢;omega
   have:=hst.write (cs':=pre++QAf E ((xs++zs).take l++List.replicate k E.zero++(xs++zs).drop (l+k))++post) hwb r3 r2 (by
    rw[List.length_append,List.length_append,List.length_append,List.length_append,QAG,QAG,hlen]) r4 r5 r6 r7
   obtain⟨g',hg',hm',hu'⟩:=this;refine⟨g',QA2 (fun q hq=>Ars.of_blk (b:=b) (o:=o) (pre:=pre) (post:=post) (by rw[he];exact hq) hp ho (by rw[hl'];exact p1.1) ?_ (by exact hM)) hg',hm',hu'⟩
   have hh:xs'.length+zs'.length=xs.length+zs.length:=by
    have h5:=congrArg List.length he;rw[hlen]at h5;simpa using h5
   rw[hh];exact p1.2.1
end Go.Cf
namespace Go.Cf
open Go
variable {B:QBE}{As:List HP}{α:Type}
theorem QCm{E:Enc α}{xs:List α}(s:Sl){upd:Sl→List α→List HP}{rest:List HP}[o:OwnA s As E xs upd rest]{φ:WP}(h:xs.length=s.n→s.n≤s.c→Ent B As φ):Ent B As φ:=by
 intro w hw;obtain⟨g,⟨zs,hg⟩,_⟩:=(hw.perm o.start).head;exact h hg.1 hg.cap w hw
end Go.Cf
namespace Go.Cf
open Go
variable {B:QBE}{As:List HP}{α:Type}
theorem QCh{P:HP}{g:QBe}(h:P g):QBl [P] g:=⟨g,fun _=>none,h,trivial,fun _=>.inr rfl,Sub.refl _,fun _ _ e=>by cases e⟩
theorem Qd8(i:Nat){E:Enc α}{s:Sl}{xs:List α}{F:List HP}[p:Pick i As (Ar E s xs) F]{φ:WP}(h:∀zs,xs.length=s.n→xs.length+zs.length=s.c→Ent B (Ars E s xs zs::F) φ):Ent B As φ:=by
 refine Ent.perm p.perm ?_;intro w hw;obtain⟨g,⟨a,b,⟨zs,pa⟩,pb,d,sa,sb⟩,hm,hu⟩:=hw;exact h zs pa.1 pa.2.1 w ⟨g,⟨a,b,pa,pb,d,sa,sb⟩,hm,hu⟩
theorem QcD{E:Enc α}{s:Sl}{xs zs:List α}{F:List HP}{φ:WP}(n':Nat)(xs' zs':List α)(hx:xs++zs=xs'++zs')(hn:xs'.length=n')(h:Ent B (Ars E ⟨s.p,n',s.c⟩ xs' zs'::F) φ):Ent B (Ars E s xs zs::F) φ:=by
 refine QHn (fun g hg=>QA2 (fun q hq=>?_) hg) h;obtain⟨p,n,c⟩:=s;exact hq.shift hx hn
theorem xar{E:Enc α}{s:Sl}{xs zs:List α}{F:List HP}{φ:WP}(h:Ent B (Ar E s xs::F) φ):Ent B (Ars E s xs zs::F) φ:=
 QHn (fun _ hg=>QA2 (fun _ hq=>⟨zs,hq⟩) hg) h
theorem Qc9{P:Program}{t ty e:TypeId}{sz by_:Nat}{z:List Value}[a:QIH P t e sz by_ z]{E:Enc α}{p:Option Addr}{sn sc:Nat}{y:Sl}{xs zs ys:List α}{F:List HP}{K:Sl→WP}
  (hy:∀g,Ars E ⟨p,sn,sc⟩ xs zs g→RAr E y ys g) (hroom:xs.length+ys.length≤sc) (h0:0<sc) (hsz:E.sz=sz:=by rfl) (h:Ent B (Ars E ⟨p,sn+y.n,sc⟩ (xs++ys) (zs.drop ys.length)::F) (K ⟨p,sn+y.n,sc⟩)) :
  Ent B (Ars E ⟨p,sn,sc⟩ xs zs::F) (QSR P t t ty (.slice p sn sc) y.v K):=by
 intro w hw;obtain⟨q,hq,hqs⟩:=hw.head;obtain⟨w',hr,hx⟩:=QZO (ty:=ty) a.ok hsz hw ((hy q hq).mono hqs) hroom h0;exact⟨⟨p,sn+y.n,sc⟩,w',hr,h w' hx⟩
theorem QhG{P:Program}{t ty e:TypeId}{sz by_:Nat}{z:List Value}[a:QIH P t e sz by_ z]{E:Enc α}{s:Sl}{xs zs:List α}{r m:Nat}{F:List HP}{K:Value→WP}
  (h1:xs.length<m) (_h2:xs.length≤r) (h3:r≤xs.length+zs.length) (h0:0<s.c) (hsz:E.sz=sz:=by rfl) (hz:E.f E.zero=z:=by rfl) (h:Ent B (Ar E s xs::F) (K (.tuple #[]))) :
  Ent B (Ars E s xs zs::F) (QcQ P t ty (s.cut xs.length r m sz).v K):=by
 intro w hw;obtain⟨w',hr,hx⟩:=QaX (ty:=ty) (l:=xs.length) (k:=r - xs.length) (c:=m - xs.length) a.ok hsz (by rw[hz];exact a.zero) hw rfl (by simp;omega) h0;refine⟨.tuple #[],w',?_,?_⟩
 ·unfold Sl.cut Sl.v;rw[if_neg (by omega)];exact hr
 ·have:=hx xs (List.replicate (r - xs.length) E.zero++zs.drop (r - xs.length)) (by simp) rfl;obtain⟨g,hg,hm,hu⟩:=this;exact h w' ⟨g,QA2 (fun q hq=>⟨_,hq⟩) hg,hm,hu⟩
end Go.Cf
namespace Go.Cf
open Go
variable {B:QBE}{As:List HP}{α β:Type}
theorem QAe(i:Nat){P1 Q:HP}{F:List HP}[p:Pick i As P1 F]{φ:WP}(h:∀g,P1 g→Q g)(k:Ent B (Q::F) φ):Ent B As φ:=
 Ent.perm p.perm (QHn (fun _ hg=>QA2 h hg) k)
theorem QRS(i j:Nat){P1 P2 Q:HP}{F F':List HP}[p:Pick i As P1 F][q:Pick j F P2 F']{φ:WP}(h:∀g,QBl [P1,P2] g→Q g)(k:Ent B (Q::F') φ):Ent B As φ:=
 Ent.perm (p.perm.trans (q.perm.cons P1)) (QHn (fun _ hg=>QDL (l:=[P1,P2]) h hg) k)
theorem Qe1(i j l:Nat){P1 P2 P3 Q:HP}{F F' F'':List HP}[p:Pick i As P1 F][q:Pick j F P2 F'][r:Pick l F' P3 F'']{φ:WP}(h:∀g,QBl [P1,P2,P3] g→Q g)(k:Ent B (Q::F'') φ):Ent B As φ:=
 Ent.perm (p.perm.trans (((q.perm.trans (r.perm.cons P2))).cons P1)) (QHn (fun _ hg=>QDL (l:=[P1,P2,P3]) h hg) k)
theorem QdZ(i:Nat){P1:HP}{F:List HP}[p:Pick i As P1 F]{φ:WP}(l:List HP)(h:∀g,P1 g→QBl l g)(k:Ent B (l++F) φ):Ent B As φ:=
 Ent.perm p.perm (QHn (fun _ hg=>QFL h hg) k)
theorem QBx(i:Nat){P1:HP}{F:List HP}[p:Pick i As P1 F]{φ:WP}{p':Prop}(h:∀g,P1 g→p')(k:p'→Ent B As φ):Ent B As φ:=by
 intro w hw;obtain⟨g,hg,_⟩:=(hw.perm p.perm).head;exact k (h g hg) w hw
end Go.Cf
namespace Go.Cf
open Go
variable {B:QBE}
theorem Qc4{A A' A'' A3:HP}{F:List HP}{φ:WP}(h:Ent B (A::A'::A''::A3::F) φ):Ent B ([A,A',A'',A3]++F) φ:=h
end Go.Cf
namespace Go.Cf
open Go
variable {B:QBE}{As:List HP}
theorem ca0{K:WP}{u:Unit}(h:Ent B As K):Ent B As (Cur.app [] K u):=h
theorem ca1{s:Sh}{K:s.ty→WP}{x:s.ty}{u:Unit}(h:Ent B As (K x)):Ent B As (Cur.app [s] K (x,u)):=h
theorem ca2{s t:Sh}{K:s.ty→t.ty→WP}{x:s.ty}{y:t.ty}{u:Unit}(h:Ent B As (K x y)):Ent B As (Cur.app [s,t] K (x,y,u)):=h
end Go.Cf
namespace Go.Cf
open Go
variable {B:QBE}{As:List HP}
theorem QK1(i:Nat){F F':List HP}{P rd:HP}[p:Pick i F P F'](h:∀g,P g→rd g)(mono:∀g f,rd g→Sub g f→rd f):Rds B F rd:=
 QKF fun g _ hF hs hm=>by
  obtain⟨a,_,pa,_,_,sa,_⟩:=QFW p.perm hs;exact mono _ _ (h a pa) (sa.trans hm)
end Go.Cf
namespace Go.Cf
open Go
variable {B:QBE}{As:List HP}
theorem QX1{A:HP}{φ:WP}(hA:A (fun _=>none))(h:Ent B (A::As) φ):Ent B As φ:=by
 rintro w ⟨g,hs,hm,hu⟩;exact h w ⟨g,⟨fun _=>none,g,hA,hs,fun _=>.inl rfl,fun _ _ e=>(by cases e),Sub.refl _⟩,hm,hu⟩
theorem QhV(i:Nat){P:HP}{F:List HP}[p:Pick i As P F]{φ:WP}(h:Ent B (F++[P]) φ):Ent B As φ:=
 Ent.perm (p.perm.trans (List.perm_append_comm (l₁:=[P]) (l₂:=F))) h
end Go.Cf
namespace Go.Cf
open Go Go.RowKit
set_option linter.unusedVariables false
variable {α:Type}
theorem QKN{E:Enc α}{s:Sl}{xs:List α}{w:World}(hn:xs.length=s.n)
  (h:0<s.n→∃b o,s.p=some ⟨b,o,none⟩∧∀j,j<s.n*E.sz→w.cell? ⟨b,o+j,none⟩=(QAf E xs)[j]?):RAr E s xs (mem w):=by
 have hfl:=QAG E xs;refine⟨hn,by rw[hfl,hn],fun h0=>?_⟩;obtain⟨b,o,hp,hc⟩:=h h0;have hpos:0<s.n*E.sz:=Nat.mul_pos h0 E.pos
 have key:∃c e fr,w.heap[b]? = some (.cells c e fr):=by
  have h1:=hc 0 hpos;have h2:(QAf E xs)[0]? = some ((QAf E xs)[0]'(by rw[hfl,hn];exact hpos)):=List.getElem?_eq_getElem (by rw[hfl,hn];exact hpos);rw[h2]at h1;unfold World.cell? at h1;split at h1
  ·rename_i c e fr hh;exact⟨c,e,fr,hh⟩
  ·cases h1
 obtain⟨c,e,fr,hb⟩:=key
 have hcell:∀j,j<s.n*E.sz→c.toList[o+j]? = (QAf E xs)[j]?:=fun j hj=>by
  have:=hc j hj;simp only[World.cell?,hb]at this;simpa using this
 have hlast:o+(s.n*E.sz - 1)<c.toList.length:=by
  have h1:=hcell (s.n*E.sz - 1) (by omega);have h2:(QAf E xs)[s.n*E.sz - 1]? = some ((QAf E xs)[s.n*E.sz - 1]'(by rw[hfl,hn];omega)):=List.getElem?_eq_getElem (by rw[hfl,hn];omega);rw[h2]at h1;exact (List.getElem?_eq_some_iff.1 h1).1
 refine⟨b,o,c.toList.take o,(c.toList.drop o).drop (s.n*E.sz),e,fr,hp,?_,by simp only[List.length_take];omega⟩;show w.heap[b]? = _;rw[hb];congr 2
 have e1:QAf E xs=(c.toList.drop o).take (s.n*E.sz):=by
  apply List.ext_getElem?;intro j;by_cases hj:j<s.n*E.sz
  ·rw[←hcell j hj,List.getElem?_take_of_lt hj,List.getElem?_drop]
  ·rw[List.getElem?_eq_none (by rw[hfl,hn];omega),List.getElem?_eq_none (by simp only[List.length_take];omega)]
 rw[e1,List.append_assoc,List.take_append_drop,List.take_append_drop]
theorem Qa3{W w':World}{Bs:List HP}(h:Sx ⟨W,fun _=>none⟩ Bs w'):Below W.heap.size W w':=by
 obtain⟨g,_,_,hu⟩:=h;exact⟨hu.os,hu.tape,hu.output,hu.size,fun k hk=>(hu.old k hk rfl).1⟩
theorem QU0(W:World):frz W (fun _=>none)=mem W:=by funext k;rfl
theorem Ct.top{P:Program}{f:FuncId}{args:List Value}{rs:Rs}{ss:List Sh}{rd:HP}{post:Tup ss→List HP→Prop}(c:Ct P f args rs ss [] rd post)(W:World)(h:rd (mem W)) :
  Calls P f args.toArray W fun e w'=>∃t Bs,e=.returned (rs.mk (Tup.vals ss t))∧post t Bs∧Below W.heap.size W w':=
 (c W (fun _=>none) trivial (fun _ _ e=>by cases e) (by rw[QU0];exact h)).mono fun e w' ⟨t,Bs,h1,h2,h3⟩=>⟨t,Bs,h1,h2,Qa3 h3⟩
section
open Go.ChangeShapes Go.WideShapes Go.Deep
variable {H:Type}{enc:TypeId×Value→H}{P:Program}{w:World}{base:Nat}{held:Bool}
theorem Qdj(xs:List UInt8)(j:Nat):(QAf U8 xs)[j]? = xs[j]?.map fun x=>Value.int .u8 x.toNat:=by
 have:QAf U8 xs=xs.map fun x=>Value.int .u8 (x.toNat:Int):=by
  unfold QAf
  induction xs with
  | nil=>rfl
  | cons x xs ih=>simp only[List.flatMap_cons,List.map_cons,ih];rfl
 rw[this,List.getElem?_map]
end
end Go.Cf
namespace Go.Cf
open Go Go.RowKit Go.ChangeShapes Go.WideShapes Go.Deep
set_option linter.unusedVariables false
variable {α β:Type}{H:Type}{enc:TypeId×Value→H}{P:Program}{w:World}{base:Nat}{held:Bool}
def Qc0(enc:TypeId×Value→H)(P:Program)(w:World)(base:Nat)(held:Bool)(t:TypeId)(E:Enc α)(R:α→β→Prop):Prop:=
 ∀(fuel:Nat) (cs:List Value) (x:DataW H×List MemPlace),DataW.trod enc P w base (fun _=>true) held fuel t cs=some x→∃a b,cs=E.f a∧R a b
theorem QdR[Inhabited β]{t e:TypeId}{E:Enc α}{R:α→β→Prop}(ht:P.underlying t=some (.slice e))(ce:P.cellsOf e=E.sz)(h:Qc0 enc P w base held e E R) :
  Qc0 enc P w base held t SL (fun(s:Sl) (bs:List β)=>s.n≤s.c∧∃as:List α,RAr E s as (mem w)∧as.length=bs.length∧∀(i:Nat) (a:α) (b:β),as[i]? = some a→bs[i]? = some b→R a b):=by
 intro fuel cs x hx;rcases open_slice ht hx with⟨hcs,_⟩|⟨a,len,cap,m,n,D,Pl,hcs,_,hlc,_,hm,_,hr⟩
 ·exact⟨⟨none,0,0⟩,[],hcs,Nat.le_refl _,[],QKN rfl (fun h=>absurd h (Nat.lt_irrefl 0)),rfl,fun i a b h=>by simp at h⟩
 simp only[if_true]at hm;subst hm
 have each:∀i,i<m→∃q:α×β,w.cells? base (a.add (i*E.sz)) E.sz=some (E.f q.1)∧R q.1 q.2:=by
  intro i hi;obtain⟨cs',h1,h2⟩:=hr i hi;obtain⟨u,v,rfl,huv⟩:=h _ _ _ h2;rw[ce]at h1;exact⟨(u,v),h1,huv⟩
 have:Inhabited α:=⟨E.zero⟩;obtain⟨q,hq⟩:=choose_lt each;refine⟨⟨some a,len,m⟩,(List.range len).map fun i=>(q i).2,hcs,hlc,(List.range len).map fun i=>(q i).1,QKN (by simp) (fun h0=>?_),by simp,fun i u v hi hb=>?_⟩
 ·obtain⟨b,o,spot⟩:=a
  have hlt:∀i r,i<m→r<E.sz→w.cell? ((⟨b,o,spot⟩:Addr).add (i*E.sz+r))=(E.f (q i).1)[r]?:=by
   intro i r hi hr';obtain⟨_,hlen,hcell⟩:=World.cells?_some (hq i hi).1;have:=hcell r hr'
   rwa [add_add]at this
  have hspot:spot=none:=by
   have h1:=hlt 0 0 (Nat.lt_of_lt_of_le h0 hlc) E.pos;have h2:(E.f (q 0).1)[0]? = some ((E.f (q 0).1)[0]'(by rw[E.len];exact E.pos)):=List.getElem?_eq_getElem _;rw[h2]at h1;simpa [Addr.add]using World.cell?_spot h1
  subst hspot;refine⟨b,o,rfl,fun j hj=>?_⟩;have hpos:=E.pos;have hjd:j / E.sz<len:=Nat.div_lt_of_lt_mul (by rw[Nat.mul_comm];exact hj);have hjm:j % E.sz<E.sz:=Nat.mod_lt _ hpos
  have hj2:j / E.sz*E.sz+j % E.sz=j:=by rw[Nat.mul_comm];exact Nat.div_add_mod j E.sz
  have h1:=hlt (j / E.sz) (j % E.sz) (Nat.lt_of_lt_of_le hjd hlc) hjm;rw[hj2,QCR]at h1;have h2:=QVF E ((List.range len).map fun i=>(q i).1) (j / E.sz) (j % E.sz) (q (j / E.sz)).1 (by rw[List.getElem?_map,List.getElem?_range hjd];rfl) hjm;rw[hj2]at h2;rw[h1,h2]
 ·have hin:i<len:=by
   have:=(List.getElem?_eq_some_iff.1 hi).1;simpa using this
  rw[List.getElem?_map,List.getElem?_range hin]at hi hb;simp only[Option.map_some,Option.some.injEq]at hi hb;subst hi hb;exact (hq i (Nat.lt_of_lt_of_le hin hlc)).2
theorem Qeh{t:TypeId}(ht:P.underlying t=some (.int .i64)):Qc0 enc P w base held t I64 (fun a b=>a=b∧-9223372036854775808≤a∧a≤9223372036854775807):=by
 intro fuel cs x hx;obtain⟨n,hcs,_,hwf⟩:=DataW.trod_int ht hx;have h1:IntKind.i64.min = -9223372036854775808:=rfl;have h2:IntKind.i64.max=9223372036854775807:=rfl;simp only[Lit.wf,Bool.and_eq_true,decide_eq_true_eq,h1,h2]at hwf;exact⟨n,n,hcs,rfl,hwf⟩
end Go.Cf
namespace Go.Cf
open Go
def i64(x:Int):Prop:=-9223372036854775808≤x∧x≤9223372036854775807
theorem QfH{n:Int}(h:(Lit.int .i64 n).wf=true):i64 n:=by
 have h1:IntKind.i64.min = -9223372036854775808:=rfl;have h2:IntKind.i64.max=9223372036854775807:=rfl;simpa [Lit.wf,h1,h2,i64]using h
end Go.Cf
namespace Go.Cf
open Go
set_option linter.unusedVariables false
variable {B:QBE}{As F:List HP}{α β:Type}
theorem QHg(z:Array Value)(n sz:Nat)(h:z.size=sz):madeCells z (n*sz)=(QIQ z.toList n).toArray:=by
 subst h;exact QEH z n
theorem QRK{P:Program}{t e:TypeId}{sz by_:Nat}{z:List Value}[a:QIH P t e sz by_ z](E:Enc α){n:Int}{K:Sl→WP}(h0:0≤n)(hb:n.toNat*by_≤140737488355328)(hsz:E.sz=sz:=by rfl)(hz:E.f E.zero=z:=by rfl)
  (h:∀b,Ent B (Ar E ⟨some ⟨b,0,none⟩,n.toNat,n.toNat⟩ (List.replicate n.toNat E.zero)::As) (K ⟨some ⟨b,0,none⟩,n.toNat,n.toNat⟩)):Ent B As (QeB P t (.int .i64 n) (.int .i64 n) K):=by
 intro w hw;obtain⟨i,z0,ht,hi,hsize,hbytes,hpos,hz0,hzs⟩:=QBq a.ok;obtain⟨i',z',hi',hz',hzf⟩:=QCM a.zero
 obtain rfl:i'=i:=by rw[hi]at hi';exact (Option.some.inj hi').symm
 obtain rfl:z'=z0:=by rw[hz0]at hz';exact (Option.some.inj hz').symm
 have hle:n.toNat≤n.toNat*by_:=Nat.le_mul_of_pos_right _ hpos
 have hr:=run_make (P:=P) w t e i' z' ht hi hz0 .i64 .i64 n n h0 (Int.le_refl _) (by
  have:((i'.bytes*n.toNat:Nat):Int)≤281474976710656:=by rw[hbytes,Nat.mul_comm];omega
  rw[Int.natCast_mul]at this
  have e1:((n.toNat:Nat):Int)=n:=by omega
  rw[e1]at this
  exact this) (by omega)
 rw[hsize,QHg _ _ _ hzs,←hzf,←hz,QEf]at hr;refine⟨⟨some ⟨w.heap.size,0,none⟩,n.toNat,n.toNat⟩,_,hr,h w.heap.size _ ?_⟩;obtain⟨g,hg,hm,hu⟩:=hw.alloc (QAf E (List.replicate n.toNat E.zero)) e;exact⟨g,QA2 (fun q hq=>⟨[],QAm _ n.toNat (by simp) rfl hq (by omega)⟩) hg,hm,hu⟩
theorem QX3{s:Sl}{r:Int}{m:Nat}{sz:Nat}{K:Sl→WP}(hm:m=s.c)(h0:0≤r)(h1:r≤s.c)(h:Ent B As (K ⟨s.p,r.toNat,s.c⟩)):Ent B As (QQU s 0 r (m:Int) sz K):=by
 subst hm;refine QEh (by omega) h0 h1 (by omega) ?_;have e:=QHM s r.toNat sz;simpa using e ▸ h
theorem Qbr{ys zs:List α}{k:Nat}{v:α}(h:∀j,j<k→ys[j]? = zs[j]?)(hk:k<ys.length)(hv:zs[k]? = some v):∀j,j<k+1→(ys.set k v)[j]? = zs[j]?:=by
 intro j hj;by_cases e:j=k
 ·subst e;rw[List.getElem?_set_self hk,hv]
 ·rw[List.getElem?_set_ne (Ne.symm e)];exact h j (by omega)
theorem QTw{ys zs:List α}(hl:ys.length=zs.length)(h:∀j,j<zs.length→ys[j]? = zs[j]?):ys=zs:=by
 apply List.ext_getElem?;intro j;by_cases hj:j<zs.length
 ·exact h j hj
 ·rw[List.getElem?_eq_none (by omega),List.getElem?_eq_none (by omega)]
theorem QdY(o:BinOp)(x y:Int):0≤bits o .u8 x y∧bits o .u8 x y<256:=by
 have e:∀z:Int,0≤IntKind.u8.wrap z∧IntKind.u8.wrap z<256:=by
  intro z
  have e1:(2 ^ IntKind.u8.bits:Int)=256:=by decide
  have e3:IntKind.u8.signed=false:=rfl;simp only[IntKind.wrap,e1,e3,Bool.false_and];simp;omega
 exact e _
theorem QGD(i:Nat){P:HP}{F:List HP}[p:Pick i As P F]{φ:WP}(h:Ent B (P::F) φ):Ent B As φ:=Ent.perm p.perm h
theorem QfK(i:Nat){P:HP}{F:List HP}[p:Pick i As P F]{φ:WP}(h:Ent B (F++[P]) φ):Ent B As φ:=QhV i h
class Find(P:HP)(As:List HP)(F:outParam (List HP)):Prop where
 perm:As.Perm (P::F)
instance (priority:=high) Find.head(P:HP)(As:List HP):Find P (P::As) As:=⟨List.Perm.refl _⟩
instance Find.tail(A P:HP)(As F:List HP)[h:Find P As F]:Find P (A::As) (A::F):=⟨(h.perm.cons A).trans (List.Perm.swap _ _ _)⟩
class Split(pre As:List HP)(F:outParam (List HP)):Prop where
 perm:As.Perm (pre++F)
instance Split.nil(As:List HP):Split [] As As:=⟨List.Perm.refl _⟩
instance Split.cons(P:HP)(pre As F G:List HP)[f:Find P As F][h:Split pre F G]:Split (P::pre) As G:=⟨f.perm.trans (h.perm.cons P)⟩
theorem xcl{P:Program}{f:FuncId}{args:List Value}{rs:Rs}{ss:List Sh}{rd:HP}{post:Tup ss→List HP→Prop}{K:Cur ss}{pre G:List HP}[s:Split pre As G]
  (sp:Ct P f args rs ss pre rd post) (hrd:Rds B G rd) (h:∀t Bs,post t Bs→Ent B (Bs++G) (Cur.app ss K t)):Ent B As (QAb P f args rs ss K):=Qdb sp s.perm hrd h
theorem QAK(Bs:List HP){G:List HP}[s:Split Bs As G]{φ:WP}(h:Ent B Bs φ):Ent B As φ:=Ent.perm s.perm (QAa h)
theorem QKd{Bs G:List HP}{φ:WP}(h:Ent B Bs φ)[s:Split Bs As G]:Ent B As φ:=Ent.perm s.perm (QAa h)
theorem QBQ(l:List HP)(Q:HP){G:List HP}[s:Split l As G]{φ:WP}(h:∀g,QBl l g→Q g)(k:Ent B (Q::G) φ):Ent B As φ:=
 Ent.perm s.perm (QHn (fun _ hg=>QDL (l:=l) h hg) k)
theorem QUB{R:α→β→HP}{xs':List α}{ys':List β}:∀{xs:List α}{ys:List β}{h:QBe},QBl [Each R xs ys,Each R xs' ys'] h→Each R (xs++xs') (ys++ys') h:=by
 intro xs
 induction xs with
 | nil=>
  intro ys h hh
  cases ys with
  | cons=>obtain⟨a,_,pa,_⟩:=hh;exact pa.elim
  | nil=>
   obtain⟨a,b,_,⟨c,d,pc,_,_,sc,_⟩,_,sa,sb⟩:=hh;exact Each.mono pc (sc.trans sb)
 | cons x xs ih=>
  intro ys h hh
  cases ys with
  | nil=>obtain⟨a,_,pa,_⟩:=hh;exact pa.elim
  | cons y ys=>
   have h1:QBl ([R x y,Each R xs ys]++[Each R xs' ys']) h:=QFL (fun g hg=>hg) hh;exact QBC (l':=[Each R (xs++xs') (ys++ys')]) (fun g hg=>QCh (ih hg)) h1
theorem QbN{P:Program}{E:Enc α}{y:Sl}{ys:List α}{w:World}(hy:RAr E y ys (mem w)){k:Nat}(hk:k≤ys.length):(Builtin.firstCells E.sz k y.v).run P w=.ok (QAf E (ys.take k)).toArray w:=by
 obtain⟨q,n,c⟩:=y;by_cases h0:k=0
 ·subst h0;cases q<;>simp[Builtin.firstCells,loadCells,loadCellsFrom,QAf]
 ·have h1:=hy.cut 0 k k (Nat.zero_le _) (Nat.le_refl _) hk
  have e:(⟨q,n,c⟩:Sl).cut 0 k k E.sz=⟨q,k,k⟩:=by
   unfold Sl.cut;rw[if_neg h0]
   cases q with
   | none=>simp
   | some a=>simp[Addr.add]
  rw[e,List.drop_zero]at h1;have h2:=RArr.first (P:=P) h1.2
  have e2:Builtin.firstCells E.sz k (Value.slice q n c)=Builtin.firstCells E.sz k (Value.slice q k k):=by cases q<;>rfl
  show (Builtin.firstCells E.sz k (Value.slice q n c)).run P w=_;rw[e2];exact h2
theorem QdB{P:Program}{t u ty e:TypeId}{sz by_:Nat}(hok:QH4 P t e sz by_=true){E:Enc α}(hsz:E.sz=sz){s y:Sl}{xs zs us ys:List α}{l dn dc:Nat}{base:Option Addr}{F:List HP}{w:World}(hw:Sx B (Ars E s xs zs::F) w)
  (hu:xs++zs=us) (hy:RAr E y ys (mem w)) (hbase:base=s.p.map (·.add (l*sz))∨dn=0) (hlk:l+min ys.length dn≤us.length) :
  ∃w',(Builtin.copy_ #[t,u] ty #[.slice base dn dc,y.v]).run P w=.ok (.int .i64 ((min ys.length dn:Nat):Int)) w' ∧
   ∀xs' zs',xs'++zs'=us.take l++ys.take (min ys.length dn)++us.drop (l+min ys.length dn)→xs'.length=xs.length→Sx B (Ars E s xs' zs'::F) w':=by
 subst hsz hu;obtain⟨i,z,ht,hi,hsize,hbytes,hpos,hz0,hzs⟩:=QBq hok
 generalize hk:min ys.length dn=k at *
 have hky:k≤ys.length:=by omega
 have hfirst:=QbN (P:=P) hy hky;have hyn:ys.length=y.n:=hy.1
 have hmin:Nat.min y.n dn=k:=by rw[←hyn];exact hk
 have hlen:(ys.take k).length=k:=by rw[List.length_take];omega
 have hst0:=hw
 have nothing:k=0→∀base',(∀a,base'=some a→True)→∃w',(Builtin.copy_ #[t,u] ty #[.slice base' dn dc,y.v]).run P w=.ok (.int .i64 ((k:Nat):Int)) w' ∧
   ∀xs' zs',xs'++zs'=(xs++zs).take l++ys.take k++(xs++zs).drop (l+k)→xs'.length=xs.length→Sx B (Ars E s xs' zs'::F) w':=by
  intro h0 base' _;subst h0
  have hf0:(QAf E (ys.take 0)).toArray = #[]:=by simp[QAf]
  rw[hf0]at hfirst;refine⟨w,?_,fun xs' zs' he hl'=>?_⟩
  ·obtain⟨q,n,c⟩:=y;simp only at hmin
   cases base' with
   | none=>simp only[Builtin.copy_];simp[run_underlying ht,sizeOf,typeInfo,hi,hsize,Builtin.lenOf,hmin,hfirst,goInt]
   | some a=>simp only[Builtin.copy_];simp[run_underlying ht,sizeOf,typeInfo,hi,hsize,Builtin.lenOf,hmin,hfirst,goInt,storeCells]
  ·obtain⟨g,hg,hm,hu⟩:=hst0;refine⟨g,QA2 (fun q hq=>?_) hg,hm,hu⟩;obtain⟨p,n,c'⟩:=s;exact hq.shift (by rw[he];simp) (by rw[hl'];exact hq.1)
 by_cases hk0:k=0
 ·exact nothing hk0 base (fun _ _=>trivial)
 have hbase':base=s.p.map (·.add (l*E.sz)):=by
  rcases hbase with h|h
  ·exact h
  ·omega
 subst hbase';obtain⟨g,⟨h1,h2,p1,p2,dd,s1,s2⟩,hsub,hupd⟩:=hw;have hcap:=p1.2.1;rcases p1.2.2 with⟨_,h⟩|⟨b,o,pre,post,e1,fr,hp,hbk,ho,hfr,hM⟩
 ·simp only[List.length_append]at hlk;omega
 have hwb:w.heap[b]? = some (.cells (pre++QAf E (xs++zs)++post).toArray e1 fr):=hsub _ _ (s1 _ _ hbk)
 obtain⟨w',r1,r2,r3,r4,r5,r6,r7⟩:=QCa (P:=P) b e1 fr (QAf E (ys.take k)) (o+l*E.sz) 0 (pre++QAf E (xs++zs)++post) w hwb (by
  have:(l+k)*E.sz≤(xs++zs).length*E.sz:=Nat.mul_le_mul_right _ hlk;rw[Nat.add_mul]at this
  simp only[List.length_append,QAG,ho,hlen]at this⊢;omega) hfr (QIW E _)
 have hsplit:QAf E (xs++zs)=QAf E ((xs++zs).take l)++QAf E (((xs++zs).drop l).take k)++QAf E ((xs++zs).drop (l+k)):=by
  rw[←QAP,←QAP,List.append_assoc,←List.drop_drop,List.take_append_drop,List.take_append_drop]
 have hseg:QER (QAf E (ys.take k)) (o+l*E.sz+0) (pre++QAf E (xs++zs)++post)=pre++QAf E ((xs++zs).take l++ys.take k++(xs++zs).drop (l+k))++post:=by
  have:=QFc (QAf E (ys.take k)) (pre++QAf E ((xs++zs).take l)) (QAf E (((xs++zs).drop l).take k)) (QAf E ((xs++zs).drop (l+k))++post) (by
   rw[QAG,QAG,List.length_take,List.length_drop,hlen,Nat.min_eq_left (by omega)])
  rw[List.length_append,ho,QAG,List.length_take,Nat.min_eq_left (by omega)]at this;rw[Nat.add_zero,hsplit,QAP,QAP];simp only[List.append_assoc]at this⊢;exact this
 rw[hseg]at r2;refine⟨w',?_,fun xs' zs' he hl'=>?_⟩
 ·obtain⟨q,n,c⟩:=y;simp only at hmin;simp only[Builtin.copy_];simp[run_underlying ht,sizeOf,typeInfo,hi,hsize,Builtin.lenOf,hmin,hfirst,goInt,hp,QCR,r1]
 ·have hst:Sx B (Blk b (pre++QAf E (xs++zs)++post)::F) w:=⟨g,⟨h1,h2,⟨e1,fr,hbk,hfr⟩,p2,dd,s1,s2⟩,hsub,hupd⟩
  have hlen2:((xs++zs).take l++ys.take k++(xs++zs).drop (l+k)).length=(xs++zs).length:=by
   simp only[List.length_append,List.length_take,List.length_drop]at hlk hlen⊢;omega
  have:=hst.write (cs':=pre++QAf E ((xs++zs).take l++ys.take k++(xs++zs).drop (l+k))++post) hwb r3 r2 (by
   rw[List.length_append,List.length_append,List.length_append,List.length_append,QAG,QAG,hlen2]) r4 r5 r6 r7
  obtain⟨g',hg',hm',hu'⟩:=this;refine⟨g',QA2 (fun q hq=>Ars.of_blk (b:=b) (o:=o) (pre:=pre) (post:=post) (by rw[he];exact hq) hp ho (by rw[hl'];exact p1.1) ?_ (by exact hM)) hg',hm',hu'⟩
  have hh:xs'.length+zs'.length=xs.length+zs.length:=by
   have h5:=congrArg List.length he;rw[hlen2]at h5;simpa using h5
  rw[hh];exact p1.2.1
theorem Qan(s:Sl)(l r m sz:Nat)(hrm:r≤m):(s.cut l r m sz).p=s.p.map (·.add (l*sz))∨(s.cut l r m sz).n=0:=by
 unfold Sl.cut;by_cases h:m=l
 ·right;simp only;omega
 ·left;simp[h]
theorem QRY{P:Program}{t u ty e:TypeId}{sz by_:Nat}{z:List Value}[a:QIH P t e sz by_ z]{E:Enc α}{s y:Sl}{xs zs ys:List α}{l r m:Nat}{F:List HP}{K:Int→WP}
  (hy:∀w,Sx B (Ars E s xs zs::F) w→RAr E y ys (mem w)) (xs' zs':List α) (hsz:E.sz=sz:=by rfl) (hrm:r≤m) (hlk:l+min ys.length (r - l)≤xs.length+zs.length) (hl:xs'.length=xs.length)
  (he:xs'++zs'=(xs++zs).take l++ys.take (min ys.length (r - l))++(xs++zs).drop (l+min ys.length (r - l)))
  (h:∀n,Ent B (Ars E s xs' zs'::F) (K n)):Ent B (Ars E s xs zs::F) (QbH P t u ty (s.cut l r m sz).v y.v K):=by
 intro w hw
 obtain⟨w',hr,hx⟩:=QdB (P:=P) (u:=u) (ty:=ty) (l:=l) (dn:=r - l) (dc:=(s.cut l r m sz).c) (base:=(s.cut l r m sz).p) a.ok hsz hw rfl (hy w hw) (by
  have:=Qan s l r m sz hrm;rcases this with h|h
  ·exact .inl h
  ·exact .inr h) (by simpa using hlk)
 exact⟨_,w',hr,h _ w' (hx xs' zs' he hl)⟩
theorem QRu{P:Program}{t u ty e:TypeId}{k0:IntKind}{sz by_:Nat}(hok:QH4 P t e sz by_=true)(hu:P.underlying u=some (.int k0)){E:Enc α}(hsz:E.sz=sz)(hz:QEw P e=some (E.f E.zero)){s:Sl}{xs:List α}{n:Nat}{w:World}
  (hxr:RAr E s xs (mem w)) (hpn:0<n) (hroom:¬s.n+n≤s.c) (hb:(s.n+n)*by_≤140737488355328) :
  ∃(k:Nat),s.n+n≤k∧k≤9223372036854775807∧(Builtin.append_ #[t,u] ty #[s.v,.int .i64 (n:Int)]).run P w=.ok (.slice (some ⟨w.heap.size,0,none⟩) (s.n+n) k) (w.drew.alloc (.cells (QAf E xs++QAf E (List.replicate n E.zero)++QIQ (E.f E.zero) (k - (s.n+n))).toArray e)):=by
 obtain⟨i,z,ht,hi,hsize,hbytes,hpos,hz0,hzs⟩:=QBq hok;subst hsize;subst hbytes;obtain⟨p,sn,sc⟩:=s;simp only at hroom hb;have h48:=growslice_fits (by omega:sc<sn+n) hb;have hle:sn+n≤(sn+n)*i.bytes:=Nat.le_mul_of_pos_right _ hpos
 have h63:¬(9223372036854775807<((sn:Int)+(n:Int))):=by omega
 have h48':¬(281474976710656<Builtin.nextslicecap (sn+n) sc*i.bytes):=by omega
 have hnb:n*i.bytes≤(sn+n)*i.bytes:=Nat.mul_le_mul_right _ (by omega)
 have hl2:¬(281474976710656<(n:Int)*(i.bytes:Int)):=by
  have:((n*i.bytes:Nat):Int)≤281474976710656:=by omega
  rw[Int.natCast_mul]at this;omega
 have hw:IntKind.i64.wrap (n:Int)=n:=QAB _ (by omega) (by omega);obtain⟨i',z',hi',hz',hzf⟩:=QCM hz
 obtain rfl:i'=i:=by rw[hi]at hi';exact (Option.some.inj hi').symm
 obtain rfl:z'=z:=by rw[hz0]at hz';exact (Option.some.inj hz').symm
 have hfx:=RArr.first (P:=P) (w:=w.drew) (hxr.2)
 rw[hsz]at hfx
 have hzc:∀m,Builtin.zeroCells z'.cells m=(QIQ z'.cells.toList m).toArray:=fun m=>by rw[←QEH];rfl
 have hfl:QAf E (List.replicate n E.zero)=QIQ z'.cells.toList n:=by rw[←QEf,hzf]
 refine⟨grownCap w (sn+n) sc e,QXZ w _ _ _,QYQ w _ _ _ (by omega),?_⟩;rw[hfl,hzf]
 have hn0:¬(n*i'.size=0):=fun h=>by
  rcases Nat.mul_eq_zero.1 h with h|h
  ·omega
  ·have:=E.pos;omega
 simp only[Builtin.append_];simp[run_underlying ht,run_underlying hu,sizeOf,typeInfo,zeroValue,hi,hz0,asInt,asIntOf,hw,hl2,hroom,h63,h48',Question.forced,hfx,newRow,grownCap,hzc,hn0];intro h;omega
theorem QgH{P:Program}{t u ty e:TypeId}{k0:IntKind}{sz by_:Nat}{z:List Value}[a:QIH P t e sz by_ z]{E:Enc α}{s:Sl}{xs:List α}{n:Nat}{K:Sl→WP}(hu:P.underlying u=some (.int k0))
  (hr:∀w,Sx B As w→RAr E s xs (mem w)) (hpn:0<n) (hroom:¬s.n+n≤s.c) (hb:(s.n+n)*by_≤140737488355328) (hsz:E.sz=sz:=by rfl) (hz:E.f E.zero=z:=by rfl)
  (h:∀s',s'.n=s.n+n→s'.n≤s'.c→Ent B (Ar E s' (xs++List.replicate n E.zero)::As) (K s')):Ent B As (QSR P t u ty s.v (.int .i64 (n:Int)) K):=by
 intro w hw;have hxr:=hr w hw;obtain⟨k,hk,hkM,hrun⟩:=QRu (ty:=ty) a.ok hu hsz (by rw[hz];exact a.zero) hxr hpn hroom hb;refine⟨⟨some ⟨w.heap.size,0,none⟩,s.n+n,k⟩,_,hrun,h _ rfl (by simpa using hk) _ ?_⟩;have ha:=(hw.drew).alloc (QAf E xs++QAf E (List.replicate n E.zero)++QIQ (E.f E.zero) (k - (s.n+n))) e;obtain⟨g',hg',hm',hu'⟩:=ha;have hxn:xs.length=s.n:=hxr.1;refine⟨g',QA2 (fun q hq=>⟨List.replicate (k - (s.n+n)) E.zero,?_⟩) hg',hm',hu'⟩;rw[QEf,←QAP,←QAP]at hq;exact Ars.of_blk (pre:=[]) (post:=[]) (by simpa using hq) rfl rfl (by simp;omega) (by simp;omega) hkM
def BlkS(b:Nat)(cs:List Value):HP:=fun h=>∃e,h b=some (.cells cs.toArray e)
theorem BlkS.blk{b:Nat}{cs:List Value}{h:QBe}(hb:BlkS b cs h):Blk b cs h:=by
 obtain⟨e,hb⟩:=hb;exact⟨e,(0,0),hb,fun i _ h=>by simp at h⟩
theorem QeT{cs:List Value}{e:TypeId}{K:Nat→WP}(h:∀b,Ent B (BlkS b cs::As) (K b)):Ent B As (QDE cs e K):=fun w hw=>h _ _ (hw.allocQ ⟨e,by simp⟩)
theorem QQ5{P:Program}{t e:TypeId}{sz:Nat}{r:Array TypeId}(ht:P.underlying t=some (.slice e))(hs:QHj P e=some sz){bv n c:Nat}{w:World}{cs:List Value}{e1:TypeId}(hb:w.heap[bv]? = some (.cells cs.toArray e1))(hcs:0<cs.length){y:Sl}
  (hy:y.p=none∨y.n=0∨∃b o cs' e' fr,y.p=some ⟨b,o,none⟩∧b≠bv∧w.heap[b]? = some (.cells cs' e' fr)∧0<cs'.size) :
  (Extern.SlicesOverlaps.overlaps #[t,t] r #[.slice (some ⟨bv,0,none⟩) n c,y.v]).run P w=.ok (.bool false) w:=by
 obtain⟨q,m,d⟩:=y;simp only at hy;rw[show Extern.SlicesOverlaps.overlaps #[t,t] r #[.slice (some ⟨bv,0,none⟩) n c,.slice q m d]=(underlying t >>= _) from rfl];simp only[Sem.run_bind,run_underlying ht,Result.andThen_ok,QD0 hs]
 cases q with
 | none=>rfl
 | some a=>
  (try simp only)
  by_cases h0:n=0∨m=0∨sz=0
  ·rw[if_pos h0];rfl
  ·rw[if_neg h0];rcases hy with h|h|⟨b,o,cs',e',fr,hp,hne,hbb,hpos⟩
   ·cases h
   ·exact absurd (.inr (.inl h)) h0
   ·simp only[Option.some.injEq]at hp;subst hp
    have hf:w.frozen? ⟨bv,0,none⟩=false:=by simp[World.frozen?,hb]
    have hs1:w.shape? bv=some (e1,cs.length):=by simp[World.shape?,hb]
    have hs2:w.shape? b=some (e',cs'.size):=by simp[World.shape?,hbb]
    have hf2:w.frozen? ⟨bv,cs.length,none⟩=false:=by simp[World.frozen?,hb]
    have hne':(bv != b)=true:=by simpa using fun h=>hne h.symm
    have hv:∀x:Addr,(w.shape? x.block).isSome=true→(noView x).run P w=.ok () w:=fun x hx=>by simp[noView,viewAt,hx]
    have hst:(stringish ⟨bv,0,none⟩).run P w=.ok false w:=by simp[stringish,hf,hs1,hf2]
    have hst2:∃sb,(stringish ⟨b,o,none⟩).run P w=.ok sb w:=by
     cases hfb:w.frozen? ⟨b,o,none⟩ with
     | true=>exact⟨true,by simp[stringish,hfb]⟩
     | false=>exact⟨w.frozen? ⟨b,cs'.size,none⟩,by simp[stringish,hfb,hs2]⟩
    obtain⟨sb,hst2⟩:=hst2
    have hmay:(mayBeOne ⟨bv,0,none⟩ ⟨b,o,none⟩).run P w=.ok false w:=by
     have hz:cs'.size≠0:=by omega
     simp only[mayBeOne,Sem.run_bind,hst,hst2,Result.andThen_ok,run_shape,Sem.run_pure,hs1,hs2];congr 1;obtain⟨k,hk⟩:∃k,cs'.size=k+1:=⟨cs'.size - 1,by omega⟩;rw[hk];cases sb<;>simp
    simp only[Sem.run_bind,run_frozen,hf,Result.andThen_ok,hne',Bool.and_false,Bool.false_and,Bool.false_eq_true,if_false,if_true,hv ⟨bv,0,none⟩ (by simp[hs1]),hv ⟨b,o,none⟩ (by simp[hs2]),hmay]
    have e2:(bv == b)=false:=by simpa using fun h=>hne h.symm
    simp[e2]
theorem QhR{P:Program}{g:FuncId}{t e:TypeId}{sz:Nat}{r:Array TypeId}(hcall:∀args w,(callFunc g args).run P w=((Extern.SlicesOverlaps.overlaps #[t,t] r args).run P w).andThen fun v w'=>.ok (.value v) w')
  (ht:P.underlying t=some (.slice e)) (hs:QHj P e=some sz) {bv n c:Nat}{cs:List Value}{E:Enc α}{s:Sl}{xs zs:List α}{F:List HP}{l k m:Nat}{K:Bool→WP}(hcs:0<cs.length) (hpos:0<xs.length+zs.length) (hkm:k≤m)
  (h:Ent B (Ars E s xs zs::BlkS bv cs::F) (K false)):Ent B (Ars E s xs zs::BlkS bv cs::F) (Qfd P g [.slice (some ⟨bv,0,none⟩) n c,(s.cut l k m sz).v] .bool K):=by
 intro w hw;obtain⟨g0,⟨a,rest,pa,⟨b2,rest2,⟨e1,pb⟩,_,_,sb2,_⟩,d,sa,sb⟩,hm,hu⟩:=id hw;have hbv:w.heap[bv]? = some (.cells cs.toArray e1):=hm _ _ (sb _ _ (sb2 _ _ pb));refine⟨false,w,?_,h w hw⟩;rw[hcall];have:=QQ5 (P:=P) (r:=r) ht hs (n:=n) (c:=c) hbv hcs (y:=s.cut l k m sz) ?_
 ·show Result.andThen (Sem.run P (Extern.SlicesOverlaps.overlaps #[t,t] r #[.slice (some ⟨bv,0,none⟩) n c,(s.cut l k m sz).v]) w) _=_;rw[this];rfl
 ·by_cases hml:m=l
  ·right;left;simp only[Sl.cut];omega
  ·rcases pa.2.2 with⟨h0,_⟩|⟨b,o,pre,post,e',fr,hp,hbk,ho,_,_⟩
   ·left;simp[Sl.cut,hml,h0]
   ·right;right;refine⟨b,o+l*sz,_,e',fr,by simp[Sl.cut,hml,hp,QCR],?_,hm _ _ (sa _ _ hbk),?_⟩
    ·intro e;subst e;rcases d b with h|h
     ·rw[hbk]at h;cases h
     ·rw[sb2 _ _ pb]at h;cases h
    ·have h1:=QAG E (xs++zs);have h2:=E.pos;have h3:0<(xs++zs).length*E.sz:=Nat.mul_pos (by simp;omega) h2;simp only[List.size_toArray,List.length_append]at *;omega
end Go.Cf
namespace Go.Cf
open Go
variable {B:QBE}{As:List HP}
theorem Sx.parts{pre F:List HP}{w:World}(hw:Sx B (pre++F) w):∃a,QBl pre a∧Sub a (mem w)∧(∀rd:HP,Rds B F rd→rd (Cf.frz w a))∧∀Bs w',Sx ⟨w,a⟩ Bs w'→Sx B (Bs++F) w':=by
 obtain⟨g,hs,hm,hu⟩:=hw;obtain⟨a,b,ha,hb,hd,sa,sb⟩:=(QAj pre F).1 hs;have hu':Upd B (uni a b) w:=hu.sub (QEI sa sb);refine⟨a,ha,sa.trans hm,fun rd hrd=>hrd w a b hb (sb.trans hm) hd (sa.trans hm) hu',?_⟩;rintro Bs w' ⟨c,hc,hcm,hcu⟩
 have key:∀k o,b k=some o→w'.heap[k]? = some o∧c k=none:=by
  intro k o hk;have h1:w.heap[k]? = some o:=(sb.trans hm) k o hk;have hlt:k<w.heap.size:=(Array.getElem?_eq_some_iff.1 h1).1
  have ha0:a k=none:=by
   rcases hd k with e|e
   ·exact e
   ·rw[hk]at e;cases e
  have:=hcu.old k hlt ha0;exact⟨by rw[this.1];exact h1,this.2⟩
 have hdis:Dis c b:=fun k=>by
  cases hk:b k with
  | none=>exact .inr rfl
  | some o=>exact .inl (key k o hk).2
 refine⟨uni c b,(QAj Bs F).2 ⟨c,b,hc,hb,hdis,QBV _ _,QBT hdis⟩,QEI hcm fun k o hk=>(key k o hk).1,?_⟩;refine⟨by rw[hcu.os,hu.os],by rw[hcu.tape,hu.tape],by rw[hcu.output,hu.output],Nat.le_trans hu.drawn hcu.drawn,Nat.le_trans hu.size hcu.size,fun k hk h0=>?_⟩;have h1:=hu'.old k hk h0;have h2:=QEB.1 h1.2;have h3:=hcu.old k (Nat.lt_of_lt_of_le hk hu.size) h2.1;exact⟨by rw[h3.1];exact h1.1,QEB.2 ⟨h3.2,h2.2⟩⟩
def CtP(ch:List PanicEntry)(P:Program)(f:FuncId)(args:List Value)(rs:Rs)(ss:List Sh)(pre:List HP)(rd:HP)(post:Tup ss→List HP→Prop)(ppost:List HP→Prop):Prop:=
 ∀(w:World) (h:QBe),QBl pre h→Sub h (mem w)→rd (frz w h)→Calls P f args.toArray w fun e w'=>
  (∃t Bs,e=.returned (rs.mk (Tup.vals ss t))∧post t Bs∧Sx ⟨w,h⟩ Bs w')∨(∃Bs,e=.panicked ch∧ppost Bs∧Sx ⟨w,h⟩ Bs w')
def Qcf(B:QBE)(ppost:List HP→Prop):WP:=fun w=>∃Bs,ppost Bs∧Sx B Bs w
theorem QTk{ppost:List HP→Prop}(h:ppost As):Ent B As (Qcf B ppost):=fun _ hw=>⟨As,h,hw⟩
class Qfb(ch:outParam (List PanicEntry))(pan:WP→Pan):Prop where
 q:∀Q,(pan Q).q=Q
 ch:∀Q,(pan Q).ch=ch
theorem QIr{ch:List PanicEntry}{pan:WP→Pan}[pf:Qfb ch pan]{P:Program}{f:FuncId}{args:List Value}{rs:Rs}{ss:List Sh}{pre:List HP}{rd:HP}{post:Tup ss→List HP→Prop}{ppost:List HP→Prop}{φ:WP→Cur ss→WP}
  (c:∀{Q:WP}{K:Cur ss}{w:World},φ Q K w→@QGI (pan Q) P f args rs ss K w)
  (h:∀B:QBE,rd (frz B.W B.h0)→Ent B pre (φ (Qcf B ppost) (Cur.ofT ss (Ret B post)))):CtP ch P f args rs ss pre rd post ppost:=by
 intro w g hs hm hr;have:=c (h ⟨w,g⟩ hr w (Sx.start hs hm));unfold QGI at this;refine this.mono ?_;rintro e w' (⟨t,he,hk⟩|⟨he,hq⟩)
 ·rw[Cur.app_ofT]at hk;obtain⟨Bs,hp,hx⟩:=hk;exact .inl ⟨t,Bs,he,hp,hx⟩
 ·rw[pf.q]at hq;rw[pf.ch]at he;obtain⟨Bs,hp,hx⟩:=hq;exact .inr ⟨Bs,he,hp,hx⟩
section
variable {ch:List PanicEntry}{pan:WP→Pan} [pf:Qfb ch pan] {P:Program}{f:FuncId}{args:List Value}{rs:Rs}{pre:List HP}{rd:HP}{ppost:List HP→Prop}
theorem QgU{post:Tup []→List HP→Prop}{φ:WP→WP→WP}(c:∀{Q K:WP}{w:World},φ Q K w→@QGI (pan Q) P f args rs [] K w)
  (h:∀B:QBE,rd (frz B.W B.h0)→Ent B pre (φ (Qcf B ppost) (Ret B post ()))):CtP ch P f args rs [] pre rd post ppost:=QIr (ss:=[]) (φ:=φ) c h
theorem Qgv{s:Sh}{post:Tup [s]→List HP→Prop}{φ:WP→(s.ty→WP)→WP}(c:∀{Q:WP}{K:s.ty→WP}{w:World},φ Q K w→@QGI (pan Q) P f args rs [s] K w)
  (h:∀B:QBE,rd (frz B.W B.h0)→Ent B pre (φ (Qcf B ppost) fun x=>Ret B post (x,()))):CtP ch P f args rs [s] pre rd post ppost:=QIr (ss:=[s]) (φ:=φ) c h
end
theorem QTD{ch:List PanicEntry}[p:Pan]{P:Program}{f:FuncId}{args:List Value}{rs:Rs}{ss:List Sh}{pre F:List HP}{rd:HP}{post:Tup ss→List HP→Prop}{ppost:List HP→Prop}{K:Cur ss}(sp:CtP ch P f args rs ss pre rd post ppost)
  (hch:Pan.ch=ch) (hp:As.Perm (pre++F)) (hrd:Rds B F rd) (h:∀t Bs,post t Bs→Ent B (Bs++F) (Cur.app ss K t)) (hq:∀Bs,ppost Bs→Ent B (Bs++F) Pan.q):Ent B As (QGI P f args rs ss K):=by
 intro w hw;obtain⟨a,ha,hm,hr,hx⟩:=(hw.perm hp).parts;unfold QGI;refine (sp w a ha hm (hr rd hrd)).mono ?_;rintro e w' (⟨t,Bs,he,hp,hs⟩|⟨Bs,he,hp,hs⟩)
 ·exact .inl ⟨t,he,h t Bs hp w' (hx Bs w' hs)⟩
 ·exact .inr ⟨by rw[hch];exact he,hq Bs hp w' (hx Bs w' hs)⟩
theorem QST{ch:List PanicEntry}{pan:WP→Pan}[pf:Qfb ch pan]{Q:WP}{P:Program}{f:FuncId}{args:List Value}{rs:Rs}{ss:List Sh}{pre G:List HP}{rd:HP}{post:Tup ss→List HP→Prop}{ppost:List HP→Prop}{K:Cur ss}[s:Split pre As G]
  (sp:CtP ch P f args rs ss pre rd post ppost) (hrd:Rds B G rd) (h:∀t Bs,post t Bs→Ent B (Bs++G) (Cur.app ss K t)) (hq:∀Bs,ppost Bs→Ent B (Bs++G) Q):Ent B As (@QGI (pan Q) P f args rs ss K):=
 @QTD B As ch (pan Q) P f args rs ss pre G rd post ppost K sp (pf.ch Q) s.perm hrd h (by rw[pf.q];exact hq)
end Go.Cf
namespace Go.Cf
open Go
set_option linter.unusedVariables false
structure QVx where
 g:FuncId
 tf:TypeId
 cd:Int
structure QPj(P:Program)(ch:List PanicEntry)(c:QVx):Prop where
 body:QB8 P c.g=true
 calm:∀(ad:Addr) (w:World),CallsDIn (FF none) 0 P c.g #[.pointer (some ad)] .returning w fun e u' w'=>e=.returned (.tuple #[])∧u'=.returning∧w'=w
 caught:∀(ad:Addr) (w:World),(∃v,(w.alloc (.cells #[] c.tf)).cell? ad=some v)→(w.alloc (.cells #[] c.tf)).frozen? ad=false →
  CallsDIn (FF none) 0 P c.g #[.pointer (some ad)] (.panicking ch) w fun e u' w'=>e=.returned (.tuple #[])∧settle u'=.returning∧w'=(w.alloc (.cells #[] c.tf)).setCell ad (.int .i64 c.cd)
def QYh(c:QVx)(t:Nat):Code→Bool
 | .region _ ops false=>(match ops.toList with
  | [o]=>(match o.op,o.guard with
   | .defer d,none=>(match d.callee,d.args.toList with
    | .value (.func g),[.tmp u]=>Nat.beq g c.g&&Nat.beq u t&&o.dst.isNone
    | _,_=>false)
   | _,_=>false)
  | _=>false)
 | _=>false
def QfY(pan:WP→Pan)(c:QVx)(P:Program)(dp:List Nat)(fn:Func)(args:List Value)(ss:List Sh)(R:Cur ss):WP:=
 match fn.body,fn.results.toList,fn.resultTypes.toList with
 | some (.seq r0 (.seq r1 rest)),[.cell t u],[u']=>
  bif Nat.beq u u'&&Nat.ble args.length fn.ntmps&&QYh c t r1 then
   wpC P fn.ntmps dp (QPX P fn fn.ntmps) r0 (QLA args 0) (fun ρ=>bif has ρ t && !(QBy t (wr ρ rest [])) then (match gv ρ t with
    | .pointer (some ad)=>
     let ret:WP:=QHr P [(.cell t u,u)] [(t,gv ρ t)] [] fun vs=>Cur.appV ss R vs
     let pa:=pan (QDE [] c.tf fun _=>QBG ad (.int .i64 c.cd) ret)
     @wpC pa P fn.ntmps dp (@QPX pa P fn fn.ntmps) rest ρ (fun _=>ret) [] (fun _=>ret)
    | _=>bad) else bad) [] (fun _=>bad)
  else bad
 | _,_,_=>bad
theorem QPs(c:Code):LeavesC c fun _=>True:=by
 induction c with
 | region _ ops _=>exact fun _ _ _ _ _=>trivial
 | seq a b iha ihb=>exact⟨iha,ihb⟩
 | cond _ a b iha ihb=>exact⟨iha,ihb⟩
 | block _ b ih=>exact ih
 | scope b ih=>exact ih
 | loop b ih=>exact ih
 | _=>trivial
theorem Qcx{P:Program}{N:Nat}{dl:List Deferred}{fn:Func}{a:Act}{ρ:Env}{w:World}(hf:Fits N dl ρ a)(hl:fn.results.toList.length=fn.resultTypes.toList.length){R:Cur (QAc P fn.resultTypes.toList).2}
  (h:QHr P (fn.results.toList.zip fn.resultTypes.toList) ρ [] (fun vs=>Cur.appV _ R vs) w):∃v,(results fn a.tmps).run P w=.ok v w∧∃t,v=(QAc P fn.resultTypes.toList).1.mk (Tup.vals _ t)∧Cur.app _ R t w:=by
 obtain⟨vs,cs,hm,hfl,hk⟩:=QR5 hf _ _ _ _ _ hl h;obtain⟨t,ht,hk⟩:=Cur.appV_app _ _ _ _ hk;refine⟨_,?_,t,rfl,hk⟩;simp only[List.nil_append]at ht;rw[ht,QfL hfl]
 have gen:∀g:ResultVar→Sem Value,(∀r,g r=QNL a.tmps r) →
   (do let vs ← fn.results.mapM g;pure (if h:vs.size=1 then vs[0] else .tuple vs):Sem Value).run P w=.ok (if h:vs.toArray.size=1 then vs.toArray[0] else .tuple vs.toArray) w:=by
  intro g hg;obtain rfl:g=QNL a.tmps:=funext hg;rw[Array.mapM_eq_mapM_toList];simp only[Sem.run_bind,Sem.run_map,hm,Result.andThen_ok,Sem.run_pure]
 exact gen _ fun r=>by cases r<;>rfl
theorem QZc{c:QVx}{t:Nat}{r:Code}(h:QYh c t r=true):∃id o d,r=.region id #[o] false∧o.op=.defer d∧o.guard=none∧o.dst=none∧d.callee=.value (.func c.g)∧d.args = #[.tmp t]:=by
 unfold QYh at h;split at h
 ·rename_i id ops
  split at h
  ·rename_i o ho
   split at h
   ·rename_i d hop hgd
    split at h
    ·rename_i g u hcal harg
     simp only[Bool.and_eq_true,Option.isNone_iff_eq_none]at h;obtain⟨⟨hg,hu⟩,hd⟩:=h;obtain rfl:=Nat.eq_of_beq_eq_true hg;obtain rfl:=Nat.eq_of_beq_eq_true hu;exact⟨id,o,d,by rw[show ops = #[o] from Array.ext' (by simpa using ho)],hop,hgd,hd,hcal,Array.ext' (by simpa using harg)⟩
    ·cases h
   ·cases h
  ·cases h
 ·cases h
set_option maxHeartbeats 1000000 in
theorem QVD{ch:List PanicEntry}{pan:WP→Pan}(hq:∀Q,(pan Q).q=Q)(hch:∀Q,(pan Q).ch=ch){P:Program}(hng:QI5 P)(hm:P.follows .mixedOrders=true){c:QVx}(hc:QPj P ch c){f:FuncId}{fn:Func}(hf:P.funcs[f]? = some fn){dp:List Nat}{args:List Value}{rs:Rs}{ss:List Sh}
  (hrs:QAc P fn.resultTypes.toList=(rs,ss)) {K:Cur ss}{w:World}(h:QfY pan c P dp fn args ss K w):QAb P f args rs ss K w:=by
 unfold QfY at h;obtain⟨ts,ht⟩:∃ts,fn.resultTypes.toList=ts:=⟨_,rfl⟩
 cases hb:fn.body with
 | none=>rw[hb]at h;exact h.elim
 | some cd=>
 cases hr:fn.results.toList with
 | nil=>rw[hb,hr]at h;cases cd with
  | seq r0 cd=>cases cd<;>exact h.elim
  | _=>exact h.elim
 | cons rv rl=>
 cases ts with
 | nil=>rw[hb,hr,ht]at h;cases cd with
  | seq r0 cd=>cases cd<;>first|exact h.elim|(cases rv<;>cases rl<;>exact h.elim)
  | _=>exact h.elim
 | cons u' ul=>
 rw[hb,hr,ht]at h;cases cd<;>try exact h.elim
 rename_i r0 cd
 cases cd<;>try exact h.elim
 rename_i r1 rest
 cases rv<;>try exact h.elim
 rename_i t u
 cases rl<;>try exact h.elim
 cases ul<;>try exact h.elim
 simp only at h
 obtain⟨rfl,rfl⟩:(QAc P fn.resultTypes.toList).1=rs∧(QAc P fn.resultTypes.toList).2=ss:=by rw[hrs];exact⟨rfl,rfl⟩
 have hk:=(QAI h).1
 replace h:=(QAI h).2
 simp only[Bool.and_eq_true]at hk;obtain⟨⟨hu,hle⟩,hdef⟩:=hk;obtain rfl:=Nat.eq_of_beq_eq_true hu;have hle:=Nat.le_of_ble_eq_true hle;obtain⟨id,o,d,rfl,hop,hgd,hdst,hcal,harg⟩:=QZc hdef
 have hlen:fn.results.toList.length=fn.resultTypes.toList.length:=by rw[hr,ht];rfl
 have hz:fn.results.toList.zip fn.resultTypes.toList=[(.cell t u,u)]:=by rw[hr,ht];rfl
 have fits:Fits fn.ntmps [] (QLA args 0) { tmps:=args.toArray++Array.replicate (fn.ntmps - args.toArray.size) undef,defers:=[] }:=by
  refine⟨by simp;omega,rfl,fun t ht=>?_⟩;obtain⟨j,hj,hv⟩:=QQD args 0 t ht
  have hj':t=j:=by omega
  subst hj';have hlt:t<args.length:=(List.getElem?_eq_some_iff.1 hv).1;rw[Array.getElem?_append_left (by simpa using hlt)];simpa using hv
 show Calls P f args.toArray w _;refine (QJt (rn:=none) (n:=0)).1 (callsIn_of_wp_defers hf hb trivial ?_);refine wpIn_seq (QMI (rn:=none) hng (QOu hng hm fn _) r0 (Fr:=fun _=>True) (fun _ _ _ _ hq=>hq.elim) h fits (QPs _) trivial ?_ (fun _ _ _ _ _ _ h=>h.elim) (fun _ _ _ _ _ h=>h.elim));intro ρ a1 w1 hf1 _ h1;obtain⟨hk2,h1⟩:=QAI h1;simp only[Bool.and_eq_true,Bool.not_eq_true']at hk2;cases hv:gv ρ t <;> (try (rw[hv]at h1;exact h1.elim))
 rename_i q
 cases q with
 | none=>rw[hv]at h1;exact h1.elim
 | some ad=>
 rw[hv]at h1;simp only at h1;have htmp:=hf1.get t hk2.1;rw[hv]at htmp;show (Code.seq _ rest).wpIn (FF none) 0 P _ a1 w1;refine wpIn_seq (wpIn_region ?_);show wpOpsIn (FF none) 0 P #[o] _ [0] a1 w1
 have hw:Region.wanted o (yielded #[o] a1.tmps)=true:=by simp[Region.wanted,hgd]
 have hres:(execOp a1.eval o).run P w1=.ok (.defer { target:=.fn (.func c.g) #[],args:=#[.pointer (some ad)] }) w1:=by
  obtain⟨dst,op,type,pos,after,guard⟩:=o;simp only at hop hgd hdst;subst hop;simp only[execOp,resolve,hcal,harg,Act.eval,Deferred.ofValue,Sem.run_bind,Sem.run_pure,Result.andThen_ok];simp[Act.eval,Array.getD_eq_getD_getElem?,htmp]
 simp only[wpOpsIn,List.getElem?_toArray,List.getElem?_cons_zero,hw,if_true];refine⟨fun _ _=>trivial,?_⟩;rw[show o.semAt (FF none).round a1.eval=execOp a1.eval o from rfl,hres,Oper.uponIn_defer,hdst];have hd1:a1.defers=[]:=hf1.defs;generalize hD:({ target:=.fn (.func c.g) #[],args:=#[.pointer (some ad)] }:Deferred)=D
 have ha2:({ a1 with defers:=D::a1.defers }:Act).put none undef={ a1 with defers:=[D] }:=by rw[hd1];rfl
 rw[ha2];have hf2:Fits fn.ntmps [D] ρ { a1 with defers:=[D] }:=⟨hf1.size,rfl,fun t ht=>hf1.get t ht⟩
 -- the deferred call, and the result behind it
 have inv:∀w',(invoke (.fn (.func c.g) #[]) #[.pointer (some ad)]).run P w'=.ok (.enter c.g #[.pointer (some ad)]) w':=fun w'=>by
  have hbd:=hc.body;unfold QB8 at hbd
  cases hg:P.funcs[c.g]? with
  | none=>rw[hg]at hbd;cases hbd
  | some fd=>
   rw[hg]at hbd;have hnm:=hng c.g fd hg
   have hbn:fd.body.isNone=false:=by cases hbb:fd.body<;>simp_all
   simp only[invoke,callFunc,Sem.run_bind,Sem.run_pure,Result.andThen_ok,run_program,hg,hnm,hbn,Bool.false_eq_true,if_false,Array.append_empty]
 have fin:∀(a:Act) (w':World),Keep fn.ntmps [D] ρ (wr ρ rest []) a→QHr P [(.cell t u,u)] [(t,.pointer (some ad))] [] (fun vs=>Cur.appV _ K vs) w' →
   ∃v,(results fn a.tmps).run P w'=.ok v w'∧∃tt,v=(QAc P fn.resultTypes.toList).1.mk (Tup.vals _ tt)∧Cur.app _ K tt w':=by
  intro a w' hkp hres;refine Qcx (N:=fn.ntmps) (dl:=[D]) (ρ:=[(t,.pointer (some ad))]) ⟨hkp.size,hkp.defs,fun t' ht'=>?_⟩ hlen (by rw[hz];exact hres);simp only[QCv]at ht';simp only[QCy]
  cases hb:Nat.beq t t' with
  | false=>rw[hb]at ht';cases ht'
  | true=>
   obtain rfl:=Nat.eq_of_beq_eq_true hb;rw[hkp.get t hk2.1 hk2.2,hv];rfl
 have calm:∀(a:Act) (w':World),a.defers=[D]→Keep fn.ntmps [D] ρ (wr ρ rest []) a→QHr P [(.cell t u,u)] [(t,.pointer (some ad))] [] (fun vs=>Cur.appV _ K vs) w' →
   LeavesIn (FF none) 0 P fn a.tmps (fun e w'=>∃t,e=.returned ((QAc P fn.resultTypes.toList).1.mk (Tup.vals _ t))∧Cur.app _ K t w') a.defers .returning w':=by
  intro a w' hd hkp hres;rw[hd,←hD];refine leavesIn_cons (by simp) (by simp) (inv w') (fun _ _=>trivial) ((hc.calm ad w').mono ?_);rintro e u' w'' ⟨rfl,rfl,rfl⟩;obtain⟨v,hr,tt,rfl,hk⟩:=fin a _ hkp hres;exact⟨_,hr,tt,rfl,hk⟩
 show rest.wpIn (FF none) 0 P (bodyPostDIn (FF none) 0 P fn _) _ w1;refine @QMI P none [D] (pan _) hng fn.ntmps dp _ (@QOu (pan _) P hng hm fn fn.ntmps) rest (Keep fn.ntmps [D] ρ (wr ρ rest [])) ρ _ _ [] _ w1 _ ?_ h1 hf2 (QGq rest [] fun t ht=>ht) (hf2.keep _) ?_ (fun _ _ _ _ _ _ h=>h.elim) ?_
 ·intro a w' hd hkp hqq;rw[hq]at hqq;obtain⟨hx,hfz,_,hres⟩:=hqq;show LeavesIn (FF none) 0 P fn a.tmps _ a.defers (.panicking _) w';rw[hd,←hD,hch];refine leavesIn_cons (by simp) (by simp) (inv w') (fun _ _=>trivial) ((hc.caught ad w' hx hfz).mono ?_);rintro e u' w'' ⟨rfl,hs,rfl⟩;obtain⟨v,hr,tt,rfl,hk⟩:=fin a _ hkp hres;show LeavesIn (FF none) 0 P fn a.tmps _ [] (settle u') _;rw[hs];exact⟨_,hr,tt,rfl,hk⟩
 ·intro ρ' a' w' hf' hkp hres;exact calm a' w' hf'.defs hkp hres
 ·intro ρ' a' w' hf' hkp hres;exact calm a' w' hf'.defs hkp hres
variable {B:QBE}{As F:List HP}
theorem Sx.allocO{w:World}(h:Sx B As w){o:Obj}{Q:HP}(hQ:Q (fun k=>if k=w.heap.size then some o else none)):Sx B (Q::As) (w.alloc o):=by
 obtain⟨g,hs,hsub,hu⟩:=h
 have hg:g w.heap.size=none:=by
  cases hh:g w.heap.size with
  | none=>rfl
  | some o=>have:=hsub _ _ hh;simp[mem]at this
 have hd:Dis (fun k=>if k=w.heap.size then some o else none) g:=fun k=>by
  by_cases he:k=w.heap.size
  ·subst he;exact .inr hg
  ·exact .inl (by simp[he])
 refine⟨uni (fun k=>if k=w.heap.size then some o else none) g,⟨_,g,hQ,hs,hd,QBV _ _,QBT hd⟩,?_,?_⟩
 ·refine QEI (fun k o ho=>?_) (fun k o ho=>?_)
  ·by_cases he:k=w.heap.size
   ·subst he;simp only[if_true,Option.some.injEq]at ho;rw[←ho];show (w.heap.push _)[w.heap.size]? = _;simp
   ·simp[he]at ho
  ·have h1:=hsub _ _ ho;have hlt:k<w.heap.size:=(Array.getElem?_eq_some_iff.1 h1).1;show (w.heap.push _)[k]? = some o;rw[Array.getElem?_push_lt hlt,←h1];exact (Array.getElem?_eq_getElem hlt).symm
 ·refine⟨hu.os,hu.tape,hu.output,hu.drawn,by have:=hu.size;simp;omega,fun k hk h0=>?_⟩;have hlt:k<w.heap.size:=Nat.lt_of_lt_of_le hk hu.size;have:=hu.old k hk h0;refine⟨?_,QEB.2 ⟨by simp;omega,this.2⟩⟩;show (w.heap.push _)[k]? = _;rw[Array.getElem?_push_lt hlt,←this.1];exact (Array.getElem?_eq_getElem hlt).symm
theorem Sx.writeO{P Q:HP}{rest:List HP}{w w':World}{b:Nat}{o':Obj}(h:Sx B (P::rest) w)(hP:∀g,P g→∃o,g b=some o)(hQ:Q (fun k=>if k=b then some o' else none))
  (hn:∀k,k≠b→w'.heap[k]? = w.heap[k]?) (hb:w'.heap[b]? = some o') (hos:w'.os=w.os) (ht:w'.tape=w.tape) (ho:w'.output=w.output) (hsz:Szd w w') :
  Sx B (Q::rest) w':=by
 obtain⟨g,⟨h1,h2,p1,p2,d,s1,s2⟩,hsub,hu⟩:=h;obtain⟨o1,q1⟩:=hP _ p1
 have h2b:h2 b=none:=by
  rcases d b with e|e
  ·rw[q1]at e;cases e
  ·exact e
 have hB:∀k,k<B.W.heap.size→B.h0 k=none→k≠b:=fun k hk h0 e=>by
  subst e;have:=(hu.old k hk h0).2;rw[s1 _ _ q1]at this;cases this
 refine⟨uni (fun k=>if k=b then some o' else none) h2,?_,?_,?_⟩
 ·refine⟨_,h2,hQ,p2,fun k=>?_,QBV _ _,QBT fun k=>?_⟩ <;>
  ·by_cases e:k=b
   ·subst e;exact .inr h2b
   ·exact .inl (by simp[e])
 ·refine QEI (fun k o ho=>?_) (fun k o ho=>?_)
  ·by_cases e:k=b
   ·subst e;simp only[if_true,Option.some.injEq]at ho;rw[←ho];exact hb
   ·simp[e]at ho
  ·have hk:k≠b:=fun e=>by subst e;rw[h2b]at ho;cases ho
   show w'.heap[k]? = some o;rw[hn k hk];exact hsub _ _ (s2 _ _ ho)
 ·refine⟨by rw[hos,hu.os],by rw[ht,hu.tape],by rw[ho,hu.output],Nat.le_trans hu.drawn hsz.2,by rw[hsz.1];exact hu.size,fun k hk h0=>?_⟩;have hkb:=hB k hk h0;have:=hu.old k hk h0;refine⟨by rw[hn k hkb];exact this.1,QEB.2 ⟨by simp[hkb],?_⟩⟩
  cases h2k:h2 k with
  | none=>rfl
  | some o=>rw[s2 _ _ h2k]at this;cases this.2
section
variable {β:Type}
def QBr:List (Int×β)→Int→Option β
 | [],_=>none
 | p::l,k=>if k=p.1 then some p.2 else QBr l k
def QL4:List (Int×β)→Int→β→List (Int×β)
 | [],k,v=>[(k,v)]
 | p::l,k,v=>if k=p.1 then (k,v)::l else p::QL4 l k v
def QQX(f:β→Value):List (Int×β)→Int→Nat→Option (Nat×Value)
 | [],_,_=>none
 | p::l,k,i=>if k=p.1 then some (i,f p.2) else QQX f l k (i+1)
theorem QK8(f:β→Value)(k:Int):∀(kvs:List (Int×β)) (es:List MapEntry) (i:Nat),es.map (fun e=>(e.key,e.val))=kvs.map (fun p=>(Value.int .i64 p.1,f p.2))→Instr.findNow (.int .i64) (.int .i64 k) es i=some (QQX f kvs k i)
 | [],[],_,_=>rfl
 | [],_::_,_,h=>by cases h
 | _::_,[],_,h=>by cases h
 | p::kvs,e::es,i,h=>by
  simp only[List.map_cons,List.cons.injEq,Prod.mk.injEq]at h;obtain⟨⟨h1,h2⟩,h3⟩:=h;have ih:=QK8 f k kvs es (i+1) h3
  have hs:Instr.sameNow (.int .i64) (.int .i64 k) e.key=some (k == p.1):=by rw[h1];simp[Instr.sameNow]
  simp only[Instr.findNow,hs,QQX];by_cases hk:k=p.1
  ·have:(k == p.1)=true:=by simpa using hk
   rw[this,if_pos hk,h2]
  ·have:(k == p.1)=false:=by simpa using hk
   rw[this,if_neg hk];exact ih
theorem QFB(f:β→Value)(k:Int):∀(kvs:List (Int×β)) (i:Nat),(QBr kvs k=none∧QQX f kvs k i=none∧∀x,QL4 kvs k x=kvs++[(k,x)]) ∨
  ∃j v,QQX f kvs k i=some (i+j,f v)∧kvs[j]? = some (k,v)∧QBr kvs k=some v∧∀x,QL4 kvs k x=kvs.set j (k,x)
 | [],_=>.inl ⟨rfl,rfl,fun _=>rfl⟩
 | p::kvs,i=>by
  by_cases hk:k=p.1
  ·refine .inr ⟨0,p.2,by simp[QQX,hk],by simp[hk],by simp[QBr,hk],fun x=>by simp[QL4,hk]⟩
  ·rcases QFB f k kvs (i+1) with⟨h1,h2,h3⟩|⟨j,v,h1,h2,h3,h4⟩
   ·exact .inl ⟨by simp[QBr,hk,h1],by simp[QQX,hk,h2],fun x=>by simp[QL4,hk,h3]⟩
   ·exact .inr ⟨j+1,v,by simp only[QQX,hk,if_false,h1,Option.some.injEq,Prod.mk.injEq,and_true];omega,by simpa using h2,by simp[QBr,hk,h3],fun x=>by simp[QL4,hk,h4]⟩
end
def QOn(s:Sh)(r:Option Nat)(kvs:List (Int×s.ty)):HP:=fun h=>∃b es clock,r=some b∧h b=some (.map es clock)∧es.toList.map (fun e=>(e.key,e.val))=kvs.map (fun p=>(Value.int .i64 p.1,s.mk p.2))
class OwnM(s:Sh)(r:Option Nat)(As:List HP)(kvs:outParam (List (Int×s.ty)))(F:outParam (List HP)):Prop where
 perm:As.Perm (QOn s r kvs::F)
instance OwnM.head(s:Sh)(r:Option Nat)(kvs:List (Int×s.ty))(As:List HP):OwnM s r (QOn s r kvs::As) kvs As:=⟨List.Perm.refl _⟩
instance OwnM.tail(s:Sh)(r:Option Nat)(kvs:List (Int×s.ty))(A:HP)(As F:List HP)[o:OwnM s r As kvs F]:OwnM s r (A::As) kvs (A::F):=⟨(o.perm.cons A).trans (List.Perm.swap _ _ _)⟩
class QfG(P:Program)(t:TypeId)(s:Sh)(z:outParam s.ty):Prop where
 ok:∃kt e,P.underlying t=some (.map kt e)∧P.underlying kt=some (.int .i64)∧(P.info? e).bind (·.zero)=some (s.mk z)
variable {P:Program}{t:TypeId}
theorem Qbt{e:TypeId}{z:Value}(h:(P.info? e).bind (·.zero)=some z)(w:World):(zeroValue e).run P w=.ok z w:=by
 cases hi:P.info? e with
 | none=>rw[hi]at h;cases h
 | some i=>
  rw[hi]at h;have h:i.zero=some z:=h;simp[zeroValue,QVU hi,h]
theorem QUz{s:Sh}{z:s.ty}(m:QfG P t s z){r:Option Nat}{kvs:List (Int×s.ty)}{w:World}(hw:QOn s r kvs (mem w))(k:Int)(c:Bool) :
  (Instr.lookup t (.map r) (.int .i64 k) c).run P w=.ok (if c then .tuple #[s.mk ((QBr kvs k).getD z),.bool (QBr kvs k).isSome] else s.mk ((QBr kvs k).getD z)) w:=by
 obtain⟨kt,e,ht,hk,hz⟩:=m.ok;obtain⟨b,es,clock,rfl,hb,hes⟩:=hw;have hb:w.heap[b]? = some (.map es clock):=hb;have hf:=MapKept.run_findKey (P:=P) (w:=w) hk (QK8 (s.mk) k kvs es.toList 0 hes);have hc:∀e,(Instr.checkKey e 10000 kt (.int .i64 k)).run P w=.ok () w:=fun e=>MapKept.run_checkKey (n:=9999) hk (by simp[MapKept.IsKey]) e;rcases QFB s.mk k kvs 0 with⟨h1,h2,_⟩|⟨j,v,h1,_,h3,_⟩
 ·rw[h2]at hf;simp[Instr.lookup,run_underlying ht,MapKept.run_getObj_map hb,hc,hf,Qbt hz,h1]
 ·rw[h1]at hf;simp[Instr.lookup,run_underlying ht,MapKept.run_getObj_map hb,hc,hf,h3]
theorem QSc{s:Sh}{r:Option Nat}{kvs:List (Int×s.ty)}{g h:QBe}(hm:QOn s r kvs g)(hs:Sub g h):QOn s r kvs h:=by
 obtain⟨b,es,clock,h1,h2,h3⟩:=hm;exact⟨b,es,clock,h1,hs _ _ h2,h3⟩
theorem QbE(s:Sh){z:s.ty}{r:Option Nat}{kvs:List (Int×s.ty)}[m:QfG P t s z][f:OwnM s r As kvs F]{k:Int}{K:s.ty→Bool→WP}
  (h:Ent B As (K ((QBr kvs k).getD z) (QBr kvs k).isSome)):Ent B As (Qez P t (.map r) (.int .i64 k) s K):=by
 intro w hw;obtain⟨g,hg,hs⟩:=(hw.perm f.perm).head;exact⟨_,_,w,QUz m (QSc hg hs) k true,h w hw⟩
theorem QeQ(s:Sh){z:s.ty}{r:Option Nat}{kvs:List (Int×s.ty)}[m:QfG P t s z][f:OwnM s r As kvs F]{k:Int}{K:s.ty→WP}
  (h:Ent B As (K ((QBr kvs k).getD z))):Ent B As (QKt P (Instr.lookup t (.map r) (.int .i64 k) false) s K):=by
 intro w hw;obtain⟨g,hg,hs⟩:=(hw.perm f.perm).head;exact⟨_,w,QUz m (QSc hg hs) k false,h w hw⟩
theorem QfO(s:Sh){z:s.ty}{r:Option Nat}{kvs:List (Int×s.ty)}[m:QfG P t s z][f:OwnM s r As kvs F]{k:Int}(v:s.ty){x:Value}{K:WP}(hx:x=s.mk v:=by rfl)
  (h:Ent B (QOn s r (QL4 kvs k v)::F) K):Ent B As (Qgn P t (.map r) (.int .i64 k) x K):=by
 intro w hw;subst hx;have hw1:=hw.perm f.perm;obtain⟨g,hg,hs⟩:=hw1.head;obtain⟨kt,e,ht,hk,hz⟩:=m.ok;have hg':=hg;obtain⟨b,es,clock,rfl,hb,hes⟩:=QSc hg hs;have hb:w.heap[b]? = some (.map es clock):=hb;have hf:=MapKept.run_findKey (P:=P) (w:=w) hk (QK8 (s.mk) k kvs es.toList 0 hes);have hc:∀e,(Instr.checkKey e 10000 kt (.int .i64 k)).run P w=.ok () w:=fun e=>MapKept.run_checkKey (n:=9999) hk (by simp[MapKept.IsKey]) e
 have fin:∀o',QOn s (some b) (QL4 kvs k v) (fun k=>if k=b then some o' else none)→Sx B (QOn s (some b) (QL4 kvs k v)::F) { w with heap:=w.heap.setIfInBounds b o' }:=fun o' hQ=>by
  obtain⟨q1,q2⟩:=MapKept.heap_set (o':=o') hb;exact hw1.writeO (b:=b) (fun g hg=>by obtain⟨b1,es1,c1,e1,h1,_⟩:=hg;cases e1;exact⟨_,h1⟩) hQ (fun k hk=>q2 k hk) q1 rfl rfl rfl ⟨by simp,Nat.le_refl _⟩
 rcases QFB s.mk k kvs 0 with⟨h1,h2,h3⟩|⟨j,v0,h1,h2,h3,h4⟩
 ·rw[h2]at hf;refine⟨{ w with heap:=w.heap.setIfInBounds b (.map (es.push ⟨.int .i64 k,s.mk v,clock⟩) (clock+1)) },?_,h _ (fin _ ?_)⟩
  ·simp[Instr.mapUpdate,run_underlying ht,MapKept.run_getObj_map hb,hc,hf,MapKept.run_setObj_map _ hb]
  ·exact⟨b,es.push ⟨.int .i64 k,s.mk v,clock⟩,clock+1,rfl,by simp,by rw[h3,Array.toList_push,List.map_append,List.map_append,hes];rfl⟩
 ·rw[h1]at hf
  have hlen:es.toList.length=kvs.length:=by simpa using congrArg List.length hes
  have hj:j<es.toList.length:=by rw[hlen];exact (List.getElem?_eq_some_iff.1 h2).1
  obtain⟨e0,he0⟩:∃e0,es.toList[j]? = some e0:=⟨_,List.getElem?_eq_getElem hj⟩
  have hke:es[j]? = some e0:=by rw[←he0];simp
  have hkey:e0.key=.int .i64 k:=by
   have a1:=congrArg (fun l=>l[j]?) hes;simp only[List.getElem?_map,he0,h2,Option.map_some,Option.some.injEq,Prod.mk.injEq]at a1;exact a1.1
  refine⟨{ w with heap:=w.heap.setIfInBounds b (.map (es.modify j fun e=>{ e with key:=.int .i64 k,val:=s.mk v }) clock) },?_,h _ (fin _ ?_)⟩
  ·simp[Instr.mapUpdate,run_underlying ht,MapKept.run_getObj_map hb,hc,hf,hke,hkey,Instr.keyThatStays,Instr.sameBits,MapKept.run_setObj_map _ hb]
  ·refine⟨b,es.modify j fun e=>{ e with key:=.int .i64 k,val:=s.mk v },clock,rfl,by simp,?_⟩;rw[h4,Array.toList_modify,List.map_set]
   have:(es.toList.modify j fun e=>{ e with key:=.int .i64 k,val:=s.mk v })=es.toList.set j ⟨.int .i64 k,s.mk v,e0.born⟩:=by
    apply List.ext_getElem?;intro i;rw[List.getElem?_modify,List.getElem?_set];by_cases hij:j=i
    ·subst hij;rw[he0,if_pos rfl,if_pos hj];simp
    ·simp[hij]
   rw[this,List.map_set,hes]
theorem Qas(s:Sh)(b:Nat):QOn s (some b) [] (fun k=>if k=b then some (Obj.map #[] 0) else none):=⟨b,#[],0,rfl,by simp,rfl⟩
theorem QhK(s:Sh){K:Option Nat→WP}(h:∀b,Ent B (QOn s (some b) []::As) (K (some b))):Ent B As (QKt P (Instr.makeMap t none) .map K):=fun w hw=>
 ⟨some w.heap.size,_,rfl,h _ _ (hw.allocO (Qas s _))⟩
end Go.Cf
namespace Go.Cf
open Go
variable {B:QBE}{As:List HP}
theorem ca3{s t u:Sh}{K:s.ty→t.ty→u.ty→WP}{x:s.ty}{y:t.ty}{z:u.ty}{v:Unit}(h:Ent B As (K x y z)):Ent B As (Cur.app [s,t,u] K (x,y,z,v)):=h
theorem ca4{s t u r:Sh}{K:s.ty→t.ty→u.ty→r.ty→WP}{x:s.ty}{y:t.ty}{z:u.ty}{q:r.ty}{v:Unit}(h:Ent B As (K x y z q)):Ent B As (Cur.app [s,t,u,r] K (x,y,z,q,v)):=h
theorem QgG{P:Program}{f:FuncId}{args:List Value}{rs:Rs}{s t u r:Sh}{pre:List HP}{rd:HP}{post:Tup [s,t,u,r]→List HP→Prop}{φ:(s.ty→t.ty→u.ty→r.ty→WP)→WP}(c:∀{K:s.ty→t.ty→u.ty→r.ty→WP}{w:World},φ K w→QAb P f args rs [s,t,u,r] K w)
  (h:∀B:QBE,rd (frz B.W B.h0)→Ent B pre (φ fun x y z q=>Ret B post (x,y,z,q,()))):Ct P f args rs [s,t,u,r] pre rd post:=QAg (ss:=[s,t,u,r]) c h
end Go.Cf
namespace Go.Cf
open Go
variable {B:QBE}{As:List HP}{P:Program}
def QTi(r:Option Addr)(s:ByteArray)(pos:Nat):HP:=fun h=>∃b,r=some ⟨b,0,none⟩∧h b=some (.stringIter s pos)
class OwnI(r:Option Addr)(As:List HP)(s:outParam ByteArray)(pos:outParam Nat)(F:outParam (List HP)):Prop where
 perm:As.Perm (QTi r s pos::F)
instance OwnI.head(r:Option Addr)(s:ByteArray)(pos:Nat)(As:List HP):OwnI r (QTi r s pos::As) s pos As:=⟨List.Perm.refl _⟩
theorem Qex{t:TypeId}{s:ByteArray}{K:Option Addr→WP}(ht:P.underlying t=some .string)(h:∀r,Ent B (QTi r s 0::As) (K r)):Ent B As (QKt P (Instr.range t (.string s)) .ptr K):=fun w hw=>by
 refine⟨some ⟨w.heap.size,0,none⟩,w.alloc (.stringIter s 0),?_,h _ _ (hw.allocO ⟨_,rfl,by simp⟩)⟩;have hn:∀i:Int,(newObj (.stringIter s 0)).run P w=.ok w.heap.size (w.alloc (.stringIter s 0)):=fun _=>rfl;simp[Instr.range,run_underlying ht,hn 0]
theorem Qf4{r:Option Addr}{s:ByteArray}{pos:Nat}{F:List HP}{ty:TypeId}{K0:WP}{K1:Int→Int→WP}[o:OwnI r As s pos F](h0:s.size≤pos→Ent B As K0)
  (h1:pos<s.size→Ent B (QTi r s (pos+(Utf8.decode s pos).2)::F) (K1 (pos:Int) ((Utf8.decode s pos).1:Int))):Ent B As (QZP P (.pointer r) ty K0 K1):=by
 intro w hw;have hw1:=hw.perm o.perm;obtain⟨g,⟨b,hr,hb⟩,hs⟩:=hw1.head;subst hr;have hb:w.heap[b]? = some (.stringIter s pos):=hs _ _ hb
 have hg:(getObj b).run P w=.ok (.stringIter s pos) w:=by simp[getObj,Sem.run,hb]
 have hset:∀o,(setObj b o).run P w=.ok () { w with heap:=w.heap.setIfInBounds b o }:=fun o=>by simp[setObj,Sem.run,hb]
 by_cases hp:pos<s.size
 ·obtain⟨q1,q2⟩:=MapKept.heap_set (o':=Obj.stringIter s (pos+(Utf8.decode s pos).2)) hb;refine⟨_,_,?_,.inr ⟨(pos:Int),((Utf8.decode s pos).1:Int),rfl,h1 hp { w with heap:=w.heap.setIfInBounds b (.stringIter s (pos+(Utf8.decode s pos).2)) } ?_⟩⟩
  ·simp[Instr.next,hg,hp,hset,goInt]
  ·exact hw1.writeO (b:=b) (fun g hg=>by obtain⟨b1,e1,h1⟩:=hg;cases e1;exact⟨_,h1⟩) ⟨b,rfl,by simp⟩ (fun k hk=>q2 k hk) q1 rfl rfl rfl ⟨by simp,Nat.le_refl _⟩
 ·refine⟨_,w,?_,.inl ⟨rfl,h0 (by omega) w hw⟩⟩;simp[Instr.next,hg,hp]
theorem decode_ascii{s:ByteArray}{pos:Nat}{b:UInt8}(hb:s.data.toList[pos]? = some b)(h:b.toNat<128):Utf8.decode s pos=(b.toNat,1):=by
 have e:s.get! (pos+0)=b:=by
  rw[Nat.add_zero];obtain⟨h1,h2⟩:=List.getElem?_eq_some_iff.1 hb
  have h1':pos<s.data.size:=by simpa using h1
  show s.data[pos]! = b;rw[getElem!_pos s.data pos h1'];simpa using h2
 unfold Utf8.decode;simp only[e];rw[if_pos h]
theorem decode_other{s:ByteArray}{pos:Nat}{b:UInt8}(hb:s.data.toList[pos]? = some b)(h:¬b.toNat<128):128≤(Utf8.decode s pos).1:=by
 have e:s.get! (pos+0)=b:=by
  rw[Nat.add_zero];obtain⟨h1,h2⟩:=List.getElem?_eq_some_iff.1 hb
  have h1':pos<s.data.size:=by simpa using h1
  show s.data[pos]! = b;rw[getElem!_pos s.data pos h1'];simpa using h2
 unfold Utf8.decode;simp only[e];rw[if_neg h]
 have r:128≤Utf8.runeError:=by decide
 split
 ·skip
  split
  ·rename_i h2;exact h2
  ·exact r
 split
 ·skip
  split
  ·rename_i h2;simp at h2;omega
  ·exact r
 split
 ·skip
  split
  ·rename_i h2;simp at h2;omega
  ·exact r
 ·exact r
end Go.Cf
namespace Go.Cf
open Go
set_option linter.unusedVariables false
def QZy:Code→List Code
 | .seq a b=>QZy a++QZy b
 | c=>[c]
def QTV(P:Program)(N:Nat)(dp:List Nat)(dr:List Oper→Env→(Env→WP)→WP):List Code→Env→(Env→WP)→List (Nat×(Env→WP))→(Env→WP)→WP
 | [],ρ,KN,_,_=>KN ρ
 | c::cs,ρ,KN,KX,KR=>wpC P N dp dr c ρ (fun ρ'=>QTV P N dp dr cs ρ' KN KX KR) KX KR
theorem QO8(P:Program)(N:Nat)(dp:List Nat)(dr:List Oper→Env→(Env→WP)→WP):∀(xs ys:List Code) (ρ:Env) (KN:Env→WP) (KX:List (Nat×(Env→WP))) (KR:Env→WP),
  QTV P N dp dr (xs++ys) ρ KN KX KR=QTV P N dp dr xs ρ (fun ρ'=>QTV P N dp dr ys ρ' KN KX KR) KX KR
 | [],_,_,_,_,_=>rfl
 | c::cs,ys,ρ,KN,KX,KR=>by
  show wpC P N dp dr c ρ (fun ρ'=>QTV P N dp dr (cs++ys) ρ' KN KX KR) KX KR=wpC P N dp dr c ρ (fun ρ'=>QTV P N dp dr cs ρ' (fun ρ'=>QTV P N dp dr ys ρ' KN KX KR) KX KR) KX KR;congr 1;funext ρ';exact QO8 P N dp dr cs ys ρ' KN KX KR
theorem QaE(P:Program)(N:Nat)(dp:List Nat)(dr:List Oper→Env→(Env→WP)→WP)(c:Code):∀(ρ:Env) (KN:Env→WP) (KX:List (Nat×(Env→WP))) (KR:Env→WP),
  wpC P N dp dr c ρ KN KX KR=QTV P N dp dr (QZy c) ρ KN KX KR:=by
 induction c with
 | seq a b iha ihb=>
  intro ρ KN KX KR;show wpC P N dp dr a ρ (fun ρ'=>wpC P N dp dr b ρ' KN KX KR) KX KR=QTV P N dp dr (QZy a++QZy b) ρ KN KX KR;rw[QO8,iha];congr 1;funext ρ';exact ihb ρ' KN KX KR
 | _=>intro ρ KN KX KR;rfl
def QRr(P:Program)(fn:Func)(ss:List Sh)(R:Cur ss):Env→WP:=fun ρ=>QHr P (fn.results.toList.zip fn.resultTypes.toList) ρ [] fun vs=>Cur.appV ss R vs
def QWI(fn:Func)(k n:Nat):List Code:=match fn.body with
 | some c=>((QZy c).drop k).take n
 | none=>[]
def QVo(fn:Func)(k:Nat):List Code:=match fn.body with
 | some c=>(QZy c).drop k
 | none=>[]
def QGw(P:Program)(fn:Func)(dp:List Nat)(ss:List Sh)(R:Cur ss)(k:Nat)(ρ:Env):WP:=
 QTV P fn.ntmps dp (QPX P fn fn.ntmps) (QVo fn k) ρ (QRr P fn ss R) [] (QRr P fn ss R)
theorem QLs{P:Program}{fn:Func}{dp:List Nat}{ss:List Sh}{R:Cur ss}{k n:Nat}{ρ:Env} :
  QGw P fn dp ss R k ρ=QTV P fn.ntmps dp (QPX P fn fn.ntmps) (QWI fn k n) ρ (QGw P fn dp ss R (k+n)) [] (QRr P fn ss R):=by
 have e:QVo fn k=QWI fn k n++QVo fn (k+n):=by
  unfold QVo QWI
  cases fn.body with
  | none=>rfl
  | some c=>
   show (QZy c).drop k=((QZy c).drop k).take n++(QZy c).drop (k+n);rw[←List.drop_drop,List.take_append_drop]
 unfold QGw;rw[e,QO8]
theorem QXa{P:Program}(hng:QI5 P)(hm:P.follows .mixedOrders=true){f:FuncId}{fn:Func}(hf:P.funcs[f]? = some fn){dp:List Nat}{args:List Value}{rs:Rs}{ss:List Sh}
  (hrs:QAc P fn.resultTypes.toList=(rs,ss)) (hok:(fn.body.isSome&&(Nat.beq fn.results.toList.length fn.resultTypes.toList.length&&Nat.ble args.length fn.ntmps))=true) {K:Cur ss}{w:World}(h:QGw P fn dp ss K 0 (QLA args 0) w):QAb P f args rs ss K w:=by
 refine QIV (dp:=dp) hng hm hf hrs ?_;unfold wpF
 cases hb:fn.body with
 | none=>rw[hb]at hok;simp at hok
 | some c=>
  rw[hb]at hok;simp only[Option.isSome_some,Bool.true_and]at hok;simp only[hok,cond_true];rw[QaE];unfold QGw QVo at h;rw[hb]at h;exact h
variable {B:QBE}{As:List HP}
theorem xeq{φ ψ:WP}(e:φ=ψ)(h:Ent B As ψ):Ent B As φ:=by rw[e];exact h
end Go.Cf
namespace Go.Cf
open Go
set_option linter.unusedVariables false
def QhO(P:Program)(v:Value)(args:List Value)(K:WP):WP:=
 match callee [] (.value (.const v)) with
 | some (g,first,cap)=>bif QB8 P g then QAb P g (first++args++cap) (.tup []) [] K else bad
 | none=>match QGm [] (.value (.const v)) with
  | some (l,first)=>bad
  | none=>bad
def Qfz(P:Program)(v:Value)(args:List Value)(s:Sh)(K:s.ty→WP):WP:=
 match callee [] (.value (.const v)) with
 | some (g,first,cap)=>bif QB8 P g then QAb P g (first++args++cap) .one [s] K else Qfd P g (first++args++cap) s K
 | none=>match QGm [] (.value (.const v)) with
  | some (l,first)=>(match s,K with
   | .bool,K=>QcU P l (first++args) K
   | _,_=>bad)
  | none=>bad
def QgB(P:Program)(v:Value)(args:List Value)(l:List (Option Nat))(ss:List Sh)(K:Cur ss):WP:=
 match callee [] (.value (.const v)) with
 | some (g,first,cap)=>bif QB8 P g then QAb P g (first++args++cap) (.tup l) ss K else bad
 | none=>match QGm [] (.value (.const v)) with
  | some (_,_)=>bad
  | none=>bad
variable {B:QBE}{As F:List HP}
theorem Qel{P:Program}{g:FuncId}{first cap:Array Value}{args:List Value}{l:List (Option Nat)}{ss:List Sh}{K:Cur ss}(hb:QB8 P g=true)
  (h:Ent B As (QAb P g (first.toList++args++cap.toList) (.tup l) ss K)):Ent B As (QgB P (.func (.func g) first cap) args l ss K):=by
 intro w hw;show (bif QB8 P g then QAb P g (first.toList++args++cap.toList) (.tup l) ss K else bad) w;rw[hb];exact h w hw
theorem QbY{P:Program}{g:FuncId}{first cap:Array Value}{args:List Value}{s:Sh}{K:s.ty→WP}(hb:QB8 P g=true)
  (h:Ent B As (QAb P g (first.toList++args++cap.toList) .one [s] K)):Ent B As (Qfz P (.func (.func g) first cap) args s K):=by
 intro w hw;show (bif QB8 P g then QAb P g (first.toList++args++cap.toList) .one [s] K else Qfd P g (first.toList++args++cap.toList) s K) w;rw[hb];exact h w hw
end Go.Cf
namespace Go.Cf
open Go
set_option linter.unusedVariables false
variable {B:QBE}{As:List HP}
theorem QfE{body:WP→WP}(I:Nat→List HP→Prop)(n0:Nat)(h0:I n0 As)
  (round:∀n As' (K:WP),I n As'→(∀m As'',m<n→I m As''→Ent B As'' K)→Ent B As' (body K)):Ent B As (QGp [] body):=by
 intro w hw;refine⟨n0+1,?_⟩
 have key:∀n As',I n As'→∀k,n<k→Ent B As' (Cur.app [] (QHB [] body k) ()):=by
  intro n
  induction n using Nat.strongRecOn with
  | _ n ih=>
   intro As' hI k hk
   cases k with
   | zero=>omega
   | succ k=>exact round n As' (QHB [] body k) hI fun m As'' hm hI'=>ih m hm As'' hI' k (by omega)
 exact key n0 As h0 (n0+1) (by omega) w hw
theorem QgE{s:ByteArray}{i:Int}{k:Nat}{b:UInt8}{K:Int→WP}(hi:i=(k:Int))(hb:s.data.toList[k]? = some b)(h:Ent B As (K b.toNat)):Ent B As (QSt s i K):=fun w hw=>by
 subst hi;refine⟨b,by omega,?_,h w hw⟩;rw[Int.toNat_natCast];obtain⟨h1,h2⟩:=List.getElem?_eq_some_iff.1 hb
 have h1':k<s.data.size:=by simpa using h1
 show s.data[k]? = some b;rw[Array.getElem?_eq_getElem h1'];simpa using h2
theorem QhD{P:Program}{t d e:TypeId}{s:Sl}{xs:List UInt8}{K:ByteArray→WP}[r:RdA B As s U8 xs](h0:0<xs.length)(hs:P.underlying t=some (.slice e))(he:P.underlying e=some (.int .u8))(hd:P.underlying d=some .string)(h:Ent B As (K ⟨xs.toArray⟩)) :
  Ent B As (QKt P (convert t d s.v) .str K):=by
 intro w hw;obtain⟨hn,_,hc⟩:=r.rd w hw;obtain⟨b,o,pre,post,e1,fr,hp,hb,ho⟩:=hc (by omega);obtain⟨p,n,c⟩:=s;simp only at hp hn;subst hp hn;refine⟨⟨xs.toArray⟩,w,?_,h w hw⟩;have hb':w.heap[b]? = some (.cells (pre++QAf U8 xs++post).toArray e1 fr):=hb;refine run_convert_bytes_back w t d e ⟨b,o,none⟩ c xs hs he hd fun j hj=>?_;rw[QCR];simp only[World.cell?,hb'];simp only[Option.isSome_none,Bool.false_eq_true,if_false,List.getElem?_toArray];have hl:=QAG U8 xs;have hsz:U8.sz=1:=rfl;rw[List.append_assoc,List.getElem?_append_right (by omega),ho,Nat.add_sub_cancel_left,List.getElem?_append_left (by rw[hl,hsz];omega),Qdj,List.getElem?_eq_getElem hj];rfl
end Go.Cf
namespace Go.Cf
open Go
set_option linter.unusedVariables false
section
variable {P:Program}{N:Nat}{dp:List Nat}{dr:List Oper→Env→(Env→WP)→WP}
end
section
variable {B:QBE}{As F:List HP}
end
end Go.Cf
