/-
  Memory in pieces: what a state of a call holds, and what each formula makes of it.
  Slices whose elements are known: reading, writing, appending, making.
  append, copy and make at slices of one's own.
  The usual elements; numbers.
  What a callee reads; dropping; cutting; clearing; appending with what is known of the header.
  What a law's arguments hold, as memory that may be read; what a call leaves behind.
  What arguments hold, type by type.
  Making slices; slices whose spare room is known; slots and joins, more.
  copy; append of so many zeros; do slices overlap?
  Maps of one's own, from numbers to things of one cell.
  A long function's formula, part by part.
  A formula's parts with the orders of its regions checked ahead, on their own.
  A region whose order Go leaves open, as a game: whichever operation is ready may come next. No tree of orders is printed or checked.
  Calls of function values that were loaded; contracts of the library's functions, as the kit proves them, brought into these rules.
  Rules: a loop without variables; a byte of a string; a string of bytes.
  A loop over a function: its formula, and that the formula gives the call's contract.
-/
import Derived.Test.YtffoldlhonbafaaGreatDoorA2
import Derived.Below
import Derived.Laws.Append
import Derived.Laws.AppendOwn
import Derived.Laws.MakeOwn
import Derived.Deep.Matrix
import Derived.Carry
import Derived.SizedLaws
import Derived.Laws.Externs
import Derived.MapKept
import Derived.Laws.IdiomStrings
import Derived.RangeFuncSeq
set_option linter.unusedSectionVars false
namespace Go.Cf
open Go
abbrev Frag:=Nat→Option Obj
abbrev HP:=Frag→Prop
def Sub (h g:Frag):Prop:=∀ k o,h k=some o→g k=some o
def Dis (h g:Frag):Prop:=∀ k,h k=none∨g k=none
abbrev mem (w:World):Frag:=fun k=>w.heap[k]?
theorem Sub.refl (h:Frag):Sub h h:=fun _ _ e=>e
theorem Sub.trans {a b c:Frag}(h:Sub a b) (k:Sub b c):Sub a c:=fun i o e=>k i o (h i o e)
theorem Dis.symm {a b:Frag}(h:Dis a b):Dis b a:=fun k=>(h k).symm
theorem Dis.sub {a a' b b':Frag}(h:Dis a b) (ha:Sub a' a) (hb:Sub b' b):Dis a' b':=fun k=>by
  rcases h k with e | e
  · left
    cases ha':a' k with
    | none=>rfl
    | some o=>rw [ha k o ha'] at e;cases e
  · right
    cases hb':b' k with
    | none=>rfl
    | some o=>rw [hb k o hb'] at e;cases e
def uni (h g:Frag):Frag:=fun k=>match h k with
  | some o=>some o
  | none=>g k
theorem sub_uni_left (h g:Frag):Sub h (uni h g):=fun k o e=>by simp [uni,e]
theorem sub_uni_right {h g:Frag}(d:Dis h g):Sub g (uni h g):=fun k o e=>by
  rcases d k with e' | e'
  · simp [uni,e',e]
  · rw [e] at e';cases e'
theorem uni_sub {h g f:Frag}(a:Sub h f) (b:Sub g f):Sub (uni h g) f:=fun k o e=>by
  unfold uni at e
  cases hk:h k with
  | some o'=>rw [hk] at e;exact a k o (by rw [hk];exact e)
  | none=>rw [hk] at e;exact b k o e
theorem uni_none {h g:Frag}{k:Nat}:uni h g k=none↔h k=none∧g k=none:=by
  unfold uni
  cases h k<;>simp
theorem dis_uni {a h g:Frag}(x:Dis a h) (y:Dis a g):Dis a (uni h g):=fun k=>by
  rcases x k with e | e
  · exact .inl e
  · rcases y k with e' | e'
    · exact .inl e'
    · exact .inr (uni_none.2 ⟨e,e'⟩)
def star:List HP→HP
  | []=>fun _=>True
  | P::Ps=>fun h=>∃ h1 h2,P h1∧star Ps h2∧Dis h1 h2∧Sub h1 h∧Sub h2 h
theorem star_mono:∀ (l:List HP) {h g:Frag},star l h→Sub h g→star l g:=by
  intro l
  cases l with
  | nil=>intro h g _ _;trivial
  | cons P l=>rintro h g ⟨a,b,pa,pb,d,sa,sb⟩ s;exact ⟨a,b,pa,pb,d,sa.trans s,sb.trans s⟩
theorem star_swap {P Q:HP}{l:List HP}{h:Frag}(hs:star (P::Q::l) h):star (Q::P::l) h:=by
  obtain ⟨a,b,pa,⟨c,d,pc,pd,dcd,sc,sd⟩,dab,sa,sb⟩:=hs
  refine ⟨c,uni a d,pc,⟨a,d,pa,pd,dab.sub (Sub.refl _) sd,sub_uni_left _ _,sub_uni_right (dab.sub (Sub.refl _) sd)⟩,?_,sc.trans sb,uni_sub sa (sd.trans sb)⟩
  exact dis_uni (dab.sub (Sub.refl _) sc).symm dcd
theorem star_cons {P:HP}{l l':List HP}(h:∀ g,star l g→star l' g) {g:Frag}(hs:star (P::l) g):star (P::l') g:=by
  obtain ⟨a,b,pa,pb,d,sa,sb⟩:=hs
  exact ⟨a,b,pa,h _ pb,d,sa,sb⟩
theorem star_perm {l l':List HP}(p:l.Perm l'):∀ {h:Frag},star l h→star l' h:=by
  induction p with
  | nil=>exact fun h=>h
  | cons x _ ih=>exact fun h=>star_cons (fun g hg=>ih hg) h
  | swap x y l=>exact fun h=>star_swap h
  | trans _ _ ih1 ih2=>exact fun h=>ih2 (ih1 h)
theorem star_imp {P Q:HP}{l:List HP}(h:∀ g,P g→Q g) {g:Frag}(hs:star (P::l) g):star (Q::l) g:=by
  obtain ⟨a,b,pa,pb,d,sa,sb⟩:=hs
  exact ⟨a,b,h _ pa,pb,d,sa,sb⟩
theorem star_append:∀ (l l':List HP) {h:Frag},star (l++l') h↔∃ a b,star l a∧star l' b∧Dis a b∧Sub a h∧Sub b h:=by
  intro l
  induction l with
  | nil=>
    intro l' h
    constructor
    · exact fun hs=>⟨fun _=>none,h,trivial,hs,fun _=>.inl rfl,fun _ _ e=>(by cases e),Sub.refl _⟩
    · rintro ⟨a,b,_,hb,_,_,sb⟩;exact star_mono _ hb sb
  | cons P l ih=>
    intro l' h
    constructor
    · rintro ⟨a,b,pa,pb,d,sa,sb⟩
      obtain ⟨c,e,pc,pe,dce,sc,se⟩:=(ih l').1 pb
      refine ⟨uni a c,e,⟨a,c,pa,pc,d.sub (Sub.refl _) sc,sub_uni_left _ _,sub_uni_right (d.sub (Sub.refl _) sc)⟩,pe,?_,uni_sub sa (sc.trans sb),se.trans sb⟩
      exact (dis_uni (d.sub (Sub.refl _) se).symm dce.symm).symm
    · rintro ⟨a,b,⟨c,e,pc,pe,dce,sc,se⟩,pb,d,sa,sb⟩
      refine ⟨c,uni e b,pc,(ih l').2 ⟨e,b,pe,pb,d.sub se (Sub.refl _),sub_uni_left _ _,sub_uni_right (d.sub se (Sub.refl _))⟩,?_,sc.trans sa,uni_sub (se.trans sa) sb⟩
      exact dis_uni dce (d.sub sc (Sub.refl _))
structure Base where
  W:World
  h0:Frag
structure Upd (B:Base) (h:Frag) (w:World):Prop where
  os:w.os=B.W.os
  tape:w.tape=B.W.tape
  output:w.output=B.W.output
  drawn:0≤w.drawn
  size:B.W.heap.size≤w.heap.size
  old:∀ k,k<B.W.heap.size→B.h0 k=none→w.heap[k]? = B.W.heap[k]?∧h k=none
def Sx (B:Base) (As:List HP) (w:World):Prop:=∃ h,star As h∧Sub h (mem w)∧Upd B h w
def Ent (B:Base) (As:List HP) (φ:WP):Prop:=∀ w,Sx B As w→φ w
variable {B:Base}{As:List HP}
theorem Sx.perm {As':List HP}{w:World}(h:Sx B As w) (p:As.Perm As'):Sx B As' w:=by
  obtain ⟨g,hs,hsub,hu⟩:=h
  exact ⟨g,star_perm p hs,hsub,hu⟩
theorem Ent.perm {As':List HP}{φ:WP}(p:As.Perm As') (h:Ent B As' φ):Ent B As φ:=fun w hw=>h w (hw.perm p)
theorem Sx.drew {w:World}(h:Sx B As w):Sx B As w.drew:=by
  obtain ⟨g,hs,hsub,hu⟩:=h
  exact ⟨g,hs,hsub,hu.os,hu.tape,hu.output,Nat.le_succ_of_le hu.drawn,hu.size,hu.old⟩
theorem Sx.head {P:HP}{w:World}(h:Sx B (P::As) w):∃ g,P g∧Sub g (mem w):=by
  obtain ⟨g,⟨a,b,pa,_,_,sa,_⟩,hsub,_⟩:=h
  exact ⟨a,pa,sa.trans hsub⟩
def Blk (b:Nat) (cs:List Value):HP:=fun h=>∃ e fr,h b=some (.cells cs.toArray e fr)∧∀ i,i<cs.length→¬ (fr.1≤i∧i<fr.2)
class Own (b:Nat) (As:List HP) (cs:outParam (List Value)) (upd:outParam (List Value→List HP)) (rest:outParam (List HP)):Prop where
  eq:As=upd cs
  perm:∀ c,(upd c).Perm (Blk b c::rest)
instance Own.head (b:Nat) (cs:List Value) (As:List HP):Own b (Blk b cs::As) cs (fun c=>Blk b c::As) As:=⟨rfl,fun _=>List.Perm.refl _⟩
instance Own.tail (b:Nat) (A:HP) (As:List HP) (cs:List Value) (upd:List Value→List HP) (rest:List HP) [o:Own b As cs upd rest]:Own b (A::As) cs (fun c=>A::upd c) (A::rest):=
  ⟨by rw [←o.eq],fun c=>((o.perm c).cons A).trans (List.Perm.swap _ _ _)⟩
theorem Blk.world {b:Nat}{cs:List Value}{h:Frag}{w:World}(hb:Blk b cs h) (hs:Sub h (mem w)):∃ e fr,w.heap[b]? = some (.cells cs.toArray e fr)∧∀ i,i<cs.length→¬ (fr.1≤i∧i<fr.2):=by
  obtain ⟨e,fr,hb,hf⟩:=hb
  exact ⟨e,fr,hs _ _ hb,hf⟩
theorem Sx.own {b:Nat}{cs:List Value}{upd:List Value→List HP}{rest:List HP} [o:Own b As cs upd rest] {w:World}(h:Sx B As w):Sx B (Blk b cs::rest) w:=
  h.perm (by rw [o.eq];exact o.perm cs)
theorem xget {b:Nat}{cs:List Value}{upd:List Value→List HP}{rest:List HP} [o:Own b As cs upd rest] {off:Nat}{s:Sh}{x:s.ty}{K:s.ty→WP}(hv:cs[off]? = some (s.mk x):=by rfl) (h:Ent B As (K x)):Ent B As (XGet s ⟨b,off,none⟩ K):=by
  intro w hw
  obtain ⟨g,hg,hs⟩:=(hw.own (b:=b)).head
  obtain ⟨e,fr,hb,_⟩:=hg.world hs
  refine ⟨x,?_,h w hw⟩
  simp only [World.cell?,hb]
  simpa using hv
theorem xchk {b:Nat}{cs:List Value}{upd:List Value→List HP}{rest:List HP} [o:Own b As cs upd rest] {off:Nat}{v:Value}{K:WP}(hv:cs[off]? = some v:=by rfl) (h:Ent B As K):Ent B As (XChk ⟨b,off,none⟩ v K):=by
  intro w hw
  obtain ⟨g,hg,hs⟩:=(hw.own (b:=b)).head
  obtain ⟨e,fr,hb,_⟩:=hg.world hs
  refine ⟨?_,h w hw⟩
  simp only [World.cell?,hb]
  simpa using hv
class LSet (l:List Value) (i:Nat) (v:Value) (l':outParam (List Value)):Prop where
  eq:l'=l.set i v
  lt:i<l.length
instance LSet.zero (a v:Value) (l:List Value):LSet (a::l) 0 v (v::l):=⟨rfl,by simp⟩
instance LSet.succ (a v:Value) (l l':List Value) (i:Nat) [h:LSet l i v l']:LSet (a::l) (i+1) v (a::l'):=⟨by rw [h.eq];rfl,by have:=h.lt;simp;omega⟩
def Szd (w w':World):Prop:=w'.heap.size=w.heap.size∧w.drawn≤w'.drawn
theorem Sx.write {b:Nat}{cs cs':List Value}{rest:List HP}{w:World}{e:TypeId}{fr:Nat×Nat}(h:Sx B (Blk b cs::rest) w) {w':World}(hw:w.heap[b]? = some (.cells cs.toArray e fr))
    (hn:∀ k,k≠b→w'.heap[k]? = w.heap[k]?) (hb:w'.heap[b]? = some (.cells cs'.toArray e fr)) (hl:cs'.length=cs.length) (hos:w'.os=w.os) (ht:w'.tape=w.tape) (ho:w'.output=w.output) (hsz:Szd w w') :
    Sx B (Blk b cs'::rest) w':=by
  obtain ⟨g,⟨h1,h2,p1,p2,d,s1,s2⟩,hsub,hu⟩:=h
  obtain ⟨e1,fr1,q1,f1⟩:=p1
  have hq:=hsub _ _ (s1 _ _ q1)
  have heq:e1=e∧fr1=fr:=by
    have:(Obj.cells cs.toArray e1 fr1)=.cells cs.toArray e fr:=by
      have:=hq.symm.trans hw
      simpa using this
    simpa using this
  obtain ⟨rfl,rfl⟩:=heq
  have h2b:h2 b=none:=by
    rcases d b with e | e
    · rw [q1] at e;cases e
    · exact e
  have hB:∀ k,k<B.W.heap.size→B.h0 k=none→k≠b:=fun k hk h0 e=>by
    subst e
    have:=(hu.old k hk h0).2
    rw [s1 _ _ q1] at this;cases this
  refine ⟨uni (fun k=>if k=b then some (.cells cs'.toArray e1 fr1) else none) h2,?_,?_,?_⟩
  · refine ⟨_,h2,⟨e1,fr1,by simp,fun i hi=>f1 i (by omega)⟩,p2,fun k=>?_,sub_uni_left _ _,sub_uni_right fun k=>?_⟩ <;>
    · by_cases e:k=b
      · subst e;exact .inr h2b
      · exact .inl (by simp [e])
  · refine uni_sub (fun k o ho=>?_) (fun k o ho=>?_)
    · by_cases e:k=b
      · subst e
        simp only [if_true,Option.some.injEq] at ho
        rw [←ho];exact hb
      · simp [e] at ho
    · have hk:k≠b:=fun e=>by subst e;rw [h2b] at ho;cases ho
      show w'.heap[k]? = some o
      rw [hn k hk]
      exact hsub _ _ (s2 _ _ ho)
  · refine ⟨by rw [hos,hu.os],by rw [ht,hu.tape],by rw [ho,hu.output],Nat.le_trans hu.drawn hsz.2,by rw [hsz.1];exact hu.size,fun k hk h0=>?_⟩
    have hkb:=hB k hk h0
    have:=hu.old k hk h0
    refine ⟨by rw [hn k hkb];exact this.1,uni_none.2 ⟨by simp [hkb],?_⟩⟩
    cases h2k:h2 k with
    | none=>rfl
    | some o=>rw [s2 _ _ h2k] at this;cases this.2
theorem setCell_heap (w:World) (b off:Nat) (v:Value) (k:Nat) (h:k≠b):(w.setCell ⟨b,off,none⟩ v).heap[k]? = w.heap[k]?:=by
  simp only [World.setCell]
  rw [Array.getElem?_modify]
  simp [Ne.symm h]
theorem setCell_self (w:World) (b off:Nat) (v:Value) {cs:List Value}{e:TypeId}{fr:Nat×Nat}(h:w.heap[b]? = some (.cells cs.toArray e fr)):(w.setCell ⟨b,off,none⟩ v).heap[b]? = some (.cells (cs.set off v).toArray e fr):=by
  simp only [World.setCell]
  rw [Array.getElem?_modify]
  simp [h]
theorem xset_gen {b:Nat}{cs:List Value}{rest:List HP}{off:Nat}{v:Value}{K:WP}{As':List HP}(hp:As.Perm (Blk b cs::rest)) (hlt:off<cs.length) (hv:v.oneCell'=true)
    (hp':(Blk b (cs.set off v)::rest).Perm As') (h:Ent B As' K):Ent B As (XSet ⟨b,off,none⟩ v K):=by
  intro w hw
  have hw1:=hw.perm hp
  obtain ⟨g,hg,hs⟩:=hw1.head
  obtain ⟨e,fr,hb,hf⟩:=hg.world hs
  refine ⟨⟨cs[off],by simp [World.cell?,hb,hlt]⟩,?_,hv,h _ ((hw1.write (cs':=cs.set off v) hb (fun k hk=>setCell_heap w b off v k hk) (setCell_self w b off v hb) (by simp) rfl rfl rfl ⟨by simp,Nat.le_refl _⟩).perm hp')⟩
  simp only [World.frozen?,hb,Bool.and_eq_false_iff,decide_eq_false_iff_not]
  have:=hf off hlt
  omega
theorem xset {b:Nat}{cs cs':List Value}{upd:List Value→List HP}{rest:List HP} [o:Own b As cs upd rest] {off:Nat}{v:Value}{K:WP} [l:LSet cs off v cs'] (hv:v.oneCell'=true:=by rfl)
    (h:Ent B (upd cs') K):Ent B As (XSet ⟨b,off,none⟩ v K):=by
  refine xset_gen (cs:=cs) (rest:=rest) (by rw [o.eq];exact o.perm cs) l.lt hv ?_ h
  rw [l.eq]
  exact (o.perm _).symm
theorem Sx.allocQ {w:World}(h:Sx B As w) {cs:List Value}{e:TypeId}{Q:HP}(hQ:Q (fun k=>if k=w.heap.size then some (Obj.cells cs.toArray e) else none)):Sx B (Q::As) (w.alloc (.cells cs.toArray e)):=by
  obtain ⟨g,hs,hsub,hu⟩:=h
  have hg:g w.heap.size=none:=by
    cases hh:g w.heap.size with
    | none=>rfl
    | some o=>have:=hsub _ _ hh;simp [mem] at this
  have hd:Dis (fun k=>if k=w.heap.size then some (Obj.cells cs.toArray e) else none) g:=fun k=>by
    by_cases he:k=w.heap.size
    · subst he;exact .inr hg
    · exact .inl (by simp [he])
  refine ⟨uni (fun k=>if k=w.heap.size then some (Obj.cells cs.toArray e) else none) g,⟨_,g,hQ,hs,hd,sub_uni_left _ _,sub_uni_right hd⟩,?_,?_⟩
  · refine uni_sub (fun k o ho=>?_) (fun k o ho=>?_)
    · by_cases he:k=w.heap.size
      · subst he
        simp only [if_true,Option.some.injEq] at ho
        rw [←ho]
        show (w.heap.push _)[w.heap.size]? = _
        simp
      · simp [he] at ho
    · have h1:=hsub _ _ ho
      have hlt:k<w.heap.size:=(Array.getElem?_eq_some_iff.1 h1).1
      show (w.heap.push _)[k]? = some o
      rw [Array.getElem?_push_lt hlt,←h1]
      exact (Array.getElem?_eq_getElem hlt).symm
  · refine ⟨hu.os,hu.tape,hu.output,hu.drawn,by have:=hu.size;simp;omega,fun k hk h0=>?_⟩
    have hlt:k<w.heap.size:=Nat.lt_of_lt_of_le hk hu.size
    have:=hu.old k hk h0
    refine ⟨?_,uni_none.2 ⟨by simp;omega,this.2⟩⟩
    show (w.heap.push _)[k]? = _
    rw [Array.getElem?_push_lt hlt,←this.1]
    exact (Array.getElem?_eq_getElem hlt).symm
theorem Sx.alloc {w:World}(h:Sx B As w) (cs:List Value) (e:TypeId):Sx B (Blk w.heap.size cs::As) (w.alloc (.cells cs.toArray e)):=
  h.allocQ ⟨e,(0,0),by simp,fun i _ h=>by simp at h⟩
theorem xnew {cs:List Value}{e:TypeId}{K:Nat→WP}(h:∀ b,Ent B (Blk b cs::As) (K b)):Ent B As (XNew cs e K):=fun _ hw=>h _ _ (hw.alloc cs e)
theorem xif {b:Bool}{X Y:WP}(h1:b=true→Ent B As X) (h2:b=false→Ent B As Y):Ent B As (XIf b X Y):=fun w hw=>⟨fun e=>h1 e w hw,fun e=>h2 e w hw⟩
theorem xif_dec {p:Prop} [Decidable p] {X Y:WP}(h1:p→Ent B As X) (h2:¬ p→Ent B As Y):Ent B As (XIf (decide p) X Y):=xif (fun e=>h1 (of_decide_eq_true e)) (fun e=>h2 (of_decide_eq_false e))
theorem xand {X Y:WP}(h1:Ent B As X) (h2:Ent B As Y):Ent B As (XAnd X Y):=fun w hw=>⟨h1 w hw,h2 w hw⟩
theorem xift {b:Bool}{X Y:WP}(hb:b=true) (h:Ent B As X):Ent B As (XIf b X Y):=xif (fun _=>h) (fun e=>by rw [hb] at e;cases e)
theorem xiff {b:Bool}{X Y:WP}(hb:b=false) (h:Ent B As Y):Ent B As (XIf b X Y):=xif (fun e=>by rw [hb] at e;cases e) (fun _=>h)
theorem xasrt {p:Prop}{K:WP}(hp:p) (h:Ent B As K):Ent B As (XAsrt p K):=fun w hw=>⟨hp,h w hw⟩
theorem xnil {a:Addr}{K:Addr→WP}(h:Ent B As (K a)):Ent B As (XNil (some a) K):=fun w hw=>⟨a,rfl,h w hw⟩
theorem xdraw {K:WP}(h:Ent B As K):Ent B As (XDraw K):=fun _ hw=>h _ hw.drew
theorem xjoin {ss:List Sh}{body:Cur ss→WP}{rest:Cur ss}(h:Ent B As (body rest)):Ent B As (XJoin ss body rest):=h
theorem xjoin1 {s:Sh}{body:(s.ty→WP)→WP}{rest:s.ty→WP}(J:s.ty→List HP→Prop) (h1:∀ K:s.ty→WP,(∀ x As',J x As'→Ent B As' (K x))→Ent B As (body K)) (h2:∀ x As',J x As'→Ent B As' (rest x)) :
    Ent B As (XJoin [s] body rest):=h1 rest h2
theorem xjoin0 {body:WP→WP}{rest:WP}(J:List HP→Prop) (h1:∀ K:WP,(∀ As',J As'→Ent B As' K)→Ent B As (body K)) (h2:∀ As',J As'→Ent B As' rest) :
    Ent B As (XJoin [] body rest):=h1 rest h2
theorem xloop1 {s:Sh}{body:(s.ty→WP)→s.ty→WP}{x0:s.ty}(I:Nat→s.ty→List HP→Prop) (n0:Nat) (h0:I n0 x0 As)
    (round:∀ n x As' (K:s.ty→WP),I n x As'→(∀ m y As'',m<n→I m y As''→Ent B As'' (K y))→Ent B As' (body K x)):Ent B As (XLoop [s] body x0):=by
  intro w hw
  refine ⟨n0+1,?_⟩
  have key:∀ n x As',I n x As'→∀ k,n<k→Ent B As' (Cur.app [s] (rounds [s] body k) (x,())):=by
    intro n
    induction n using Nat.strongRecOn with
    | _ n ih=>
      intro x As' hI k hk
      cases k with
      | zero=>omega
      | succ k=>exact round n x As' (rounds [s] body k) hI fun m y As'' hm hI'=>ih m hm y As'' hI' k (by omega)
  exact key n0 x0 As h0 (n0+1) (by omega) w hw
theorem xloop2 {s t:Sh}{body:(s.ty→t.ty→WP)→s.ty→t.ty→WP}{x0:s.ty}{y0:t.ty}(I:Nat→s.ty→t.ty→List HP→Prop) (n0:Nat) (h0:I n0 x0 y0 As)
    (round:∀ n x y As' (K:s.ty→t.ty→WP),I n x y As'→(∀ m x' y' As'',m<n→I m x' y' As''→Ent B As'' (K x' y'))→Ent B As' (body K x y)):Ent B As (XLoop [s,t] body x0 y0):=by
  intro w hw
  refine ⟨n0+1,?_⟩
  have key:∀ n x y As',I n x y As'→∀ k,n<k→Ent B As' (Cur.app [s,t] (rounds [s,t] body k) (x,y,())):=by
    intro n
    induction n using Nat.strongRecOn with
    | _ n ih=>
      intro x y As' hI k hk
      cases k with
      | zero=>omega
      | succ k=>exact round n x y As' (rounds [s,t] body k) hI fun m x' y' As'' hm hI'=>ih m hm x' y' As'' hI' k (by omega)
  exact key n0 x0 y0 As h0 (n0+1) (by omega) w hw
theorem xloop3 {s t u:Sh}{body:(s.ty→t.ty→u.ty→WP)→s.ty→t.ty→u.ty→WP}{x0:s.ty}{y0:t.ty}{z0:u.ty}(I:Nat→s.ty→t.ty→u.ty→List HP→Prop) (n0:Nat) (h0:I n0 x0 y0 z0 As)
    (round:∀ n x y z As' (K:s.ty→t.ty→u.ty→WP),I n x y z As'→(∀ m x' y' z' As'',m<n→I m x' y' z' As''→Ent B As'' (K x' y' z'))→Ent B As' (body K x y z)):Ent B As (XLoop [s,t,u] body x0 y0 z0):=by
  intro w hw
  refine ⟨n0+1,?_⟩
  have key:∀ n x y z As',I n x y z As'→∀ k,n<k→Ent B As' (Cur.app [s,t,u] (rounds [s,t,u] body k) (x,y,z,())):=by
    intro n
    induction n using Nat.strongRecOn with
    | _ n ih=>
      intro x y z As' hI k hk
      cases k with
      | zero=>omega
      | succ k=>exact round n x y z As' (rounds [s,t,u] body k) hI fun m x' y' z' As'' hm hI'=>ih m hm x' y' z' As'' hI' k (by omega)
  exact key n0 x0 y0 z0 As h0 (n0+1) (by omega) w hw
def frz (w:World) (h:Frag):Frag:=fun k=>match h k with
  | some _=>none
  | none=>w.heap[k]?
def Ct (P:Program) (f:FuncId) (args:List Value) (rs:Rs) (ss:List Sh) (pre:List HP) (rd:HP) (post:Tup ss→List HP→Prop):Prop:=
  ∀ (w:World) (h:Frag),star pre h→Sub h (mem w)→rd (frz w h)→Calls P f args.toArray w fun e w'=>∃ t Bs,e=.returned (rs.mk (Tup.vals ss t))∧post t Bs∧Sx ⟨w,h⟩ Bs w'
def Ret (B:Base) {ss:List Sh}(post:Tup ss→List HP→Prop) (t:Tup ss):WP:=fun w=>∃ Bs,post t Bs∧Sx B Bs w
theorem xret {ss:List Sh}{post:Tup ss→List HP→Prop}{t:Tup ss}(h:post t As):Ent B As (Ret B post t):=fun _ hw=>⟨As,h,hw⟩
theorem Sx.start {w:World}{h:Frag}{pre:List HP}(hs:star pre h) (hm:Sub h (mem w)):Sx ⟨w,h⟩ pre w:=
  ⟨h,hs,hm,rfl,rfl,rfl,Nat.zero_le _,Nat.le_refl _,fun _ _ e=>⟨rfl,e⟩⟩
theorem spec_gen {P:Program}{f:FuncId}{args:List Value}{rs:Rs}{ss:List Sh}{pre:List HP}{rd:HP}{post:Tup ss→List HP→Prop}{φ:Cur ss→WP}(c:∀ {K:Cur ss}{w:World},φ K w→XCall P f args rs ss K w)
    (h:∀ B:Base,rd (frz B.W B.h0)→Ent B pre (φ (Cur.ofT ss (Ret B post)))):Ct P f args rs ss pre rd post:=by
  intro w g hs hm hr
  have:=c (h ⟨w,g⟩ hr w (Sx.start hs hm))
  unfold XCall at this
  refine this.mono ?_
  rintro e w' ⟨t,he,hk⟩
  rw [Cur.app_ofT] at hk
  obtain ⟨Bs,hp,hx⟩:=hk
  exact ⟨t,Bs,he,hp,hx⟩
theorem spec0 {P:Program}{f:FuncId}{args:List Value}{rs:Rs}{pre:List HP}{rd:HP}{post:Tup []→List HP→Prop}{φ:WP→WP}(c:∀ {K:WP}{w:World},φ K w→XCall P f args rs [] K w)
    (h:∀ B:Base,rd (frz B.W B.h0)→Ent B pre (φ (Ret B post ()))):Ct P f args rs [] pre rd post:=spec_gen (ss:=[]) c h
theorem spec1 {P:Program}{f:FuncId}{args:List Value}{rs:Rs}{s:Sh}{pre:List HP}{rd:HP}{post:Tup [s]→List HP→Prop}{φ:(s.ty→WP)→WP}(c:∀ {K:s.ty→WP}{w:World},φ K w→XCall P f args rs [s] K w)
    (h:∀ B:Base,rd (frz B.W B.h0)→Ent B pre (φ fun x=>Ret B post (x,()))):Ct P f args rs [s] pre rd post:=spec_gen (ss:=[s]) c h
theorem spec2 {P:Program}{f:FuncId}{args:List Value}{rs:Rs}{s t:Sh}{pre:List HP}{rd:HP}{post:Tup [s,t]→List HP→Prop}{φ:(s.ty→t.ty→WP)→WP}(c:∀ {K:s.ty→t.ty→WP}{w:World},φ K w→XCall P f args rs [s,t] K w)
    (h:∀ B:Base,rd (frz B.W B.h0)→Ent B pre (φ fun x y=>Ret B post (x,y,()))):Ct P f args rs [s,t] pre rd post:=spec_gen (ss:=[s,t]) c h
theorem spec3 {P:Program}{f:FuncId}{args:List Value}{rs:Rs}{s t u:Sh}{pre:List HP}{rd:HP}{post:Tup [s,t,u]→List HP→Prop}{φ:(s.ty→t.ty→u.ty→WP)→WP}(c:∀ {K:s.ty→t.ty→u.ty→WP}{w:World},φ K w→XCall P f args rs [s,t,u] K w)
    (h:∀ B:Base,rd (frz B.W B.h0)→Ent B pre (φ fun x y z=>Ret B post (x,y,z,()))):Ct P f args rs [s,t,u] pre rd post:=spec_gen (ss:=[s,t,u]) c h
def Rds (B:Base) (F:List HP) (rd:HP):Prop:=∀ (w:World) (hp hF:Frag),star F hF→Sub hF (mem w)→Dis hp hF→Sub hp (mem w)→Upd B (uni hp hF) w→rd (frz w hp)
theorem Upd.sub {h g:Frag}{w:World}(hu:Upd B h w) (s:Sub g h):Upd B g w:=
  ⟨hu.os,hu.tape,hu.output,hu.drawn,hu.size,fun k hk h0=>⟨(hu.old k hk h0).1,by
    cases hg:g k with
    | none=>rfl
    | some o=>have:=(hu.old k hk h0).2;rw [s k o hg] at this;cases this⟩⟩
theorem xcall {P:Program}{f:FuncId}{args:List Value}{rs:Rs}{ss:List Sh}{pre F:List HP}{rd:HP}{post:Tup ss→List HP→Prop}{K:Cur ss}(sp:Ct P f args rs ss pre rd post) (p:As.Perm (pre++F)) (hrd:Rds B F rd)
    (h:∀ t Bs,post t Bs→Ent B (Bs++F) (Cur.app ss K t)):Ent B As (XCall P f args rs ss K):=by
  intro w hw
  obtain ⟨g,hs,hm,hu⟩:=hw.perm p
  obtain ⟨a,b,ha,hb,hd,sa,sb⟩:=(star_append pre F).1 hs
  have hu':Upd B (uni a b) w:=hu.sub (uni_sub sa sb)
  unfold XCall
  refine (sp w a ha (sa.trans hm) (hrd w a b hb (sb.trans hm) hd (sa.trans hm) hu')).mono ?_
  rintro e w' ⟨t,Bs,he,hp,c,hc,hcm,hcu⟩
  refine ⟨t,he,h t Bs hp w' ⟨uni c b,(star_append Bs F).2 ⟨c,b,hc,hb,?_,sub_uni_left _ _,?_⟩,?_,?_⟩⟩
  all_goals
    have key:∀ k o,b k=some o→w'.heap[k]? = some o∧c k=none:=by
      intro k o hk
      have h1:w.heap[k]? = some o:=(sb.trans hm) k o hk
      have hlt:k<w.heap.size:=(Array.getElem?_eq_some_iff.1 h1).1
      have ha0:a k=none:=by
        rcases hd k with e | e
        · exact e
        · rw [hk] at e;cases e
      have:=hcu.old k hlt ha0
      exact ⟨by rw [this.1];exact h1,this.2⟩
    have hdis:Dis c b:=fun k=>by
      cases hk:b k with
      | none=>exact .inr rfl
      | some o=>exact .inl (key k o hk).2
  · exact hdis
  · exact sub_uni_right hdis
  · exact uni_sub hcm fun k o hk=>(key k o hk).1
  · refine ⟨by rw [hcu.os,hu.os],by rw [hcu.tape,hu.tape],by rw [hcu.output,hu.output],hcu.drawn,Nat.le_trans hu.size hcu.size,fun k hk h0=>?_⟩
    have h1:=hu'.old k hk h0
    have h2:=uni_none.1 h1.2
    have h3:=hcu.old k (Nat.lt_of_lt_of_le hk hu.size) h2.1
    exact ⟨by rw [h3.1];exact h1.1,uni_none.2 ⟨h3.2,h2.2⟩⟩
def emp:HP:=fun _=>True
class Pick (i:Nat) (As:List HP) (P:outParam HP) (F:outParam (List HP)):Prop where
  perm:As.Perm (P::F)
instance Pick.zero (A:HP) (As:List HP):Pick 0 (A::As) A As:=⟨List.Perm.refl _⟩
instance Pick.succ (i:Nat) (A P:HP) (As F:List HP) [h:Pick i As P F]:Pick (i+1) (A::As) P (A::F):=⟨(h.perm.cons A).trans (List.Perm.swap _ _ _)⟩
theorem app0 {F:List HP}{φ:WP}(h:Ent B F φ):Ent B ([]++F) φ:=h
theorem app1 {A:HP}{F:List HP}{φ:WP}(h:Ent B (A::F) φ):Ent B ([A]++F) φ:=h
theorem app2 {A A':HP}{F:List HP}{φ:WP}(h:Ent B (A::A'::F) φ):Ent B ([A,A']++F) φ:=h
theorem app3 {A A' A'':HP}{F:List HP}{φ:WP}(h:Ent B (A::A'::A''::F) φ):Ent B ([A,A',A'']++F) φ:=h
variable {P:Program}{f:FuncId}{args:List Value}{rs:Rs}{ss:List Sh}{rd:HP}{post:Tup ss→List HP→Prop}{K:Cur ss}
theorem xcall0 (sp:Ct P f args rs ss [] rd post) (hrd:Rds B As rd) (h:∀ t Bs,post t Bs→Ent B (Bs++As) (Cur.app ss K t)):Ent B As (XCall P f args rs ss K):=
  xcall sp (List.Perm.refl _) hrd h
theorem xsee (i:Nat) {P1:HP}{F:List HP} [p:Pick i As P1 F] {Bs:List HP}{φ:WP}(h:∀ g,P1 g→star Bs g) (k:Ent B (Bs++F) φ):Ent B As φ:=by
  refine Ent.perm p.perm ?_
  intro w hw
  obtain ⟨g,⟨a,b,pa,pb,d,sa,sb⟩,hm,hu⟩:=hw
  exact k w ⟨g,(star_append Bs F).2 ⟨a,b,h a pa,pb,d,sa,sb⟩,hm,hu⟩
theorem xopen (i:Nat) {P1:HP}{F:List HP} [p:Pick i As P1 F] {φ:WP}(R:List HP→Prop) (h:∀ g,P1 g→∃ Bs,R Bs∧star Bs g) (k:∀ Bs,R Bs→Ent B (Bs++F) φ):Ent B As φ:=by
  refine Ent.perm p.perm ?_
  intro w hw
  obtain ⟨g,⟨a,b,pa,pb,d,sa,sb⟩,hm,hu⟩:=hw
  obtain ⟨Bs,hR,hB⟩:=h a pa
  exact k Bs hR w ⟨g,(star_append Bs F).2 ⟨a,b,hB,pb,d,sa,sb⟩,hm,hu⟩
theorem xclose {As':List HP}{φ:WP}(h:∀ g,star As g→star As' g) (k:Ent B As' φ):Ent B As φ:=by
  rintro w ⟨g,hs,hm,hu⟩
  exact k w ⟨g,h g hs,hm,hu⟩
end Go.Cf
namespace Go.Cf
open Go
structure Enc (α:Type) where
  f:α→List Value
  sz:Nat
  len:∀ x,(f x).length=sz
  one:∀ x,∀ v∈f x,v.oneCell'=true
  pos:0<sz
  zero:α
def flat {α:Type}(E:Enc α) (xs:List α):List Value:=xs.flatMap E.f
theorem flat_length {α:Type}(E:Enc α) (xs:List α):(flat E xs).length=xs.length*E.sz:=by
  induction xs with
  | nil=>simp [flat]
  | cons x xs ih=>
    have:flat E (x::xs)=E.f x++flat E xs:=by simp [flat]
    rw [this,List.length_append,E.len,ih,List.length_cons,Nat.succ_mul]
    omega
theorem flat_append {α:Type}(E:Enc α) (xs ys:List α):flat E (xs++ys)=flat E xs++flat E ys:=by simp [flat]
theorem flat_get {α:Type}(E:Enc α):∀ (xs:List α) (i j:Nat) (x:α),xs[i]? = some x→j<E.sz→(flat E xs)[i*E.sz+j]? = (E.f x)[j]?:=by
  intro xs
  induction xs with
  | nil=>intro i j x h;simp at h
  | cons y xs ih=>
    intro i j x h hj
    have e:flat E (y::xs)=E.f y++flat E xs:=by simp [flat]
    rw [e]
    cases i with
    | zero=>
      simp only [List.getElem?_cons_zero,Option.some.injEq] at h
      subst h
      rw [Nat.zero_mul,Nat.zero_add,List.getElem?_append_left (by rw [E.len];exact hj)]
    | succ i=>
      rw [List.getElem?_append_right (by rw [E.len,Nat.succ_mul];omega),E.len]
      rw [show (i+1)*E.sz+j - E.sz=i*E.sz+j by rw [Nat.succ_mul];omega]
      exact ih i j x (by simpa using h) hj
theorem flat_set {α:Type}(E:Enc α):∀ (xs:List α) (i j:Nat) (x x':α) (v:Value),xs[i]? = some x→j<E.sz→(E.f x).set j v=E.f x'→(flat E xs).set (i*E.sz+j) v=flat E (xs.set i x'):=by
  intro xs
  induction xs with
  | nil=>intro i j x x' v h;simp at h
  | cons y xs ih=>
    intro i j x x' v h hj hx
    have e:∀ y,flat E (y::xs)=E.f y++flat E xs:=fun y=>by simp [flat]
    cases i with
    | zero=>
      simp only [List.getElem?_cons_zero,Option.some.injEq] at h
      subst h
      rw [Nat.zero_mul,Nat.zero_add,e,List.set_append_left _ _ (by rw [E.len];exact hj),hx]
      simp [flat]
    | succ i=>
      rw [e,List.set_append_right _ _ (by rw [E.len,Nat.succ_mul];omega),E.len]
      rw [show (i+1)*E.sz+j - E.sz=i*E.sz+j by rw [Nat.succ_mul];omega]
      rw [ih i j x x' v (by simpa using h) hj hx]
      simp [flat]
theorem flat_one {α:Type}(E:Enc α) (xs:List α):∀ v∈flat E xs,v.oneCell'=true:=by
  intro v hv
  simp only [flat,List.mem_flatMap] at hv
  obtain ⟨x,_,hx⟩:=hv
  exact E.one x v hx
def RArr (s:Sl) (sz:Nat) (cs:List Value):HP:=fun h=>cs.length=s.n*sz ∧
  (0<s.n→∃ b o pre post e fr,s.p=some ⟨b,o,none⟩∧h b=some (.cells (pre++cs++post).toArray e fr)∧pre.length=o)
theorem RArr.mono {s:Sl}{sz:Nat}{cs:List Value}{h g:Frag}(ha:RArr s sz cs h) (hs:Sub h g):RArr s sz cs g:=by
  obtain ⟨hl,hc⟩:=ha
  refine ⟨hl,fun hn=>?_⟩
  obtain ⟨b,o,pre,post,e,fr,hp,hb,ho⟩:=hc hn
  exact ⟨b,o,pre,post,e,fr,hp,hs _ _ hb,ho⟩
variable {α:Type}
def RAr (E:Enc α) (s:Sl) (xs:List α):HP:=fun h=>xs.length=s.n∧RArr s E.sz (flat E xs) h
def Ars (E:Enc α) (s:Sl) (xs zs:List α):HP:=fun h=>xs.length=s.n∧xs.length+zs.length=s.c ∧
  ((s.p=none∧s.c=0)∨∃ b o pre post e fr,s.p=some ⟨b,o,none⟩∧h b=some (.cells (pre++flat E (xs++zs)++post).toArray e fr)∧pre.length=o ∧
    (∀ i,i<(pre++flat E (xs++zs)++post).length→¬ (fr.1≤i∧i<fr.2))∧s.c≤9223372036854775807)
def Ar (E:Enc α) (s:Sl) (xs:List α):HP:=fun h=>∃ zs,Ars E s xs zs h
theorem Ars.read {E:Enc α}{s:Sl}{xs zs:List α}{h:Frag}(ha:Ars E s xs zs h):RAr E s xs h:=by
  obtain ⟨hn,hcap,hc⟩:=ha
  refine ⟨hn,by rw [flat_length,hn],fun h0=>?_⟩
  rcases hc with ⟨_,h⟩ | ⟨b,o,pre,post,e,fr,hp,hb,ho,_⟩
  · omega
  · exact ⟨b,o,pre,flat E zs++post,e,fr,hp,by rw [hb,flat_append];simp [List.append_assoc],ho⟩
theorem Ar.read {E:Enc α}{s:Sl}{xs:List α}{h:Frag}(ha:Ar E s xs h):RAr E s xs h:=by
  obtain ⟨zs,ha⟩:=ha;exact ha.read
theorem Ars.shift {E:Enc α}{p:Option Addr}{n n' c:Nat}{xs zs xs' zs':List α}{h:Frag}(ha:Ars E ⟨p,n,c⟩ xs zs h) (hx:xs++zs=xs'++zs') (hn:xs'.length=n'):Ars E ⟨p,n',c⟩ xs' zs' h:=by
  obtain ⟨h1,h2,h3⟩:=ha
  have hl:xs.length+zs.length=xs'.length+zs'.length:=by simpa using congrArg List.length hx
  refine ⟨hn,by rw [←hl];exact h2,?_⟩
  rw [←hx]
  exact h3
theorem RAr.mono {E:Enc α}{s:Sl}{xs:List α}{h g:Frag}(ha:RAr E s xs h) (hs:Sub h g):RAr E s xs g:=⟨ha.1,ha.2.mono hs⟩
variable {B:Base}{As:List HP}
theorem Sx.tail {A:HP}{w:World}(h:Sx B (A::As) w):Sx B As w:=by
  obtain ⟨g,⟨a,b,_,pb,_,_,sb⟩,hm,hu⟩:=h
  exact ⟨b,pb,sb.trans hm,hu.sub sb⟩
theorem Sx.frz {w:World}(h:Sx B As w):Sub (frz B.W B.h0) (mem w):=by
  obtain ⟨g,_,_,hu⟩:=h
  intro k o hk
  unfold Cf.frz at hk
  cases hb:B.h0 k with
  | some x=>rw [hb] at hk;cases hk
  | none=>
    rw [hb] at hk
    have hlt:k<B.W.heap.size:=(Array.getElem?_eq_some_iff.1 hk).1
    show w.heap[k]? = some o
    rw [(hu.old k hlt hb).1];exact hk
class Fro (B:Base) (s:Sl) {α:outParam Type}(E:outParam (Enc α)) (xs:outParam (List α)):Prop where
  rd:RAr E s xs (frz B.W B.h0)
class RdA (B:Base) (As:List HP) (s:Sl) {α:outParam Type}(E:outParam (Enc α)) (xs:outParam (List α)):Prop where
  rd:∀ w,Sx B As w→RAr E s xs (mem w)
instance (priority:=low) RdA.fro (B:Base) (As:List HP) (s:Sl) (E:Enc α) (xs:List α) [f:Fro B s E xs]:RdA B As s E xs:=⟨fun _ h=>f.rd.mono h.frz⟩
instance RdA.tail (B:Base) (A:HP) (As:List HP) (s:Sl) (E:Enc α) (xs:List α) [r:RdA B As s E xs]:RdA B (A::As) s E xs:=⟨fun w h=>r.rd w h.tail⟩
instance (priority:=high) RdA.head (B:Base) (As:List HP) (s:Sl) (E:Enc α) (xs:List α):RdA B (Ar E s xs::As) s E xs:=⟨fun w h=>by
  obtain ⟨g,hg,hs⟩:=h.head
  exact hg.read.mono hs⟩
class OwnA (s:Sl) (As:List HP) {α:outParam Type}(E:outParam (Enc α)) (xs:outParam (List α)) (upd:outParam (Sl→List α→List HP)) (rest:outParam (List HP)):Prop where
  eq:As=upd s xs
  perm:∀ t c,(upd t c).Perm (Ar E t c::rest)
instance OwnA.head (s:Sl) (E:Enc α) (xs:List α) (As:List HP):OwnA s (Ar E s xs::As) E xs (fun t c=>Ar E t c::As) As:=⟨rfl,fun _ _=>List.Perm.refl _⟩
instance OwnA.tail (s:Sl) (A:HP) (As:List HP) (E:Enc α) (xs:List α) (upd:Sl→List α→List HP) (rest:List HP) [o:OwnA s As E xs upd rest]:OwnA s (A::As) E xs (fun t c=>A::upd t c) (A::rest):=
  ⟨by rw [←o.eq],fun t c=>((o.perm t c).cons A).trans (List.Perm.swap _ _ _)⟩
theorem OwnA.start {s:Sl}{E:Enc α}{xs:List α}{upd:Sl→List α→List HP}{rest:List HP}(o:OwnA s As E xs upd rest):As.Perm (Ar E s xs::rest):=by rw [o.eq];exact o.perm s xs
def Sl.at (s:Sl) (sz i:Nat):Addr:=(s.p.getD ⟨0,0,none⟩).add (i*sz)
theorem add_none (b o n:Nat):(⟨b,o,none⟩:Addr).add n=⟨b,o+n,none⟩:=by
  unfold Addr.add
  split
  · rename_i h;subst h;rfl
  · rfl
theorem RAr.cell {E:Enc α}{s:Sl}{xs:List α}{w:World}(h:RAr E s xs (mem w)) {i j:Nat}{x:α}(hx:xs[i]? = some x) (hj:j<E.sz) :
    ∃ b o,s.p=some ⟨b,o,none⟩∧(s.at E.sz i).add j=⟨b,o+(i*E.sz+j),none⟩∧w.cell? ⟨b,o+(i*E.sz+j),none⟩=(E.f x)[j]?:=by
  obtain ⟨hl,_,hc⟩:=h
  have hi:i<xs.length:=(List.getElem?_eq_some_iff.1 hx).1
  obtain ⟨b,o,pre,post,e,fr,hp,hb,ho⟩:=hc (by omega)
  refine ⟨b,o,hp,?_,?_⟩
  · simp only [Sl.at,hp,Option.getD_some,add_none,Nat.add_assoc]
  · have hb':w.heap[b]? = some (.cells (pre++flat E xs++post).toArray e fr):=hb
    have hlen:=flat_length E xs
    have hlt:i*E.sz+j<(flat E xs).length:=by
      rw [hlen]
      have:(i+1)*E.sz≤xs.length*E.sz:=Nat.mul_le_mul_right _ hi
      rw [Nat.succ_mul] at this
      omega
    simp only [World.cell?,hb']
    simp only [Option.isSome_none,Bool.false_eq_true,if_false,List.getElem?_toArray]
    rw [List.append_assoc,List.getElem?_append_right (by omega),ho,Nat.add_sub_cancel_left,List.getElem?_append_left hlt]
    exact flat_get E xs i j x hx hj
theorem xidx {E:Enc α}{xs:List α}{s:Sl} [r:RdA B As s E xs] {i:Int}{sz:Nat}{K:Addr→WP}(_hsz:E.sz=sz:=by rfl) (h0:0≤i) (h1:i<xs.length)
    (h:∀ x,xs[i.toNat]? = some x→Ent B As (K (s.at sz i.toNat))):Ent B As (XIdx s.p s.n i sz K):=by
  intro w hw
  have hr:=r.rd w hw
  have hlt:i.toNat<xs.length:=by omega
  obtain ⟨b,o,hp,_,_⟩:=hr.cell (i:=i.toNat) (j:=0) (List.getElem?_eq_getElem hlt) E.pos
  refine ⟨_,hp,h0,by rw [←hr.1];exact h1,?_⟩
  have:=h _ (List.getElem?_eq_getElem hlt) w hw
  simp only [Sl.at,hp,Option.getD_some] at this
  exact this
theorem xidxn {E:Enc α}{xs:List α}{s:Sl} [r:RdA B As s E xs] {k:Nat}{sz:Nat}{K:Addr→WP}(hsz:E.sz=sz:=by rfl) (h1:k<xs.length)
    (h:∀ x,xs[k]? = some x→Ent B As (K (s.at sz k))):Ent B As (XIdx s.p s.n (k:Int) sz K):=
  xidx hsz (by omega) (by omega) (by simpa using h)
theorem xgetE {E:Enc α}{xs:List α}{s:Sl} [r:RdA B As s E xs] {i sz:Nat}{x:α}{sh:Sh}{v:sh.ty}{K:sh.ty→WP}(hx:xs[i]? = some x) (hsz:E.sz=sz:=by rfl) (hv:(E.f x)[0]? = some (sh.mk v):=by rfl)
    (h:Ent B As (K v)):Ent B As (XGet sh (s.at sz i) K):=by
  intro w hw
  subst hsz
  obtain ⟨b,o,_,ha,hc⟩:=(r.rd w hw).cell hx E.pos
  refine ⟨v,?_,h w hw⟩
  have e:(s.at E.sz i).add 0=s.at E.sz i:=by simp [Addr.add]
  rw [←e,ha,hc,hv]
theorem xgetEj {E:Enc α}{xs:List α}{s:Sl} [r:RdA B As s E xs] {i j sz:Nat}{x:α}{sh:Sh}{v:sh.ty}{K:sh.ty→WP}(hx:xs[i]? = some x) (hsz:E.sz=sz:=by rfl) (hv:(E.f x)[j]? = some (sh.mk v):=by rfl)
    (h:Ent B As (K v)):Ent B As (XGet sh ((s.at sz i).add j) K):=by
  intro w hw
  subst hsz
  have hj:j<E.sz:=by
    rw [←E.len x];exact (List.getElem?_eq_some_iff.1 hv).1
  obtain ⟨b,o,_,ha,hc⟩:=(r.rd w hw).cell hx hj
  exact ⟨v,by rw [ha,hc,hv],h w hw⟩
theorem xchkE {E:Enc α}{xs:List α}{s:Sl} [r:RdA B As s E xs] {i sz:Nat}{x:α}{v:Value}{K:WP}(hx:xs[i]? = some x) (hsz:E.sz=sz:=by rfl) (hv:(E.f x)[0]? = some v:=by rfl)
    (h:Ent B As K):Ent B As (XChk (s.at sz i) v K):=by
  intro w hw
  subst hsz
  obtain ⟨b,o,_,ha,hc⟩:=(r.rd w hw).cell hx E.pos
  have e:(s.at E.sz i).add 0=s.at E.sz i:=by simp [Addr.add]
  exact ⟨by rw [←e,ha,hc,hv],h w hw⟩
theorem xchkEj {E:Enc α}{xs:List α}{s:Sl} [r:RdA B As s E xs] {i j sz:Nat}{x:α}{v:Value}{K:WP}(hx:xs[i]? = some x) (hsz:E.sz=sz:=by rfl) (hv:(E.f x)[j]? = some v:=by rfl)
    (h:Ent B As K):Ent B As (XChk ((s.at sz i).add j) v K):=by
  intro w hw
  subst hsz
  have hj:j<E.sz:=by
    rw [←E.len x];exact (List.getElem?_eq_some_iff.1 hv).1
  obtain ⟨b,o,_,ha,hc⟩:=(r.rd w hw).cell hx hj
  exact ⟨by rw [ha,hc,hv],h w hw⟩
theorem Ars.cap_le {E:Enc α}{s:Sl}{xs zs:List α}{h:Frag}(ha:Ars E s xs zs h):s.c≤9223372036854775807:=by
  rcases ha.2.2 with ⟨_,h0⟩ | ⟨_,_,_,_,_,_,_,_,_,_,hM⟩
  · omega
  · exact hM
theorem Ars.blk {E:Enc α}{s:Sl}{xs zs:List α}{h:Frag}(ha:Ars E s xs zs h) {b o:Nat}(hp:s.p=some ⟨b,o,none⟩) :
    ∃ pre post,Blk b (pre++flat E (xs++zs)++post) h∧pre.length=o:=by
  obtain ⟨_,_,hc⟩:=ha
  rcases hc with ⟨h0,_⟩ | ⟨b',o',pre,post,e,fr,hp',hb,ho,hfr,_⟩
  · rw [hp] at h0;cases h0
  · rw [hp] at hp'
    cases hp'
    exact ⟨pre,post,⟨e,fr,hb,hfr⟩,ho⟩
theorem Ars.of_blk {E:Enc α}{s:Sl}{xs zs:List α}{h:Frag}{b o:Nat}{pre post:List Value}(hb:Blk b (pre++flat E (xs++zs)++post) h) (hp:s.p=some ⟨b,o,none⟩) (ho:pre.length=o) (hn:xs.length=s.n) (hc:xs.length+zs.length=s.c) (hM:s.c≤9223372036854775807):Ars E s xs zs h:=by
  obtain ⟨e,fr,hb,hfr⟩:=hb
  exact ⟨hn,hc,.inr ⟨b,o,pre,post,e,fr,hp,hb,ho,hfr,hM⟩⟩
theorem xsetEj {E:Enc α}{xs:List α}{s:Sl}{upd:Sl→List α→List HP}{rest:List HP} [o:OwnA s As E xs upd rest] {i j sz:Nat}{x:α}(x':α) {v:Value}{K:WP}(hx:xs[i]? = some x) (hsz:E.sz=sz:=by rfl) (hj:j<E.sz)
    (hv:(E.f x).set j v=E.f x') (h:Ent B (upd s (xs.set i x')) K):Ent B As (XSet ((s.at sz i).add j) v K):=by
  subst hsz
  intro w hw
  have hw1:=hw.perm o.start
  obtain ⟨g,⟨h1,h2,⟨zs,p1⟩,p2,d,s1,s2⟩,hsub,hu⟩:=hw1
  have hr:=(p1.read).mono (s1.trans hsub)
  obtain ⟨b,o',hp,ha,_⟩:=hr.cell hx hj
  obtain ⟨pre,post,hblk,hpre⟩:=p1.blk hp
  rw [ha]
  have hi:i<xs.length:=(List.getElem?_eq_some_iff.1 hx).1
  have hx2:(xs++zs)[i]? = some x:=by rw [List.getElem?_append_left hi];exact hx
  have hlt:i*E.sz+j<(flat E (xs++zs)).length:=by
    rw [flat_length]
    have:(i+1)*E.sz≤(xs++zs).length*E.sz:=Nat.mul_le_mul_right _ (by simp;omega)
    rw [Nat.succ_mul] at this
    omega
  have hone:v.oneCell'=true:=by
    refine E.one x' v ?_
    rw [←hv]
    exact List.mem_set (by rw [E.len];exact hj) v
  have hset:(pre++flat E (xs++zs)++post).set (o'+(i*E.sz+j)) v=pre++flat E (xs.set i x'++zs)++post:=by
    rw [List.append_assoc,List.set_append_right _ _ (by omega),hpre,Nat.add_sub_cancel_left,List.set_append_left _ _ hlt,flat_set E _ i j x x' v hx2 hj hv,List.set_append_left _ _ hi,List.append_assoc]
  refine xset_gen (B:=B) (As:=Blk b (pre++flat E (xs++zs)++post)::rest) (b:=b) (cs:=pre++flat E (xs++zs)++post) (rest:=rest) (off:=o'+(i*E.sz+j)) (v:=v) (K:=K) (As':=Blk b (pre++flat E (xs.set i x'++zs)++post)::rest) (List.Perm.refl _)
    (by simp only [List.length_append] at hlt ⊢;omega) hone (by rw [hset]) ?_ w ⟨g,⟨h1,h2,hblk,p2,d,s1,s2⟩,hsub,hu⟩
  refine xclose (As':=upd s (xs.set i x')) (fun g' hg'=>?_) h
  refine star_perm (o.perm s (xs.set i x')).symm (star_imp (fun q hq=>⟨zs,?_⟩) hg')
  exact Ars.of_blk hq hp hpre (by simpa using p1.1) (by simpa using p1.2.1) p1.cap_le
theorem xsetE {E:Enc α}{xs:List α}{s:Sl}{upd:Sl→List α→List HP}{rest:List HP} [o:OwnA s As E xs upd rest] {i sz:Nat}{x:α}(x':α) {v:Value}{K:WP}(hx:xs[i]? = some x) (hsz:E.sz=sz:=by rfl)
    (hv:(E.f x).set 0 v=E.f x') (h:Ent B (upd s (xs.set i x')) K):Ent B As (XSet (s.at sz i) v K):=by
  have e:(s.at sz i).add 0=s.at sz i:=by simp [Addr.add]
  rw [←e]
  exact xsetEj x' hx hsz E.pos hv h
theorem xnone (E:Enc α) {φ:WP}(h:Ent B (Ar E ⟨none,0,0⟩ []::As) φ):Ent B As φ:=by
  rintro w ⟨g,hs,hm,hu⟩
  exact h w ⟨g,⟨fun _=>none,g,⟨[],rfl,rfl,.inl ⟨rfl,rfl⟩⟩,hs,fun _=>.inl rfl,fun _ _ e=>(by cases e),Sub.refl _⟩,hm,hu⟩
theorem blk_ar {E:Enc α}{b:Nat}{cs:List Value}(xs:List α) (n:Nat) (hn:xs.length=n) (hcs:flat E xs=cs) {h:Frag}(hb:Blk b cs h) (hM:n≤9223372036854775807:=by decide):Ars E ⟨some ⟨b,0,none⟩,n,n⟩ xs [] h:=by
  subst hcs
  exact Ars.of_blk (pre:=[]) (post:=[]) (by simpa using hb) rfl rfl hn (by simpa using hn) hM
end Go.Cf
namespace Go.Cf
open Go
def appOk (P:Program) (t e:TypeId) (sz by_:Nat):Bool:=
  match P.underlying t,P.info? e with
  | some (.slice e'),some i=>Nat.beq e' e&&Nat.beq i.size sz&&Nat.beq i.bytes by_&&Nat.blt 0 by_ &&
      (match i.zero with | some z=>Nat.beq z.cells.toList.length sz | none=>false)
  | _,_=>false
class AppT (P:Program) (t:TypeId) (e sz by_:outParam Nat) (z:outParam (List Value)):Prop where
  ok:appOk P t e sz by_=true
  zero:zeroOf P e=some z
theorem appOk_spec {P:Program}{t e:TypeId}{sz by_:Nat}(h:appOk P t e sz by_=true) :
    ∃ i z,P.underlying t=some (.slice e)∧P.info? e=some i∧i.size=sz∧i.bytes=by_∧0<by_∧i.zero=some z∧z.cells.size=sz:=by
  unfold appOk at h
  cases ht:P.underlying t with
  | none=>rw [ht] at h;cases h
  | some dt=>
  cases hi:P.info? e with
  | none=>rw [ht,hi] at h;cases dt<;>cases h
  | some i=>
  rw [ht,hi] at h
  cases dt<;>simp only [Bool.false_eq_true] at h
  rename_i e'
  simp only [Bool.and_eq_true] at h
  obtain ⟨⟨⟨⟨h1,h2⟩,h3⟩,h4⟩,h6⟩:=h
  obtain rfl:=Nat.eq_of_beq_eq_true h1
  cases hz:i.zero with
  | none=>rw [hz] at h6;cases h6
  | some z=>
    rw [hz] at h6
    exact ⟨i,z,rfl,rfl,Nat.eq_of_beq_eq_true h2,Nat.eq_of_beq_eq_true h3,by simpa [Nat.blt_eq] using h4,hz,by simpa using Nat.eq_of_beq_eq_true h6⟩
theorem storeCells_blk {P:Program}(b:Nat) (e:TypeId) (fr:Nat×Nat):∀ (vs:List Value) (o i:Nat) (l:List Value) (w:World),w.heap[b]? = some (.cells l.toArray e fr)→o+i+vs.length≤l.length →
    (∀ k,k<l.length→¬ (fr.1≤k∧k<fr.2))→(∀ v∈vs,v.oneCell'=true) →
    ∃ w',(storeCells ⟨b,o,none⟩ vs i).run P w=.ok () w'∧w'.heap[b]? = some (.cells (setSeg vs (o+i) l).toArray e fr)∧(∀ k,k≠b→w'.heap[k]? = w.heap[k]?)∧w'.os=w.os∧w'.tape=w.tape∧w'.output=w.output∧Szd w w':=by
  intro vs
  induction vs with
  | nil=>intro o i l w hb _ _ _;exact ⟨w,rfl,hb,fun _ _=>rfl,rfl,rfl,rfl,rfl,Nat.le_refl _⟩
  | cons v vs ih=>
    intro o i l w hb hle hfr hone
    simp only [List.length_cons] at hle
    have hset:=setCell_self w b (o+i) v hb
    obtain ⟨w',h1,h2,h3,h4,h5,h6,h7⟩:=ih o (i+1) (l.set (o+i) v) (w.setCell ⟨b,o+i,none⟩ v) hset (by simp;omega) (by simpa using hfr) (fun u hu=>hone u (List.mem_cons_of_mem _ hu))
    refine ⟨w',?_,by rw [h2];rfl,fun k hk=>by rw [h3 k hk,setCell_heap w b (o+i) v k hk],h4,h5,h6,by rw [h7.1];simp,h7.2⟩
    have hc:w.cell? ⟨b,o+i,none⟩=some l[o+i]:=by simp [World.cell?,hb,show o+i<l.length by omega]
    have hf:w.frozen? ⟨b,o+i,none⟩=false:=by
      simp only [World.frozen?,hb,Bool.and_eq_false_iff,decide_eq_false_iff_not]
      have:=hfr (o+i) (by omega)
      omega
    simp only [storeCells,add_none,Sem.run_bind,run_store P w _ v _ (hone v (List.mem_cons_self ..)),hc,hf,Bool.false_eq_true,if_false,Result.andThen_ok]
    exact h1
theorem setSeg_mid:∀ (vs a c d:List Value),c.length=vs.length→setSeg vs a.length (a++c++d)=a++vs++d:=by
  intro vs
  induction vs with
  | nil=>intro a c d h;simp at h;subst h;simp [setSeg]
  | cons v vs ih=>
    intro a c d h
    cases c with
    | nil=>simp at h
    | cons x c=>
      have h':c.length=vs.length:=by simpa using h
      simp only [setSeg]
      have e:(a++x::c++d).set a.length v=(a++[v])++c++d:=by
        rw [List.append_assoc,List.set_append_right _ _ (Nat.le_refl _)]
        simp
      rw [e]
      have:=ih (a++[v]) c d h'
      simp only [List.length_append,List.length_cons,List.length_nil,Nat.zero_add] at this
      rw [this]
      simp
theorem cut_le (w:World) (need old:Nat) (e:TypeId) (h:need<9223372036854775808):(Question.appendCap need old e).cut (w.tape w.drawn (.appendCap need old e))≤9223372036854775807:=by
  simp only [Question.cut]
  have e1:(2 ^ 63:Nat)=9223372036854775808:=by decide
  have:=Nat.mod_lt (w.tape w.drawn (.appendCap need old e)) (show 0<2 ^ 63 - need by omega)
  omega
theorem cut_ge (w:World) (need old:Nat) (e:TypeId):need≤(Question.appendCap need old e).cut (w.tape w.drawn (.appendCap need old e)):=by
  simp only [Question.cut];omega
theorem RArr.first {P:Program}{q:Option Addr}{n c:Nat}{sz:Nat}{cs:List Value}{w:World}(h:RArr ⟨q,n,c⟩ sz cs (mem w)):(Builtin.firstCells sz n (.slice q n c)).run P w=.ok cs.toArray w:=by
  obtain ⟨hl,hc⟩:=h
  have nil:n=0→cs=[]:=fun hn=>List.eq_nil_of_length_eq_zero (by rw [hl];simp [hn])
  cases q with
  | none=>
    have hn:n=0:=by
      rcases Nat.eq_zero_or_pos n with h | h
      · exact h
      · obtain ⟨b,o,_,_,_,_,hp',_⟩:=hc h
        cases hp'
    rw [nil hn]
    simp [Builtin.firstCells]
  | some a=>
    rcases Nat.eq_zero_or_pos n with hn | hn
    · rw [nil hn,hn]
      simp [Builtin.firstCells,loadCells,loadCellsFrom]
    · obtain ⟨b,o,pre,post,e,fr,hp',hb,ho⟩:=hc hn
      simp only [Option.some.injEq] at hp'
      subst hp'
      have hb':w.heap[b]? = some (.cells (pre++cs++post).toArray e fr):=hb
      exact run_firstCells_some (P:=P) w sz n ⟨b,o,none⟩ n c cs hl (fun j v hj=>by
        have hlt:j<cs.length:=(List.getElem?_eq_some_iff.1 hj).1
        rw [add_none]
        simp only [World.cell?,hb']
        simp only [Option.isSome_none,Bool.false_eq_true,if_false,List.getElem?_toArray]
        rw [List.append_assoc,List.getElem?_append_right (by omega),ho,Nat.add_sub_cancel_left,List.getElem?_append_left hlt]
        exact hj)
section
variable {P:Program}{t ty e:TypeId}{sz by_:Nat}{w:World}
theorem append_none (hok:appOk P t e sz by_=true) {q:Option Addr}{sc n c:Nat}{cs:List Value}(hf:(Builtin.firstCells sz n (.slice q n c)).run P w=.ok cs.toArray w) {sn:Nat}(hroom:sn+n≤sc) :
    (Builtin.append_ #[t,t] ty #[.slice none sn sc,.slice q n c]).run P w=.ok (.slice none (sn+n) sc) w:=by
  obtain ⟨i,z,ht,hi,hsize,hbytes,hpos,hz,hzs⟩:=appOk_spec hok
  subst hsize
  simp [Builtin.append_,run_underlying ht,sizeOf,typeInfo,hi,Builtin.lenOf,hroom,hf]
theorem append_fits (hok:appOk P t e sz by_=true) {a:Addr}{q:Option Addr}{sn sc n c:Nat}{cs:List Value}(hf:(Builtin.firstCells sz n (.slice q n c)).run P w=.ok cs.toArray w) (hroom:sn+n≤sc) {w':World}
    (hs:(storeCells (a.add (sn*sz)) cs).run P w=.ok () w'):(Builtin.append_ #[t,t] ty #[.slice (some a) sn sc,.slice q n c]).run P w=.ok (.slice (some a) (sn+n) sc) w':=by
  obtain ⟨i,z,ht,hi,hsize,hbytes,hpos,hz,hzs⟩:=appOk_spec hok
  subst hsize
  simp [Builtin.append_,run_underlying ht,sizeOf,typeInfo,hi,Builtin.lenOf,hroom,hf,hs]
theorem append_grows (hok:appOk P t e sz by_=true) {p q:Option Addr}{sn sc n c:Nat}{os cs:List Value}(hfs:∀ w2:World,mem w2=mem w→(Builtin.firstCells sz sn (.slice p sn sc)).run P w2=.ok os.toArray w2)
    (hf:∀ w2:World,mem w2=mem w→(Builtin.firstCells sz n (.slice q n c)).run P w2=.ok cs.toArray w2) (hroom:¬ sn+n≤sc) (hb:(sn+n)*by_≤140737488355328) {zl:List Value}(hzl:zeroOf P e=some zl) :
    ∃ (k:Nat),sn+n≤k∧k≤9223372036854775807∧(Builtin.append_ #[t,t] ty #[.slice p sn sc,.slice q n c]).run P w=.ok (.slice (some ⟨w.heap.size,0,none⟩) (sn+n) k) (w.drew.alloc (.cells (os++cs++repL zl (k - (sn+n))).toArray e)):=by
  obtain ⟨i,z,ht,hi,hsize,hbytes,hpos,hz,hzs⟩:=appOk_spec hok
  subst hsize
  subst hbytes
  have h48:=growslice_fits (by omega:sc<sn+n) hb
  have h63:¬ (9223372036854775807<((sn:Int)+(n:Int))):=by
    have:sn+n≤(sn+n)*i.bytes:=Nat.le_mul_of_pos_right _ hpos
    omega
  have h48':¬ (281474976710656<Builtin.nextslicecap (sn+n) sc*i.bytes):=by omega
  have hf1:=hf w.drew rfl
  have hf2:=hfs w.drew rfl
  obtain ⟨i',z',hi',hz',rfl⟩:=zeroOf_some hzl
  obtain rfl:i'=i:=by rw [hi] at hi';exact (Option.some.inj hi').symm
  obtain rfl:z'=z:=by rw [hz] at hz';exact (Option.some.inj hz').symm
  have hzc:∀ m,Builtin.zeroCells z'.cells m=(repL z'.cells.toList m).toArray:=fun m=>by rw [←range_repL];rfl
  refine ⟨grownCap w (sn+n) sc e,cut_ge w _ _ _,cut_le w _ _ _ (by omega),?_⟩
  simp [Builtin.append_,run_underlying ht,sizeOf,typeInfo,zeroValue,hi,hz,Builtin.lenOf,hroom,h63,h48',Question.forced,hf1,hf2,newRow,grownCap,hzc]
end
variable {B:Base}{As:List HP}{α:Type}
theorem repL_flat (E:Enc α) (m:Nat):repL (E.f E.zero) m=flat E (List.replicate m E.zero):=by
  induction m with
  | zero=>rfl
  | succ m ih=>simp only [repL,ih,List.replicate_succ];simp [flat]
theorem append_spec {P:Program}{t ty e:TypeId}{sz by_:Nat}(hok:appOk P t e sz by_=true) {E:Enc α}(hsz:E.sz=sz) (hz:zeroOf P e=some (E.f E.zero)) {s y:Sl}{xs ys:List α}{F:List HP}{w:World}(hw:Sx B (Ar E s xs::F) w) (hy:RAr E y ys (mem w))
    (hb:(xs.length+ys.length)*by_≤140737488355328) :
    ∃ s' w',(Builtin.append_ #[t,t] ty #[s.v,y.v]).run P w=.ok (Sl.v s') w'∧Sx B (Ar E s' (xs++ys)::F) w':=by
  subst hsz
  obtain ⟨p,sn,sc⟩:=s
  obtain ⟨q,n,c⟩:=y
  obtain ⟨hyn,hyr⟩:=hy
  simp only at hyn
  have hfy:=fun(w2:World) (h:mem w2=mem w)=>RArr.first (P:=P) (w:=w2) (by rw [h];exact hyr)
  have hw0:=hw
  obtain ⟨g,⟨h1,h2,⟨zs,p1⟩,p2,dd,s1,s2⟩,hsub,hupd⟩:=hw
  have hxr:RAr E ⟨p,sn,sc⟩ xs (mem w):=p1.read.mono (s1.trans hsub)
  have hfx:=fun(w2:World) (h:mem w2=mem w)=>RArr.first (P:=P) (w:=w2) (by rw [h];exact hxr.2)
  have hxn:xs.length=sn:=p1.1
  have hxc:xs.length+zs.length=sc:=p1.2.1
  by_cases hroom:sn+n≤sc
  · cases p with
    | none=>
      have h0:sc=0:=by
        rcases p1.2.2 with ⟨_,h⟩ | ⟨b,o,_,_,_,_,h,_⟩
        · exact h
        · cases h
      have hys:ys=[]:=List.eq_nil_of_length_eq_zero (by omega)
      have hn0:n=0:=by omega
      subst hys hn0
      refine ⟨⟨none,sn+0,sc⟩,w,append_none hok (hfy w rfl) hroom,?_⟩
      rw [List.append_nil]
      exact hw0
    | some a=>
      rcases p1.2.2 with ⟨h,_⟩ | ⟨b,o,pre,post,e1,fr,hp,hbk,ho,hfr,hM⟩
      · cases h
      · simp only [Option.some.injEq] at hp
        subst hp
        have hwb:w.heap[b]? = some (.cells (pre++flat E (xs++zs)++post).toArray e1 fr):=hsub _ _ (s1 _ _ hbk)
        have hfl:=flat_length E xs
        have hfly:=flat_length E ys
        have hzl:ys.length≤zs.length:=by omega
        have hzsplit:flat E (xs++zs)=flat E xs++flat E (zs.take ys.length)++flat E (zs.drop ys.length):=by
          rw [←flat_append,←flat_append,List.append_assoc,List.take_append_drop]
        obtain ⟨w',r1,r2,r3,r4,r5,r6,r7⟩:=storeCells_blk (P:=P) b e1 fr (flat E ys) (o+sn*E.sz) 0 (pre++flat E (xs++zs)++post) w hwb (by
          have:(xs.length+ys.length)*E.sz≤(xs.length+zs.length)*E.sz:=Nat.mul_le_mul_right _ (by omega)
          rw [Nat.add_mul] at this
          simp only [List.length_append,flat_length,hfly,ho,←hxn];omega) hfr (flat_one E ys)
        have hseg:setSeg (flat E ys) (o+sn*E.sz+0) (pre++flat E (xs++zs)++post)=pre++flat E (xs++ys++zs.drop ys.length)++post:=by
          have:=setSeg_mid (flat E ys) (pre++flat E xs) (flat E (zs.take ys.length)) (flat E (zs.drop ys.length)++post) (by rw [flat_length,flat_length,List.length_take,Nat.min_eq_left hzl])
          rw [List.length_append,ho,hfl,hxn] at this
          rw [Nat.add_zero,hzsplit,flat_append,flat_append]
          simp only [List.append_assoc] at this ⊢
          exact this
        rw [hseg] at r2
        refine ⟨⟨some ⟨b,o,none⟩,sn+n,sc⟩,w',append_fits hok (hfy w rfl) hroom (by rw [add_none];exact r1),?_⟩
        have hst:Sx B (Blk b (pre++flat E (xs++zs)++post)::F) w:=⟨g,⟨h1,h2,⟨e1,fr,hbk,hfr⟩,p2,dd,s1,s2⟩,hsub,hupd⟩
        have:=hst.write (cs':=pre++flat E (xs++ys++zs.drop ys.length)++post) hwb r3 r2 (by
          simp only [List.length_append,List.length_drop,flat_length]
          have:xs.length+ys.length+(zs.length - ys.length)=xs.length+zs.length:=by omega
          rw [this]) r4 r5 r6 r7
        obtain ⟨g',hg',hm',hu'⟩:=this
        exact ⟨g',star_imp (fun q hq=>⟨zs.drop ys.length,Ars.of_blk hq rfl ho (by simp;omega) (by simp;omega) hM⟩) hg',hm',hu'⟩
  · obtain ⟨k,hk,hkM,hrun⟩:=append_grows (ty:=ty) hok hfx hfy hroom (by rw [←hxn,←hyn];exact hb) hz
    refine ⟨⟨some ⟨w.heap.size,0,none⟩,sn+n,k⟩,_,hrun,?_⟩
    have hd:Sx B (Ar E ⟨p,sn,sc⟩ xs::F) w.drew:=hw0.drew
    have ha:=(hd.tail).alloc (flat E xs++flat E ys++repL (E.f E.zero) (k - (sn+n))) e
    obtain ⟨g',hg',hm',hu'⟩:=ha
    refine ⟨g',star_imp (fun q hq=>⟨List.replicate (k - (sn+n)) E.zero,?_⟩) hg',hm',hu'⟩
    rw [repL_flat,←flat_append,←flat_append] at hq
    exact Ars.of_blk (pre:=[]) (post:=[]) (by simpa using hq) rfl rfl (by simp;omega) (by simp;omega) hkM
theorem xapp {P:Program}{t ty e:TypeId}{sz by_:Nat}{z:List Value} [a:AppT P t e sz by_ z] {E:Enc α}{s y:Sl}{xs ys:List α}{upd:Sl→List α→List HP}{rest:List HP}{K:Sl→WP} [o:OwnA s As E xs upd rest] [r:RdA B As y E ys]
    (hsz:E.sz=sz:=by rfl) (hz:E.f E.zero=z:=by rfl) (hb:(xs.length+ys.length)*by_≤140737488355328) (h:∀ s',Ent B (upd s' (xs++ys)) (K s')):Ent B As (XApp P t t ty s.v y.v K):=by
  intro w hw
  obtain ⟨s',w',hr,hx⟩:=append_spec (ty:=ty) a.ok hsz (by rw [hz];exact a.zero) (hw.perm o.start) (r.rd w hw) hb
  exact ⟨s',w',hr,h s' w' (hx.perm (o.perm s' (xs++ys)).symm)⟩
theorem xapp1 {P:Program}{t ty e:TypeId}{sz by_:Nat}{z:List Value} [a:AppT P t e sz by_ z] {E:Enc α}{s:Sl}{xs:List α}{upd:Sl→List α→List HP}{rest:List HP}{b:Nat}{cs:List Value}{updb:List Value→List HP}{F:List HP}{K:Sl→WP}
    [ob:Own b As cs updb F] [o:OwnA s F E xs upd rest] (x:α) (hx:E.f x=cs:=by rfl) (hsz:E.sz=sz:=by rfl) (hz:E.f E.zero=z:=by rfl) (hb:(xs.length+1)*by_≤140737488355328) (h:∀ s',Ent B (upd s' (xs++[x])) (K s')) :
    Ent B As (XApp P t t ty s.v (.slice (some ⟨b,0,none⟩) 1 1) K):=by
  intro w hw
  have hw1:Sx B (Blk b cs::F) w:=hw.own
  have hw2:Sx B (Ars E ⟨some ⟨b,0,none⟩,1,1⟩ [x] []::F) w:=by
    obtain ⟨g,hg,hm,hu⟩:=hw1
    exact ⟨g,star_imp (fun q hq=>blk_ar [x] 1 rfl (by simp [flat,hx]) hq) hg,hm,hu⟩
  obtain ⟨q,hq,hqs⟩:=hw2.head
  obtain ⟨s',w',hr,hx'⟩:=append_spec (ty:=ty) a.ok hsz (by rw [hz];exact a.zero) (hw1.tail.perm o.start) (hq.read.mono hqs) (by simpa using hb)
  exact ⟨s',w',hr,h s' w' (hx'.perm (o.perm s' (xs++[x])).symm)⟩
end Go.Cf
namespace Go.Cf
open Go
def U8:Enc UInt8:=⟨fun x=>[.int .u8 x.toNat],1,fun _=>rfl,fun x v h=>by simp at h;subst h;rfl,by decide,0⟩
def I64:Enc Int:=⟨fun x=>[.int .i64 x],1,fun _=>rfl,fun x v h=>by simp at h;subst h;rfl,by decide,0⟩
def SL:Enc Sl:=⟨fun x=>[x.v],1,fun _=>rfl,fun x v h=>by simp at h;subst h;rfl,by decide,⟨none,0,0⟩⟩
def ST:Enc ByteArray:=⟨fun x=>[.string x],1,fun _=>rfl,fun x v h=>by simp at h;subst h;rfl,by decide,ByteArray.empty⟩
theorem wrap_id (x:Int) (h1 : -9223372036854775808≤x) (h2:x≤9223372036854775807):IntKind.i64.wrap x=x:=by
  have e1:(2 ^ IntKind.i64.bits:Int)=18446744073709551616:=by decide
  have e2:(2 ^ (IntKind.i64.bits - 1):Int)=9223372036854775808:=by decide
  have e3:IntKind.i64.signed=true:=rfl
  simp only [IntKind.wrap,e1,e2,e3,Bool.true_and,decide_eq_true_eq]
  split<;>omega
theorem wrap_succ (k:Nat) (h:k<9223372036854775807):IntKind.i64.wrap ((k:Int)+1)=((k+1:Nat):Int):=by
  rw [wrap_id _ (by omega) (by omega)];simp
theorem u8_ne (x y:UInt8):((x.toNat:Int) != (y.toNat:Int))=(x != y):=by
  rw [Bool.eq_iff_iff]
  simp only [bne_iff_ne,ne_eq]
  rw [Int.natCast_inj,UInt8.toNat_inj]
end Go.Cf
namespace Go.Cf
open Go
section
variable {α β:Type}
def Each (R:α→β→HP):List α→List β→HP
  | [],[]=>fun _=>True
  | x::xs,y::ys=>star [R x y,Each R xs ys]
  | _,_=>fun _=>False
theorem Each.length {R:α→β→HP}:∀ {xs:List α}{ys:List β}{h:Frag},Each R xs ys h→xs.length=ys.length:=by
  intro xs
  induction xs with
  | nil=>intro ys h hh;cases ys<;>first | rfl | exact hh.elim
  | cons x xs ih=>
    intro ys h hh
    cases ys with
    | nil=>exact hh.elim
    | cons y ys=>
      obtain ⟨a,b,_,⟨c,d,pc,_,_,_,_⟩,_,_,_⟩:=hh
      simp [ih pc]
theorem Each.mono {R:α→β→HP}:∀ {xs:List α}{ys:List β}{h g:Frag},Each R xs ys h→Sub h g→Each R xs ys g:=by
  intro xs
  cases xs with
  | nil=>intro ys h g hh _;cases ys<;>first | trivial | exact hh.elim
  | cons x xs=>
    intro ys h g hh s
    cases ys with
    | nil=>exact hh.elim
    | cons y ys=>exact star_mono _ hh s
theorem star_flat1 {P:HP}{l l':List HP}{h:Frag}(hp:∀ g,P g→star l g) (hs:star (P::l') h):star (l++l') h:=by
  obtain ⟨a,b,pa,pb,d,sa,sb⟩:=hs
  exact (star_append l l').2 ⟨a,b,hp a pa,pb,d,sa,sb⟩
theorem star_fold1 {P:HP}{l l':List HP}{h:Frag}(hp:∀ g,star l g→P g) (hs:star (l++l') h):star (P::l') h:=by
  obtain ⟨a,b,pa,pb,d,sa,sb⟩:=(star_append l l').1 hs
  exact ⟨a,b,hp a pa,pb,d,sa,sb⟩
theorem each_snoc {R:α→β→HP}{x:α}{y:β}:∀ {xs:List α}{ys:List β}{h:Frag},star [Each R xs ys,R x y] h→Each R (xs++[x]) (ys++[y]) h:=by
  intro xs
  induction xs with
  | nil=>
    intro ys h hh
    cases ys with
    | cons=>obtain ⟨a,_,pa,_⟩:=hh;exact pa.elim
    | nil=>
      have h2:=star_swap hh
      exact star_mono _ h2 (Sub.refl _)
  | cons x' xs ih=>
    intro ys h hh
    cases ys with
    | nil=>obtain ⟨a,_,pa,_⟩:=hh;exact pa.elim
    | cons y' ys=>
      have h1:star ([R x' y',Each R xs ys]++[R x y]) h:=star_flat1 (fun g hg=>hg) hh
      exact star_cons (l':=[Each R (xs++[x]) (ys++[y])]) (fun g hg=>⟨g,fun _=>none,ih hg,trivial,fun _=>.inr rfl,Sub.refl _,fun _ _ e=>by cases e⟩) h1
theorem each_pick {R:α→β→HP}:∀ {xs:List α}{ys:List β}{h:Frag}{i:Nat}{x:α}{y:β},Each R xs ys h→xs[i]? = some x→ys[i]? = some y→star [R x y,Each R (xs.eraseIdx i) (ys.eraseIdx i)] h:=by
  intro xs
  induction xs with
  | nil=>intro ys h i x y _ hx;simp at hx
  | cons x' xs ih=>
    intro ys h i x y hh hx hy
    cases ys with
    | nil=>exact hh.elim
    | cons y' ys=>
      cases i with
      | zero=>
        simp only [List.getElem?_cons_zero,Option.some.injEq] at hx hy
        subst hx hy
        exact hh
      | succ i=>
        have h1:star [R x' y',R x y,Each R (xs.eraseIdx i) (ys.eraseIdx i)] h:=by
          refine star_cons (fun g hg=>?_) hh
          obtain ⟨a,b,pa,_,_,sa,_⟩:=hg
          exact star_mono _ (ih pa (by simpa using hx) (by simpa using hy)) sa
        refine star_cons (l':=[Each R ((x'::xs).eraseIdx (i+1)) ((y'::ys).eraseIdx (i+1))]) (fun g hg=>?_) (star_swap h1)
        exact ⟨g,fun _=>none,star_mono _ hg (Sub.refl _),trivial,fun _=>.inr rfl,Sub.refl _,fun _ _ e=>by cases e⟩
theorem each_put {R:α→β→HP}:∀ {xs:List α}{ys:List β}{h:Frag}{i:Nat}{x:α}{y:β},i<xs.length→i<ys.length→star [R x y,Each R (xs.eraseIdx i) (ys.eraseIdx i)] h→Each R (xs.set i x) (ys.set i y) h:=by
  intro xs
  induction xs with
  | nil=>intro ys h i x y hi;simp at hi
  | cons x' xs ih=>
    intro ys h i x y hi hj hh
    cases ys with
    | nil=>simp at hj
    | cons y' ys=>
      cases i with
      | zero=>exact hh
      | succ i=>
        have h1:star ([R x' y',Each R (xs.eraseIdx i) (ys.eraseIdx i)]++[R x y]) h:=star_flat1 (fun g hg=>hg) (star_swap hh)
        refine star_cons (l':=[Each R (xs.set i x) (ys.set i y)]) (fun g hg=>?_) h1
        exact ⟨g,fun _=>none,ih (by simpa using hi) (by simpa using hj) (star_swap hg),trivial,fun _=>.inr rfl,Sub.refl _,fun _ _ e=>by cases e⟩
theorem each_read {R:α→β→HP}{S:α→β→HP}(hm:∀ x y g f,S x y g→Sub g f→S x y f) (hr:∀ x y g,R x y g→S x y g):∀ {xs:List α}{ys:List β}{h:Frag}{i:Nat}{x:α}{y:β},Each R xs ys h→xs[i]? = some x→ys[i]? = some y→S x y h:=by
  intro xs ys h i x y hh hx hy
  obtain ⟨a,b,pa,_,_,sa,_⟩:=each_pick hh hx hy
  exact hm _ _ _ _ (hr _ _ _ pa) sa
end
def ORows (s:Sl) (bss:List (List UInt8)):HP:=fun h=>∃ rs:List Sl,star [Ar SL s rs,Each (Ar U8) rs bss] h
end Go.Cf
namespace Go.Cf
open Go
set_option linter.unusedVariables false
variable {B:Base}{As F:List HP}{α:Type}
theorem Upd.frz {h:Frag}{w:World}(hu:Upd B h w) {g:Frag}(hg:Sub g h):Sub (frz B.W B.h0) (Cf.frz w g):=by
  intro k o hk
  unfold Cf.frz at hk
  cases hb:B.h0 k with
  | some x=>rw [hb] at hk;cases hk
  | none=>
    rw [hb] at hk
    have hlt:k<B.W.heap.size:=(Array.getElem?_eq_some_iff.1 hk).1
    have h2:=hu.old k hlt hb
    have hgk:g k=none:=by
      cases h3:g k with
      | none=>rfl
      | some x=>have:=hg k x h3;rw [h2.2] at this;cases this
    unfold Cf.frz
    rw [hgk]
    show w.heap[k]? = some o
    rw [h2.1];exact hk
theorem rds_of {rd:HP}(h:∀ g,Sub (frz B.W B.h0) g→∀ hF,star F hF→Sub hF g→rd g):Rds B F rd:=by
  intro w hp hF hs hm hd hpm hu
  refine h _ (hu.frz (sub_uni_left _ _)) hF hs ?_
  intro k o hk
  unfold Cf.frz
  rcases hd k with e | e
  · rw [e];exact hm k o hk
  · rw [hk] at e;cases e
class Rdb (B:Base) (F:List HP) (rd:HP):Prop where
  go:∀ g,Sub (frz B.W B.h0) g→∀ hF,star F hF→Sub hF g→rd g
theorem rdb {rd:HP} [r:Rdb B F rd]:Rds B F rd:=rds_of r.go
def HP.and (P Q:HP):HP:=fun h=>P h∧Q h
instance Rdb.emp:Rdb B F emp:=⟨fun _ _ _ _ _=>trivial⟩
instance Rdb.and (P Q:HP) [p:Rdb B F P] [q:Rdb B F Q]:Rdb B F (P.and Q):=⟨fun g a b c d=>⟨p.go g a b c d,q.go g a b c d⟩⟩
instance (priority:=low) Rdb.fro (s:Sl) (E:Enc α) (xs:List α) [f:Fro B s E xs]:Rdb B F (RAr E s xs):=⟨fun _ a _ _ _=>f.rd.mono a⟩
instance (priority:=high) Rdb.head (s:Sl) (E:Enc α) (xs:List α):Rdb B (Ar E s xs::F) (RAr E s xs):=⟨fun g _ hF ⟨_,_,pa,_,_,sa,_⟩ c=>pa.read.mono (sa.trans c)⟩
instance Rdb.tail (A:HP) (rd:HP) [r:Rdb B F rd]:Rdb B (A::F) rd:=⟨fun g a hF ⟨_,q,_,pb,_,_,sb⟩ c=>r.go g a q pb (sb.trans c)⟩
class FroP (B:Base) (rd:HP):Prop where
  now:rd (frz B.W B.h0)
  mono:∀ g h,rd g→Sub g h→rd h
instance (priority:=low) Rdb.froP (rd:HP) [f:FroP B rd]:Rdb B F rd:=⟨fun g a _ _ _=>f.mono _ g f.now a⟩
theorem Sx.keep {l l':List HP}{w:World}(h:Sx B (l++l') w):Sx B l w:=by
  obtain ⟨g,hs,hm,hu⟩:=h
  obtain ⟨a,b,pa,_,_,sa,_⟩:=(star_append l l').1 hs
  exact ⟨a,pa,sa.trans hm,hu.sub sa⟩
theorem xdrop (i:Nat) {P1:HP}{F:List HP} [p:Pick i As P1 F] {φ:WP}(h:Ent B F φ):Ent B As φ:=fun w hw=>h w (hw.perm p.perm).tail
theorem xkeep {l l':List HP}{φ:WP}(h:Ent B l φ):Ent B (l++l') φ:=fun w hw=>h w hw.keep
theorem cut_p (s:Sl) (l h m sz:Nat):∀ b o,s.p=some ⟨b,o,none⟩→l<m→(s.cut l h m sz).p=some ⟨b,o+l*sz,none⟩:=by
  intro b o hp hlt
  unfold Sl.cut
  rw [if_neg (by omega),hp]
  simp [add_none]
theorem RAr.cut {E:Enc α}{s:Sl}{xs:List α}{h:Frag}(ha:RAr E s xs h) (l r m:Nat) (h1:l≤r) (h2:r≤m) (h3:r≤xs.length):RAr E (s.cut l r m E.sz) ((xs.take r).drop l) h:=by
  obtain ⟨hn,hc,hr⟩:=ha
  have hlen:((xs.take r).drop l).length=r - l:=by simp [Nat.min_eq_left h3]
  refine ⟨hlen,by rw [flat_length,hlen];rfl,fun h0=>?_⟩
  have h0':0<r - l:=h0
  obtain ⟨b,o,pre,post,e,fr,hp,hb,ho⟩:=hr (by omega)
  refine ⟨b,o+l*E.sz,pre++flat E (xs.take l),flat E (xs.drop r)++post,e,fr,cut_p s l r m E.sz b o hp (by omega),?_,?_⟩
  · rw [hb]
    congr 3
    have e1:xs=xs.take l++((xs.take r).drop l++xs.drop r):=by
      conv=>lhs;rw [←List.take_append_drop r xs]
      conv=>lhs;rw [←List.take_append_drop l (xs.take r)]
      rw [List.take_take,Nat.min_eq_left h1,List.append_assoc]
    conv=>lhs;rw [e1]
    rw [flat_append,flat_append]
    simp only [List.append_assoc]
  · rw [List.length_append,flat_length,ho,List.length_take,Nat.min_eq_left (by omega)]
theorem xslc {s:Sl}{l r m:Int}{sz:Nat}{K:Sl→WP}(h0:0≤l) (h1:l≤r) (h2:r≤m) (h3:m≤s.c) (h:Ent B As (K (s.cut l.toNat r.toNat m.toNat sz))):Ent B As (XSlc s l r m sz K):=
  fun w hw=>⟨h0,h1,h2,h3,h w hw⟩
theorem cut_zero (s:Sl) (r sz:Nat):s.cut 0 r s.c sz=⟨s.p,r,s.c⟩:=by
  unfold Sl.cut
  split
  · simp
  · cases s.p with
    | none=>simp
    | some a=>simp [Addr.add]
theorem Ars.cap {E:Enc α}{s:Sl}{xs zs:List α}{h:Frag}(ha:Ars E s xs zs h):s.n≤s.c:=by
  have:=ha.1;have:=ha.2.1;omega
theorem append_in {P:Program}{t ty e:TypeId}{sz by_:Nat}(hok:appOk P t e sz by_=true) {E:Enc α}(hsz:E.sz=sz) {p:Option Addr}{sn sc:Nat}{y:Sl}{xs zs ys:List α}{F:List HP}{w:World}(hw:Sx B (Ars E ⟨p,sn,sc⟩ xs zs::F) w) (hy:RAr E y ys (mem w))
    (hroom:xs.length+ys.length≤sc) (h0:0<sc) :
    ∃ w',(Builtin.append_ #[t,t] ty #[.slice p sn sc,y.v]).run P w=.ok (.slice p (sn+y.n) sc) w'∧Sx B (Ars E ⟨p,sn+y.n,sc⟩ (xs++ys) (zs.drop ys.length)::F) w':=by
  subst hsz
  obtain ⟨q,n,c⟩:=y
  obtain ⟨hyn,hyr⟩:=hy
  simp only at hyn
  have hfy:=fun(w2:World) (h:mem w2=mem w)=>RArr.first (P:=P) (w:=w2) (by rw [h];exact hyr)
  obtain ⟨g,⟨h1,h2,p1,p2,dd,s1,s2⟩,hsub,hupd⟩:=hw
  have hxn:xs.length=sn:=p1.1
  have hxc:xs.length+zs.length=sc:=p1.2.1
  rcases p1.2.2 with ⟨_,h⟩ | ⟨b,o,pre,post,e1,fr,hp,hbk,ho,hfr,hM⟩
  · simp only at h;omega
  simp only at hp
  subst hp
  have hwb:w.heap[b]? = some (.cells (pre++flat E (xs++zs)++post).toArray e1 fr):=hsub _ _ (s1 _ _ hbk)
  have hfl:=flat_length E xs
  have hfly:=flat_length E ys
  have hzl:ys.length≤zs.length:=by omega
  have hzsplit:flat E (xs++zs)=flat E xs++flat E (zs.take ys.length)++flat E (zs.drop ys.length):=by
    rw [←flat_append,←flat_append,List.append_assoc,List.take_append_drop]
  obtain ⟨w',r1,r2,r3,r4,r5,r6,r7⟩:=storeCells_blk (P:=P) b e1 fr (flat E ys) (o+sn*E.sz) 0 (pre++flat E (xs++zs)++post) w hwb (by
    have:(xs.length+ys.length)*E.sz≤(xs.length+zs.length)*E.sz:=Nat.mul_le_mul_right _ (by omega)
    rw [Nat.add_mul] at this
    simp only [List.length_append,flat_length,hfly,ho,←hxn];omega) hfr (flat_one E ys)
  have hseg:setSeg (flat E ys) (o+sn*E.sz+0) (pre++flat E (xs++zs)++post)=pre++flat E (xs++ys++zs.drop ys.length)++post:=by
    have:=setSeg_mid (flat E ys) (pre++flat E xs) (flat E (zs.take ys.length)) (flat E (zs.drop ys.length)++post) (by rw [flat_length,flat_length,List.length_take,Nat.min_eq_left hzl])
    rw [List.length_append,ho,hfl,hxn] at this
    rw [Nat.add_zero,hzsplit,flat_append,flat_append]
    simp only [List.append_assoc] at this ⊢
    exact this
  rw [hseg] at r2
  refine ⟨w',append_fits hok (hfy w rfl) (by omega) (by rw [add_none];exact r1),?_⟩
  have hst:Sx B (Blk b (pre++flat E (xs++zs)++post)::F) w:=⟨g,⟨h1,h2,⟨e1,fr,hbk,hfr⟩,p2,dd,s1,s2⟩,hsub,hupd⟩
  have:=hst.write (cs':=pre++flat E (xs++ys++zs.drop ys.length)++post) hwb r3 r2 (by
    simp only [List.length_append,List.length_drop,flat_length]
    have:xs.length+ys.length+(zs.length - ys.length)=xs.length+zs.length:=by omega
    rw [this]) r4 r5 r6 r7
  obtain ⟨g',hg',hm',hu'⟩:=this
  exact ⟨g',star_imp (fun q hq=>Ars.of_blk hq rfl ho (by simp;omega) (by simp;omega) (by exact hM)) hg',hm',hu'⟩
theorem clear_in {P:Program}{t ty e:TypeId}{sz by_:Nat}(hok:appOk P t e sz by_=true) {E:Enc α}(hsz:E.sz=sz) (hz:zeroOf P e=some (E.f E.zero)) {s:Sl}{xs zs us:List α}{l k c:Nat}{F:List HP}{w:World}(hw:Sx B (Ars E s xs zs::F) w)
    (hu:xs++zs=us) (hlk:l+k≤us.length) (h0:0<s.c) :
    ∃ w',(Builtin.clear_ #[t] ty #[.slice (s.p.map (·.add (l*sz))) k c]).run P w=.ok (.tuple #[]) w'∧∀ xs' zs',xs'++zs'=us.take l++List.replicate k E.zero++us.drop (l+k)→xs'.length=xs.length→Sx B (Ars E s xs' zs'::F) w':=by
  subst hsz hu
  obtain ⟨i,z,ht,hi,hsize,hbytes,hpos,hz0,hzs⟩:=appOk_spec hok
  obtain ⟨i',z',hi',hz',hzf⟩:=zeroOf_some hz
  obtain rfl:i'=i:=by rw [hi] at hi';exact (Option.some.inj hi').symm
  obtain rfl:z'=z:=by rw [hz0] at hz';exact (Option.some.inj hz').symm
  have hzc:(Builtin.zeroCells z'.cells k).toList=repL z'.cells.toList k:=by
    have:=range_repL (z:=z'.cells) (n:=k)
    show (Builtin.zeroCells z'.cells k).toList=_
    have h2:Builtin.zeroCells z'.cells k=(repL z'.cells.toList k).toArray:=by rw [←this];rfl
    rw [h2]
  have hst0:=hw
  obtain ⟨g,⟨h1,h2,p1,p2,dd,s1,s2⟩,hsub,hupd⟩:=hw
  rcases p1.2.2 with ⟨_,h⟩ | ⟨b,o,pre,post,e1,fr,hp,hbk,ho,hfr,hM⟩
  · omega
  have hwb:w.heap[b]? = some (.cells (pre++flat E (xs++zs)++post).toArray e1 fr):=hsub _ _ (s1 _ _ hbk)
  have hL:repL z'.cells.toList k=flat E (List.replicate k E.zero):=by rw [←hzf,repL_flat]
  obtain ⟨w',r1,r2,r3,r4,r5,r6,r7⟩:=storeCells_blk (P:=P) b e1 fr (flat E (List.replicate k E.zero)) (o+l*E.sz) 0 (pre++flat E (xs++zs)++post) w hwb (by
    have:(l+k)*E.sz≤(xs++zs).length*E.sz:=Nat.mul_le_mul_right _ hlk
    rw [Nat.add_mul] at this
    simp only [List.length_append,flat_length,ho,List.length_replicate] at this ⊢;omega) hfr (flat_one E _)
  have hsplit:flat E (xs++zs)=flat E ((xs++zs).take l)++flat E (((xs++zs).drop l).take k)++flat E ((xs++zs).drop (l+k)):=by
    rw [←flat_append,←flat_append,List.append_assoc,←List.drop_drop,List.take_append_drop,List.take_append_drop]
  have hseg:setSeg (flat E (List.replicate k E.zero)) (o+l*E.sz+0) (pre++flat E (xs++zs)++post)=pre++flat E ((xs++zs).take l++List.replicate k E.zero++(xs++zs).drop (l+k))++post:=by
    have:=setSeg_mid (flat E (List.replicate k E.zero)) (pre++flat E ((xs++zs).take l)) (flat E (((xs++zs).drop l).take k)) (flat E ((xs++zs).drop (l+k))++post) (by
      rw [flat_length,flat_length,List.length_take,List.length_drop,List.length_replicate,Nat.min_eq_left (by omega)])
    rw [List.length_append,ho,flat_length,List.length_take,Nat.min_eq_left (by omega)] at this
    rw [Nat.add_zero,hsplit,flat_append,flat_append]
    simp only [List.append_assoc] at this ⊢
    exact this
  rw [hseg] at r2
  by_cases hk:k=0
  · subst hk
    refine ⟨w,by simp [Builtin.clear_,run_underlying ht,hp],fun xs' zs' he hl'=>?_⟩
    obtain ⟨g,hg,hm,hu⟩:=hst0
    refine ⟨g,star_imp (fun q hq=>?_) hg,hm,hu⟩
    obtain ⟨p,n,c'⟩:=s
    exact hq.shift (by rw [he];simp) (by rw [hl'];exact hq.1)
  · refine ⟨w',?_,fun xs' zs' he hl'=>?_⟩
    · obtain ⟨m,rfl⟩:∃ m,k=m+1:=⟨k - 1,by omega⟩
      rw [hL] at hzc
      simp [Builtin.clear_,run_underlying ht,hp,add_none,zeroValue,typeInfo,hi,hz0,hzc,r1]
    · have hst:Sx B (Blk b (pre++flat E (xs++zs)++post)::F) w:=⟨g,⟨h1,h2,⟨e1,fr,hbk,hfr⟩,p2,dd,s1,s2⟩,hsub,hupd⟩
      have hlen:((xs++zs).take l++List.replicate k E.zero++(xs++zs).drop (l+k)).length=(xs++zs).length:=by
        simp only [List.length_append,List.length_take,List.length_replicate,List.length_drop] at hlk ⊢;omega
      have:=hst.write (cs':=pre++flat E ((xs++zs).take l++List.replicate k E.zero++(xs++zs).drop (l+k))++post) hwb r3 r2 (by
        rw [List.length_append,List.length_append,List.length_append,List.length_append,flat_length,flat_length,hlen]) r4 r5 r6 r7
      obtain ⟨g',hg',hm',hu'⟩:=this
      refine ⟨g',star_imp (fun q hq=>Ars.of_blk (b:=b) (o:=o) (pre:=pre) (post:=post) (by rw [he];exact hq) hp ho (by rw [hl'];exact p1.1) ?_ (by exact hM)) hg',hm',hu'⟩
      have hh:xs'.length+zs'.length=xs.length+zs.length:=by
        have h5:=congrArg List.length he
        rw [hlen] at h5
        simpa using h5
      rw [hh];exact p1.2.1
end Go.Cf
namespace Go.Cf
open Go
variable {B:Base}{As:List HP}{α:Type}
theorem xlen {E:Enc α}{xs:List α}(s:Sl) {upd:Sl→List α→List HP}{rest:List HP} [o:OwnA s As E xs upd rest] {φ:WP}(h:xs.length=s.n→s.n≤s.c→Ent B As φ):Ent B As φ:=by
  intro w hw
  obtain ⟨g,⟨zs,hg⟩,_⟩:=(hw.perm o.start).head
  exact h hg.1 hg.cap w hw
end Go.Cf
namespace Go.Cf
open Go
variable {B:Base}{As:List HP}{α:Type}
theorem star_in {P:HP}{g:Frag}(h:P g):star [P] g:=⟨g,fun _=>none,h,trivial,fun _=>.inr rfl,Sub.refl _,fun _ _ e=>by cases e⟩
theorem xars (i:Nat) {E:Enc α}{s:Sl}{xs:List α}{F:List HP} [p:Pick i As (Ar E s xs) F] {φ:WP}(h:∀ zs,xs.length=s.n→xs.length+zs.length=s.c→Ent B (Ars E s xs zs::F) φ):Ent B As φ:=by
  refine Ent.perm p.perm ?_
  intro w hw
  obtain ⟨g,⟨a,b,⟨zs,pa⟩,pb,d,sa,sb⟩,hm,hu⟩:=hw
  exact h zs pa.1 pa.2.1 w ⟨g,⟨a,b,pa,pb,d,sa,sb⟩,hm,hu⟩
theorem xshift {E:Enc α}{s:Sl}{xs zs:List α}{F:List HP}{φ:WP}(n':Nat) (xs' zs':List α) (hx:xs++zs=xs'++zs') (hn:xs'.length=n') (h:Ent B (Ars E ⟨s.p,n',s.c⟩ xs' zs'::F) φ):Ent B (Ars E s xs zs::F) φ:=by
  refine xclose (fun g hg=>star_imp (fun q hq=>?_) hg) h
  obtain ⟨p,n,c⟩:=s
  exact hq.shift hx hn
theorem xar {E:Enc α}{s:Sl}{xs zs:List α}{F:List HP}{φ:WP}(h:Ent B (Ar E s xs::F) φ):Ent B (Ars E s xs zs::F) φ:=
  xclose (fun _ hg=>star_imp (fun _ hq=>⟨zs,hq⟩) hg) h
theorem xapp_in {P:Program}{t ty e:TypeId}{sz by_:Nat}{z:List Value} [a:AppT P t e sz by_ z] {E:Enc α}{p:Option Addr}{sn sc:Nat}{y:Sl}{xs zs ys:List α}{F:List HP}{K:Sl→WP}
    (hy:∀ g,Ars E ⟨p,sn,sc⟩ xs zs g→RAr E y ys g) (hroom:xs.length+ys.length≤sc) (h0:0<sc) (hsz:E.sz=sz:=by rfl) (h:Ent B (Ars E ⟨p,sn+y.n,sc⟩ (xs++ys) (zs.drop ys.length)::F) (K ⟨p,sn+y.n,sc⟩)) :
    Ent B (Ars E ⟨p,sn,sc⟩ xs zs::F) (XApp P t t ty (.slice p sn sc) y.v K):=by
  intro w hw
  obtain ⟨q,hq,hqs⟩:=hw.head
  obtain ⟨w',hr,hx⟩:=append_in (ty:=ty) a.ok hsz hw ((hy q hq).mono hqs) hroom h0
  exact ⟨⟨p,sn+y.n,sc⟩,w',hr,h w' hx⟩
theorem xclr {P:Program}{t ty e:TypeId}{sz by_:Nat}{z:List Value} [a:AppT P t e sz by_ z] {E:Enc α}{s:Sl}{xs zs:List α}{r m:Nat}{F:List HP}{K:Value→WP}
    (h1:xs.length<m) (_h2:xs.length≤r) (h3:r≤xs.length+zs.length) (h0:0<s.c) (hsz:E.sz=sz:=by rfl) (hz:E.f E.zero=z:=by rfl) (h:Ent B (Ar E s xs::F) (K (.tuple #[]))) :
    Ent B (Ars E s xs zs::F) (XClear P t ty (s.cut xs.length r m sz).v K):=by
  intro w hw
  obtain ⟨w',hr,hx⟩:=clear_in (ty:=ty) (l:=xs.length) (k:=r - xs.length) (c:=m - xs.length) a.ok hsz (by rw [hz];exact a.zero) hw rfl (by simp;omega) h0
  refine ⟨.tuple #[],w',?_,?_⟩
  · unfold Sl.cut Sl.v
    rw [if_neg (by omega)]
    exact hr
  · have:=hx xs (List.replicate (r - xs.length) E.zero++zs.drop (r - xs.length)) (by simp) rfl
    obtain ⟨g,hg,hm,hu⟩:=this
    exact h w' ⟨g,star_imp (fun q hq=>⟨_,hq⟩) hg,hm,hu⟩
end Go.Cf
namespace Go.Cf
open Go
variable {B:Base}{As:List HP}{α β:Type}
theorem xfold1 (i:Nat) {P1 Q:HP}{F:List HP} [p:Pick i As P1 F] {φ:WP}(h:∀ g,P1 g→Q g) (k:Ent B (Q::F) φ):Ent B As φ:=
  Ent.perm p.perm (xclose (fun _ hg=>star_imp h hg) k)
theorem xfold2 (i j:Nat) {P1 P2 Q:HP}{F F':List HP} [p:Pick i As P1 F] [q:Pick j F P2 F'] {φ:WP}(h:∀ g,star [P1,P2] g→Q g) (k:Ent B (Q::F') φ):Ent B As φ:=
  Ent.perm (p.perm.trans (q.perm.cons P1)) (xclose (fun _ hg=>star_fold1 (l:=[P1,P2]) h hg) k)
theorem xfold3 (i j l:Nat) {P1 P2 P3 Q:HP}{F F' F'':List HP} [p:Pick i As P1 F] [q:Pick j F P2 F'] [r:Pick l F' P3 F''] {φ:WP}(h:∀ g,star [P1,P2,P3] g→Q g) (k:Ent B (Q::F'') φ):Ent B As φ:=
  Ent.perm (p.perm.trans (((q.perm.trans (r.perm.cons P2))).cons P1)) (xclose (fun _ hg=>star_fold1 (l:=[P1,P2,P3]) h hg) k)
theorem xunf (i:Nat) {P1:HP}{F:List HP} [p:Pick i As P1 F] {φ:WP}(l:List HP) (h:∀ g,P1 g→star l g) (k:Ent B (l++F) φ):Ent B As φ:=
  Ent.perm p.perm (xclose (fun _ hg=>star_flat1 h hg) k)
theorem xfact (i:Nat) {P1:HP}{F:List HP} [p:Pick i As P1 F] {φ:WP}{p':Prop}(h:∀ g,P1 g→p') (k:p'→Ent B As φ):Ent B As φ:=by
  intro w hw
  obtain ⟨g,hg,_⟩:=(hw.perm p.perm).head
  exact k (h g hg) w hw
end Go.Cf
namespace Go.Cf
open Go
variable {B:Base}
theorem app4 {A A' A'' A3:HP}{F:List HP}{φ:WP}(h:Ent B (A::A'::A''::A3::F) φ):Ent B ([A,A',A'',A3]++F) φ:=h
end Go.Cf
namespace Go.Cf
open Go
variable {B:Base}{As:List HP}
theorem ca0 {K:WP}{u:Unit}(h:Ent B As K):Ent B As (Cur.app [] K u):=h
theorem ca1 {s:Sh}{K:s.ty→WP}{x:s.ty}{u:Unit}(h:Ent B As (K x)):Ent B As (Cur.app [s] K (x,u)):=h
theorem ca2 {s t:Sh}{K:s.ty→t.ty→WP}{x:s.ty}{y:t.ty}{u:Unit}(h:Ent B As (K x y)):Ent B As (Cur.app [s,t] K (x,y,u)):=h
end Go.Cf
namespace Go.Cf
open Go
variable {B:Base}{As:List HP}
theorem rds_pick (i:Nat) {F F':List HP}{P rd:HP} [p:Pick i F P F'] (h:∀ g,P g→rd g) (mono:∀ g f,rd g→Sub g f→rd f):Rds B F rd:=
  rds_of fun g _ hF hs hm=>by
    obtain ⟨a,_,pa,_,_,sa,_⟩:=star_perm p.perm hs
    exact mono _ _ (h a pa) (sa.trans hm)
end Go.Cf
namespace Go.Cf
open Go
variable {B:Base}{As:List HP}
theorem xadd {A:HP}{φ:WP}(hA:A (fun _=>none)) (h:Ent B (A::As) φ):Ent B As φ:=by
  rintro w ⟨g,hs,hm,hu⟩
  exact h w ⟨g,⟨fun _=>none,g,hA,hs,fun _=>.inl rfl,fun _ _ e=>(by cases e),Sub.refl _⟩,hm,hu⟩
theorem xrot (i:Nat) {P:HP}{F:List HP} [p:Pick i As P F] {φ:WP}(h:Ent B (F++[P]) φ):Ent B As φ:=
  Ent.perm (p.perm.trans (List.perm_append_comm (l₁:=[P]) (l₂:=F))) h
end Go.Cf
namespace Go.Cf
open Go Go.RowKit
set_option linter.unusedVariables false
variable {α:Type}
theorem rar_of_cells {E:Enc α}{s:Sl}{xs:List α}{w:World}(hn:xs.length=s.n)
    (h:0<s.n→∃ b o,s.p=some ⟨b,o,none⟩∧∀ j,j<s.n*E.sz→w.cell? ⟨b,o+j,none⟩=(flat E xs)[j]?):RAr E s xs (mem w):=by
  have hfl:=flat_length E xs
  refine ⟨hn,by rw [hfl,hn],fun h0=>?_⟩
  obtain ⟨b,o,hp,hc⟩:=h h0
  have hpos:0<s.n*E.sz:=Nat.mul_pos h0 E.pos
  have key:∃ c e fr,w.heap[b]? = some (.cells c e fr):=by
    have h1:=hc 0 hpos
    have h2:(flat E xs)[0]? = some ((flat E xs)[0]'(by rw [hfl,hn];exact hpos)):=List.getElem?_eq_getElem (by rw [hfl,hn];exact hpos)
    rw [h2] at h1
    unfold World.cell? at h1
    split at h1
    · rename_i c e fr hh;exact ⟨c,e,fr,hh⟩
    · cases h1
  obtain ⟨c,e,fr,hb⟩:=key
  have hcell:∀ j,j<s.n*E.sz→c.toList[o+j]? = (flat E xs)[j]?:=fun j hj=>by
    have:=hc j hj
    simp only [World.cell?,hb] at this
    simpa using this
  have hlast:o+(s.n*E.sz - 1)<c.toList.length:=by
    have h1:=hcell (s.n*E.sz - 1) (by omega)
    have h2:(flat E xs)[s.n*E.sz - 1]? = some ((flat E xs)[s.n*E.sz - 1]'(by rw [hfl,hn];omega)):=List.getElem?_eq_getElem (by rw [hfl,hn];omega)
    rw [h2] at h1
    exact (List.getElem?_eq_some_iff.1 h1).1
  refine ⟨b,o,c.toList.take o,(c.toList.drop o).drop (s.n*E.sz),e,fr,hp,?_,by simp only [List.length_take];omega⟩
  show w.heap[b]? = _
  rw [hb]
  congr 2
  have e1:flat E xs=(c.toList.drop o).take (s.n*E.sz):=by
    apply List.ext_getElem?
    intro j
    by_cases hj:j<s.n*E.sz
    · rw [←hcell j hj,List.getElem?_take_of_lt hj,List.getElem?_drop]
    · rw [List.getElem?_eq_none (by rw [hfl,hn];omega),List.getElem?_eq_none (by simp only [List.length_take];omega)]
  rw [e1,List.append_assoc,List.take_append_drop,List.take_append_drop]
theorem below_of {W w':World}{Bs:List HP}(h:Sx ⟨W,fun _=>none⟩ Bs w'):Below W.heap.size W w':=by
  obtain ⟨g,_,_,hu⟩:=h
  exact ⟨hu.os,hu.tape,hu.output,hu.size,fun k hk=>(hu.old k hk rfl).1⟩
theorem frz_none (W:World):frz W (fun _=>none)=mem W:=by funext k;rfl
theorem Ct.top {P:Program}{f:FuncId}{args:List Value}{rs:Rs}{ss:List Sh}{rd:HP}{post:Tup ss→List HP→Prop}(c:Ct P f args rs ss [] rd post) (W:World) (h:rd (mem W)) :
    Calls P f args.toArray W fun e w'=>∃ t Bs,e=.returned (rs.mk (Tup.vals ss t))∧post t Bs∧Below W.heap.size W w':=
  (c W (fun _=>none) trivial (fun _ _ e=>by cases e) (by rw [frz_none];exact h)).mono fun e w' ⟨t,Bs,h1,h2,h3⟩=>⟨t,Bs,h1,h2,below_of h3⟩
section
open Go.ChangeShapes Go.WideShapes Go.Deep
variable {H:Type}{enc:TypeId×Value→H}{P:Program}{w:World}{base:Nat}{held:Bool}
theorem flat_u8 (xs:List UInt8) (j:Nat):(flat U8 xs)[j]? = xs[j]?.map fun x=>Value.int .u8 x.toNat:=by
  have:flat U8 xs=xs.map fun x=>Value.int .u8 (x.toNat:Int):=by
    unfold flat
    induction xs with
    | nil=>rfl
    | cons x xs ih=>simp only [List.flatMap_cons,List.map_cons,ih];rfl
  rw [this,List.getElem?_map]
end
end Go.Cf
namespace Go.Cf
open Go Go.RowKit Go.ChangeShapes Go.WideShapes Go.Deep
set_option linter.unusedVariables false
variable {α β:Type}{H:Type}{enc:TypeId×Value→H}{P:Program}{w:World}{base:Nat}{held:Bool}
def Opens (enc:TypeId×Value→H) (P:Program) (w:World) (base:Nat) (held:Bool) (t:TypeId) (E:Enc α) (R:α→β→Prop):Prop:=
  ∀ (fuel:Nat) (cs:List Value) (x:DataW H×List MemPlace),DataW.trod enc P w base (fun _=>true) held fuel t cs=some x→∃ a b,cs=E.f a∧R a b
theorem opens_slice [Inhabited β] {t e:TypeId}{E:Enc α}{R:α→β→Prop}(ht:P.underlying t=some (.slice e)) (ce:P.cellsOf e=E.sz) (h:Opens enc P w base held e E R) :
    Opens enc P w base held t SL (fun(s:Sl) (bs:List β)=>s.n≤s.c∧∃ as:List α,RAr E s as (mem w)∧as.length=bs.length∧∀ (i:Nat) (a:α) (b:β),as[i]? = some a→bs[i]? = some b→R a b):=by
  intro fuel cs x hx
  rcases open_slice ht hx with ⟨hcs,_⟩ | ⟨a,len,cap,m,n,D,Pl,hcs,_,hlc,_,hm,_,hr⟩
  · exact ⟨⟨none,0,0⟩,[],hcs,Nat.le_refl _,[],rar_of_cells rfl (fun h=>absurd h (Nat.lt_irrefl 0)),rfl,fun i a b h=>by simp at h⟩
  simp only [if_true] at hm
  subst hm
  have each:∀ i,i<m→∃ q:α×β,w.cells? base (a.add (i*E.sz)) E.sz=some (E.f q.1)∧R q.1 q.2:=by
    intro i hi
    obtain ⟨cs',h1,h2⟩:=hr i hi
    obtain ⟨u,v,rfl,huv⟩:=h _ _ _ h2
    rw [ce] at h1
    exact ⟨(u,v),h1,huv⟩
  have:Inhabited α:=⟨E.zero⟩
  obtain ⟨q,hq⟩:=choose_lt each
  refine ⟨⟨some a,len,m⟩,(List.range len).map fun i=>(q i).2,hcs,hlc,(List.range len).map fun i=>(q i).1,rar_of_cells (by simp) (fun h0=>?_),by simp,fun i u v hi hb=>?_⟩
  · obtain ⟨b,o,spot⟩:=a
    have hlt:∀ i r,i<m→r<E.sz→w.cell? ((⟨b,o,spot⟩:Addr).add (i*E.sz+r))=(E.f (q i).1)[r]?:=by
      intro i r hi hr'
      obtain ⟨_,hlen,hcell⟩:=World.cells?_some (hq i hi).1
      have:=hcell r hr'
      rwa [add_add] at this
    have hspot:spot=none:=by
      have h1:=hlt 0 0 (Nat.lt_of_lt_of_le h0 hlc) E.pos
      have h2:(E.f (q 0).1)[0]? = some ((E.f (q 0).1)[0]'(by rw [E.len];exact E.pos)):=List.getElem?_eq_getElem _
      rw [h2] at h1
      simpa [Addr.add] using World.cell?_spot h1
    subst hspot
    refine ⟨b,o,rfl,fun j hj=>?_⟩
    have hpos:=E.pos
    have hjd:j / E.sz<len:=Nat.div_lt_of_lt_mul (by rw [Nat.mul_comm];exact hj)
    have hjm:j % E.sz<E.sz:=Nat.mod_lt _ hpos
    have hj2:j / E.sz*E.sz+j % E.sz=j:=by rw [Nat.mul_comm];exact Nat.div_add_mod j E.sz
    have h1:=hlt (j / E.sz) (j % E.sz) (Nat.lt_of_lt_of_le hjd hlc) hjm
    rw [hj2,add_none] at h1
    have h2:=flat_get E ((List.range len).map fun i=>(q i).1) (j / E.sz) (j % E.sz) (q (j / E.sz)).1 (by rw [List.getElem?_map,List.getElem?_range hjd];rfl) hjm
    rw [hj2] at h2
    rw [h1,h2]
  · have hin:i<len:=by
      have:=(List.getElem?_eq_some_iff.1 hi).1
      simpa using this
    rw [List.getElem?_map,List.getElem?_range hin] at hi hb
    simp only [Option.map_some,Option.some.injEq] at hi hb
    subst hi hb
    exact (hq i (Nat.lt_of_lt_of_le hin hlc)).2
theorem opens_i64 {t:TypeId}(ht:P.underlying t=some (.int .i64)):Opens enc P w base held t I64 (fun a b=>a=b∧-9223372036854775808≤a∧a≤9223372036854775807):=by
  intro fuel cs x hx
  obtain ⟨n,hcs,_,hwf⟩:=DataW.trod_int ht hx
  have h1:IntKind.i64.min = -9223372036854775808:=rfl
  have h2:IntKind.i64.max=9223372036854775807:=rfl
  simp only [Lit.wf,Bool.and_eq_true,decide_eq_true_eq,h1,h2] at hwf
  exact ⟨n,n,hcs,rfl,hwf⟩
end Go.Cf
namespace Go.Cf
open Go
def i64 (x:Int):Prop:=-9223372036854775808≤x∧x≤9223372036854775807
theorem i64_of_wf {n:Int}(h:(Lit.int .i64 n).wf=true):i64 n:=by
  have h1:IntKind.i64.min = -9223372036854775808:=rfl
  have h2:IntKind.i64.max=9223372036854775807:=rfl
  simpa [Lit.wf,h1,h2,i64] using h
end Go.Cf
namespace Go.Cf
open Go
set_option linter.unusedVariables false
variable {B:Base}{As F:List HP}{α β:Type}
theorem madeCells_repL (z:Array Value) (n sz:Nat) (h:z.size=sz):madeCells z (n*sz)=(repL z.toList n).toArray:=by
  subst h;exact range_repL z n
theorem xmake {P:Program}{t e:TypeId}{sz by_:Nat}{z:List Value} [a:AppT P t e sz by_ z] (E:Enc α) {n:Int}{K:Sl→WP}(h0:0≤n) (hb:n.toNat*by_≤140737488355328) (hsz:E.sz=sz:=by rfl) (hz:E.f E.zero=z:=by rfl)
    (h:∀ b,Ent B (Ar E ⟨some ⟨b,0,none⟩,n.toNat,n.toNat⟩ (List.replicate n.toNat E.zero)::As) (K ⟨some ⟨b,0,none⟩,n.toNat,n.toNat⟩)):Ent B As (XMake P t (.int .i64 n) (.int .i64 n) K):=by
  intro w hw
  obtain ⟨i,z0,ht,hi,hsize,hbytes,hpos,hz0,hzs⟩:=appOk_spec a.ok
  obtain ⟨i',z',hi',hz',hzf⟩:=zeroOf_some a.zero
  obtain rfl:i'=i:=by rw [hi] at hi';exact (Option.some.inj hi').symm
  obtain rfl:z'=z0:=by rw [hz0] at hz';exact (Option.some.inj hz').symm
  have hle:n.toNat≤n.toNat*by_:=Nat.le_mul_of_pos_right _ hpos
  have hr:=run_make (P:=P) w t e i' z' ht hi hz0 .i64 .i64 n n h0 (Int.le_refl _) (by
    have:((i'.bytes*n.toNat:Nat):Int)≤281474976710656:=by rw [hbytes,Nat.mul_comm];omega
    rw [Int.natCast_mul] at this
    have e1:((n.toNat:Nat):Int)=n:=by omega
    rw [e1] at this
    exact this) (by omega)
  rw [hsize,madeCells_repL _ _ _ hzs,←hzf,←hz,repL_flat] at hr
  refine ⟨⟨some ⟨w.heap.size,0,none⟩,n.toNat,n.toNat⟩,_,hr,h w.heap.size _ ?_⟩
  obtain ⟨g,hg,hm,hu⟩:=hw.alloc (flat E (List.replicate n.toNat E.zero)) e
  exact ⟨g,star_imp (fun q hq=>⟨[],blk_ar _ n.toNat (by simp) rfl hq (by omega)⟩) hg,hm,hu⟩
def RArs (E:Enc α) (s:Sl) (xs zs:List α):HP:=fun h=>xs.length=s.n∧xs.length+zs.length=s.c∧RAr E s xs h∧RAr E ⟨s.p,s.c,s.c⟩ (xs++zs) h
theorem RArs.mono {E:Enc α}{s:Sl}{xs zs:List α}{h g:Frag}(ha:RArs E s xs zs h) (hs:Sub h g):RArs E s xs zs g:=⟨ha.1,ha.2.1,ha.2.2.1.mono hs,ha.2.2.2.mono hs⟩
theorem Ars.readAll {E:Enc α}{s:Sl}{xs zs:List α}{h:Frag}(ha:Ars E s xs zs h):RArs E s xs zs h:=by
  obtain ⟨p,n,c⟩:=s
  exact ⟨ha.1,ha.2.1,ha.read,(ha.shift (n':=c) (xs':=xs++zs) (zs':=[]) (by simp) (by simpa using ha.2.1)).read⟩
instance (priority:=high) Rdb.headArs (s:Sl) (E:Enc α) (xs zs:List α):Rdb B (Ars E s xs zs::F) (RArs E s xs zs):=⟨fun g _ hF ⟨_,_,pa,_,_,sa,_⟩ c=>pa.readAll.mono (sa.trans c)⟩
instance (priority:=high) Rdb.headArs' (s:Sl) (E:Enc α) (xs zs:List α):Rdb B (Ars E s xs zs::F) (RAr E s xs):=⟨fun g _ hF ⟨_,_,pa,_,_,sa,_⟩ c=>pa.read.mono (sa.trans c)⟩
theorem xslc0 {s:Sl}{r:Int}{m:Nat}{sz:Nat}{K:Sl→WP}(hm:m=s.c) (h0:0≤r) (h1:r≤s.c) (h:Ent B As (K ⟨s.p,r.toNat,s.c⟩)):Ent B As (XSlc s 0 r (m:Int) sz K):=by
  subst hm
  refine xslc (by omega) h0 h1 (by omega) ?_
  have e:=cut_zero s r.toNat sz
  simpa using e ▸ h
theorem set_upto {ys zs:List α}{k:Nat}{v:α}(h:∀ j,j<k→ys[j]? = zs[j]?) (hk:k<ys.length) (hv:zs[k]? = some v):∀ j,j<k+1→(ys.set k v)[j]? = zs[j]?:=by
  intro j hj
  by_cases e:j=k
  · subst e;rw [List.getElem?_set_self hk,hv]
  · rw [List.getElem?_set_ne (Ne.symm e)];exact h j (by omega)
theorem eq_upto {ys zs:List α}(hl:ys.length=zs.length) (h:∀ j,j<zs.length→ys[j]? = zs[j]?):ys=zs:=by
  apply List.ext_getElem?
  intro j
  by_cases hj:j<zs.length
  · exact h j hj
  · rw [List.getElem?_eq_none (by omega),List.getElem?_eq_none (by omega)]
theorem bits_u8 (o:BinOp) (x y:Int):0≤bits o .u8 x y∧bits o .u8 x y<256:=by
  have e:∀ z:Int,0≤IntKind.u8.wrap z∧IntKind.u8.wrap z<256:=by
    intro z
    have e1:(2 ^ IntKind.u8.bits:Int)=256:=by decide
    have e3:IntKind.u8.signed=false:=rfl
    simp only [IntKind.wrap,e1,e3,Bool.false_and]
    simp
    omega
  exact e _
theorem xfront (i:Nat) {P:HP}{F:List HP} [p:Pick i As P F] {φ:WP}(h:Ent B (P::F) φ):Ent B As φ:=Ent.perm p.perm h
theorem xback (i:Nat) {P:HP}{F:List HP} [p:Pick i As P F] {φ:WP}(h:Ent B (F++[P]) φ):Ent B As φ:=xrot i h
class Find (P:HP) (As:List HP) (F:outParam (List HP)):Prop where
  perm:As.Perm (P::F)
instance (priority:=high) Find.head (P:HP) (As:List HP):Find P (P::As) As:=⟨List.Perm.refl _⟩
instance Find.tail (A P:HP) (As F:List HP) [h:Find P As F]:Find P (A::As) (A::F):=⟨(h.perm.cons A).trans (List.Perm.swap _ _ _)⟩
class Split (pre As:List HP) (F:outParam (List HP)):Prop where
  perm:As.Perm (pre++F)
instance Split.nil (As:List HP):Split [] As As:=⟨List.Perm.refl _⟩
instance Split.cons (P:HP) (pre As F G:List HP) [f:Find P As F] [h:Split pre F G]:Split (P::pre) As G:=⟨f.perm.trans (h.perm.cons P)⟩
theorem xcl {P:Program}{f:FuncId}{args:List Value}{rs:Rs}{ss:List Sh}{rd:HP}{post:Tup ss→List HP→Prop}{K:Cur ss}{pre G:List HP} [s:Split pre As G]
    (sp:Ct P f args rs ss pre rd post) (hrd:Rds B G rd) (h:∀ t Bs,post t Bs→Ent B (Bs++G) (Cur.app ss K t)):Ent B As (XCall P f args rs ss K):=xcall sp s.perm hrd h
theorem xuse (Bs:List HP) {G:List HP} [s:Split Bs As G] {φ:WP}(h:Ent B Bs φ):Ent B As φ:=Ent.perm s.perm (xkeep h)
theorem xuse' {Bs G:List HP}{φ:WP}(h:Ent B Bs φ) [s:Split Bs As G]:Ent B As φ:=Ent.perm s.perm (xkeep h)
theorem xfold (l:List HP) (Q:HP) {G:List HP} [s:Split l As G] {φ:WP}(h:∀ g,star l g→Q g) (k:Ent B (Q::G) φ):Ent B As φ:=
  Ent.perm s.perm (xclose (fun _ hg=>star_fold1 (l:=l) h hg) k)
theorem each_app {R:α→β→HP}{xs':List α}{ys':List β}:∀ {xs:List α}{ys:List β}{h:Frag},star [Each R xs ys,Each R xs' ys'] h→Each R (xs++xs') (ys++ys') h:=by
  intro xs
  induction xs with
  | nil=>
    intro ys h hh
    cases ys with
    | cons=>obtain ⟨a,_,pa,_⟩:=hh;exact pa.elim
    | nil=>
      obtain ⟨a,b,_,⟨c,d,pc,_,_,sc,_⟩,_,sa,sb⟩:=hh
      exact Each.mono pc (sc.trans sb)
  | cons x xs ih=>
    intro ys h hh
    cases ys with
    | nil=>obtain ⟨a,_,pa,_⟩:=hh;exact pa.elim
    | cons y ys=>
      have h1:star ([R x y,Each R xs ys]++[Each R xs' ys']) h:=star_flat1 (fun g hg=>hg) hh
      exact star_cons (l':=[Each R (xs++xs') (ys++ys')]) (fun g hg=>star_in (ih hg)) h1
end Go.Cf
namespace Go.Cf
open Go
set_option linter.unusedVariables false
variable {B:Base}{As F:List HP}{α β:Type}
theorem first_of {P:Program}{E:Enc α}{y:Sl}{ys:List α}{w:World}(hy:RAr E y ys (mem w)) {k:Nat}(hk:k≤ys.length):(Builtin.firstCells E.sz k y.v).run P w=.ok (flat E (ys.take k)).toArray w:=by
  obtain ⟨q,n,c⟩:=y
  by_cases h0:k=0
  · subst h0
    cases q<;>simp [Builtin.firstCells,loadCells,loadCellsFrom,flat]
  · have h1:=hy.cut 0 k k (Nat.zero_le _) (Nat.le_refl _) hk
    have e:(⟨q,n,c⟩:Sl).cut 0 k k E.sz=⟨q,k,k⟩:=by
      unfold Sl.cut
      rw [if_neg h0]
      cases q with
      | none=>simp
      | some a=>simp [Addr.add]
    rw [e,List.drop_zero] at h1
    have h2:=RArr.first (P:=P) h1.2
    have e2:Builtin.firstCells E.sz k (Value.slice q n c)=Builtin.firstCells E.sz k (Value.slice q k k):=by cases q<;>rfl
    show (Builtin.firstCells E.sz k (Value.slice q n c)).run P w=_
    rw [e2]
    exact h2
theorem copy_in {P:Program}{t u ty e:TypeId}{sz by_:Nat}(hok:appOk P t e sz by_=true) {E:Enc α}(hsz:E.sz=sz) {s y:Sl}{xs zs us ys:List α}{l dn dc:Nat}{base:Option Addr}{F:List HP}{w:World}(hw:Sx B (Ars E s xs zs::F) w)
    (hu:xs++zs=us) (hy:RAr E y ys (mem w)) (hbase:base=s.p.map (·.add (l*sz))∨dn=0) (hlk:l+min ys.length dn≤us.length) :
    ∃ w',(Builtin.copy_ #[t,u] ty #[.slice base dn dc,y.v]).run P w=.ok (.int .i64 ((min ys.length dn:Nat):Int)) w' ∧
      ∀ xs' zs',xs'++zs'=us.take l++ys.take (min ys.length dn)++us.drop (l+min ys.length dn)→xs'.length=xs.length→Sx B (Ars E s xs' zs'::F) w':=by
  subst hsz hu
  obtain ⟨i,z,ht,hi,hsize,hbytes,hpos,hz0,hzs⟩:=appOk_spec hok
  generalize hk:min ys.length dn=k at *
  have hky:k≤ys.length:=by omega
  have hfirst:=first_of (P:=P) hy hky
  have hyn:ys.length=y.n:=hy.1
  have hmin:Nat.min y.n dn=k:=by rw [←hyn];exact hk
  have hlen:(ys.take k).length=k:=by rw [List.length_take];omega
  have hst0:=hw
  have nothing:k=0→∀ base',(∀ a,base'=some a→True)→∃ w',(Builtin.copy_ #[t,u] ty #[.slice base' dn dc,y.v]).run P w=.ok (.int .i64 ((k:Nat):Int)) w' ∧
      ∀ xs' zs',xs'++zs'=(xs++zs).take l++ys.take k++(xs++zs).drop (l+k)→xs'.length=xs.length→Sx B (Ars E s xs' zs'::F) w':=by
    intro h0 base' _
    subst h0
    have hf0:(flat E (ys.take 0)).toArray = #[]:=by simp [flat]
    rw [hf0] at hfirst
    refine ⟨w,?_,fun xs' zs' he hl'=>?_⟩
    · obtain ⟨q,n,c⟩:=y
      simp only at hmin
      cases base' with
      | none=>simp only [Builtin.copy_];simp [run_underlying ht,sizeOf,typeInfo,hi,hsize,Builtin.lenOf,hmin,hfirst,goInt]
      | some a=>simp only [Builtin.copy_];simp [run_underlying ht,sizeOf,typeInfo,hi,hsize,Builtin.lenOf,hmin,hfirst,goInt,storeCells]
    · obtain ⟨g,hg,hm,hu⟩:=hst0
      refine ⟨g,star_imp (fun q hq=>?_) hg,hm,hu⟩
      obtain ⟨p,n,c'⟩:=s
      exact hq.shift (by rw [he];simp) (by rw [hl'];exact hq.1)
  by_cases hk0:k=0
  · exact nothing hk0 base (fun _ _=>trivial)
  have hbase':base=s.p.map (·.add (l*E.sz)):=by
    rcases hbase with h | h
    · exact h
    · omega
  subst hbase'
  obtain ⟨g,⟨h1,h2,p1,p2,dd,s1,s2⟩,hsub,hupd⟩:=hw
  have hcap:=p1.2.1
  rcases p1.2.2 with ⟨_,h⟩ | ⟨b,o,pre,post,e1,fr,hp,hbk,ho,hfr,hM⟩
  · simp only [List.length_append] at hlk;omega
  have hwb:w.heap[b]? = some (.cells (pre++flat E (xs++zs)++post).toArray e1 fr):=hsub _ _ (s1 _ _ hbk)
  obtain ⟨w',r1,r2,r3,r4,r5,r6,r7⟩:=storeCells_blk (P:=P) b e1 fr (flat E (ys.take k)) (o+l*E.sz) 0 (pre++flat E (xs++zs)++post) w hwb (by
    have:(l+k)*E.sz≤(xs++zs).length*E.sz:=Nat.mul_le_mul_right _ hlk
    rw [Nat.add_mul] at this
    simp only [List.length_append,flat_length,ho,hlen] at this ⊢;omega) hfr (flat_one E _)
  have hsplit:flat E (xs++zs)=flat E ((xs++zs).take l)++flat E (((xs++zs).drop l).take k)++flat E ((xs++zs).drop (l+k)):=by
    rw [←flat_append,←flat_append,List.append_assoc,←List.drop_drop,List.take_append_drop,List.take_append_drop]
  have hseg:setSeg (flat E (ys.take k)) (o+l*E.sz+0) (pre++flat E (xs++zs)++post)=pre++flat E ((xs++zs).take l++ys.take k++(xs++zs).drop (l+k))++post:=by
    have:=setSeg_mid (flat E (ys.take k)) (pre++flat E ((xs++zs).take l)) (flat E (((xs++zs).drop l).take k)) (flat E ((xs++zs).drop (l+k))++post) (by
      rw [flat_length,flat_length,List.length_take,List.length_drop,hlen,Nat.min_eq_left (by omega)])
    rw [List.length_append,ho,flat_length,List.length_take,Nat.min_eq_left (by omega)] at this
    rw [Nat.add_zero,hsplit,flat_append,flat_append]
    simp only [List.append_assoc] at this ⊢
    exact this
  rw [hseg] at r2
  refine ⟨w',?_,fun xs' zs' he hl'=>?_⟩
  · obtain ⟨q,n,c⟩:=y
    simp only at hmin
    simp only [Builtin.copy_]
    simp [run_underlying ht,sizeOf,typeInfo,hi,hsize,Builtin.lenOf,hmin,hfirst,goInt,hp,add_none,r1]
  · have hst:Sx B (Blk b (pre++flat E (xs++zs)++post)::F) w:=⟨g,⟨h1,h2,⟨e1,fr,hbk,hfr⟩,p2,dd,s1,s2⟩,hsub,hupd⟩
    have hlen2:((xs++zs).take l++ys.take k++(xs++zs).drop (l+k)).length=(xs++zs).length:=by
      simp only [List.length_append,List.length_take,List.length_drop] at hlk hlen ⊢;omega
    have:=hst.write (cs':=pre++flat E ((xs++zs).take l++ys.take k++(xs++zs).drop (l+k))++post) hwb r3 r2 (by
      rw [List.length_append,List.length_append,List.length_append,List.length_append,flat_length,flat_length,hlen2]) r4 r5 r6 r7
    obtain ⟨g',hg',hm',hu'⟩:=this
    refine ⟨g',star_imp (fun q hq=>Ars.of_blk (b:=b) (o:=o) (pre:=pre) (post:=post) (by rw [he];exact hq) hp ho (by rw [hl'];exact p1.1) ?_ (by exact hM)) hg',hm',hu'⟩
    have hh:xs'.length+zs'.length=xs.length+zs.length:=by
      have h5:=congrArg List.length he
      rw [hlen2] at h5
      simpa using h5
    rw [hh];exact p1.2.1
theorem cut_base (s:Sl) (l r m sz:Nat) (hrm:r≤m):(s.cut l r m sz).p=s.p.map (·.add (l*sz))∨(s.cut l r m sz).n=0:=by
  unfold Sl.cut
  by_cases h:m=l
  · right;simp only;omega
  · left;simp [h]
theorem xcopy {P:Program}{t u ty e:TypeId}{sz by_:Nat}{z:List Value} [a:AppT P t e sz by_ z] {E:Enc α}{s y:Sl}{xs zs ys:List α}{l r m:Nat}{F:List HP}{K:Int→WP}
    (hy:∀ w,Sx B (Ars E s xs zs::F) w→RAr E y ys (mem w)) (xs' zs':List α) (hsz:E.sz=sz:=by rfl) (hrm:r≤m) (hlk:l+min ys.length (r - l)≤xs.length+zs.length) (hl:xs'.length=xs.length)
    (he:xs'++zs'=(xs++zs).take l++ys.take (min ys.length (r - l))++(xs++zs).drop (l+min ys.length (r - l)))
    (h:∀ n,Ent B (Ars E s xs' zs'::F) (K n)):Ent B (Ars E s xs zs::F) (XCopy P t u ty (s.cut l r m sz).v y.v K):=by
  intro w hw
  obtain ⟨w',hr,hx⟩:=copy_in (P:=P) (u:=u) (ty:=ty) (l:=l) (dn:=r - l) (dc:=(s.cut l r m sz).c) (base:=(s.cut l r m sz).p) a.ok hsz hw rfl (hy w hw) (by
    have:=cut_base s l r m sz hrm
    rcases this with h | h
    · exact .inl h
    · exact .inr h) (by simpa using hlk)
  exact ⟨_,w',hr,h _ w' (hx xs' zs' he hl)⟩
theorem append_zeros {P:Program}{t u ty e:TypeId}{k0:IntKind}{sz by_:Nat}(hok:appOk P t e sz by_=true) (hu:P.underlying u=some (.int k0)) {E:Enc α}(hsz:E.sz=sz) (hz:zeroOf P e=some (E.f E.zero)) {s:Sl}{xs:List α}{n:Nat}{w:World}
    (hxr:RAr E s xs (mem w)) (hpn:0<n) (hroom:¬ s.n+n≤s.c) (hb:(s.n+n)*by_≤140737488355328) :
    ∃ (k:Nat),s.n+n≤k∧k≤9223372036854775807∧(Builtin.append_ #[t,u] ty #[s.v,.int .i64 (n:Int)]).run P w=.ok (.slice (some ⟨w.heap.size,0,none⟩) (s.n+n) k) (w.drew.alloc (.cells (flat E xs++flat E (List.replicate n E.zero)++repL (E.f E.zero) (k - (s.n+n))).toArray e)):=by
  obtain ⟨i,z,ht,hi,hsize,hbytes,hpos,hz0,hzs⟩:=appOk_spec hok
  subst hsize
  subst hbytes
  obtain ⟨p,sn,sc⟩:=s
  simp only at hroom hb
  have h48:=growslice_fits (by omega:sc<sn+n) hb
  have hle:sn+n≤(sn+n)*i.bytes:=Nat.le_mul_of_pos_right _ hpos
  have h63:¬ (9223372036854775807<((sn:Int)+(n:Int))):=by omega
  have h48':¬ (281474976710656<Builtin.nextslicecap (sn+n) sc*i.bytes):=by omega
  have hnb:n*i.bytes≤(sn+n)*i.bytes:=Nat.mul_le_mul_right _ (by omega)
  have hl2:¬ (281474976710656<(n:Int)*(i.bytes:Int)):=by
    have:((n*i.bytes:Nat):Int)≤281474976710656:=by omega
    rw [Int.natCast_mul] at this
    omega
  have hw:IntKind.i64.wrap (n:Int)=n:=wrap_id _ (by omega) (by omega)
  obtain ⟨i',z',hi',hz',hzf⟩:=zeroOf_some hz
  obtain rfl:i'=i:=by rw [hi] at hi';exact (Option.some.inj hi').symm
  obtain rfl:z'=z:=by rw [hz0] at hz';exact (Option.some.inj hz').symm
  have hfx:=RArr.first (P:=P) (w:=w.drew) (hxr.2)
  rw [hsz] at hfx
  have hzc:∀ m,Builtin.zeroCells z'.cells m=(repL z'.cells.toList m).toArray:=fun m=>by rw [←range_repL];rfl
  have hfl:flat E (List.replicate n E.zero)=repL z'.cells.toList n:=by rw [←repL_flat,hzf]
  refine ⟨grownCap w (sn+n) sc e,cut_ge w _ _ _,cut_le w _ _ _ (by omega),?_⟩
  rw [hfl,hzf]
  have hn0:¬ (n*i'.size=0):=fun h=>by
    rcases Nat.mul_eq_zero.1 h with h | h
    · omega
    · have:=E.pos;omega
  simp only [Builtin.append_]
  simp [run_underlying ht,run_underlying hu,sizeOf,typeInfo,zeroValue,hi,hz0,asInt,asIntOf,hw,hl2,hroom,h63,h48',Question.forced,hfx,newRow,grownCap,hzc,hn0]
  intro h
  omega
theorem xappz {P:Program}{t u ty e:TypeId}{k0:IntKind}{sz by_:Nat}{z:List Value} [a:AppT P t e sz by_ z] {E:Enc α}{s:Sl}{xs:List α}{n:Nat}{K:Sl→WP}(hu:P.underlying u=some (.int k0))
    (hr:∀ w,Sx B As w→RAr E s xs (mem w)) (hpn:0<n) (hroom:¬ s.n+n≤s.c) (hb:(s.n+n)*by_≤140737488355328) (hsz:E.sz=sz:=by rfl) (hz:E.f E.zero=z:=by rfl)
    (h:∀ s',s'.n=s.n+n→s'.n≤s'.c→Ent B (Ar E s' (xs++List.replicate n E.zero)::As) (K s')):Ent B As (XApp P t u ty s.v (.int .i64 (n:Int)) K):=by
  intro w hw
  have hxr:=hr w hw
  obtain ⟨k,hk,hkM,hrun⟩:=append_zeros (ty:=ty) a.ok hu hsz (by rw [hz];exact a.zero) hxr hpn hroom hb
  refine ⟨⟨some ⟨w.heap.size,0,none⟩,s.n+n,k⟩,_,hrun,h _ rfl (by simpa using hk) _ ?_⟩
  have ha:=(hw.drew).alloc (flat E xs++flat E (List.replicate n E.zero)++repL (E.f E.zero) (k - (s.n+n))) e
  obtain ⟨g',hg',hm',hu'⟩:=ha
  have hxn:xs.length=s.n:=hxr.1
  refine ⟨g',star_imp (fun q hq=>⟨List.replicate (k - (s.n+n)) E.zero,?_⟩) hg',hm',hu'⟩
  rw [repL_flat,←flat_append,←flat_append] at hq
  exact Ars.of_blk (pre:=[]) (post:=[]) (by simpa using hq) rfl rfl (by simp;omega) (by simp;omega) hkM
def BlkS (b:Nat) (cs:List Value):HP:=fun h=>∃ e,h b=some (.cells cs.toArray e)
theorem BlkS.blk {b:Nat}{cs:List Value}{h:Frag}(hb:BlkS b cs h):Blk b cs h:=by
  obtain ⟨e,hb⟩:=hb
  exact ⟨e,(0,0),hb,fun i _ h=>by simp at h⟩
theorem xnewS {cs:List Value}{e:TypeId}{K:Nat→WP}(h:∀ b,Ent B (BlkS b cs::As) (K b)):Ent B As (XNew cs e K):=fun w hw=>h _ _ (hw.allocQ ⟨e,by simp⟩)
theorem run_overlaps {P:Program}{t e:TypeId}{sz:Nat}{r:Array TypeId}(ht:P.underlying t=some (.slice e)) (hs:szOf P e=some sz) {bv n c:Nat}{w:World}{cs:List Value}{e1:TypeId}(hb:w.heap[bv]? = some (.cells cs.toArray e1)) (hcs:0<cs.length) {y:Sl}
    (hy:y.p=none∨y.n=0∨∃ b o cs' e' fr,y.p=some ⟨b,o,none⟩∧b≠bv∧w.heap[b]? = some (.cells cs' e' fr)∧0<cs'.size) :
    (Extern.SlicesOverlaps.overlaps #[t,t] r #[.slice (some ⟨bv,0,none⟩) n c,y.v]).run P w=.ok (.bool false) w:=by
  obtain ⟨q,m,d⟩:=y
  simp only at hy
  rw [show Extern.SlicesOverlaps.overlaps #[t,t] r #[.slice (some ⟨bv,0,none⟩) n c,.slice q m d]=(underlying t >>= _) from rfl]
  simp only [Sem.run_bind,run_underlying ht,Result.andThen_ok,run_sz hs]
  cases q with
  | none=>rfl
  | some a=>
    simp only
    by_cases h0:n=0∨m=0∨sz=0
    · rw [if_pos h0];rfl
    · rw [if_neg h0]
      rcases hy with h | h | ⟨b,o,cs',e',fr,hp,hne,hbb,hpos⟩
      · cases h
      · exact absurd (.inr (.inl h)) h0
      · simp only [Option.some.injEq] at hp
        subst hp
        have hf:w.frozen? ⟨bv,0,none⟩=false:=by simp [World.frozen?,hb]
        have hs1:w.shape? bv=some (e1,cs.length):=by simp [World.shape?,hb]
        have hs2:w.shape? b=some (e',cs'.size):=by simp [World.shape?,hbb]
        have hf2:w.frozen? ⟨bv,cs.length,none⟩=false:=by simp [World.frozen?,hb]
        have hne':(bv != b)=true:=by simpa using fun h=>hne h.symm
        have hv:∀ x:Addr,(w.shape? x.block).isSome=true→(noView x).run P w=.ok () w:=fun x hx=>by simp [noView,viewAt,hx]
        have hst:(stringish ⟨bv,0,none⟩).run P w=.ok false w:=by simp [stringish,hf,hs1,hf2]
        have hst2:∃ sb,(stringish ⟨b,o,none⟩).run P w=.ok sb w:=by
          cases hfb:w.frozen? ⟨b,o,none⟩ with
          | true=>exact ⟨true,by simp [stringish,hfb]⟩
          | false=>exact ⟨w.frozen? ⟨b,cs'.size,none⟩,by simp [stringish,hfb,hs2]⟩
        obtain ⟨sb,hst2⟩:=hst2
        have hmay:(mayBeOne ⟨bv,0,none⟩ ⟨b,o,none⟩).run P w=.ok false w:=by
          have hz:cs'.size≠0:=by omega
          simp only [mayBeOne,Sem.run_bind,hst,hst2,Result.andThen_ok,run_shape,Sem.run_pure,hs1,hs2]
          congr 1
          obtain ⟨k,hk⟩:∃ k,cs'.size=k+1:=⟨cs'.size - 1,by omega⟩
          rw [hk]
          cases sb<;>simp
        simp only [Sem.run_bind,run_frozen,hf,Result.andThen_ok,hne',Bool.and_false,Bool.false_and,Bool.false_eq_true,if_false,if_true,hv ⟨bv,0,none⟩ (by simp [hs1]),hv ⟨b,o,none⟩ (by simp [hs2]),hmay]
        have e2:(bv == b)=false:=by simpa using fun h=>hne h.symm
        simp [e2]
theorem xovl {P:Program}{g:FuncId}{t e:TypeId}{sz:Nat}{r:Array TypeId}(hcall:∀ args w,(callFunc g args).run P w=((Extern.SlicesOverlaps.overlaps #[t,t] r args).run P w).andThen fun v w'=>.ok (.value v) w')
    (ht:P.underlying t=some (.slice e)) (hs:szOf P e=some sz) {bv n c:Nat}{cs:List Value}{E:Enc α}{s:Sl}{xs zs:List α}{F:List HP}{l k m:Nat}{K:Bool→WP}(hcs:0<cs.length) (hpos:0<xs.length+zs.length) (hkm:k≤m)
    (h:Ent B (Ars E s xs zs::BlkS bv cs::F) (K false)):Ent B (Ars E s xs zs::BlkS bv cs::F) (XExt P g [.slice (some ⟨bv,0,none⟩) n c,(s.cut l k m sz).v] .bool K):=by
  intro w hw
  obtain ⟨g0,⟨a,rest,pa,⟨b2,rest2,⟨e1,pb⟩,_,_,sb2,_⟩,d,sa,sb⟩,hm,hu⟩:=id hw
  have hbv:w.heap[bv]? = some (.cells cs.toArray e1):=hm _ _ (sb _ _ (sb2 _ _ pb))
  refine ⟨false,w,?_,h w hw⟩
  rw [hcall]
  have:=run_overlaps (P:=P) (r:=r) ht hs (n:=n) (c:=c) hbv hcs (y:=s.cut l k m sz) ?_
  · show Result.andThen (Sem.run P (Extern.SlicesOverlaps.overlaps #[t,t] r #[.slice (some ⟨bv,0,none⟩) n c,(s.cut l k m sz).v]) w) _=_
    rw [this];rfl
  · by_cases hml:m=l
    · right;left;simp only [Sl.cut];omega
    · rcases pa.2.2 with ⟨h0,_⟩ | ⟨b,o,pre,post,e',fr,hp,hbk,ho,_,_⟩
      · left;simp [Sl.cut,hml,h0]
      · right;right
        refine ⟨b,o+l*sz,_,e',fr,by simp [Sl.cut,hml,hp,add_none],?_,hm _ _ (sa _ _ hbk),?_⟩
        · intro e
          subst e
          rcases d b with h | h
          · rw [hbk] at h;cases h
          · rw [sb2 _ _ pb] at h;cases h
        · have h1:=flat_length E (xs++zs)
          have h2:=E.pos
          have h3:0<(xs++zs).length*E.sz:=Nat.mul_pos (by simp;omega) h2
          simp only [List.size_toArray,List.length_append] at *;omega
end Go.Cf
namespace Go.Cf
open Go
set_option linter.unusedVariables false
variable {B:Base}{As F:List HP}
section
variable {β:Type}
end
variable {P:Program}{t:TypeId}
end Go.Cf
namespace Go.Cf
open Go
variable {B:Base}{As:List HP}
theorem ca3 {s t u:Sh}{K:s.ty→t.ty→u.ty→WP}{x:s.ty}{y:t.ty}{z:u.ty}{v:Unit}(h:Ent B As (K x y z)):Ent B As (Cur.app [s,t,u] K (x,y,z,v)):=h
end Go.Cf
namespace Go.Cf
open Go
variable {B:Base}{As:List HP}{P:Program}
end Go.Cf
namespace Go.Cf
open Go
set_option linter.unusedVariables false
def seqs:Code→List Code
  | .seq a b=>seqs a++seqs b
  | c=>[c]
def wpLs (P:Program) (N:Nat) (dp:List Nat) (dr:List Oper→Env→(Env→WP)→WP):List Code→Env→(Env→WP)→List (Nat×(Env→WP))→(Env→WP)→WP
  | [],ρ,KN,_,_=>KN ρ
  | c::cs,ρ,KN,KX,KR=>wpC P N dp dr c ρ (fun ρ'=>wpLs P N dp dr cs ρ' KN KX KR) KX KR
def wpRet (P:Program) (fn:Func) (ss:List Sh) (R:Cur ss):Env→WP:=fun ρ=>wpRes P (fn.results.toList.zip fn.resultTypes.toList) ρ [] fun vs=>Cur.appV ss R vs
variable {B:Base}{As:List HP}
end Go.Cf
namespace Go.Cf
open Go
set_option linter.unusedVariables false
def regs:Code→List (List Oper)
  | .region _ ops true=>[ops.toList]
  | .seq a b=>regs a++regs b
  | .cond _ a b=>regs a++regs b
  | .block _ b=>regs b
  | .scope b=>regs b
  | .loop b=>regs b
  | _=>[]
end Go.Cf
namespace Go.Cf
open Go
set_option linter.unusedVariables false
def rdyB (ops:List Oper) (X:List Nat) (i:Nat):Bool:=
  match ops[i]? with
  | some o=>!(memN i X)&&(dirDeps o).all fun m=>memN m X
  | none=>false
def slotsO (o:Oper):List Nat:=o.op.operands.toList.filterMap fun x=>match x with | .tmp t=>some t | _=>none
def gotV (o:Oper) (ρ:Env):Value:=match o.dst with | some d=>gv ρ d | none=>undef
def fOp [Pan] (P:Program) (o:Oper) (vs:List Value) (K:Value→WP):WP:=wpOp1 P o (zipE (slotsO o) vs []) fun ρ1=>K (gotV o ρ1)
def stepGo [Pan] (P:Program) (N:Nat) (o:Oper) (ρ:Env) (k:Env→WP):WP:=
  bif o.guard.isNone&&opOk N ρ o then fOp P o ((slotsO o).map (gv ρ)) (fun v=>k (put ρ o.dst v)) else bad
theorem slotsO_mem {o:Oper}{t:Nat}(h:Operand.tmp t∈o.op.operands):t∈slotsO o:=by
  unfold slotsO
  rw [List.mem_filterMap]
  exact ⟨.tmp t,by simpa using h,rfl⟩
theorem zipE_at {f:Nat→Value}{t:Nat}:∀ {ts:List Nat},t∈ts→gv (zipE ts (ts.map f) []) t=f t:=fun h=>zipE_in _ (memN_iff.2 h)
theorem gotV_put {o:Oper}{E ρ:Env}{v:Value}:put ρ o.dst (gotV o (put E o.dst v))=put ρ o.dst v:=by
  unfold gotV
  cases o.dst with
  | none=>rfl
  | some d=>
    show put ρ (some d) (gv ((d,v)::E) d)=_
    rw [gv_cons,show Nat.beq d d=true from Nat.beq_refl d]
    rfl
def wpGo [Pan] (P:Program) (N:Nat) (ops:List Oper):Nat→List Nat→Env→(Env→WP)→WP
  | 0,_,ρ,K=>K ρ
  | f+1,X,ρ,K=>fun w=>((∀ i,rdyB ops X i=false)→K ρ w)∧∀ i o,rdyB ops X i=true→ops[i]? = some o→stepGo P N o ρ (fun ρ'=>wpGo P N ops f (i::X) ρ' K) w
section
variable [Pan] {P:Program}{rn:Option Nat}{dl:List Deferred}{N:Nat}{ops:Array Oper}{Fr:Act→Prop}{Q:Exit→Act→World→Prop}
theorem rdy_iff {listed:Array Bool}{X:List Nat}(hl:listed.size=ops.toList.length) (hX:∀ i,Dn listed i↔i∈X) (i:Nat):rdyB ops.toList X i=true↔i∈Region.ready .any ops listed:=by
  rw [ready_iff hl]
  unfold rdyB
  cases ho:ops.toList[i]? with
  | none=>simp
  | some o=>
    simp only [Bool.and_eq_true,Bool.not_eq_true',List.all_eq_true]
    constructor
    · rintro ⟨h1,h2⟩
      exact ⟨fun h=>(by rw [memN_iff.2 ((hX i).1 h)] at h1;cases h1),o,rfl,fun m hm=>(hX m).2 (memN_iff.1 (h2 m hm))⟩
    · rintro ⟨h1,o',e,h2⟩
      cases e
      refine ⟨?_,fun m hm=>memN_iff.2 ((hX m).1 (h2 m hm))⟩
      cases hb:memN i X with
      | false=>rfl
      | true=>exact absurd ((hX i).2 (memN_iff.1 hb)) h1
theorem go_any (hng:NoGor P) (hp:PanQ dl Fr Q) (hlv:Leaves ops.toList Fr) {K:Env→WP}(hK:∀ ρ a w,Fits N dl ρ a→Fr a→K ρ w→Q .normal a w) :
    ∀ (fuel:Nat) (listed:Array Bool) (a:Act) (w:World) (X:List Nat) (ρ:Env),
      listed.toList.count true+fuel=ops.toList.length→listed.size=ops.toList.length→(∀ i,Dn listed i↔i∈X)→Fits N dl ρ a→Fr a →
      wpGo P N ops.toList fuel X ρ K w→wpAnyIn (FF rn) 0 P .any ops Q fuel listed a w:=by
  intro fuel
  induction fuel with
  | zero=>
    intro listed a w X ρ hcnt hl hX hf hfr h
    have hd:=all_dn (listed:=listed) (by rw [hl];omega)
    refine ⟨?_,hK ρ a w hf hfr h⟩
    cases hrr:Region.ready .any ops listed with
    | nil=>rfl
    | cons i r=>
      have:i∈Region.ready .any ops listed:=by rw [hrr];exact List.mem_cons_self ..
      obtain ⟨h1,o,ho,_⟩:=(ready_iff hl).1 this
      exact absurd (hd i (by rw [hl];exact (List.getElem?_eq_some_iff.1 ho).1)) h1
  | succ fuel ih=>
    intro listed a w X ρ hcnt hl hX hf hfr h
    refine ⟨fun hr=>hK ρ a w hf hfr (h.1 fun i=>?_),fun i hi=>?_⟩
    · cases hb:rdyB ops.toList X i with
      | false=>rfl
      | true=>
        have:=(rdy_iff hl hX i).1 hb
        rw [hr] at this;cases this
    · have hrd:=(rdy_iff hl hX i).2 hi
      obtain ⟨hnd,o,ho,hdeps⟩:=(ready_iff hl).1 hi
      have hlt:i<listed.size:=by rw [hl];exact (List.getElem?_eq_some_iff.1 ho).1
      have ho':ops[i]? = some o:=by simpa using ho
      have h1:=h.2 i o hrd ho
      unfold stepGo at h1
      obtain ⟨hb,h1⟩:=of_bif_bad h1
      simp only [Bool.and_eq_true] at hb
      obtain ⟨hg,hok⟩:=hb
      have hok':=hok
      simp only [opOk,Bool.and_eq_true,List.all_eq_true] at hok'
      have hgn:o.guard=none:=by simpa using hg
      unfold wpOpIn
      simp only [ho']
      rw [if_pos (by simp [Region.wanted,hgn])]
      refine wpOp1_at hng (fun w' hq=>hp a w' hf.defs hfr hq) (fun cs b e=>?_) (fun x hx=>?_) h1 ?_
      · have:=hok'.2
        rw [e] at this;cases this
      · rw [hf.eval (hok'.1.1 x (by simpa using hx))]
        cases x with
        | tmp t=>exact (zipE_at (slotsO_mem hx)).symm
        | _=>rfl
      intro v w1 h2
      dsimp only at h2
      rw [gotV_put] at h2
      have hdst:∀ t,o.dst=some t→t<N:=fun t ht=>by
        have:=hok'.1.2
        rw [ht] at this;simpa [Nat.blt_eq] using this
      refine ih _ _ w1 (i::X) (put ρ o.dst v) (by rw [count_set hlt hnd];omega) (by simpa using hl) (fun k=>?_) (hf.put hdst) (hlv o (List.mem_of_getElem? ho) _ _ hfr) h2
      rw [dn_set hlt,hX k,List.mem_cons]
theorem go_steps (hng:NoGor P) (hp:PanQ dl Fr Q) (hm:P.follows .mixedOrders=true) {id:Nat}{a:Act}{w:World}{K:Env→WP}{ρ:Env}
    (h:wpGo P N ops.toList ops.toList.length [] ρ K w.drew) (hf:Fits N dl ρ a) (hlv:Leaves ops.toList Fr) (hfr:Fr a) (hK:∀ ρ a w,Fits N dl ρ a→Fr a→K ρ w→Q .normal a w):(Code.region id ops true).wpIn (FF rn) 0 P Q a w:=by
  refine wpIn_region_any hm ?_
  have nd:∀ i,¬ Dn (Array.replicate ops.size false) i:=fun i hi=>by
    unfold Dn at hi
    rw [Array.getElem?_replicate] at hi
    split at hi<;>simp at hi
  refine go_any hng hp hlv hK ops.size _ a _ [] ρ (by simp [List.count_replicate]) (by simp) (fun i=>⟨fun h=>absurd h (nd i),fun h=>by cases h⟩) hf hfr (by simpa using h)
end
def wpDrG [Pan] (great:List Oper→Bool) (P:Program) (fn:Func) (N:Nat) (ops:List Oper) (ρ:Env) (KN:Env→WP):WP:=
  bif great ops then
    (let cs:=unionN (liveOut fn ops) (dstsOf (ops.filter fun o=>match o.dst with | some t=>has ρ t | none=>false) [])
     let ss:=cs.map (shOut P ops ρ)
     XJoin ss (fun K=>wpGo P N ops ops.length [] ρ fun ρ'=>bif allHas ρ' cs then Cur.appV ss K (cs.map (gv ρ')) else bad) (Cur.of ss fun vs=>KN (zipE cs vs ρ)))
  else wpDr P fn N ops ρ KN
theorem drSoundG [Pan] {P:Program}(hng:NoGor P) (hm:P.follows .mixedOrders=true) (great:List Oper→Bool) (fn:Func) (N:Nat):DrSound P N (wpDrG great P fn N):=by
  intro rn dl id ops Fr ρ KN a w Q hp h hf hlv hfr hN
  unfold wpDrG at h
  cases hg:great ops.toList with
  | false=>
    rw [hg] at h
    exact drSound hng hm fn N rn dl id ops Fr ρ KN a w Q hp h hf hlv hfr hN
  | true=>
    rw [hg] at h
    simp only [cond_true,XJoin] at h
    refine go_steps (Fr:=fun a=>Fr a∧Keep N dl ρ (unionN (liveOut fn ops.toList) (dstsOf (ops.toList.filter fun o=>match o.dst with | some t=>has ρ t | none=>false) [])) a) hng (hp.of fun _ h=>h.1) hm h hf
      (hlv.and (leaves_keep fun t ht=>(memN_unionN _ _).2 (.inr ht))) ⟨hfr,hf.keep _⟩ ?_
    intro ρ' a' w' hf' hfr' h'
    obtain ⟨ha,h'⟩:=of_bif_bad h'
    obtain ⟨t,ht,h'⟩:=Cur.appV_app _ _ _ _ h'
    rw [Cur.app_of,ht] at h'
    exact hN _ _ _ (hfr'.2.fits' _ (allHas_get hf' ha)) hfr'.1 h'
theorem xcall_go (great:List Oper→Bool) {P:Program}(hng:NoGor P) (hm:P.follows .mixedOrders=true) {f:FuncId}{fn:Func}(hf:P.funcs[f]? = some fn) {dp:List Nat}{args:List Value}{rs:Rs}{ss:List Sh}
    (hrs:rsOfTypes P fn.resultTypes.toList=(rs,ss)) {K:Cur ss}{w:World}(h:wpF P dp (wpDrG great P fn) fn args ss K w):XCall P f args rs ss K w:=by
  obtain ⟨rfl,rfl⟩:(rsOfTypes P fn.resultTypes.toList).1=rs∧(rsOfTypes P fn.resultTypes.toList).2=ss:=by rw [hrs];exact ⟨rfl,rfl⟩
  exact calls_of_wpF hng (fun N=>drSoundG hng hm great fn N) hf h (fun t w' hK=>⟨t,rfl,hK⟩) fun _ hq=>hq.elim
def dstN (o:Oper):Nat:=match o.dst with | some d=>d | none=>0
def goChk (N:Nat) (T0:List Nat) (ops:List Oper):Bool:=
  nodupN (dsts ops)&&T0.all (fun t=>!(memN t (dsts ops)))&&ops.all fun o=>o.guard.isNone&&(match o.op with | .select .. => false | _=>true)&&(match o.dst with | some d=>Nat.blt d N | none=>false) &&
    (slotsO o).all fun t=>memN t T0||(dirDeps o).any fun j=>match ops[j]? with | some oj=>(match oj.dst with | some d=>Nat.beq d t | none=>false) | none=>false
def backB:Nat→List Oper→Bool
  | _,[]=>true
  | i,o::r=>(dirDeps o).all (fun m=>Nat.blt m i)&&backB (i+1) r
theorem backB_at:∀ {k:Nat}{l:List Oper},backB k l=true→∀ {i:Nat}{o:Oper},l[i]? = some o→∀ m∈dirDeps o,m<k+i
  | k,[],_,i,o,h=>by simp at h
  | k,x::r,hb,i,o,h=>by
    simp only [backB,Bool.and_eq_true,List.all_eq_true] at hb
    intro m hm
    cases i with
    | zero=>
      simp only [List.getElem?_cons_zero,Option.some.injEq] at h
      subst h
      have:=hb.1 m hm
      simpa [Nat.blt_eq] using this
    | succ i=>
      have:=backB_at hb.2 (by simpa using h) m hm
      omega
theorem nodup_len:∀ {l m:List Nat},l.Nodup→(∀ x∈l,x∈m)→l.length≤m.length
  | [],_,_,_=>Nat.zero_le _
  | x::l,m,hn,h=>by
    obtain ⟨hx,hl⟩:=List.nodup_cons.1 hn
    have hm:=h x (List.mem_cons_self ..)
    have:=nodup_len (m:=m.erase x) hl fun y hy=>(List.mem_erase_of_ne (show y≠x from fun e=>hx (by rw [←e];exact hy))).2 (h y (List.mem_cons_of_mem _ hy))
    rw [List.length_erase_of_mem hm] at this
    have:=List.length_pos_of_mem hm
    simp only [List.length_cons]
    omega
structure Mid (ops:List Oper) (T0:List Nat) (ρ0:Env) (g:Nat→List Value→Value→Prop) (X:List Nat) (ρ:Env):Prop where
  nd:X.Nodup
  lt:∀ i∈X,i<ops.length
  cl:∀ i o,i∈X→ops[i]? = some o→∀ m∈dirDeps o,m∈X
  base:∀ t∈T0,has ρ t=true∧gv ρ t=gv ρ0 t
  got:∀ i o,i∈X→ops[i]? = some o→has ρ (dstN o)=true∧g i ((slotsO o).map (gv ρ)) (gv ρ (dstN o))
section
variable [Pan] {P:Program}{N:Nat}{ops:List Oper}{T0:List Nat}{ρ0:Env}{g:Nat→List Value→Value→Prop}{B:Base}
theorem goChk_at (hc:goChk N T0 ops=true) {i:Nat}{o:Oper}(ho:ops[i]? = some o) :
    o.guard.isNone=true∧(match o.op with | .select .. => false | _=>true)=true∧o.dst=some (dstN o)∧dstN o<N∧dstN o∉T0∧∀ t∈slotsO o,t∈T0∨∃ j oj,j∈dirDeps o∧ops[j]? = some oj∧oj.dst=some t:=by
  simp only [goChk,Bool.and_eq_true,List.all_eq_true] at hc
  obtain ⟨⟨hn,hT⟩,hall⟩:=hc
  obtain ⟨⟨⟨h1,h2⟩,h3⟩,h4⟩:=hall o (List.mem_of_getElem? ho)
  cases hd:o.dst with
  | none=>rw [hd] at h3;cases h3
  | some d=>
    rw [hd] at h3
    have e:dstN o=d:=by simp [dstN,hd]
    rw [e]
    refine ⟨h1,h2,rfl,by simpa [Nat.blt_eq] using h3,fun hm=>?_,fun t ht=>?_⟩
    · have:=hT d hm
      rw [dsts_mem ho hd] at this;cases this
    · have:=h4 t ht
      simp only [Bool.or_eq_true,List.any_eq_true] at this
      rcases this with h | ⟨j,hj,h⟩
      · exact .inl (memN_iff.1 h)
      · right
        cases hoj:ops[j]? with
        | none=>rw [hoj] at h;cases h
        | some oj=>
          rw [hoj] at h
          cases hdj:oj.dst with
          | none=>simp only [hdj] at h;cases h
          | some dj=>
            simp only [hdj] at h
            exact ⟨j,oj,hj,hoj,by rw [hdj,Nat.eq_of_beq_eq_true h]⟩
theorem ent_go (hc:goChk N T0 ops=true) (hb:backB 0 ops=true) (h0:∀ t∈T0,has ρ0 t=true) {As0:List HP}(pc:Nat→List Value→Value→List HP) {K:Env→WP}
    (step:∀ (i:Nat) (o:Oper) (X:List Nat) (ρ:Env) (rest:List HP) (K:Value→WP),ops[i]? = some o→Mid ops T0 ρ0 g X ρ→(∀ m∈dirDeps o,m∈X) →
      (∀ x,g i ((slotsO o).map (gv ρ)) x→Ent B (pc i ((slotsO o).map (gv ρ)) x++(As0++rest)) (K x))→Ent B (As0++rest) (fOp P o ((slotsO o).map (gv ρ)) K))
    (fin:∀ (X:List Nat) (ρ:Env),Mid ops T0 ρ0 g X ρ→(∀ i,i<ops.length→i∈X)→Ent B (As0++(List.range ops.length).flatMap (fun i=>match ops[i]? with | some o=>pc i ((slotsO o).map (gv ρ)) (gv ρ (dstN o)) | none=>[])) (K ρ)) :
    Ent B As0 (wpGo P N ops ops.length [] ρ0 K):=by
  have hn:nodupN (dsts ops)=true:=by
    simp only [goChk,Bool.and_eq_true] at hc
    exact hc.1.1
  have done:∀ (X:List Nat) (ρ:Env),Mid ops T0 ρ0 g X ρ→(∀ i,i<ops.length→i∈X)→Ent B (As0++X.flatMap (fun i=>match ops[i]? with | some o=>pc i ((slotsO o).map (gv ρ)) (gv ρ (dstN o)) | none=>[])) (K ρ):=by
    intro X ρ hm hX
    have hp:X.Perm (List.range ops.length):=by
      refine (List.perm_ext_iff_of_nodup hm.nd List.nodup_range).2 fun i=>?_
      rw [List.mem_range]
      exact ⟨hm.lt i,hX i⟩
    exact (fin X ρ hm hX).perm ((hp.flatMap_right _).append_left _)
  have key:∀ (f:Nat) (X:List Nat) (ρ:Env),X.length+f=ops.length→Mid ops T0 ρ0 g X ρ→Ent B (As0++X.flatMap (fun i=>match ops[i]? with | some o=>pc i ((slotsO o).map (gv ρ)) (gv ρ (dstN o)) | none=>[])) (wpGo P N ops f X ρ K):=by
    intro f
    induction f with
    | zero=>
      intro X ρ hl hm
      refine done X ρ hm fun i hi=>?_
      refine Classical.byContradiction fun hnX=>?_
      have:=nodup_len (l:=i::X) (m:=List.range ops.length) (List.nodup_cons.2 ⟨hnX,hm.nd⟩) fun j hj=>by
        rcases List.mem_cons.1 hj with rfl | hj
        · exact List.mem_range.2 hi
        · exact List.mem_range.2 (hm.lt j hj)
      simp at this
      omega
    | succ f ih=>
      intro X ρ hl hm w hw
      refine ⟨fun hr=>done X ρ hm (fun i hi=>?_) w hw,fun i o hr ho=>?_⟩
      · induction i using Nat.strongRecOn with
        | _ i ihi=>
          obtain ⟨o,ho⟩:∃ o,ops[i]? = some o:=⟨_,List.getElem?_eq_getElem hi⟩
          have:=hr i
          unfold rdyB at this
          rw [ho] at this
          simp only [Bool.and_eq_false_iff,Bool.not_eq_false'] at this
          rcases this with h | h
          · exact memN_iff.1 h
          · exfalso
            rw [Bool.eq_false_iff] at h
            refine h (List.all_eq_true.2 fun m hmd=>memN_iff.2 ?_)
            have:=backB_at hb ho m hmd
            exact ihi m (by omega) (by omega)
      · obtain ⟨hg,hsel,hd,hdN,hdT,hsl⟩:=goChk_at hc ho
        have hr':=hr
        unfold rdyB at hr'
        rw [ho] at hr'
        simp only [Bool.and_eq_true,Bool.not_eq_true',List.all_eq_true] at hr'
        have hiX:i∉X:=fun h=>by rw [memN_iff.2 h] at hr';cases hr'.1
        have hdeps:∀ m∈dirDeps o,m∈X:=fun m hmm=>memN_iff.1 (hr'.2 m hmm)
        have hslot:∀ {j:Nat}{oj:Oper},ops[j]? = some oj→(∀ m∈dirDeps oj,m∈X)→∀ t∈slotsO oj,has ρ t=true∧t≠dstN o:=by
          intro j oj hoj hdj t ht
          rcases (goChk_at hc hoj).2.2.2.2.2 t ht with h | ⟨k,ok,hk,hok,hdk⟩
          · exact ⟨(hm.base t h).1,fun e=>hdT (e ▸ h)⟩
          · have hkX:=hdj k hk
            have:=(hm.got k ok hkX hok).1
            rw [show dstN ok=t by simp [dstN,hdk]] at this
            refine ⟨this,fun e=>hiX ?_⟩
            rw [e] at hdk
            rwa [dsts_unique hn ho hok hd hdk]
        have hok:opOk N ρ o=true:=by
          simp only [opOk,Bool.and_eq_true,List.all_eq_true]
          refine ⟨⟨fun x hx=>?_,by rw [hd];simpa [Nat.blt_eq] using hdN⟩,hsel⟩
          cases x with
          | tmp t=>exact (hslot ho hdeps t (slotsO_mem (by simpa using hx))).1
          | _=>rfl
        unfold stepGo
        rw [hg,hok]
        simp only [Bool.and_true,cond_true]
        refine step i o X ρ _ _ ho hm hdeps (fun x hx=>?_) w hw
        have gvp:∀ t,t≠dstN o→gv (put ρ o.dst x) t=gv ρ t∧has (put ρ o.dst x) t=has ρ t:=by
          intro t ht
          rw [hd]
          have:Nat.beq (dstN o) t=false:=by
            cases hb:Nat.beq (dstN o) t with
            | false=>rfl
            | true=>exact absurd (Nat.eq_of_beq_eq_true hb).symm ht
          simp [put,gv_cons,has_cons,this]
        have gvd:gv (put ρ o.dst x) (dstN o)=x∧has (put ρ o.dst x) (dstN o)=true:=by
          rw [hd]
          simp [put,gv_cons,has_cons]
        have hmap:∀ {j:Nat}{oj:Oper},ops[j]? = some oj→(∀ m∈dirDeps oj,m∈X)→(slotsO oj).map (gv (put ρ o.dst x))=(slotsO oj).map (gv ρ):=by
          intro j oj hoj hdj
          exact List.map_congr_left fun t ht=>(gvp t (hslot hoj hdj t ht).2).1
        have hdst:∀ {j:Nat}{oj:Oper},j∈X→ops[j]? = some oj→dstN oj≠dstN o:=by
          intro j oj hj hoj e
          have:=(goChk_at hc hoj).2.2.1
          rw [e] at this
          exact hiX (by rwa [dsts_unique hn ho hoj hd this])
        have hm':Mid ops T0 ρ0 g (i::X) (put ρ o.dst x):=by
          refine ⟨List.nodup_cons.2 ⟨hiX,hm.nd⟩,fun j hj=>?_,fun j oj hj hoj m hmd=>?_,fun t ht=>?_,fun j oj hj hoj=>?_⟩
          · rcases List.mem_cons.1 hj with rfl | hj
            · exact (List.getElem?_eq_some_iff.1 ho).1
            · exact hm.lt j hj
          · rcases List.mem_cons.1 hj with rfl | hj
            · rw [ho] at hoj;cases hoj
              exact List.mem_cons_of_mem _ (hdeps m hmd)
            · exact List.mem_cons_of_mem _ (hm.cl j oj hj hoj m hmd)
          · have hne:t≠dstN o:=fun e=>hdT (e ▸ ht)
            rw [(gvp t hne).1,(gvp t hne).2]
            exact hm.base t ht
          · rcases List.mem_cons.1 hj with rfl | hj
            · rw [ho] at hoj;cases hoj
              rw [hmap ho hdeps,gvd.1,gvd.2]
              exact ⟨rfl,hx⟩
            · have hne:=hdst hj hoj
              rw [hmap hoj (hm.cl j oj hj hoj),(gvp _ hne).1,(gvp _ hne).2]
              exact hm.got j oj hj hoj
        have:=ih (i::X) (put ρ o.dst x) (by simp;omega) hm'
        refine this.perm ?_
        have e1:X.flatMap (fun j=>match ops[j]? with | some oj=>pc j ((slotsO oj).map (gv (put ρ o.dst x))) (gv (put ρ o.dst x) (dstN oj)) | none=>[])=X.flatMap (fun j=>match ops[j]? with | some oj=>pc j ((slotsO oj).map (gv ρ)) (gv ρ (dstN oj)) | none=>[]):=by
          rw [List.flatMap_def,List.flatMap_def]
          congr 1
          refine List.map_congr_left fun j hj=>?_
          cases hoj:ops[j]? with
          | none=>rfl
          | some oj=>simp only [(gvp _ (hdst hj hoj)).1,hmap hoj (hm.cl j oj hj hoj)]
        rw [List.flatMap_cons,e1,ho]
        simp only [gvd.1,hmap ho hdeps]
        rw [←List.append_assoc,←List.append_assoc]
        exact List.perm_append_comm.append_right _
  have:=key ops.length [] ρ0 (by simp) ⟨List.nodup_nil,fun i h=>(by cases h),fun i o h=>(by cases h),fun t ht=>⟨h0 t ht,rfl⟩,fun i o h=>(by cases h)⟩
  simpa using this
end
def goOps (fn:Func):List Oper:=match fn.body with | some c=>(regs c).headD [] | none=>[]
def kOp [Pan] (P:Program) (fn:Func) (i:Nat) (vs:List Value) (K:Value→WP):WP:=match (goOps fn)[i]? with | some o=>fOp P o vs K | none=>bad
theorem kOp_eq [Pan] {P:Program}{fn:Func}{i:Nat}{o:Oper}(h:(goOps fn)[i]? = some o) (vs:List Value) (K:Value→WP):fOp P o vs K=kOp P fn i vs K:=by unfold kOp;rw [h]
end Go.Cf
namespace Go.Cf
open Go
set_option linter.unusedVariables false
variable {B:Base}{As F:List HP}
end Go.Cf
namespace Go.Cf
open Go
set_option linter.unusedVariables false
variable {B:Base}{As:List HP}
theorem xloop0 {body:WP→WP}(I:Nat→List HP→Prop) (n0:Nat) (h0:I n0 As)
    (round:∀ n As' (K:WP),I n As'→(∀ m As'',m<n→I m As''→Ent B As'' K)→Ent B As' (body K)):Ent B As (XLoop [] body):=by
  intro w hw
  refine ⟨n0+1,?_⟩
  have key:∀ n As',I n As'→∀ k,n<k→Ent B As' (Cur.app [] (rounds [] body k) ()):=by
    intro n
    induction n using Nat.strongRecOn with
    | _ n ih=>
      intro As' hI k hk
      cases k with
      | zero=>omega
      | succ k=>exact round n As' (rounds [] body k) hI fun m As'' hm hI'=>ih m hm As'' hI' k (by omega)
  exact key n0 As h0 (n0+1) (by omega) w hw
theorem xbyte {s:ByteArray}{i:Int}{k:Nat}{b:UInt8}{K:Int→WP}(hi:i=(k:Int)) (hb:s.data.toList[k]? = some b) (h:Ent B As (K b.toNat)):Ent B As (XByte s i K):=fun w hw=>by
  subst hi
  refine ⟨b,by omega,?_,h w hw⟩
  rw [Int.toNat_natCast]
  obtain ⟨h1,h2⟩:=List.getElem?_eq_some_iff.1 hb
  have h1':k<s.data.size:=by simpa using h1
  show s.data[k]? = some b
  rw [Array.getElem?_eq_getElem h1']
  simpa using h2
theorem xstr {P:Program}{t d e:TypeId}{s:Sl}{xs:List UInt8}{K:ByteArray→WP} [r:RdA B As s U8 xs] (h0:0<xs.length) (hs:P.underlying t=some (.slice e)) (he:P.underlying e=some (.int .u8)) (hd:P.underlying d=some .string) (h:Ent B As (K ⟨xs.toArray⟩)) :
    Ent B As (XRun P (convert t d s.v) .str K):=by
  intro w hw
  obtain ⟨hn,_,hc⟩:=r.rd w hw
  obtain ⟨b,o,pre,post,e1,fr,hp,hb,ho⟩:=hc (by omega)
  obtain ⟨p,n,c⟩:=s
  simp only at hp hn
  subst hp hn
  refine ⟨⟨xs.toArray⟩,w,?_,h w hw⟩
  have hb':w.heap[b]? = some (.cells (pre++flat U8 xs++post).toArray e1 fr):=hb
  refine run_convert_bytes_back w t d e ⟨b,o,none⟩ c xs hs he hd fun j hj=>?_
  rw [add_none]
  simp only [World.cell?,hb']
  simp only [Option.isSome_none,Bool.false_eq_true,if_false,List.getElem?_toArray]
  have hl:=flat_length U8 xs
  have hsz:U8.sz=1:=rfl
  rw [List.append_assoc,List.getElem?_append_right (by omega),ho,Nat.add_sub_cancel_left,List.getElem?_append_left (by rw [hl,hsz];omega),flat_u8,List.getElem?_eq_getElem hj]
  rfl
end Go.Cf
namespace Go.Cf
open Go
set_option linter.unusedVariables false
def XBusy (l:Nat) (K:WP):WP:=fun w=>∃ r,w.heap[l]? = some (.loop r)∧r.state=.ready∧K (w.putObj l (.loop { r with state:=.busy }))
def XReady (l:Nat) (K:WP):WP:=fun w=>∃ r,w.heap[l]? = some (.loop r)∧K (w.putObj l (.loop { r with state:=.ready,pending:=none }))
def XEndLoop (l:Nat) (K:WP):WP:=fun w=>∃ r,w.heap[l]? = some (.loop r)∧r.state≠.busy∧r.pending=none∧K (w.putObj l (.loop { r with state:=.exhausted }))
def XTake (D:Nat) (K:WP):WP:=fun w=>w.heap[D]? = some (.deferred (some []))∧K (w.putObj D (.deferred none))
def RoundsAre (P:Program) (l:Nat) (rec:Loop) (np:Nat) (bodyF:Nat→List Value→WP→WP):Prop:=
  ∀ (args:List Value) (R:WP) (W:World),args.length=np→W.heap[l]? = some (.loop rec)→bodyF l args R W→YieldAt (FF none) 0 P l args.toArray W fun e W'=>e=.returned (.bool true)∧R W'
def XRF (P:Program) (g:FuncId) (cap:List Value) (np:Nat) (bodyF:Nat→List Value→WP→WP) (K:Nat→WP):WP:=fun w=>
  ∀ rec:Loop,rec.state=.ready→rec.pending=none→RoundsAre P (w.heap.size+1) rec np bodyF →
    XCall P g ([.func (.yield (w.heap.size+1)) #[] #[]]++cap) (.tup []) [] (XEndLoop (w.heap.size+1) (K w.heap.size)) ((w.alloc (.deferred (some []))).alloc (.loop rec))
def XRFV (P:Program) (v:Value) (np:Nat) (bodyF:Nat→List Value→WP→WP) (K:Nat→WP):WP:=
  match v with
  | .func (.func gf) first cap=>bif nilB (first.toList.map fun _=>0)&&hasBody P gf then XRF P gf cap.toList np bodyF K else bad
  | _=>bad
def wpRF (P:Program) (N:Nat) (dp:List Nat) (dr:List Oper→Env→(Env→WP)→WP) (g:Operand) (ps:List Nat) (assign body:Code) (ρ:Env) (K:Nat→WP):WP:=
  bif nodupN ps&&(ps.all fun t=>Nat.blt t N)&&hasOp ρ g then
    XRFV P (ev ρ g) ps.length (fun l args R=>wpC P N dp dr assign (zipE ps args ρ) (fun ρ'=>XBusy l (wpC P N dp dr body ρ' (fun _=>XReady l R) [] (fun _=>bad))) [] (fun _=>bad)) K
  else bad
section
variable {P:Program}{N:Nat}{dp:List Nat}{dr:List Oper→Env→(Env→WP)→WP}
theorem leavesC_true:∀ c:Code,LeavesC c fun _=>True:=by
  intro c
  induction c with
  | region _ ops _=>exact fun _ _ _ _ _=>trivial
  | seq a b iha ihb=>exact ⟨iha,ihb⟩
  | cond _ a b iha ihb=>exact ⟨iha,ihb⟩
  | block _ b ih=>exact ih
  | loop b ih=>exact ih
  | scope b ih=>exact ih
  | _=>trivial
theorem foldl_set_size (tmps:Array Value) (l:List (Nat×Value)):(l.foldl (fun t (p:Nat×Value)=>t.setIfInBounds p.1 p.2) tmps).size=tmps.size:=by
  induction l generalizing tmps with
  | nil=>rfl
  | cons p l ih=>rw [List.foldl_cons,ih,Array.size_setIfInBounds]
theorem foldl_set_out (l:List (Nat×Value)) (t:Nat) (h:∀ p∈l,p.1≠t) (tmps:Array Value):(l.foldl (fun t (p:Nat×Value)=>t.setIfInBounds p.1 p.2) tmps)[t]? = tmps[t]?:=by
  induction l generalizing tmps with
  | nil=>rfl
  | cons p l ih=>
    rw [List.foldl_cons,ih (fun q hq=>h q (List.mem_cons_of_mem _ hq)),Array.getElem?_setIfInBounds_ne (h p (List.mem_cons_self ..))]
theorem nodupN_cons {t:Nat}{l:List Nat}(h:nodupN (t::l)=true):t∉l∧nodupN l=true:=by
  simp only [nodupN,Bool.and_eq_true,Bool.not_eq_true'] at h
  exact ⟨fun hm=>(by rw [memN_iff.2 hm] at h;exact absurd h.1 (by decide)),h.2⟩
theorem fits_params {dl:List Deferred}{ρ:Env}{a:Act}(hf:Fits N dl ρ a):∀ (ps:List Nat) (args:List Value),nodupN ps=true→(∀ t∈ps,t<N)→args.length=ps.length →
    Fits N [] (zipE ps args ρ) { tmps:=(ps.zip args).foldl (fun t (p:Nat×Value)=>t.setIfInBounds p.1 p.2) a.tmps,defers:=[] }:=by
  intro ps args hn hlt hl
  refine ⟨by rw [foldl_set_size];exact hf.size,rfl,?_⟩
  have gen:∀ (ps:List Nat) (args:List Value) (tmps:Array Value),nodupN ps=true→(∀ t∈ps,t<N)→args.length=ps.length→N≤tmps.size →
      ∀ t,t∈ps→((ps.zip args).foldl (fun t (p:Nat×Value)=>t.setIfInBounds p.1 p.2) tmps)[t]? = some (gv (zipE ps args ρ) t):=by
    intro ps
    induction ps with
    | nil=>intro args tmps _ _ _ _ t ht;cases ht
    | cons p ps ih=>
      intro args tmps hn hlt hl hN t ht
      cases args with
      | nil=>simp at hl
      | cons v vs=>
        obtain ⟨hp,hn⟩:=nodupN_cons hn
        simp only [List.zip_cons_cons,List.foldl_cons,zipE,gv_cons]
        cases hbq:Nat.beq p t with
        | true=>
          obtain rfl:=Nat.eq_of_beq_eq_true hbq
          simp only [cond_true]
          rw [foldl_set_out _ _ (fun q hq e=>hp (by rw [←e];exact (List.of_mem_zip hq).1)),Array.getElem?_setIfInBounds_self_of_lt (by have:=hlt p (List.mem_cons_self ..);omega)]
        | false=>
          have hne:p≠t:=fun e=>by subst e;simp at hbq
          simp only [cond_false]
          exact ih vs _ hn (fun u hu=>hlt u (List.mem_cons_of_mem _ hu)) (by simpa using hl) (by simpa using hN) t ((List.mem_cons.1 ht).resolve_left (Ne.symm hne))
  intro t ht
  by_cases hm:t∈ps
  · exact gen ps args a.tmps hn hlt hl hf.size t hm
  · obtain ⟨h1,h2⟩:=zipE_out (ρ:=ρ) ps args (t:=t) (by rw [Bool.eq_false_iff];exact fun e=>hm (memN_iff.1 e))
    rw [h1] at ht
    rw [h2,foldl_set_out _ _ (fun q hq e=>hm (by rw [←e];exact (List.of_mem_zip hq).1))]
    exact hf.get t ht
theorem rf_sound (hng:NoGor P) (hdr:DrSound P N dr) {g:Operand}{ps:Array Tmp}{assign body:Code}{dl:List Deferred}{ρ:Env}{a:Act}{w:World}{K:Nat→WP}{Q:Exit→Act→World→Prop}
    (h:wpRF P N dp dr g ps.toList assign body ρ K w) (hf:Fits N dl ρ a) (hQ:∀ (D:Nat) a' w',Fits N ({ target:=.collected D,args:=#[] } :: dl) ρ a'→K D w'→Q .normal a' w') :
    (Code.rangeFunc g ps assign body).wpIn (FF none) 0 P Q a w:=by
  unfold wpRF at h
  obtain ⟨hc,h⟩:=of_bif_bad h
  simp only [Bool.and_eq_true,List.all_eq_true] at hc
  obtain ⟨⟨hnd,hlt⟩,hop⟩:=hc
  have hlt:∀ t∈ps.toList,t<N:=fun t ht=>by simpa [Nat.blt_eq] using hlt t ht
  have hg:=hf.eval hop
  unfold XRFV at h
  cases hv:ev ρ g<;>rw [hv] at h<;>try exact h.elim
  rename_i fv first cap
  cases fv<;>try exact h.elim
  rename_i gf
  simp only at h
  obtain ⟨hc,hX⟩:=of_bif_bad h
  clear h
  simp only [Bool.and_eq_true] at hc
  obtain ⟨hfirst,hbody⟩:=hc
  have hfe:first = #[]:=by
    cases hft:first.toList with
    | nil=>exact Array.toList_inj.1 (by rw [hft])
    | cons x xs=>rw [hft] at hfirst;exact absurd hfirst (by simp [nilB])
  subst hfe
  rw [hv] at hg
  have hcf:∀ args w,(callFunc gf args).run P w=.ok (.enter gf args) w:=by
    intro args w
    unfold hasBody at hbody
    cases hgf:P.funcs[gf]? with
    | none=>rw [hgf] at hbody;cases hbody
    | some fd=>
      rw [hgf] at hbody
      have hnm:=hng gf fd hgf
      have hbn:fd.body.isNone=false:=by cases hbb:fd.body<;>simp_all
      simp only [callFunc,Sem.run_bind,Sem.run_pure,Result.andThen_ok,run_program,hgf,hnm,hbn,Bool.false_eq_true,if_false]
  refine wpIn_rangeFunc (fun fn _=>?_)
  obtain ⟨rec,hrec⟩:∃ rec:Loop,rec={ state:=.ready,pending:=none,fn,tmps:=a.tmps,params:=ps,assign,body,defers:=w.heap.size }:=⟨_,rfl⟩
  refine ⟨w.heap.size+1,[{ target:=.collected w.heap.size,args:=#[] }],(w.alloc (.deferred (some []))).alloc (.loop rec),{ target:=.fn (.func gf) cap,args:=#[.func (.yield (w.heap.size+1)) #[] #[]] },
    (w.alloc (.deferred (some []))).alloc (.loop rec),gf,#[.func (.yield (w.heap.size+1)) #[] #[]]++cap,(w.alloc (.deferred (some []))).alloc (.loop rec),?_,?_,fun _ _=>trivial,?_,fun h=>(by cases h),?_⟩
  · rw [hrec];exact run_enterLoop_outer _ _ _ _ _
  · simp only [resolve,hg]
    simp [go_sem]
  · simp [invoke,go_sem,hcf]
  refine callsIn_ff.2 ?_
  have hx:=hX rec (by rw [hrec]) (by rw [hrec]) (by
    intro args R W hla hl hb
    have hy:=run_yield (P:=P) (args:=args.toArray) hl (by rw [hrec];simpa using hla)
    rw [hrec] at hy
    refine ⟨_,_,_,_,hy,roundIn_of_wpIn trivial ?_⟩
    have hfp:=fits_params hf ps.toList args hnd hlt hla
    have he:(ps.zip args.toArray).foldl (fun tmps (t,a)=>tmps.setIfInBounds t a) a.tmps=(ps.toList.zip args).foldl (fun t (p:Nat×Value)=>t.setIfInBounds p.1 p.2) a.tmps:=by
      rw [←Array.foldl_toList];simp
    show assign.wpIn (FF (some (w.heap.size+1))) 0 P _ _ W
    refine wpC_sound (dl:=[]) hng hdr assign (Fr:=fun _=>True) (fun _ _ _ _ hq=>hq.elim) hb (by rw [←he] at hfp;exact hfp) (leavesC_true _) trivial ?_ (fun _ _ _ _ _ _ h=>h.elim) (fun _ _ _ _ _ h=>h.elim)
    rintro ρ' a' w' hf' _ ⟨r,hr,hst,hb'⟩
    refine ⟨_,run_beginRound hr hst,?_⟩
    show body.wpIn (FF (some (w.heap.size+1))) 0 P _ _ _
    refine wpC_sound (dl:=[]) hng hdr body (Fr:=fun _=>True) (fun _ _ _ _ hq=>hq.elim) hb' hf' (leavesC_true _) trivial ?_ (fun _ _ _ _ _ _ h=>h.elim) (fun _ _ _ _ _ h=>h.elim)
    rintro ρ'' a'' w'' _ _ ⟨r',hr',hR⟩
    exact ⟨_,_,run_endRound none hr',rfl,hR⟩)
  unfold XCall at hx
  have e:([.func (.yield (w.heap.size+1)) #[] #[]]++cap.toList:List Value).toArray = #[.func (.yield (w.heap.size+1)) #[] #[]]++cap:=by apply Array.ext';simp
  rw [e] at hx
  refine Calls.mono hx ?_
  rintro _ W' ⟨t,rfl,r,hr,hst,hp,hK⟩
  refine ⟨r.pending,_,run_endLoop (P:=P) hr hst,?_⟩
  have key:=hQ _ { tmps:=a.tmps,defers:=[{ target:=.collected w.heap.size,args:=#[] }]++a.defers } _ ⟨hf.size,by show _::a.defers=_;rw [hf.defs],hf.get⟩ hK
  generalize r.pending=q at hp key ⊢
  subst hp
  exact key
def wpInL (P:Program):List Code→(Act→World→Prop)→(Exit→Act→World→Prop)→Act→World→Prop
  | [],M,_,a,w=>M a w
  | c::cs,M,Q,a,w=>c.wpIn (FF none) 0 P (Exit.then (wpInL P cs M Q) Q) a w
theorem wpInL_app (xs ys:List Code) (M:Act→World→Prop) (Q:Exit→Act→World→Prop):wpInL P (xs++ys) M Q=wpInL P xs (wpInL P ys M Q) Q:=by
  induction xs with
  | nil=>rfl
  | cons c cs ih=>funext a w;simp only [List.cons_append,wpInL,ih]
theorem wpIn_seqs:∀ (c:Code) (M:Act→World→Prop) (Q:Exit→Act→World→Prop) (a:Act) (w:World),wpInL P (seqs c) M Q a w→c.wpIn (FF none) 0 P (Exit.then M Q) a w:=by
  intro c
  induction c with
  | seq x y ihx ihy=>
    intro M Q a w h
    simp only [seqs] at h
    rw [wpInL_app] at h
    refine wpIn_seq (wpIn_mono (ihx _ Q a w h) ?_)
    rintro e a' w' hq
    cases e with
    | normal=>exact ihy M Q a' w' hq
    | _=>exact hq
  | _=>intro M Q a w h;exact h
theorem wpLs_sound (hng:NoGor P) (hdr:DrSound P N dr) {dl:List Deferred}:∀ (cs:List Code) {ρ:Env}{KN KR:Env→WP}{KX:List (Nat×(Env→WP))}{a:Act}{w:World}{M:Act→World→Prop}{Q:Exit→Act→World→Prop},
    wpLs P N dp dr cs ρ KN KX KR w→Fits N dl ρ a→(∀ ρ' a' w',Fits N dl ρ' a'→KN ρ' w'→M a' w')→(∀ id ρ' a' w',Fits N dl ρ' a'→getX id KX ρ' w'→Q (.exit id) a' w') →
    (∀ ρ' a' w',Fits N dl ρ' a'→KR ρ' w'→Q .ret a' w')→wpInL P cs M Q a w:=by
  intro cs
  induction cs with
  | nil=>intro ρ KN KR KX a w M Q h hf hN _ _;exact hN _ _ _ hf h
  | cons c cs ih=>
    intro ρ KN KR KX a w M Q h hf hN hX hR
    refine wpC_sound (rn:=none) hng hdr c (Fr:=fun _=>True) (fun _ _ _ _ hq=>hq.elim) h hf (leavesC_true _) trivial ?_ ?_ ?_
    · intro ρ' a' w' hf' _ h';exact ih h' hf' hN hX hR
    · intro id ρ' a' w' hf' _ h';exact hX id ρ' a' w' hf' h'
    · intro ρ' a' w' hf' _ h';exact hR ρ' a' w' hf' h'
theorem results_of {fn:Func}{ρ:Env}{a:Act}{dl:List Deferred}{R:Cur (rsOfTypes P fn.resultTypes.toList).2}{w':World}(hl:fn.results.toList.length=fn.resultTypes.toList.length) (hf':Fits fn.ntmps dl ρ a)
    (h':wpRet P fn _ R ρ w'):∃ v t,(results fn a.tmps).run P w'=.ok v w'∧v=(rsOfTypes P fn.resultTypes.toList).1.mk (Tup.vals _ t)∧Cur.app _ R t w':=by
  obtain ⟨vs,cs,hm,hfl,hk⟩:=wpRes_run hf' _ _ _ _ _ hl h'
  obtain ⟨t,ht,hk⟩:=Cur.appV_app _ _ _ _ hk
  refine ⟨_,t,?_,rfl,hk⟩
  simp only [List.nil_append] at ht
  rw [ht,rs_mk hfl]
  have gen:∀ g:ResultVar→Sem Value,(∀ r,g r=resOf a.tmps r) →
      (do let vs ← fn.results.mapM g;pure (if h:vs.size=1 then vs[0] else .tuple vs):Sem Value).run P w'=.ok (if h:vs.toArray.size=1 then vs.toArray[0] else .tuple vs.toArray) w':=by
    intro g hg
    obtain rfl:g=resOf a.tmps:=funext hg
    rw [Array.mapM_eq_mapM_toList]
    simp only [Sem.run_bind,Sem.run_map,hm,Result.andThen_ok,Sem.run_pure]
  exact gen _ fun r=>by cases r<;>rfl
def rfAssign (fn:Func) (k:Nat):Code:=match fn.body with
  | some c=>(match (seqs c)[k]? with
    | some (.block _ (.rangeFunc _ _ a _))=>a
    | _=>.skip)
  | none=>.skip
def rfBody (fn:Func) (k:Nat):Code:=match fn.body with
  | some c=>(match (seqs c)[k]? with
    | some (.block _ (.rangeFunc _ _ _ b))=>b
    | _=>.skip)
  | none=>.skip
def rfPs (fn:Func) (k:Nat):List Nat:=match fn.body with
  | some c=>(match (seqs c)[k]? with
    | some (.block _ (.rangeFunc _ ps _ _))=>ps.toList
    | _=>[])
  | none=>[]
def wpFR (P:Program) (dp:List Nat) (dr:Nat→List Oper→Env→(Env→WP)→WP) (fn:Func) (k:Nat) (args:List Value) (ss:List Sh) (R:Cur ss):WP:=
  match fn.body with
  | none=>bad
  | some c=>bif Nat.beq fn.results.toList.length fn.resultTypes.toList.length&&Nat.ble args.length fn.ntmps then
      (match (seqs c)[k]? with
      | some (.block id (.rangeFunc g ps assign body))=>
        wpLs P fn.ntmps dp (dr fn.ntmps) ((seqs c).take k) (argsE args 0) (fun ρ=>wpRF P fn.ntmps dp (dr fn.ntmps) g ps.toList assign body ρ fun D=>
          wpLs P fn.ntmps dp (dr fn.ntmps) ((seqs c).drop (k+1)) ρ (fun ρ'=>XTake D (wpRet P fn ss R ρ')) [] (fun ρ'=>XTake D (wpRet P fn ss R ρ'))) [] (fun ρ'=>wpRet P fn ss R ρ')
      | _=>bad)
    else bad
theorem xcall_rf (hng:NoGor P) (hm:P.follows .mixedOrders=true) {f:FuncId}{fn:Func}(hf:P.funcs[f]? = some fn) {dp:List Nat}{k:Nat}{args:List Value}{rs:Rs}{ss:List Sh}
    (hrs:rsOfTypes P fn.resultTypes.toList=(rs,ss)) {K:Cur ss}{w:World}(h:wpFR P dp (wpDr P fn) fn k args ss K w):XCall P f args rs ss K w:=by
  obtain ⟨rfl,rfl⟩:(rsOfTypes P fn.resultTypes.toList).1=rs∧(rsOfTypes P fn.resultTypes.toList).2=ss:=by rw [hrs];exact ⟨rfl,rfl⟩
  unfold wpFR at h
  cases hb:fn.body with
  | none=>rw [hb] at h;exact h.elim
  | some c=>
  rw [hb] at h
  simp only at h
  obtain ⟨hc,h⟩:=of_bif_bad h
  simp only [Bool.and_eq_true] at hc
  have hl:=Nat.eq_of_beq_eq_true hc.1
  have hle:=Nat.le_of_ble_eq_true hc.2
  cases hk:(seqs c)[k]? with
  | none=>rw [hk] at h;exact h.elim
  | some x=>
    rw [hk] at h
    cases x<;>try exact h.elim
    rename_i id c1
    cases c1<;>try exact h.elim
    rename_i g ps assign body
    simp only at h
    have hsp:seqs c=(seqs c).take k++(.block id (.rangeFunc g ps assign body))::(seqs c).drop (k+1):=by
      obtain ⟨hlt,e⟩:=List.getElem?_eq_some_iff.1 hk
      conv=>lhs;rw [←List.take_append_drop k (seqs c),List.drop_eq_getElem_cons hlt,e]
    unfold XCall
    refine (callsIn_ff (rn:=none) (n:=0)).1 (callsIn_of_wp_marks hf hb trivial ?_)
    have fits:Fits fn.ntmps [] (argsE args 0) { tmps:=args.toArray++Array.replicate (fn.ntmps - args.toArray.size) undef,defers:=[] }:=by
      refine ⟨by simp;omega,rfl,fun t ht=>?_⟩
      obtain ⟨j,hj,hv⟩:=has_argsE args 0 t ht
      have hj':t=j:=by omega
      subst hj'
      have hlt:t<args.length:=(List.getElem?_eq_some_iff.1 hv).1
      rw [Array.getElem?_append_left (by simpa using hlt)]
      simpa using hv
    have hdr:=drSound hng hm fn fn.ntmps
    refine wpIn_mono (wpIn_seqs c (bodyPostM (FF none) 0 P fn _ .normal) (bodyPostM (FF none) 0 P fn _) _ _ ?_) (fun e a' w' hq=>by cases e<;>exact hq)
    rw [hsp,wpInL_app]
    refine wpLs_sound hng hdr _ h fits ?_ (fun _ _ _ _ _ h=>h.elim) (fun ρ3 a3 w3 hf3 h3=>by
      show LeavesInM (FF none) 0 P fn a3.tmps _ a3.defers .returning w3
      rw [hf3.defs]
      obtain ⟨v,t,hv,rfl,hk⟩:=results_of hl hf3 h3
      exact ⟨_,hv,t,rfl,hk⟩)
    intro ρ' a' w' hf' h'
    show Code.wpIn _ _ _ _ _ _ _
    refine wpIn_block ?_
    refine rf_sound hng hdr h' hf' ?_
    intro D a'' w'' hf'' h''
    have fin:∀ ρ3 a3 w3,Fits fn.ntmps ({ target:=.collected D,args:=#[] } :: []) ρ3 a3→XTake D (wpRet P fn _ K ρ3) w3 →
        LeavesInM (FF none) 0 P fn a3.tmps (fun e w'=>∃ t,e=.returned ((rsOfTypes P fn.resultTypes.toList).1.mk (Tup.vals _ t))∧Cur.app _ K t w') a3.defers .returning w3:=by
      rintro ρ3 a3 w3 hf3 ⟨hD,hR⟩
      rw [hf3.defs]
      obtain ⟨v,t,hv,rfl,hk⟩:=results_of hl hf3 hR
      exact ⟨by simp,.inl ⟨D,_,rfl,run_takeDeferred hD,_,hv,t,rfl,hk⟩⟩
    show wpInL P _ _ _ a'' w''
    exact wpLs_sound hng hdr _ h'' hf'' (fun ρ3 a3 w3 hf3 h3=>fin ρ3 a3 w3 hf3 h3) (fun _ _ _ _ _ h=>h.elim) (fun ρ3 a3 w3 hf3 h3=>fin ρ3 a3 w3 hf3 h3)
end
section
variable {B:Base}{As F:List HP}
end
end Go.Cf
