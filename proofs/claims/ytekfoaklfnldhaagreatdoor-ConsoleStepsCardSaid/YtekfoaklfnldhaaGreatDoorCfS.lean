/-
  Memory in pieces: what a state of a call holds, and what each formula makes of it.
-/
import Derived.Test.YtekfoaklfnldhaaGreatDoorCfH
import Derived.Below
namespace Go.Cf
open Go

/-- A piece of memory, by blocks. -/
abbrev Frag := Nat → Option Obj
abbrev HP := Frag → Prop

def Sub (h g : Frag) : Prop := ∀ k o, h k = some o → g k = some o
def Dis (h g : Frag) : Prop := ∀ k, h k = none ∨ g k = none
abbrev mem (w : World) : Frag := fun k => w.heap[k]?

theorem Sub.refl (h : Frag) : Sub h h := fun _ _ e => e
theorem Sub.trans {a b c : Frag} (h : Sub a b) (k : Sub b c) : Sub a c := fun i o e => k i o (h i o e)
theorem Dis.symm {a b : Frag} (h : Dis a b) : Dis b a := fun k => (h k).symm
theorem Dis.sub {a a' b b' : Frag} (h : Dis a b) (ha : Sub a' a) (hb : Sub b' b) : Dis a' b' := fun k => by
  rcases h k with e | e
  · left
    cases ha' : a' k with
    | none => rfl
    | some o => rw [ha k o ha'] at e; cases e
  · right
    cases hb' : b' k with
    | none => rfl
    | some o => rw [hb k o hb'] at e; cases e

def uni (h g : Frag) : Frag := fun k => match h k with
  | some o => some o
  | none => g k

theorem sub_uni_left (h g : Frag) : Sub h (uni h g) := fun k o e => by simp [uni, e]
theorem sub_uni_right {h g : Frag} (d : Dis h g) : Sub g (uni h g) := fun k o e => by
  rcases d k with e' | e'
  · simp [uni, e', e]
  · rw [e] at e'; cases e'
theorem uni_sub {h g f : Frag} (a : Sub h f) (b : Sub g f) : Sub (uni h g) f := fun k o e => by
  unfold uni at e
  cases hk : h k with
  | some o' => rw [hk] at e; exact a k o (by rw [hk]; exact e)
  | none => rw [hk] at e; exact b k o e
theorem uni_none {h g : Frag} {k : Nat} : uni h g k = none ↔ h k = none ∧ g k = none := by
  unfold uni
  cases h k <;> simp
theorem dis_uni {a h g : Frag} (x : Dis a h) (y : Dis a g) : Dis a (uni h g) := fun k => by
  rcases x k with e | e
  · exact .inl e
  · rcases y k with e' | e'
    · exact .inl e'
    · exact .inr (uni_none.2 ⟨e, e'⟩)

/-- All of these, apart. -/
def star : List HP → HP
  | [] => fun _ => True
  | P :: Ps => fun h => ∃ h1 h2, P h1 ∧ star Ps h2 ∧ Dis h1 h2 ∧ Sub h1 h ∧ Sub h2 h

theorem star_mono : ∀ (l : List HP) {h g : Frag}, star l h → Sub h g → star l g := by
  intro l
  cases l with
  | nil => intro h g _ _; trivial
  | cons P l => rintro h g ⟨a, b, pa, pb, d, sa, sb⟩ s; exact ⟨a, b, pa, pb, d, sa.trans s, sb.trans s⟩

theorem star_swap {P Q : HP} {l : List HP} {h : Frag} (hs : star (P :: Q :: l) h) : star (Q :: P :: l) h := by
  obtain ⟨a, b, pa, ⟨c, d, pc, pd, dcd, sc, sd⟩, dab, sa, sb⟩ := hs
  refine ⟨c, uni a d, pc, ⟨a, d, pa, pd, dab.sub (Sub.refl _) sd, sub_uni_left _ _, sub_uni_right (dab.sub (Sub.refl _) sd)⟩, ?_, sc.trans sb, uni_sub sa (sd.trans sb)⟩
  exact dis_uni (dab.sub (Sub.refl _) sc).symm dcd

theorem star_cons {P : HP} {l l' : List HP} (h : ∀ g, star l g → star l' g) {g : Frag} (hs : star (P :: l) g) : star (P :: l') g := by
  obtain ⟨a, b, pa, pb, d, sa, sb⟩ := hs
  exact ⟨a, b, pa, h _ pb, d, sa, sb⟩

theorem star_perm {l l' : List HP} (p : l.Perm l') : ∀ {h : Frag}, star l h → star l' h := by
  induction p with
  | nil => exact fun h => h
  | cons x _ ih => exact fun h => star_cons (fun g hg => ih hg) h
  | swap x y l => exact fun h => star_swap h
  | trans _ _ ih1 ih2 => exact fun h => ih2 (ih1 h)

theorem star_imp {P Q : HP} {l : List HP} (h : ∀ g, P g → Q g) {g : Frag} (hs : star (P :: l) g) : star (Q :: l) g := by
  obtain ⟨a, b, pa, pb, d, sa, sb⟩ := hs
  exact ⟨a, b, h _ pa, pb, d, sa, sb⟩

theorem star_append : ∀ (l l' : List HP) {h : Frag}, star (l ++ l') h ↔ ∃ a b, star l a ∧ star l' b ∧ Dis a b ∧ Sub a h ∧ Sub b h := by
  intro l
  induction l with
  | nil =>
    intro l' h
    constructor
    · exact fun hs => ⟨fun _ => none, h, trivial, hs, fun _ => .inl rfl, fun _ _ e => (by cases e), Sub.refl _⟩
    · rintro ⟨a, b, _, hb, _, _, sb⟩; exact star_mono _ hb sb
  | cons P l ih =>
    intro l' h
    constructor
    · rintro ⟨a, b, pa, pb, d, sa, sb⟩
      obtain ⟨c, e, pc, pe, dce, sc, se⟩ := (ih l').1 pb
      refine ⟨uni a c, e, ⟨a, c, pa, pc, d.sub (Sub.refl _) sc, sub_uni_left _ _, sub_uni_right (d.sub (Sub.refl _) sc)⟩, pe, ?_, uni_sub sa (sc.trans sb), se.trans sb⟩
      exact (dis_uni (d.sub (Sub.refl _) se).symm dce.symm).symm
    · rintro ⟨a, b, ⟨c, e, pc, pe, dce, sc, se⟩, pb, d, sa, sb⟩
      refine ⟨c, uni e b, pc, (ih l').2 ⟨e, b, pe, pb, d.sub se (Sub.refl _), sub_uni_left _ _, sub_uni_right (d.sub se (Sub.refl _))⟩, ?_, sc.trans sa, uni_sub (se.trans sa) sb⟩
      exact dis_uni dce (d.sub sc (Sub.refl _))

/-- Where a call begins: the world, and the piece of it that is the call's own. -/
structure Base where
  W : World
  h0 : Frag

structure Upd (B : Base) (h : Frag) (w : World) : Prop where
  os : w.os = B.W.os
  tape : w.tape = B.W.tape
  output : w.output = B.W.output
  drawn : 0 ≤ w.drawn
  size : B.W.heap.size ≤ w.heap.size
  old : ∀ k, k < B.W.heap.size → B.h0 k = none → w.heap[k]? = B.W.heap[k]? ∧ h k = none

def Sx (B : Base) (As : List HP) (w : World) : Prop := ∃ h, star As h ∧ Sub h (mem w) ∧ Upd B h w

def Ent (B : Base) (As : List HP) (φ : WP) : Prop := ∀ w, Sx B As w → φ w

variable {B : Base} {As : List HP}

theorem Sx.perm {As' : List HP} {w : World} (h : Sx B As w) (p : As.Perm As') : Sx B As' w := by
  obtain ⟨g, hs, hsub, hu⟩ := h
  exact ⟨g, star_perm p hs, hsub, hu⟩

theorem Ent.perm {As' : List HP} {φ : WP} (p : As.Perm As') (h : Ent B As' φ) : Ent B As φ := fun w hw => h w (hw.perm p)

theorem Sx.drew {w : World} (h : Sx B As w) : Sx B As w.drew := by
  obtain ⟨g, hs, hsub, hu⟩ := h
  exact ⟨g, hs, hsub, hu.os, hu.tape, hu.output, Nat.le_succ_of_le hu.drawn, hu.size, hu.old⟩

theorem Sx.head {P : HP} {w : World} (h : Sx B (P :: As) w) : ∃ g, P g ∧ Sub g (mem w) := by
  obtain ⟨g, ⟨a, b, pa, _, _, sa, _⟩, hsub, _⟩ := h
  exact ⟨a, pa, sa.trans hsub⟩

/-! Blocks that are known cell by cell. -/
def Blk (b : Nat) (cs : List Value) : HP := fun h => ∃ e fr, h b = some (.cells cs.toArray e fr) ∧ ∀ i, i < cs.length → ¬ (fr.1 ≤ i ∧ i < fr.2)

class Own (b : Nat) (As : List HP) (cs : outParam (List Value)) (upd : outParam (List Value → List HP)) (rest : outParam (List HP)) : Prop where
  eq : As = upd cs
  perm : ∀ c, (upd c).Perm (Blk b c :: rest)

instance Own.head (b : Nat) (cs : List Value) (As : List HP) : Own b (Blk b cs :: As) cs (fun c => Blk b c :: As) As := ⟨rfl, fun _ => List.Perm.refl _⟩
instance Own.tail (b : Nat) (A : HP) (As : List HP) (cs : List Value) (upd : List Value → List HP) (rest : List HP) [o : Own b As cs upd rest] : Own b (A :: As) cs (fun c => A :: upd c) (A :: rest) :=
  ⟨by rw [← o.eq], fun c => ((o.perm c).cons A).trans (List.Perm.swap _ _ _)⟩

theorem Blk.world {b : Nat} {cs : List Value} {h : Frag} {w : World} (hb : Blk b cs h) (hs : Sub h (mem w)) : ∃ e fr, w.heap[b]? = some (.cells cs.toArray e fr) ∧ ∀ i, i < cs.length → ¬ (fr.1 ≤ i ∧ i < fr.2) := by
  obtain ⟨e, fr, hb, hf⟩ := hb
  exact ⟨e, fr, hs _ _ hb, hf⟩

theorem Sx.own {b : Nat} {cs : List Value} {upd : List Value → List HP} {rest : List HP} [o : Own b As cs upd rest] {w : World} (h : Sx B As w) : Sx B (Blk b cs :: rest) w :=
  h.perm (by rw [o.eq]; exact o.perm cs)

theorem xget {b : Nat} {cs : List Value} {upd : List Value → List HP} {rest : List HP} [o : Own b As cs upd rest] {off : Nat} {s : Sh} {x : s.ty} {K : s.ty → WP} (hv : cs[off]? = some (s.mk x) := by rfl) (h : Ent B As (K x)) : Ent B As (XGet s ⟨b, off, none⟩ K) := by
  intro w hw
  obtain ⟨g, hg, hs⟩ := (hw.own (b := b)).head
  obtain ⟨e, fr, hb, _⟩ := hg.world hs
  refine ⟨x, ?_, h w hw⟩
  simp only [World.cell?, hb]
  simpa using hv

theorem xchk {b : Nat} {cs : List Value} {upd : List Value → List HP} {rest : List HP} [o : Own b As cs upd rest] {off : Nat} {v : Value} {K : WP} (hv : cs[off]? = some v := by rfl) (h : Ent B As K) : Ent B As (XChk ⟨b, off, none⟩ v K) := by
  intro w hw
  obtain ⟨g, hg, hs⟩ := (hw.own (b := b)).head
  obtain ⟨e, fr, hb, _⟩ := hg.world hs
  refine ⟨?_, h w hw⟩
  simp only [World.cell?, hb]
  simpa using hv

class LSet (l : List Value) (i : Nat) (v : Value) (l' : outParam (List Value)) : Prop where
  eq : l' = l.set i v
  lt : i < l.length
instance LSet.zero (a v : Value) (l : List Value) : LSet (a :: l) 0 v (v :: l) := ⟨rfl, by simp⟩
instance LSet.succ (a v : Value) (l l' : List Value) (i : Nat) [h : LSet l i v l'] : LSet (a :: l) (i + 1) v (a :: l') := ⟨by rw [h.eq]; rfl, by have := h.lt; simp; omega⟩

/-- The heap is as long as it was, and no draw is taken back. -/
def Szd (w w' : World) : Prop := w'.heap.size = w.heap.size ∧ w.drawn ≤ w'.drawn

/-- A block that is one's own is given another content. -/
theorem Sx.write {b : Nat} {cs cs' : List Value} {rest : List HP} {w : World} {e : TypeId} {fr : Nat × Nat} (h : Sx B (Blk b cs :: rest) w) {w' : World} (hw : w.heap[b]? = some (.cells cs.toArray e fr))
    (hn : ∀ k, k ≠ b → w'.heap[k]? = w.heap[k]?) (hb : w'.heap[b]? = some (.cells cs'.toArray e fr)) (hl : cs'.length = cs.length) (hos : w'.os = w.os) (ht : w'.tape = w.tape) (ho : w'.output = w.output) (hsz : Szd w w') :
    Sx B (Blk b cs' :: rest) w' := by
  obtain ⟨g, ⟨h1, h2, p1, p2, d, s1, s2⟩, hsub, hu⟩ := h
  obtain ⟨e1, fr1, q1, f1⟩ := p1
  have hq := hsub _ _ (s1 _ _ q1)
  have heq : e1 = e ∧ fr1 = fr := by
    have : (Obj.cells cs.toArray e1 fr1) = .cells cs.toArray e fr := by
      have := hq.symm.trans hw
      simpa using this
    simpa using this
  obtain ⟨rfl, rfl⟩ := heq
  have h2b : h2 b = none := by
    rcases d b with e | e
    · rw [q1] at e; cases e
    · exact e
  have hB : ∀ k, k < B.W.heap.size → B.h0 k = none → k ≠ b := fun k hk h0 e => by
    subst e
    have := (hu.old k hk h0).2
    rw [s1 _ _ q1] at this; cases this
  refine ⟨uni (fun k => if k = b then some (.cells cs'.toArray e1 fr1) else none) h2, ?_, ?_, ?_⟩
  · refine ⟨_, h2, ⟨e1, fr1, by simp, fun i hi => f1 i (by omega)⟩, p2, fun k => ?_, sub_uni_left _ _, sub_uni_right fun k => ?_⟩ <;>
    · by_cases e : k = b
      · subst e; exact .inr h2b
      · exact .inl (by simp [e])
  · refine uni_sub (fun k o ho => ?_) (fun k o ho => ?_)
    · by_cases e : k = b
      · subst e
        simp only [if_true, Option.some.injEq] at ho
        rw [← ho]; exact hb
      · simp [e] at ho
    · have hk : k ≠ b := fun e => by subst e; rw [h2b] at ho; cases ho
      show w'.heap[k]? = some o
      rw [hn k hk]
      exact hsub _ _ (s2 _ _ ho)
  · refine ⟨by rw [hos, hu.os], by rw [ht, hu.tape], by rw [ho, hu.output], Nat.le_trans hu.drawn hsz.2, by rw [hsz.1]; exact hu.size, fun k hk h0 => ?_⟩
    have hkb := hB k hk h0
    have := hu.old k hk h0
    refine ⟨by rw [hn k hkb]; exact this.1, uni_none.2 ⟨by simp [hkb], ?_⟩⟩
    cases h2k : h2 k with
    | none => rfl
    | some o => rw [s2 _ _ h2k] at this; cases this.2

theorem setCell_heap (w : World) (b off : Nat) (v : Value) (k : Nat) (h : k ≠ b) : (w.setCell ⟨b, off, none⟩ v).heap[k]? = w.heap[k]? := by
  simp only [World.setCell]
  rw [Array.getElem?_modify]
  simp [Ne.symm h]

theorem setCell_self (w : World) (b off : Nat) (v : Value) {cs : List Value} {e : TypeId} {fr : Nat × Nat} (h : w.heap[b]? = some (.cells cs.toArray e fr)) : (w.setCell ⟨b, off, none⟩ v).heap[b]? = some (.cells (cs.set off v).toArray e fr) := by
  simp only [World.setCell]
  rw [Array.getElem?_modify]
  simp [h]

theorem xset_gen {b : Nat} {cs : List Value} {rest : List HP} {off : Nat} {v : Value} {K : WP} {As' : List HP} (hp : As.Perm (Blk b cs :: rest)) (hlt : off < cs.length) (hv : v.oneCell' = true)
    (hp' : (Blk b (cs.set off v) :: rest).Perm As') (h : Ent B As' K) : Ent B As (XSet ⟨b, off, none⟩ v K) := by
  intro w hw
  have hw1 := hw.perm hp
  obtain ⟨g, hg, hs⟩ := hw1.head
  obtain ⟨e, fr, hb, hf⟩ := hg.world hs
  refine ⟨⟨cs[off], by simp [World.cell?, hb, hlt]⟩, ?_, hv, h _ ((hw1.write (cs' := cs.set off v) hb (fun k hk => setCell_heap w b off v k hk) (setCell_self w b off v hb) (by simp) rfl rfl rfl ⟨by simp, Nat.le_refl _⟩).perm hp')⟩
  simp only [World.frozen?, hb, Bool.and_eq_false_iff, decide_eq_false_iff_not]
  have := hf off hlt
  omega

theorem xset {b : Nat} {cs cs' : List Value} {upd : List Value → List HP} {rest : List HP} [o : Own b As cs upd rest] {off : Nat} {v : Value} {K : WP} [l : LSet cs off v cs'] (hv : v.oneCell' = true := by rfl)
    (h : Ent B (upd cs') K) : Ent B As (XSet ⟨b, off, none⟩ v K) := by
  refine xset_gen (cs := cs) (rest := rest) (by rw [o.eq]; exact o.perm cs) l.lt hv ?_ h
  rw [l.eq]
  exact (o.perm _).symm

/-- A new block. -/
theorem Sx.allocQ {w : World} (h : Sx B As w) {cs : List Value} {e : TypeId} {Q : HP} (hQ : Q (fun k => if k = w.heap.size then some (Obj.cells cs.toArray e) else none)) : Sx B (Q :: As) (w.alloc (.cells cs.toArray e)) := by
  obtain ⟨g, hs, hsub, hu⟩ := h
  have hg : g w.heap.size = none := by
    cases hh : g w.heap.size with
    | none => rfl
    | some o => have := hsub _ _ hh; simp [mem] at this
  have hd : Dis (fun k => if k = w.heap.size then some (Obj.cells cs.toArray e) else none) g := fun k => by
    by_cases he : k = w.heap.size
    · subst he; exact .inr hg
    · exact .inl (by simp [he])
  refine ⟨uni (fun k => if k = w.heap.size then some (Obj.cells cs.toArray e) else none) g, ⟨_, g, hQ, hs, hd, sub_uni_left _ _, sub_uni_right hd⟩, ?_, ?_⟩
  · refine uni_sub (fun k o ho => ?_) (fun k o ho => ?_)
    · by_cases he : k = w.heap.size
      · subst he
        simp only [if_true, Option.some.injEq] at ho
        rw [← ho]
        show (w.heap.push _)[w.heap.size]? = _
        simp
      · simp [he] at ho
    · have h1 := hsub _ _ ho
      have hlt : k < w.heap.size := (Array.getElem?_eq_some_iff.1 h1).1
      show (w.heap.push _)[k]? = some o
      rw [Array.getElem?_push_lt hlt, ← h1]
      exact (Array.getElem?_eq_getElem hlt).symm
  · refine ⟨hu.os, hu.tape, hu.output, hu.drawn, by have := hu.size; simp; omega, fun k hk h0 => ?_⟩
    have hlt : k < w.heap.size := Nat.lt_of_lt_of_le hk hu.size
    have := hu.old k hk h0
    refine ⟨?_, uni_none.2 ⟨by simp; omega, this.2⟩⟩
    show (w.heap.push _)[k]? = _
    rw [Array.getElem?_push_lt hlt, ← this.1]
    exact (Array.getElem?_eq_getElem hlt).symm

theorem Sx.alloc {w : World} (h : Sx B As w) (cs : List Value) (e : TypeId) : Sx B (Blk w.heap.size cs :: As) (w.alloc (.cells cs.toArray e)) :=
  h.allocQ ⟨e, (0, 0), by simp, fun i _ h => by simp at h⟩

theorem xnew {cs : List Value} {e : TypeId} {K : Nat → WP} (h : ∀ b, Ent B (Blk b cs :: As) (K b)) : Ent B As (XNew cs e K) := fun _ hw => h _ _ (hw.alloc cs e)

theorem xif {b : Bool} {X Y : WP} (h1 : b = true → Ent B As X) (h2 : b = false → Ent B As Y) : Ent B As (XIf b X Y) := fun w hw => ⟨fun e => h1 e w hw, fun e => h2 e w hw⟩
theorem xif_dec {p : Prop} [Decidable p] {X Y : WP} (h1 : p → Ent B As X) (h2 : ¬ p → Ent B As Y) : Ent B As (XIf (decide p) X Y) := xif (fun e => h1 (of_decide_eq_true e)) (fun e => h2 (of_decide_eq_false e))
theorem xand {X Y : WP} (h1 : Ent B As X) (h2 : Ent B As Y) : Ent B As (XAnd X Y) := fun w hw => ⟨h1 w hw, h2 w hw⟩
theorem xift {b : Bool} {X Y : WP} (hb : b = true) (h : Ent B As X) : Ent B As (XIf b X Y) := xif (fun _ => h) (fun e => by rw [hb] at e; cases e)
theorem xiff {b : Bool} {X Y : WP} (hb : b = false) (h : Ent B As Y) : Ent B As (XIf b X Y) := xif (fun e => by rw [hb] at e; cases e) (fun _ => h)
theorem xasrt {p : Prop} {K : WP} (hp : p) (h : Ent B As K) : Ent B As (XAsrt p K) := fun w hw => ⟨hp, h w hw⟩
theorem xnil {a : Addr} {K : Addr → WP} (h : Ent B As (K a)) : Ent B As (XNil (some a) K) := fun w hw => ⟨a, rfl, h w hw⟩
theorem xdraw {K : WP} (h : Ent B As K) : Ent B As (XDraw K) := fun _ hw => h _ hw.drew
theorem xjoin {ss : List Sh} {body : Cur ss → WP} {rest : Cur ss} (h : Ent B As (body rest)) : Ent B As (XJoin ss body rest) := h

/-- A join with what holds there. -/
theorem xjoin1 {s : Sh} {body : (s.ty → WP) → WP} {rest : s.ty → WP} (J : s.ty → List HP → Prop) (h1 : ∀ K : s.ty → WP, (∀ x As', J x As' → Ent B As' (K x)) → Ent B As (body K)) (h2 : ∀ x As', J x As' → Ent B As' (rest x)) :
    Ent B As (XJoin [s] body rest) := h1 rest h2
theorem xjoin0 {body : WP → WP} {rest : WP} (J : List HP → Prop) (h1 : ∀ K : WP, (∀ As', J As' → Ent B As' K) → Ent B As (body K)) (h2 : ∀ As', J As' → Ent B As' rest) :
    Ent B As (XJoin [] body rest) := h1 rest h2

/-- A loop: what holds at its head, with a number that falls. -/
theorem xloop1 {s : Sh} {body : (s.ty → WP) → s.ty → WP} {x0 : s.ty} (I : Nat → s.ty → List HP → Prop) (n0 : Nat) (h0 : I n0 x0 As)
    (round : ∀ n x As' (K : s.ty → WP), I n x As' → (∀ m y As'', m < n → I m y As'' → Ent B As'' (K y)) → Ent B As' (body K x)) : Ent B As (XLoop [s] body x0) := by
  intro w hw
  refine ⟨n0 + 1, ?_⟩
  have key : ∀ n x As', I n x As' → ∀ k, n < k → Ent B As' (Cur.app [s] (rounds [s] body k) (x, ())) := by
    intro n
    induction n using Nat.strongRecOn with
    | _ n ih =>
      intro x As' hI k hk
      cases k with
      | zero => omega
      | succ k => exact round n x As' (rounds [s] body k) hI fun m y As'' hm hI' => ih m hm y As'' hI' k (by omega)
  exact key n0 x0 As h0 (n0 + 1) (by omega) w hw

theorem xloop2 {s t : Sh} {body : (s.ty → t.ty → WP) → s.ty → t.ty → WP} {x0 : s.ty} {y0 : t.ty} (I : Nat → s.ty → t.ty → List HP → Prop) (n0 : Nat) (h0 : I n0 x0 y0 As)
    (round : ∀ n x y As' (K : s.ty → t.ty → WP), I n x y As' → (∀ m x' y' As'', m < n → I m x' y' As'' → Ent B As'' (K x' y')) → Ent B As' (body K x y)) : Ent B As (XLoop [s, t] body x0 y0) := by
  intro w hw
  refine ⟨n0 + 1, ?_⟩
  have key : ∀ n x y As', I n x y As' → ∀ k, n < k → Ent B As' (Cur.app [s, t] (rounds [s, t] body k) (x, y, ())) := by
    intro n
    induction n using Nat.strongRecOn with
    | _ n ih =>
      intro x y As' hI k hk
      cases k with
      | zero => omega
      | succ k => exact round n x y As' (rounds [s, t] body k) hI fun m x' y' As'' hm hI' => ih m hm x' y' As'' hI' k (by omega)
  exact key n0 x0 y0 As h0 (n0 + 1) (by omega) w hw

theorem xloop3 {s t u : Sh} {body : (s.ty → t.ty → u.ty → WP) → s.ty → t.ty → u.ty → WP} {x0 : s.ty} {y0 : t.ty} {z0 : u.ty} (I : Nat → s.ty → t.ty → u.ty → List HP → Prop) (n0 : Nat) (h0 : I n0 x0 y0 z0 As)
    (round : ∀ n x y z As' (K : s.ty → t.ty → u.ty → WP), I n x y z As' → (∀ m x' y' z' As'', m < n → I m x' y' z' As'' → Ent B As'' (K x' y' z')) → Ent B As' (body K x y z)) : Ent B As (XLoop [s, t, u] body x0 y0 z0) := by
  intro w hw
  refine ⟨n0 + 1, ?_⟩
  have key : ∀ n x y z As', I n x y z As' → ∀ k, n < k → Ent B As' (Cur.app [s, t, u] (rounds [s, t, u] body k) (x, y, z, ())) := by
    intro n
    induction n using Nat.strongRecOn with
    | _ n ih =>
      intro x y z As' hI k hk
      cases k with
      | zero => omega
      | succ k => exact round n x y z As' (rounds [s, t, u] body k) hI fun m x' y' z' As'' hm hI' => ih m hm x' y' z' As'' hI' k (by omega)
  exact key n0 x0 y0 z0 As h0 (n0 + 1) (by omega) w hw

/-! Calls. -/
/-- What a call may read, but not write: all of the world that is not the call's own. -/
def frz (w : World) (h : Frag) : Frag := fun k => match h k with
  | some _ => none
  | none => w.heap[k]?

def Ct (P : Program) (f : FuncId) (args : List Value) (rs : Rs) (ss : List Sh) (pre : List HP) (rd : HP) (post : Tup ss → List HP → Prop) : Prop :=
  ∀ (w : World) (h : Frag), star pre h → Sub h (mem w) → rd (frz w h) → Calls P f args.toArray w fun e w' => ∃ t Bs, e = .returned (rs.mk (Tup.vals ss t)) ∧ post t Bs ∧ Sx ⟨w, h⟩ Bs w'

/-- The end of a call. -/
def Ret (B : Base) {ss : List Sh} (post : Tup ss → List HP → Prop) (t : Tup ss) : WP := fun w => ∃ Bs, post t Bs ∧ Sx B Bs w

theorem xret {ss : List Sh} {post : Tup ss → List HP → Prop} {t : Tup ss} (h : post t As) : Ent B As (Ret B post t) := fun _ hw => ⟨As, h, hw⟩

theorem Sx.start {w : World} {h : Frag} {pre : List HP} (hs : star pre h) (hm : Sub h (mem w)) : Sx ⟨w, h⟩ pre w :=
  ⟨h, hs, hm, rfl, rfl, rfl, Nat.zero_le _, Nat.le_refl _, fun _ _ e => ⟨rfl, e⟩⟩

theorem spec_gen {P : Program} {f : FuncId} {args : List Value} {rs : Rs} {ss : List Sh} {pre : List HP} {rd : HP} {post : Tup ss → List HP → Prop} {φ : Cur ss → WP} (c : ∀ {K : Cur ss} {w : World}, φ K w → XCall P f args rs ss K w)
    (h : ∀ B : Base, rd (frz B.W B.h0) → Ent B pre (φ (Cur.ofT ss (Ret B post)))) : Ct P f args rs ss pre rd post := by
  intro w g hs hm hr
  have := c (h ⟨w, g⟩ hr w (Sx.start hs hm))
  unfold XCall at this
  refine this.mono ?_
  rintro e w' ⟨t, he, hk⟩
  rw [Cur.app_ofT] at hk
  obtain ⟨Bs, hp, hx⟩ := hk
  exact ⟨t, Bs, he, hp, hx⟩

theorem spec0 {P : Program} {f : FuncId} {args : List Value} {rs : Rs} {pre : List HP} {rd : HP} {post : Tup [] → List HP → Prop} {φ : WP → WP} (c : ∀ {K : WP} {w : World}, φ K w → XCall P f args rs [] K w)
    (h : ∀ B : Base, rd (frz B.W B.h0) → Ent B pre (φ (Ret B post ()))) : Ct P f args rs [] pre rd post := spec_gen (ss := []) c h
theorem spec1 {P : Program} {f : FuncId} {args : List Value} {rs : Rs} {s : Sh} {pre : List HP} {rd : HP} {post : Tup [s] → List HP → Prop} {φ : (s.ty → WP) → WP} (c : ∀ {K : s.ty → WP} {w : World}, φ K w → XCall P f args rs [s] K w)
    (h : ∀ B : Base, rd (frz B.W B.h0) → Ent B pre (φ fun x => Ret B post (x, ()))) : Ct P f args rs [s] pre rd post := spec_gen (ss := [s]) c h
theorem spec2 {P : Program} {f : FuncId} {args : List Value} {rs : Rs} {s t : Sh} {pre : List HP} {rd : HP} {post : Tup [s, t] → List HP → Prop} {φ : (s.ty → t.ty → WP) → WP} (c : ∀ {K : s.ty → t.ty → WP} {w : World}, φ K w → XCall P f args rs [s, t] K w)
    (h : ∀ B : Base, rd (frz B.W B.h0) → Ent B pre (φ fun x y => Ret B post (x, y, ()))) : Ct P f args rs [s, t] pre rd post := spec_gen (ss := [s, t]) c h
theorem spec3 {P : Program} {f : FuncId} {args : List Value} {rs : Rs} {s t u : Sh} {pre : List HP} {rd : HP} {post : Tup [s, t, u] → List HP → Prop} {φ : (s.ty → t.ty → u.ty → WP) → WP} (c : ∀ {K : s.ty → t.ty → u.ty → WP} {w : World}, φ K w → XCall P f args rs [s, t, u] K w)
    (h : ∀ B : Base, rd (frz B.W B.h0) → Ent B pre (φ fun x y z => Ret B post (x, y, z, ()))) : Ct P f args rs [s, t, u] pre rd post := spec_gen (ss := [s, t, u]) c h

/-- What a caller shows of what its callee reads: it is so of all that is not handed over. -/
def Rds (B : Base) (F : List HP) (rd : HP) : Prop := ∀ (w : World) (hp hF : Frag), star F hF → Sub hF (mem w) → Dis hp hF → Sub hp (mem w) → Upd B (uni hp hF) w → rd (frz w hp)

theorem Upd.sub {h g : Frag} {w : World} (hu : Upd B h w) (s : Sub g h) : Upd B g w :=
  ⟨hu.os, hu.tape, hu.output, hu.drawn, hu.size, fun k hk h0 => ⟨(hu.old k hk h0).1, by
    cases hg : g k with
    | none => rfl
    | some o => have := (hu.old k hk h0).2; rw [s k o hg] at this; cases this⟩⟩

theorem xcall {P : Program} {f : FuncId} {args : List Value} {rs : Rs} {ss : List Sh} {pre F : List HP} {rd : HP} {post : Tup ss → List HP → Prop} {K : Cur ss} (sp : Ct P f args rs ss pre rd post) (p : As.Perm (pre ++ F)) (hrd : Rds B F rd)
    (h : ∀ t Bs, post t Bs → Ent B (Bs ++ F) (Cur.app ss K t)) : Ent B As (XCall P f args rs ss K) := by
  intro w hw
  obtain ⟨g, hs, hm, hu⟩ := hw.perm p
  obtain ⟨a, b, ha, hb, hd, sa, sb⟩ := (star_append pre F).1 hs
  have hu' : Upd B (uni a b) w := hu.sub (uni_sub sa sb)
  unfold XCall
  refine (sp w a ha (sa.trans hm) (hrd w a b hb (sb.trans hm) hd (sa.trans hm) hu')).mono ?_
  rintro e w' ⟨t, Bs, he, hp, c, hc, hcm, hcu⟩
  refine ⟨t, he, h t Bs hp w' ⟨uni c b, (star_append Bs F).2 ⟨c, b, hc, hb, ?_, sub_uni_left _ _, ?_⟩, ?_, ?_⟩⟩
  all_goals
    have key : ∀ k o, b k = some o → w'.heap[k]? = some o ∧ c k = none := by
      intro k o hk
      have h1 : w.heap[k]? = some o := (sb.trans hm) k o hk
      have hlt : k < w.heap.size := (Array.getElem?_eq_some_iff.1 h1).1
      have ha0 : a k = none := by
        rcases hd k with e | e
        · exact e
        · rw [hk] at e; cases e
      have := hcu.old k hlt ha0
      exact ⟨by rw [this.1]; exact h1, this.2⟩
    have hdis : Dis c b := fun k => by
      cases hk : b k with
      | none => exact .inr rfl
      | some o => exact .inl (key k o hk).2
  · exact hdis
  · exact sub_uni_right hdis
  · exact uni_sub hcm fun k o hk => (key k o hk).1
  · refine ⟨by rw [hcu.os, hu.os], by rw [hcu.tape, hu.tape], by rw [hcu.output, hu.output], hcu.drawn, Nat.le_trans hu.size hcu.size, fun k hk h0 => ?_⟩
    have h1 := hu'.old k hk h0
    have h2 := uni_none.1 h1.2
    have h3 := hcu.old k (Nat.lt_of_lt_of_le hk hu.size) h2.1
    exact ⟨by rw [h3.1]; exact h1.1, uni_none.2 ⟨h3.2, h2.2⟩⟩

def emp : HP := fun _ => True
theorem rd_emp {F : List HP} : Rds B F emp := fun _ _ _ _ _ _ _ _ => trivial

class Pick (i : Nat) (As : List HP) (P : outParam HP) (F : outParam (List HP)) : Prop where
  perm : As.Perm (P :: F)
instance Pick.zero (A : HP) (As : List HP) : Pick 0 (A :: As) A As := ⟨List.Perm.refl _⟩
instance Pick.succ (i : Nat) (A P : HP) (As F : List HP) [h : Pick i As P F] : Pick (i + 1) (A :: As) P (A :: F) := ⟨(h.perm.cons A).trans (List.Perm.swap _ _ _)⟩

theorem app0 {F : List HP} {φ : WP} (h : Ent B F φ) : Ent B ([] ++ F) φ := h
theorem app1 {A : HP} {F : List HP} {φ : WP} (h : Ent B (A :: F) φ) : Ent B ([A] ++ F) φ := h
theorem app2 {A A' : HP} {F : List HP} {φ : WP} (h : Ent B (A :: A' :: F) φ) : Ent B ([A, A'] ++ F) φ := h
theorem app3 {A A' A'' : HP} {F : List HP} {φ : WP} (h : Ent B (A :: A' :: A'' :: F) φ) : Ent B ([A, A', A''] ++ F) φ := h

variable {P : Program} {f : FuncId} {args : List Value} {rs : Rs} {ss : List Sh} {rd : HP} {post : Tup ss → List HP → Prop} {K : Cur ss}

/-- A call that is handed nothing of its own. -/
theorem xcall0 (sp : Ct P f args rs ss [] rd post) (hrd : Rds B As rd) (h : ∀ t Bs, post t Bs → Ent B (Bs ++ As) (Cur.app ss K t)) : Ent B As (XCall P f args rs ss K) :=
  xcall sp (List.Perm.refl _) hrd h
theorem xcall1 (i : Nat) {P1 : HP} {F : List HP} [p : Pick i As P1 F] (sp : Ct P f args rs ss [P1] rd post) (hrd : Rds B F rd) (h : ∀ t Bs, post t Bs → Ent B (Bs ++ F) (Cur.app ss K t)) : Ent B As (XCall P f args rs ss K) :=
  xcall sp p.perm hrd h
theorem xcall2 (i j : Nat) {P1 P2 : HP} {F F' : List HP} [p : Pick i As P1 F] [q : Pick j F P2 F'] (sp : Ct P f args rs ss [P1, P2] rd post) (hrd : Rds B F' rd) (h : ∀ t Bs, post t Bs → Ent B (Bs ++ F') (Cur.app ss K t)) : Ent B As (XCall P f args rs ss K) :=
  xcall sp (p.perm.trans (q.perm.cons P1)) hrd h

/-- What one holds may be seen otherwise. -/
theorem xsee (i : Nat) {P1 : HP} {F : List HP} [p : Pick i As P1 F] {Bs : List HP} {φ : WP} (h : ∀ g, P1 g → star Bs g) (k : Ent B (Bs ++ F) φ) : Ent B As φ := by
  refine Ent.perm p.perm ?_
  intro w hw
  obtain ⟨g, ⟨a, b, pa, pb, d, sa, sb⟩, hm, hu⟩ := hw
  exact k w ⟨g, (star_append Bs F).2 ⟨a, b, h a pa, pb, d, sa, sb⟩, hm, hu⟩

/-- .. with names for what there is. -/
theorem xopen (i : Nat) {P1 : HP} {F : List HP} [p : Pick i As P1 F] {φ : WP} (R : List HP → Prop) (h : ∀ g, P1 g → ∃ Bs, R Bs ∧ star Bs g) (k : ∀ Bs, R Bs → Ent B (Bs ++ F) φ) : Ent B As φ := by
  refine Ent.perm p.perm ?_
  intro w hw
  obtain ⟨g, ⟨a, b, pa, pb, d, sa, sb⟩, hm, hu⟩ := hw
  obtain ⟨Bs, hR, hB⟩ := h a pa
  exact k Bs hR w ⟨g, (star_append Bs F).2 ⟨a, b, hB, pb, d, sa, sb⟩, hm, hu⟩

theorem xclose {As' : List HP} {φ : WP} (h : ∀ g, star As g → star As' g) (k : Ent B As' φ) : Ent B As φ := by
  rintro w ⟨g, hs, hm, hu⟩
  exact k w ⟨g, h g hs, hm, hu⟩

end Go.Cf
