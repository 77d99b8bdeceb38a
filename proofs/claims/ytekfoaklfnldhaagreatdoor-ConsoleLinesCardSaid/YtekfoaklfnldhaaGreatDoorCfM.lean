/-
  Maps of one's own, from numbers to things of one cell.
-/
import Derived.Test.YtekfoaklfnldhaaGreatDoorCfI
import Derived.MapKept
namespace Go.Cf
open Go
set_option linter.unusedVariables false
variable {B : Base} {As F : List HP}

/-- A new object. -/
theorem Sx.allocO {w : World} (h : Sx B As w) {o : Obj} {Q : HP} (hQ : Q (fun k => if k = w.heap.size then some o else none)) : Sx B (Q :: As) (w.alloc o) := by
  obtain ⟨g, hs, hsub, hu⟩ := h
  have hg : g w.heap.size = none := by
    cases hh : g w.heap.size with
    | none => rfl
    | some o => have := hsub _ _ hh; simp [mem] at this
  have hd : Dis (fun k => if k = w.heap.size then some o else none) g := fun k => by
    by_cases he : k = w.heap.size
    · subst he; exact .inr hg
    · exact .inl (by simp [he])
  refine ⟨uni (fun k => if k = w.heap.size then some o else none) g, ⟨_, g, hQ, hs, hd, sub_uni_left _ _, sub_uni_right hd⟩, ?_, ?_⟩
  · refine uni_sub (fun k o ho => ?_) (fun k o ho => ?_)
    · by_cases he : k = w.heap.size
      · subst he
        simp only [if_true, Option.some.injEq] at ho
        rw [← ho]
        show (w.heap.push _)[w.heap.size]? = _
        simp
      · simp [he] at ho
    · have h1 := hsub _ _ ho
      have hlt : k < w.heap.size := (Array.getElem?_eq_some_iff.1 h1).1
      show (w.heap.push _)[k]? = some o
      rw [Array.getElem?_push_lt hlt, ← h1]
      exact (Array.getElem?_eq_getElem hlt).symm
  · refine ⟨hu.os, hu.tape, hu.output, hu.drawn, by have := hu.size; simp; omega, fun k hk h0 => ?_⟩
    have hlt : k < w.heap.size := Nat.lt_of_lt_of_le hk hu.size
    have := hu.old k hk h0
    refine ⟨?_, uni_none.2 ⟨by simp; omega, this.2⟩⟩
    show (w.heap.push _)[k]? = _
    rw [Array.getElem?_push_lt hlt, ← this.1]
    exact (Array.getElem?_eq_getElem hlt).symm

/-- An object that is one's own is given another content. -/
theorem Sx.writeO {P Q : HP} {rest : List HP} {w w' : World} {b : Nat} {o' : Obj} (h : Sx B (P :: rest) w) (hP : ∀ g, P g → ∃ o, g b = some o) (hQ : Q (fun k => if k = b then some o' else none))
    (hn : ∀ k, k ≠ b → w'.heap[k]? = w.heap[k]?) (hb : w'.heap[b]? = some o') (hos : w'.os = w.os) (ht : w'.tape = w.tape) (ho : w'.output = w.output) (hsz : Szd w w') :
    Sx B (Q :: rest) w' := by
  obtain ⟨g, ⟨h1, h2, p1, p2, d, s1, s2⟩, hsub, hu⟩ := h
  obtain ⟨o1, q1⟩ := hP _ p1
  have h2b : h2 b = none := by
    rcases d b with e | e
    · rw [q1] at e; cases e
    · exact e
  have hB : ∀ k, k < B.W.heap.size → B.h0 k = none → k ≠ b := fun k hk h0 e => by
    subst e
    have := (hu.old k hk h0).2
    rw [s1 _ _ q1] at this; cases this
  refine ⟨uni (fun k => if k = b then some o' else none) h2, ?_, ?_, ?_⟩
  · refine ⟨_, h2, hQ, p2, fun k => ?_, sub_uni_left _ _, sub_uni_right fun k => ?_⟩ <;>
    · by_cases e : k = b
      · subst e; exact .inr h2b
      · exact .inl (by simp [e])
  · refine uni_sub (fun k o ho => ?_) (fun k o ho => ?_)
    · by_cases e : k = b
      · subst e
        simp only [if_true, Option.some.injEq] at ho
        rw [← ho]; exact hb
      · simp [e] at ho
    · have hk : k ≠ b := fun e => by subst e; rw [h2b] at ho; cases ho
      show w'.heap[k]? = some o
      rw [hn k hk]
      exact hsub _ _ (s2 _ _ ho)
  · refine ⟨by rw [hos, hu.os], by rw [ht, hu.tape], by rw [ho, hu.output], Nat.le_trans hu.drawn hsz.2, by rw [hsz.1]; exact hu.size, fun k hk h0 => ?_⟩
    have hkb := hB k hk h0
    have := hu.old k hk h0
    refine ⟨by rw [hn k hkb]; exact this.1, uni_none.2 ⟨by simp [hkb], ?_⟩⟩
    cases h2k : h2 k with
    | none => rfl
    | some o => rw [s2 _ _ h2k] at this; cases this.2

/-! What a map says. -/
section
variable {β : Type}
def lookM : List (Int × β) → Int → Option β
  | [], _ => none
  | p :: l, k => if k = p.1 then some p.2 else lookM l k
def setM : List (Int × β) → Int → β → List (Int × β)
  | [], k, v => [(k, v)]
  | p :: l, k, v => if k = p.1 then (k, v) :: l else p :: setM l k v
def findI (f : β → Value) : List (Int × β) → Int → Nat → Option (Nat × Value)
  | [], _, _ => none
  | p :: l, k, i => if k = p.1 then some (i, f p.2) else findI f l k (i + 1)

theorem findNow_I (f : β → Value) (k : Int) : ∀ (kvs : List (Int × β)) (es : List MapEntry) (i : Nat), es.map (fun e => (e.key, e.val)) = kvs.map (fun p => (Value.int .i64 p.1, f p.2)) → Instr.findNow (.int .i64) (.int .i64 k) es i = some (findI f kvs k i)
  | [], [], _, _ => rfl
  | [], _ :: _, _, h => by cases h
  | _ :: _, [], _, h => by cases h
  | p :: kvs, e :: es, i, h => by
    simp only [List.map_cons, List.cons.injEq, Prod.mk.injEq] at h
    obtain ⟨⟨h1, h2⟩, h3⟩ := h
    have ih := findNow_I f k kvs es (i + 1) h3
    have hs : Instr.sameNow (.int .i64) (.int .i64 k) e.key = some (k == p.1) := by rw [h1]; simp [Instr.sameNow]
    simp only [Instr.findNow, hs, findI]
    by_cases hk : k = p.1
    · have : (k == p.1) = true := by simpa using hk
      rw [this, if_pos hk, h2]
    · have : (k == p.1) = false := by simpa using hk
      rw [this, if_neg hk]
      exact ih

theorem look_cases (f : β → Value) (k : Int) : ∀ (kvs : List (Int × β)) (i : Nat), (lookM kvs k = none ∧ findI f kvs k i = none ∧ ∀ x, setM kvs k x = kvs ++ [(k, x)]) ∨
    ∃ j v, findI f kvs k i = some (i + j, f v) ∧ kvs[j]? = some (k, v) ∧ lookM kvs k = some v ∧ ∀ x, setM kvs k x = kvs.set j (k, x)
  | [], _ => .inl ⟨rfl, rfl, fun _ => rfl⟩
  | p :: kvs, i => by
    by_cases hk : k = p.1
    · refine .inr ⟨0, p.2, by simp [findI, hk], by simp [hk], by simp [lookM, hk], fun x => by simp [setM, hk]⟩
    · rcases look_cases f k kvs (i + 1) with ⟨h1, h2, h3⟩ | ⟨j, v, h1, h2, h3, h4⟩
      · exact .inl ⟨by simp [lookM, hk, h1], by simp [findI, hk, h2], fun x => by simp [setM, hk, h3]⟩
      · exact .inr ⟨j + 1, v, by simp only [findI, hk, if_false, h1, Option.some.injEq, Prod.mk.injEq, and_true]; omega, by simpa using h2, by simp [lookM, hk, h3], fun x => by simp [setM, hk, h4]⟩
end

def MapO (s : Sh) (r : Option Nat) (kvs : List (Int × s.ty)) : HP := fun h => ∃ b es clock, r = some b ∧ h b = some (.map es clock) ∧ es.toList.map (fun e => (e.key, e.val)) = kvs.map (fun p => (Value.int .i64 p.1, s.mk p.2))

class OwnM (s : Sh) (r : Option Nat) (As : List HP) (kvs : outParam (List (Int × s.ty))) (F : outParam (List HP)) : Prop where
  perm : As.Perm (MapO s r kvs :: F)
instance OwnM.head (s : Sh) (r : Option Nat) (kvs : List (Int × s.ty)) (As : List HP) : OwnM s r (MapO s r kvs :: As) kvs As := ⟨List.Perm.refl _⟩
instance OwnM.tail (s : Sh) (r : Option Nat) (kvs : List (Int × s.ty)) (A : HP) (As F : List HP) [o : OwnM s r As kvs F] : OwnM s r (A :: As) kvs (A :: F) := ⟨(o.perm.cons A).trans (List.Perm.swap _ _ _)⟩

class MapT (P : Program) (t : TypeId) (s : Sh) (z : outParam s.ty) : Prop where
  ok : ∃ kt e, P.underlying t = some (.map kt e) ∧ P.underlying kt = some (.int .i64) ∧ (P.info? e).bind (·.zero) = some (s.mk z)

variable {P : Program} {t : TypeId}

theorem run_zero {e : TypeId} {z : Value} (h : (P.info? e).bind (·.zero) = some z) (w : World) : (zeroValue e).run P w = .ok z w := by
  cases hi : P.info? e with
  | none => rw [hi] at h; cases h
  | some i =>
    rw [hi] at h
    have h : i.zero = some z := h
    simp [zeroValue, run_ti hi, h]

theorem look_run {s : Sh} {z : s.ty} (m : MapT P t s z) {r : Option Nat} {kvs : List (Int × s.ty)} {w : World} (hw : MapO s r kvs (mem w)) (k : Int) (c : Bool) :
    (Instr.lookup t (.map r) (.int .i64 k) c).run P w = .ok (if c then .tuple #[s.mk ((lookM kvs k).getD z), .bool (lookM kvs k).isSome] else s.mk ((lookM kvs k).getD z)) w := by
  obtain ⟨kt, e, ht, hk, hz⟩ := m.ok
  obtain ⟨b, es, clock, rfl, hb, hes⟩ := hw
  have hb : w.heap[b]? = some (.map es clock) := hb
  have hf := MapKept.run_findKey (P := P) (w := w) hk (findNow_I (s.mk) k kvs es.toList 0 hes)
  have hc : ∀ e, (Instr.checkKey e 10000 kt (.int .i64 k)).run P w = .ok () w := fun e => MapKept.run_checkKey (n := 9999) hk (by simp [MapKept.IsKey]) e
  rcases look_cases s.mk k kvs 0 with ⟨h1, h2, _⟩ | ⟨j, v, h1, _, h3, _⟩
  · rw [h2] at hf
    simp [Instr.lookup, run_underlying ht, MapKept.run_getObj_map hb, hc, hf, run_zero hz, h1]
  · rw [h1] at hf
    simp [Instr.lookup, run_underlying ht, MapKept.run_getObj_map hb, hc, hf, h3]

theorem sub_map {s : Sh} {r : Option Nat} {kvs : List (Int × s.ty)} {g h : Frag} (hm : MapO s r kvs g) (hs : Sub g h) : MapO s r kvs h := by
  obtain ⟨b, es, clock, h1, h2, h3⟩ := hm
  exact ⟨b, es, clock, h1, hs _ _ h2, h3⟩

/-- v, ok := m[k] -/
theorem xlook (s : Sh) {z : s.ty} {r : Option Nat} {kvs : List (Int × s.ty)} [m : MapT P t s z] [f : OwnM s r As kvs F] {k : Int} {K : s.ty → Bool → WP}
    (h : Ent B As (K ((lookM kvs k).getD z) (lookM kvs k).isSome)) : Ent B As (XLook P t (.map r) (.int .i64 k) s K) := by
  intro w hw
  obtain ⟨g, hg, hs⟩ := (hw.perm f.perm).head
  exact ⟨_, _, w, look_run m (sub_map hg hs) k true, h w hw⟩

/-- m[k] -/
theorem xlook1 (s : Sh) {z : s.ty} {r : Option Nat} {kvs : List (Int × s.ty)} [m : MapT P t s z] [f : OwnM s r As kvs F] {k : Int} {K : s.ty → WP}
    (h : Ent B As (K ((lookM kvs k).getD z))) : Ent B As (XRun P (Instr.lookup t (.map r) (.int .i64 k) false) s K) := by
  intro w hw
  obtain ⟨g, hg, hs⟩ := (hw.perm f.perm).head
  exact ⟨_, w, look_run m (sub_map hg hs) k false, h w hw⟩

/-- m[k] = v -/
theorem xupd (s : Sh) {z : s.ty} {r : Option Nat} {kvs : List (Int × s.ty)} [m : MapT P t s z] [f : OwnM s r As kvs F] {k : Int} (v : s.ty) {x : Value} {K : WP} (hx : x = s.mk v := by rfl)
    (h : Ent B (MapO s r (setM kvs k v) :: F) K) : Ent B As (XUpd P t (.map r) (.int .i64 k) x K) := by
  intro w hw
  subst hx
  have hw1 := hw.perm f.perm
  obtain ⟨g, hg, hs⟩ := hw1.head
  obtain ⟨kt, e, ht, hk, hz⟩ := m.ok
  have hg' := hg
  obtain ⟨b, es, clock, rfl, hb, hes⟩ := sub_map hg hs
  have hb : w.heap[b]? = some (.map es clock) := hb
  have hf := MapKept.run_findKey (P := P) (w := w) hk (findNow_I (s.mk) k kvs es.toList 0 hes)
  have hc : ∀ e, (Instr.checkKey e 10000 kt (.int .i64 k)).run P w = .ok () w := fun e => MapKept.run_checkKey (n := 9999) hk (by simp [MapKept.IsKey]) e
  have fin : ∀ o', MapO s (some b) (setM kvs k v) (fun k => if k = b then some o' else none) → Sx B (MapO s (some b) (setM kvs k v) :: F) { w with heap := w.heap.setIfInBounds b o' } := fun o' hQ => by
    obtain ⟨q1, q2⟩ := MapKept.heap_set (o' := o') hb
    exact hw1.writeO (b := b) (fun g hg => by obtain ⟨b1, es1, c1, e1, h1, _⟩ := hg; cases e1; exact ⟨_, h1⟩) hQ (fun k hk => q2 k hk) q1 rfl rfl rfl ⟨by simp, Nat.le_refl _⟩
  rcases look_cases s.mk k kvs 0 with ⟨h1, h2, h3⟩ | ⟨j, v0, h1, h2, h3, h4⟩
  · rw [h2] at hf
    refine ⟨{ w with heap := w.heap.setIfInBounds b (.map (es.push ⟨.int .i64 k, s.mk v, clock⟩) (clock + 1)) }, ?_, h _ (fin _ ?_)⟩
    · simp [Instr.mapUpdate, run_underlying ht, MapKept.run_getObj_map hb, hc, hf, MapKept.run_setObj_map _ hb]
    · exact ⟨b, es.push ⟨.int .i64 k, s.mk v, clock⟩, clock + 1, rfl, by simp, by rw [h3, Array.toList_push, List.map_append, List.map_append, hes]; rfl⟩
  · rw [h1] at hf
    have hlen : es.toList.length = kvs.length := by simpa using congrArg List.length hes
    have hj : j < es.toList.length := by rw [hlen]; exact (List.getElem?_eq_some_iff.1 h2).1
    obtain ⟨e0, he0⟩ : ∃ e0, es.toList[j]? = some e0 := ⟨_, List.getElem?_eq_getElem hj⟩
    have hke : es[j]? = some e0 := by rw [← he0]; simp
    have hkey : e0.key = .int .i64 k := by
      have a1 := congrArg (fun l => l[j]?) hes
      simp only [List.getElem?_map, he0, h2, Option.map_some, Option.some.injEq, Prod.mk.injEq] at a1
      exact a1.1
    refine ⟨{ w with heap := w.heap.setIfInBounds b (.map (es.modify j fun e => { e with key := .int .i64 k, val := s.mk v }) clock) }, ?_, h _ (fin _ ?_)⟩
    · simp [Instr.mapUpdate, run_underlying ht, MapKept.run_getObj_map hb, hc, hf, hke, hkey, Instr.keyThatStays, Instr.sameBits, MapKept.run_setObj_map _ hb]
    · refine ⟨b, es.modify j fun e => { e with key := .int .i64 k, val := s.mk v }, clock, rfl, by simp, ?_⟩
      rw [h4, Array.toList_modify, List.map_set]
      have : (es.toList.modify j fun e => { e with key := .int .i64 k, val := s.mk v }) = es.toList.set j ⟨.int .i64 k, s.mk v, e0.born⟩ := by
        apply List.ext_getElem?
        intro i
        rw [List.getElem?_modify, List.getElem?_set]
        by_cases hij : j = i
        · subst hij; rw [he0, if_pos rfl, if_pos hj]; simp
        · simp [hij]
      rw [this, List.map_set, hes]

theorem mapo_new (s : Sh) (b : Nat) : MapO s (some b) [] (fun k => if k = b then some (Obj.map #[] 0) else none) := ⟨b, #[], 0, rfl, by simp, rfl⟩

/-- map[int]T{} -/
theorem xmap (s : Sh) {K : Option Nat → WP} (h : ∀ b, Ent B (MapO s (some b) [] :: As) (K (some b))) : Ent B As (XRun P (Instr.makeMap t none) .map K) := fun w hw =>
  ⟨some w.heap.size, _, rfl, h _ _ (hw.allocO (mapo_new s _))⟩
theorem xmap' (s : Sh) {z : s.ty} [m : MapT P t s z] {n : Int} {K : Option Nat → WP} (h : ∀ b, Ent B (MapO s (some b) [] :: As) (K (some b))) : Ent B As (XRun P (Instr.makeMap t (some (.int .i64 n))) .map K) := fun w hw => by
  obtain ⟨kt, e, ht, hk, hz⟩ := m.ok
  refine ⟨some w.heap.size, w.alloc (.map #[] 0), ?_, h _ _ (hw.allocO (mapo_new s _))⟩
  have hn : ∀ i : Int, (newObj (.map #[] 0)).run P w = .ok w.heap.size (w.alloc (.map #[] 0)) := fun _ => rfl
  simp only [Instr.makeMap]
  simp [run_underlying ht, asInt, asIntOf, hn 0]

end Go.Cf

namespace Go.Cf
open Go
variable {B : Base} {As : List HP}
theorem ca3 {s t u : Sh} {K : s.ty → t.ty → u.ty → WP} {x : s.ty} {y : t.ty} {z : u.ty} {v : Unit} (h : Ent B As (K x y z)) : Ent B As (Cur.app [s, t, u] K (x, y, z, v)) := h
theorem ca4 {s t u r : Sh} {K : s.ty → t.ty → u.ty → r.ty → WP} {x : s.ty} {y : t.ty} {z : u.ty} {q : r.ty} {v : Unit} (h : Ent B As (K x y z q)) : Ent B As (Cur.app [s, t, u, r] K (x, y, z, q, v)) := h
theorem spec4 {P : Program} {f : FuncId} {args : List Value} {rs : Rs} {s t u r : Sh} {pre : List HP} {rd : HP} {post : Tup [s, t, u, r] → List HP → Prop} {φ : (s.ty → t.ty → u.ty → r.ty → WP) → WP} (c : ∀ {K : s.ty → t.ty → u.ty → r.ty → WP} {w : World}, φ K w → XCall P f args rs [s, t, u, r] K w)
    (h : ∀ B : Base, rd (frz B.W B.h0) → Ent B pre (φ fun x y z q => Ret B post (x, y, z, q, ()))) : Ct P f args rs [s, t, u, r] pre rd post := spec_gen (ss := [s, t, u, r]) c h
theorem xslc0n {s : Sl} {r : Nat} {m : Nat} {sz : Nat} {K : Sl → WP} (hm : m = s.c) (h1 : r ≤ s.c) (h : Ent B As (K ⟨s.p, r, s.c⟩)) : Ent B As (XSlc s 0 (r : Int) (m : Int) sz K) := xslc0 hm (by omega) (by omega) h
end Go.Cf

namespace Go.Cf
open Go
variable {B : Base} {As : List HP} {P : Program}
/-! A range over a string. -/
def IterO (r : Option Addr) (s : ByteArray) (pos : Nat) : HP := fun h => ∃ b, r = some ⟨b, 0, none⟩ ∧ h b = some (.stringIter s pos)
class OwnI (r : Option Addr) (As : List HP) (s : outParam ByteArray) (pos : outParam Nat) (F : outParam (List HP)) : Prop where
  perm : As.Perm (IterO r s pos :: F)
instance OwnI.head (r : Option Addr) (s : ByteArray) (pos : Nat) (As : List HP) : OwnI r (IterO r s pos :: As) s pos As := ⟨List.Perm.refl _⟩
instance OwnI.tail (r : Option Addr) (s : ByteArray) (pos : Nat) (A : HP) (As F : List HP) [o : OwnI r As s pos F] : OwnI r (A :: As) s pos (A :: F) := ⟨(o.perm.cons A).trans (List.Perm.swap _ _ _)⟩

theorem xrange {t : TypeId} {s : ByteArray} {K : Option Addr → WP} (ht : P.underlying t = some .string) (h : ∀ r, Ent B (IterO r s 0 :: As) (K r)) : Ent B As (XRun P (Instr.range t (.string s)) .ptr K) := fun w hw => by
  refine ⟨some ⟨w.heap.size, 0, none⟩, w.alloc (.stringIter s 0), ?_, h _ _ (hw.allocO ⟨_, rfl, by simp⟩)⟩
  have hn : ∀ i : Int, (newObj (.stringIter s 0)).run P w = .ok w.heap.size (w.alloc (.stringIter s 0)) := fun _ => rfl
  simp [Instr.range, run_underlying ht, hn 0]

theorem xnext {r : Option Addr} {s : ByteArray} {pos : Nat} {F : List HP} {ty : TypeId} {K0 : WP} {K1 : Int → Int → WP} [o : OwnI r As s pos F] (h0 : s.size ≤ pos → Ent B As K0)
    (h1 : pos < s.size → Ent B (IterO r s (pos + (Utf8.decode s pos).2) :: F) (K1 (pos : Int) ((Utf8.decode s pos).1 : Int))) : Ent B As (XNextS P (.pointer r) ty K0 K1) := by
  intro w hw
  have hw1 := hw.perm o.perm
  obtain ⟨g, ⟨b, hr, hb⟩, hs⟩ := hw1.head
  subst hr
  have hb : w.heap[b]? = some (.stringIter s pos) := hs _ _ hb
  have hg : (getObj b).run P w = .ok (.stringIter s pos) w := by simp [getObj, Sem.run, hb]
  have hset : ∀ o, (setObj b o).run P w = .ok () { w with heap := w.heap.setIfInBounds b o } := fun o => by simp [setObj, Sem.run, hb]
  by_cases hp : pos < s.size
  · obtain ⟨q1, q2⟩ := MapKept.heap_set (o' := Obj.stringIter s (pos + (Utf8.decode s pos).2)) hb
    refine ⟨_, _, ?_, .inr ⟨(pos : Int), ((Utf8.decode s pos).1 : Int), rfl, h1 hp { w with heap := w.heap.setIfInBounds b (.stringIter s (pos + (Utf8.decode s pos).2)) } ?_⟩⟩
    · simp [Instr.next, hg, hp, hset, goInt]
    · exact hw1.writeO (b := b) (fun g hg => by obtain ⟨b1, e1, h1⟩ := hg; cases e1; exact ⟨_, h1⟩) ⟨b, rfl, by simp⟩ (fun k hk => q2 k hk) q1 rfl rfl rfl ⟨by simp, Nat.le_refl _⟩
  · refine ⟨_, w, ?_, .inl ⟨rfl, h0 (by omega) w hw⟩⟩
    simp [Instr.next, hg, hp]

theorem decode_ascii {s : ByteArray} {pos : Nat} {b : UInt8} (hb : s.data.toList[pos]? = some b) (h : b.toNat < 128) : Utf8.decode s pos = (b.toNat, 1) := by
  have e : s.get! (pos + 0) = b := by
    rw [Nat.add_zero]
    obtain ⟨h1, h2⟩ := List.getElem?_eq_some_iff.1 hb
    have h1' : pos < s.data.size := by simpa using h1
    show s.data[pos]! = b
    rw [getElem!_pos s.data pos h1']
    simpa using h2
  unfold Utf8.decode
  simp only [e]
  rw [if_pos h]

theorem decode_other {s : ByteArray} {pos : Nat} {b : UInt8} (hb : s.data.toList[pos]? = some b) (h : ¬ b.toNat < 128) : 128 ≤ (Utf8.decode s pos).1 := by
  have e : s.get! (pos + 0) = b := by
    rw [Nat.add_zero]
    obtain ⟨h1, h2⟩ := List.getElem?_eq_some_iff.1 hb
    have h1' : pos < s.data.size := by simpa using h1
    show s.data[pos]! = b
    rw [getElem!_pos s.data pos h1']
    simpa using h2
  unfold Utf8.decode
  simp only [e]
  rw [if_neg h]
  have r : 128 ≤ Utf8.runeError := by decide
  split
  · skip
    split
    · rename_i h2; exact h2
    · exact r
  split
  · skip
    split
    · rename_i h2; simp at h2; omega
    · exact r
  split
  · skip
    split
    · rename_i h2; simp at h2; omega
    · exact r
  · exact r
end Go.Cf
