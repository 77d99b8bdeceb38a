/-
  Slices whose elements are known: reading, writing, appending, making.
-/
import Derived.Test.YtekfoaklfnldhaaGreatDoorCfS
import Derived.Laws.Append
import Derived.Laws.AppendOwn
namespace Go.Cf
open Go

/-- How an element lies in cells. -/
structure Enc (α : Type) where
  f : α → List Value
  sz : Nat
  len : ∀ x, (f x).length = sz
  one : ∀ x, ∀ v ∈ f x, v.oneCell' = true
  pos : 0 < sz
  zero : α

def flat {α : Type} (E : Enc α) (xs : List α) : List Value := xs.flatMap E.f

theorem flat_length {α : Type} (E : Enc α) (xs : List α) : (flat E xs).length = xs.length * E.sz := by
  induction xs with
  | nil => simp [flat]
  | cons x xs ih =>
    have : flat E (x :: xs) = E.f x ++ flat E xs := by simp [flat]
    rw [this, List.length_append, E.len, ih, List.length_cons, Nat.succ_mul]
    omega

theorem flat_append {α : Type} (E : Enc α) (xs ys : List α) : flat E (xs ++ ys) = flat E xs ++ flat E ys := by simp [flat]

theorem flat_get {α : Type} (E : Enc α) : ∀ (xs : List α) (i j : Nat) (x : α), xs[i]? = some x → j < E.sz → (flat E xs)[i * E.sz + j]? = (E.f x)[j]? := by
  intro xs
  induction xs with
  | nil => intro i j x h; simp at h
  | cons y xs ih =>
    intro i j x h hj
    have e : flat E (y :: xs) = E.f y ++ flat E xs := by simp [flat]
    rw [e]
    cases i with
    | zero =>
      simp only [List.getElem?_cons_zero, Option.some.injEq] at h
      subst h
      rw [Nat.zero_mul, Nat.zero_add, List.getElem?_append_left (by rw [E.len]; exact hj)]
    | succ i =>
      rw [List.getElem?_append_right (by rw [E.len, Nat.succ_mul]; omega), E.len]
      rw [show (i + 1) * E.sz + j - E.sz = i * E.sz + j by rw [Nat.succ_mul]; omega]
      exact ih i j x (by simpa using h) hj

theorem flat_set {α : Type} (E : Enc α) : ∀ (xs : List α) (i j : Nat) (x x' : α) (v : Value), xs[i]? = some x → j < E.sz → (E.f x).set j v = E.f x' → (flat E xs).set (i * E.sz + j) v = flat E (xs.set i x') := by
  intro xs
  induction xs with
  | nil => intro i j x x' v h; simp at h
  | cons y xs ih =>
    intro i j x x' v h hj hx
    have e : ∀ y, flat E (y :: xs) = E.f y ++ flat E xs := fun y => by simp [flat]
    cases i with
    | zero =>
      simp only [List.getElem?_cons_zero, Option.some.injEq] at h
      subst h
      rw [Nat.zero_mul, Nat.zero_add, e, List.set_append_left _ _ (by rw [E.len]; exact hj), hx]
      simp [flat]
    | succ i =>
      rw [e, List.set_append_right _ _ (by rw [E.len, Nat.succ_mul]; omega), E.len]
      rw [show (i + 1) * E.sz + j - E.sz = i * E.sz + j by rw [Nat.succ_mul]; omega]
      rw [ih i j x x' v (by simpa using h) hj hx]
      simp [flat]

theorem flat_one {α : Type} (E : Enc α) (xs : List α) : ∀ v ∈ flat E xs, v.oneCell' = true := by
  intro v hv
  simp only [flat, List.mem_flatMap] at hv
  obtain ⟨x, _, hx⟩ := hv
  exact E.one x v hx

/-- A slice that may be read. -/
def RArr (s : Sl) (sz : Nat) (cs : List Value) : HP := fun h => cs.length = s.n * sz ∧
  (0 < s.n → ∃ b o pre post e fr, s.p = some ⟨b, o, none⟩ ∧ h b = some (.cells (pre ++ cs ++ post).toArray e fr) ∧ pre.length = o)

theorem RArr.mono {s : Sl} {sz : Nat} {cs : List Value} {h g : Frag} (ha : RArr s sz cs h) (hs : Sub h g) : RArr s sz cs g := by
  obtain ⟨hl, hc⟩ := ha
  refine ⟨hl, fun hn => ?_⟩
  obtain ⟨b, o, pre, post, e, fr, hp, hb, ho⟩ := hc hn
  exact ⟨b, o, pre, post, e, fr, hp, hs _ _ hb, ho⟩

variable {α : Type}

def RAr (E : Enc α) (s : Sl) (xs : List α) : HP := fun h => xs.length = s.n ∧ RArr s E.sz (flat E xs) h

/-- A slice whose array is one's own: its elements, and what lies in the room behind them. -/
def Ars (E : Enc α) (s : Sl) (xs zs : List α) : HP := fun h => xs.length = s.n ∧ xs.length + zs.length = s.c ∧
  ((s.p = none ∧ s.c = 0) ∨ ∃ b o pre post e fr, s.p = some ⟨b, o, none⟩ ∧ h b = some (.cells (pre ++ flat E (xs ++ zs) ++ post).toArray e fr) ∧ pre.length = o ∧
    (∀ i, i < (pre ++ flat E (xs ++ zs) ++ post).length → ¬ (fr.1 ≤ i ∧ i < fr.2)) ∧ s.c ≤ 9223372036854775807)

def Ar (E : Enc α) (s : Sl) (xs : List α) : HP := fun h => ∃ zs, Ars E s xs zs h

theorem Ars.read {E : Enc α} {s : Sl} {xs zs : List α} {h : Frag} (ha : Ars E s xs zs h) : RAr E s xs h := by
  obtain ⟨hn, hcap, hc⟩ := ha
  refine ⟨hn, by rw [flat_length, hn], fun h0 => ?_⟩
  rcases hc with ⟨_, h⟩ | ⟨b, o, pre, post, e, fr, hp, hb, ho, _⟩
  · omega
  · exact ⟨b, o, pre, flat E zs ++ post, e, fr, hp, by rw [hb, flat_append]; simp [List.append_assoc], ho⟩

theorem Ar.read {E : Enc α} {s : Sl} {xs : List α} {h : Frag} (ha : Ar E s xs h) : RAr E s xs h := by
  obtain ⟨zs, ha⟩ := ha; exact ha.read

/-- The same array under a header of another length. -/
theorem Ars.shift {E : Enc α} {p : Option Addr} {n n' c : Nat} {xs zs xs' zs' : List α} {h : Frag} (ha : Ars E ⟨p, n, c⟩ xs zs h) (hx : xs ++ zs = xs' ++ zs') (hn : xs'.length = n') : Ars E ⟨p, n', c⟩ xs' zs' h := by
  obtain ⟨h1, h2, h3⟩ := ha
  have hl : xs.length + zs.length = xs'.length + zs'.length := by simpa using congrArg List.length hx
  refine ⟨hn, by rw [← hl]; exact h2, ?_⟩
  rw [← hx]
  exact h3

theorem RAr.mono {E : Enc α} {s : Sl} {xs : List α} {h g : Frag} (ha : RAr E s xs h) (hs : Sub h g) : RAr E s xs g := ⟨ha.1, ha.2.mono hs⟩

variable {B : Base} {As : List HP}

theorem Sx.tail {A : HP} {w : World} (h : Sx B (A :: As) w) : Sx B As w := by
  obtain ⟨g, ⟨a, b, _, pb, _, _, sb⟩, hm, hu⟩ := h
  exact ⟨b, pb, sb.trans hm, hu.sub sb⟩

/-- What is not the call's own stays as it was at its beginning. -/
theorem Sx.frz {w : World} (h : Sx B As w) : Sub (frz B.W B.h0) (mem w) := by
  obtain ⟨g, _, _, hu⟩ := h
  intro k o hk
  unfold Cf.frz at hk
  cases hb : B.h0 k with
  | some x => rw [hb] at hk; cases hk
  | none =>
    rw [hb] at hk
    have hlt : k < B.W.heap.size := (Array.getElem?_eq_some_iff.1 hk).1
    show w.heap[k]? = some o
    rw [(hu.old k hlt hb).1]; exact hk

class Fro (B : Base) (s : Sl) {α : outParam Type} (E : outParam (Enc α)) (xs : outParam (List α)) : Prop where
  rd : RAr E s xs (frz B.W B.h0)

class RdA (B : Base) (As : List HP) (s : Sl) {α : outParam Type} (E : outParam (Enc α)) (xs : outParam (List α)) : Prop where
  rd : ∀ w, Sx B As w → RAr E s xs (mem w)

instance (priority := low) RdA.fro (B : Base) (As : List HP) (s : Sl) (E : Enc α) (xs : List α) [f : Fro B s E xs] : RdA B As s E xs := ⟨fun _ h => f.rd.mono h.frz⟩
instance RdA.tail (B : Base) (A : HP) (As : List HP) (s : Sl) (E : Enc α) (xs : List α) [r : RdA B As s E xs] : RdA B (A :: As) s E xs := ⟨fun w h => r.rd w h.tail⟩
instance (priority := high) RdA.head (B : Base) (As : List HP) (s : Sl) (E : Enc α) (xs : List α) : RdA B (Ar E s xs :: As) s E xs := ⟨fun w h => by
  obtain ⟨g, hg, hs⟩ := h.head
  exact hg.read.mono hs⟩

class OwnA (s : Sl) (As : List HP) {α : outParam Type} (E : outParam (Enc α)) (xs : outParam (List α)) (upd : outParam (Sl → List α → List HP)) (rest : outParam (List HP)) : Prop where
  eq : As = upd s xs
  perm : ∀ t c, (upd t c).Perm (Ar E t c :: rest)
instance OwnA.head (s : Sl) (E : Enc α) (xs : List α) (As : List HP) : OwnA s (Ar E s xs :: As) E xs (fun t c => Ar E t c :: As) As := ⟨rfl, fun _ _ => List.Perm.refl _⟩
instance OwnA.tail (s : Sl) (A : HP) (As : List HP) (E : Enc α) (xs : List α) (upd : Sl → List α → List HP) (rest : List HP) [o : OwnA s As E xs upd rest] : OwnA s (A :: As) E xs (fun t c => A :: upd t c) (A :: rest) :=
  ⟨by rw [← o.eq], fun t c => ((o.perm t c).cons A).trans (List.Perm.swap _ _ _)⟩

theorem OwnA.start {s : Sl} {E : Enc α} {xs : List α} {upd : Sl → List α → List HP} {rest : List HP} (o : OwnA s As E xs upd rest) : As.Perm (Ar E s xs :: rest) := by rw [o.eq]; exact o.perm s xs

/-- The place of an element. -/
def Sl.at (s : Sl) (sz i : Nat) : Addr := (s.p.getD ⟨0, 0, none⟩).add (i * sz)

theorem add_none (b o n : Nat) : (⟨b, o, none⟩ : Addr).add n = ⟨b, o + n, none⟩ := by
  unfold Addr.add
  split
  · rename_i h; subst h; rfl
  · rfl

theorem RAr.cell {E : Enc α} {s : Sl} {xs : List α} {w : World} (h : RAr E s xs (mem w)) {i j : Nat} {x : α} (hx : xs[i]? = some x) (hj : j < E.sz) :
    ∃ b o, s.p = some ⟨b, o, none⟩ ∧ (s.at E.sz i).add j = ⟨b, o + (i * E.sz + j), none⟩ ∧ w.cell? ⟨b, o + (i * E.sz + j), none⟩ = (E.f x)[j]? := by
  obtain ⟨hl, _, hc⟩ := h
  have hi : i < xs.length := (List.getElem?_eq_some_iff.1 hx).1
  obtain ⟨b, o, pre, post, e, fr, hp, hb, ho⟩ := hc (by omega)
  refine ⟨b, o, hp, ?_, ?_⟩
  · simp only [Sl.at, hp, Option.getD_some, add_none, Nat.add_assoc]
  · have hb' : w.heap[b]? = some (.cells (pre ++ flat E xs ++ post).toArray e fr) := hb
    have hlen := flat_length E xs
    have hlt : i * E.sz + j < (flat E xs).length := by
      rw [hlen]
      have : (i + 1) * E.sz ≤ xs.length * E.sz := Nat.mul_le_mul_right _ hi
      rw [Nat.succ_mul] at this
      omega
    simp only [World.cell?, hb']
    simp only [Option.isSome_none, Bool.false_eq_true, if_false, List.getElem?_toArray]
    rw [List.append_assoc, List.getElem?_append_right (by omega), ho, Nat.add_sub_cancel_left, List.getElem?_append_left hlt]
    exact flat_get E xs i j x hx hj

theorem xidx {E : Enc α} {xs : List α} {s : Sl} [r : RdA B As s E xs] {i : Int} {sz : Nat} {K : Addr → WP} (_hsz : E.sz = sz := by rfl) (h0 : 0 ≤ i) (h1 : i < xs.length)
    (h : ∀ x, xs[i.toNat]? = some x → Ent B As (K (s.at sz i.toNat))) : Ent B As (XIdx s.p s.n i sz K) := by
  intro w hw
  have hr := r.rd w hw
  have hlt : i.toNat < xs.length := by omega
  obtain ⟨b, o, hp, _, _⟩ := hr.cell (i := i.toNat) (j := 0) (List.getElem?_eq_getElem hlt) E.pos
  refine ⟨_, hp, h0, by rw [← hr.1]; exact h1, ?_⟩
  have := h _ (List.getElem?_eq_getElem hlt) w hw
  simp only [Sl.at, hp, Option.getD_some] at this
  exact this

/-- .. at a counter. -/
theorem xidxn {E : Enc α} {xs : List α} {s : Sl} [r : RdA B As s E xs] {k : Nat} {sz : Nat} {K : Addr → WP} (hsz : E.sz = sz := by rfl) (h1 : k < xs.length)
    (h : ∀ x, xs[k]? = some x → Ent B As (K (s.at sz k))) : Ent B As (XIdx s.p s.n (k : Int) sz K) :=
  xidx hsz (by omega) (by omega) (by simpa using h)

theorem xgetE {E : Enc α} {xs : List α} {s : Sl} [r : RdA B As s E xs] {i sz : Nat} {x : α} {sh : Sh} {v : sh.ty} {K : sh.ty → WP} (hx : xs[i]? = some x) (hsz : E.sz = sz := by rfl) (hv : (E.f x)[0]? = some (sh.mk v) := by rfl)
    (h : Ent B As (K v)) : Ent B As (XGet sh (s.at sz i) K) := by
  intro w hw
  subst hsz
  obtain ⟨b, o, _, ha, hc⟩ := (r.rd w hw).cell hx E.pos
  refine ⟨v, ?_, h w hw⟩
  have e : (s.at E.sz i).add 0 = s.at E.sz i := by simp [Addr.add]
  rw [← e, ha, hc, hv]

theorem xgetEj {E : Enc α} {xs : List α} {s : Sl} [r : RdA B As s E xs] {i j sz : Nat} {x : α} {sh : Sh} {v : sh.ty} {K : sh.ty → WP} (hx : xs[i]? = some x) (hsz : E.sz = sz := by rfl) (hv : (E.f x)[j]? = some (sh.mk v) := by rfl)
    (h : Ent B As (K v)) : Ent B As (XGet sh ((s.at sz i).add j) K) := by
  intro w hw
  subst hsz
  have hj : j < E.sz := by
    rw [← E.len x]; exact (List.getElem?_eq_some_iff.1 hv).1
  obtain ⟨b, o, _, ha, hc⟩ := (r.rd w hw).cell hx hj
  exact ⟨v, by rw [ha, hc, hv], h w hw⟩

theorem xchkE {E : Enc α} {xs : List α} {s : Sl} [r : RdA B As s E xs] {i sz : Nat} {x : α} {v : Value} {K : WP} (hx : xs[i]? = some x) (hsz : E.sz = sz := by rfl) (hv : (E.f x)[0]? = some v := by rfl)
    (h : Ent B As K) : Ent B As (XChk (s.at sz i) v K) := by
  intro w hw
  subst hsz
  obtain ⟨b, o, _, ha, hc⟩ := (r.rd w hw).cell hx E.pos
  have e : (s.at E.sz i).add 0 = s.at E.sz i := by simp [Addr.add]
  exact ⟨by rw [← e, ha, hc, hv], h w hw⟩

theorem xchkEj {E : Enc α} {xs : List α} {s : Sl} [r : RdA B As s E xs] {i j sz : Nat} {x : α} {v : Value} {K : WP} (hx : xs[i]? = some x) (hsz : E.sz = sz := by rfl) (hv : (E.f x)[j]? = some v := by rfl)
    (h : Ent B As K) : Ent B As (XChk ((s.at sz i).add j) v K) := by
  intro w hw
  subst hsz
  have hj : j < E.sz := by
    rw [← E.len x]; exact (List.getElem?_eq_some_iff.1 hv).1
  obtain ⟨b, o, _, ha, hc⟩ := (r.rd w hw).cell hx hj
  exact ⟨by rw [ha, hc, hv], h w hw⟩

theorem Ars.cap_le {E : Enc α} {s : Sl} {xs zs : List α} {h : Frag} (ha : Ars E s xs zs h) : s.c ≤ 9223372036854775807 := by
  rcases ha.2.2 with ⟨_, h0⟩ | ⟨_, _, _, _, _, _, _, _, _, _, hM⟩
  · omega
  · exact hM

/-- A slice of one's own and the block behind it. -/
theorem Ars.blk {E : Enc α} {s : Sl} {xs zs : List α} {h : Frag} (ha : Ars E s xs zs h) {b o : Nat} (hp : s.p = some ⟨b, o, none⟩) :
    ∃ pre post, Blk b (pre ++ flat E (xs ++ zs) ++ post) h ∧ pre.length = o := by
  obtain ⟨_, _, hc⟩ := ha
  rcases hc with ⟨h0, _⟩ | ⟨b', o', pre, post, e, fr, hp', hb, ho, hfr, _⟩
  · rw [hp] at h0; cases h0
  · rw [hp] at hp'
    cases hp'
    exact ⟨pre, post, ⟨e, fr, hb, hfr⟩, ho⟩

theorem Ars.of_blk {E : Enc α} {s : Sl} {xs zs : List α} {h : Frag} {b o : Nat} {pre post : List Value} (hb : Blk b (pre ++ flat E (xs ++ zs) ++ post) h) (hp : s.p = some ⟨b, o, none⟩) (ho : pre.length = o) (hn : xs.length = s.n) (hc : xs.length + zs.length = s.c) (hM : s.c ≤ 9223372036854775807) : Ars E s xs zs h := by
  obtain ⟨e, fr, hb, hfr⟩ := hb
  exact ⟨hn, hc, .inr ⟨b, o, pre, post, e, fr, hp, hb, ho, hfr, hM⟩⟩

theorem xsetEj {E : Enc α} {xs : List α} {s : Sl} {upd : Sl → List α → List HP} {rest : List HP} [o : OwnA s As E xs upd rest] {i j sz : Nat} {x : α} (x' : α) {v : Value} {K : WP} (hx : xs[i]? = some x) (hsz : E.sz = sz := by rfl) (hj : j < E.sz)
    (hv : (E.f x).set j v = E.f x') (h : Ent B (upd s (xs.set i x')) K) : Ent B As (XSet ((s.at sz i).add j) v K) := by
  subst hsz
  intro w hw
  have hw1 := hw.perm o.start
  obtain ⟨g, ⟨h1, h2, ⟨zs, p1⟩, p2, d, s1, s2⟩, hsub, hu⟩ := hw1
  have hr := (p1.read).mono (s1.trans hsub)
  obtain ⟨b, o', hp, ha, _⟩ := hr.cell hx hj
  obtain ⟨pre, post, hblk, hpre⟩ := p1.blk hp
  rw [ha]
  have hi : i < xs.length := (List.getElem?_eq_some_iff.1 hx).1
  have hx2 : (xs ++ zs)[i]? = some x := by rw [List.getElem?_append_left hi]; exact hx
  have hlt : i * E.sz + j < (flat E (xs ++ zs)).length := by
    rw [flat_length]
    have : (i + 1) * E.sz ≤ (xs ++ zs).length * E.sz := Nat.mul_le_mul_right _ (by simp; omega)
    rw [Nat.succ_mul] at this
    omega
  have hone : v.oneCell' = true := by
    refine E.one x' v ?_
    rw [← hv]
    exact List.mem_set (by rw [E.len]; exact hj) v
  have hset : (pre ++ flat E (xs ++ zs) ++ post).set (o' + (i * E.sz + j)) v = pre ++ flat E (xs.set i x' ++ zs) ++ post := by
    rw [List.append_assoc, List.set_append_right _ _ (by omega), hpre, Nat.add_sub_cancel_left, List.set_append_left _ _ hlt, flat_set E _ i j x x' v hx2 hj hv, List.set_append_left _ _ hi, List.append_assoc]
  refine xset_gen (B := B) (As := Blk b (pre ++ flat E (xs ++ zs) ++ post) :: rest) (b := b) (cs := pre ++ flat E (xs ++ zs) ++ post) (rest := rest) (off := o' + (i * E.sz + j)) (v := v) (K := K) (As' := Blk b (pre ++ flat E (xs.set i x' ++ zs) ++ post) :: rest) (List.Perm.refl _)
    (by simp only [List.length_append] at hlt ⊢; omega) hone (by rw [hset]) ?_ w ⟨g, ⟨h1, h2, hblk, p2, d, s1, s2⟩, hsub, hu⟩
  refine xclose (As' := upd s (xs.set i x')) (fun g' hg' => ?_) h
  refine star_perm (o.perm s (xs.set i x')).symm (star_imp (fun q hq => ⟨zs, ?_⟩) hg')
  exact Ars.of_blk hq hp hpre (by simpa using p1.1) (by simpa using p1.2.1) p1.cap_le

theorem xsetE {E : Enc α} {xs : List α} {s : Sl} {upd : Sl → List α → List HP} {rest : List HP} [o : OwnA s As E xs upd rest] {i sz : Nat} {x : α} (x' : α) {v : Value} {K : WP} (hx : xs[i]? = some x) (hsz : E.sz = sz := by rfl)
    (hv : (E.f x).set 0 v = E.f x') (h : Ent B (upd s (xs.set i x')) K) : Ent B As (XSet (s.at sz i) v K) := by
  have e : (s.at sz i).add 0 = s.at sz i := by simp [Addr.add]
  rw [← e]
  exact xsetEj x' hx hsz E.pos hv h

/-- nil holds nothing. -/
theorem xnone (E : Enc α) {φ : WP} (h : Ent B (Ar E ⟨none, 0, 0⟩ [] :: As) φ) : Ent B As φ := by
  rintro w ⟨g, hs, hm, hu⟩
  exact h w ⟨g, ⟨fun _ => none, g, ⟨[], rfl, rfl, .inl ⟨rfl, rfl⟩⟩, hs, fun _ => .inl rfl, fun _ _ e => (by cases e), Sub.refl _⟩, hm, hu⟩

/-- A block that was laid by a literal is a slice. -/
theorem blk_ar {E : Enc α} {b : Nat} {cs : List Value} (xs : List α) (n : Nat) (hn : xs.length = n) (hcs : flat E xs = cs) {h : Frag} (hb : Blk b cs h) (hM : n ≤ 9223372036854775807 := by decide) : Ars E ⟨some ⟨b, 0, none⟩, n, n⟩ xs [] h := by
  subst hcs
  exact Ars.of_blk (pre := []) (post := []) (by simpa using hb) rfl rfl hn (by simpa using hn) hM

end Go.Cf
