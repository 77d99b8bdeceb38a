/-
  append, copy and make at slices of one's own.
-/
import Derived.Test.YtekfoaklfnldhaaGreatDoorCfT
import Derived.Laws.MakeOwn
namespace Go.Cf
open Go

/-- What append must know of the types: the slice's, the element's, its cells and bytes. -/
def appOk (P : Program) (t e : TypeId) (sz by_ : Nat) : Bool :=
  match P.underlying t, P.info? e with
  | some (.slice e'), some i => Nat.beq e' e && Nat.beq i.size sz && Nat.beq i.bytes by_ && Nat.blt 0 by_ &&
      (match i.zero with | some z => Nat.beq z.cells.toList.length sz | none => false)
  | _, _ => false

class AppT (P : Program) (t : TypeId) (e sz by_ : outParam Nat) (z : outParam (List Value)) : Prop where
  ok : appOk P t e sz by_ = true
  zero : zeroOf P e = some z

theorem appOk_spec {P : Program} {t e : TypeId} {sz by_ : Nat} (h : appOk P t e sz by_ = true) :
    ∃ i z, P.underlying t = some (.slice e) ∧ P.info? e = some i ∧ i.size = sz ∧ i.bytes = by_ ∧ 0 < by_ ∧ i.zero = some z ∧ z.cells.size = sz := by
  unfold appOk at h
  cases ht : P.underlying t with
  | none => rw [ht] at h; cases h
  | some dt =>
  cases hi : P.info? e with
  | none => rw [ht, hi] at h; cases dt <;> cases h
  | some i =>
  rw [ht, hi] at h
  cases dt <;> simp only [Bool.false_eq_true] at h
  rename_i e'
  simp only [Bool.and_eq_true] at h
  obtain ⟨⟨⟨⟨h1, h2⟩, h3⟩, h4⟩, h6⟩ := h
  obtain rfl := Nat.eq_of_beq_eq_true h1
  cases hz : i.zero with
  | none => rw [hz] at h6; cases h6
  | some z =>
    rw [hz] at h6
    exact ⟨i, z, rfl, rfl, Nat.eq_of_beq_eq_true h2, Nat.eq_of_beq_eq_true h3, by simpa [Nat.blt_eq] using h4, hz, by simpa using Nat.eq_of_beq_eq_true h6⟩

/-- Cells laid one behind the other into a block. -/
theorem storeCells_blk {P : Program} (b : Nat) (e : TypeId) (fr : Nat × Nat) : ∀ (vs : List Value) (o i : Nat) (l : List Value) (w : World), w.heap[b]? = some (.cells l.toArray e fr) → o + i + vs.length ≤ l.length →
    (∀ k, k < l.length → ¬ (fr.1 ≤ k ∧ k < fr.2)) → (∀ v ∈ vs, v.oneCell' = true) →
    ∃ w', (storeCells ⟨b, o, none⟩ vs i).run P w = .ok () w' ∧ w'.heap[b]? = some (.cells (setSeg vs (o + i) l).toArray e fr) ∧ (∀ k, k ≠ b → w'.heap[k]? = w.heap[k]?) ∧ w'.os = w.os ∧ w'.tape = w.tape ∧ w'.output = w.output ∧ Szd w w' := by
  intro vs
  induction vs with
  | nil => intro o i l w hb _ _ _; exact ⟨w, rfl, hb, fun _ _ => rfl, rfl, rfl, rfl, rfl, Nat.le_refl _⟩
  | cons v vs ih =>
    intro o i l w hb hle hfr hone
    simp only [List.length_cons] at hle
    have hset := setCell_self w b (o + i) v hb
    obtain ⟨w', h1, h2, h3, h4, h5, h6, h7⟩ := ih o (i + 1) (l.set (o + i) v) (w.setCell ⟨b, o + i, none⟩ v) hset (by simp; omega) (by simpa using hfr) (fun u hu => hone u (List.mem_cons_of_mem _ hu))
    refine ⟨w', ?_, by rw [h2]; rfl, fun k hk => by rw [h3 k hk, setCell_heap w b (o + i) v k hk], h4, h5, h6, by rw [h7.1]; simp, h7.2⟩
    have hc : w.cell? ⟨b, o + i, none⟩ = some l[o + i] := by simp [World.cell?, hb, show o + i < l.length by omega]
    have hf : w.frozen? ⟨b, o + i, none⟩ = false := by
      simp only [World.frozen?, hb, Bool.and_eq_false_iff, decide_eq_false_iff_not]
      have := hfr (o + i) (by omega)
      omega
    simp only [storeCells, add_none, Sem.run_bind, run_store P w _ v _ (hone v (List.mem_cons_self ..)), hc, hf, Bool.false_eq_true, if_false, Result.andThen_ok]
    exact h1

theorem setSeg_mid : ∀ (vs a c d : List Value), c.length = vs.length → setSeg vs a.length (a ++ c ++ d) = a ++ vs ++ d := by
  intro vs
  induction vs with
  | nil => intro a c d h; simp at h; subst h; simp [setSeg]
  | cons v vs ih =>
    intro a c d h
    cases c with
    | nil => simp at h
    | cons x c =>
      have h' : c.length = vs.length := by simpa using h
      simp only [setSeg]
      have e : (a ++ x :: c ++ d).set a.length v = (a ++ [v]) ++ c ++ d := by
        rw [List.append_assoc, List.set_append_right _ _ (Nat.le_refl _)]
        simp
      rw [e]
      have := ih (a ++ [v]) c d h'
      simp only [List.length_append, List.length_cons, List.length_nil, Nat.zero_add] at this
      rw [this]
      simp

theorem cut_le (w : World) (need old : Nat) (e : TypeId) (h : need < 9223372036854775808) : (Question.appendCap need old e).cut (w.tape w.drawn (.appendCap need old e)) ≤ 9223372036854775807 := by
  simp only [Question.cut]
  have e1 : (2 ^ 63 : Nat) = 9223372036854775808 := by decide
  have := Nat.mod_lt (w.tape w.drawn (.appendCap need old e)) (show 0 < 2 ^ 63 - need by omega)
  omega

theorem cut_ge (w : World) (need old : Nat) (e : TypeId) : need ≤ (Question.appendCap need old e).cut (w.tape w.drawn (.appendCap need old e)) := by
  simp only [Question.cut]; omega

/-- What is appended: the cells of a slice that may be read. -/
theorem RArr.first {P : Program} {q : Option Addr} {n c : Nat} {sz : Nat} {cs : List Value} {w : World} (h : RArr ⟨q, n, c⟩ sz cs (mem w)) : (Builtin.firstCells sz n (.slice q n c)).run P w = .ok cs.toArray w := by
  obtain ⟨hl, hc⟩ := h
  have nil : n = 0 → cs = [] := fun hn => List.eq_nil_of_length_eq_zero (by rw [hl]; simp [hn])
  cases q with
  | none =>
    have hn : n = 0 := by
      rcases Nat.eq_zero_or_pos n with h | h
      · exact h
      · obtain ⟨b, o, _, _, _, _, hp', _⟩ := hc h
        cases hp'
    rw [nil hn]
    simp [Builtin.firstCells]
  | some a =>
    rcases Nat.eq_zero_or_pos n with hn | hn
    · rw [nil hn, hn]
      simp [Builtin.firstCells, loadCells, loadCellsFrom]
    · obtain ⟨b, o, pre, post, e, fr, hp', hb, ho⟩ := hc hn
      simp only [Option.some.injEq] at hp'
      subst hp'
      have hb' : w.heap[b]? = some (.cells (pre ++ cs ++ post).toArray e fr) := hb
      exact run_firstCells_some (P := P) w sz n ⟨b, o, none⟩ n c cs hl (fun j v hj => by
        have hlt : j < cs.length := (List.getElem?_eq_some_iff.1 hj).1
        rw [add_none]
        simp only [World.cell?, hb']
        simp only [Option.isSome_none, Bool.false_eq_true, if_false, List.getElem?_toArray]
        rw [List.append_assoc, List.getElem?_append_right (by omega), ho, Nat.add_sub_cancel_left, List.getElem?_append_left hlt]
        exact hj)

section
variable {P : Program} {t ty e : TypeId} {sz by_ : Nat} {w : World}

theorem append_none (hok : appOk P t e sz by_ = true) {q : Option Addr} {sc n c : Nat} {cs : List Value} (hf : (Builtin.firstCells sz n (.slice q n c)).run P w = .ok cs.toArray w) {sn : Nat} (hroom : sn + n ≤ sc) :
    (Builtin.append_ #[t, t] ty #[.slice none sn sc, .slice q n c]).run P w = .ok (.slice none (sn + n) sc) w := by
  obtain ⟨i, z, ht, hi, hsize, hbytes, hpos, hz, hzs⟩ := appOk_spec hok
  subst hsize
  simp [Builtin.append_, run_underlying ht, sizeOf, typeInfo, hi, Builtin.lenOf, hroom, hf]

theorem append_fits (hok : appOk P t e sz by_ = true) {a : Addr} {q : Option Addr} {sn sc n c : Nat} {cs : List Value} (hf : (Builtin.firstCells sz n (.slice q n c)).run P w = .ok cs.toArray w) (hroom : sn + n ≤ sc) {w' : World}
    (hs : (storeCells (a.add (sn * sz)) cs).run P w = .ok () w') : (Builtin.append_ #[t, t] ty #[.slice (some a) sn sc, .slice q n c]).run P w = .ok (.slice (some a) (sn + n) sc) w' := by
  obtain ⟨i, z, ht, hi, hsize, hbytes, hpos, hz, hzs⟩ := appOk_spec hok
  subst hsize
  simp [Builtin.append_, run_underlying ht, sizeOf, typeInfo, hi, Builtin.lenOf, hroom, hf, hs]

theorem append_grows (hok : appOk P t e sz by_ = true) {p q : Option Addr} {sn sc n c : Nat} {os cs : List Value} (hfs : ∀ w2 : World, mem w2 = mem w → (Builtin.firstCells sz sn (.slice p sn sc)).run P w2 = .ok os.toArray w2)
    (hf : ∀ w2 : World, mem w2 = mem w → (Builtin.firstCells sz n (.slice q n c)).run P w2 = .ok cs.toArray w2) (hroom : ¬ sn + n ≤ sc) (hb : (sn + n) * by_ ≤ 140737488355328) {zl : List Value} (hzl : zeroOf P e = some zl) :
    ∃ (k : Nat), sn + n ≤ k ∧ k ≤ 9223372036854775807 ∧ (Builtin.append_ #[t, t] ty #[.slice p sn sc, .slice q n c]).run P w = .ok (.slice (some ⟨w.heap.size, 0, none⟩) (sn + n) k) (w.drew.alloc (.cells (os ++ cs ++ repL zl (k - (sn + n))).toArray e)) := by
  obtain ⟨i, z, ht, hi, hsize, hbytes, hpos, hz, hzs⟩ := appOk_spec hok
  subst hsize
  subst hbytes
  have h48 := growslice_fits (by omega : sc < sn + n) hb
  have h63 : ¬ (9223372036854775807 < ((sn : Int) + (n : Int))) := by
    have : sn + n ≤ (sn + n) * i.bytes := Nat.le_mul_of_pos_right _ hpos
    omega
  have h48' : ¬ (281474976710656 < Builtin.nextslicecap (sn + n) sc * i.bytes) := by omega
  have hf1 := hf w.drew rfl
  have hf2 := hfs w.drew rfl
  obtain ⟨i', z', hi', hz', rfl⟩ := zeroOf_some hzl
  obtain rfl : i' = i := by rw [hi] at hi'; exact (Option.some.inj hi').symm
  obtain rfl : z' = z := by rw [hz] at hz'; exact (Option.some.inj hz').symm
  have hzc : ∀ m, Builtin.zeroCells z'.cells m = (repL z'.cells.toList m).toArray := fun m => by rw [← range_repL]; rfl
  refine ⟨grownCap w (sn + n) sc e, cut_ge w _ _ _, cut_le w _ _ _ (by omega), ?_⟩
  simp [Builtin.append_, run_underlying ht, sizeOf, typeInfo, zeroValue, hi, hz, Builtin.lenOf, hroom, h63, h48', Question.forced, hf1, hf2, newRow, grownCap, hzc]

end

variable {B : Base} {As : List HP} {α : Type}

theorem repL_flat (E : Enc α) (m : Nat) : repL (E.f E.zero) m = flat E (List.replicate m E.zero) := by
  induction m with
  | zero => rfl
  | succ m ih => simp only [repL, ih, List.replicate_succ]; simp [flat]

/-- THE APPEND, at the level of the state. -/
theorem append_spec {P : Program} {t ty e : TypeId} {sz by_ : Nat} (hok : appOk P t e sz by_ = true) {E : Enc α} (hsz : E.sz = sz) (hz : zeroOf P e = some (E.f E.zero)) {s y : Sl} {xs ys : List α} {F : List HP} {w : World} (hw : Sx B (Ar E s xs :: F) w) (hy : RAr E y ys (mem w))
    (hb : (xs.length + ys.length) * by_ ≤ 140737488355328) :
    ∃ s' w', (Builtin.append_ #[t, t] ty #[s.v, y.v]).run P w = .ok (Sl.v s') w' ∧ Sx B (Ar E s' (xs ++ ys) :: F) w' := by
  subst hsz
  obtain ⟨p, sn, sc⟩ := s
  obtain ⟨q, n, c⟩ := y
  obtain ⟨hyn, hyr⟩ := hy
  simp only at hyn
  have hfy := fun (w2 : World) (h : mem w2 = mem w) => RArr.first (P := P) (w := w2) (by rw [h]; exact hyr)
  have hw0 := hw
  obtain ⟨g, ⟨h1, h2, ⟨zs, p1⟩, p2, dd, s1, s2⟩, hsub, hupd⟩ := hw
  have hxr : RAr E ⟨p, sn, sc⟩ xs (mem w) := p1.read.mono (s1.trans hsub)
  have hfx := fun (w2 : World) (h : mem w2 = mem w) => RArr.first (P := P) (w := w2) (by rw [h]; exact hxr.2)
  have hxn : xs.length = sn := p1.1
  have hxc : xs.length + zs.length = sc := p1.2.1
  by_cases hroom : sn + n ≤ sc
  · cases p with
    | none =>
      have h0 : sc = 0 := by
        rcases p1.2.2 with ⟨_, h⟩ | ⟨b, o, _, _, _, _, h, _⟩
        · exact h
        · cases h
      have hys : ys = [] := List.eq_nil_of_length_eq_zero (by omega)
      have hn0 : n = 0 := by omega
      subst hys hn0
      refine ⟨⟨none, sn + 0, sc⟩, w, append_none hok (hfy w rfl) hroom, ?_⟩
      rw [List.append_nil]
      exact hw0
    | some a =>
      rcases p1.2.2 with ⟨h, _⟩ | ⟨b, o, pre, post, e1, fr, hp, hbk, ho, hfr, hM⟩
      · cases h
      · simp only [Option.some.injEq] at hp
        subst hp
        have hwb : w.heap[b]? = some (.cells (pre ++ flat E (xs ++ zs) ++ post).toArray e1 fr) := hsub _ _ (s1 _ _ hbk)
        have hfl := flat_length E xs
        have hfly := flat_length E ys
        have hzl : ys.length ≤ zs.length := by omega
        have hzsplit : flat E (xs ++ zs) = flat E xs ++ flat E (zs.take ys.length) ++ flat E (zs.drop ys.length) := by
          rw [← flat_append, ← flat_append, List.append_assoc, List.take_append_drop]
        obtain ⟨w', r1, r2, r3, r4, r5, r6, r7⟩ := storeCells_blk (P := P) b e1 fr (flat E ys) (o + sn * E.sz) 0 (pre ++ flat E (xs ++ zs) ++ post) w hwb (by
          have : (xs.length + ys.length) * E.sz ≤ (xs.length + zs.length) * E.sz := Nat.mul_le_mul_right _ (by omega)
          rw [Nat.add_mul] at this
          simp only [List.length_append, flat_length, hfly, ho, ← hxn]; omega) hfr (flat_one E ys)
        have hseg : setSeg (flat E ys) (o + sn * E.sz + 0) (pre ++ flat E (xs ++ zs) ++ post) = pre ++ flat E (xs ++ ys ++ zs.drop ys.length) ++ post := by
          have := setSeg_mid (flat E ys) (pre ++ flat E xs) (flat E (zs.take ys.length)) (flat E (zs.drop ys.length) ++ post) (by rw [flat_length, flat_length, List.length_take, Nat.min_eq_left hzl])
          rw [List.length_append, ho, hfl, hxn] at this
          rw [Nat.add_zero, hzsplit, flat_append, flat_append]
          simp only [List.append_assoc] at this ⊢
          exact this
        rw [hseg] at r2
        refine ⟨⟨some ⟨b, o, none⟩, sn + n, sc⟩, w', append_fits hok (hfy w rfl) hroom (by rw [add_none]; exact r1), ?_⟩
        have hst : Sx B (Blk b (pre ++ flat E (xs ++ zs) ++ post) :: F) w := ⟨g, ⟨h1, h2, ⟨e1, fr, hbk, hfr⟩, p2, dd, s1, s2⟩, hsub, hupd⟩
        have := hst.write (cs' := pre ++ flat E (xs ++ ys ++ zs.drop ys.length) ++ post) hwb r3 r2 (by
          simp only [List.length_append, List.length_drop, flat_length]
          have : xs.length + ys.length + (zs.length - ys.length) = xs.length + zs.length := by omega
          rw [this]) r4 r5 r6 r7
        obtain ⟨g', hg', hm', hu'⟩ := this
        exact ⟨g', star_imp (fun q hq => ⟨zs.drop ys.length, Ars.of_blk hq rfl ho (by simp; omega) (by simp; omega) hM⟩) hg', hm', hu'⟩
  · obtain ⟨k, hk, hkM, hrun⟩ := append_grows (ty := ty) hok hfx hfy hroom (by rw [← hxn, ← hyn]; exact hb) hz
    refine ⟨⟨some ⟨w.heap.size, 0, none⟩, sn + n, k⟩, _, hrun, ?_⟩
    have hd : Sx B (Ar E ⟨p, sn, sc⟩ xs :: F) w.drew := hw0.drew
    have ha := (hd.tail).alloc (flat E xs ++ flat E ys ++ repL (E.f E.zero) (k - (sn + n))) e
    obtain ⟨g', hg', hm', hu'⟩ := ha
    refine ⟨g', star_imp (fun q hq => ⟨List.replicate (k - (sn + n)) E.zero, ?_⟩) hg', hm', hu'⟩
    rw [repL_flat, ← flat_append, ← flat_append] at hq
    exact Ars.of_blk (pre := []) (post := []) (by simpa using hq) rfl rfl (by simp; omega) (by simp; omega) hkM

/-- append(s, y...) -/
theorem xapp {P : Program} {t ty e : TypeId} {sz by_ : Nat} {z : List Value} [a : AppT P t e sz by_ z] {E : Enc α} {s y : Sl} {xs ys : List α} {upd : Sl → List α → List HP} {rest : List HP} {K : Sl → WP} [o : OwnA s As E xs upd rest] [r : RdA B As y E ys]
    (hsz : E.sz = sz := by rfl) (hz : E.f E.zero = z := by rfl) (hb : (xs.length + ys.length) * by_ ≤ 140737488355328) (h : ∀ s', Ent B (upd s' (xs ++ ys)) (K s')) : Ent B As (XApp P t t ty s.v y.v K) := by
  intro w hw
  obtain ⟨s', w', hr, hx⟩ := append_spec (ty := ty) a.ok hsz (by rw [hz]; exact a.zero) (hw.perm o.start) (r.rd w hw) hb
  exact ⟨s', w', hr, h s' w' (hx.perm (o.perm s' (xs ++ ys)).symm)⟩

/-- append(s, x): the element lies in a block of its own. -/
theorem xapp1 {P : Program} {t ty e : TypeId} {sz by_ : Nat} {z : List Value} [a : AppT P t e sz by_ z] {E : Enc α} {s : Sl} {xs : List α} {upd : Sl → List α → List HP} {rest : List HP} {b : Nat} {cs : List Value} {updb : List Value → List HP} {F : List HP} {K : Sl → WP}
    [ob : Own b As cs updb F] [o : OwnA s F E xs upd rest] (x : α) (hx : E.f x = cs := by rfl) (hsz : E.sz = sz := by rfl) (hz : E.f E.zero = z := by rfl) (hb : (xs.length + 1) * by_ ≤ 140737488355328) (h : ∀ s', Ent B (upd s' (xs ++ [x])) (K s')) :
    Ent B As (XApp P t t ty s.v (.slice (some ⟨b, 0, none⟩) 1 1) K) := by
  intro w hw
  have hw1 : Sx B (Blk b cs :: F) w := hw.own
  have hw2 : Sx B (Ars E ⟨some ⟨b, 0, none⟩, 1, 1⟩ [x] [] :: F) w := by
    obtain ⟨g, hg, hm, hu⟩ := hw1
    exact ⟨g, star_imp (fun q hq => blk_ar [x] 1 rfl (by simp [flat, hx]) hq) hg, hm, hu⟩
  obtain ⟨q, hq, hqs⟩ := hw2.head
  obtain ⟨s', w', hr, hx'⟩ := append_spec (ty := ty) a.ok hsz (by rw [hz]; exact a.zero) (hw1.tail.perm o.start) (hq.read.mono hqs) (by simpa using hb)
  exact ⟨s', w', hr, h s' w' (hx'.perm (o.perm s' (xs ++ [x])).symm)⟩

end Go.Cf
