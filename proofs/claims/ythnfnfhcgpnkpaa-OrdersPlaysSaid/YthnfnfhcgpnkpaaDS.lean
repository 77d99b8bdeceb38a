/-
  An append that tells what lies behind.
-/
import Derived.Test.YthnfnfhcgpnkpaaDR
namespace Go.Cf
open Go
set_option linter.unusedVariables false
variable {B : Base} {As : List HP} {α : Type}

theorem append_specP {P : Program} {t ty e : TypeId} {sz by_ : Nat} (hok : appOk P t e sz by_ = true) {E : Enc α} (hsz : E.sz = sz) (hz : zeroOf P e = some (E.f E.zero)) {s y : Sl} {xs zs ys : List α} {F : List HP} {w : World} (hw : Sx B (Ars E s xs zs :: F) w) (hy : RAr E y ys (mem w))
    (hb : (xs.length + ys.length) * by_ ≤ 140737488355328) :
    ∃ s' w' zs', (Builtin.append_ #[t, t] ty #[s.v, y.v]).run P w = .ok (Sl.v s') w' ∧ Sx B (Ars E s' (xs ++ ys) zs' :: F) w' ∧ ∀ z ∈ zs', z ∈ zs ∨ z = E.zero := by
  subst hsz
  obtain ⟨p, sn, sc⟩ := s
  obtain ⟨q, n, c⟩ := y
  obtain ⟨hyn, hyr⟩ := hy
  simp only at hyn
  have hfy := fun (w2 : World) (h : mem w2 = mem w) => RArr.first (P := P) (w := w2) (by rw [h]; exact hyr)
  have hw0 := hw
  obtain ⟨g, ⟨h1, h2, p1, p2, dd, s1, s2⟩, hsub, hupd⟩ := hw
  have hxr : RAr E ⟨p, sn, sc⟩ xs (mem w) := p1.read.mono (s1.trans hsub)
  have hfx := fun (w2 : World) (h : mem w2 = mem w) => RArr.first (P := P) (w := w2) (by rw [h]; exact hxr.2)
  have hxn : xs.length = sn := p1.1
  have hxc : xs.length + zs.length = sc := p1.2.1
  by_cases hroom : sn + n ≤ sc
  · cases p with
    | none =>
      have h0 : sc = 0 := by
        rcases p1.2.2 with ⟨_, h⟩ | ⟨b, o, _, _, _, _, h, _⟩
        · exact h
        · cases h
      have hys : ys = [] := List.eq_nil_of_length_eq_zero (by omega)
      have hn0 : n = 0 := by omega
      subst hys hn0
      refine ⟨⟨none, sn + 0, sc⟩, w, zs, append_none hok (hfy w rfl) hroom, ?_, fun z h => .inl h⟩
      rw [List.append_nil]
      exact hw0
    | some a =>
      rcases p1.2.2 with ⟨h, _⟩ | ⟨b, o, pre, post, e1, fr, hp, hbk, ho, hfr, hM⟩
      · cases h
      · simp only [Option.some.injEq] at hp
        subst hp
        have hwb : w.heap[b]? = some (.cells (pre ++ flat E (xs ++ zs) ++ post).toArray e1 fr) := hsub _ _ (s1 _ _ hbk)
        have hfl := flat_length E xs
        have hfly := flat_length E ys
        have hzl : ys.length ≤ zs.length := by omega
        have hzsplit : flat E (xs ++ zs) = flat E xs ++ flat E (zs.take ys.length) ++ flat E (zs.drop ys.length) := by
          rw [← flat_append, ← flat_append, List.append_assoc, List.take_append_drop]
        obtain ⟨w', r1, r2, r3, r4, r5, r6, r7⟩ := storeCells_blk (P := P) b e1 fr (flat E ys) (o + sn * E.sz) 0 (pre ++ flat E (xs ++ zs) ++ post) w hwb (by
          have : (xs.length + ys.length) * E.sz ≤ (xs.length + zs.length) * E.sz := Nat.mul_le_mul_right _ (by omega)
          rw [Nat.add_mul] at this
          simp only [List.length_append, flat_length, hfly, ho, ← hxn]; omega) hfr (flat_one E ys)
        have hseg : setSeg (flat E ys) (o + sn * E.sz + 0) (pre ++ flat E (xs ++ zs) ++ post) = pre ++ flat E (xs ++ ys ++ zs.drop ys.length) ++ post := by
          have := setSeg_mid (flat E ys) (pre ++ flat E xs) (flat E (zs.take ys.length)) (flat E (zs.drop ys.length) ++ post) (by rw [flat_length, flat_length, List.length_take, Nat.min_eq_left hzl])
          rw [List.length_append, ho, hfl, hxn] at this
          rw [Nat.add_zero, hzsplit, flat_append, flat_append]
          simp only [List.append_assoc] at this ⊢
          exact this
        rw [hseg] at r2
        refine ⟨⟨some ⟨b, o, none⟩, sn + n, sc⟩, w', zs.drop ys.length, append_fits hok (hfy w rfl) hroom (by rw [add_none]; exact r1), ?_, fun z h => .inl (List.mem_of_mem_drop h)⟩
        have hst : Sx B (Blk b (pre ++ flat E (xs ++ zs) ++ post) :: F) w := ⟨g, ⟨h1, h2, ⟨e1, fr, hbk, hfr⟩, p2, dd, s1, s2⟩, hsub, hupd⟩
        have := hst.write (cs' := pre ++ flat E (xs ++ ys ++ zs.drop ys.length) ++ post) hwb r3 r2 (by
          simp only [List.length_append, List.length_drop, flat_length]
          have : xs.length + ys.length + (zs.length - ys.length) = xs.length + zs.length := by omega
          rw [this]) r4 r5 r6 r7
        obtain ⟨g', hg', hm', hu'⟩ := this
        exact ⟨g', star_imp (Q := Ars E ⟨some ⟨b, o, none⟩, sn + n, sc⟩ (xs ++ ys) (zs.drop ys.length)) (fun q hq => Ars.of_blk hq rfl ho (by simp; omega) (by simp; omega) hM) hg', hm', hu'⟩
  · obtain ⟨k, hk, hkM, hrun⟩ := append_grows (ty := ty) hok hfx hfy hroom (by rw [← hxn, ← hyn]; exact hb) hz
    refine ⟨⟨some ⟨w.heap.size, 0, none⟩, sn + n, k⟩, _, List.replicate (k - (sn + n)) E.zero, hrun, ?_, fun z h => .inr (List.eq_of_mem_replicate h)⟩
    have hd : Sx B (Ars E ⟨p, sn, sc⟩ xs zs :: F) w.drew := hw0.drew
    have ha := (hd.tail).alloc (flat E xs ++ flat E ys ++ repL (E.f E.zero) (k - (sn + n))) e
    obtain ⟨g', hg', hm', hu'⟩ := ha
    refine ⟨g', star_imp (Q := Ars E ⟨some ⟨w.heap.size, 0, none⟩, sn + n, k⟩ (xs ++ ys) (List.replicate (k - (sn + n)) E.zero)) (fun q hq => ?_) hg', hm', hu'⟩
    rw [repL_flat, ← flat_append, ← flat_append] at hq
    exact Ars.of_blk (pre := []) (post := []) (by simpa using hq) rfl rfl (by simp; omega) (by simp; omega) hkM


/-- append(s, x), with what lies behind. -/
theorem xapp1P {P : Program} {t ty e : TypeId} {sz by_ : Nat} {z : List Value} [a : AppT P t e sz by_ z] {E : Enc α} {s : Sl} {xs zs : List α} {b : Nat} {cs : List Value} {updb : List Value → List HP} {F F' : List HP} {K : Sl → WP}
    [ob : Own b As cs updb F] [o : Find (Ars E s xs zs) F F'] (x : α) (hx : E.f x = cs := by rfl) (hsz : E.sz = sz := by rfl) (hz : E.f E.zero = z := by rfl) (hb : (xs.length + 1) * by_ ≤ 140737488355328)
    (h : ∀ s' zs', (∀ z ∈ zs', z ∈ zs ∨ z = E.zero) → Ent B (Ars E s' (xs ++ [x]) zs' :: F') (K s')) :
    Ent B As (XApp P t t ty s.v (.slice (some ⟨b, 0, none⟩) 1 1) K) := by
  intro w hw
  have hw1 : Sx B (Blk b cs :: F) w := hw.own
  have hw2 : Sx B (Ars E ⟨some ⟨b, 0, none⟩, 1, 1⟩ [x] [] :: F) w := by
    obtain ⟨g, hg, hm, hu⟩ := hw1
    exact ⟨g, star_imp (fun q hq => blk_ar [x] 1 rfl (by simp [flat, hx]) hq) hg, hm, hu⟩
  obtain ⟨q, hq, hqs⟩ := hw2.head
  obtain ⟨s', w', zs', hr, hx', hzz⟩ := append_specP (ty := ty) a.ok hsz (by rw [hz]; exact a.zero) (hw1.tail.perm o.perm) (hq.read.mono hqs) (by simpa using hb)
  exact ⟨s', w', hr, h s' zs' hzz w' hx'⟩

end Go.Cf
