/-
  copy of a string into bytes of one's own.
-/
import Derived.Test.YtifochbabgjhpaaGreatDoorCfI
import Derived.Test.YtifochbabgjhpaaGreatDoorCgG
namespace Go.Cf
open Go
set_option linter.unusedVariables false
variable {B : Base} {As : List HP} {α : Type}

theorem copyS_in {P : Program} {t u ty e : TypeId} {by_ : Nat} (hok : appOk P t e 1 by_ = true) {s : Sl} {str : ByteArray} {xs zs us ys : List UInt8} {l dn dc : Nat} {base : Option Addr} {F : List HP} {w : World} (hw : Sx B (Ars U8 s xs zs :: F) w)
    (hu : xs ++ zs = us) (hst : ys = str.data.toList) (hbase : base = s.p.map (·.add (l * 1)) ∨ dn = 0) (hlk : l + min ys.length dn ≤ us.length) :
    ∃ w', (Builtin.copy_ #[t, u] ty #[.slice base dn dc, .string str]).run P w = .ok (.int .i64 ((min ys.length dn : Nat) : Int)) w' ∧
      ∀ xs' zs', xs' ++ zs' = us.take l ++ ys.take (min ys.length dn) ++ us.drop (l + min ys.length dn) → xs'.length = xs.length → Sx B (Ars U8 s xs' zs' :: F) w' := by
  subst hu
  obtain ⟨i, z, ht, hi, hsize, hbytes, hpos, hz0, hzs⟩ := appOk_spec hok
  generalize hk : min ys.length dn = k at *
  have hky : k ≤ ys.length := by omega
  have hyn : ys.length = str.size := by rw [hst]; simp
  have hfirst : (Builtin.firstCells 1 k (.string str)).run P w = .ok (flat U8 (ys.take k)).toArray w := by
    have e0 : flat U8 (ys.take k) = (ys.take k).map fun b => Value.int .u8 (b.toNat : Int) := (List.map_eq_flatMap ..).symm
    have e1 : (str.extract 0 k).data.map (fun b => Value.int .u8 (b.toNat : Int)) = (flat U8 (ys.take k)).toArray := by
      rw [e0, hst, ← Array.toList_inj]; simp [List.map_take]
    show (pure _ : Sem (Array Value)).run P w = _
    rw [e1]; rfl
  have hmin : Nat.min str.size dn = k := by rw [← hyn]; exact hk
  have hlen : (ys.take k).length = k := by rw [List.length_take]; omega
  have hst0 := hw
  have nothing : k = 0 → ∀ base', (∀ a, base' = some a → True) → ∃ w', (Builtin.copy_ #[t, u] ty #[.slice base' dn dc, .string str]).run P w = .ok (.int .i64 ((k : Nat) : Int)) w' ∧
      ∀ xs' zs', xs' ++ zs' = (xs ++ zs).take l ++ ys.take k ++ (xs ++ zs).drop (l + k) → xs'.length = xs.length → Sx B (Ars U8 s xs' zs' :: F) w' := by
    intro h0 base' _
    subst h0
    have hf0 : (flat U8 (ys.take 0)).toArray = #[] := by simp [flat]
    rw [hf0] at hfirst
    refine ⟨w, ?_, fun xs' zs' he hl' => ?_⟩
    · cases base' with
      | none => simp only [Builtin.copy_]; simp [run_underlying ht, sizeOf, typeInfo, hi, hsize, Builtin.lenOf, hmin, hfirst, goInt]
      | some a => simp only [Builtin.copy_]; simp [run_underlying ht, sizeOf, typeInfo, hi, hsize, Builtin.lenOf, hmin, hfirst, goInt, storeCells]
    · obtain ⟨g, hg, hm, hu⟩ := hst0
      refine ⟨g, star_imp (fun q hq => ?_) hg, hm, hu⟩
      obtain ⟨p, n, c'⟩ := s
      exact hq.shift (by rw [he]; simp) (by rw [hl']; exact hq.1)
  by_cases hk0 : k = 0
  · exact nothing hk0 base (fun _ _ => trivial)
  have hbase' : base = s.p.map (·.add (l * U8.sz)) := by
    rcases hbase with h | h
    · exact h
    · omega
  subst hbase'
  obtain ⟨g, ⟨h1, h2, p1, p2, dd, s1, s2⟩, hsub, hupd⟩ := hw
  have hcap := p1.2.1
  rcases p1.2.2 with ⟨_, h⟩ | ⟨b, o, pre, post, e1, fr, hp, hbk, ho, hfr, hM⟩
  · simp only [List.length_append] at hlk; omega
  have hwb : w.heap[b]? = some (.cells (pre ++ flat U8 (xs ++ zs) ++ post).toArray e1 fr) := hsub _ _ (s1 _ _ hbk)
  obtain ⟨w', r1, r2, r3, r4, r5, r6, r7⟩ := storeCells_blk (P := P) b e1 fr (flat U8 (ys.take k)) (o + l * U8.sz) 0 (pre ++ flat U8 (xs ++ zs) ++ post) w hwb (by
    have : (l + k) * U8.sz ≤ (xs ++ zs).length * U8.sz := Nat.mul_le_mul_right _ hlk
    rw [Nat.add_mul] at this
    simp only [List.length_append, flat_length, ho, hlen] at this ⊢; omega) hfr (flat_one U8 _)
  have hsplit : flat U8 (xs ++ zs) = flat U8 ((xs ++ zs).take l) ++ flat U8 (((xs ++ zs).drop l).take k) ++ flat U8 ((xs ++ zs).drop (l + k)) := by
    rw [← flat_append, ← flat_append, List.append_assoc, ← List.drop_drop, List.take_append_drop, List.take_append_drop]
  have hseg : setSeg (flat U8 (ys.take k)) (o + l * U8.sz + 0) (pre ++ flat U8 (xs ++ zs) ++ post) = pre ++ flat U8 ((xs ++ zs).take l ++ ys.take k ++ (xs ++ zs).drop (l + k)) ++ post := by
    have := setSeg_mid (flat U8 (ys.take k)) (pre ++ flat U8 ((xs ++ zs).take l)) (flat U8 (((xs ++ zs).drop l).take k)) (flat U8 ((xs ++ zs).drop (l + k)) ++ post) (by
      rw [flat_length, flat_length, List.length_take, List.length_drop, hlen, Nat.min_eq_left (by omega)])
    rw [List.length_append, ho, flat_length, List.length_take, Nat.min_eq_left (by omega)] at this
    rw [Nat.add_zero, hsplit, flat_append, flat_append]
    simp only [List.append_assoc] at this ⊢
    exact this
  rw [hseg] at r2
  refine ⟨w', ?_, fun xs' zs' he hl' => ?_⟩
  · simp only [Builtin.copy_]
    simp [run_underlying ht, sizeOf, typeInfo, hi, hsize, Builtin.lenOf, hmin, hfirst, goInt, hp, add_none, r1]
  · have hst : Sx B (Blk b (pre ++ flat U8 (xs ++ zs) ++ post) :: F) w := ⟨g, ⟨h1, h2, ⟨e1, fr, hbk, hfr⟩, p2, dd, s1, s2⟩, hsub, hupd⟩
    have hlen2 : ((xs ++ zs).take l ++ ys.take k ++ (xs ++ zs).drop (l + k)).length = (xs ++ zs).length := by
      simp only [List.length_append, List.length_take, List.length_drop] at hlk hlen ⊢; omega
    have := hst.write (cs' := pre ++ flat U8 ((xs ++ zs).take l ++ ys.take k ++ (xs ++ zs).drop (l + k)) ++ post) hwb r3 r2 (by
      rw [List.length_append, List.length_append, List.length_append, List.length_append, flat_length, flat_length, hlen2]) r4 r5 r6 r7
    obtain ⟨g', hg', hm', hu'⟩ := this
    refine ⟨g', star_imp (fun q hq => Ars.of_blk (b := b) (o := o) (pre := pre) (post := post) (by rw [he]; exact hq) hp ho (by rw [hl']; exact p1.1) ?_ (by exact hM)) hg', hm', hu'⟩
    have hh : xs'.length + zs'.length = xs.length + zs.length := by
      have h5 := congrArg List.length he
      rw [hlen2] at h5
      simpa using h5
    rw [hh]; exact p1.2.1


/-- copy(s, string) -/
theorem xcopyS {P : Program} {t u ty e : TypeId} {by_ : Nat} {z : List Value} [a : AppT P t e 1 by_ z] {s : Sl} {str : ByteArray} {xs zs : List UInt8} {F : List HP} {K : Int → WP}
    (xs' : List UInt8) (he : xs' = str.data.toList.take (min str.size s.n) ++ xs.drop (min str.size s.n))
    (h : ∀ n, Ent B (Ars U8 s xs' zs :: F) (K n)) : Ent B (Ars U8 s xs zs :: F) (XCopy P t u ty s.v (.string str) K) := by
  intro w hw
  obtain ⟨g, hg, _⟩ := hw.head
  have hn : xs.length = s.n := hg.1
  have hsz : str.data.toList.length = str.size := by simp
  obtain ⟨w', hr, hx⟩ := copyS_in (P := P) (u := u) (ty := ty) (l := 0) (dn := s.n) (dc := s.c) (base := s.p) (str := str) a.ok hw rfl rfl (by left; cases s.p <;> simp [Addr.add]) (by rw [hsz, List.length_append]; omega)
  refine ⟨_, w', hr, h _ w' (hx xs' zs ?_ ?_)⟩
  · rw [hsz, List.take_zero, List.nil_append, he, Nat.zero_add, List.drop_append_of_le_length (by omega)]; simp
  · rw [he, List.length_append, List.length_take, List.length_drop, hsz]; omega
end Go.Cf
