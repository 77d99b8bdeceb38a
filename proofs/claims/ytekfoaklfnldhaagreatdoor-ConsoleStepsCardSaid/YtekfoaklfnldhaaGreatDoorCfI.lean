/-
  copy; append of so many zeros; do slices overlap?
-/
import Derived.Test.YtekfoaklfnldhaaGreatDoorCfW
import Derived.Laws.Externs
namespace Go.Cf
open Go
set_option linter.unusedVariables false
variable {B : Base} {As F : List HP} {α β : Type}

theorem first_of {P : Program} {E : Enc α} {y : Sl} {ys : List α} {w : World} (hy : RAr E y ys (mem w)) {k : Nat} (hk : k ≤ ys.length) : (Builtin.firstCells E.sz k y.v).run P w = .ok (flat E (ys.take k)).toArray w := by
  obtain ⟨q, n, c⟩ := y
  by_cases h0 : k = 0
  · subst h0
    cases q <;> simp [Builtin.firstCells, loadCells, loadCellsFrom, flat]
  · have h1 := hy.cut 0 k k (Nat.zero_le _) (Nat.le_refl _) hk
    have e : (⟨q, n, c⟩ : Sl).cut 0 k k E.sz = ⟨q, k, k⟩ := by
      unfold Sl.cut
      rw [if_neg h0]
      cases q with
      | none => simp
      | some a => simp [Addr.add]
    rw [e, List.drop_zero] at h1
    have h2 := RArr.first (P := P) h1.2
    have e2 : Builtin.firstCells E.sz k (Value.slice q n c) = Builtin.firstCells E.sz k (Value.slice q k k) := by cases q <;> rfl
    show (Builtin.firstCells E.sz k (Value.slice q n c)).run P w = _
    rw [e2]
    exact h2

/-- copy into a part of one's own slice; what is copied may lie in that slice. -/
theorem copy_in {P : Program} {t u ty e : TypeId} {sz by_ : Nat} (hok : appOk P t e sz by_ = true) {E : Enc α} (hsz : E.sz = sz) {s y : Sl} {xs zs us ys : List α} {l dn dc : Nat} {base : Option Addr} {F : List HP} {w : World} (hw : Sx B (Ars E s xs zs :: F) w)
    (hu : xs ++ zs = us) (hy : RAr E y ys (mem w)) (hbase : base = s.p.map (·.add (l * sz)) ∨ dn = 0) (hlk : l + min ys.length dn ≤ us.length) :
    ∃ w', (Builtin.copy_ #[t, u] ty #[.slice base dn dc, y.v]).run P w = .ok (.int .i64 ((min ys.length dn : Nat) : Int)) w' ∧
      ∀ xs' zs', xs' ++ zs' = us.take l ++ ys.take (min ys.length dn) ++ us.drop (l + min ys.length dn) → xs'.length = xs.length → Sx B (Ars E s xs' zs' :: F) w' := by
  subst hsz hu
  obtain ⟨i, z, ht, hi, hsize, hbytes, hpos, hz0, hzs⟩ := appOk_spec hok
  generalize hk : min ys.length dn = k at *
  have hky : k ≤ ys.length := by omega
  have hfirst := first_of (P := P) hy hky
  have hyn : ys.length = y.n := hy.1
  have hmin : Nat.min y.n dn = k := by rw [← hyn]; exact hk
  have hlen : (ys.take k).length = k := by rw [List.length_take]; omega
  have hst0 := hw
  have nothing : k = 0 → ∀ base', (∀ a, base' = some a → True) → ∃ w', (Builtin.copy_ #[t, u] ty #[.slice base' dn dc, y.v]).run P w = .ok (.int .i64 ((k : Nat) : Int)) w' ∧
      ∀ xs' zs', xs' ++ zs' = (xs ++ zs).take l ++ ys.take k ++ (xs ++ zs).drop (l + k) → xs'.length = xs.length → Sx B (Ars E s xs' zs' :: F) w' := by
    intro h0 base' _
    subst h0
    have hf0 : (flat E (ys.take 0)).toArray = #[] := by simp [flat]
    rw [hf0] at hfirst
    refine ⟨w, ?_, fun xs' zs' he hl' => ?_⟩
    · obtain ⟨q, n, c⟩ := y
      simp only at hmin
      cases base' with
      | none => simp only [Builtin.copy_]; simp [run_underlying ht, sizeOf, typeInfo, hi, hsize, Builtin.lenOf, hmin, hfirst, goInt]
      | some a => simp only [Builtin.copy_]; simp [run_underlying ht, sizeOf, typeInfo, hi, hsize, Builtin.lenOf, hmin, hfirst, goInt, storeCells]
    · obtain ⟨g, hg, hm, hu⟩ := hst0
      refine ⟨g, star_imp (fun q hq => ?_) hg, hm, hu⟩
      obtain ⟨p, n, c'⟩ := s
      exact hq.shift (by rw [he]; simp) (by rw [hl']; exact hq.1)
  by_cases hk0 : k = 0
  · exact nothing hk0 base (fun _ _ => trivial)
  have hbase' : base = s.p.map (·.add (l * E.sz)) := by
    rcases hbase with h | h
    · exact h
    · omega
  subst hbase'
  obtain ⟨g, ⟨h1, h2, p1, p2, dd, s1, s2⟩, hsub, hupd⟩ := hw
  have hcap := p1.2.1
  rcases p1.2.2 with ⟨_, h⟩ | ⟨b, o, pre, post, e1, fr, hp, hbk, ho, hfr, hM⟩
  · simp only [List.length_append] at hlk; omega
  have hwb : w.heap[b]? = some (.cells (pre ++ flat E (xs ++ zs) ++ post).toArray e1 fr) := hsub _ _ (s1 _ _ hbk)
  obtain ⟨w', r1, r2, r3, r4, r5, r6, r7⟩ := storeCells_blk (P := P) b e1 fr (flat E (ys.take k)) (o + l * E.sz) 0 (pre ++ flat E (xs ++ zs) ++ post) w hwb (by
    have : (l + k) * E.sz ≤ (xs ++ zs).length * E.sz := Nat.mul_le_mul_right _ hlk
    rw [Nat.add_mul] at this
    simp only [List.length_append, flat_length, ho, hlen] at this ⊢; omega) hfr (flat_one E _)
  have hsplit : flat E (xs ++ zs) = flat E ((xs ++ zs).take l) ++ flat E (((xs ++ zs).drop l).take k) ++ flat E ((xs ++ zs).drop (l + k)) := by
    rw [← flat_append, ← flat_append, List.append_assoc, ← List.drop_drop, List.take_append_drop, List.take_append_drop]
  have hseg : setSeg (flat E (ys.take k)) (o + l * E.sz + 0) (pre ++ flat E (xs ++ zs) ++ post) = pre ++ flat E ((xs ++ zs).take l ++ ys.take k ++ (xs ++ zs).drop (l + k)) ++ post := by
    have := setSeg_mid (flat E (ys.take k)) (pre ++ flat E ((xs ++ zs).take l)) (flat E (((xs ++ zs).drop l).take k)) (flat E ((xs ++ zs).drop (l + k)) ++ post) (by
      rw [flat_length, flat_length, List.length_take, List.length_drop, hlen, Nat.min_eq_left (by omega)])
    rw [List.length_append, ho, flat_length, List.length_take, Nat.min_eq_left (by omega)] at this
    rw [Nat.add_zero, hsplit, flat_append, flat_append]
    simp only [List.append_assoc] at this ⊢
    exact this
  rw [hseg] at r2
  refine ⟨w', ?_, fun xs' zs' he hl' => ?_⟩
  · obtain ⟨q, n, c⟩ := y
    simp only at hmin
    simp only [Builtin.copy_]
    simp [run_underlying ht, sizeOf, typeInfo, hi, hsize, Builtin.lenOf, hmin, hfirst, goInt, hp, add_none, r1]
  · have hst : Sx B (Blk b (pre ++ flat E (xs ++ zs) ++ post) :: F) w := ⟨g, ⟨h1, h2, ⟨e1, fr, hbk, hfr⟩, p2, dd, s1, s2⟩, hsub, hupd⟩
    have hlen2 : ((xs ++ zs).take l ++ ys.take k ++ (xs ++ zs).drop (l + k)).length = (xs ++ zs).length := by
      simp only [List.length_append, List.length_take, List.length_drop] at hlk hlen ⊢; omega
    have := hst.write (cs' := pre ++ flat E ((xs ++ zs).take l ++ ys.take k ++ (xs ++ zs).drop (l + k)) ++ post) hwb r3 r2 (by
      rw [List.length_append, List.length_append, List.length_append, List.length_append, flat_length, flat_length, hlen2]) r4 r5 r6 r7
    obtain ⟨g', hg', hm', hu'⟩ := this
    refine ⟨g', star_imp (fun q hq => Ars.of_blk (b := b) (o := o) (pre := pre) (post := post) (by rw [he]; exact hq) hp ho (by rw [hl']; exact p1.1) ?_ (by exact hM)) hg', hm', hu'⟩
    have hh : xs'.length + zs'.length = xs.length + zs.length := by
      have h5 := congrArg List.length he
      rw [hlen2] at h5
      simpa using h5
    rw [hh]; exact p1.2.1

theorem cut_base (s : Sl) (l r m sz : Nat) (hrm : r ≤ m) : (s.cut l r m sz).p = s.p.map (·.add (l * sz)) ∨ (s.cut l r m sz).n = 0 := by
  unfold Sl.cut
  by_cases h : m = l
  · right; simp only; omega
  · left; simp [h]

/-- copy(s[l:r:m], y) -/
theorem xcopy {P : Program} {t u ty e : TypeId} {sz by_ : Nat} {z : List Value} [a : AppT P t e sz by_ z] {E : Enc α} {s y : Sl} {xs zs ys : List α} {l r m : Nat} {F : List HP} {K : Int → WP}
    (hy : ∀ w, Sx B (Ars E s xs zs :: F) w → RAr E y ys (mem w)) (xs' zs' : List α) (hsz : E.sz = sz := by rfl) (hrm : r ≤ m) (hlk : l + min ys.length (r - l) ≤ xs.length + zs.length) (hl : xs'.length = xs.length)
    (he : xs' ++ zs' = (xs ++ zs).take l ++ ys.take (min ys.length (r - l)) ++ (xs ++ zs).drop (l + min ys.length (r - l)))
    (h : ∀ n, Ent B (Ars E s xs' zs' :: F) (K n)) : Ent B (Ars E s xs zs :: F) (XCopy P t u ty (s.cut l r m sz).v y.v K) := by
  intro w hw
  obtain ⟨w', hr, hx⟩ := copy_in (P := P) (u := u) (ty := ty) (l := l) (dn := r - l) (dc := (s.cut l r m sz).c) (base := (s.cut l r m sz).p) a.ok hsz hw rfl (hy w hw) (by
    have := cut_base s l r m sz hrm
    rcases this with h | h
    · exact .inl h
    · exact .inr h) (by simpa using hlk)
  exact ⟨_, w', hr, h _ w' (hx xs' zs' he hl)⟩

/-- append(s, make([]T, k)...), where there is no room. -/
theorem append_zeros {P : Program} {t u ty e : TypeId} {k0 : IntKind} {sz by_ : Nat} (hok : appOk P t e sz by_ = true) (hu : P.underlying u = some (.int k0)) {E : Enc α} (hsz : E.sz = sz) (hz : zeroOf P e = some (E.f E.zero)) {s : Sl} {xs : List α} {n : Nat} {w : World}
    (hxr : RAr E s xs (mem w)) (hpn : 0 < n) (hroom : ¬ s.n + n ≤ s.c) (hb : (s.n + n) * by_ ≤ 140737488355328) :
    ∃ (k : Nat), s.n + n ≤ k ∧ k ≤ 9223372036854775807 ∧ (Builtin.append_ #[t, u] ty #[s.v, .int .i64 (n : Int)]).run P w = .ok (.slice (some ⟨w.heap.size, 0, none⟩) (s.n + n) k) (w.drew.alloc (.cells (flat E xs ++ flat E (List.replicate n E.zero) ++ repL (E.f E.zero) (k - (s.n + n))).toArray e)) := by
  obtain ⟨i, z, ht, hi, hsize, hbytes, hpos, hz0, hzs⟩ := appOk_spec hok
  subst hsize
  subst hbytes
  obtain ⟨p, sn, sc⟩ := s
  simp only at hroom hb
  have h48 := growslice_fits (by omega : sc < sn + n) hb
  have hle : sn + n ≤ (sn + n) * i.bytes := Nat.le_mul_of_pos_right _ hpos
  have h63 : ¬ (9223372036854775807 < ((sn : Int) + (n : Int))) := by omega
  have h48' : ¬ (281474976710656 < Builtin.nextslicecap (sn + n) sc * i.bytes) := by omega
  have hnb : n * i.bytes ≤ (sn + n) * i.bytes := Nat.mul_le_mul_right _ (by omega)
  have hl2 : ¬ (281474976710656 < (n : Int) * (i.bytes : Int)) := by
    have : ((n * i.bytes : Nat) : Int) ≤ 281474976710656 := by omega
    rw [Int.natCast_mul] at this
    omega
  have hw : IntKind.i64.wrap (n : Int) = n := wrap_id _ (by omega) (by omega)
  obtain ⟨i', z', hi', hz', hzf⟩ := zeroOf_some hz
  obtain rfl : i' = i := by rw [hi] at hi'; exact (Option.some.inj hi').symm
  obtain rfl : z' = z := by rw [hz0] at hz'; exact (Option.some.inj hz').symm
  have hfx := RArr.first (P := P) (w := w.drew) (hxr.2)
  rw [hsz] at hfx
  have hzc : ∀ m, Builtin.zeroCells z'.cells m = (repL z'.cells.toList m).toArray := fun m => by rw [← range_repL]; rfl
  have hfl : flat E (List.replicate n E.zero) = repL z'.cells.toList n := by rw [← repL_flat, hzf]
  refine ⟨grownCap w (sn + n) sc e, cut_ge w _ _ _, cut_le w _ _ _ (by omega), ?_⟩
  rw [hfl, hzf]
  have hn0 : ¬ (n * i'.size = 0) := fun h => by
    rcases Nat.mul_eq_zero.1 h with h | h
    · omega
    · have := E.pos; omega
  simp only [Builtin.append_]
  simp [run_underlying ht, run_underlying hu, sizeOf, typeInfo, zeroValue, hi, hz0, asInt, asIntOf, hw, hl2, hroom, h63, h48', Question.forced, hfx, newRow, grownCap, hzc, hn0]
  intro h
  omega

/-- append(s, make([]T, k)...), grown: a new block. -/
theorem xappz {P : Program} {t u ty e : TypeId} {k0 : IntKind} {sz by_ : Nat} {z : List Value} [a : AppT P t e sz by_ z] {E : Enc α} {s : Sl} {xs : List α} {n : Nat} {K : Sl → WP} (hu : P.underlying u = some (.int k0))
    (hr : ∀ w, Sx B As w → RAr E s xs (mem w)) (hpn : 0 < n) (hroom : ¬ s.n + n ≤ s.c) (hb : (s.n + n) * by_ ≤ 140737488355328) (hsz : E.sz = sz := by rfl) (hz : E.f E.zero = z := by rfl)
    (h : ∀ s', s'.n = s.n + n → s'.n ≤ s'.c → Ent B (Ar E s' (xs ++ List.replicate n E.zero) :: As) (K s')) : Ent B As (XApp P t u ty s.v (.int .i64 (n : Int)) K) := by
  intro w hw
  have hxr := hr w hw
  obtain ⟨k, hk, hkM, hrun⟩ := append_zeros (ty := ty) a.ok hu hsz (by rw [hz]; exact a.zero) hxr hpn hroom hb
  refine ⟨⟨some ⟨w.heap.size, 0, none⟩, s.n + n, k⟩, _, hrun, h _ rfl (by simpa using hk) _ ?_⟩
  have ha := (hw.drew).alloc (flat E xs ++ flat E (List.replicate n E.zero) ++ repL (E.f E.zero) (k - (s.n + n))) e
  obtain ⟨g', hg', hm', hu'⟩ := ha
  have hxn : xs.length = s.n := hxr.1
  refine ⟨g', star_imp (fun q hq => ⟨List.replicate (k - (s.n + n)) E.zero, ?_⟩) hg', hm', hu'⟩
  rw [repL_flat, ← flat_append, ← flat_append] at hq
  exact Ars.of_blk (pre := []) (post := []) (by simpa using hq) rfl rfl (by simp; omega) (by simp; omega) hkM

/-- A block that has just been made. -/
def BlkS (b : Nat) (cs : List Value) : HP := fun h => ∃ e, h b = some (.cells cs.toArray e)
theorem BlkS.blk {b : Nat} {cs : List Value} {h : Frag} (hb : BlkS b cs h) : Blk b cs h := by
  obtain ⟨e, hb⟩ := hb
  exact ⟨e, (0, 0), hb, fun i _ h => by simp at h⟩

theorem xnewS {cs : List Value} {e : TypeId} {K : Nat → WP} (h : ∀ b, Ent B (BlkS b cs :: As) (K b)) : Ent B As (XNew cs e K) := fun w hw => h _ _ (hw.allocQ ⟨e, by simp⟩)

theorem run_overlaps {P : Program} {t e : TypeId} {sz : Nat} {r : Array TypeId} (ht : P.underlying t = some (.slice e)) (hs : szOf P e = some sz) {bv n c : Nat} {w : World} {cs : List Value} {e1 : TypeId} (hb : w.heap[bv]? = some (.cells cs.toArray e1)) (hcs : 0 < cs.length) {y : Sl}
    (hy : y.p = none ∨ y.n = 0 ∨ ∃ b o cs' e' fr, y.p = some ⟨b, o, none⟩ ∧ b ≠ bv ∧ w.heap[b]? = some (.cells cs' e' fr) ∧ 0 < cs'.size) :
    (Extern.SlicesOverlaps.overlaps #[t, t] r #[.slice (some ⟨bv, 0, none⟩) n c, y.v]).run P w = .ok (.bool false) w := by
  obtain ⟨q, m, d⟩ := y
  simp only at hy
  rw [show Extern.SlicesOverlaps.overlaps #[t, t] r #[.slice (some ⟨bv, 0, none⟩) n c, .slice q m d] = (underlying t >>= _) from rfl]
  simp only [Sem.run_bind, run_underlying ht, Result.andThen_ok, run_sz hs]
  cases q with
  | none => rfl
  | some a =>
    simp only
    by_cases h0 : n = 0 ∨ m = 0 ∨ sz = 0
    · rw [if_pos h0]; rfl
    · rw [if_neg h0]
      rcases hy with h | h | ⟨b, o, cs', e', fr, hp, hne, hbb, hpos⟩
      · cases h
      · exact absurd (.inr (.inl h)) h0
      · simp only [Option.some.injEq] at hp
        subst hp
        have hf : w.frozen? ⟨bv, 0, none⟩ = false := by simp [World.frozen?, hb]
        have hs1 : w.shape? bv = some (e1, cs.length) := by simp [World.shape?, hb]
        have hs2 : w.shape? b = some (e', cs'.size) := by simp [World.shape?, hbb]
        have hf2 : w.frozen? ⟨bv, cs.length, none⟩ = false := by simp [World.frozen?, hb]
        have hne' : (bv != b) = true := by simpa using fun h => hne h.symm
        have hv : ∀ x : Addr, (w.shape? x.block).isSome = true → (noView x).run P w = .ok () w := fun x hx => by simp [noView, viewAt, hx]
        have hst : (stringish ⟨bv, 0, none⟩).run P w = .ok false w := by simp [stringish, hf, hs1, hf2]
        have hst2 : ∃ sb, (stringish ⟨b, o, none⟩).run P w = .ok sb w := by
          cases hfb : w.frozen? ⟨b, o, none⟩ with
          | true => exact ⟨true, by simp [stringish, hfb]⟩
          | false => exact ⟨w.frozen? ⟨b, cs'.size, none⟩, by simp [stringish, hfb, hs2]⟩
        obtain ⟨sb, hst2⟩ := hst2
        have hmay : (mayBeOne ⟨bv, 0, none⟩ ⟨b, o, none⟩).run P w = .ok false w := by
          have hz : cs'.size ≠ 0 := by omega
          simp only [mayBeOne, Sem.run_bind, hst, hst2, Result.andThen_ok, run_shape, Sem.run_pure, hs1, hs2]
          congr 1
          obtain ⟨k, hk⟩ : ∃ k, cs'.size = k + 1 := ⟨cs'.size - 1, by omega⟩
          rw [hk]
          cases sb <;> simp
        simp only [Sem.run_bind, run_frozen, hf, Result.andThen_ok, hne', Bool.and_false, Bool.false_and, Bool.false_eq_true, if_false, if_true, hv ⟨bv, 0, none⟩ (by simp [hs1]), hv ⟨b, o, none⟩ (by simp [hs2]), hmay]
        have e2 : (bv == b) = false := by simpa using fun h => hne h.symm
        simp [e2]

/-- Do what has just been made and a part of one's own slice overlap? They do not. -/
theorem xovl {P : Program} {g : FuncId} {t e : TypeId} {sz : Nat} {r : Array TypeId} (hcall : ∀ args w, (callFunc g args).run P w = ((Extern.SlicesOverlaps.overlaps #[t, t] r args).run P w).andThen fun v w' => .ok (.value v) w')
    (ht : P.underlying t = some (.slice e)) (hs : szOf P e = some sz) {bv n c : Nat} {cs : List Value} {E : Enc α} {s : Sl} {xs zs : List α} {F : List HP} {l k m : Nat} {K : Bool → WP} (hcs : 0 < cs.length) (hpos : 0 < xs.length + zs.length) (hkm : k ≤ m)
    (h : Ent B (Ars E s xs zs :: BlkS bv cs :: F) (K false)) : Ent B (Ars E s xs zs :: BlkS bv cs :: F) (XExt P g [.slice (some ⟨bv, 0, none⟩) n c, (s.cut l k m sz).v] .bool K) := by
  intro w hw
  obtain ⟨g0, ⟨a, rest, pa, ⟨b2, rest2, ⟨e1, pb⟩, _, _, sb2, _⟩, d, sa, sb⟩, hm, hu⟩ := id hw
  have hbv : w.heap[bv]? = some (.cells cs.toArray e1) := hm _ _ (sb _ _ (sb2 _ _ pb))
  refine ⟨false, w, ?_, h w hw⟩
  rw [hcall]
  have := run_overlaps (P := P) (r := r) ht hs (n := n) (c := c) hbv hcs (y := s.cut l k m sz) ?_
  · show Result.andThen (Sem.run P (Extern.SlicesOverlaps.overlaps #[t, t] r #[.slice (some ⟨bv, 0, none⟩) n c, (s.cut l k m sz).v]) w) _ = _
    rw [this]; rfl
  · by_cases hml : m = l
    · right; left; simp only [Sl.cut]; omega
    · rcases pa.2.2 with ⟨h0, _⟩ | ⟨b, o, pre, post, e', fr, hp, hbk, ho, _, _⟩
      · left; simp [Sl.cut, hml, h0]
      · right; right
        refine ⟨b, o + l * sz, _, e', fr, by simp [Sl.cut, hml, hp, add_none], ?_, hm _ _ (sa _ _ hbk), ?_⟩
        · intro e
          subst e
          rcases d b with h | h
          · rw [hbk] at h; cases h
          · rw [sb2 _ _ pb] at h; cases h
        · have h1 := flat_length E (xs ++ zs)
          have h2 := E.pos
          have h3 : 0 < (xs ++ zs).length * E.sz := Nat.mul_pos (by simp; omega) h2
          simp only [List.size_toArray, List.length_append] at *; omega

end Go.Cf
