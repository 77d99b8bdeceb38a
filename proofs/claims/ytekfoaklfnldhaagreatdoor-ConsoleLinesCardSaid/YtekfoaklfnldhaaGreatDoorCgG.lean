/-
  append of a string to bytes of one's own.
-/
import Derived.Test.YtekfoaklfnldhaaGreatDoorCfY
namespace Go.Cf
open Go
set_option linter.unusedVariables false

section
variable {P : Program} {t u ty e : TypeId} {sz by_ : Nat} {w : World}

theorem appendS_none (hok : appOk P t e sz by_ = true) (hu : P.underlying u = some .string) {str : ByteArray} {sc : Nat} {cs : List Value} (hf : (Builtin.firstCells sz str.size (.string str)).run P w = .ok cs.toArray w) {sn : Nat} (hroom : sn + str.size ≤ sc) :
    (Builtin.append_ #[t, u] ty #[.slice none sn sc, .string str]).run P w = .ok (.slice none (sn + str.size) sc) w := by
  obtain ⟨i, z, ht, hi, hsize, hbytes, hpos, hz, hzs⟩ := appOk_spec hok
  subst hsize
  simp [Builtin.append_, run_underlying ht, run_underlying hu, sizeOf, typeInfo, hi, Builtin.lenOf, hroom, hf]

theorem appendS_fits (hok : appOk P t e sz by_ = true) (hu : P.underlying u = some .string) {str : ByteArray}  {a : Addr} {sn sc : Nat} {cs : List Value} (hf : (Builtin.firstCells sz str.size (.string str)).run P w = .ok cs.toArray w) (hroom : sn + str.size ≤ sc) {w' : World}
    (hs : (storeCells (a.add (sn * sz)) cs).run P w = .ok () w') : (Builtin.append_ #[t, u] ty #[.slice (some a) sn sc, (.string str)]).run P w = .ok (.slice (some a) (sn + str.size) sc) w' := by
  obtain ⟨i, z, ht, hi, hsize, hbytes, hpos, hz, hzs⟩ := appOk_spec hok
  subst hsize
  simp [Builtin.append_, run_underlying ht, run_underlying hu, sizeOf, typeInfo, hi, Builtin.lenOf, hroom, hf, hs]

theorem appendS_grows (hok : appOk P t e sz by_ = true) (hu : P.underlying u = some .string) {str : ByteArray}  {p : Option Addr} {sn sc : Nat} {os cs : List Value} (hfs : ∀ w2 : World, mem w2 = mem w → (Builtin.firstCells sz sn (.slice p sn sc)).run P w2 = .ok os.toArray w2)
    (hf : ∀ w2 : World, mem w2 = mem w → (Builtin.firstCells sz str.size (.string str)).run P w2 = .ok cs.toArray w2) (hroom : ¬ sn + str.size ≤ sc) (hb : (sn + str.size) * by_ ≤ 140737488355328) {zl : List Value} (hzl : zeroOf P e = some zl) :
    ∃ (k : Nat), sn + str.size ≤ k ∧ k ≤ 9223372036854775807 ∧ (Builtin.append_ #[t, u] ty #[.slice p sn sc, (.string str)]).run P w = .ok (.slice (some ⟨w.heap.size, 0, none⟩) (sn + str.size) k) (w.drew.alloc (.cells (os ++ cs ++ repL zl (k - (sn + str.size))).toArray e)) := by
  obtain ⟨i, z, ht, hi, hsize, hbytes, hpos, hz, hzs⟩ := appOk_spec hok
  subst hsize
  subst hbytes
  have h48 := growslice_fits (by omega : sc < sn + str.size) hb
  have h63 : ¬ (9223372036854775807 < ((sn : Int) + (str.size : Int))) := by
    have : sn + str.size ≤ (sn + str.size) * i.bytes := Nat.le_mul_of_pos_right _ hpos
    omega
  have h48' : ¬ (281474976710656 < Builtin.nextslicecap (sn + str.size) sc * i.bytes) := by omega
  have hf1 := hf w.drew rfl
  have hf2 := hfs w.drew rfl
  obtain ⟨i', z', hi', hz', rfl⟩ := zeroOf_some hzl
  obtain rfl : i' = i := by rw [hi] at hi'; exact (Option.some.inj hi').symm
  obtain rfl : z' = z := by rw [hz] at hz'; exact (Option.some.inj hz').symm
  have hzc : ∀ m, Builtin.zeroCells z'.cells m = (repL z'.cells.toList m).toArray := fun m => by rw [← range_repL]; rfl
  refine ⟨grownCap w (sn + str.size) sc e, cut_ge w _ _ _, cut_le w _ _ _ (by omega), ?_⟩
  simp [Builtin.append_, run_underlying ht, run_underlying hu, sizeOf, typeInfo, zeroValue, hi, hz, Builtin.lenOf, hroom, h63, h48', Question.forced, hf1, hf2, newRow, grownCap, hzc]

end

variable {B : Base} {As : List HP}

/-- THE APPEND, at the level of the state. -/
theorem appendS_spec {P : Program} {t u ty e : TypeId} {by_ : Nat} (hok : appOk P t e 1 by_ = true) (hu : P.underlying u = some .string) (hz : zeroOf P e = some (U8.f U8.zero)) {s : Sl} {str : ByteArray} {xs ys : List UInt8} (hst : ys = str.data.toList) {F : List HP} {w : World} (hw : Sx B (Ar U8 s xs :: F) w) 
    (hb : (xs.length + ys.length) * by_ ≤ 140737488355328) :
    ∃ s' w', (Builtin.append_ #[t, u] ty #[s.v, .string str]).run P w = .ok (Sl.v s') w' ∧ Sx B (Ar U8 s' (xs ++ ys) :: F) w' := by
  obtain ⟨p, sn, sc⟩ := s
  have hyn : ys.length = str.size := by rw [hst]; simp
  have hfy : ∀ w2 : World, mem w2 = mem w → (Builtin.firstCells U8.sz str.size (.string str)).run P w2 = .ok (flat U8 ys).toArray w2 := fun w2 _ => by
    have e : (str.extract 0 str.size).data.map (fun b => Value.int .u8 (b.toNat : Int)) = (flat U8 ys).toArray := by
      have e0 : flat U8 ys = ys.map fun b => Value.int .u8 (b.toNat : Int) := (List.map_eq_flatMap ..).symm
      rw [ByteArray.extract_zero_size, e0, hst]
      rw [← Array.toList_inj]; simp
    show (pure _ : Sem (Array Value)).run P w2 = _
    rw [e]; rfl
  have hw0 := hw
  obtain ⟨g, ⟨h1, h2, ⟨zs, p1⟩, p2, dd, s1, s2⟩, hsub, hupd⟩ := hw
  have hxr : RAr U8 ⟨p, sn, sc⟩ xs (mem w) := p1.read.mono (s1.trans hsub)
  have hfx := fun (w2 : World) (h : mem w2 = mem w) => RArr.first (P := P) (w := w2) (by rw [h]; exact hxr.2)
  have hxn : xs.length = sn := p1.1
  have hxc : xs.length + zs.length = sc := p1.2.1
  by_cases hroom : sn + str.size ≤ sc
  · cases p with
    | none =>
      have h0 : sc = 0 := by
        rcases p1.2.2 with ⟨_, h⟩ | ⟨b, o, _, _, _, _, h, _⟩
        · exact h
        · cases h
      have hys : ys = [] := List.eq_nil_of_length_eq_zero (by omega)
      have hn0 : str.size = 0 := by omega
      subst hys
      refine ⟨⟨none, sn + str.size, sc⟩, w, appendS_none hok hu (hfy w rfl) hroom, ?_⟩
      rw [List.append_nil, hn0]
      exact hw0
    | some a =>
      rcases p1.2.2 with ⟨h, _⟩ | ⟨b, o, pre, post, e1, fr, hp, hbk, ho, hfr, hM⟩
      · cases h
      · simp only [Option.some.injEq] at hp
        subst hp
        have hwb : w.heap[b]? = some (.cells (pre ++ flat U8 (xs ++ zs) ++ post).toArray e1 fr) := hsub _ _ (s1 _ _ hbk)
        have hfl := flat_length U8 xs
        have hfly := flat_length U8 ys
        have hzl : ys.length ≤ zs.length := by omega
        have hzsplit : flat U8 (xs ++ zs) = flat U8 xs ++ flat U8 (zs.take ys.length) ++ flat U8 (zs.drop ys.length) := by
          rw [← flat_append, ← flat_append, List.append_assoc, List.take_append_drop]
        obtain ⟨w', r1, r2, r3, r4, r5, r6, r7⟩ := storeCells_blk (P := P) b e1 fr (flat U8 ys) (o + sn * U8.sz) 0 (pre ++ flat U8 (xs ++ zs) ++ post) w hwb (by
          have : (xs.length + ys.length) * U8.sz ≤ (xs.length + zs.length) * U8.sz := Nat.mul_le_mul_right _ (by omega)
          rw [Nat.add_mul] at this
          simp only [List.length_append, flat_length, hfly, ho, ← hxn]; omega) hfr (flat_one U8 ys)
        have hseg : setSeg (flat U8 ys) (o + sn * U8.sz + 0) (pre ++ flat U8 (xs ++ zs) ++ post) = pre ++ flat U8 (xs ++ ys ++ zs.drop ys.length) ++ post := by
          have := setSeg_mid (flat U8 ys) (pre ++ flat U8 xs) (flat U8 (zs.take ys.length)) (flat U8 (zs.drop ys.length) ++ post) (by rw [flat_length, flat_length, List.length_take, Nat.min_eq_left hzl])
          rw [List.length_append, ho, hfl, hxn] at this
          rw [Nat.add_zero, hzsplit, flat_append, flat_append]
          simp only [List.append_assoc] at this ⊢
          exact this
        rw [hseg] at r2
        refine ⟨⟨some ⟨b, o, none⟩, sn + str.size, sc⟩, w', appendS_fits hok hu (hfy w rfl) hroom (by rw [add_none]; exact r1), ?_⟩
        have hst : Sx B (Blk b (pre ++ flat U8 (xs ++ zs) ++ post) :: F) w := ⟨g, ⟨h1, h2, ⟨e1, fr, hbk, hfr⟩, p2, dd, s1, s2⟩, hsub, hupd⟩
        have := hst.write (cs' := pre ++ flat U8 (xs ++ ys ++ zs.drop ys.length) ++ post) hwb r3 r2 (by
          simp only [List.length_append, List.length_drop, flat_length]
          have : xs.length + ys.length + (zs.length - ys.length) = xs.length + zs.length := by omega
          rw [this]) r4 r5 r6 r7
        obtain ⟨g', hg', hm', hu'⟩ := this
        exact ⟨g', star_imp (fun q hq => ⟨zs.drop ys.length, Ars.of_blk hq rfl ho (by simp; omega) (by simp; omega) hM⟩) hg', hm', hu'⟩
  · obtain ⟨k, hk, hkM, hrun⟩ := appendS_grows (ty := ty) hok hu hfx hfy hroom (by rw [← hxn, ← hyn]; exact hb) hz
    refine ⟨⟨some ⟨w.heap.size, 0, none⟩, sn + str.size, k⟩, _, hrun, ?_⟩
    have hd : Sx B (Ar U8 ⟨p, sn, sc⟩ xs :: F) w.drew := hw0.drew
    have ha := (hd.tail).alloc (flat U8 xs ++ flat U8 ys ++ repL (U8.f U8.zero) (k - (sn + str.size))) e
    obtain ⟨g', hg', hm', hu'⟩ := ha
    refine ⟨g', star_imp (fun q hq => ⟨List.replicate (k - (sn + str.size)) U8.zero, ?_⟩) hg', hm', hu'⟩
    rw [repL_flat, ← flat_append, ← flat_append] at hq
    exact Ars.of_blk (pre := []) (post := []) (by simpa using hq) rfl rfl (by simp; omega) (by simp; omega) hkM


/-- append(s, string...) -/
theorem xappS {P : Program} {t u ty e : TypeId} {by_ : Nat} {z : List Value} [a : AppT P t e 1 by_ z] (hu : P.underlying u = some .string) {s : Sl} {xs : List UInt8} {str : ByteArray} {upd : Sl → List UInt8 → List HP} {rest : List HP} {K : Sl → WP} [o : OwnA s As U8 xs upd rest]
    (hz : U8.f U8.zero = z := by rfl) (hb : (xs.length + str.size) * by_ ≤ 140737488355328) (h : ∀ s', Ent B (upd s' (xs ++ str.data.toList)) (K s')) : Ent B As (XApp P t u ty s.v (.string str) K) := by
  intro w hw
  obtain ⟨s', w', hr, hx⟩ := appendS_spec (ty := ty) a.ok hu (by rw [hz]; exact a.zero) rfl (hw.perm o.start) (by simpa using hb)
  exact ⟨s', w', hr, h s' w' (hx.perm (o.perm _ _).symm)⟩
end Go.Cf
