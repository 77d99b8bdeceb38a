/-
  What a callee reads; dropping; cutting; clearing; appending with what is known of the header.
-/
import Derived.Test.YtekfoaklfnldhaaGreatDoorCfV
namespace Go.Cf
open Go
set_option linter.unusedVariables false
variable {B : Base} {As F : List HP} {α : Type}

theorem Upd.frz {h : Frag} {w : World} (hu : Upd B h w) {g : Frag} (hg : Sub g h) : Sub (frz B.W B.h0) (Cf.frz w g) := by
  intro k o hk
  unfold Cf.frz at hk
  cases hb : B.h0 k with
  | some x => rw [hb] at hk; cases hk
  | none =>
    rw [hb] at hk
    have hlt : k < B.W.heap.size := (Array.getElem?_eq_some_iff.1 hk).1
    have h2 := hu.old k hlt hb
    have hgk : g k = none := by
      cases h3 : g k with
      | none => rfl
      | some x => have := hg k x h3; rw [h2.2] at this; cases this
    unfold Cf.frz
    rw [hgk]
    show w.heap[k]? = some o
    rw [h2.1]; exact hk

theorem rds_of {rd : HP} (h : ∀ g, Sub (frz B.W B.h0) g → ∀ hF, star F hF → Sub hF g → rd g) : Rds B F rd := by
  intro w hp hF hs hm hd hpm hu
  refine h _ (hu.frz (sub_uni_left _ _)) hF hs ?_
  intro k o hk
  unfold Cf.frz
  rcases hd k with e | e
  · rw [e]; exact hm k o hk
  · rw [hk] at e; cases e

/-- What is so of the memory that a callee does not own. -/
class Rdb (B : Base) (F : List HP) (rd : HP) : Prop where
  go : ∀ g, Sub (frz B.W B.h0) g → ∀ hF, star F hF → Sub hF g → rd g

theorem rdb {rd : HP} [r : Rdb B F rd] : Rds B F rd := rds_of r.go

def HP.and (P Q : HP) : HP := fun h => P h ∧ Q h

instance Rdb.emp : Rdb B F emp := ⟨fun _ _ _ _ _ => trivial⟩
instance Rdb.and (P Q : HP) [p : Rdb B F P] [q : Rdb B F Q] : Rdb B F (P.and Q) := ⟨fun g a b c d => ⟨p.go g a b c d, q.go g a b c d⟩⟩
instance (priority := low) Rdb.fro (s : Sl) (E : Enc α) (xs : List α) [f : Fro B s E xs] : Rdb B F (RAr E s xs) := ⟨fun _ a _ _ _ => f.rd.mono a⟩
instance (priority := high) Rdb.head (s : Sl) (E : Enc α) (xs : List α) : Rdb B (Ar E s xs :: F) (RAr E s xs) := ⟨fun g _ hF ⟨_, _, pa, _, _, sa, _⟩ c => pa.read.mono (sa.trans c)⟩
instance Rdb.tail (A : HP) (rd : HP) [r : Rdb B F rd] : Rdb B (A :: F) rd := ⟨fun g a hF ⟨_, q, _, pb, _, _, sb⟩ c => r.go g a q pb (sb.trans c)⟩

/-- Memory of no owner, of any form. -/
class FroP (B : Base) (rd : HP) : Prop where
  now : rd (frz B.W B.h0)
  mono : ∀ g h, rd g → Sub g h → rd h
instance (priority := low) Rdb.froP (rd : HP) [f : FroP B rd] : Rdb B F rd := ⟨fun g a _ _ _ => f.mono _ g f.now a⟩

theorem ORows.read {s : Sl} {bss : List (List UInt8)} {h : Frag} (hr : ORows s bss h) : RRows s bss h := by
  obtain ⟨rs, a, b, pa, ⟨c, d, pc, _, _, sc, _⟩, _, sa, sb⟩ := hr
  refine ⟨rs, pa.read.mono sa, pc.length, fun i r bs hi hb => ?_⟩
  exact (each_read (S := RAr U8) (fun x y g f h s => h.mono s) (fun x y g h => h.read) pc hi hb).mono (sc.trans sb)
instance Rdb.rows (s : Sl) (bss : List (List UInt8)) : Rdb B (ORows s bss :: F) (RRows s bss) := ⟨fun g _ hF ⟨_, _, pa, _, _, sa, _⟩ c => pa.read.mono (sa.trans c)⟩

/-! Dropping. -/
theorem Sx.keep {l l' : List HP} {w : World} (h : Sx B (l ++ l') w) : Sx B l w := by
  obtain ⟨g, hs, hm, hu⟩ := h
  obtain ⟨a, b, pa, _, _, sa, _⟩ := (star_append l l').1 hs
  exact ⟨a, pa, sa.trans hm, hu.sub sa⟩

theorem xdrop (i : Nat) {P1 : HP} {F : List HP} [p : Pick i As P1 F] {φ : WP} (h : Ent B F φ) : Ent B As φ := fun w hw => h w (hw.perm p.perm).tail
theorem xkeep {l l' : List HP} {φ : WP} (h : Ent B l φ) : Ent B (l ++ l') φ := fun w hw => h w hw.keep

/-! Cutting. -/
theorem cut_p (s : Sl) (l h m sz : Nat) : ∀ b o, s.p = some ⟨b, o, none⟩ → l < m → (s.cut l h m sz).p = some ⟨b, o + l * sz, none⟩ := by
  intro b o hp hlt
  unfold Sl.cut
  rw [if_neg (by omega), hp]
  simp [add_none]

theorem RAr.cut {E : Enc α} {s : Sl} {xs : List α} {h : Frag} (ha : RAr E s xs h) (l r m : Nat) (h1 : l ≤ r) (h2 : r ≤ m) (h3 : r ≤ xs.length) : RAr E (s.cut l r m E.sz) ((xs.take r).drop l) h := by
  obtain ⟨hn, hc, hr⟩ := ha
  have hlen : ((xs.take r).drop l).length = r - l := by simp [Nat.min_eq_left h3]
  refine ⟨hlen, by rw [flat_length, hlen]; rfl, fun h0 => ?_⟩
  have h0' : 0 < r - l := h0
  obtain ⟨b, o, pre, post, e, fr, hp, hb, ho⟩ := hr (by omega)
  refine ⟨b, o + l * E.sz, pre ++ flat E (xs.take l), flat E (xs.drop r) ++ post, e, fr, cut_p s l r m E.sz b o hp (by omega), ?_, ?_⟩
  · rw [hb]
    congr 3
    have e1 : xs = xs.take l ++ ((xs.take r).drop l ++ xs.drop r) := by
      conv => lhs; rw [← List.take_append_drop r xs]
      conv => lhs; rw [← List.take_append_drop l (xs.take r)]
      rw [List.take_take, Nat.min_eq_left h1, List.append_assoc]
    conv => lhs; rw [e1]
    rw [flat_append, flat_append]
    simp only [List.append_assoc]
  · rw [List.length_append, flat_length, ho, List.length_take, Nat.min_eq_left (by omega)]

theorem xslc {s : Sl} {l r m : Int} {sz : Nat} {K : Sl → WP} (h0 : 0 ≤ l) (h1 : l ≤ r) (h2 : r ≤ m) (h3 : m ≤ s.c) (h : Ent B As (K (s.cut l.toNat r.toNat m.toNat sz))) : Ent B As (XSlc s l r m sz K) :=
  fun w hw => ⟨h0, h1, h2, h3, h w hw⟩

/-- The head of a slice. -/
theorem cut_zero (s : Sl) (r sz : Nat) : s.cut 0 r s.c sz = ⟨s.p, r, s.c⟩ := by
  unfold Sl.cut
  split
  · simp
  · cases s.p with
    | none => simp
    | some a => simp [Addr.add]

theorem Ars.cap {E : Enc α} {s : Sl} {xs zs : List α} {h : Frag} (ha : Ars E s xs zs h) : s.n ≤ s.c := by
  have := ha.1; have := ha.2.1; omega

/-- append in place. -/
theorem append_in {P : Program} {t ty e : TypeId} {sz by_ : Nat} (hok : appOk P t e sz by_ = true) {E : Enc α} (hsz : E.sz = sz) {p : Option Addr} {sn sc : Nat} {y : Sl} {xs zs ys : List α} {F : List HP} {w : World} (hw : Sx B (Ars E ⟨p, sn, sc⟩ xs zs :: F) w) (hy : RAr E y ys (mem w))
    (hroom : xs.length + ys.length ≤ sc) (h0 : 0 < sc) :
    ∃ w', (Builtin.append_ #[t, t] ty #[.slice p sn sc, y.v]).run P w = .ok (.slice p (sn + y.n) sc) w' ∧ Sx B (Ars E ⟨p, sn + y.n, sc⟩ (xs ++ ys) (zs.drop ys.length) :: F) w' := by
  subst hsz
  obtain ⟨q, n, c⟩ := y
  obtain ⟨hyn, hyr⟩ := hy
  simp only at hyn
  have hfy := fun (w2 : World) (h : mem w2 = mem w) => RArr.first (P := P) (w := w2) (by rw [h]; exact hyr)
  obtain ⟨g, ⟨h1, h2, p1, p2, dd, s1, s2⟩, hsub, hupd⟩ := hw
  have hxn : xs.length = sn := p1.1
  have hxc : xs.length + zs.length = sc := p1.2.1
  rcases p1.2.2 with ⟨_, h⟩ | ⟨b, o, pre, post, e1, fr, hp, hbk, ho, hfr, hM⟩
  · simp only at h; omega
  simp only at hp
  subst hp
  have hwb : w.heap[b]? = some (.cells (pre ++ flat E (xs ++ zs) ++ post).toArray e1 fr) := hsub _ _ (s1 _ _ hbk)
  have hfl := flat_length E xs
  have hfly := flat_length E ys
  have hzl : ys.length ≤ zs.length := by omega
  have hzsplit : flat E (xs ++ zs) = flat E xs ++ flat E (zs.take ys.length) ++ flat E (zs.drop ys.length) := by
    rw [← flat_append, ← flat_append, List.append_assoc, List.take_append_drop]
  obtain ⟨w', r1, r2, r3, r4, r5, r6, r7⟩ := storeCells_blk (P := P) b e1 fr (flat E ys) (o + sn * E.sz) 0 (pre ++ flat E (xs ++ zs) ++ post) w hwb (by
    have : (xs.length + ys.length) * E.sz ≤ (xs.length + zs.length) * E.sz := Nat.mul_le_mul_right _ (by omega)
    rw [Nat.add_mul] at this
    simp only [List.length_append, flat_length, hfly, ho, ← hxn]; omega) hfr (flat_one E ys)
  have hseg : setSeg (flat E ys) (o + sn * E.sz + 0) (pre ++ flat E (xs ++ zs) ++ post) = pre ++ flat E (xs ++ ys ++ zs.drop ys.length) ++ post := by
    have := setSeg_mid (flat E ys) (pre ++ flat E xs) (flat E (zs.take ys.length)) (flat E (zs.drop ys.length) ++ post) (by rw [flat_length, flat_length, List.length_take, Nat.min_eq_left hzl])
    rw [List.length_append, ho, hfl, hxn] at this
    rw [Nat.add_zero, hzsplit, flat_append, flat_append]
    simp only [List.append_assoc] at this ⊢
    exact this
  rw [hseg] at r2
  refine ⟨w', append_fits hok (hfy w rfl) (by omega) (by rw [add_none]; exact r1), ?_⟩
  have hst : Sx B (Blk b (pre ++ flat E (xs ++ zs) ++ post) :: F) w := ⟨g, ⟨h1, h2, ⟨e1, fr, hbk, hfr⟩, p2, dd, s1, s2⟩, hsub, hupd⟩
  have := hst.write (cs' := pre ++ flat E (xs ++ ys ++ zs.drop ys.length) ++ post) hwb r3 r2 (by
    simp only [List.length_append, List.length_drop, flat_length]
    have : xs.length + ys.length + (zs.length - ys.length) = xs.length + zs.length := by omega
    rw [this]) r4 r5 r6 r7
  obtain ⟨g', hg', hm', hu'⟩ := this
  exact ⟨g', star_imp (fun q hq => Ars.of_blk hq rfl ho (by simp; omega) (by simp; omega) (by exact hM)) hg', hm', hu'⟩

/-- clear: elements of one's own block. -/
theorem clear_in {P : Program} {t ty e : TypeId} {sz by_ : Nat} (hok : appOk P t e sz by_ = true) {E : Enc α} (hsz : E.sz = sz) (hz : zeroOf P e = some (E.f E.zero)) {s : Sl} {xs zs us : List α} {l k c : Nat} {F : List HP} {w : World} (hw : Sx B (Ars E s xs zs :: F) w)
    (hu : xs ++ zs = us) (hlk : l + k ≤ us.length) (h0 : 0 < s.c) :
    ∃ w', (Builtin.clear_ #[t] ty #[.slice (s.p.map (·.add (l * sz))) k c]).run P w = .ok (.tuple #[]) w' ∧ ∀ xs' zs', xs' ++ zs' = us.take l ++ List.replicate k E.zero ++ us.drop (l + k) → xs'.length = xs.length → Sx B (Ars E s xs' zs' :: F) w' := by
  subst hsz hu
  obtain ⟨i, z, ht, hi, hsize, hbytes, hpos, hz0, hzs⟩ := appOk_spec hok
  obtain ⟨i', z', hi', hz', hzf⟩ := zeroOf_some hz
  obtain rfl : i' = i := by rw [hi] at hi'; exact (Option.some.inj hi').symm
  obtain rfl : z' = z := by rw [hz0] at hz'; exact (Option.some.inj hz').symm
  have hzc : (Builtin.zeroCells z'.cells k).toList = repL z'.cells.toList k := by
    have := range_repL (z := z'.cells) (n := k)
    show (Builtin.zeroCells z'.cells k).toList = _
    have h2 : Builtin.zeroCells z'.cells k = (repL z'.cells.toList k).toArray := by rw [← this]; rfl
    rw [h2]
  have hst0 := hw
  obtain ⟨g, ⟨h1, h2, p1, p2, dd, s1, s2⟩, hsub, hupd⟩ := hw
  rcases p1.2.2 with ⟨_, h⟩ | ⟨b, o, pre, post, e1, fr, hp, hbk, ho, hfr, hM⟩
  · omega
  have hwb : w.heap[b]? = some (.cells (pre ++ flat E (xs ++ zs) ++ post).toArray e1 fr) := hsub _ _ (s1 _ _ hbk)
  have hL : repL z'.cells.toList k = flat E (List.replicate k E.zero) := by rw [← hzf, repL_flat]
  obtain ⟨w', r1, r2, r3, r4, r5, r6, r7⟩ := storeCells_blk (P := P) b e1 fr (flat E (List.replicate k E.zero)) (o + l * E.sz) 0 (pre ++ flat E (xs ++ zs) ++ post) w hwb (by
    have : (l + k) * E.sz ≤ (xs ++ zs).length * E.sz := Nat.mul_le_mul_right _ hlk
    rw [Nat.add_mul] at this
    simp only [List.length_append, flat_length, ho, List.length_replicate] at this ⊢; omega) hfr (flat_one E _)
  have hsplit : flat E (xs ++ zs) = flat E ((xs ++ zs).take l) ++ flat E (((xs ++ zs).drop l).take k) ++ flat E ((xs ++ zs).drop (l + k)) := by
    rw [← flat_append, ← flat_append, List.append_assoc, ← List.drop_drop, List.take_append_drop, List.take_append_drop]
  have hseg : setSeg (flat E (List.replicate k E.zero)) (o + l * E.sz + 0) (pre ++ flat E (xs ++ zs) ++ post) = pre ++ flat E ((xs ++ zs).take l ++ List.replicate k E.zero ++ (xs ++ zs).drop (l + k)) ++ post := by
    have := setSeg_mid (flat E (List.replicate k E.zero)) (pre ++ flat E ((xs ++ zs).take l)) (flat E (((xs ++ zs).drop l).take k)) (flat E ((xs ++ zs).drop (l + k)) ++ post) (by
      rw [flat_length, flat_length, List.length_take, List.length_drop, List.length_replicate, Nat.min_eq_left (by omega)])
    rw [List.length_append, ho, flat_length, List.length_take, Nat.min_eq_left (by omega)] at this
    rw [Nat.add_zero, hsplit, flat_append, flat_append]
    simp only [List.append_assoc] at this ⊢
    exact this
  rw [hseg] at r2
  by_cases hk : k = 0
  · subst hk
    refine ⟨w, by simp [Builtin.clear_, run_underlying ht, hp], fun xs' zs' he hl' => ?_⟩
    obtain ⟨g, hg, hm, hu⟩ := hst0
    refine ⟨g, star_imp (fun q hq => ?_) hg, hm, hu⟩
    obtain ⟨p, n, c'⟩ := s
    exact hq.shift (by rw [he]; simp) (by rw [hl']; exact hq.1)
  · refine ⟨w', ?_, fun xs' zs' he hl' => ?_⟩
    · obtain ⟨m, rfl⟩ : ∃ m, k = m + 1 := ⟨k - 1, by omega⟩
      rw [hL] at hzc
      simp [Builtin.clear_, run_underlying ht, hp, add_none, zeroValue, typeInfo, hi, hz0, hzc, r1]
    · have hst : Sx B (Blk b (pre ++ flat E (xs ++ zs) ++ post) :: F) w := ⟨g, ⟨h1, h2, ⟨e1, fr, hbk, hfr⟩, p2, dd, s1, s2⟩, hsub, hupd⟩
      have hlen : ((xs ++ zs).take l ++ List.replicate k E.zero ++ (xs ++ zs).drop (l + k)).length = (xs ++ zs).length := by
        simp only [List.length_append, List.length_take, List.length_replicate, List.length_drop] at hlk ⊢; omega
      have := hst.write (cs' := pre ++ flat E ((xs ++ zs).take l ++ List.replicate k E.zero ++ (xs ++ zs).drop (l + k)) ++ post) hwb r3 r2 (by
        rw [List.length_append, List.length_append, List.length_append, List.length_append, flat_length, flat_length, hlen]) r4 r5 r6 r7
      obtain ⟨g', hg', hm', hu'⟩ := this
      refine ⟨g', star_imp (fun q hq => Ars.of_blk (b := b) (o := o) (pre := pre) (post := post) (by rw [he]; exact hq) hp ho (by rw [hl']; exact p1.1) ?_ (by exact hM)) hg', hm', hu'⟩
      have hh : xs'.length + zs'.length = xs.length + zs.length := by
        have h5 := congrArg List.length he
        rw [hlen] at h5
        simpa using h5
      rw [hh]; exact p1.2.1

end Go.Cf
namespace Go.Cf
open Go
variable {B : Base} {As : List HP} {α : Type}
/-- What one's own slice says of its header. -/
theorem xlen {E : Enc α} {xs : List α} (s : Sl) {upd : Sl → List α → List HP} {rest : List HP} [o : OwnA s As E xs upd rest] {φ : WP} (h : xs.length = s.n → s.n ≤ s.c → Ent B As φ) : Ent B As φ := by
  intro w hw
  obtain ⟨g, ⟨zs, hg⟩, _⟩ := (hw.perm o.start).head
  exact h hg.1 hg.cap w hw
end Go.Cf
namespace Go.Cf
open Go
variable {B : Base} {As : List HP} {α : Type}
theorem star_in {P : HP} {g : Frag} (h : P g) : star [P] g := ⟨g, fun _ => none, h, trivial, fun _ => .inr rfl, Sub.refl _, fun _ _ e => by cases e⟩

/-- The room behind one's own slice, by name. -/
theorem xars (i : Nat) {E : Enc α} {s : Sl} {xs : List α} {F : List HP} [p : Pick i As (Ar E s xs) F] {φ : WP} (h : ∀ zs, xs.length = s.n → xs.length + zs.length = s.c → Ent B (Ars E s xs zs :: F) φ) : Ent B As φ := by
  refine Ent.perm p.perm ?_
  intro w hw
  obtain ⟨g, ⟨a, b, ⟨zs, pa⟩, pb, d, sa, sb⟩, hm, hu⟩ := hw
  exact h zs pa.1 pa.2.1 w ⟨g, ⟨a, b, pa, pb, d, sa, sb⟩, hm, hu⟩

/-- .. under another header. -/
theorem xshift {E : Enc α} {s : Sl} {xs zs : List α} {F : List HP} {φ : WP} (n' : Nat) (xs' zs' : List α) (hx : xs ++ zs = xs' ++ zs') (hn : xs'.length = n') (h : Ent B (Ars E ⟨s.p, n', s.c⟩ xs' zs' :: F) φ) : Ent B (Ars E s xs zs :: F) φ := by
  refine xclose (fun g hg => star_imp (fun q hq => ?_) hg) h
  obtain ⟨p, n, c⟩ := s
  exact hq.shift hx hn

theorem xar {E : Enc α} {s : Sl} {xs zs : List α} {F : List HP} {φ : WP} (h : Ent B (Ar E s xs :: F) φ) : Ent B (Ars E s xs zs :: F) φ :=
  xclose (fun _ hg => star_imp (fun _ hq => ⟨zs, hq⟩) hg) h

/-- append in place, of what may be read there. -/
theorem xapp_in {P : Program} {t ty e : TypeId} {sz by_ : Nat} {z : List Value} [a : AppT P t e sz by_ z] {E : Enc α} {p : Option Addr} {sn sc : Nat} {y : Sl} {xs zs ys : List α} {F : List HP} {K : Sl → WP}
    (hy : ∀ g, Ars E ⟨p, sn, sc⟩ xs zs g → RAr E y ys g) (hroom : xs.length + ys.length ≤ sc) (h0 : 0 < sc) (hsz : E.sz = sz := by rfl) (h : Ent B (Ars E ⟨p, sn + y.n, sc⟩ (xs ++ ys) (zs.drop ys.length) :: F) (K ⟨p, sn + y.n, sc⟩)) :
    Ent B (Ars E ⟨p, sn, sc⟩ xs zs :: F) (XApp P t t ty (.slice p sn sc) y.v K) := by
  intro w hw
  obtain ⟨q, hq, hqs⟩ := hw.head
  obtain ⟨w', hr, hx⟩ := append_in (ty := ty) a.ok hsz hw ((hy q hq).mono hqs) hroom h0
  exact ⟨⟨p, sn + y.n, sc⟩, w', hr, h w' hx⟩

/-- clear, of the room behind. -/
theorem xclr {P : Program} {t ty e : TypeId} {sz by_ : Nat} {z : List Value} [a : AppT P t e sz by_ z] {E : Enc α} {s : Sl} {xs zs : List α} {r m : Nat} {F : List HP} {K : Value → WP}
    (h1 : xs.length < m) (_h2 : xs.length ≤ r) (h3 : r ≤ xs.length + zs.length) (h0 : 0 < s.c) (hsz : E.sz = sz := by rfl) (hz : E.f E.zero = z := by rfl) (h : Ent B (Ar E s xs :: F) (K (.tuple #[]))) :
    Ent B (Ars E s xs zs :: F) (XClear P t ty (s.cut xs.length r m sz).v K) := by
  intro w hw
  obtain ⟨w', hr, hx⟩ := clear_in (ty := ty) (l := xs.length) (k := r - xs.length) (c := m - xs.length) a.ok hsz (by rw [hz]; exact a.zero) hw rfl (by simp; omega) h0
  refine ⟨.tuple #[], w', ?_, ?_⟩
  · unfold Sl.cut Sl.v
    rw [if_neg (by omega)]
    exact hr
  · have := hx xs (List.replicate (r - xs.length) E.zero ++ zs.drop (r - xs.length)) (by simp) rfl
    obtain ⟨g, hg, hm, hu⟩ := this
    exact h w' ⟨g, star_imp (fun q hq => ⟨_, hq⟩) hg, hm, hu⟩
end Go.Cf
namespace Go.Cf
open Go
variable {B : Base} {As : List HP} {α β : Type}
theorem xfold1 (i : Nat) {P1 Q : HP} {F : List HP} [p : Pick i As P1 F] {φ : WP} (h : ∀ g, P1 g → Q g) (k : Ent B (Q :: F) φ) : Ent B As φ :=
  Ent.perm p.perm (xclose (fun _ hg => star_imp h hg) k)
theorem xfold2 (i j : Nat) {P1 P2 Q : HP} {F F' : List HP} [p : Pick i As P1 F] [q : Pick j F P2 F'] {φ : WP} (h : ∀ g, star [P1, P2] g → Q g) (k : Ent B (Q :: F') φ) : Ent B As φ :=
  Ent.perm (p.perm.trans (q.perm.cons P1)) (xclose (fun _ hg => star_fold1 (l := [P1, P2]) h hg) k)
theorem xfold3 (i j l : Nat) {P1 P2 P3 Q : HP} {F F' F'' : List HP} [p : Pick i As P1 F] [q : Pick j F P2 F'] [r : Pick l F' P3 F''] {φ : WP} (h : ∀ g, star [P1, P2, P3] g → Q g) (k : Ent B (Q :: F'') φ) : Ent B As φ :=
  Ent.perm (p.perm.trans (((q.perm.trans (r.perm.cons P2))).cons P1)) (xclose (fun _ hg => star_fold1 (l := [P1, P2, P3]) h hg) k)
theorem xunf (i : Nat) {P1 : HP} {F : List HP} [p : Pick i As P1 F] {φ : WP} (l : List HP) (h : ∀ g, P1 g → star l g) (k : Ent B (l ++ F) φ) : Ent B As φ :=
  Ent.perm p.perm (xclose (fun _ hg => star_flat1 h hg) k)

/-- A fact that what one holds implies. -/
theorem xfact (i : Nat) {P1 : HP} {F : List HP} [p : Pick i As P1 F] {φ : WP} {p' : Prop} (h : ∀ g, P1 g → p') (k : p' → Ent B As φ) : Ent B As φ := by
  intro w hw
  obtain ⟨g, hg, _⟩ := (hw.perm p.perm).head
  exact k (h g hg) w hw
end Go.Cf
namespace Go.Cf
open Go
variable {B : Base}
theorem app4 {A A' A'' A3 : HP} {F : List HP} {φ : WP} (h : Ent B (A :: A' :: A'' :: A3 :: F) φ) : Ent B ([A, A', A'', A3] ++ F) φ := h
end Go.Cf
namespace Go.Cf
open Go
variable {B : Base} {As : List HP}
theorem ca0 {K : WP} {u : Unit} (h : Ent B As K) : Ent B As (Cur.app [] K u) := h
theorem ca1 {s : Sh} {K : s.ty → WP} {x : s.ty} {u : Unit} (h : Ent B As (K x)) : Ent B As (Cur.app [s] K (x, u)) := h
theorem ca2 {s t : Sh} {K : s.ty → t.ty → WP} {x : s.ty} {y : t.ty} {u : Unit} (h : Ent B As (K x y)) : Ent B As (Cur.app [s, t] K (x, y, u)) := h
end Go.Cf
namespace Go.Cf
open Go
variable {B : Base} {As : List HP}
theorem rds_pick (i : Nat) {F F' : List HP} {P rd : HP} [p : Pick i F P F'] (h : ∀ g, P g → rd g) (mono : ∀ g f, rd g → Sub g f → rd f) : Rds B F rd :=
  rds_of fun g _ hF hs hm => by
    obtain ⟨a, _, pa, _, _, sa, _⟩ := star_perm p.perm hs
    exact mono _ _ (h a pa) (sa.trans hm)
end Go.Cf
namespace Go.Cf
open Go
variable {B : Base} {As : List HP}
theorem xadd {A : HP} {φ : WP} (hA : A (fun _ => none)) (h : Ent B (A :: As) φ) : Ent B As φ := by
  rintro w ⟨g, hs, hm, hu⟩
  exact h w ⟨g, ⟨fun _ => none, g, hA, hs, fun _ => .inl rfl, fun _ _ e => (by cases e), Sub.refl _⟩, hm, hu⟩
theorem xrot (i : Nat) {P : HP} {F : List HP} [p : Pick i As P F] {φ : WP} (h : Ent B (F ++ [P]) φ) : Ent B As φ :=
  Ent.perm (p.perm.trans (List.perm_append_comm (l₁ := [P]) (l₂ := F))) h
end Go.Cf
