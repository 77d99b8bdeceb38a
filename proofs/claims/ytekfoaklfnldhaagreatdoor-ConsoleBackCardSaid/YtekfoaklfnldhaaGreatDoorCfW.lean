/-
  Making slices; slices whose spare room is known; slots and joins, more.
-/
import Derived.Test.YtekfoaklfnldhaaGreatDoorCfZ
namespace Go.Cf
open Go
set_option linter.unusedVariables false
variable {B : Base} {As F : List HP} {α β : Type}

theorem madeCells_repL (z : Array Value) (n sz : Nat) (h : z.size = sz) : madeCells z (n * sz) = (repL z.toList n).toArray := by
  subst h; exact range_repL z n

/-- make([]T, n) -/
theorem xmake {P : Program} {t e : TypeId} {sz by_ : Nat} {z : List Value} [a : AppT P t e sz by_ z] (E : Enc α) {n : Int} {K : Sl → WP} (h0 : 0 ≤ n) (hb : n.toNat * by_ ≤ 140737488355328) (hsz : E.sz = sz := by rfl) (hz : E.f E.zero = z := by rfl)
    (h : ∀ b, Ent B (Ar E ⟨some ⟨b, 0, none⟩, n.toNat, n.toNat⟩ (List.replicate n.toNat E.zero) :: As) (K ⟨some ⟨b, 0, none⟩, n.toNat, n.toNat⟩)) : Ent B As (XMake P t (.int .i64 n) (.int .i64 n) K) := by
  intro w hw
  obtain ⟨i, z0, ht, hi, hsize, hbytes, hpos, hz0, hzs⟩ := appOk_spec a.ok
  obtain ⟨i', z', hi', hz', hzf⟩ := zeroOf_some a.zero
  obtain rfl : i' = i := by rw [hi] at hi'; exact (Option.some.inj hi').symm
  obtain rfl : z' = z0 := by rw [hz0] at hz'; exact (Option.some.inj hz').symm
  have hle : n.toNat ≤ n.toNat * by_ := Nat.le_mul_of_pos_right _ hpos
  have hr := run_make (P := P) w t e i' z' ht hi hz0 .i64 .i64 n n h0 (Int.le_refl _) (by
    have : ((i'.bytes * n.toNat : Nat) : Int) ≤ 281474976710656 := by rw [hbytes, Nat.mul_comm]; omega
    rw [Int.natCast_mul] at this
    have e1 : ((n.toNat : Nat) : Int) = n := by omega
    rw [e1] at this
    exact this) (by omega)
  rw [hsize, madeCells_repL _ _ _ hzs, ← hzf, ← hz, repL_flat] at hr
  refine ⟨⟨some ⟨w.heap.size, 0, none⟩, n.toNat, n.toNat⟩, _, hr, h w.heap.size _ ?_⟩
  obtain ⟨g, hg, hm, hu⟩ := hw.alloc (flat E (List.replicate n.toNat E.zero)) e
  exact ⟨g, star_imp (fun q hq => ⟨[], blk_ar _ n.toNat (by simp) rfl hq (by omega)⟩) hg, hm, hu⟩

/-- A slice that may be read, with the room behind it. -/
def RArs (E : Enc α) (s : Sl) (xs zs : List α) : HP := fun h => xs.length = s.n ∧ xs.length + zs.length = s.c ∧ RAr E s xs h ∧ RAr E ⟨s.p, s.c, s.c⟩ (xs ++ zs) h

theorem RArs.mono {E : Enc α} {s : Sl} {xs zs : List α} {h g : Frag} (ha : RArs E s xs zs h) (hs : Sub h g) : RArs E s xs zs g := ⟨ha.1, ha.2.1, ha.2.2.1.mono hs, ha.2.2.2.mono hs⟩

theorem Ars.readAll {E : Enc α} {s : Sl} {xs zs : List α} {h : Frag} (ha : Ars E s xs zs h) : RArs E s xs zs h := by
  obtain ⟨p, n, c⟩ := s
  exact ⟨ha.1, ha.2.1, ha.read, (ha.shift (n' := c) (xs' := xs ++ zs) (zs' := []) (by simp) (by simpa using ha.2.1)).read⟩

instance (priority := high) Rdb.headArs (s : Sl) (E : Enc α) (xs zs : List α) : Rdb B (Ars E s xs zs :: F) (RArs E s xs zs) := ⟨fun g _ hF ⟨_, _, pa, _, _, sa, _⟩ c => pa.readAll.mono (sa.trans c)⟩
instance (priority := high) Rdb.headArs' (s : Sl) (E : Enc α) (xs zs : List α) : Rdb B (Ars E s xs zs :: F) (RAr E s xs) := ⟨fun g _ hF ⟨_, _, pa, _, _, sa, _⟩ c => pa.read.mono (sa.trans c)⟩

/-- s[:r] -/
theorem xslc0 {s : Sl} {r : Int} {m : Nat} {sz : Nat} {K : Sl → WP} (hm : m = s.c) (h0 : 0 ≤ r) (h1 : r ≤ s.c) (h : Ent B As (K ⟨s.p, r.toNat, s.c⟩)) : Ent B As (XSlc s 0 r (m : Int) sz K) := by
  subst hm
  refine xslc (by omega) h0 h1 (by omega) ?_
  have e := cut_zero s r.toNat sz
  simpa using e ▸ h

theorem set_upto {ys zs : List α} {k : Nat} {v : α} (h : ∀ j, j < k → ys[j]? = zs[j]?) (hk : k < ys.length) (hv : zs[k]? = some v) : ∀ j, j < k + 1 → (ys.set k v)[j]? = zs[j]? := by
  intro j hj
  by_cases e : j = k
  · subst e; rw [List.getElem?_set_self hk, hv]
  · rw [List.getElem?_set_ne (Ne.symm e)]; exact h j (by omega)

theorem eq_upto {ys zs : List α} (hl : ys.length = zs.length) (h : ∀ j, j < zs.length → ys[j]? = zs[j]?) : ys = zs := by
  apply List.ext_getElem?
  intro j
  by_cases hj : j < zs.length
  · exact h j hj
  · rw [List.getElem?_eq_none (by omega), List.getElem?_eq_none (by omega)]

theorem u8_lit (n : Nat) (h : n < 256) : ((UInt8.ofNat n).toNat : Int) = n := by rw [UInt8.toNat_ofNat']; omega

theorem bits_u8 (o : BinOp) (x y : Int) : 0 ≤ bits o .u8 x y ∧ bits o .u8 x y < 256 := by
  have e : ∀ z : Int, 0 ≤ IntKind.u8.wrap z ∧ IntKind.u8.wrap z < 256 := by
    intro z
    have e1 : (2 ^ IntKind.u8.bits : Int) = 256 := by decide
    have e3 : IntKind.u8.signed = false := rfl
    simp only [IntKind.wrap, e1, e3, Bool.false_and]
    simp
    omega
  exact e _


theorem xfront (i : Nat) {P : HP} {F : List HP} [p : Pick i As P F] {φ : WP} (h : Ent B (P :: F) φ) : Ent B As φ := Ent.perm p.perm h
theorem xback (i : Nat) {P : HP} {F : List HP} [p : Pick i As P F] {φ : WP} (h : Ent B (F ++ [P]) φ) : Ent B As φ := xrot i h


/-! What one wants, found by what it is. -/
class Find (P : HP) (As : List HP) (F : outParam (List HP)) : Prop where
  perm : As.Perm (P :: F)
instance (priority := high) Find.head (P : HP) (As : List HP) : Find P (P :: As) As := ⟨List.Perm.refl _⟩
instance Find.tail (A P : HP) (As F : List HP) [h : Find P As F] : Find P (A :: As) (A :: F) := ⟨(h.perm.cons A).trans (List.Perm.swap _ _ _)⟩

class Split (pre As : List HP) (F : outParam (List HP)) : Prop where
  perm : As.Perm (pre ++ F)
instance Split.nil (As : List HP) : Split [] As As := ⟨List.Perm.refl _⟩
instance Split.cons (P : HP) (pre As F G : List HP) [f : Find P As F] [h : Split pre F G] : Split (P :: pre) As G := ⟨f.perm.trans (h.perm.cons P)⟩

/-- A call. -/
theorem xcl {P : Program} {f : FuncId} {args : List Value} {rs : Rs} {ss : List Sh} {rd : HP} {post : Tup ss → List HP → Prop} {K : Cur ss} {pre G : List HP} [s : Split pre As G]
    (sp : Ct P f args rs ss pre rd post) (hrd : Rds B G rd) (h : ∀ t Bs, post t Bs → Ent B (Bs ++ G) (Cur.app ss K t)) : Ent B As (XCall P f args rs ss K) := xcall sp s.perm hrd h

/-- Of what one has, this, in this order. -/
theorem xuse (Bs : List HP) {G : List HP} [s : Split Bs As G] {φ : WP} (h : Ent B Bs φ) : Ent B As φ := Ent.perm s.perm (xkeep h)
theorem xuse' {Bs G : List HP} {φ : WP} (h : Ent B Bs φ) [s : Split Bs As G] : Ent B As φ := Ent.perm s.perm (xkeep h)

/-- Several things seen as one. -/
theorem xfold (l : List HP) (Q : HP) {G : List HP} [s : Split l As G] {φ : WP} (h : ∀ g, star l g → Q g) (k : Ent B (Q :: G) φ) : Ent B As φ :=
  Ent.perm s.perm (xclose (fun _ hg => star_fold1 (l := l) h hg) k)

theorem each_take {R : α → β → HP} {P : HP} {Ps : List HP} {x : α} {y : β} {xs : List α} {ys : List β} (h1 : ∀ g, P g → R x y g) (h2 : ∀ g, star Ps g → Each R xs ys g) {g : Frag} (h : star (P :: Ps) g) : Each R (x :: xs) (y :: ys) g := by
  obtain ⟨a, b, pa, pb, d, sa, sb⟩ := h
  exact ⟨a, b, h1 a pa, star_in (h2 b pb), d, sa, sb⟩
theorem each_skip {R : α → β → HP} {Ps : List HP} {x : α} {y : β} {xs : List α} {ys : List β} (h1 : ∀ g, R x y g) (h2 : ∀ g, star Ps g → Each R xs ys g) {g : Frag} (h : star Ps g) : Each R (x :: xs) (y :: ys) g :=
  ⟨fun _ => none, g, h1 _, star_in (h2 g h), fun _ => .inl rfl, fun _ _ e => (by cases e), Sub.refl _⟩

instance (priority := low) Rdb.rows2 (s : Sl) (rs : List Sl) (bss : List (List UInt8)) (upd : Sl → List Sl → List HP) (rest G : List HP) [o : OwnA s F SL rs upd rest] [f : Find (Each (Ar U8) rs bss) rest G] : Rdb B F (RRows s bss) := ⟨fun g _ hF hs hm => by
  obtain ⟨a, b, pa, pb, _, sa, sb⟩ := star_perm o.start hs
  obtain ⟨c, d, pc, _, _, sc, _⟩ := star_perm f.perm pb
  exact ⟨rs, pa.read.mono (sa.trans hm), pc.length, fun i r bs h1 h2 => (each_read (S := RAr U8) (fun _ _ _ _ h s => h.mono s) (fun _ _ _ h => h.read) pc h1 h2).mono ((sc.trans sb).trans hm)⟩⟩

theorem each_app {R : α → β → HP} {xs' : List α} {ys' : List β} : ∀ {xs : List α} {ys : List β} {h : Frag}, star [Each R xs ys, Each R xs' ys'] h → Each R (xs ++ xs') (ys ++ ys') h := by
  intro xs
  induction xs with
  | nil =>
    intro ys h hh
    cases ys with
    | cons => obtain ⟨a, _, pa, _⟩ := hh; exact pa.elim
    | nil =>
      obtain ⟨a, b, _, ⟨c, d, pc, _, _, sc, _⟩, _, sa, sb⟩ := hh
      exact Each.mono pc (sc.trans sb)
  | cons x xs ih =>
    intro ys h hh
    cases ys with
    | nil => obtain ⟨a, _, pa, _⟩ := hh; exact pa.elim
    | cons y ys =>
      have h1 : star ([R x y, Each R xs ys] ++ [Each R xs' ys']) h := star_flat1 (fun g hg => hg) hh
      exact star_cons (l' := [Each R (xs ++ xs') (ys ++ ys')]) (fun g hg => star_in (ih hg)) h1

end Go.Cf
