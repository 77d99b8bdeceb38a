/-
  The usual elements; numbers.
-/
import Derived.Test.YtekfoaklfnldhaaGreatDoorCfU
namespace Go.Cf
open Go

def U8 : Enc UInt8 := ⟨fun x => [.int .u8 x.toNat], 1, fun _ => rfl, fun x v h => by simp at h; subst h; rfl, by decide, 0⟩
def I64 : Enc Int := ⟨fun x => [.int .i64 x], 1, fun _ => rfl, fun x v h => by simp at h; subst h; rfl, by decide, 0⟩
def BL : Enc Bool := ⟨fun x => [.bool x], 1, fun _ => rfl, fun x v h => by simp at h; subst h; rfl, by decide, false⟩
def SL : Enc Sl := ⟨fun x => [x.v], 1, fun _ => rfl, fun x v h => by simp at h; subst h; rfl, by decide, ⟨none, 0, 0⟩⟩
def ST : Enc ByteArray := ⟨fun x => [.string x], 1, fun _ => rfl, fun x v h => by simp at h; subst h; rfl, by decide, ByteArray.empty⟩

theorem wrap_id (x : Int) (h1 : -9223372036854775808 ≤ x) (h2 : x ≤ 9223372036854775807) : IntKind.i64.wrap x = x := by
  have e1 : (2 ^ IntKind.i64.bits : Int) = 18446744073709551616 := by decide
  have e2 : (2 ^ (IntKind.i64.bits - 1) : Int) = 9223372036854775808 := by decide
  have e3 : IntKind.i64.signed = true := rfl
  simp only [IntKind.wrap, e1, e2, e3, Bool.true_and, decide_eq_true_eq]
  split <;> omega

theorem wrap_succ (k : Nat) (h : k < 9223372036854775807) : IntKind.i64.wrap ((k : Int) + 1) = ((k + 1 : Nat) : Int) := by
  rw [wrap_id _ (by omega) (by omega)]; simp

theorem u8_ne (x y : UInt8) : ((x.toNat : Int) != (y.toNat : Int)) = (x != y) := by
  rw [Bool.eq_iff_iff]
  simp only [bne_iff_ne, ne_eq]
  rw [Int.natCast_inj, UInt8.toNat_inj]

end Go.Cf
namespace Go.Cf
open Go

/-! Many things, each with what it stands for. -/
section
variable {α β : Type}

def Each (R : α → β → HP) : List α → List β → HP
  | [], [] => fun _ => True
  | x :: xs, y :: ys => star [R x y, Each R xs ys]
  | _, _ => fun _ => False

theorem Each.length {R : α → β → HP} : ∀ {xs : List α} {ys : List β} {h : Frag}, Each R xs ys h → xs.length = ys.length := by
  intro xs
  induction xs with
  | nil => intro ys h hh; cases ys <;> first | rfl | exact hh.elim
  | cons x xs ih =>
    intro ys h hh
    cases ys with
    | nil => exact hh.elim
    | cons y ys =>
      obtain ⟨a, b, _, ⟨c, d, pc, _, _, _, _⟩, _, _, _⟩ := hh
      simp [ih pc]

theorem star_one {P : HP} {h : Frag} (hm : ∀ g f, P g → Sub g f → P f) : star [P] h ↔ P h :=
  ⟨fun ⟨a, _, pa, _, _, sa, _⟩ => hm a h pa sa, fun p => ⟨h, fun _ => none, p, trivial, fun _ => .inr rfl, Sub.refl _, fun _ _ e => by cases e⟩⟩

theorem Each.mono {R : α → β → HP} : ∀ {xs : List α} {ys : List β} {h g : Frag}, Each R xs ys h → Sub h g → Each R xs ys g := by
  intro xs
  cases xs with
  | nil => intro ys h g hh _; cases ys <;> first | trivial | exact hh.elim
  | cons x xs =>
    intro ys h g hh s
    cases ys with
    | nil => exact hh.elim
    | cons y ys => exact star_mono _ hh s

theorem star_flat1 {P : HP} {l l' : List HP} {h : Frag} (hp : ∀ g, P g → star l g) (hs : star (P :: l') h) : star (l ++ l') h := by
  obtain ⟨a, b, pa, pb, d, sa, sb⟩ := hs
  exact (star_append l l').2 ⟨a, b, hp a pa, pb, d, sa, sb⟩

theorem star_fold1 {P : HP} {l l' : List HP} {h : Frag} (hp : ∀ g, star l g → P g) (hs : star (l ++ l') h) : star (P :: l') h := by
  obtain ⟨a, b, pa, pb, d, sa, sb⟩ := (star_append l l').1 hs
  exact ⟨a, b, hp a pa, pb, d, sa, sb⟩

theorem each_snoc {R : α → β → HP} {x : α} {y : β} : ∀ {xs : List α} {ys : List β} {h : Frag}, star [Each R xs ys, R x y] h → Each R (xs ++ [x]) (ys ++ [y]) h := by
  intro xs
  induction xs with
  | nil =>
    intro ys h hh
    cases ys with
    | cons => obtain ⟨a, _, pa, _⟩ := hh; exact pa.elim
    | nil =>
      have h2 := star_swap hh
      exact star_mono _ h2 (Sub.refl _)
  | cons x' xs ih =>
    intro ys h hh
    cases ys with
    | nil => obtain ⟨a, _, pa, _⟩ := hh; exact pa.elim
    | cons y' ys =>
      have h1 : star ([R x' y', Each R xs ys] ++ [R x y]) h := star_flat1 (fun g hg => hg) hh
      exact star_cons (l' := [Each R (xs ++ [x]) (ys ++ [y])]) (fun g hg => ⟨g, fun _ => none, ih hg, trivial, fun _ => .inr rfl, Sub.refl _, fun _ _ e => by cases e⟩) h1

/-- One of them, and the others. -/
theorem each_pick {R : α → β → HP} : ∀ {xs : List α} {ys : List β} {h : Frag} {i : Nat} {x : α} {y : β}, Each R xs ys h → xs[i]? = some x → ys[i]? = some y → star [R x y, Each R (xs.eraseIdx i) (ys.eraseIdx i)] h := by
  intro xs
  induction xs with
  | nil => intro ys h i x y _ hx; simp at hx
  | cons x' xs ih =>
    intro ys h i x y hh hx hy
    cases ys with
    | nil => exact hh.elim
    | cons y' ys =>
      cases i with
      | zero =>
        simp only [List.getElem?_cons_zero, Option.some.injEq] at hx hy
        subst hx hy
        exact hh
      | succ i =>
        have h1 : star [R x' y', R x y, Each R (xs.eraseIdx i) (ys.eraseIdx i)] h := by
          refine star_cons (fun g hg => ?_) hh
          obtain ⟨a, b, pa, _, _, sa, _⟩ := hg
          exact star_mono _ (ih pa (by simpa using hx) (by simpa using hy)) sa
        refine star_cons (l' := [Each R ((x' :: xs).eraseIdx (i+1)) ((y' :: ys).eraseIdx (i+1))]) (fun g hg => ?_) (star_swap h1)
        exact ⟨g, fun _ => none, star_mono _ hg (Sub.refl _), trivial, fun _ => .inr rfl, Sub.refl _, fun _ _ e => by cases e⟩

theorem each_put {R : α → β → HP} : ∀ {xs : List α} {ys : List β} {h : Frag} {i : Nat} {x : α} {y : β}, i < xs.length → i < ys.length → star [R x y, Each R (xs.eraseIdx i) (ys.eraseIdx i)] h → Each R (xs.set i x) (ys.set i y) h := by
  intro xs
  induction xs with
  | nil => intro ys h i x y hi; simp at hi
  | cons x' xs ih =>
    intro ys h i x y hi hj hh
    cases ys with
    | nil => simp at hj
    | cons y' ys =>
      cases i with
      | zero => exact hh
      | succ i =>
        have h1 : star ([R x' y', Each R (xs.eraseIdx i) (ys.eraseIdx i)] ++ [R x y]) h := star_flat1 (fun g hg => hg) (star_swap hh)
        refine star_cons (l' := [Each R (xs.set i x) (ys.set i y)]) (fun g hg => ?_) h1
        exact ⟨g, fun _ => none, ih (by simpa using hi) (by simpa using hj) (star_swap hg), trivial, fun _ => .inr rfl, Sub.refl _, fun _ _ e => by cases e⟩

theorem each_imp {R S : α → β → HP} (h : ∀ x y g, R x y g → S x y g) : ∀ {xs : List α} {ys : List β} {g : Frag}, Each R xs ys g → Each S xs ys g := by
  intro xs
  induction xs with
  | nil => intro ys g hh; cases ys <;> first | trivial | exact hh.elim
  | cons x xs ih =>
    intro ys g hh
    cases ys with
    | nil => exact hh.elim
    | cons y ys => exact star_cons (fun g hg => star_imp (fun q hq => ih hq) hg) (star_imp (h x y) hh)

/-- What one may read of each. -/
theorem each_read {R : α → β → HP} {S : α → β → HP} (hm : ∀ x y g f, S x y g → Sub g f → S x y f) (hr : ∀ x y g, R x y g → S x y g) : ∀ {xs : List α} {ys : List β} {h : Frag} {i : Nat} {x : α} {y : β}, Each R xs ys h → xs[i]? = some x → ys[i]? = some y → S x y h := by
  intro xs ys h i x y hh hx hy
  obtain ⟨a, b, pa, _, _, sa, _⟩ := each_pick hh hx hy
  exact hm _ _ _ _ (hr _ _ _ pa) sa
end

/-- ORows that may be read: a slice of slices of bytes. -/
def RRows (s : Sl) (bss : List (List UInt8)) : HP := fun h => ∃ rs : List Sl, RAr SL s rs h ∧ rs.length = bss.length ∧ ∀ (i : Nat) (r : Sl) (bs : List UInt8), rs[i]? = some r → bss[i]? = some bs → RAr U8 r bs h

theorem RRows.mono {s : Sl} {bss : List (List UInt8)} {h g : Frag} (hr : RRows s bss h) (hs : Sub h g) : RRows s bss g := by
  obtain ⟨rs, h1, h2, h3⟩ := hr
  exact ⟨rs, h1.mono hs, h2, fun i r bs hi hb => (h3 i r bs hi hb).mono hs⟩

/-- ORows of one's own. -/
def ORows (s : Sl) (bss : List (List UInt8)) : HP := fun h => ∃ rs : List Sl, star [Ar SL s rs, Each (Ar U8) rs bss] h

end Go.Cf
