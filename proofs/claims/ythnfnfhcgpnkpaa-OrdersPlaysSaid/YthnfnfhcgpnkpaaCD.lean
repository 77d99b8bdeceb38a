/-
  Numbers of eight bytes, in both writings.
-/
import Derived.Test.YthnfnfhcgpnkpaaCC
namespace Go.Cf
open Go
set_option linter.unusedVariables false
variable {B : Base} {As : List HP} {α : Type}
/-- A whole slice's head is written over. -/
theorem xcopyW {P : Program} {t u ty e : TypeId} {sz by_ : Nat} {z : List Value} [a : AppT P t e sz by_ z] {E : Enc α} {s y : Sl} {xs zs ys : List α} {F : List HP} {K : Int → WP}
    (hy : ∀ w, Sx B (Ars E s xs zs :: F) w → RAr E y ys (mem w)) (hsz : E.sz = sz := by rfl) (hl : ys.length ≤ xs.length) (hn : xs.length = s.n) (hc : s.n ≤ s.c)
    (h : ∀ n, Ent B (Ars E s (ys ++ xs.drop ys.length) zs :: F) (K n)) : Ent B (Ars E s xs zs :: F) (XCopy P t u ty s.v y.v K) := by
  have e : s.cut 0 s.n s.c sz = s := cut_zero s s.n sz
  have := xcopy (P := P) (t := t) (u := u) (ty := ty) (K := K) (s := s) (y := y) (l := 0) (r := s.n) (m := s.c) (sz := sz) (xs := xs) (zs := zs) (ys := ys) (F := F) (B := B) hy (ys ++ xs.drop ys.length) zs (hsz := hsz) (hrm := hc) (hlk := by omega) (hl := by simp; omega) (he := by
    have : min ys.length (s.n - 0) = ys.length := by omega
    rw [this, Nat.zero_add, List.take_zero, List.take_of_length_le (by omega), List.drop_append_of_le_length hl]; simp) (h := h)
  rw [e] at this
  exact this
end Go.Cf

namespace Go.Cx
open Go Go.Cf
set_option linter.unusedVariables false
variable {B : Base} {As : List HP}

def be8 (v : Nat) : List UInt8 := (List.range 8).map fun i => UInt8.ofNat (v / 256 ^ (7 - i))
theorem be8_len (v : Nat) : (be8 v).length = 8 := by simp [be8]
theorem be8_get (v : Nat) {i : Nat} (h : i < 8) : (be8 v)[i]? = some (UInt8.ofNat (v / 256 ^ (7 - i))) := by
  unfold be8
  rw [List.getElem?_map, List.getElem?_range h]; rfl
def beV (bs : List UInt8) : Nat := bs.foldl (fun v y => v * 256 + y.toNat) 0
theorem beV_snoc (bs : List UInt8) (y : UInt8) : beV (bs ++ [y]) = beV bs * 256 + y.toNat := by
  unfold beV
  rw [List.foldl_append]; rfl
theorem beV_lt : ∀ (n : Nat) (bs : List UInt8), bs.length = n → beV bs < 256 ^ n := by
  intro n
  induction n with
  | zero => intro bs h; have := List.eq_nil_of_length_eq_zero h; subst this; decide
  | succ n ih =>
    intro bs h
    have hne : bs ≠ [] := fun e => by subst e; simp at h
    have e := List.dropLast_concat_getLast hne
    have hl : bs.dropLast.length = n := by simp; omega
    have := ih _ hl
    have hy := u8_lt (bs.getLast hne)
    rw [← e, beV_snoc, Nat.pow_succ]
    omega

theorem pow_le (k : Nat) (h : k ≤ 7) : 256 ^ k ≤ 72057594037927936 := by
  have : (256 : Nat) ^ k ≤ 256 ^ 7 := Nat.pow_le_pow_right (by decide) h
  simpa using this

theorem shift_le : ∀ k : Nat, k < 8 → (2 : Int) ^ (min (Int.toNat (IntKind.i64.wrap (8 * (k : Int)))) 64) = ((256 ^ k : Nat) : Int) ∧ 0 ≤ IntKind.i64.wrap (8 * (k : Int)) := by decide

end Go.Cx
