/-
  Numbers read back; cursors that may be.
-/
import Derived.Test.YtbdmjjeigbhidaaCD
namespace Go.Cx
open Go Go.Cf
set_option linter.unusedVariables false
variable {B : Base} {As : List HP}

def cut8 (xs : List UInt8) (a : Nat) : List UInt8 := (xs.take (a + 8)).drop a
theorem cut8_len {xs : List UInt8} {a : Nat} (h : a + 8 ≤ xs.length) : (cut8 xs a).length = 8 := by simp [cut8]; omega
theorem cut8_get {xs : List UInt8} {a k : Nat} (hk : k < 8) : (cut8 xs a)[k]? = xs[a + k]? := by
  unfold cut8
  rw [List.getElem?_drop, List.getElem?_take_of_lt (by omega)]
theorem beV_step {q : List UInt8} {k : Nat} {y : UInt8} (h : q[k]? = some y) : beV (q.take (k + 1)) = beV (q.take k) * 256 + y.toNat := by
  rw [List.take_add_one, h]
  exact beV_snoc _ _
theorem beV_small {q : List UInt8} {k : Nat} (hq : q.length = 8) (hk : k < 8) : beV (q.take k) < 72057594037927936 := by
  have h1 := beV_lt k (q.take k) (by simp; omega)
  have h2 := pow_le k (by omega)
  omega
theorem or64 (v : Nat) (y : UInt8) (hv : v < 72057594037927936) : bits .or .u64 (IntKind.u64.wrap ((v : Int) * 2 ^ (min (Int.toNat 8) 64))) (IntKind.u64.wrap (y.toNat : Int)) = ((v * 256 + y.toNat : Nat) : Int) := by
  have hy := u8_lt y
  have e : (2 : Int) ^ (min (Int.toNat 8) 64) = 256 := by decide
  rw [e, show (v : Int) * 256 = ((v * 256 : Nat) : Int) by omega, wrap_u64 _ (by omega), wrap_u64 _ (by omega), u64_or_nat _ _ (by omega) (by omega), show v * 256 = v * 2 ^ 8 from rfl, or_add _ _ 8 (by omega)]

theorem packGet_spec (b : Sl) (xs : List UInt8) (a : Nat) (ha : a + 8 ≤ xs.length) (hm : xs.length ≤ 140737488351232) (hcap : b.n ≤ b.c) : Ct Pr F_pack_Get [b.v, .int .i64 (a : Int), .int .i64 8] (.tup [none, none]) [.int .u64, .int .i64] [] (RAr U8 b xs)
    (fun t Bs => t.1 = (beV (cut8 xs a) : Int) ∧ t.2.1 = 0 ∧ Bs = []) := by
  refine spec2 c_pack_Get fun B hr => ?_
  have fb : Fro B b U8 xs := ⟨hr⟩
  have hb := hr.1
  unfold pack_Get
  refine xiff rfl (xiff ?_ ?_)
  · rw [wrap_id _ (by omega) (by omega)]
    simp; omega
  rw [show IntKind.i64.wrap ((a : Int) + 8) = ((a + 8 : Nat) : Int) by rw [wrap_id _ (by omega) (by omega)]; omega]
  refine xslc (by omega) (by omega) (by omega) (by omega) ?_
  simp only [Int.toNat_natCast]
  have fc : Fro B (b.cut a (a + 8) b.c 1) U8 (cut8 xs a) := ⟨hr.cut a (a + 8) b.c (by omega) (by omega) (by omega)⟩
  have hq := cut8_len ha
  have hsn := fc.rd.1
  refine xloop2 (fun (n : Nat) (v : Int) (i : Int) As => ∃ k : Nat, i = (k : Int) ∧ v = ((beV ((cut8 xs a).take k) : Nat) : Int) ∧ n = 8 - k ∧ k ≤ 8 ∧ As = []) 8 ⟨0, rfl, rfl, rfl, by omega, rfl⟩ ?_
  rintro n _ _ _ K ⟨k, rfl, rfl, rfl, hk, rfl⟩ hK
  refine xif_dec (fun h => ?_) (fun h => ?_)
  · have hk8 : k < 8 := by omega
    have hx := List.getElem?_eq_getElem (l := cut8 xs a) (i := k) (by omega)
    refine xidxn (h1 := by omega) (h := fun _ _ => ?_)
    refine xgetE hx (h := xasrt (by decide) ?_)
    rw [or64 _ _ (beV_small hq hk8), wrap_succ k (by omega)]
    exact hK (8 - (k + 1)) _ _ _ (by omega) ⟨k + 1, rfl, by rw [beV_step hx], rfl, by omega, rfl⟩
  · have hk8 : k = 8 := by omega
    subst hk8
    rw [List.take_of_length_le (by omega)]
    exact xret ⟨rfl, rfl, rfl⟩

theorem rGet02_spec (b : Sl) (xs : List UInt8) (a : Nat) (ha : a + 8 ≤ xs.length) (hm : xs.length ≤ 140737488351232) : Ct Pr F_ref02_Get [b.v, .int .i64 (a : Int), .int .i64 8] (.tup [none, none]) [.int .u64, .int .i64] [] (RAr U8 b xs)
    (fun t Bs => t.1 = (beV (cut8 xs a) : Int) ∧ t.2.1 = 0 ∧ Bs = []) := by
  refine spec2 c_ref02_Get fun B hr => ?_
  have fb : Fro B b U8 xs := ⟨hr⟩
  have hb := hr.1
  unfold ref02_Get
  refine xiff rfl (xiff ?_ ?_)
  · rw [wrap_id _ (by omega) (by omega)]
    simp; omega
  have hq := cut8_len ha
  have hg := fun k (hk : k < 8) => cut8_get (xs := xs) (a := a) hk
  generalize cut8 xs a = q at *
  refine xloop2 (fun (n : Nat) (v : Int) (i : Int) As => ∃ k : Nat, i = (k : Int) ∧ v = ((beV (q.take k) : Nat) : Int) ∧ n = 8 - k ∧ k ≤ 8 ∧ As = []) 8 ⟨0, rfl, rfl, rfl, by omega, rfl⟩ ?_
  rintro n _ _ _ K ⟨k, rfl, rfl, rfl, hk, rfl⟩ hK
  refine xif_dec (fun h => ?_) (fun h => ?_)
  · have hk8 : k < 8 := by omega
    have hx := List.getElem?_eq_getElem (l := q) (i := k) (by omega)
    have hx2 := (hg k hk8).symm.trans hx
    have hsm := beV_small hq hk8
    have hst := beV_step hx
    have hy := u8_lt q[k]
    generalize q[k] = y at *
    rw [show IntKind.i64.wrap ((a : Int) + (k : Int)) = ((a + k : Nat) : Int) by rw [wrap_id _ (by omega) (by omega)]; omega]
    refine xidxn (h1 := by omega) (h := fun _ _ => ?_)
    refine xgetE hx2 (h := ?_)
    rw [show ((beV (q.take k) : Nat) : Int) * 256 = ((beV (q.take k) * 256 : Nat) : Int) by omega, wrap_u64 _ (by omega), wrap_u64 _ (by omega), show ((beV (q.take k) * 256 : Nat) : Int) + (y.toNat : Int) = ((beV (q.take k) * 256 + y.toNat : Nat) : Int) by omega, wrap_u64 _ (by omega), wrap_succ k (by omega)]
    exact hK (8 - (k + 1)) _ _ _ (by omega) ⟨k + 1, rfl, by rw [hst], rfl, by omega, rfl⟩
  · have hk8 : k = 8 := by omega
    subst hk8
    rw [List.take_of_length_le (by omega)]
    exact xret ⟨rfl, rfl, rfl⟩

/-! Cursors. -/
structure Cu where
  a : Int
  b : Int
  c : Int
abbrev top40 : Int := 1099511627776
def okN (x : Int) : Bool := decide (0 ≤ x) && decide (x ≤ top40)
def mayC (c : Cu) : Bool := okN c.a && (okN c.b && okN c.c)
abbrev Cu.v (c : Cu) : Value := .agg #[.int .i64 c.a, .int .i64 c.b, .int .i64 c.c]

theorem numbersOf_spec (c : Cu) : Ct Pr F_cursor_numbersOf [c.v] .agg [.int .i64, .int .i64, .int .i64] [] emp (fun t Bs => t.1 = c.a ∧ t.2.1 = c.b ∧ t.2.2.1 = c.c ∧ Bs = []) := by
  refine spec3 c_cursor_numbersOf fun B _ => ?_
  unfold cursor_numbersOf
  refine xnew fun b => xnew fun b1 => xget (h := xget (h := xget (h := xset (h := xset (h := xset (h := xget (h := xget (h := xget (h := ?_)))))))))
  exact xkeep (l := []) (xret ⟨rfl, rfl, rfl, rfl⟩)

theorem xcell {cs : List Value} {k n : Nat} {s : Sh} {x : s.ty} {K : s.ty → WP} (h : cs[k]? = some (s.mk x)) (hk : k < n) (hK : Ent B As (K x)) : Ent B As (XCell cs (k : Int) n s K) :=
  fun w hw => ⟨by omega, by omega, x, by rw [Int.toNat_natCast]; exact h, hK w hw⟩

theorem ok_iff (x : Int) : (decide (x < 0) || decide (x > top40)) = !(okN x) := by
  show _ = !(decide (0 ≤ x) && decide (x ≤ 1099511627776))
  by_cases h1 : x < 0 <;> by_cases h2 : x > 1099511627776 <;> simp [h1, h2] <;> omega

theorem nmay_spec (c : Cu) : Ct Pr F_cursor_numbers_may [c.v] .one [.bool] [] emp (fun t Bs => t.1 = mayC c ∧ Bs = []) := by
  refine spec1 c_cursor_numbers_may fun B _ => ?_
  unfold cursor_numbers_may
  refine xnew fun b => xget (h := xget (h := xget (h := xdrop 0 ?_)))
  refine xloop1 (fun n i As => ∃ k : Nat, i = (k : Int) ∧ n = 3 - k ∧ k ≤ 3 ∧ (0 < k → okN c.a = true) ∧ (1 < k → okN c.b = true) ∧ (2 < k → okN c.c = true) ∧ As = []) 3 ⟨0, rfl, rfl, by omega, by simp, by simp, by simp, rfl⟩ ?_
  rintro n _ _ K ⟨k, rfl, rfl, hk, h1, h2, h3, rfl⟩ hK
  refine xif_dec (fun h => ?_) (fun h => ?_)
  · have : k = 0 ∨ k = 1 ∨ k = 2 := by omega
    rcases this with rfl | rfl | rfl
    · refine xcell (x := c.a) rfl (by omega) ?_
      rw [show ((decide (c.a < 0)) || (decide (c.a > 1099511627776))) = !(okN c.a) from ok_iff c.a]
      refine xif (fun g => xret ⟨?_, rfl⟩) (fun g => ?_)
      · simp at g; simp [mayC, g]
      · simp at g
        exact hK 2 _ _ (by omega) ⟨1, rfl, rfl, by omega, fun _ => g, fun h => by omega, fun h => by omega, rfl⟩
    · refine xcell (x := c.b) rfl (by omega) ?_
      rw [show ((decide (c.b < 0)) || (decide (c.b > 1099511627776))) = !(okN c.b) from ok_iff c.b]
      refine xif (fun g => xret ⟨?_, rfl⟩) (fun g => ?_)
      · simp at g; simp [mayC, g]
      · simp at g
        exact hK 1 _ _ (by omega) ⟨2, rfl, rfl, by omega, fun _ => h1 (by omega), fun _ => g, fun h => by omega, rfl⟩
    · refine xcell (x := c.c) rfl (by omega) ?_
      rw [show ((decide (c.c < 0)) || (decide (c.c > 1099511627776))) = !(okN c.c) from ok_iff c.c]
      refine xif (fun g => xret ⟨?_, rfl⟩) (fun g => ?_)
      · simp at g; simp [mayC, g]
      · simp at g
        exact hK 0 _ _ (by omega) ⟨3, rfl, rfl, by omega, fun _ => h1 (by omega), fun _ => h2 (by omega), fun _ => g, rfl⟩
  · refine xret ⟨?_, rfl⟩
    simp [mayC, h1 (by omega), h2 (by omega), h3 (by omega)]

end Go.Cx
