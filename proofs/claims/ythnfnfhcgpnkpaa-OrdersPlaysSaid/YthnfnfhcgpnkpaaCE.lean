/-
  Numbers read back; cursors that may be.
-/
import Derived.Test.YthnfnfhcgpnkpaaCD
namespace Go.Cx
open Go Go.Cf
set_option linter.unusedVariables false
variable {B : Base} {As : List HP}

def cut8 (xs : List UInt8) (a : Nat) : List UInt8 := (xs.take (a + 8)).drop a
theorem cut8_len {xs : List UInt8} {a : Nat} (h : a + 8 ≤ xs.length) : (cut8 xs a).length = 8 := by simp [cut8]; omega
theorem cut8_get {xs : List UInt8} {a k : Nat} (hk : k < 8) : (cut8 xs a)[k]? = xs[a + k]? := by
  unfold cut8
  rw [List.getElem?_drop, List.getElem?_take_of_lt (by omega)]
theorem beV_step {q : List UInt8} {k : Nat} {y : UInt8} (h : q[k]? = some y) : beV (q.take (k + 1)) = beV (q.take k) * 256 + y.toNat := by
  rw [List.take_add_one, h]
  exact beV_snoc _ _
theorem beV_small {q : List UInt8} {k : Nat} (hq : q.length = 8) (hk : k < 8) : beV (q.take k) < 72057594037927936 := by
  have h1 := beV_lt k (q.take k) (by simp; omega)
  have h2 := pow_le k (by omega)
  omega
theorem or64 (v : Nat) (y : UInt8) (hv : v < 72057594037927936) : bits .or .u64 (IntKind.u64.wrap ((v : Int) * 2 ^ (min (Int.toNat 8) 64))) (IntKind.u64.wrap (y.toNat : Int)) = ((v * 256 + y.toNat : Nat) : Int) := by
  have hy := u8_lt y
  have e : (2 : Int) ^ (min (Int.toNat 8) 64) = 256 := by decide
  rw [e, show (v : Int) * 256 = ((v * 256 : Nat) : Int) by omega, wrap_u64 _ (by omega), wrap_u64 _ (by omega), u64_or_nat _ _ (by omega) (by omega), show v * 256 = v * 2 ^ 8 from rfl, or_add _ _ 8 (by omega)]

structure Cu where
  a : Int
  b : Int
  c : Int
abbrev top40 : Int := 1099511627776
def okN (x : Int) : Bool := decide (0 ≤ x) && decide (x ≤ top40)
def mayC (c : Cu) : Bool := okN c.a && (okN c.b && okN c.c)
abbrev Cu.v (c : Cu) : Value := .agg #[.int .i64 c.a, .int .i64 c.b, .int .i64 c.c]

theorem xcell {cs : List Value} {k n : Nat} {s : Sh} {x : s.ty} {K : s.ty → WP} (h : cs[k]? = some (s.mk x)) (hk : k < n) (hK : Ent B As (K x)) : Ent B As (XCell cs (k : Int) n s K) :=
  fun w hw => ⟨by omega, by omega, x, by rw [Int.toNat_natCast]; exact h, hK w hw⟩

theorem ok_iff (x : Int) : (decide (x < 0) || decide (x > top40)) = !(okN x) := by
  show _ = !(decide (0 ≤ x) && decide (x ≤ 1099511627776))
  by_cases h1 : x < 0 <;> by_cases h2 : x > 1099511627776 <;> simp [h1, h2] <;> omega

end Go.Cx
