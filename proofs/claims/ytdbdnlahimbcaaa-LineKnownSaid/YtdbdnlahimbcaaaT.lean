/-
  In how many bits rows are apart.
-/
import Derived.Test.YtdbdnlahimbcaaaS
namespace Go.Cx
open Go Go.Cf
set_option linter.unusedVariables false

/-- The bits of a number below 256. -/
def popN : Nat → Nat → Nat
  | 0, _ => 0
  | k + 1, n => n % 2 + popN k (n / 2)
def xorN (x y : UInt8) : Nat := (bits .xor .u8 x.toNat y.toNat).toNat
def apartL (xs ys : List UInt8) : Int := if xs.length = ys.length then ((xs.zipWith (fun x y => popN 8 (xorN x y)) ys).sum : Nat) else -1

theorem popN_le (k n : Nat) : popN k n ≤ k := by
  induction k generalizing n with
  | zero => simp [popN]
  | succ k ih => simp only [popN]; have := ih (n / 2); omega

theorem popN_zero (k : Nat) : popN k 0 = 0 := by
  induction k with
  | zero => rfl
  | succ k ih => simpa [popN] using ih

theorem and_one (n : Nat) (h : n < 256) : bits .and .u8 (n : Int) 1 = ((n % 2 : Nat) : Int) := by
  have : ∀ n : Nat, n < 256 → bits .and .u8 (n : Int) 1 = ((n % 2 : Nat) : Int) := by decide +kernel
  exact this n h

theorem sum_le (l : List Nat) (h : ∀ x ∈ l, x ≤ 8) : l.sum ≤ 8 * l.length := by
  induction l with
  | nil => simp
  | cons x l ih =>
    have h1 := h x (by simp)
    have h2 := ih (fun y hy => h y (by simp [hy]))
    simp only [List.sum_cons, List.length_cons]; omega

theorem apart_spec (a b : Sl) (xs ys : List UInt8) (hm : xs.length ≤ 140737488355328) :
    Ct Pr F_law20_apart [a.v, b.v] .one [.int .i64] [] ((RAr U8 a xs).and (RAr U8 b ys)) (fun t Bs => t.1 = apartL xs ys ∧ Bs = []) := by
  refine spec1 c_law20_apart fun B hr => ?_
  have fa : Fro B a U8 xs := ⟨hr.1⟩
  have fb : Fro B b U8 ys := ⟨hr.2⟩
  have ha := hr.1.1
  have hb := hr.2.1
  unfold law20_apart
  refine xif (fun h => ?_) (fun h => ?_)
  · refine xret ⟨?_, rfl⟩
    have : xs.length ≠ ys.length := by simp at h; omega
    simp [apartL, this]
  · have hl : xs.length = ys.length := by simp at h; omega
    refine xloop2 (fun n r i As => ∃ k : Nat, i = (k : Int) ∧ n = xs.length - k ∧ k ≤ xs.length ∧ r = (((xs.zipWith (fun x y => popN 8 (xorN x y)) ys).take k).sum : Nat) ∧ As = []) xs.length ⟨0, rfl, rfl, by omega, rfl, rfl⟩ ?_
    rintro n _ _ _ K ⟨k, rfl, rfl, hk, rfl, rfl⟩ hK
    have hzl : (xs.zipWith (fun x y => popN 8 (xorN x y)) ys).length = xs.length := by simp; omega
    have hsum : ((xs.zipWith (fun x y => popN 8 (xorN x y)) ys).take k).sum ≤ 8 * k := by
      refine Nat.le_trans (sum_le _ ?_) (by simp only [List.length_take]; omega)
      intro z hz
      obtain ⟨i, hi, rfl⟩ := List.getElem_of_mem (List.mem_of_mem_take hz)
      simp only [List.getElem_zipWith]
      exact popN_le _ _
    refine xif_dec (fun h => ?_) (fun h => ?_)
    · refine xdraw (xidxn rfl (by omega) fun x hx => xgetE hx rfl rfl (xidxn rfl (by omega) fun y hy => xgetE hy rfl rfl ?_))
      have hb8 := bits_u8 .xor (x.toNat : Int) (y.toNat : Int)
      have hx0 : bits .xor .u8 (x.toNat : Int) (y.toNat : Int) = ((xorN x y : Nat) : Int) := by unfold xorN; omega
      have hz : (xs.zipWith (fun x y => popN 8 (xorN x y)) ys)[k]? = some (popN 8 (xorN x y)) := by
        rw [List.getElem?_zipWith, hx, hy]
      rw [hx0]
      have hlt : xorN x y < 256 := by unfold xorN; omega
      generalize xorN x y = v at hz hlt
      refine xloop2 (fun n r u As => ∃ (j m : Nat), j ≤ 8 ∧ n = j ∧ u = (m : Int) ∧ m < 2 ^ j ∧ r = ((((xs.zipWith (fun x y => popN 8 (xorN x y)) ys).take k).sum + popN 8 v - popN j m : Nat) : Int) ∧ popN j m ≤ popN 8 v ∧ As = []) 8 ⟨8, v, by omega, rfl, rfl, hlt, by simp, Nat.le_refl _, rfl⟩ ?_
      rintro n _ _ _ K' ⟨j, m, hj, hnj, rfl, hm2, rfl, hle, rfl⟩ hK'
      subst n
      have hp8 := popN_le 8 v
      refine xif (fun h => ?_) (fun h => ?_)
      · have hm0 : m ≠ 0 := by simpa using h
        cases j with
        | zero => simp at hm2; omega
        | succ j =>
          have hm256 : m < 256 := Nat.lt_of_lt_of_le hm2 (by have := Nat.pow_le_pow_right (n := 2) (by omega) hj; simpa using this)
          refine xasrt (by decide) ?_
          have e1 : Int.fdiv (m : Int) (2 ^ (min (Int.toNat 1) 8)) = ((m / 2 : Nat) : Int) := by
            show Int.fdiv (m : Int) 2 = _
            rw [Int.fdiv_eq_ediv_of_nonneg _ (by omega)]; omega
          have hp : popN (j + 1) m = m % 2 + popN j (m / 2) := rfl
          rw [hp] at hle ⊢
          have hm1 : m % 2 ≤ 1 := by omega
          rw [e1, and_one m hm256, wrap_id ((m % 2 : Nat) : Int) (by omega) (by omega), wrap_id _ (by omega) (by omega)]
          refine hK' j _ _ _ (by omega) ⟨j, m / 2, by omega, rfl, rfl, by rw [Nat.pow_succ] at hm2; omega, (by show (_ : Int) = ((_ : Nat) : Int); omega), by omega, rfl⟩
      · have hm0 : m = 0 := by simpa using h
        subst hm0
        rw [wrap_succ k (by omega)]
        refine hK (xs.length - (k + 1)) _ _ _ (by omega) ⟨k + 1, rfl, rfl, by omega, ?_, rfl⟩
        rw [popN_zero, List.take_add_one, hz]
        simp
    · refine xret ⟨?_, rfl⟩
      have : k = xs.length := by omega
      subst this
      rw [List.take_of_length_le (by omega)]
      simp [apartL, hl]

end Go.Cx
