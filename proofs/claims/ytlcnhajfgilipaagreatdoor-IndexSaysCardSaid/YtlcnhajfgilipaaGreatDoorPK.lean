/-
  Numbers of eight bytes: put and got.
-/
import Derived.Test.YtlcnhajfgilipaaGreatDoorC1
namespace Go.Cx
open Go Go.Cf
set_option linter.unusedVariables false
variable {B : Base} {As : List HP}

theorem packGet_spec (b : Sl) (xs : List UInt8) (a : Nat) (ha : a + 8 ≤ xs.length) (hm : xs.length ≤ 140737488351232) (hcap : b.n ≤ b.c) : Ct Pr F_pack_Get [b.v, .int .i64 (a : Int), .int .i64 8] (.tup [none, none]) [.int .u64, .int .i64] [] (RAr U8 b xs)
    (fun t Bs => t.1 = (beV (cut8 xs a) : Int) ∧ t.2.1 = 0 ∧ Bs = []) := by
  refine spec2 c_pack_Get fun B hr => ?_
  have fb : Fro B b U8 xs := ⟨hr⟩
  have hb := hr.1
  unfold pack_Get
  refine xiff rfl (xiff ?_ ?_)
  · rw [wrap_id _ (by omega) (by omega)]
    simp; omega
  rw [show IntKind.i64.wrap ((a : Int) + 8) = ((a + 8 : Nat) : Int) by rw [wrap_id _ (by omega) (by omega)]; omega]
  refine xslc (by omega) (by omega) (by omega) (by omega) ?_
  simp only [Int.toNat_natCast]
  have fc : Fro B (b.cut a (a + 8) b.c 1) U8 (cut8 xs a) := ⟨hr.cut a (a + 8) b.c (by omega) (by omega) (by omega)⟩
  have hq := cut8_len ha
  have hsn := fc.rd.1
  refine xloop2 (fun (n : Nat) (v : Int) (i : Int) As => ∃ k : Nat, i = (k : Int) ∧ v = ((beV ((cut8 xs a).take k) : Nat) : Int) ∧ n = 8 - k ∧ k ≤ 8 ∧ As = []) 8 ⟨0, rfl, rfl, rfl, by omega, rfl⟩ ?_
  rintro n _ _ _ K ⟨k, rfl, rfl, rfl, hk, rfl⟩ hK
  refine xif_dec (fun h => ?_) (fun h => ?_)
  · have hk8 : k < 8 := by omega
    have hx := List.getElem?_eq_getElem (l := cut8 xs a) (i := k) (by omega)
    refine xidxn (h1 := by omega) (h := fun _ _ => ?_)
    refine xgetE hx (h := xasrt (by decide) ?_)
    rw [or64 _ _ (beV_small hq hk8), wrap_succ k (by omega)]
    exact hK (8 - (k + 1)) _ _ _ (by omega) ⟨k + 1, rfl, by rw [beV_step hx], rfl, by omega, rfl⟩
  · have hk8 : k = 8 := by omega
    subst hk8
    rw [List.take_of_length_le (by omega)]
    exact xret ⟨rfl, rfl, rfl⟩

end Go.Cx
