/-
  CRC-32, in both writings.
-/
import Derived.Test.YthnfnfhcgpnkpaaDR
import Derived.Laws.BitsAllLaws
namespace Go.Cx
open Go Go.Cf
set_option linter.unusedVariables false
variable {B : Base} {As : List HP}

def bitN (r : Nat) : Nat := if r % 2 = 1 then (r / 2) ^^^ 3988292384 else r / 2
def bitsN : Nat → Nat → Nat
  | 0, r => r
  | k + 1, r => bitN (bitsN k r)
def byteN (r y : Nat) : Nat := bitsN 8 (r ^^^ y)
def runN (r : Nat) (bs : List UInt8) : Nat := bs.foldl (fun r y => byteN r y.toNat) r
def moreN (crc : Nat) (bs : List UInt8) : Nat := 4294967295 ^^^ runN (4294967295 ^^^ crc) bs

theorem xor32_lt {a b : Nat} (ha : a < 4294967296) (hb : b < 4294967296) : a ^^^ b < 4294967296 := Nat.xor_lt_two_pow (n := 32) ha hb
theorem bitN_lt {r : Nat} (h : r < 4294967296) : bitN r < 4294967296 := by
  unfold bitN
  split
  · exact xor32_lt (by omega) (by decide)
  · omega
theorem bitsN_lt : ∀ (k : Nat) {r : Nat}, r < 4294967296 → bitsN k r < 4294967296
  | 0, _, h => h
  | k + 1, _, h => bitN_lt (bitsN_lt k h)
theorem u8_lt (y : UInt8) : y.toNat < 256 := y.toNat_lt
theorem byteN_lt {r : Nat} (h : r < 4294967296) (y : UInt8) : byteN r y.toNat < 4294967296 := bitsN_lt 8 (xor32_lt h (by have := u8_lt y; omega))
theorem runN_lt : ∀ (bs : List UInt8) {r : Nat}, r < 4294967296 → runN r bs < 4294967296
  | [], _, h => h
  | y :: bs, _, h => runN_lt bs (byteN_lt h y)
theorem runN_snoc (bs : List UInt8) (r : Nat) (y : UInt8) : runN r (bs ++ [y]) = byteN (runN r bs) y.toNat := by
  unfold runN
  rw [List.foldl_append]; rfl
theorem moreN_lt {crc : Nat} (h : crc < 4294967296) (bs : List UInt8) : moreN crc bs < 4294967296 := xor32_lt (by decide) (runN_lt bs (xor32_lt (by decide) h))

theorem wrap_u32 (n : Nat) (h : n < 4294967296) : IntKind.u32.wrap (n : Int) = n := by
  have e1 : (2 ^ IntKind.u32.bits : Int) = 4294967296 := by decide
  have e3 : IntKind.u32.signed = false := rfl
  simp only [IntKind.wrap, e1, e3, Bool.false_and]
  simp; omega
theorem wrap_u64 (n : Nat) (h : n < 18446744073709551616) : IntKind.u64.wrap (n : Int) = n := by
  have e1 : (2 ^ IntKind.u64.bits : Int) = 18446744073709551616 := by decide
  have e3 : IntKind.u64.signed = false := rfl
  simp only [IntKind.wrap, e1, e3, Bool.false_and]
  simp; omega
theorem wrap_u8 (n : Nat) : IntKind.u8.wrap (n : Int) = ((n % 256 : Nat) : Int) := by
  have e1 : (2 ^ IntKind.u8.bits : Int) = 256 := by decide
  have e3 : IntKind.u8.signed = false := rfl
  simp only [IntKind.wrap, e1, e3, Bool.false_and]
  simp

theorem half_eq (r : Nat) : Int.fdiv (r : Int) (2 ^ (min (Int.toNat 1) 32)) = ((r / 2 : Nat) : Int) := by
  have e : (2 : Int) ^ (min (Int.toNat 1) 32) = 2 := by decide
  rw [e, Int.fdiv_eq_ediv_of_nonneg _ (by omega)]
  omega

theorem more_bit (r : Nat) (h : r < 4294967296) : (if (bits .and .u32 (r : Int) 1 == 1) = true then bits .xor .u32 (Int.fdiv (r : Int) (2 ^ (min (Int.toNat 1) 32))) 3988292384 else Int.fdiv (r : Int) (2 ^ (min (Int.toNat 1) 32))) = ((bitN r : Nat) : Int) := by
  have e1 : bits .and .u32 (r : Int) 1 = ((r % 2 : Nat) : Int) := by
    have := u32_and_nat r 1 h (by decide)
    rw [Nat.and_one_is_mod] at this
    exact this
  rw [e1, half_eq]
  unfold bitN
  by_cases g : r % 2 = 1
  · rw [if_pos (by rw [g]; rfl), if_pos g]
    exact u32_xor_nat (r / 2) 3988292384 (by omega) (by decide)
  · rw [if_neg (by simp; omega), if_neg g]

theorem More_spec (crc : Nat) (hc : crc < 4294967296) (b : Sl) (xs : List UInt8) (hm : xs.length ≤ 140737488351232) : Ct Pr F_sums_More32 [.int .u32 (crc : Int), b.v] .one [.int .u32] [] (RAr U8 b xs) (fun t Bs => t.1 = (moreN crc xs : Int) ∧ Bs = []) := by
  refine spec1 c_sums_More32 fun B hr => ?_
  have fb : Fro B b U8 xs := ⟨hr⟩
  have hb := hr.1
  unfold sums_More32
  have e0 : bits .xor .u32 4294967295 (crc : Int) = ((4294967295 ^^^ crc : Nat) : Int) := u32_xor_nat 4294967295 crc (by decide) hc
  rw [e0]
  have hi : 4294967295 ^^^ crc < 4294967296 := xor32_lt (by decide) hc
  refine xloop2 (fun (n : Nat) (r : Int) (i : Int) As => ∃ k : Nat, i = (k : Int) ∧ r = (runN (4294967295 ^^^ crc) (xs.take k) : Int) ∧ n = xs.length - k ∧ k ≤ xs.length ∧ As = []) xs.length ⟨0, rfl, rfl, rfl, by omega, rfl⟩ ?_
  rintro n _ _ _ K ⟨k, rfl, rfl, rfl, hk, rfl⟩ hK
  have hlt := runN_lt (xs.take k) hi
  have hs : k < xs.length → runN (4294967295 ^^^ crc) (xs.take (k + 1)) = byteN (runN (4294967295 ^^^ crc) (xs.take k)) (xs.getD k 0).toNat := fun h => by
    rw [List.take_add_one, List.getElem?_eq_getElem h]
    show runN _ (xs.take k ++ [xs[k]]) = _
    rw [runN_snoc, List.getD_eq_getElem?_getD, List.getElem?_eq_getElem h]; rfl
  generalize hr' : runN (4294967295 ^^^ crc) (xs.take k) = r at *
  refine xif_dec (fun h => ?_) (fun h => ?_)
  · have hkl : k < xs.length := by omega
    have hx := List.getElem?_eq_getElem hkl
    have hy := u8_lt xs[k]
    have hs := hs hkl
    rw [List.getD_eq_getElem?_getD, hx] at hs
    simp only [Option.getD_some] at hs
    generalize xs[k] = y at *
    refine xidxn (h1 := hkl) (h := fun _ _ => ?_)
    refine xgetE hx (h := ?_)
    have e1 : bits .xor .u32 (r : Int) (IntKind.u32.wrap (y.toNat : Int)) = ((r ^^^ y.toNat : Nat) : Int) := by
      rw [wrap_u32 y.toNat (by omega)]
      exact u32_xor_nat r y.toNat hlt (by omega)
    rw [e1]
    have h2 : r ^^^ y.toNat < 4294967296 := xor32_lt hlt (by omega)
    refine xloop2 (fun (n : Nat) (r1 : Int) (i : Int) As => ∃ j : Nat, i = (j : Int) ∧ r1 = (bitsN j (r ^^^ y.toNat) : Int) ∧ n = 8 - j ∧ j ≤ 8 ∧ As = []) 8 ⟨0, rfl, rfl, rfl, by omega, rfl⟩ ?_
    rintro n _ _ _ K2 ⟨j, rfl, rfl, rfl, hj, rfl⟩ hK2
    have hl2 := bitsN_lt j h2
    refine xif_dec (fun h => ?_) (fun h => ?_)
    · have hstep : bitsN (j + 1) (r ^^^ y.toNat) = bitN (bitsN j (r ^^^ y.toNat)) := rfl
      generalize bitsN j (r ^^^ y.toNat) = q at *
      have eb := more_bit q hl2
      refine xasrt (by decide) (xjoin ?_)
      rw [wrap_succ j (by omega)]
      refine xif (fun g => ?_) (fun g => ?_)
      · rw [if_pos g] at eb
        rw [eb]
        exact hK2 (8 - (j + 1)) _ _ _ (by omega) ⟨j + 1, rfl, by rw [hstep], rfl, by omega, rfl⟩
      · rw [if_neg (by rw [g]; simp)] at eb
        rw [eb]
        exact hK2 (8 - (j + 1)) _ _ _ (by omega) ⟨j + 1, rfl, by rw [hstep], rfl, by omega, rfl⟩
    · have : j = 8 := by omega
      subst this
      rw [wrap_succ k (by omega)]
      refine hK (xs.length - (k + 1)) _ _ _ (by omega) ⟨k + 1, rfl, ?_, rfl, by omega, rfl⟩
      rw [hs]; rfl
  · have : k = xs.length := by omega
    subst this
    rw [List.take_length] at hr'
    refine xret ⟨?_, rfl⟩
    rw [show bits .xor .u32 4294967295 (r : Int) = ((4294967295 ^^^ r : Nat) : Int) from u32_xor_nat 4294967295 r (by decide) hlt, ← hr']
    rfl

end Go.Cx
