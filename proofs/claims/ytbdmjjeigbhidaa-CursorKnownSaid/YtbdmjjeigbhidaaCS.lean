/-
  CRC-32 tells one byte from another: plain law.
-/
import Derived.Test.YtbdmjjeigbhidaaCR
namespace Go.Cx
open Go Go.Cf

theorem xor_back {x p y : Nat} (h : x ^^^ p = y) : x = y ^^^ p := by
  subst h
  rw [Nat.xor_assoc, Nat.xor_self, Nat.xor_zero]

theorem bitN_inj {a b : Nat} (ha : a < 4294967296) (hb : b < 4294967296) (h : bitN a = bitN b) : a = b := by
  have big : ∀ x y : Nat, x < 2147483648 → y < 2147483648 → x ^^^ 3988292384 = y → False := fun x y hx hy e => by
    have h1 := xor_back ((Nat.xor_comm _ _).trans e)
    have h2 : y ^^^ x < 2 ^ 31 := Nat.xor_lt_two_pow (by omega) (by omega)
    omega
  unfold bitN at h
  split at h
  · split at h
    · have := xor_back h
      rw [Nat.xor_assoc, Nat.xor_self, Nat.xor_zero] at this
      omega
    · exact (big _ _ (by omega) (by omega) h).elim
  · split at h
    · exact (big _ _ (by omega) (by omega) h.symm).elim
    · omega

theorem bitsN_inj : ∀ (k : Nat) {a b : Nat}, a < 4294967296 → b < 4294967296 → bitsN k a = bitsN k b → a = b
  | 0, _, _, _, _, h => h
  | k + 1, _, _, ha, hb, h => bitsN_inj k ha hb (bitN_inj (bitsN_lt k ha) (bitsN_lt k hb) h)

theorem byteN_injr {a b : Nat} (ha : a < 4294967296) (hb : b < 4294967296) (y : UInt8) (h : byteN a y.toNat = byteN b y.toNat) : a = b := by
  have hy := u8_lt y
  have := xor_back (bitsN_inj 8 (xor32_lt ha (by omega)) (xor32_lt hb (by omega)) h)
  rwa [Nat.xor_assoc, Nat.xor_self, Nat.xor_zero] at this

theorem byteN_injy {a : Nat} (ha : a < 4294967296) (x y : UInt8) (h : byteN a x.toNat = byteN a y.toNat) : x = y := by
  have hx := u8_lt x
  have hy := u8_lt y
  have h1 := bitsN_inj 8 (xor32_lt ha (by omega)) (xor32_lt ha (by omega)) h
  rw [Nat.xor_comm a, Nat.xor_comm a] at h1
  have h2 := xor_back h1
  rw [Nat.xor_assoc, Nat.xor_self, Nat.xor_zero] at h2
  exact UInt8.toNat_inj.1 h2

theorem runN_injr : ∀ (bs : List UInt8) {a b : Nat}, a < 4294967296 → b < 4294967296 → runN a bs = runN b bs → a = b
  | [], _, _, _, _, h => h
  | y :: bs, _, _, ha, hb, h => byteN_injr ha hb y (runN_injr bs (byteN_lt ha y) (byteN_lt hb y) h)

theorem runN_app (r : Nat) (xs ys : List UInt8) : runN r (xs ++ ys) = runN (runN r xs) ys := by
  unfold runN
  rw [List.foldl_append]

/-- One byte is another one: the sum is another one. -/
theorem moreN_one (crc : Nat) (hc : crc < 4294967296) (xs ys : List UInt8) (x y : UInt8) (h : moreN crc (xs ++ x :: ys) = moreN crc (xs ++ y :: ys)) : x = y := by
  have hi : 4294967295 ^^^ crc < 4294967296 := xor32_lt (by decide) hc
  unfold moreN at h
  rw [Nat.xor_comm 4294967295 (runN _ _), Nat.xor_comm 4294967295 (runN _ _)] at h
  have h1 := xor_back h
  rw [Nat.xor_assoc, Nat.xor_self, Nat.xor_zero, runN_app, runN_app] at h1
  have hl := runN_lt xs hi
  exact byteN_injy hl x y (runN_injr ys (byteN_lt hl x) (byteN_lt hl y) h1)

end Go.Cx
