/-
  A saved cursor reads back: plain laws.
-/
import Derived.Test.YtbdmjjeigbhidaaCM
namespace Go.Cx
open Go Go.Cf
set_option linter.unusedVariables false

theorem beV_be8 (v : Nat) (hv : v < 18446744073709551616) : beV (be8 v) = v := by
  have h : ∀ k, k ≤ 8 → beV ((be8 v).take k) = v / 256 ^ (8 - k) := by
    intro k
    induction k with
    | zero =>
      intro _
      have : v / 256 ^ 8 = 0 := Nat.div_eq_of_lt (by omega)
      show beV [] = v / 256 ^ 8
      rw [this]; rfl
    | succ k ih =>
      intro hk
      rw [beV_step (be8_get v (by omega)), ih (by omega), UInt8.toNat_ofNat', show 8 - k = (7 - k) + 1 by omega, show 8 - (k + 1) = 7 - k by omega, Nat.pow_succ, ← Nat.div_div_eq_div_mul]
      omega
  have := h 8 (by omega)
  rw [List.take_of_length_le (by rw [be8_len]; omega)] at this
  simpa using this

theorem get_frame (p : List UInt8) (hp : p.length ≤ 1024) : getN (frameN p) = (p, 6 + p.length, 0) := by
  have hl : (frameN p).length = 6 + p.length := by unfold frameN; rw [List.length_append]; rfl
  have hf : frLen (frameN p) = p.length := by
    show (UInt8.ofNat (p.length / 256)).toNat * 256 + (UInt8.ofNat p.length).toNat = p.length
    rw [UInt8.toNat_ofNat', UInt8.toNat_ofNat']
    omega
  have hd : ((frameN p).take (6 + p.length)).drop 6 = p := by
    rw [List.take_of_length_le (by omega)]
    rfl
  have hc : crcOf (frameN p) = sumN p := (crc_iff (frameN p) p (by omega)).2 fun _ _ _ => rfl
  unfold getN
  rw [if_neg (by omega), if_neg (by omega), if_neg (by omega), hf, hd, if_pos hc]

theorem cut_be (a b c : Nat) : cut8 (be8 a ++ be8 b ++ be8 c) 0 = be8 a ∧ cut8 (be8 a ++ be8 b ++ be8 c) 8 = be8 b ∧ cut8 (be8 a ++ be8 b ++ be8 c) 16 = be8 c := by
  have la := be8_len a
  have lb := be8_len b
  have lc := be8_len c
  refine ⟨?_, ?_, ?_⟩
  · unfold cut8
    rw [List.append_assoc, List.take_append_of_le_length (by omega), List.take_of_length_le (by omega), List.drop_zero]
  · unfold cut8
    rw [List.take_append_of_le_length (by simp; omega), List.take_of_length_le (by simp; omega), List.drop_left' la]
  · unfold cut8
    rw [List.take_of_length_le (by simp; omega), List.drop_left' (by simp; omega)]

theorem decode_file (c : Cu) (h : mayC c = true) : decodeC (fileC c) = (c, 0) := by
  obtain ⟨ha, hb, hc⟩ := may_of h
  obtain ⟨_, a2, a3, a4⟩ := ok_nat ha
  obtain ⟨_, b2, b3, b4⟩ := ok_nat hb
  obtain ⟨_, c2, c3, c4⟩ := ok_nat hc
  have hl : (cu3 c).length = 24 := preC_len c 3 (by omega)
  have hg : getN (fileC c) = (cu3 c, 6 + (cu3 c).length, 0) := get_frame (cu3 c) (by omega)
  have hfl : (fileC c).length = 6 + (cu3 c).length := by unfold fileC frameN; rw [List.length_append]; rfl
  obtain ⟨k0, k1, k2⟩ := cut_be c.a.toNat c.b.toNat c.c.toNat
  have n0 : numC (cu3 c) 0 = c.a.toNat := by
    show beV (cut8 (be8 c.a.toNat ++ be8 c.b.toNat ++ be8 c.c.toNat) 0) = _
    rw [k0, beV_be8 _ a2]
  have n1 : numC (cu3 c) 1 = c.b.toNat := by
    show beV (cut8 (be8 c.a.toNat ++ be8 c.b.toNat ++ be8 c.c.toNat) 8) = _
    rw [k1, beV_be8 _ b2]
  have n2 : numC (cu3 c) 2 = c.c.toNat := by
    show beV (cut8 (be8 c.a.toNat ++ be8 c.b.toNat ++ be8 c.c.toNat) 16) = _
    rw [k2, beV_be8 _ c2]
  unfold decodeC
  rw [hg]
  rw [if_neg (by simp only; omega)]
  simp only
  rw [n0, n1, n2, if_neg (by omega), a3, b3, c3]

end Go.Cx
