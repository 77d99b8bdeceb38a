/-
  CursorSpoilt: one byte is another one.
-/
import Derived.Test.YtbdmjjeigbhidaaCT
namespace Go.Cx
open Go Go.Cf

theorem sumN_one (p : List UInt8) (k : Nat) (y : UInt8) (hk : k < p.length) (h : sumN p = sumN (p.set k y)) : y = p[k] := by
  unfold sumN at h
  rw [List.length_set] at h
  have e1 : p = p.take k ++ p[k] :: p.drop (k + 1) := by rw [← List.drop_eq_getElem_cons hk, List.take_append_drop]
  have e2 : p.set k y = p.take k ++ y :: p.drop (k + 1) := by rw [List.set_eq_take_append_cons_drop, if_pos hk]
  rw [e2] at h
  generalize hs : moreN 0 (hdN p.length) = s at h
  have hlt : s < 4294967296 := by rw [← hs]; exact moreN_lt (by decide) _
  have h' : moreN s (p.take k ++ p[k] :: p.drop (k + 1)) = moreN s (p.take k ++ y :: p.drop (k + 1)) := by rw [← e1]; exact h
  exact (moreN_one s hlt _ _ _ _ h').symm

theorem decode_one (c : Cu) (i : Nat) (y : UInt8) (hi : i < 30) (hne : (fileC c)[i]? ≠ some y) : decodeC ((fileC c).set i y) = (cu0, 30) := by
  have hl := file_len c
  have hl3 : (cu3 c).length = 24 := preC_len c 3 (by omega)
  have hls : ((fileC c).set i y).length = 30 := by simp [hl]
  apply decode_bad
  by_cases h2 : 2 ≤ i
  · have hf : frLen ((fileC c).set i y) = 24 := by
      rw [← frLen_file c]
      exact frLen_eq (List.getElem?_set_ne (by omega)) (List.getElem?_set_ne (by omega))
    left
    have hbad : ¬ crcOf ((fileC c).set i y) = sumN ((((fileC c).set i y).take (6 + frLen ((fileC c).set i y))).drop 6) := by
      rw [hf, List.take_of_length_le (by omega)]
      by_cases h6 : i < 6
      · have hd : ((fileC c).set i y).drop 6 = cu3 c := by
          rw [List.drop_set_of_lt h6]; rfl
        rw [hd, crc_iff _ _ (by omega)]
        intro h
        have := h i h2 h6
        rw [List.getElem?_set_self (by omega)] at this
        exact hne this.symm
      · have hc : crcOf ((fileC c).set i y) = sumN (cu3 c) := (crc_iff _ _ (by omega)).2 fun j _ hj => List.getElem?_set_ne (by omega)
        have hd : ((fileC c).set i y).drop 6 = (cu3 c).set (i - 6) y := by
          rw [List.drop_set, if_neg (by omega)]; rfl
        rw [hd, hc]
        intro h
        have h3 := sumN_one (cu3 c) (i - 6) y (by omega) h
        apply hne
        rw [h3]
        have : (fileC c)[i]? = (cu3 c)[i - 6]? := by
          have e : cu3 c = (fileC c).drop 6 := rfl
          rw [e, List.getElem?_drop, show 6 + (i - 6) = i by omega]
        rw [this, List.getElem?_eq_getElem (by omega)]
    unfold getN
    rw [if_neg (by omega), if_neg (by omega), if_neg (by omega), if_neg hbad]
    show (5 : Int) ≠ 0
    decide
  · have hf : frLen ((fileC c).set i y) ≠ 24 := by
      have b0 : (fileC c)[0]? = some 0 := by
        show some (UInt8.ofNat ((cu3 c).length / 256)) = _
        rw [hl3]; rfl
      have b1 : (fileC c)[1]? = some 24 := by
        show some (UInt8.ofNat (cu3 c).length) = _
        rw [hl3]; rfl
      have hi2 : i = 0 ∨ i = 1 := by omega
      have hy := u8_lt y
      unfold frLen
      simp only [List.getD_eq_getElem?_getD]
      rcases hi2 with rfl | rfl
      · rw [List.getElem?_set_self (by omega), List.getElem?_set_ne (by omega), b1]
        have : y.toNat ≠ 0 := fun h => hne (by rw [b0]; exact congrArg some (UInt8.toNat_inj.1 h.symm))
        show y.toNat * 256 + 24 ≠ 24
        omega
      · rw [List.getElem?_set_self (by omega), List.getElem?_set_ne (by omega), b0]
        have : y.toNat ≠ 24 := fun h => hne (by rw [b1]; exact congrArg some (UInt8.toNat_inj.1 h.symm))
        show 0 * 256 + y.toNat ≠ 24
        omega
    unfold getN
    rw [if_neg (by omega)]
    split
    · left; show (2 : Int) ≠ 0; decide
    split
    · left; show (1 : Int) ≠ 0; decide
    split
    · right; show 6 + frLen _ ≠ _; omega
    · left; show (5 : Int) ≠ 0; decide

end Go.Cx
