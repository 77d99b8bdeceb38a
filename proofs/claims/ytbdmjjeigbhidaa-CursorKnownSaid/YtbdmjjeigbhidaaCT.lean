/-
  CursorSpoilt: files too short, too long.
-/
import Derived.Test.YtbdmjjeigbhidaaCS
namespace Go.Cx
open Go Go.Cf

theorem frLen_eq {b d : List UInt8} (h0 : b[0]? = d[0]?) (h1 : b[1]? = d[1]?) : frLen b = frLen d := by
  unfold frLen
  simp only [List.getD_eq_getElem?_getD, h0, h1]

theorem frLen_file (c : Cu) : frLen (fileC c) = 24 := by
  have hl : (cu3 c).length = 24 := preC_len c 3 (by omega)
  show (UInt8.ofNat ((cu3 c).length / 256)).toNat * 256 + (UInt8.ofNat (cu3 c).length).toNat = 24
  rw [hl]; rfl

theorem decode_bad {b : List UInt8} (h : (getN b).2.2 ≠ 0 ∨ (getN b).2.1 ≠ b.length) : decodeC b = (cu0, 30) := by
  unfold decodeC
  rw [if_pos]
  rcases h with h | h
  · exact .inl h
  · exact .inr (.inl h)

theorem decode_cut (c : Cu) (k : Nat) (hk : k < 30) : decodeC ((fileC c).take k) = (cu0, 30) := by
  have hl := file_len c
  have hlk : ((fileC c).take k).length = k := by rw [List.length_take]; omega
  refine decode_bad (.inl ?_)
  unfold getN
  by_cases h6 : k < 6
  · rw [if_pos (by omega)]; decide
  · have hf : frLen ((fileC c).take k) = 24 := by
      rw [← frLen_file c]
      exact frLen_eq (List.getElem?_take_of_lt (by omega)) (List.getElem?_take_of_lt (by omega))
    rw [if_neg (by omega), if_neg (by omega), if_pos (by omega)]; decide

theorem decode_more (c : Cu) (x : UInt8) : decodeC (fileC c ++ [x]) = (cu0, 30) := by
  have hl := file_len c
  have hll : (fileC c ++ [x]).length = 31 := by simp [hl]
  have hf : frLen (fileC c ++ [x]) = 24 := by
    rw [← frLen_file c]
    exact frLen_eq (List.getElem?_append_left (by omega)) (List.getElem?_append_left (by omega))
  apply decode_bad
  unfold getN
  rw [if_neg (by omega), if_neg (by omega), if_neg (by omega)]
  split
  · right; show 6 + frLen _ ≠ _; omega
  · left; show (5 : Int) ≠ 0; decide

end Go.Cx
