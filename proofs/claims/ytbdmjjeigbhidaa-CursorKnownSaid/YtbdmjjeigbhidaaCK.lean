/-
  A cursor is loaded.
-/
import Derived.Test.YtbdmjjeigbhidaaJ1
import Derived.Test.YtbdmjjeigbhidaaDU
namespace Go.Cx
open Go Go.Cf
set_option linter.unusedVariables false
variable {B : Base} {As : List HP}

abbrev cu0 : Cu := ⟨0, 0, 0⟩
def numC (p : List UInt8) (k : Nat) : Nat := beV (cut8 p (8 * k))
def decodeC (b : List UInt8) : Cu × Int :=
  if (getN b).2.2 ≠ 0 ∨ (getN b).2.1 ≠ b.length ∨ (getN b).1.length ≠ 24 then (cu0, 30)
  else if numC (getN b).1 0 > 1099511627776 ∨ numC (getN b).1 1 > 1099511627776 ∨ numC (getN b).1 2 > 1099511627776 then (cu0, 30)
  else (⟨numC (getN b).1 0, numC (getN b).1 1, numC (getN b).1 2⟩, 0)
def loadM (m : DM) : Cu × Int :=
  if m.down then (cu0, 10)
  else if (readM m curN).2 ≠ 0 then (cu0, 0)
  else decodeC (readM m curN).1

theorem getN_len (b : List UInt8) : (getN b).1.length ≤ b.length := by
  unfold getN
  split
  · simp
  split
  · simp
  split
  · simp
  split
  · simp; omega
  · simp

theorem Load_spec (p : Option Addr) (m : DM) : Ct Pr F_cursor_Load [.pointer p] (.tup [some 3, none]) [.int .i64, .int .i64, .int .i64, .int .i64] [DevObj p m] emp
    (fun t Bs => t.1 = (loadM m).1.a ∧ t.2.1 = (loadM m).1.b ∧ t.2.2.1 = (loadM m).1.c ∧ t.2.2.2.1 = (loadM m).2 ∧ Bs = [DevObj p m]) := by
  refine spec4 c_cursor_Load fun B _ => ?_
  unfold cursor_Load
  refine xfact 0 (fun g hg => (⟨hg.1, dev_some hg⟩ : DInv m ∧ ∃ b, p = some ⟨b, 0, none⟩)) fun hi => ?_
  obtain ⟨hi, b0, rfl⟩ := hi
  have hbl := body_le hi curN
  refine xnew fun b => xnil ?_
  refine xcl (Down_spec (some ⟨b0, 0, none⟩) m) rdb ?_
  rintro ⟨c, _⟩ _ ⟨hc, rfl⟩
  simp only at hc
  subst hc
  refine app1 (ca1 (xif (fun hd => ?_) (fun hd => ?_)))
  · have e : loadM m = (cu0, 10) := by unfold loadM; rw [if_pos hd]
    rw [e]
    refine xset (h := xset (h := xset (h := xget (h := xget (h := xget (h := ?_))))))
    exact xdrop 1 (xret ⟨rfl, rfl, rfl, rfl, rfl⟩)
  refine xcl (Read_spec (some ⟨b0, 0, none⟩) m curN) rdb ?_
  rintro ⟨s, r, _⟩ _ ⟨hr, rfl⟩
  simp only at hr
  subst hr
  refine app2 (ca2 (xif (fun h0 => ?_) (fun h0 => ?_)))
  · have h0 : (readM m curN).2 ≠ 0 := by simpa using h0
    have e : loadM m = (cu0, 0) := by unfold loadM; rw [if_neg (by rw [hd]; simp), if_pos h0]
    rw [e]
    refine xset (h := xset (h := xset (h := xget (h := xget (h := xget (h := ?_))))))
    exact xuse [DevObj (some ⟨b0, 0, none⟩) m] (xret ⟨rfl, rfl, rfl, rfl, rfl⟩)
  have h0 : ¬ (readM m curN).2 ≠ 0 := by simpa using h0
  have e : loadM m = decodeC (readM m curN).1 := by unfold loadM; rw [if_neg (by rw [hd]; simp), if_neg h0]
  rw [e]
  generalize (readM m curN).1 = f at *
  refine xlen s fun hsn hsc => ?_
  refine xcl (chunkGet_spec s f (by omega) hsc) rdb ?_
  rintro ⟨s1, r1, r2, _⟩ _ ⟨hr1, hr2, rfl⟩
  simp only at hr1 hr2
  subst hr1 hr2
  refine app1 (ca3 (xnew fun b1 => ?_))
  have hql := getN_len f
  refine xlen s1 fun hs1n hs1c => ?_
  refine xif (fun hbad => ?_) (fun hbad => ?_)
  · have hbad : (getN f).2.2 ≠ 0 ∨ (getN f).2.1 ≠ f.length ∨ (getN f).1.length ≠ 24 := by
      simp only [Bool.or_eq_true, bne_iff_ne, ne_eq] at hbad
      rcases hbad with (h | h) | h
      · exact .inl h
      · exact .inr (.inl (by omega))
      · exact .inr (.inr (by omega))
    have e : decodeC f = (cu0, 30) := by unfold decodeC; rw [if_pos hbad]
    rw [e]
    refine xset (h := xset (h := xset (h := xget (h := xget (h := xget (h := ?_))))))
    exact xuse [DevObj (some ⟨b0, 0, none⟩) m] (xret ⟨rfl, rfl, rfl, rfl, rfl⟩)
  have hbad : ¬ ((getN f).2.2 ≠ 0 ∨ (getN f).2.1 ≠ f.length ∨ (getN f).1.length ≠ 24) := by
    simp only [Bool.or_eq_false_iff, bne_eq_false_iff_eq] at hbad
    obtain ⟨⟨h1, h2⟩, h3⟩ := hbad
    intro h
    rcases h with h | h | h
    · exact h h1
    · exact h (by omega)
    · exact h (by omega)
  have e : decodeC f = if numC (getN f).1 0 > 1099511627776 ∨ numC (getN f).1 1 > 1099511627776 ∨ numC (getN f).1 2 > 1099511627776 then (cu0, 30) else (⟨numC (getN f).1 0, numC (getN f).1 1, numC (getN f).1 2⟩, 0) := by unfold decodeC; rw [if_neg hbad]
  rw [e]
  have hq24 : (getN f).1.length = 24 := Classical.byContradiction fun h => hbad (.inr (.inr h))
  generalize (getN f).1 = q at *
  refine xfold1 (Q := Ar I64 ⟨some ⟨b1, 0, none⟩, 3, 3⟩ [0, 0, 0]) 0 (fun g hg => ⟨[], blk_ar [0, 0, 0] 3 rfl rfl hg⟩) ?_
  refine xuse [Ar I64 ⟨some ⟨b1, 0, none⟩, 3, 3⟩ [0, 0, 0], Ar U8 s1 q, Blk b [.int .i64 0, .int .i64 0, .int .i64 0], DevObj (some ⟨b0, 0, none⟩) m] ?_
  refine xloop1 (fun n i As => ∃ (k : Nat) (ys : List Int), i = (k : Int) ∧ n = 3 - k ∧ k ≤ 3 ∧ ys.length = 3 ∧ (∀ j, j < k → ys[j]? = some ((numC q j : Nat) : Int) ∧ numC q j ≤ 1099511627776) ∧ As = [Ar I64 ⟨some ⟨b1, 0, none⟩, 3, 3⟩ ys, Ar U8 s1 q, Blk b [.int .i64 0, .int .i64 0, .int .i64 0], DevObj (some ⟨b0, 0, none⟩) m]) 3 ⟨0, _, rfl, rfl, by omega, rfl, fun j hj => by omega, rfl⟩ ?_
  rintro n _ _ K ⟨k, ys, rfl, rfl, hk, hyl, hys, rfl⟩ hK
  refine xif_dec (fun h => ?_) (fun h => ?_)
  · rw [show IntKind.i64.wrap (8 * (k : Int)) = ((8 * k : Nat) : Int) by rw [wrap_id _ (by omega) (by omega)]; omega]
    refine xcl (packGet_spec s1 q (8 * k) (by omega) (by omega) hs1c) rdb ?_
    rintro ⟨r3, r4, _⟩ _ ⟨h3, _, rfl⟩
    simp only at h3
    rw [show beV (cut8 q (8 * k)) = numC q k from rfl] at h3
    subst h3
    refine app0 (ca2 (xif_dec (fun hbig => ?_) (fun hbig => ?_)))
    · have : numC q 0 > 1099511627776 ∨ numC q 1 > 1099511627776 ∨ numC q 2 > 1099511627776 := by
        have : k = 0 ∨ k = 1 ∨ k = 2 := by omega
        rcases this with rfl | rfl | rfl
        · exact .inl (by omega)
        · exact .inr (.inl (by omega))
        · exact .inr (.inr (by omega))
      rw [if_pos this]
      refine xset (h := xset (h := xset (h := xget (h := xget (h := xget (h := ?_))))))
      exact xuse [DevObj (some ⟨b0, 0, none⟩) m] (xret ⟨rfl, rfl, rfl, rfl, rfl⟩)
    · have hy := List.getElem?_eq_getElem (l := ys) (i := k) (by omega)
      refine xidxn (s := ⟨some ⟨b1, 0, none⟩, 3, 3⟩) (h1 := by omega) (h := fun _ _ => ?_)
      rw [wrap_id ((numC q k : Nat) : Int) (by omega) (by omega), wrap_succ k (by omega)]
      refine xsetE ((numC q k : Nat) : Int) hy (hv := rfl) (h := ?_)
      refine hK (3 - (k + 1)) _ _ (by omega) ⟨k + 1, _, rfl, rfl, by omega, by simpa using hyl, fun j hj => ?_, rfl⟩
      rcases Nat.lt_or_ge j k with h3 | h3
      · rw [List.getElem?_set_ne (by omega)]; exact hys j h3
      · obtain rfl : j = k := by omega
        rw [List.getElem?_set_self (by omega)]
        exact ⟨rfl, by omega⟩
  · have hk3 : k = 3 := by omega
    subst hk3
    obtain ⟨y0, z0⟩ := hys 0 (by omega)
    obtain ⟨y1, z1⟩ := hys 1 (by omega)
    obtain ⟨y2, z2⟩ := hys 2 (by omega)
    rw [if_neg (by omega)]
    refine xidxn (s := ⟨some ⟨b1, 0, none⟩, 3, 3⟩) (k := 0) (h1 := by omega) (h := fun _ _ => ?_)
    refine xgetE y0 (h := ?_)
    refine xidxn (s := ⟨some ⟨b1, 0, none⟩, 3, 3⟩) (k := 1) (h1 := by omega) (h := fun _ _ => ?_)
    refine xgetE y1 (h := ?_)
    refine xidxn (s := ⟨some ⟨b1, 0, none⟩, 3, 3⟩) (k := 2) (h1 := by omega) (h := fun _ _ => ?_)
    refine xgetE y2 (h := ?_)
    refine xset (h := xset (h := xset (h := xget (h := xget (h := xget (h := ?_))))))
    exact xuse [DevObj (some ⟨b0, 0, none⟩) m] (xret ⟨rfl, rfl, rfl, rfl, rfl⟩)

end Go.Cx
