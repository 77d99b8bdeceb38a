/-
  The kit's helpers for rows that are lent, looked at again and written over.
-/
import Derived.Test.YtdbdnlahimbcaaaK
import Derived.Test.YtdbdnlahimbcaaaCfW
namespace Go.Cx
open Go Go.Cf
set_option linter.unusedVariables false

theorem LentBytes_spec (l : Sl) (xs : List UInt8) (hm : xs.length ≤ 140737488351232) :
    Ct Pr F_kit_LentBytes [l.v] .one [.slice] [] (RAr U8 l xs) (fun t Bs => Bs = [Ars U8 t.1 xs (List.replicate 5 165)]) := by
  refine spec1 c_kit_LentBytes fun B hr => ?_
  have fa : Fro B l U8 xs := ⟨hr⟩
  have ha := hr.1
  unfold kit_LentBytes
  rw [wrap_id ((l.n : Int) + 5) (by omega) (by omega)]
  refine xmake U8 (by omega) (by omega) (h := fun b => ?_)
  have hn : ((l.n : Int) + 5).toNat = l.n + 5 := by omega
  rw [hn]
  refine xloop1 (fun n i As => ∃ (k : Nat) (ys : List UInt8), i = (k : Int) ∧ n = xs.length - k ∧ k ≤ xs.length ∧ ys.length = xs.length + 5 ∧ (∀ j, j < k → ys[j]? = (xs ++ List.replicate 5 165)[j]?) ∧ As = [Ar U8 ⟨some ⟨b, 0, none⟩, l.n + 5, l.n + 5⟩ ys]) xs.length ⟨0, List.replicate (l.n + 5) 0, rfl, rfl, by omega, by simp; omega, by intro j hj; omega, rfl⟩ ?_
  rintro n _ _ K ⟨k, ys, rfl, rfl, hk, hl, hys, rfl⟩ hK
  refine xif_dec (fun h => ?_) (fun h => ?_)
  · refine xidxn (h1 := by omega) (h := fun x hx => ?_)
    refine xgetE hx (h := ?_)
    refine xidxn (h1 := by omega) (h := fun y hy => ?_)
    refine xsetE x hy (hv := rfl) (h := ?_)
    rw [wrap_succ k (by omega)]
    refine hK (xs.length - (k + 1)) _ _ (by omega) ⟨k + 1, ys.set k x, rfl, rfl, by omega, by simpa using hl, set_upto hys (by omega) ?_, rfl⟩
    rw [List.getElem?_append_left (by omega), hx]
  have hk' : k = xs.length := by omega
  subst hk'
  refine xloop1 (fun n i As => ∃ (k : Nat) (ys : List UInt8), i = (k : Int) ∧ n = xs.length + 5 - k ∧ xs.length ≤ k ∧ k ≤ xs.length + 5 ∧ ys.length = xs.length + 5 ∧ (∀ j, j < k → ys[j]? = (xs ++ List.replicate 5 165)[j]?) ∧ As = [Ar U8 ⟨some ⟨b, 0, none⟩, l.n + 5, l.n + 5⟩ ys]) 5 ⟨xs.length, ys, by rw [ha], by omega, by omega, by omega, hl, hys, rfl⟩ ?_
  clear hys hl
  rintro n _ _ K' ⟨k, ys, rfl, rfl, hk0, hk, hl, hys, rfl⟩ hK'
  refine xif_dec (fun h => ?_) (fun h => ?_)
  · simp only at h
    refine xidxn (h1 := by omega) (h := fun y hy => ?_)
    refine xsetE 165 hy (hv := rfl) (h := ?_)
    rw [wrap_succ k (by omega)]
    refine hK' (xs.length + 5 - (k + 1)) _ _ (by omega) ⟨k + 1, ys.set k 165, rfl, rfl, by omega, by omega, by simpa using hl, set_upto hys (by omega) ?_, rfl⟩
    rw [List.getElem?_append_right (by omega), List.getElem?_replicate, if_pos (by omega)]
  simp only at h
  obtain rfl : ys = xs ++ List.replicate 5 165 := eq_upto (by simp [hl]) (fun j hj => hys j (by simp at hj; omega))
  refine xslc0 rfl (by omega) (by simp only; omega) ?_
  refine xars 0 fun zs h1 h2 => ?_
  have : zs = [] := List.eq_nil_of_length_eq_zero (by simp only [List.length_append, List.length_replicate] at h1 h2; omega)
  subst this
  refine xshift l.n xs (List.replicate 5 165) (by simp) ha ?_
  rw [Int.toNat_natCast]
  exact xret rfl

theorem KeptBytes_spec (l m : Sl) (xs : List UInt8) (hm : xs.length ≤ 140737488351232) :
    Ct Pr F_kit_KeptBytes [l.v, m.v] .one [.bool] [] ((RArs U8 l xs (List.replicate 5 165)).and (RAr U8 m xs)) (fun t Bs => t.1 = true ∧ Bs = []) := by
  refine spec1 c_kit_KeptBytes fun B hr => ?_
  obtain ⟨⟨h1, h2, h3, h4⟩, h5⟩ := hr
  have fa : Fro B l U8 xs := ⟨h3⟩
  have fb : Fro B m U8 xs := ⟨h5⟩
  have fc : Fro B ⟨l.p, l.c, l.c⟩ U8 (xs ++ List.replicate 5 165) := ⟨h4⟩
  have hmn := h5.1
  rw [List.length_replicate] at h2
  unfold kit_KeptBytes
  refine xcall0 (SameBytes_spec l m xs xs (by omega)) rdb ?_
  rintro ⟨c, _⟩ _ ⟨hc, rfl⟩
  obtain rfl : c = true := by simpa using hc
  rw [wrap_id ((m.n : Int) + 5) (by omega) (by omega)]
  refine app0 (ca1 (xjoin (xiff rfl (xif_dec (fun h => absurd h (by omega)) (fun h => ?_)))))
  refine xslc0 rfl (by omega) (by omega) ?_
  have e : ((m.n : Int) + 5).toNat = l.c := by omega
  rw [e]
  refine xloop1 (fun n i As => ∃ k : Nat, i = (k : Int) ∧ n = l.c - k ∧ xs.length ≤ k ∧ k ≤ l.c ∧ As = []) 5 ⟨xs.length, by rw [hmn], by omega, by omega, by omega, rfl⟩ ?_
  rintro n _ _ K ⟨k, rfl, rfl, hk0, hk, rfl⟩ hK
  refine xif_dec (fun h => ?_) (fun h => ?_)
  · simp only at h
    refine xidxn (h1 := by simp; omega) (h := fun y hy => ?_)
    refine xgetE hy (h := ?_)
    have : y = 165 := by
      rw [List.getElem?_append_right (by omega), List.getElem?_replicate, if_pos (by omega)] at hy
      exact (Option.some.inj hy).symm
    subst this
    refine xiff rfl ?_
    rw [wrap_succ k (by omega)]
    exact hK (l.c - (k + 1)) _ _ (by omega) ⟨k + 1, rfl, rfl, by omega, by omega, rfl⟩
  · exact xret ⟨rfl, rfl⟩

theorem SpoilBytes_spec (l : Sl) (xs : List UInt8) : Ct Pr F_kit_SpoilBytes [l.v] (.tup []) [] [Ar U8 l xs] emp (fun t Bs => Bs = []) := by
  refine spec0 c_kit_SpoilBytes fun B _ => ?_
  unfold kit_SpoilBytes
  refine xslc0 rfl (by omega) (by omega) ?_
  rw [Int.toNat_natCast]
  refine xars 0 fun zs h1 h2 => ?_
  refine xfact 0 (fun g hg => hg.cap_le) fun hM => ?_
  refine xshift l.c (xs ++ zs) [] (by simp) (by simpa using h2) (xar ?_)
  refine xloop1 (fun n i As => ∃ (k : Nat) (ys : List UInt8), i = (k : Int) ∧ n = l.c - k ∧ k ≤ l.c ∧ ys.length = l.c ∧ As = [Ar U8 ⟨l.p, l.c, l.c⟩ ys]) l.c ⟨0, xs ++ zs, rfl, rfl, by omega, by simpa using h2, rfl⟩ ?_
  rintro n _ _ K ⟨k, ys, rfl, rfl, hk, hl, rfl⟩ hK
  refine xif_dec (fun h => ?_) (fun h => ?_)
  · simp only at h
    refine xidxn (h1 := by omega) (h := fun y hy => ?_)
    refine xgetE hy (h := ?_)
    refine xidxn (h1 := by omega) (h := fun y' _ => ?_)
    refine xsetE (UInt8.ofNat (bits .xor .u8 (y.toNat : Int) 90).toNat) hy (hv := by
      have := bits_u8 .xor (y.toNat : Int) 90
      simp only [U8, List.set_cons_zero, List.cons.injEq, Value.int.injEq, true_and, and_true]
      rw [UInt8.toNat_ofNat']; omega) (h := ?_)
    rw [wrap_succ k (by omega)]
    exact hK (l.c - (k + 1)) _ _ (by omega) ⟨k + 1, _, rfl, rfl, by omega, by simpa using hl, rfl⟩
  · exact xdrop 0 (xret rfl)

end Go.Cx
