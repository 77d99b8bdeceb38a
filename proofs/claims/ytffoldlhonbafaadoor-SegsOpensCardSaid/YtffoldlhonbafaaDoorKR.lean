/-
  Rows that are the same.
-/
import Derived.Test.YtffoldlhonbafaaDoorK
namespace Go.Cx
open Go Go.Cf
set_option linter.unusedVariables false

theorem SameRows_spec (a b : Sl) (xs ys : List (List UInt8)) (hm : xs.length ≤ 140737488355328) (hx : ∀ x ∈ xs, x.length ≤ 140737488355328) :
    Ct Pr F_kit_SameRows [a.v, b.v] .one [.bool] [] ((RRows a xs).and (RRows b ys)) (fun t Bs => t.1 = decide (xs = ys) ∧ Bs = []) := by
  refine spec1 c_kit_SameRows fun B hr => ?_
  obtain ⟨⟨ra, ha1, ha2, ha3⟩, rb, hb1, hb2, hb3⟩ := hr
  have fa : Fro B a SL ra := ⟨ha1⟩
  have fb : Fro B b SL rb := ⟨hb1⟩
  have ha := ha1.1
  have hb := hb1.1
  unfold kit_SameRows
  refine xif (fun h => ?_) (fun h => ?_)
  · refine xret ⟨?_, rfl⟩
    have : xs ≠ ys := fun e => by subst e; simp at h; omega
    simp [this]
  · have hl : xs.length = ys.length := by simp at h; omega
    refine xloop1 (fun n i As => ∃ k : Nat, i = (k : Int) ∧ n = xs.length - k ∧ k ≤ xs.length ∧ xs.take k = ys.take k ∧ As = []) xs.length ⟨0, rfl, rfl, by omega, rfl, rfl⟩ ?_
    rintro n _ _ K ⟨k, rfl, rfl, hk, he, rfl⟩ hK
    refine xif_dec (fun h => ?_) (fun h => ?_)
    · refine xdraw (xidxn rfl (by omega) fun p hp => xgetE hp rfl rfl (xidxn rfl (by omega) fun q hq => xgetE hq rfl rfl ?_))
      have hx1 := List.getElem?_eq_getElem (l := xs) (i := k) (by omega)
      have hy1 := List.getElem?_eq_getElem (l := ys) (i := k) (by omega)
      have fp : Fro B p U8 xs[k] := ⟨ha3 k p _ hp hx1⟩
      have fq : Fro B q U8 ys[k] := ⟨hb3 k q _ hq hy1⟩
      refine xcall0 (SameBytes_spec p q xs[k] ys[k] (hx _ (List.getElem_mem _))) rdb ?_
      rintro ⟨t, _⟩ _ ⟨ht, rfl⟩
      refine app0 ?_
      simp only at ht
      subst ht
      refine xif (fun h => ?_) (fun h => ?_)
      · refine xret ⟨?_, rfl⟩
        have : xs ≠ ys := fun e => by subst e; simp at h
        simp [this]
      · rw [wrap_succ k (by omega)]
        refine hK (xs.length - (k + 1)) _ _ (by omega) ⟨k + 1, rfl, rfl, by omega, ?_, rfl⟩
        rw [List.take_add_one, List.take_add_one, he, hx1, hy1]
        simp at h
        rw [h]
    · refine xret ⟨?_, rfl⟩
      have : k = xs.length := by omega
      subst this
      rw [List.take_length, hl, List.take_length] at he
      simp [he]

end Go.Cx
