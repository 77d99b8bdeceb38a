/-
  The kit's helpers.
-/
import Derived.Test.YtlcnhajfgilipaaGreatDoorG
namespace Go.Cx
open Go Go.Cf
set_option linter.unusedVariables false

theorem SameBytes_spec (a b : Sl) (xs ys : List UInt8) (hm : xs.length ≤ 140737488355328) :
    Ct Pr F_kit_SameBytes [a.v, b.v] .one [.bool] [] ((RAr U8 a xs).and (RAr U8 b ys)) (fun t Bs => t.1 = decide (xs = ys) ∧ Bs = []) := by
  refine spec1 c_kit_SameBytes fun B hr => ?_
  have fa : Fro B a U8 xs := ⟨hr.1⟩
  have fb : Fro B b U8 ys := ⟨hr.2⟩
  have ha := hr.1.1
  have hb := hr.2.1
  unfold kit_SameBytes
  refine xif (fun h => ?_) (fun h => ?_)
  · refine xret ⟨?_, rfl⟩
    have : xs ≠ ys := fun e => by subst e; simp [← ha, ← hb] at h
    simp [this]
  · have hl : xs.length = ys.length := by simp at h; omega
    refine xloop1 (fun n i As => ∃ k : Nat, i = (k : Int) ∧ n = xs.length - k ∧ k ≤ xs.length ∧ xs.take k = ys.take k ∧ As = []) xs.length ⟨0, rfl, rfl, by omega, rfl, rfl⟩ ?_
    rintro n _ _ K ⟨k, rfl, rfl, hk, he, rfl⟩ hK
    refine xif_dec (fun h => ?_) (fun h => ?_)
    · refine xdraw (xidxn rfl (by omega) fun x hx => xgetE hx rfl rfl (xidxn rfl (by omega) fun y hy => xgetE hy rfl rfl ?_))
      rw [u8_ne]
      refine xif (fun h => ?_) (fun h => ?_)
      · refine xret ⟨?_, rfl⟩
        have : xs ≠ ys := fun e => by subst e; rw [hx] at hy; simp at hy h; exact h hy
        simp [this]
      · rw [wrap_succ k (by omega)]
        refine hK (xs.length - (k + 1)) _ _ (by omega) ⟨k + 1, rfl, rfl, by omega, ?_, rfl⟩
        rw [List.take_add_one, List.take_add_one, he, hx, hy]
        simp at h
        rw [h]
    · refine xret ⟨?_, rfl⟩
      have : k = xs.length := by omega
      subst this
      rw [List.take_length, hl, List.take_length] at he
      simp [he]

theorem rds_and {B : Base} {F : List HP} {P Q : HP} (h1 : Rds B F P) (h2 : Rds B F Q) : Rds B F (P.and Q) := fun w hp hF a b c d e => ⟨h1 w hp hF a b c d e, h2 w hp hF a b c d e⟩


theorem SClone_spec (l : Sl) (xs : List UInt8) (hm : xs.length ≤ 140737488351232) :
    Ct Pr F_slices_Clone_L_byte_byte_ [l.v] .one [.slice] [] (RAr U8 l xs) (fun t Bs => Bs = [Ar U8 t.1 xs]) := by
  refine spec1 c_slices_Clone_L_byte_byte_ fun B hr => ?_
  have fa : Fro B l U8 xs := ⟨hr⟩
  have ha := hr.1
  unfold slices_Clone_L_byte_byte_
  refine xif (fun h => ?_) (fun h => ?_)
  · have : xs = [] := by
      refine List.eq_nil_of_length_eq_zero ?_
      rw [ha]
      rcases Nat.eq_zero_or_pos l.n with h0 | h0
      · exact h0
      · obtain ⟨b, o, _, _, _, _, hp, _⟩ := hr.2.2 h0
        rw [hp] at h; simp [noneB] at h
    subst this
    exact xnone U8 (xret rfl)
  · refine xnew fun b => ?_
    refine xsee 0 (Bs := [Ar U8 ⟨some ⟨b, 0, none⟩, 0, 0⟩ []]) (fun g hg => ?_) (app1 ?_)
    · exact ⟨g, fun _ => none, ⟨[], blk_ar [] 0 rfl rfl hg⟩, trivial, fun _ => .inr rfl, Sub.refl _, fun _ _ e => by cases e⟩
    refine xapp (s := ⟨some ⟨b, 0, none⟩, 0, 0⟩) (xs := []) (ys := xs) (hb := by simp; omega) (h := fun s' => ?_)
    exact xret (by simp)

end Go.Cx
