/-
  The kit's helpers.
-/
import Derived.Test.YtifochbabgjhpaaGreatDoorG
namespace Go.Cx
open Go Go.Cf
set_option linter.unusedVariables false

theorem Pick_spec (k n : Int) (hk : i64 k) (hn : i64 n) : Ct Pr F_kit_Pick [.int .i64 k, .int .i64 n] .one [.int .i64] [] emp (fun t Bs => (1 ≤ n → 0 ≤ t.1 ∧ t.1 < n) ∧ Bs = []) := by
  refine spec1 c_kit_Pick fun B _ => ?_
  unfold kit_Pick
  refine xif_dec (fun h => xret ⟨fun h1 => by omega, rfl⟩) (fun h => ?_)
  have hlt : k.tmod n < n ∧ -n < k.tmod n := by
    constructor
    · exact Int.tmod_lt_of_pos k (by omega)
    · have : -(k.tmod n) < n := by rw [← Int.neg_tmod]; exact Int.tmod_lt_of_pos _ (by omega)
      omega
  have := hn.2
  refine xasrt (by omega) (xjoin (xif_dec (fun h0 => ?_) (fun h0 => ?_)))
  · rw [wrap_id _ (by omega) (by omega)]
    exact xret ⟨fun _ => (by show (0 : Int) ≤ _ ∧ (_ : Int) < n; omega), rfl⟩
  · exact xret ⟨fun _ => (by show (0 : Int) ≤ _ ∧ (_ : Int) < n; omega), rfl⟩

/-! The law of lists. -/
theorem rds_and {B : Base} {F : List HP} {P Q : HP} (h1 : Rds B F P) (h2 : Rds B F Q) : Rds B F (P.and Q) := fun w hp hF a b c d e => ⟨h1 w hp hF a b c d e, h2 w hp hF a b c d e⟩


theorem SClone_spec (l : Sl) (xs : List UInt8) (hm : xs.length ≤ 140737488351232) :
    Ct Pr F_slices_Clone_L_byte_byte_ [l.v] .one [.slice] [] (RAr U8 l xs) (fun t Bs => Bs = [Ar U8 t.1 xs]) := by
  refine spec1 c_slices_Clone_L_byte_byte_ fun B hr => ?_
  have fa : Fro B l U8 xs := ⟨hr⟩
  have ha := hr.1
  unfold slices_Clone_L_byte_byte_
  refine xif (fun h => ?_) (fun h => ?_)
  · have : xs = [] := by
      refine List.eq_nil_of_length_eq_zero ?_
      rw [ha]
      rcases Nat.eq_zero_or_pos l.n with h0 | h0
      · exact h0
      · obtain ⟨b, o, _, _, _, _, hp, _⟩ := hr.2.2 h0
        rw [hp] at h; simp [noneB] at h
    subst this
    exact xnone U8 (xret rfl)
  · refine xnew fun b => ?_
    refine xsee 0 (Bs := [Ar U8 ⟨some ⟨b, 0, none⟩, 0, 0⟩ []]) (fun g hg => ?_) (app1 ?_)
    · exact ⟨g, fun _ => none, ⟨[], blk_ar [] 0 rfl rfl hg⟩, trivial, fun _ => .inr rfl, Sub.refl _, fun _ _ e => by cases e⟩
    refine xapp (s := ⟨some ⟨b, 0, none⟩, 0, 0⟩) (xs := []) (ys := xs) (hb := by simp; omega) (h := fun s' => ?_)
    exact xret (by simp)

end Go.Cx
