/-
  The law HistoryBack.
-/
import Derived.Test.YtifochbabgjhpaaGreatDoorHY
namespace Go.Cx
open Go Go.Cf
set_option linter.unusedVariables false
set_option maxRecDepth 100000
variable {B : Base} {As F : List HP}

theorem ba_beq (x : ByteArray) : (x == x) = true := by
  obtain ⟨d⟩ := x
  exact beq_self_eq_true d
theorem back_spec (seq : Int) (r : RE) : Ct Pr F_law26_HistoryBack [.int .i64 seq, r.v] .one [.bool] [] GTab (fun t Bs => t.1 = true ∧ Bs = []) := by
  refine spec1 c_law26_HistoryBack fun B hr => ?_
  haveI : FroP B GTab := ⟨hr, fun _ _ h s => GTab.mono _ _ h s⟩
  have fin : ∀ {As : List HP}, Ent B As (Ret B (ss := [.bool]) (fun t Bs => t.1 = true ∧ Bs = []) (true, ())) := xkeep (l := []) (xret ⟨rfl, rfl⟩)
  have works : ∀ {As : List HP} {K : Bool → WP}, Ent B As (K true) → Ent B As (XCall Pr F_law26_works [] .one [.bool] K) := by
    intro As K hK
    refine xcall0 works26_spec rdb ?_
    rintro ⟨c, _⟩ _ ⟨hc, rfl⟩
    simp only at hc; subst hc
    exact app0 (ca1 hK)
  unfold law26_HistoryBack
  refine xnew fun b => xget (h := xif_dec (fun h => works fin) (fun h => ?_))
  iterate 5 (refine xget (h := ?_))
  refine xcall0 (hWords_spec seq r) rdb ?_
  rintro ⟨s, e, _⟩ _ ⟨he, rfl⟩
  simp only at he; subst he
  refine app1 (ca2 ?_)
  simp only
  refine xlen (E := W16) (xs := (wordsM seq r).1) s fun hsn hsc => ?_
  refine xif (fun h1 => ?_) (fun h1 => ?_)
  · have h1' : (wordsM seq r).2 ≠ 0 := by simpa using h1
    have hw : (wordsM seq r).1 = [] ∧ (checkR r ≠ 0 ∨ (wordsM seq r).2 = 3) := by
      unfold wordsM at h1' ⊢
      split
      · rename_i h2; exact ⟨rfl, .inl h2⟩
      · split
        · exact ⟨rfl, .inr rfl⟩
        · rename_i h2 h3; rw [if_neg h2, if_neg h3] at h1'; exact absurd rfl h1'
    rw [hw.1] at hsn
    refine xjoin (xift (by rw [← hsn]; rfl) ?_)
    iterate 5 (refine xget (h := ?_))
    refine xcall0 (checkR_spec r) rdb ?_
    rintro ⟨x, _⟩ _ ⟨hx, rfl⟩
    simp only at hx; subst hx
    refine app0 (ca1 (xjoin (xift ?_ (works fin))))
    rcases hw.2 with h | h
    · rw [Bool.or_eq_true]; left; simpa using h
    · rw [Bool.or_eq_true]; right; rw [h]; rfl
  · have h1' : (wordsM seq r).2 = 0 := by simpa using h1
    have hw : (wordsM seq r).1 = rowM seq r ∧ checkR r = 0 ∧ 0 ≤ seq ∧ seq ≤ 1099511627776 := by
      unfold wordsM at h1' ⊢
      split
      · rename_i h2; rw [if_pos h2] at h1'; exact absurd h1' h2
      · rename_i h2
        rw [if_neg h2] at h1'
        split
        · rename_i h3; rw [if_pos h3] at h1'; cases h1'
        · rename_i h3; exact ⟨rfl, by simpa using h2, by omega, by omega⟩
    rw [hw.1] at hsn ⊢
    have hlen := rowM_len seq r
    obtain ⟨p1, p2⟩ := row_told hw.2.2 hw.2.1
    refine xiff (by rw [← hsn, hlen]; rfl) ?_
    refine xcl (pre := []) (told_spec s (rowM seq r) hlen p2 hsc) rdb ?_
    rintro _ _ ⟨rfl, rfl⟩
    rw [p1]
    refine app0 (ca6 (xnew fun b1 => ?_))
    iterate 5 (refine xset (h := ?_))
    refine xjoin (xift (by simp) ?_)
    iterate 10 (refine xget (h := ?_))
    exact xjoin (xift (by simp [ba_beq]) (works fin))
end Go.Cx
