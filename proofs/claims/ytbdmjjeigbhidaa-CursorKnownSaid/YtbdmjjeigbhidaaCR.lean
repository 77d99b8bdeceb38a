/-
  CursorLasts.
-/
import Derived.Test.YtbdmjjeigbhidaaCQ
namespace Go.Cx
open Go Go.Cf
set_option linter.unusedVariables false
variable {B : Base} {As : List HP}

abbrev CUE : Enc (Int × Int × Int) := ⟨fun x => [.int .i64 x.1, .int .i64 x.2.1, .int .i64 x.2.2], 3, fun _ => rfl, fun x v h => by simp at h; rcases h with rfl | rfl | rfl <;> rfl, by decide, (0, 0, 0)⟩

theorem pick3 {a b c x : Int} : (if x < (if b < a then b else a) then x else (if b < a then b else a)) = min x (min b a) := by omega

theorem lmay_spec (c : Cu) : Ct Pr F_law24_may [c.v] .one [.bool] [] emp (fun t Bs => t.1 = mayC c ∧ Bs = []) := by
  refine spec1 c_law24_may fun B _ => ?_
  unfold law24_may
  have fin : ∀ {x : Bool} {As : List HP}, x = mayC c → Ent B As (Ret B (ss := [.bool]) (fun t Bs => t.1 = mayC c ∧ Bs = []) (x, ())) := fun h => xkeep (l := []) (xret ⟨h, rfl⟩)
  have hm : mayC c = true ↔ (0 ≤ c.a ∧ 0 ≤ c.b ∧ 0 ≤ c.c) ∧ c.a ≤ 1099511627776 ∧ c.b ≤ 1099511627776 ∧ c.c ≤ 1099511627776 := by
    simp [mayC, okN, top40]; omega
  refine xnew fun b => xget (h := xget (h := xget (h := xjoin (xif_dec (fun h => ?_) (fun h => ?_)))))
  · refine xget (h := xget (h := xget (h := fin ?_)))
    rw [Bool.eq_iff_iff, hm, decide_eq_true_iff]
    constructor
    · intro h2
      repeat' split at h
      all_goals (repeat' split at h2)
      all_goals omega
    · intro h2
      repeat' split
      all_goals omega
  · refine fin ?_
    symm
    rw [← Bool.not_eq_true, hm]
    intro h2
    apply h
    repeat' split
    all_goals omega

theorem CursorLasts_spec (l : Sl) (xs : List (Int × Int × Int)) (cut keep : Int) (hc0 : i64 cut) : Ct Pr F_law24_CursorLasts [l.v, .int .i64 cut, .int .i64 keep] .one [.bool] [] (RAr CUE l xs) (fun t Bs => t.1 = true ∧ Bs = []) := by
  refine spec1 c_law24_CursorLasts fun B hr => ?_
  have fl : Fro B l CUE xs := ⟨hr⟩
  have hln := hr.1
  unfold law24_CursorLasts
  refine xcl works24_spec rdb ?_
  rintro ⟨c, _⟩ _ ⟨h, rfl⟩
  obtain rfl : c = true := h
  refine app0 (ca1 (xiff rfl (xif_dec (fun h => xret ⟨rfl, rfl⟩) (fun hn200 => ?_))))
  refine xcl (New_spec 4096) rdb ?_
  rintro ⟨q, r, _⟩ _ (⟨h, _⟩ | ⟨_, _, h5, ⟨b0, h4⟩, rfl⟩)
  · omega
  simp only at h4 h5
  subst h4 h5
  refine app1 (ca2 (xdraw (xnil ?_)))
  refine xcl (Pick_spec cut 700 hc0 ⟨by decide, by decide⟩) rdb ?_
  rintro ⟨r1, _⟩ _ ⟨hp, rfl⟩
  have hp := pick_use r1 700 hp (by decide)
  refine app0 (ca1 ?_)
  refine xcl (Arm_spec (some ⟨b0, 0, none⟩) ⟨false, false, 0, 4096, []⟩ r1 ⟨by omega, by omega⟩) rdb ?_
  rintro _ _ rfl
  refine app1 (ca0 (xnew fun b => ?_))
  refine xloop1 (fun n i As => ∃ (k : Nat) (m : DM) (was : Cu), i = (k : Int) ∧ n = xs.length - k ∧ k ≤ xs.length ∧ UpC m was ∧ As = [Blk b [.int .i64 was.a, .int .i64 was.b, .int .i64 was.c], DevObj (some ⟨b0, 0, none⟩) m]) xs.length ⟨0, _, cu0, rfl, rfl, by omega, ⟨rfl, rfl, .inl ⟨rfl, rfl⟩⟩, rfl⟩ ?_
  rintro n _ _ K ⟨k, m, was, rfl, rfl, hk, hup, rfl⟩ hK
  refine xif_dec (fun h => ?_) (fun h => ?_)
  · have hx := List.getElem?_eq_getElem (l := xs) (i := k) (by omega)
    generalize xs[k] = x at hx
    obtain ⟨ca, cb, cc⟩ := x
    refine xidxn (h1 := by omega) (h := fun _ _ => ?_)
    refine xgetE hx (h := ?_)
    refine xgetEj hx (h := ?_)
    refine xgetEj hx (h := ?_)
    dsimp only
    refine xcl (Save_spec (some ⟨b0, 0, none⟩) m ⟨ca, cb, cc⟩) rdb ?_
    rintro ⟨r2, _⟩ _ ⟨hr2, rfl⟩
    simp only at hr2
    refine app1 (ca1 ?_)
    have load : ∀ (m' : DM) (was' : Cu), Extra m'.fs was' → m'.down = false → loadM m' = (was', 0) := fun m' was' h1 h2 => load_base h2 h1
    -- what follows a call that did not fail
    have rest : ∀ (m' : DM) (was' : Cu) (J : WP), UpC m' was' → (∀ b3 : Nat, True) → True := fun _ _ _ _ _ => trivial
    rcases Bool.eq_false_or_eq_true (mayC ⟨ca, cb, cc⟩) with hm | hm
    · rcases save_law hup hm with ⟨e2, hup'⟩ | ⟨e2, hdn⟩
      · rw [e2] at hr2
        subst hr2
        generalize (saveM m ⟨ca, cb, cc⟩).1 = m' at *
        refine xiff rfl ?_
        refine xidxn (h1 := by omega) (h := fun _ _ => ?_)
        refine xgetE hx (h := ?_)
        refine xgetEj hx (h := ?_)
        refine xgetEj hx (h := ?_)
        dsimp only
        refine xcl (lmay_spec ⟨ca, cb, cc⟩) rdb ?_
        rintro ⟨c, _⟩ _ ⟨hc, rfl⟩
        simp only at hc
        rw [hm] at hc
        subst hc
        refine app0 (ca1 (xjoin (xiff rfl (xiff rfl (xjoin (xift rfl ?_))))))
        refine xidxn (h1 := by omega) (h := fun _ _ => ?_)
        refine xgetE hx (h := ?_)
        refine xgetEj hx (h := ?_)
        refine xgetEj hx (h := ?_)
        dsimp only
        refine xset (h := xset (h := xset (h := ?_)))
        refine xcl (Load_spec (some ⟨b0, 0, none⟩) m') rdb ?_
        rw [load m' _ (up_extra hup') hup'.1]
        rintro ⟨q1, q2, q3, q4, _⟩ _ ⟨g1, g2, g3, g4, rfl⟩
        simp only at g1 g2 g3 g4
        subst g1 g2 g3 g4
        refine app1 (ca4 (xnew fun b3 => xset (h := xset (h := xset (h := xjoin (xiff rfl ?_))))))
        refine xget (h := xget (h := xget (h := xget (h := xget (h := xget (h := xiff (by simp) ?_))))))
        rw [wrap_succ k (by omega)]
        exact xuse [Blk b [.int .i64 q1, .int .i64 q2, .int .i64 q3], DevObj (some ⟨b0, 0, none⟩) m'] (hK (xs.length - (k + 1)) _ _ (by omega) ⟨k + 1, m', ⟨q1, q2, q3⟩, rfl, rfl, by omega, hup', rfl⟩)
      · rw [e2] at hr2
        subst hr2
        generalize (saveM m ⟨ca, cb, cc⟩).1 = m' at *
        obtain ⟨hd', hroom', hex⟩ := hdn
        refine xift rfl ?_
        refine xcl (Load_spec (some ⟨b0, 0, none⟩) m') rdb ?_
        rw [show loadM m' = (cu0, 10) by unfold loadM; rw [if_pos hd']]
        rintro ⟨q1, q2, q3, q4, _⟩ _ ⟨g1, g2, g3, g4, rfl⟩
        simp only at g1 g2 g3 g4
        subst g1 g2 g3 g4
        refine app1 (ca4 (xnew fun b3 => xset (h := xset (h := xset (h := ?_)))))
        refine xcl (Wake_spec (some ⟨b0, 0, none⟩) m' keep) rdb ?_
        rintro _ _ rfl
        refine app1 (ca0 ?_)
        have hw := wake_extra keep hex
        refine xcl (Load_spec (some ⟨b0, 0, none⟩) (wakeM m' keep)) rdb ?_
        rw [load (wakeM m' keep) _ hw rfl]
        rintro ⟨q1, q2, q3, q4, _⟩ _ ⟨g1, g2, g3, g4, rfl⟩
        simp only at g1 g2 g3 g4
        subst g1 g2 g3 g4
        refine app1 (ca4 (xnew fun b4 => xset (h := xset (h := xset (h := xdraw (xjoin (xift rfl (xift rfl ?_))))))))
        refine xget (h := xget (h := xget (h := xget (h := xget (h := xget (h := xift (by simp) (xift rfl ?_)))))))
        refine xidxn (h1 := by omega) (h := fun _ _ => ?_)
        refine xgetE hx (h := ?_)
        refine xgetEj hx (h := ?_)
        refine xgetEj hx (h := ?_)
        dsimp only
        refine xcl (Save_spec (some ⟨b0, 0, none⟩) (wakeM m' keep) ⟨ca, cb, cc⟩) rdb ?_
        rw [save_free (m := wakeM m' keep) rfl rfl hroom' hw hm]
        rintro ⟨r, _⟩ _ ⟨hr, rfl⟩
        simp only at hr
        subst hr
        exact app1 (ca1 (xkeep (l := []) (xret ⟨rfl, rfl⟩)))
    · have e : saveM m ⟨ca, cb, cc⟩ = (m, 3) := by unfold saveM; rw [hm]; rfl
      rw [e] at hr2 ⊢
      simp only at hr2
      subst hr2
      refine xiff rfl ?_
      refine xidxn (h1 := by omega) (h := fun _ _ => ?_)
      refine xgetE hx (h := ?_)
      refine xgetEj hx (h := ?_)
      refine xgetEj hx (h := ?_)
      dsimp only
      refine xcl (lmay_spec ⟨ca, cb, cc⟩) rdb ?_
      rintro ⟨c, _⟩ _ ⟨hc, rfl⟩
      simp only at hc
      rw [hm] at hc
      subst hc
      refine app0 (ca1 (xjoin (xiff rfl (xiff rfl (xjoin (xiff rfl ?_))))))
      refine xcl (Load_spec (some ⟨b0, 0, none⟩) m) rdb ?_
      rw [load m _ (up_extra hup) hup.1]
      rintro ⟨q1, q2, q3, q4, _⟩ _ ⟨g1, g2, g3, g4, rfl⟩
      simp only at g1 g2 g3 g4
      subst g1 g2 g3 g4
      refine app1 (ca4 (xnew fun b3 => xset (h := xset (h := xset (h := xjoin (xiff rfl ?_))))))
      refine xget (h := xget (h := xget (h := xget (h := xget (h := xget (h := xiff (by simp) ?_))))))
      rw [wrap_succ k (by omega)]
      exact xuse [Blk b [.int .i64 was.a, .int .i64 was.b, .int .i64 was.c], DevObj (some ⟨b0, 0, none⟩) m] (hK (xs.length - (k + 1)) _ _ (by omega) ⟨k + 1, m, was, rfl, rfl, by omega, hup, rfl⟩)
  · refine xcl (Wake_spec (some ⟨b0, 0, none⟩) m keep) rdb ?_
    rintro _ _ rfl
    refine app1 (ca0 ?_)
    refine xcl (Load_spec (some ⟨b0, 0, none⟩) (wakeM m keep)) rdb ?_
    rw [load_base (m := wakeM m keep) rfl (wake_extra keep (up_extra hup))]
    rintro ⟨q1, q2, q3, q4, _⟩ _ ⟨g1, g2, g3, g4, rfl⟩
    simp only at g1 g2 g3 g4
    subst g1 g2 g3 g4
    refine app1 (ca4 (xnew fun b4 => xset (h := xset (h := xset (h := xjoin (xift rfl ?_))))))
    refine xget (h := xget (h := xget (h := xget (h := xget (h := xget (h := ?_))))))
    exact xkeep (l := []) (xret ⟨by simp, rfl⟩)

section
open Go.ChangeShapes Go.WideShapes Go.Deep
set_option maxRecDepth 100000
variable {H : Type} {enc : TypeId × Value → H} {w : World} {base : Nat} {held : Bool}
theorem cus_of_trod {t fuel : Nat} {a : Option Addr} {n c : Nat} {x : DataW H × List MemPlace} (ht : Pr.underlying t = some (.slice 64))
    (h : DataW.trod enc Pr w base (fun _ => true) held fuel t [.slice a n c] = some x) : ∃ s xs, [Value.slice a n c] = SL.f s ∧ RAr CUE s xs (mem w) := by
  obtain ⟨s, ys, h1, h2, os, h3, h4, h5⟩ := opens_slice (E := CUE) (P := Pr) (R := fun a b => a = b) (t := t) (e := 64) ht (by kernel_rfl) opens_cu fuel _ x h
  exact ⟨s, os, h1, h3⟩
end

end Go.Cx
