/-
  LineOrder.
-/
import Derived.Test.YtdbdnlahimbcaaaM
namespace Go.Cx
open Go Go.Cf
set_option linter.unusedVariables false

theorem each_two {α β : Type} {R : α → β → HP} {x x' : α} {y y' : β} {g : Frag} (h : star [R x y, R x' y'] g) : Each R [x, x'] [y, y'] g := by
  obtain ⟨a, c, pa, ⟨a2, b2, pa2, _, d2, sa2, sb2⟩, d, sa, sc⟩ := h
  have h0 : star [Each R [] []] b2 := star_in trivial
  have h1 : Each R [x'] [y'] c := ⟨a2, b2, pa2, h0, d2, sa2, sb2⟩
  exact ⟨a, c, pa, star_in h1, d, sa, sc⟩

theorem works_spec : Ct Pr F_law20_works [] .one [.bool] [] emp (fun t Bs => t.1 = true ∧ Bs = []) := by
  refine spec1 c_law20_works fun B _ => ?_
  unfold law20_works
  refine xcall0 New_spec rdb ?_
  rintro ⟨q, _⟩ _ ⟨⟨q0, hq⟩, rfl⟩
  simp only at hq
  subst hq
  refine app1 (ca1 (xiff rfl (xnew fun b => ?_)))
  refine xfold1 (Q := Ar U8 ⟨some ⟨b, 0, none⟩, 2, 2⟩ [1, 2]) 0 (fun g hg => ⟨[], blk_ar [1, 2] 2 rfl rfl hg⟩) ?_
  refine xcall1 1 (Put_spec (some ⟨q0, 0, none⟩) [] ⟨some ⟨b, 0, none⟩, 2, 2⟩ [1, 2] (by decide)) rdb ?_
  rintro ⟨r, _⟩ _ ⟨h, rfl⟩
  obtain rfl : r = 0 := h
  refine app1 (ca1 (xnew fun b1 => ?_))
  refine xfold1 (Q := Ar U8 ⟨some ⟨b1, 0, none⟩, 1, 1⟩ [3]) 0 (fun g hg => ⟨[], blk_ar [3] 1 rfl rfl hg⟩) ?_
  refine xcall1 1 (Put_spec (some ⟨q0, 0, none⟩) [([1, 2], false)] ⟨some ⟨b1, 0, none⟩, 1, 1⟩ [3] (by decide)) rdb ?_
  rintro ⟨r, _⟩ _ ⟨h, rfl⟩
  obtain rfl : r = 0 := h
  refine app1 (ca1 ?_)
  refine xcall1 0 (Double_spec (some ⟨q0, 0, none⟩) [([1, 2], false), ([3], false)] 0) rdb ?_
  rintro ⟨r, _⟩ _ ⟨h, rfl⟩
  obtain rfl : r = 0 := h
  refine app1 (ca1 ?_)
  refine xcall1 0 (Turn_spec (some ⟨q0, 0, none⟩) [([1, 2], false), ([3], false), ([1, 2], false)] 0 9 (by decide) (by decide)) rdb ?_
  rintro ⟨r, _⟩ _ ⟨h, rfl⟩
  have e1 : turnL [([1, 2], false), ([3], false), ([1, 2], false)] 0 9 = ([([1, 0], true), ([3], false), ([1, 2], false)], 0) := by decide
  rw [e1] at h ⊢
  obtain rfl : r = 0 := h
  refine app1 (ca1 ?_)
  refine xcall1 0 (Turn_spec (some ⟨q0, 0, none⟩) [([1, 0], true), ([3], false), ([1, 2], false)] 0 9 (by decide) (by decide)) rdb ?_
  rintro ⟨r, _⟩ _ ⟨h, rfl⟩
  have e2 : turnL [([1, 0], true), ([3], false), ([1, 2], false)] 0 9 = ([([1, 0], true), ([3], false), ([1, 2], false)], 7) := by decide
  rw [e2] at h ⊢
  obtain rfl : r = 7 := h
  refine app1 (ca1 ?_)
  refine xcall1 0 (Take_spec (some ⟨q0, 0, none⟩) [([1, 0], true), ([3], false), ([1, 2], false)] 0) rdb ?_
  rintro ⟨u, r, _⟩ _ ⟨h, rfl⟩
  obtain rfl : r = 0 := h
  refine app2 (ca2 (xjoin (xift rfl (xnew fun b2 => ?_))))
  refine xfold1 (Q := Ar U8 ⟨some ⟨b2, 0, none⟩, 2, 2⟩ [1, 0]) 0 (fun g hg => ⟨[], blk_ar [1, 0] 2 rfl rfl hg⟩) ?_
  refine xcall0 (SameBytes_spec u ⟨some ⟨b2, 0, none⟩, 2, 2⟩ [1, 0] [1, 0] (by decide)) (rds_of fun g _ hF hs hm => ?_) ?_
  · exact (Rdb.and _ _ (p := Rdb.tail _ _ (r := Rdb.tail _ _ (r := Rdb.head _ _ _)))).go g (by assumption) hF hs hm
  rintro ⟨c, _⟩ _ ⟨h, rfl⟩
  obtain rfl : c = true := h
  refine app0 (ca1 (xjoin (xift rfl ?_)))
  refine xcall1 1 (All_spec (some ⟨q0, 0, none⟩) [([3], false), ([1, 2], false)]) rdb ?_
  rintro ⟨s1, _⟩ _ rfl
  refine app2 (ca1 ?_)
  show Ent B (LineObj _ _ :: ORows s1 [[3], [1, 2]] :: _) _
  refine xnew fun b3 => xnew fun b4 => xnew fun b5 => ?_
  refine xfold1 (Q := Ar SL ⟨some ⟨b5, 0, none⟩, 2, 2⟩ [⟨some ⟨b3, 0, none⟩, 1, 1⟩, ⟨some ⟨b4, 0, none⟩, 2, 2⟩]) 0 (fun g hg => ⟨[], blk_ar (E := SL) ([⟨some ⟨b3, 0, none⟩, 1, 1⟩, ⟨some ⟨b4, 0, none⟩, 2, 2⟩] : List Sl) 2 rfl rfl hg⟩) ?_
  refine xfold1 (Q := Ar U8 ⟨some ⟨b4, 0, none⟩, 2, 2⟩ [1, 2]) 1 (fun g hg => ⟨[], blk_ar [1, 2] 2 rfl rfl hg⟩) ?_
  refine xfold1 (Q := Ar U8 ⟨some ⟨b3, 0, none⟩, 1, 1⟩ [3]) 2 (fun g hg => ⟨[], blk_ar [3] 1 rfl rfl hg⟩) ?_
  refine xfold3 (Q := ORows ⟨some ⟨b5, 0, none⟩, 2, 2⟩ [[3], [1, 2]]) 2 0 0 (fun g hg => Exists.intro ([⟨some ⟨b3, 0, none⟩, 1, 1⟩, ⟨some ⟨b4, 0, none⟩, 2, 2⟩] : List Sl) ?_) ?_
  · obtain ⟨a, c, pa, pc, d, sa, sc⟩ := hg
    exact ⟨a, c, pa, star_in (each_two pc), d, sa, sc⟩
  refine xcall0 (SameRows_spec s1 ⟨some ⟨b5, 0, none⟩, 2, 2⟩ [[3], [1, 2]] [[3], [1, 2]] (by decide) (by decide)) rdb ?_
  rintro ⟨c, _⟩ _ ⟨h, rfl⟩
  obtain rfl : c = true := h
  refine app0 (ca1 ?_)
  refine xkeep (l := []) (xret ⟨rfl, rfl⟩)

theorem LineOrder_spec (s : Sl) (rows : List (List UInt8)) : Ct Pr F_law20_LineOrder [s.v] .one [.bool] [] (RRows s rows) (fun t Bs => t.1 = true ∧ Bs = []) := by
  refine spec1 c_law20_LineOrder fun B hr => ?_
  obtain ⟨rs, hr1, hr2, hr3⟩ := hr
  have fa : Fro B s SL rs := ⟨hr1⟩
  have hn := hr1.1
  unfold law20_LineOrder
  refine xcall0 works_spec rdb ?_
  rintro ⟨c, _⟩ _ ⟨h, rfl⟩
  obtain rfl : c = true := h
  refine app0 (ca1 (xiff rfl (xif_dec (fun h => xret ⟨rfl, rfl⟩) (fun h300 => ?_))))
  refine xcall0 New_spec rdb ?_
  rintro ⟨q, _⟩ _ ⟨⟨q0, hq⟩, rfl⟩
  simp only at hq
  subst hq
  refine app1 (ca1 ?_)
  refine xloop1 (fun n i As => ∃ k : Nat, i = (k : Int) ∧ n = rows.length - k ∧ k ≤ rows.length ∧ As = [LineObj (some ⟨q0, 0, none⟩) (((rows.take k).take 64).map fun r => (r, false))]) rows.length ⟨0, rfl, rfl, by omega, rfl⟩ ?_
  rintro n _ _ K ⟨k, rfl, rfl, hk, rfl⟩ hK
  refine xif_dec (fun h => ?_) (fun h => ?_)
  · refine xidxn (h1 := by omega) (h := fun r hx => ?_)
    have hy := List.getElem?_eq_getElem (l := rows) (i := k) (by omega)
    have hrb := hr3 k r _ hx hy
    have fb : Fro B r U8 rows[k] := ⟨hrb⟩
    refine xgetE hx (h := xif_dec (fun h => ?_) (fun h4 => ?_))
    · exact xkeep (l := []) (xret ⟨rfl, rfl⟩)
    refine xidxn (h1 := by omega) (h := fun r' hx' => ?_)
    refine xgetE hx (h := ?_)
    have hL : (((rows.take k).take 64).map fun r => (r, false)).length = min 64 k := by simp; omega
    refine xcall1 0 (Put_spec (some ⟨q0, 0, none⟩) _ r rows[k] (by have := hrb.1; omega)) rdb ?_
    rintro ⟨e, _⟩ _ ⟨he, rfl⟩
    simp only [layL, hL] at he
    refine app1 (ca1 (xiff ?_ ?_))
    · rw [he]
      by_cases h64 : k < 64
      · have : min 64 k < 64 := by omega
        simp [this]; omega
      · have : ¬ min 64 k < 64 := by omega
        simp [this]; omega
    · rw [wrap_succ k (by omega)]
      refine hK (rows.length - (k + 1)) _ _ (by omega) ⟨k + 1, rfl, rfl, by omega, ?_⟩
      simp only [layL, hL]
      by_cases h64 : k < 64
      · have : min 64 k < 64 := by omega
        simp only [this, if_true]
        rw [List.take_of_length_le (l := rows.take k) (by simp; omega), List.take_of_length_le (l := rows.take (k + 1)) (by simp; omega), List.take_add_one, hy, List.map_append]
        rfl
      · have : ¬ min 64 k < 64 := by omega
        simp only [this, if_false]
        rw [List.take_take, List.take_take, Nat.min_eq_left (by omega), Nat.min_eq_left (by omega)]
  have hk' : k = rows.length := by omega
  subst hk'
  rw [List.take_length]
  have hN : ((rows.take 64).map fun r => (r, false)).length = min 64 rows.length := by simp
  refine xloop1 (fun n i As => ∃ k : Nat, i = (k : Int) ∧ n = min 64 rows.length - k ∧ k ≤ min 64 rows.length ∧ As = [LineObj (some ⟨q0, 0, none⟩) (((rows.take 64).map fun r => (r, false)).drop k)]) (min 64 rows.length) ⟨0, rfl, rfl, by omega, rfl⟩ ?_
  rintro n _ _ K' ⟨k, rfl, rfl, hk, rfl⟩ hK'
  refine xif (fun h => ?_) (fun h => ?_)
  · have hk2 : k < rows.length ∧ k < 64 := by simp at h; omega
    have hx := List.getElem?_eq_getElem (l := rs) (i := k) (by omega)
    have hy := List.getElem?_eq_getElem (l := rows) (i := k) (by omega)
    have hrb := hr3 k _ _ hx hy
    have fb : Fro B rs[k] U8 rows[k] := ⟨hrb⟩
    have hd : ((rows.take 64).map fun r => (r, false)).drop k = (rows[k], false) :: ((rows.take 64).map fun r => (r, false)).drop (k + 1) := by
      rw [List.drop_eq_getElem_cons (by rw [hN]; omega)]
      simp
    have ht : takeL (((rows.take 64).map fun r => (r, false)).drop k) 0 = (((rows.take 64).map fun r => (r, false)).drop (k + 1), rows[k], 0) := by
      rw [hd]; simp [takeL, inL]
    refine xfact 0 (fun g hg => hg.2.1) fun hb => ?_
    have hbk : rows[k].length ≤ 4096 := hb (rows[k], false) (by rw [hd]; simp)
    refine xcall1 0 (Take_spec (some ⟨q0, 0, none⟩) _ 0) rdb ?_
    rw [ht]
    rintro ⟨u, e, _⟩ _ ⟨he, rfl⟩
    obtain rfl : e = 0 := he
    refine app2 (ca2 (xjoin (xiff rfl ?_)))
    refine xidxn (h1 := by omega) (h := fun r' hx' => ?_)
    refine xgetE hx (h := ?_)
    refine xlen u fun hun huc => ?_
    refine xcall0 (SameBytes_spec u rs[k] rows[k] rows[k] (by omega)) rdb ?_
    rintro ⟨c, _⟩ _ ⟨hc, rfl⟩
    obtain rfl : c = true := by simpa using hc
    refine app0 (ca1 (xiff rfl (xdrop 1 ?_)))
    rw [wrap_succ k (by omega)]
    exact hK' (min 64 rows.length - (k + 1)) _ _ (by omega) ⟨k + 1, rfl, rfl, by omega, rfl⟩
  · have hk2 : k = min 64 rows.length := by simp at h; omega
    subst hk2
    rw [List.drop_of_length_le (by rw [hN]; omega)]
    refine xcall1 0 (Take_spec (some ⟨q0, 0, none⟩) [] 0) rdb ?_
    rintro ⟨u, e, _⟩ _ ⟨he, rfl⟩
    obtain rfl : e = 6 := he
    refine app2 (ca2 (xjoin (xift rfl ?_)))
    refine xcall1 0 (Len_spec (some ⟨q0, 0, none⟩) []) rdb ?_
    rintro ⟨e, _⟩ _ ⟨he, rfl⟩
    obtain rfl : e = 0 := he
    exact app1 (ca1 (xkeep (l := []) (xret ⟨rfl, rfl⟩)))

end Go.Cx
