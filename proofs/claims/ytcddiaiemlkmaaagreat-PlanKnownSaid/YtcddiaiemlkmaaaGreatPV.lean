/-
  PlanPolls: the document's plan, and the law.
-/
import Derived.Test.YtcddiaiemlkmaaaGreatPS
namespace Go.Cx
open Go Go.Cf
set_option linter.unusedVariables false
set_option maxRecDepth 100000
variable {B : Base} {As F : List HP} {α : Type}

theorem pick_min {ts : List Tag} {k : Nat} {i f : Fin ts.length} (hi : (ordF ts)[k]? = some i) (hu : f ∉ (ordF ts).take k) (hmin : ∀ j, j ∉ (ordF ts).take k → ltT ts j f = false) : f = i := by
  have hmem : ∀ x : Fin ts.length, x ∈ ordF ts := fun x => (ord_perm ts).mem_iff.2 (List.mem_finRange x)
  have hnd : (ordF ts).Nodup := (ord_perm ts).nodup_iff.2 (List.nodup_finRange _)
  obtain ⟨hk, hik⟩ := List.getElem?_eq_some_iff.1 hi
  have hni : i ∉ (ordF ts).take k := by
    intro h
    obtain ⟨m, hm, hmi⟩ := List.mem_iff_getElem.1 h
    rw [List.getElem_take] at hmi
    have hm' : m < k := by simp at hm; omega
    exact (List.pairwise_iff_getElem.1 hnd) m k (by omega) hk hm' (by rw [hmi, hik])
  obtain ⟨m, hm, hmf⟩ := List.mem_iff_getElem.1 (hmem f)
  have hkm : k ≤ m := by
    refine Nat.le_of_not_lt fun h => hu ?_
    exact List.mem_iff_getElem.2 ⟨m, by simp; omega, by rw [List.getElem_take]; exact hmf⟩
  refine totT ts f i ?_ (hmin i hni)
  rcases Nat.eq_or_lt_of_le hkm with rfl | h
  · rw [hik] at hmf; subst hmf; exact (swoT ts).irrefl _
  · have := (List.pairwise_iff_getElem.1 (ord_sorted ts)) k m hk hm h
    rw [hik, hmf] at this; exact this

def usedL (ts : List Tag) (k : Nat) : List Bool := (List.finRange ts.length).map fun j => decide (j ∈ (ordF ts).take k)
theorem usedL_len (ts : List Tag) (k : Nat) : (usedL ts k).length = ts.length := by simp [usedL]
theorem usedL_get {ts : List Tag} {k : Nat} (j : Fin ts.length) : (usedL ts k)[j.val]? = some (decide (j ∈ (ordF ts).take k)) := by
  simp [usedL]
theorem usedL_zero (ts : List Tag) : usedL ts 0 = List.replicate ts.length false := by
  unfold usedL
  apply List.ext_getElem?
  intro i
  by_cases h : i < ts.length <;> simp [h]
theorem usedL_set {ts : List Tag} {k : Nat} {i : Fin ts.length} (hi : (ordF ts)[k]? = some i) : (usedL ts k).set i.val true = usedL ts (k + 1) := by
  apply List.ext_getElem?
  intro j
  have e : (ordF ts).take (k + 1) = (ordF ts).take k ++ [i] := (take_snoc hi).symm
  by_cases h : j < ts.length
  · have g := usedL_get (ts := ts) (k := k + 1) ⟨j, h⟩
    have g0 := usedL_get (ts := ts) (k := k) ⟨j, h⟩
    simp only at g g0
    rw [g, List.getElem?_set, g0, usedL_len, e]
    by_cases hj : i.val = j
    · subst hj; simp
    · have : (⟨j, h⟩ : Fin ts.length) ≠ i := fun q => hj (by rw [← q])
      simp [hj, this]
  · rw [List.getElem?_eq_none (by simp [usedL_len]; omega), List.getElem?_eq_none (by simp [usedL_len]; omega)]

theorem Ahead_spec (l : Sl) (ts : List Tag) (i k : Fin ts.length) : Ct Pr F_ref10_Ahead [l.v, .int .i64 (i.val : Int), .int .i64 (k.val : Int)] .one [.bool] [] (RAr TG l ts) (fun t Bs => t.1 = ltT ts i k ∧ Bs = []) := by
  refine spec1 c_ref10_Ahead fun B hr => ?_
  haveI : Fro B l TG ts := ⟨hr⟩
  have hn := hr.1
  unfold ref10_Ahead
  have hil := i.isLt
  have hkl := k.isLt
  have hti : ts[i.val]? = some ts[i] := List.getElem?_eq_getElem i.isLt
  have htk : ts[k.val]? = some ts[k] := List.getElem?_eq_getElem k.isLt
  have hb := ltT_iff ts i k
  generalize ts[i] = t at hti hb
  generalize ts[k] = u at htk hb
  generalize ltT ts i k = b at hb
  refine xidxn (h1 := hil) (h := fun t' ht' => ?_)
  obtain rfl : t' = t := by rw [hti] at ht'; cases ht'; rfl
  refine xgetE ht' (h := ?_)
  iterate 18 (refine xgetEj ht' (h := ?_))
  refine xnew fun b => ?_
  iterate 19 (refine xset (h := ?_))
  refine xidxn (h1 := hkl) (h := fun u' hu' => ?_)
  obtain rfl : u' = u := by rw [htk] at hu'; cases hu'; rfl
  refine xgetE hu' (h := ?_)
  iterate 18 (refine xgetEj hu' (h := ?_))
  refine xnew fun b1 => ?_
  iterate 19 (refine xset (h := ?_))
  unfold lexLt at hb
  repeat' (first | refine xget (h := ?_) | refine xif (fun h0 => ?_) (fun h0 => ?_))
  all_goals
    refine xkeep (l := []) (xret ⟨?_, rfl⟩)
    dsimp only
    rw [Bool.eq_iff_iff, hb]
    simp only [decide_eq_true_eq, bne_iff_ne, bne_eq_false_iff_eq, ne_eq] at *
    omega

theorem Order_spec (l : Sl) (ts : List Tag) (hl : ts.length ≤ 64) : Ct Pr F_ref10_Order [l.v] .one [.slice] [] (RAr TG l ts) (fun t Bs => Bs = [Ar I64 t.1 (ordL ts)]) := by
  refine spec1 c_ref10_Order fun B hr => ?_
  haveI : Fro B l TG ts := ⟨hr⟩
  have hn := hr.1
  unfold ref10_Order
  refine xmake BL (by omega) (by omega) (h := fun b => ?_)
  rw [Int.toNat_natCast]
  have hol : (ordL ts).length = ts.length := by simp [ordL, ordF_len]
  refine xnone I64 ?_
  refine xloop1 (fun m (out : Sl) As' => ∃ k : Nat, m = ts.length - k ∧ k ≤ ts.length ∧ As' = [Ar I64 out ((ordL ts).take k), Ar BL ⟨some ⟨b, 0, none⟩, l.n, l.n⟩ (usedL ts k)]) ts.length ⟨0, by omega, by omega, by rw [usedL_zero, hn]; rfl⟩ ?_
  rintro m out As' K ⟨k, rfl, hk, rfl⟩ hK
  refine xlen out (fun hon hoc => ?_)
  have hon : out.n = k := by rw [← hon, List.length_take, hol]; omega
  refine xif_dec (fun hp => ?_) (fun hp => ?_)
  rotate_left
  · obtain rfl : k = ts.length := by omega
    rw [List.take_of_length_le (by omega)]
    exact xkeep (l := [Ar I64 out (ordL ts)]) (xret rfl)
  have hp : k < ts.length := by omega
  obtain ⟨q, hq⟩ : ∃ q, (ordF ts)[k]? = some q := ⟨_, List.getElem?_eq_getElem (by rw [ordF_len]; exact hp)⟩
  have hoq : (ordL ts)[k]? = some (q.val : Int) := by simp [ordL, hq]
  refine xloop2 (fun m (first : Int) (x : Int) As' => ∃ i : Nat, x = (i : Int) ∧ m = ts.length - i ∧ i ≤ ts.length ∧ ((first = -1 ∧ ∀ j : Fin ts.length, j.val < i → j ∈ (ordF ts).take k) ∨ (∃ f : Fin ts.length, first = (f.val : Int) ∧ f ∉ (ordF ts).take k ∧ ∀ j : Fin ts.length, j.val < i → j ∉ (ordF ts).take k → ltT ts j f = false)) ∧ As' = [Ar I64 out ((ordL ts).take k), Ar BL ⟨some ⟨b, 0, none⟩, l.n, l.n⟩ (usedL ts k)]) ts.length ⟨0, rfl, by omega, by omega, .inl ⟨rfl, fun j h => absurd h (by omega)⟩, rfl⟩ ?_
  rintro m first x As' K1 ⟨i, rfl, rfl, hi, hfirst, rfl⟩ hK1
  refine xif_dec (fun hp1 => ?_) (fun hp1 => ?_)
  · have hil : i < ts.length := by omega
    have next : ∀ first' : Int, ((first' = -1 ∧ ∀ j : Fin ts.length, j.val < i + 1 → j ∈ (ordF ts).take k) ∨ (∃ f : Fin ts.length, first' = (f.val : Int) ∧ f ∉ (ordF ts).take k ∧ ∀ j : Fin ts.length, j.val < i + 1 → j ∉ (ordF ts).take k → ltT ts j f = false)) → Ent B [Ar I64 out ((ordL ts).take k), Ar BL ⟨some ⟨b, 0, none⟩, l.n, l.n⟩ (usedL ts k)] (K1 first' (IntKind.i64.wrap ((i : Int) + 1))) := fun first' h => by
      rw [wrap_succ i (by omega)]
      exact hK1 _ _ _ _ (by omega) ⟨i + 1, rfl, rfl, by omega, h, rfl⟩
    refine xidxn (E := BL) (xs := usedL ts k) (s := ⟨some ⟨b, 0, none⟩, l.n, l.n⟩) (h1 := by rw [usedL_len]; exact hil) (h := fun c hc => ?_)
    obtain rfl : c = decide ((⟨i, hil⟩ : Fin ts.length) ∈ (ordF ts).take k) := by
      have := usedL_get (ts := ts) (k := k) ⟨i, hil⟩
      simp only at this
      rw [this] at hc; exact (Option.some.inj hc).symm
    refine xgetE hc (h := ?_)
    refine xjoin1 (fun (c : Bool) As' => As' = [Ar I64 out ((ordL ts).take k), Ar BL ⟨some ⟨b, 0, none⟩, l.n, l.n⟩ (usedL ts k)] ∧ c = (!decide ((⟨i, hil⟩ : Fin ts.length) ∈ (ordF ts).take k) && (decide (first < 0) || (if h : 0 ≤ first ∧ first.toNat < ts.length then ltT ts ⟨i, hil⟩ ⟨first.toNat, h.2⟩ else false)))) (fun K2 hK2 => ?_) ?_
    · refine xif (fun h => ?_) (fun h => hK2 _ _ ⟨rfl, by rw [h]; rfl⟩)
      refine xjoin1 (fun (c : Bool) As' => As' = [Ar I64 out ((ordL ts).take k), Ar BL ⟨some ⟨b, 0, none⟩, l.n, l.n⟩ (usedL ts k)] ∧ c = (decide (first < 0) || (if h : 0 ≤ first ∧ first.toNat < ts.length then ltT ts ⟨i, hil⟩ ⟨first.toNat, h.2⟩ else false))) (fun K3 hK3 => ?_) ?_
      · refine xif (fun h => hK3 _ _ ⟨rfl, by rw [h]; rfl⟩) (fun h => ?_)
        rcases hfirst with ⟨rfl, _⟩ | ⟨f, rfl, _⟩
        · simp at h
        refine xcall0 (Ahead_spec l ts ⟨i, hil⟩ f) rdb ?_
        rintro ⟨c, _⟩ _ ⟨hc, rfl⟩
        simp only at hc; subst hc
        refine app0 (ca1 (hK3 _ _ ⟨rfl, ?_⟩))
        rw [h, Bool.false_or, dif_pos (show 0 ≤ (f.val : Int) ∧ (f.val : Int).toNat < ts.length from ⟨by omega, by simp⟩)]
        rfl
      · rintro c As2 ⟨rfl, rfl⟩
        exact hK2 _ _ ⟨rfl, by rw [h]; rfl⟩
    rintro c As2 ⟨rfl, rfl⟩
    refine xjoin (xif (fun h => ?_) (fun h => ?_))
    · refine next _ (.inr ⟨⟨i, hil⟩, rfl, ?_, ?_⟩)
      · simp only [Bool.and_eq_true, Bool.not_eq_true', decide_eq_false_iff_not] at h; exact h.1
      · intro j hj hju
        rcases Nat.lt_or_ge j.val i with hji | hji
        · rcases hfirst with ⟨rfl, hall⟩ | ⟨f, rfl, hf, hmin⟩
          · exact absurd (hall j hji) hju
          · simp only [Bool.and_eq_true, Bool.or_eq_true] at h
            have h2 := h.2
            rw [dif_pos (show 0 ≤ (f.val : Int) ∧ (f.val : Int).toNat < ts.length from ⟨by omega, by simp⟩)] at h2
            have h3 : ltT ts ⟨i, hil⟩ f = true := by
              rcases h2 with h2 | h2
              · exact absurd (of_decide_eq_true h2) (Int.not_lt.2 (Int.natCast_nonneg _))
              · exact h2
            have h4 := hmin j hji hju
            rw [ltT_iff] at h3
            rw [ltT_false] at h4 ⊢
            unfold lexLt at *; omega
        · obtain rfl : j = ⟨i, hil⟩ := Fin.ext (show j.val = i by omega)
          exact (swoT ts).irrefl _
    · rcases hfirst with ⟨rfl, hall⟩ | ⟨f, rfl, hf, hmin⟩
      · refine next _ (.inl ⟨rfl, fun j hj => ?_⟩)
        rcases Nat.lt_or_ge j.val i with hji | hji
        · exact hall j hji
        · obtain rfl : j = ⟨i, hil⟩ := Fin.ext (show j.val = i by omega)
          simpa using h
      · refine next _ (.inr ⟨f, rfl, hf, fun j hj hju => ?_⟩)
        rcases Nat.lt_or_ge j.val i with hji | hji
        · exact hmin j hji hju
        · obtain rfl : j = ⟨i, hil⟩ := Fin.ext (show j.val = i by omega)
          rw [dif_pos (show 0 ≤ (f.val : Int) ∧ (f.val : Int).toNat < ts.length from ⟨by omega, by simp⟩)] at h
          simp only [Bool.and_eq_false_iff, Bool.not_eq_false', decide_eq_true_eq, Bool.or_eq_false_iff] at h
          rcases h with h | h
          · exact absurd h hju
          · exact h.2
  · have : i = ts.length := by omega
    subst this
    have hq0 : q ∉ (ordF ts).take k := by
      intro h
      have hnd : (ordF ts).Nodup := (ord_perm ts).nodup_iff.2 (List.nodup_finRange _)
      obtain ⟨hk', hik⟩ := List.getElem?_eq_some_iff.1 hq
      obtain ⟨m, hm, hmi⟩ := List.mem_iff_getElem.1 h
      rw [List.getElem_take] at hmi
      have hm' : m < k := by simp at hm; omega
      exact (List.pairwise_iff_getElem.1 hnd) m k (by omega) hk' hm' (by rw [hmi, hik])
    rcases hfirst with ⟨rfl, hall⟩ | ⟨f, rfl, hf, hmin⟩
    · exact absurd (hall q q.isLt) hq0
    obtain rfl := pick_min hq hf (fun j hj => hmin j j.isLt hj)
    refine xidxn (E := BL) (xs := usedL ts k) (s := ⟨some ⟨b, 0, none⟩, l.n, l.n⟩) (h1 := by rw [usedL_len]; exact f.isLt) (h := fun c hc => ?_)
    refine xsetE (E := BL) true hc (hv := rfl) (h := ?_)
    rw [usedL_set hq]
    refine xnew fun b1 => ?_
    refine xapp1 (E := I64) (f.val : Int) (hb := by omega) (h := fun s2 => ?_)
    rw [take_snoc hoq]
    exact hK _ _ _ (by omega) ⟨k + 1, rfl, by omega, rfl⟩

end Go.Cx
