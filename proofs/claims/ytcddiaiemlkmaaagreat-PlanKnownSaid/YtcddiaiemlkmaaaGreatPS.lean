/-
  PlanCovers, PlanFew.
-/
import Derived.Test.YtcddiaiemlkmaaaGreatPR
namespace Go.Cx
open Go Go.Cf
set_option linter.unusedVariables false
set_option maxRecDepth 100000
variable {B : Base} {As F : List HP} {α : Type}

/-- The polls that Plan told, opened. -/
theorem xpolls (i : Nat) {s : Sl} {ps : List Poll} {F : List HP} [p : Pick i As (OPolls s ps) F] {φ : WP} (h : ∀ rows : List (Poll × Sl), rows.map Prod.fst = ps → Ent B (Ar PR s rows :: Each EP rows rows :: F) φ) : Ent B As φ := by
  refine xopen i (fun Bs => ∃ rows : List (Poll × Sl), rows.map Prod.fst = ps ∧ Bs = [Ar PR s rows, Each EP rows rows]) (fun g hg => ?_) ?_
  · obtain ⟨rows, h1, h2⟩ := hg
    exact ⟨_, ⟨rows, h1, rfl⟩, h2⟩
  · rintro _ ⟨rows, h1, rfl⟩
    exact app2 (h rows h1)

theorem wk {As : List HP} : Ent B As (XCall Pr F_law10_works [] .one [.bool] fun (c : Bool) => Ret B (ss := [.bool]) (fun t Bs => t.1 = true ∧ Bs = []) (c, ())) := by
  refine xcall0 works_spec rdb ?_
  rintro ⟨x, _⟩ _ ⟨hx, rfl⟩
  simp only at hx; subst hx
  exact app0 (ca1 (xkeep (l := []) (xret ⟨rfl, rfl⟩)))

/-- How often each place was seen. -/
def cntL (n : Nat) (L : List Int) : List Int := (List.range n).map fun (m : Nat) => ((L.count (m : Int) : Nat) : Int)
theorem cntL_get {n : Nat} {L : List Int} {m : Nat} (h : m < n) : (cntL n L)[m]? = some ((L.count (m : Int) : Nat) : Int) := by simp [cntL, h]
theorem cntL_set {n : Nat} {L : List Int} {m : Nat} (h : m < n) : (cntL n L).set m (((L.count (m : Int) : Nat) : Int) + 1) = cntL n (L ++ [(m : Int)]) := by
  apply List.ext_getElem?
  intro j
  rw [List.getElem?_set]
  by_cases e : m = j
  · subst e
    rw [if_pos rfl, if_pos (by simp [cntL, h]), cntL_get h]
    simp
  · rw [if_neg e]
    by_cases hj : j < n
    · rw [cntL_get hj, cntL_get hj]
      have : ¬ ((m : Int) = (j : Int)) := by omega
      simp [List.count_append, this]
    · simp [cntL, hj]
theorem cntL_nil (n : Nat) : cntL n [] = List.replicate n 0 := by
  apply List.ext_getElem?
  intro j
  by_cases hj : j < n
  · rw [cntL_get hj]; simp [hj]
  · simp [cntL, hj]

theorem PlanCovers_spec (l : Sl) (ts : List Tag) : Ct Pr F_law10_PlanCovers [l.v] .one [.bool] [] (RAr TG l ts) (fun t Bs => t.1 = true ∧ Bs = []) := by
  refine spec1 c_law10_PlanCovers fun B hr => ?_
  haveI : Fro B l TG ts := ⟨hr⟩
  have hn := hr.1
  unfold law10_PlanCovers
  refine xif_dec (fun h => wk) (fun h4 => ?_)
  refine xcall0 (Plan_spec l ts) rdb ?_
  rintro ⟨s, e, _⟩ _ ⟨he, rfl⟩
  simp only at he; subst he
  refine app1 (ca2 ?_)
  refine xcall0 (CheckAll_spec l ts) rdb ?_
  rintro ⟨e, at_, _⟩ _ ⟨he, hat, rfl⟩
  simp only at he hat; subst he hat
  refine app0 (ca2 (xif (fun h0 => ?_) (fun h0 => ?_)))
  · have h0 : (allE ts).1 ≠ 0 := by simpa using h0
    have e : planM ts = [] := by unfold planM; rw [if_neg h0]
    rw [e]
    refine xpolls 0 fun rows hrows => ?_
    obtain rfl : rows = [] := by simpa using hrows
    refine xlen s (fun hs _ => ?_)
    refine xjoin (xift (by rw [← hs]; simp) ?_)
    exact wk
  have h0 : (allE ts).1 = 0 := by simpa using h0
  have em : planM ts = planL ts := by unfold planM; rw [if_pos h0]
  rw [em]
  have hlen := allE_len h0
  have hinv := plan_all h0
  have hflat : (planL ts).flatMap Poll.tags = ordL ts := flat_all h0
  refine xpolls 0 fun rows hrows => ?_
  refine xmake I64 (by omega) (by omega) (h := fun b1 => ?_)
  rw [Int.toNat_natCast]
  have hpl : (planL ts).length ≤ ts.length := (planK_ok h0 ts.length (Nat.le_refl _)).1
  refine xlen s (fun hs _ => ?_)
  have hrl : rows.length = (planL ts).length := by rw [← hrows]; simp
  have hrow : ∀ {i : Nat} {q : Poll × Sl}, rows[i]? = some q → (planL ts)[i]? = some q.1 := fun h => by rw [← hrows, List.getElem?_map, h]; rfl
  refine xloop1 (fun m (x : Int) As' => ∃ i : Nat, x = (i : Int) ∧ m = rows.length - i ∧ i ≤ rows.length ∧ As' = [Ar I64 ⟨some ⟨b1, 0, none⟩, l.n, l.n⟩ (cntL ts.length (((planL ts).take i).flatMap Poll.tags)), Ar PR s rows, Each EP rows rows]) rows.length ⟨0, rfl, by omega, by omega, by simp [cntL_nil, hn]; rfl⟩ ?_
  rintro m x As' K ⟨i, rfl, rfl, hi, rfl⟩ hK
  refine xif_dec (fun hp => ?_) (fun hp => ?_)
  rotate_left
  · -- all were seen once
    have : i = rows.length := by omega
    subst this
    have hall : (planL ts).take rows.length = planL ts := List.take_of_length_le (by omega)
    rw [hall, hflat]
    refine xloop1 (fun m (x : Int) As' => ∃ j : Nat, x = (j : Int) ∧ m = ts.length - j ∧ j ≤ ts.length ∧ As' = [Ar I64 ⟨some ⟨b1, 0, none⟩, l.n, l.n⟩ (cntL ts.length (ordL ts)), Ar PR s rows, Each EP rows rows]) ts.length ⟨0, rfl, by omega, by omega, rfl⟩ ?_
    rintro m x As' K ⟨j, rfl, rfl, hj, rfl⟩ hK
    refine xif_dec (fun hp => ?_) (fun hp => xjoin (xift (by simp [h0]) wk))
    have hp : j < ts.length := by simp only at hp; omega
    have hc := cntL_get (L := ordL ts) hp
    rw [show (ordL ts).count (j : Int) = 1 from count_one ts j hp] at hc
    refine xidxn (E := I64) (xs := cntL ts.length (ordL ts)) (s := ⟨some ⟨b1, 0, none⟩, l.n, l.n⟩) (h1 := by simp [cntL]; omega) (h := fun v hv => ?_)
    obtain rfl : v = 1 := by rw [hc] at hv; cases hv; rfl
    refine xgetE hv (h := xiff (by decide) ?_)
    rw [wrap_succ j (by omega)]
    exact hK _ _ _ (by omega) ⟨j + 1, rfl, rfl, by omega, rfl⟩
  have hp : i < rows.length := by omega
  refine xidxn (E := PR) (xs := rows) (s := s) (h1 := hp) (h := fun q hq => ?_)
  obtain ⟨p, sp⟩ := q
  have hpi := hrow hq
  have hg := hinv.good p (List.mem_of_getElem? hpi)
  have htl : p.tags.length ≤ ts.length := ((planK_ok h0 ts.length (Nat.le_refl _)).2 p (List.mem_of_getElem? hpi)).2.2.2.2
  have hask := good_ask hg
  have er : askR p = (p.kind, p.addr, p.count) := by unfold askR; rw [if_pos hask]
  obtain ⟨k1, k2, a1, a2, c1, c2, c3, c4⟩ := ask_ok hask
  refine xgetE hq (h := ?_)
  iterate 5 (refine xgetEj hq (h := ?_))
  refine xcall0 (Ask_spec p sp) rdb ?_
  rintro t _ ⟨rfl, rfl⟩
  rw [er, hask]
  refine app0 (ca7 (xnew fun b => ?_))
  iterate 6 (refine xset (h := ?_))
  refine xunf 3 [Ar I64 sp p.tags, Each EP (rows.eraseIdx i) (rows.eraseIdx i)] (fun g hg => each_pick (R := EP) hg hq hq) (app2 ?_)
  refine xlen sp (fun hspn _ => ?_)
  have hne : p.tags ≠ [] := by
    obtain ⟨t, k, h1, _⟩ := hg.head
    intro e; rw [e] at h1; cases h1
  have hne' : 0 < p.tags.length := List.length_pos_iff.2 hne
  refine xdraw (xjoin (xiff rfl (xget (h := ?_))))
  refine xidxn (E := PR) (xs := rows) (s := s) (h1 := hp) (h := fun q' hq' => ?_)
  refine xgetEj hq (h := xiff (by simp) (xget (h := ?_)))
  refine xidxn (E := PR) (xs := rows) (s := s) (h1 := hp) (h := fun q' hq' => ?_)
  refine xgetEj hq (h := xiff (by simp) (xget (h := ?_)))
  refine xidxn (E := PR) (xs := rows) (s := s) (h1 := hp) (h := fun q' hq' => ?_)
  refine xgetEj hq (h := xiff (by simp) ?_)
  refine xidxn (E := PR) (xs := rows) (s := s) (h1 := hp) (h := fun q' hq' => ?_)
  refine xgetEj hq (h := xiff (by simp; omega) ?_)
  have htake : (planL ts).take (i + 1) = (planL ts).take i ++ [p] := (take_snoc hpi).symm
  refine xuse [Ar I64 ⟨some ⟨b1, 0, none⟩, l.n, l.n⟩ (cntL ts.length (((planL ts).take i).flatMap Poll.tags)), Ar PR s rows, Ar I64 sp p.tags, Each EP (rows.eraseIdx i) (rows.eraseIdx i)] ?_
  generalize hL : ((planL ts).take i).flatMap Poll.tags = L
  refine xloop1 (fun m (x : Int) As' => ∃ k : Nat, x = (k : Int) ∧ m = p.tags.length - k ∧ k ≤ p.tags.length ∧ As' = [Ar I64 ⟨some ⟨b1, 0, none⟩, l.n, l.n⟩ (cntL ts.length (L ++ p.tags.take k)), Ar PR s rows, Ar I64 sp p.tags, Each EP (rows.eraseIdx i) (rows.eraseIdx i)]) p.tags.length ⟨0, rfl, by omega, by omega, by simp⟩ ?_
  rintro m x As' K2 ⟨k, rfl, rfl, hk, rfl⟩ hK2
  refine xidxn (E := PR) (xs := rows) (s := s) (h1 := hp) (h := fun q' hq' => ?_)
  refine xgetEj hq (h := ?_)
  dsimp only
  refine xif_dec (fun hkp => ?_) (fun hkp => ?_)
  rotate_left
  · have : k = p.tags.length := by omega
    subst this
    rw [List.take_length]
    refine xfold [Ar I64 sp p.tags, Each EP (rows.eraseIdx i) (rows.eraseIdx i)] (Each EP rows rows) (fun g hg => by have := each_put (R := EP) (xs := rows) (ys := rows) (x := (p, sp)) (y := (p, sp)) hp hp hg; rwa [set_self hq] at this) ?_
    rw [wrap_succ i (by omega)]
    refine xuse [Ar I64 ⟨some ⟨b1, 0, none⟩, l.n, l.n⟩ (cntL ts.length (L ++ p.tags)), Ar PR s rows, Each EP rows rows] ?_
    exact hK _ _ _ (by omega) ⟨i + 1, rfl, rfl, by omega, by rw [htake, List.flatMap_append, hL]; simp⟩
  have hkp : k < p.tags.length := by omega
  refine xidxn (E := PR) (xs := rows) (s := s) (h1 := hp) (h := fun q' hq' => ?_)
  refine xgetEj hq (h := ?_)
  try dsimp only
  refine xidxn (E := I64) (xs := p.tags) (s := sp) (h1 := hkp) (h := fun v hv => ?_)
  refine xgetE hv (h := ?_)
  obtain ⟨t, g1, g2, g3, g4, g5, g6⟩ := hg.has v (List.mem_of_getElem? hv)
  have hv0 : ¬ v < 0 := fun h => by unfold tagAt at g1; rw [if_pos h] at g1; cases g1
  obtain ⟨n, rfl⟩ : ∃ n : Nat, v = (n : Int) := ⟨v.toNat, by omega⟩
  have ht : ts[n]? = some t := by unfold tagAt at g1; rw [if_neg hv0, Int.toNat_natCast] at g1; exact g1
  have hnl : n < ts.length := (List.getElem?_eq_some_iff.1 ht).1
  have htk := allE_tag h0 ht
  have hwd := width_or t
  refine xiff (by simp; omega) ?_
  refine xidxn (E := TG) (xs := ts) (s := l) (h1 := hnl) (h := fun t' ht' => ?_)
  obtain rfl : t = t' := by rw [ht] at ht'; cases ht'; rfl
  refine xgetE (E := TG) (xs := ts) ht (h := ?_)
  iterate 18 (refine xgetEj (E := TG) (xs := ts) ht (h := ?_))
  refine xnew fun b2 => ?_
  iterate 19 (refine xset (h := ?_))
  have hcl : (cntL ts.length (L ++ p.tags.take k)).length = ts.length := by simp [cntL]
  have hcn := cntL_get (L := L ++ p.tags.take k) hnl
  refine xidxn (E := I64) (xs := cntL ts.length (L ++ p.tags.take k)) (s := ⟨some ⟨b1, 0, none⟩, l.n, l.n⟩) (h1 := by omega) (h := fun y hy => ?_)
  obtain rfl : y = (((L ++ p.tags.take k).count (n : Int) : Nat) : Int) := by rw [hcn] at hy; cases hy; rfl
  refine xgetE hcn (h := ?_)
  refine xidxn (E := I64) (xs := cntL ts.length (L ++ p.tags.take k)) (s := ⟨some ⟨b1, 0, none⟩, l.n, l.n⟩) (h1 := by omega) (h := fun y' hy' => ?_)
  refine xsetE ((((L ++ p.tags.take k).count (n : Int) : Nat) : Int) + 1) hcn (hv := ?_) (h := ?_)
  · have hcb : (L ++ p.tags.take k).count (n : Int) ≤ 1 := by
      have h1 : (ordL ts).count (n : Int) = 1 := count_one ts n hnl
      rw [← hflat] at h1
      have h2 : (planL ts).flatMap Poll.tags = (L ++ p.tags.take k) ++ (p.tags.drop k ++ ((planL ts).drop (i + 1)).flatMap Poll.tags) := by
        have e3 := (List.take_append_drop (i + 1) (planL ts)).symm
        rw [htake] at e3
        have e4 := congrArg (List.flatMap Poll.tags) e3
        rw [List.flatMap_append, List.flatMap_append, hL] at e4
        rw [e4]
        simp only [List.flatMap_cons, List.flatMap_nil, List.append_nil, List.append_assoc]
        rw [← List.append_assoc (p.tags.take k), List.take_append_drop]
      rw [h2, List.count_append] at h1
      omega
    rw [wrap_succ _ (by omega)]
    rfl
  rw [cntL_set hnl, List.append_assoc, take_snoc hv]
  refine xdraw (xjoin (xget (h := ?_)))
  refine xidxn (E := PR) (xs := rows) (s := s) (h1 := hp) (h := fun q' hq' => ?_)
  refine xgetE (E := PR) (xs := rows) hq (h := xiff (by simp [g2]) (xget (h := ?_)))
  refine xidxn (E := PR) (xs := rows) (s := s) (h1 := hp) (h := fun q' hq' => ?_)
  refine xgetEj (E := PR) (xs := rows) hq (h := xiff (by simp [g3]) (xget (h := ?_)))
  refine xidxn (E := PR) (xs := rows) (s := s) (h1 := hp) (h := fun q' hq' => ?_)
  refine xgetEj (E := PR) (xs := rows) hq (h := xiff (by simp [g4]) (xget (h := ?_)))
  refine xidxn (E := PR) (xs := rows) (s := s) (h1 := hp) (h := fun q' hq' => ?_)
  refine xgetEj (E := PR) (xs := rows) hq (h := xiff (by simp; omega) ?_)
  iterate 20 (refine xget (h := ?_))
  refine xidxn (E := PR) (xs := rows) (s := s) (h1 := hp) (h := fun q' hq' => ?_)
  refine xgetEj (E := PR) (xs := rows) hq (h := ?_)
  refine xidxn (E := PR) (xs := rows) (s := s) (h1 := hp) (h := fun q' hq' => ?_)
  refine xgetEj (E := PR) (xs := rows) hq (h := ?_)
  refine xcall0 (Width_spec t) rdb ?_
  rintro ⟨x, _⟩ _ ⟨hx, rfl⟩
  simp only at hx; subst hx
  refine app0 (ca1 ?_)
  refine xchkEj (E := PR) (xs := rows) hq (h := ?_)
  refine xchkEj (E := PR) (xs := rows) hq (h := ?_)
  refine xchk (h := ?_)
  dsimp only
  rw [wrap_id (t.addr + t.width) (by omega) (by omega), wrap_id (p.addr + p.count) (by omega) (by omega)]
  refine xiff (by simp; omega) ?_
  rw [wrap_succ k (by omega)]
  refine xuse [Ar I64 ⟨some ⟨b1, 0, none⟩, l.n, l.n⟩ (cntL ts.length (L ++ p.tags.take (k + 1))), Ar PR s rows, Ar I64 sp p.tags, Each EP (rows.eraseIdx i) (rows.eraseIdx i)] ?_
  exact hK2 _ _ _ (by omega) ⟨k + 1, rfl, rfl, by omega, rfl⟩

end Go.Cx
