/-
  PlanFew.
-/
import Derived.Test.YtcddiaiemlkmaaaGreatPS
namespace Go.Cx
open Go Go.Cf
set_option linter.unusedVariables false
set_option maxRecDepth 100000
variable {B : Base} {As F : List HP} {α : Type}

theorem PlanFew_spec (l : Sl) (ts : List Tag) : Ct Pr F_law10_PlanFew [l.v] .one [.bool] [] (RAr TG l ts) (fun t Bs => t.1 = true ∧ Bs = []) := by
  refine spec1 c_law10_PlanFew fun B hr => ?_
  haveI : Fro B l TG ts := ⟨hr⟩
  have hn := hr.1
  unfold law10_PlanFew
  refine xif_dec (fun h => wk) (fun h4 => ?_)
  refine xcall0 (Plan_spec l ts) rdb ?_
  rintro ⟨s, e, _⟩ _ ⟨he, rfl⟩
  refine app1 (ca2 ?_)
  refine xpolls 0 fun rows hrows => ?_
  refine xlen s (fun hs _ => ?_)
  have hrow : ∀ {i : Nat} {q : Poll × Sl}, rows[i]? = some q → (planM ts)[i]? = some q.1 := fun h => by rw [← hrows, List.getElem?_map, h]; rfl
  have hrl : rows.length ≤ 64 := by
    have : rows.length = (planM ts).length := by rw [← hrows]; simp
    rw [this]
    unfold planM
    split
    · rename_i h0
      have := (planK_ok h0 ts.length (Nat.le_refl _)).1
      have := allE_len h0
      unfold planL; omega
    · simp
  refine xloop1 (fun m (x : Int) As' => ∃ i : Nat, x = (i : Int) ∧ m = 100 - i ∧ 1 ≤ i ∧ i ≤ 80 ∧ As' = [Ar PR s rows, Each EP rows rows]) 99 ⟨1, rfl, by omega, by omega, by omega, rfl⟩ ?_
  rintro m x As' K ⟨i, rfl, rfl, hi, hi2, rfl⟩ hK
  refine xif_dec (fun hp => ?_) (fun hp => wk)
  have hp : i < rows.length := by omega
  have h0 : (allE ts).1 = 0 := by
    refine Classical.byContradiction fun h => ?_
    have e : planM ts = [] := by unfold planM; rw [if_neg h]
    rw [e] at hrows
    have : rows.length = 0 := by simpa using congrArg List.length hrows
    omega
  have em : planM ts = planL ts := by unfold planM; rw [if_pos h0]
  rw [em] at hrow
  have hinv := plan_all h0
  have hlen := allE_len h0
  obtain ⟨j, rfl⟩ : ∃ j, i = j + 1 := ⟨i - 1, by omega⟩
  have hj : IntKind.i64.wrap (((j + 1 : Nat) : Int) - 1) = ((j : Nat) : Int) := by rw [wrap_id _ (by omega) (by omega)]; omega
  have next : Ent B [Ar PR s rows, Each EP rows rows] (K (IntKind.i64.wrap (((j + 1 : Nat) : Int) + 1))) := by
    rw [wrap_succ (j + 1) (by omega)]
    exact hK (100 - (j + 2)) _ _ (by omega) ⟨j + 2, rfl, rfl, by omega, by omega, rfl⟩
  rw [hj]
  refine xjoin ?_
  refine xidxn (E := PR) (xs := rows) (s := s) (h1 := by omega) (h := fun qa hqa => ?_)
  obtain ⟨a, sa⟩ := qa
  refine xgetE hqa (h := ?_)
  iterate 5 (refine xgetEj hqa (h := ?_))
  refine xnew fun b => ?_
  iterate 6 (refine xset (h := ?_))
  refine xidxn (E := PR) (xs := rows) (s := s) (h1 := hp) (h := fun qb hqb => ?_)
  obtain ⟨p, sp⟩ := qb
  refine xgetE hqb (h := ?_)
  iterate 5 (refine xgetEj hqb (h := ?_))
  refine xnew fun b1 => ?_
  iterate 6 (refine xset (h := ?_))
  have ha := hrow hqa
  have hb := hrow hqb
  have ga := hinv.good a (List.mem_of_getElem? ha)
  have gb := hinv.good p (List.mem_of_getElem? hb)
  obtain ⟨⟨t, ⟨k', hh, ht, t1, t2, t3, t4⟩, hjo⟩, hle⟩ := hinv.pair j a p ha hb
  have oa := (planK_ok h0 ts.length (Nat.le_refl _)).2 a (List.mem_of_getElem? ha)
  have ob := (planK_ok h0 ts.length (Nat.le_refl _)).2 p (List.mem_of_getElem? hb)
  obtain ⟨oa1, oa2, oa3, oa4, _⟩ := oa
  obtain ⟨ob1, ob2, ob3, ob4, _⟩ := ob
  have hv0 : ¬ k' < 0 := fun h => by unfold tagAt at ht; rw [if_pos h] at ht; cases ht
  obtain ⟨n, rfl⟩ : ∃ n : Nat, k' = (n : Int) := ⟨k'.toNat, by omega⟩
  have htn : ts[n]? = some t := by unfold tagAt at ht; rw [if_neg hv0, Int.toNat_natCast] at ht; exact ht
  have hnl : n < ts.length := (List.getElem?_eq_some_iff.1 htn).1
  have hwd := width_or t
  unfold le4 at hle
  dsimp only
  have hkd := ga.kind
  have hcn := ga.cnt
  have hhd : p.tags[0]? = some (n : Int) := by rw [← List.head?_eq_getElem?]; exact hh
  have hne : 0 < p.tags.length := (List.getElem?_eq_some_iff.1 hhd).1
  have next' : ∀ {F' : List HP} {As : List HP} [Split [Ar PR s rows, Each EP rows rows] As F'], Ent B As (K (IntKind.i64.wrap (((j + 1 : Nat) : Int) + 1))) := by intro F' As _; exact xuse [Ar PR s rows, Each EP rows rows] next
  refine xget (h := xget (h := ?_))
  refine xjoin1 (fun (c : Bool) As' => As' = [Blk b1 [.int .i64 p.unit, .int .i64 p.kind, .int .i64 p.addr, .int .i64 p.count, .int .i64 p.every, sp.v], Blk b [.int .i64 a.unit, .int .i64 a.kind, .int .i64 a.addr, .int .i64 a.count, .int .i64 a.every, sa.v], Ar PR s rows, Each EP rows rows] ∧ c = false) (fun K1 hK1 => ?_) ?_
  · repeat' (first | exact hK1 _ _ ⟨rfl, rfl⟩ | refine xjoin ?_ | refine xift rfl ?_ | refine xiff rfl ?_ | refine xget (h := ?_) | refine xif (fun h0 => ?_) (fun h0 => ?_))
    all_goals
      simp only [decide_eq_true_eq, decide_eq_false_iff_not, beq_iff_eq, beq_eq_false_iff_ne, ne_eq] at *
      first | (exfalso; omega) | (refine hK1 _ _ ⟨rfl, decide_eq_false ?_⟩; omega)
  rintro c As2 ⟨rfl, rfl⟩
  refine xiff rfl (xget (h := xget (h := xjoin ?_)))
  refine xif (fun q => xjoin (xift rfl (xift rfl next'))) (fun q => xget (h := xget (h := xjoin ?_)))
  refine xif (fun q2 => xift rfl next') (fun q2 => xget (h := xget (h := ?_)))
  refine xif (fun q3 => next') (fun q3 => xget (h := ?_))
  have hgrp : a.unit = p.unit ∧ a.every = p.every ∧ a.kind = p.kind := by simpa using And.intro q (And.intro q2 q3)
  have hjo' : ¬ (t.addr ≤ a.addr + a.count + 8 ∧ t.addr + t.width - a.addr ≤ limitK a.kind) := by
    rintro ⟨j1, j2⟩
    unfold joins at hjo
    rw [decide_eq_false_iff_not] at hjo
    refine hjo ⟨by rw [t1]; exact hgrp.1, by rw [t3]; exact hgrp.2.1, by rw [t2]; exact hgrp.2.2, j1, ?_⟩
    unfold joinC; split <;> omega
  refine xjoin1 (fun (c : Bool) As' => As' = [Blk b1 [.int .i64 p.unit, .int .i64 p.kind, .int .i64 p.addr, .int .i64 p.count, .int .i64 p.every, sp.v], Blk b [.int .i64 a.unit, .int .i64 a.kind, .int .i64 a.addr, .int .i64 a.count, .int .i64 a.every, sa.v], Ar PR s rows, Each EP rows rows] ∧ c = decide (a.kind ≤ 2)) (fun K1 hK1 => xif (fun q => hK1 _ _ ⟨rfl, ?_⟩) (fun q => xget (h := hK1 _ _ ⟨rfl, ?_⟩))) ?_
  · simp at q; rw [q]; rfl
  · rw [Bool.eq_iff_iff]; simp at *; omega
  rintro c As2 ⟨rfl, rfl⟩
  refine xjoin1 (fun (r : Int) As' => As' = [Blk b1 [.int .i64 p.unit, .int .i64 p.kind, .int .i64 p.addr, .int .i64 p.count, .int .i64 p.every, sp.v], Blk b [.int .i64 a.unit, .int .i64 a.kind, .int .i64 a.addr, .int .i64 a.count, .int .i64 a.every, sa.v], Ar PR s rows, Each EP rows rows] ∧ r = limitK a.kind) (fun K1 hK1 => xif_dec (fun q => hK1 _ _ ⟨rfl, ?_⟩) (fun q => hK1 _ _ ⟨rfl, ?_⟩)) ?_
  · unfold limitK; rw [if_pos q]
  · unfold limitK; rw [if_neg q]
  rintro room As2 ⟨rfl, rfl⟩
  refine xunf 3 [Ar I64 sp p.tags, Each EP (rows.eraseIdx (j + 1)) (rows.eraseIdx (j + 1))] (fun g hg => each_pick (R := EP) hg hqb hqb) (app2 ?_)
  refine xlen sp (fun hspn _ => ?_)
  have back : ∀ {F' F'' : List HP} {As : List HP} [Split [Ar I64 sp p.tags, Each EP (rows.eraseIdx (j + 1)) (rows.eraseIdx (j + 1))] As F'] [Split [Ar PR s rows, Each EP rows rows] (Each EP rows rows :: F') F''], Ent B As (K (IntKind.i64.wrap (((j + 1 : Nat) : Int) + 1))) := by
    intro F' F'' As _ _
    refine xfold [Ar I64 sp p.tags, Each EP (rows.eraseIdx (j + 1)) (rows.eraseIdx (j + 1))] (Each EP rows rows) (fun g hg => by have := each_put (R := EP) (xs := rows) (ys := rows) (x := (p, sp)) (y := (p, sp)) hp hp hg; rwa [set_self hqb] at this) ?_
    exact xuse [Ar PR s rows, Each EP rows rows] next
  refine xget (h := xjoin (xiff (by simp; omega) (xget (h := ?_))))
  refine xidx (E := I64) (xs := p.tags) (s := sp) (h0 := by decide) (h1 := by omega) (h := fun v hv => ?_)
  obtain rfl : v = (n : Int) := by rw [show (0 : Int).toNat = 0 from rfl, hhd] at hv; cases hv; rfl
  refine xgetE (E := I64) (xs := p.tags) hv (h := xjoin (xiff (by simp) (xget (h := ?_))))
  refine xidx (E := I64) (xs := p.tags) (s := sp) (h0 := by decide) (h1 := by omega) (h := fun v' hv' => ?_)
  refine xgetE (E := I64) (xs := p.tags) hv (h := xiff (by simp; omega) (xdraw (xjoin ?_)))
  iterate 3 (refine xget (h := ?_))
  rw [wrap_id (a.addr + a.count) (by omega) (by omega), wrap_id (a.addr + a.count + 8) (by omega) (by omega)]
  refine xif_dec (fun hgap => xget (h := xget (h := ?_))) (fun hgap => xiff rfl back)
  refine xidx (E := I64) (xs := p.tags) (s := sp) (h0 := by decide) (h1 := by omega) (h := fun v' hv' => ?_)
  refine xgetE (E := I64) (xs := p.tags) hv (h := ?_)
  refine xidxn (E := TG) (xs := ts) (s := l) (h1 := hnl) (h := fun t' ht' => ?_)
  obtain rfl : t = t' := by rw [htn] at ht'; cases ht'; rfl
  refine xgetE (E := TG) (xs := ts) htn (h := ?_)
  iterate 18 (refine xgetEj (E := TG) (xs := ts) htn (h := ?_))
  refine xget (h := ?_)
  refine xcall0 (Width_spec t) rdb ?_
  rintro ⟨x, _⟩ _ ⟨hx, rfl⟩
  simp only at hx; subst hx
  refine app0 (ca1 (xchk (h := xchk (h := ?_))))
  rw [wrap_id (p.addr + t.width) (by omega) (by omega), wrap_id (p.addr + t.width - a.addr) (by omega) (by omega)]
  refine xiff ?_ back
  rw [decide_eq_false_iff_not]
  rw [← t4]
  exact fun h => hjo' ⟨by rw [t4]; exact hgap, h⟩

end Go.Cx
