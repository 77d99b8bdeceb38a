/-
  PlanPolls.
-/
import Derived.Test.YtcddiaiemlkmaaaGreatPW
namespace Go.Cx
open Go Go.Cf
set_option linter.unusedVariables false
set_option maxRecDepth 100000
variable {B : Base} {As F : List HP} {α β : Type}

theorem rds_each2 {F1 F2 : List HP} (i j : Nat) {xs ys : List (Poll × Sl)} [p : Pick i F (Each EP xs xs) F1] [q : Pick j F (Each EP ys ys) F2] {a b : Nat} {x y : Poll × Sl} (hx : xs[a]? = some x) (hy : ys[b]? = some y) : Rds B F ((RAr I64 x.2 x.1.tags).and (RAr I64 y.2 y.1.tags)) :=
  rds_of fun g _ hF hs hm => by
    obtain ⟨c, _, pc, _, _, sc, _⟩ := star_perm p.perm hs
    obtain ⟨d, _, pd, _, _, sd, _⟩ := star_perm q.perm hs
    exact ⟨(each_read (S := fun q _ => RAr I64 q.2 q.1.tags) (fun _ _ _ _ h s => h.mono s) (fun _ _ _ h => h.read) pc hx hx).mono (sc.trans hm), (each_read (S := fun q _ => RAr I64 q.2 q.1.tags) (fun _ _ _ _ h s => h.mono s) (fun _ _ _ h => h.read) pd hy hy).mono (sd.trans hm)⟩

theorem planM_ok (ts : List Tag) : (planM ts).length ≤ 64 ∧ ∀ p ∈ planM ts, p.tags.length ≤ 64 := by
  unfold planM
  split
  · rename_i h0
    have hl := allE_len h0
    obtain ⟨a, b⟩ := planK_ok h0 ts.length (Nat.le_refl _)
    exact ⟨by unfold planL; omega, fun p hp => by have := (b p hp).2.2.2.2; omega⟩
  · simp

theorem PlanPolls_spec (l : Sl) (ts : List Tag) : Ct Pr F_law10_PlanPolls [l.v] .one [.bool] [] (RAr TG l ts) (fun t Bs => t.1 = true ∧ Bs = []) := by
  refine spec1 c_law10_PlanPolls fun B hr => ?_
  haveI : Fro B l TG ts := ⟨hr⟩
  have hn := hr.1
  unfold law10_PlanPolls
  refine xif_dec (fun h => wk) (fun h4 => ?_)
  refine xcall0 (LentTags_spec l ts (by omega)) rdb ?_
  rintro ⟨x, _⟩ _ rfl
  refine app1 (ca1 ?_)
  refine xcall0 (Plan_spec x ts) rdb ?_
  rintro ⟨s1, e1, _⟩ _ ⟨he1, rfl⟩
  simp only at he1
  refine app1 (ca2 ?_)
  refine xcall0 (Plan_spec x ts) rdb ?_
  rintro ⟨s2, e2, _⟩ _ ⟨he2, rfl⟩
  simp only at he2
  refine app1 (ca2 ?_)
  refine xcall0 (PlanRef_spec l ts) rdb ?_
  rintro ⟨s3, e3, _⟩ _ ⟨he3, rfl⟩
  simp only at he3
  obtain ⟨ok1, ok2⟩ := planM_ok ts
  generalize planM ts = ps at *
  subst he1 he2 he3
  refine app1 (ca2 (xjoin (xiff (by simp) ?_)))
  refine xcall0 (Same_spec s1 s3 ps (by omega) (fun p hp => by have := ok2 p hp; omega)) rdb ?_
  rintro ⟨c, _⟩ _ ⟨hc, rfl⟩
  obtain rfl : c = true := hc
  refine app0 (ca1 (xjoin (xiff rfl ?_)))
  refine xcall0 (Same_spec s2 s3 ps (by omega) (fun p hp => by have := ok2 p hp; omega)) rdb ?_
  rintro ⟨c, _⟩ _ ⟨hc, rfl⟩
  obtain rfl : c = true := hc
  refine app0 (ca1 (xjoin (xiff rfl ?_)))
  refine xcall0 (KeptTags_spec x l ts (by omega)) rdb ?_
  rintro ⟨c, _⟩ _ ⟨hc, rfl⟩
  obtain rfl : c = true := hc
  refine app0 (ca1 (xiff rfl ?_))
  refine xpolls 0 fun rows3 hrows3 => ?_
  refine xpolls 3 fun rows hrows => ?_
  refine xlen s1 (fun hs1 _ => ?_)
  have hrl : rows.length = ps.length := by rw [← hrows]; simp
  have hrl3 : rows3.length = ps.length := by rw [← hrows3]; simp
  refine xuse [Ar PR s1 rows, Each EP rows rows, Ar PR s3 rows3, Each EP rows3 rows3, OPolls s2 ps, Ars TG x ts (List.replicate 5 markT)] ?_
  refine xloop1 (fun n (i : Int) As' => ∃ k : Nat, i = (k : Int) ∧ n = ps.length - k ∧ k ≤ ps.length ∧ As' = [Ar PR s1 rows, Each EP (rows.drop k) (rows.drop k), Ar PR s3 rows3, Each EP rows3 rows3, OPolls s2 ps, Ars TG x ts (List.replicate 5 markT)]) ps.length ⟨0, rfl, by omega, by omega, rfl⟩ ?_
  rintro n i As' K ⟨k, rfl, rfl, hk, rfl⟩ hK
  refine xif_dec (fun hp => ?_) (fun hp => ?_)
  · have hp : k < rows.length := by omega
    obtain ⟨q, hq⟩ : ∃ q, rows[k]? = some q := ⟨_, List.getElem?_eq_getElem hp⟩
    have hd : rows.drop k = q :: rows.drop (k + 1) := by
      rw [List.drop_eq_getElem_cons hp]
      rw [List.getElem?_eq_getElem hp] at hq
      rw [Option.some.inj hq]
    obtain ⟨p, sp⟩ := q
    have next : Ent B [Ar PR s1 rows, Each EP (rows.drop (k + 1)) (rows.drop (k + 1)), Ar PR s3 rows3, Each EP rows3 rows3, OPolls s2 ps, Ars TG x ts (List.replicate 5 markT)] (K (IntKind.i64.wrap ((k : Int) + 1))) := by
      rw [wrap_succ k (by omega)]
      exact hK _ _ _ (by omega) ⟨k + 1, rfl, rfl, by omega, rfl⟩
    refine xidxn (E := PR) (xs := rows) (s := s1) (h1 := by omega) (h := fun q' hq' => ?_)
    refine xgetEj hq (h := ?_)
    refine xunf 1 [Ar I64 sp p.tags, Each EP (rows.drop (k + 1)) (rows.drop (k + 1))] (fun g hg => by rw [hd] at hg; exact each_pick (R := EP) (i := 0) hg rfl rfl) (app2 ?_)
    refine xcl (SpoilInts_spec sp p.tags) rdb ?_
    rintro _ _ ⟨ys, _, rfl⟩
    refine app1 ?_
    refine xdraw (xjoin1 (fun (c : Bool) As' => As' = [Ar PR s1 rows, Each EP (rows.drop (k + 1)) (rows.drop (k + 1)), Ar PR s3 rows3, Each EP rows3 rows3, OPolls s2 ps, Ars TG x ts (List.replicate 5 markT)] ∧ c = false) (fun K2 hK2 => ?_) ?_)
    · rw [wrap_succ k (by omega)]
      refine xif_dec (fun hp2 => ?_) (fun hp2 => xuse [Ar PR s1 rows, Each EP (rows.drop (k + 1)) (rows.drop (k + 1)), Ar PR s3 rows3, Each EP rows3 rows3, OPolls s2 ps, Ars TG x ts (List.replicate 5 markT)] (hK2 _ _ ⟨rfl, rfl⟩))
      refine xidxn (E := PR) (xs := rows) (s := s1) (h1 := by omega) (h := fun qa hqa => ?_)
      obtain ⟨a, sa⟩ := qa
      refine xgetE hqa (h := ?_)
      iterate 5 (refine xgetEj hqa (h := ?_))
      refine xidxn (E := PR) (xs := rows3) (s := s3) (h1 := by omega) (h := fun qb hqb => ?_)
      obtain ⟨a', sb⟩ := qb
      have h1 : ps[k + 1]? = some a := by rw [← hrows, List.getElem?_map, hqa]; rfl
      obtain rfl : a = a' := by
        have : ps[k + 1]? = some a' := by rw [← hrows3, List.getElem?_map, hqb]; rfl
        rw [h1] at this; exact Option.some.inj this
      refine xgetE (E := PR) (xs := rows3) hqb (h := ?_)
      iterate 5 (refine xgetEj (E := PR) (xs := rows3) hqb (h := ?_))
      dsimp only
      refine xuse [Ar PR s1 rows, Each EP (rows.drop (k + 1)) (rows.drop (k + 1)), Ar PR s3 rows3, Each EP rows3 rows3, OPolls s2 ps, Ars TG x ts (List.replicate 5 markT)] ?_
      refine xcall0 (same_spec a sa sb (by have := ok2 a (List.mem_of_getElem? h1); omega)) (rds_each2 (xs := rows.drop (k + 1)) (ys := rows3) 1 3 (a := 0) (b := k + 1) (x := (a, sa)) (y := (a, sb)) (by rw [List.getElem?_drop]; exact hqa) hqb) ?_
      rintro ⟨c, _⟩ _ ⟨hc, rfl⟩
      obtain rfl : c = true := hc
      exact app0 (ca1 (hK2 _ _ ⟨rfl, rfl⟩))
    · rintro c As2 ⟨rfl, rfl⟩
      exact xiff rfl next
  · refine xfold [Ar PR s3 rows3, Each EP rows3 rows3] (OPolls s3 ps) (fun g hg => ⟨rows3, hrows3, hg⟩) ?_
    refine xcall0 (Same_spec s2 s3 ps (by omega) (fun p hp => by have := ok2 p hp; omega)) rdb ?_
    rintro ⟨c, _⟩ _ ⟨hc, rfl⟩
    obtain rfl : c = true := hc
    refine app0 (ca1 (xjoin (xift rfl ?_)))
    refine xcall0 (KeptTags_spec x l ts (by omega)) rdb ?_
    rintro ⟨c, _⟩ _ ⟨hc, rfl⟩
    obtain rfl : c = true := hc
    exact app0 (ca1 (xjoin (xift rfl wk)))

end Go.Cx
