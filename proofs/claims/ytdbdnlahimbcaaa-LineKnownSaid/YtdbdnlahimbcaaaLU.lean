/-
  LineRuns.
-/
import Derived.Test.YtdbdnlahimbcaaaLR
namespace Go.Cx
open Go Go.Cf
set_option linter.unusedVariables false
variable {B : Base} {As : List HP}

theorem takeL_short {L : Lm} (h : ∀ l ∈ L, l.1.length ≤ 4096) (i : Int) : (takeL L i).2.1.length ≤ 4096 := by
  unfold takeL
  split
  · rename_i hin
    obtain ⟨hk, e⟩ := inL_get hin
    simp only [e]
    exact h _ (List.getElem_mem hk)
  · simp

theorem both_spec (p x : Option Addr) (L : Lm) (d : Sl) (m : MOp) (hbit : i64 m.bit) (hd : m.data.length ≤ 4096) : Ct Pr F_law20_both [.pointer p, .pointer x, .agg #[.int .i64 m.kind, .int .i64 m.i, .int .i64 m.bit, d.v]] .one [.bool] [LineObj p L, RefObj x L] (RAr U8 d m.data)
    (fun t Bs => t.1 = true ∧ Bs = [LineObj p (stepL L m), RefObj x (stepL L m)]) := by
  refine spec1 c_law20_both fun B hr => ?_
  have fd : Fro B d U8 m.data := ⟨hr⟩
  unfold law20_both
  refine xfact 0 (fun g hg => hg.2.1) fun hb => ?_
  refine xnew fun b => xget (h := ?_)
  refine xjoin0 (fun As' => As' = [LineObj p (stepL L m), RefObj x (stepL L m)]) ?_ (fun As' h => by subst h; exact xret ⟨rfl, rfl⟩)
  intro J hJ
  refine xif (fun g => ?_) (fun g => ?_)
  · have hk : m.kind = 0 := by simpa using g
    have hs : stepL L m = (layL L (m.data, false)).1 := by rw [stepL, if_pos hk]
    refine xget (h := ?_)
    refine xcall0 (LentBytes_spec d m.data (by omega)) rdb ?_
    rintro ⟨s1, _⟩ _ rfl
    refine app1 (ca1 ?_)
    refine xcall1 2 (Put_spec p L s1 m.data hd) rdb ?_
    rintro ⟨r, _⟩ _ ⟨h1, rfl⟩
    refine app1 (ca1 (xget (h := ?_)))
    refine xcall1 3 (rPut_spec x L d m.data hd) rdb ?_
    rintro ⟨r1, _⟩ _ ⟨h2, rfl⟩
    simp only at h1 h2
    subst h1 h2
    refine app1 (ca1 (xjoin (xiff (by simp) (xget (h := ?_)))))
    refine xcall0 (KeptBytes_spec s1 d m.data (by omega)) rdb ?_
    rintro ⟨c, _⟩ _ ⟨hc, rfl⟩
    obtain rfl : c = true := hc
    refine app0 (ca1 (xiff rfl ?_))
    refine xfold1 (Q := Ar U8 s1 m.data) 2 (fun g hg => ⟨_, hg⟩) ?_
    refine xcall1 0 (SpoilBytes_spec s1 m.data) rdb ?_
    rintro _ _ rfl
    refine app0 (ca0 (xdrop 2 (Ent.perm (List.Perm.swap _ _ _) (hJ _ ?_))))
    rw [hs]
  have n0 : ¬ m.kind = 0 := by simpa using g
  refine xjoin (xif (fun g => ?_) (fun g => ?_))
  · have hk : m.kind = 1 := by simpa using g
    have hs : stepL L m = (takeL L m.i).1 := by rw [stepL, if_neg n0, if_pos hk]
    refine xget (h := ?_)
    refine xcall1 1 (Take_spec p L m.i) rdb ?_
    rintro ⟨s4, r2, _⟩ _ ⟨h1, rfl⟩
    refine app2 (ca2 (xget (h := ?_)))
    refine xcall1 3 (rTake_spec x L m.i) rdb ?_
    rintro ⟨s5, r3, _⟩ _ ⟨h2, rfl⟩
    simp only at h1 h2
    subst h1 h2
    refine app2 (ca2 (xjoin (xiff (by simp) ?_)))
    refine xcall0 (SameBytes_spec s4 s5 (takeL L m.i).2.1 (takeL L m.i).2.1 (by have := takeL_short hb m.i; omega)) rdb ?_
    rintro ⟨c, _⟩ _ ⟨hc, rfl⟩
    obtain rfl : c = true := by simpa using hc
    refine app0 (ca1 (xiff rfl ?_))
    refine xcall1 3 (SpoilBytes_spec s4 (takeL L m.i).2.1) rdb ?_
    rintro _ _ rfl
    refine app0 (ca0 (xdrop 3 (xdrop 1 (Ent.perm (List.Perm.swap _ _ _) (hJ _ ?_)))))
    rw [hs]
  have n1 : ¬ m.kind = 1 := by simpa using g
  refine xif (fun g => ?_) (fun g => ?_)
  · have hk : m.kind = 2 := by simpa using g
    have hs : stepL L m = (takeL L m.i).1 := by rw [stepL, if_neg n0, if_neg n1, if_pos hk]
    refine xget (h := ?_)
    refine xcall1 2 (rTake_spec x L m.i) rdb ?_
    rintro ⟨s6, r4, _⟩ _ ⟨h1, rfl⟩
    refine app2 (ca2 (xget (h := ?_)))
    refine xcall1 3 (Lose_spec p L m.i) rdb ?_
    rintro ⟨r5, _⟩ _ ⟨h2, rfl⟩
    simp only at h1 h2
    subst h1 h2
    refine app1 (ca1 (xdrop 2 (xdrop 2 (xret ⟨by simp, by rw [hs]⟩))))
  have n2 : ¬ m.kind = 2 := by simpa using g
  refine xif (fun g => ?_) (fun g => ?_)
  · have hk : m.kind = 3 := by simpa using g
    have hs : stepL L m = (doubleL L m.i).1 := by rw [stepL, if_neg n0, if_neg n1, if_neg n2, if_pos hk]
    refine xdraw (xget (h := xget (h := ?_)))
    refine xcall1 1 (Double_spec p L m.i) rdb ?_
    rintro ⟨r4, _⟩ _ ⟨h1, rfl⟩
    refine app1 (ca1 (xchk (h := ?_)))
    refine xcall1 2 (rDouble_spec x L m.i) rdb ?_
    rintro ⟨r5, _⟩ _ ⟨h2, rfl⟩
    simp only at h1 h2
    subst h1 h2
    refine app1 (ca1 (xdrop 2 (Ent.perm (List.Perm.swap _ _ _) (xret ⟨by simp, by rw [hs]⟩))))
  have n3 : ¬ m.kind = 3 := by simpa using g
  refine xif (fun g => ?_) (fun g => ?_)
  · have hk : m.kind = 4 := by simpa using g
    have hs : stepL L m = (turnL L m.i m.bit).1 := by rw [stepL, if_neg n0, if_neg n1, if_neg n2, if_neg n3, if_pos hk]
    refine xdraw (xget (h := xget (h := xget (h := xget (h := ?_)))))
    refine xcall1 1 (Turn_spec p L m.i m.bit hbit.1 hbit.2) rdb ?_
    rintro ⟨r4, _⟩ _ ⟨h1, rfl⟩
    refine app1 (ca1 (xchk (h := xchk (h := ?_))))
    refine xcall1 2 (rTurn_spec x L m.i m.bit hbit) rdb ?_
    rintro ⟨r5, _⟩ _ ⟨h2, rfl⟩
    simp only at h1 h2
    subst h1 h2
    refine app1 (ca1 (xdrop 2 (Ent.perm (List.Perm.swap _ _ _) (xret ⟨by simp, by rw [hs]⟩))))
  have n4 : ¬ m.kind = 4 := by simpa using g
  refine xdrop 0 (hJ _ ?_)
  rw [stepL, if_neg n0, if_neg n1, if_neg n2, if_neg n3, if_neg n4]


theorem LineRuns_spec (s : Sl) (ops : List MOp) : Ct Pr F_law20_LineRuns [s.v] .one [.bool] [] (ROps s ops) (fun t Bs => t.1 = true ∧ Bs = []) := by
  refine spec1 c_law20_LineRuns fun B hr => ?_
  have fo : FroP B (ROps s ops) := ⟨hr, fun _ _ h s => h.mono s⟩
  have hr' := hr
  obtain ⟨hsc, os, h1, h2, h3⟩ := hr'
  have fa : Fro B s OP os := ⟨h1⟩
  have hsn := h1.1
  unfold law20_LineRuns
  refine xcall0 (long_spec s ops) rdb ?_
  rintro ⟨c, _⟩ _ ⟨hlong, rfl⟩
  simp only at hlong
  refine app0 (ca1 (xif (fun h => ?_) (fun h => ?_)))
  · refine xcall0 works_spec rdb ?_
    rintro ⟨c, _⟩ _ ⟨h, rfl⟩
    obtain rfl : c = true := h
    exact app0 (ca1 (xret ⟨rfl, rfl⟩))
  obtain ⟨hol, hob⟩ := long_false (hlong.symm.trans h)
  refine xcall0 New_spec rdb ?_
  rintro ⟨q, _⟩ _ ⟨⟨q0, hq⟩, rfl⟩
  simp only at hq
  subst hq
  refine app1 (ca1 (xnew fun b => ?_))
  refine xiff rfl ?_
  refine xnone SL (xnone BL (xadd (A := Each (Ar U8) [] []) trivial ?_))
  refine xfold4 (Q := RefObj (some ⟨b, 0, none⟩) []) 3 2 1 0 (fun g hg => ⟨by simp, by simp, b, ⟨none, 0, 0⟩, ⟨none, 0, 0⟩, [], rfl, hg⟩) (xfront 1 ?_)
  refine xloop1 (fun n i As => ∃ (k : Nat) (L : Lm), i = (k : Int) ∧ n = ops.length - k ∧ k ≤ ops.length ∧ As = [LineObj (some ⟨q0, 0, none⟩) L, RefObj (some ⟨b, 0, none⟩) L]) ops.length ⟨0, [], rfl, rfl, by omega, rfl⟩ ?_
  rintro n _ _ K ⟨k, L, rfl, rfl, hk, rfl⟩ hK
  refine xif_dec (fun h => ?_) (fun h => ?_)
  · have hm := List.getElem?_eq_getElem (l := ops) (i := k) (by omega)
    have ho := List.getElem?_eq_getElem (l := os) (i := k) (by omega)
    have hmb := hob _ (List.getElem_mem (l := ops) (n := k) (by omega))
    obtain ⟨e1, e2, e3, _, _, hbit, hdata⟩ := h3 k _ _ ho hm
    generalize ops[k] = m at *
    generalize os[k] = o at *
    obtain ⟨o1, o2, o3, o4⟩ := o
    simp only at e1 e2 e3 hdata
    subst e1 e2 e3
    have fd : Fro B o4 U8 m.data := ⟨hdata⟩
    generalize hM : stepL L m = M
    refine xdraw (xjoin ?_)
    refine xidxn (h1 := by omega) (h := fun _ _ => ?_)
    refine xgetE ho (h := ?_)
    refine xgetEj ho (h := ?_)
    refine xgetEj ho (h := ?_)
    refine xgetEj ho (h := ?_)
    dsimp only
    refine xcall2 0 0 (both_spec (some ⟨q0, 0, none⟩) (some ⟨b, 0, none⟩) L o4 m hbit hmb) rdb ?_
    rw [hM]
    rintro ⟨c, _⟩ _ ⟨hc, rfl⟩
    obtain rfl : c = true := hc
    refine app2 (ca1 (xiff rfl ?_))
    refine xref 1 fun h64 hb b' s1 t1 rs hp hl => ?_
    obtain rfl : b = b' := by simpa using hp
    refine xlen s1 fun hs1 _ => ?_
    refine xnil (xget (h := ?_))
    refine xcall1 4 (Len_spec (some ⟨q0, 0, none⟩) M) rdb ?_
    rintro ⟨r, _⟩ _ ⟨hr1, rfl⟩
    obtain rfl : r = (M.length : Int) := hr1
    refine app1 (ca1 (xchk (h := xiff (by rw [← hs1, hl]; simp) ?_)))
    refine xcall1 0 (All_spec (some ⟨q0, 0, none⟩) M) rdb ?_
    rintro ⟨s2, _⟩ _ rfl
    refine app2 (ca1 ?_)
    refine xcall1 0 (All_spec (some ⟨q0, 0, none⟩) M) rdb ?_
    rintro ⟨s3, _⟩ _ rfl
    refine app2 (ca1 ?_)
    have hb1 : ∀ x ∈ (M.map fun x : List UInt8 × Bool => x.1), x.length ≤ 140737488355328 := fun x hx => by
      obtain ⟨l, hl, rfl⟩ := List.mem_map.1 hx
      have := hb l hl; omega
    have hlen : (M.map fun x : List UInt8 × Bool => x.1).length ≤ 140737488355328 := by rw [List.length_map]; omega
    refine xrows 2 fun rs2 hl2 => ?_
    refine xrows 3 fun rs3 hl3 => ?_
    -- Ar SL s3 rs3, Each rs3, Ar SL s2 rs2, Each rs2, LineObj, Blk b, Ar SL s1 rs, Ar BL, Each rs
    refine xnil (xget (h := ?_))
    refine xcall0 (SameRows_spec s2 s1 (M.map fun x : List UInt8 × Bool => x.1) (M.map fun x : List UInt8 × Bool => x.1) hlen hb1) (rds_and (rds_rows 2 2) (rds_rows 6 7)) ?_
    rintro ⟨c, _⟩ _ ⟨hc, rfl⟩
    obtain rfl : c = true := by simpa using hc
    refine app0 (ca1 (xjoin (xiff rfl (xnil (xget (h := ?_))))))
    refine xcall0 (SameRows_spec s3 s1 (M.map fun x : List UInt8 × Bool => x.1) (M.map fun x : List UInt8 × Bool => x.1) hlen hb1) (rds_and (rds_rows 0 0) (rds_rows 6 7)) ?_
    rintro ⟨c, _⟩ _ ⟨hc, rfl⟩
    obtain rfl : c = true := by simpa using hc
    refine app0 (ca1 (xiff rfl ?_))
    refine xlen s2 fun hn2 _ => ?_
    generalize hRw : (M.map fun x : List UInt8 × Bool => x.1) = Rw at *
    have hRl : Rw.length = M.length := by rw [← hRw, List.length_map]
    refine xfront 3 ?_
    refine xloop1 (fun n j As => ∃ (c : Nat) (cs : List Sl), j = (c : Int) ∧ n = rs2.length - c ∧ c ≤ rs2.length ∧ cs.length = rs2.length ∧ (∀ i, c ≤ i → cs[i]? = rs2[i]?) ∧ As = [Each (Ar U8) (rs2.drop c) (Rw.drop c), Ar SL s3 rs3, Each (Ar U8) rs3 Rw, Ar SL s2 cs, LineObj (some ⟨q0, 0, none⟩) M, Blk b [s1.v, t1.v], Ar SL s1 rs, Ar BL t1 (M.map fun x : List UInt8 × Bool => x.2), Each (Ar U8) rs Rw]) rs2.length ⟨0, rs2, rfl, rfl, by omega, rfl, fun _ _ => rfl, rfl⟩ ?_
    rintro n _ _ K' ⟨c, cs, rfl, rfl, hc, hcl, hcs, rfl⟩ hK'
    refine xif_dec (fun h => ?_) (fun h => ?_)
    · have hcl2 : c < rs2.length := by omega
      have hcR : c < Rw.length := by omega
      have g := (hcs c (Nat.le_refl _)).trans (List.getElem?_eq_getElem hcl2)
      refine xidxn (h1 := by omega) (h := fun _ _ => ?_)
      refine xgetE g (h := ?_)
      rw [List.drop_eq_getElem_cons hcl2, List.drop_eq_getElem_cons hcR]
      refine xunf 0 [Ar U8 rs2[c] Rw[c], Each (Ar U8) (rs2.drop (c + 1)) (Rw.drop (c + 1))] (fun g hg => hg) (app2 ?_)
      refine xcall1 0 (SpoilBytes_spec rs2[c] Rw[c]) rdb ?_
      rintro _ _ rfl
      refine app0 (ca0 ?_)
      refine xidxn (h1 := by omega) (h := fun _ _ => ?_)
      refine xsetE ⟨none, 0, 0⟩ g (hv := rfl) (h := ?_)
      rw [wrap_succ c (by omega)]
      refine hK' (rs2.length - (c + 1)) _ _ (by omega) ⟨c + 1, cs.set c ⟨none, 0, 0⟩, rfl, rfl, by omega, by simpa using hcl, fun i hi => ?_, rfl⟩
      rw [List.getElem?_set_ne (by omega)]
      exact hcs i (by omega)
    · refine xdrop 0 (xdrop 2 (xdraw (xjoin (xnil (xget (h := ?_))))))
      refine xcall0 (SameRows_spec s3 s1 Rw Rw hlen hb1) (rds_and (rds_rows 0 0) (rds_rows 4 5)) ?_
      rintro ⟨e, _⟩ _ ⟨he, rfl⟩
      obtain rfl : e = true := by simpa using he
      refine app0 (ca1 (xiff rfl (xnil (xget (h := ?_)))))
      refine xcall1 2 (All_spec (some ⟨q0, 0, none⟩) M) rdb ?_
      rintro ⟨s9, _⟩ _ rfl
      refine app2 (ca1 (xchk (h := ?_)))
      rw [hRw]
      refine xrows 1 fun rs9 hl9 => ?_
      refine xcall0 (SameRows_spec s9 s1 Rw Rw hlen hb1) (rds_and (rds_rows 0 0) (rds_rows 6 7)) ?_
      rintro ⟨e, _⟩ _ ⟨he, rfl⟩
      obtain rfl : e = true := by simpa using he
      refine app0 (ca1 (xiff rfl ?_))
      subst hRw
      rw [wrap_succ k (by omega)]
      refine xdrop 0 (xdrop 0 (xdrop 1 (xdrop 1 ?_)))
      refine xref_back 1 1 1 1 h64 hb (xfront 1 ?_)
      exact hK (ops.length - (k + 1)) _ _ (by omega) ⟨k + 1, M, rfl, rfl, by omega, rfl⟩
  · refine xkeep (l := []) ?_
    refine xcall0 works_spec rdb ?_
    rintro ⟨c, _⟩ _ ⟨h, rfl⟩
    obtain rfl : c = true := h
    exact app0 (ca1 (xret ⟨rfl, rfl⟩))

end Go.Cx
