/-
  LineTurns: the walk.
-/
import Derived.Test.YtdbdnlahimbcaaaU
namespace Go.Cx
open Go Go.Cf
set_option linter.unusedVariables false

theorem long_false {ops : List MOp} (h : longB ops = false) : ops.length ≤ 300 ∧ ∀ m ∈ ops, m.data.length ≤ 4096 := by
  simp only [longB, Bool.or_eq_false_iff, decide_eq_false_iff_not] at h
  refine ⟨by omega, fun m hm => ?_⟩
  have := List.any_eq_false.1 h.2 m hm
  simp at this; omega

theorem pick_use (z n : Int) (h : 1 ≤ n → 0 ≤ z ∧ z < n) (hn : 1 ≤ n) : 0 ≤ z ∧ z < n := h hn

theorem LineTurns_spec (s : Sl) (ops : List MOp) (i bit more : Int) (hi : i64 i) (hbit : i64 bit) (hmore : i64 more) :
    Ct Pr F_law20_LineTurns [s.v, .int .i64 i, .int .i64 bit, .int .i64 more] .one [.bool] [] (ROps s ops) (fun t Bs => t.1 = true ∧ Bs = []) := by
  refine spec1 c_law20_LineTurns fun B hr => ?_
  have fo : FroP B (ROps s ops) := ⟨hr, fun _ _ h s => h.mono s⟩
  unfold law20_LineTurns
  refine xcall0 works_spec rdb ?_
  rintro ⟨c, _⟩ _ ⟨h, rfl⟩
  obtain rfl : c = true := h
  refine app0 (ca1 (xiff rfl ?_))
  refine xcall0 (long_spec s ops) rdb ?_
  rintro ⟨c, _⟩ _ ⟨hlong, rfl⟩
  simp only at hlong
  refine app0 (ca1 (xif (fun h => xret ⟨rfl, rfl⟩) (fun h => ?_)))
  obtain ⟨hol, hob⟩ := long_false (hlong.symm.trans h)
  refine xcall0 New_spec rdb ?_
  rintro ⟨q, _⟩ _ ⟨⟨q0, hq⟩, rfl⟩
  simp only at hq
  subst hq
  refine app1 (ca1 ?_)
  refine xcall1 0 (run_spec (some ⟨q0, 0, none⟩) [] s ops hob hol) rdb ?_
  rintro _ _ rfl
  refine app1 (ca0 ?_)
  generalize ops.foldl stepL [] = M
  refine xfact 0 (fun g hg => And.intro hg.1 hg.2.1) fun hM => ?_
  obtain ⟨hM64, hMb⟩ := hM
  refine xcall1 0 (All_spec (some ⟨q0, 0, none⟩) M) rdb ?_
  rintro ⟨s0, _⟩ _ rfl
  refine app2 (ca1 ?_)
  refine xcall1 0 (Turn_spec (some ⟨q0, 0, none⟩) M i bit hbit.1 hbit.2) rdb ?_
  rintro ⟨r, _⟩ _ ⟨hr, rfl⟩
  simp only at hr
  refine app1 (ca1 ?_)
  refine xcall1 0 (All_spec (some ⟨q0, 0, none⟩) (turnL M i bit).1) rdb ?_
  rintro ⟨s1, _⟩ _ rfl
  refine app2 (ca1 ?_)
  refine xrows 2 fun rs0 h0 => ?_
  refine xrows 3 fun rs1 h1 => ?_
  refine xlen s0 fun hn0 _ => ?_
  refine xlen s1 fun hn1 _ => ?_
  rw [List.length_map] at h0 h1
  have hb0 : ∀ x ∈ M.map (·.1), x.length ≤ 140737488355328 := fun x hx => by
    obtain ⟨l, hl, rfl⟩ := List.mem_map.1 hx
    have := hMb l hl; omega
  refine xif (fun h => ?_) (fun h => ?_)
  · have hr0 : (turnL M i bit).2 ≠ 0 := by rw [← hr]; simpa using h
    rw [turnL_err hr0]
    refine xcall0 (SameRows_spec s0 s1 (M.map fun x : List UInt8 × Bool => x.1) (M.map fun x : List UInt8 × Bool => x.1) (by rw [List.length_map]; omega) hb0) (rds_and (rds_rows 2 2) (rds_rows 0 0)) ?_
    rintro ⟨c, _⟩ _ ⟨hc, rfl⟩
    obtain rfl : c = true := by simpa using hc
    refine app0 (ca1 (xjoin (xift rfl ?_)))
    refine xkeep (l := []) (xret ⟨?_, rfl⟩)
    have e1 : (r == 6) = !(inL M i) := by
      cases hin : inL M i with
      | false =>
        have := (turnL_six (bit := bit)).2 hin
        rw [hr, this]; rfl
      | true =>
        have : r ≠ 6 := fun e => by
          have := turnL_six.1 (hr.symm.trans e)
          rw [hin] at this; cases this
        simpa using this
    rw [e1, ← hn0, h0]
    show ((!(inL M i)) == (decide (i < 0) || decide (i ≥ (M.length : Int)))) = true
    unfold inL
    by_cases ha : i < 0 <;> by_cases hb : i < M.length
    · have : ¬ i ≥ 0 := by omega
      simp [ha, this]
    · have : ¬ i ≥ 0 := by omega
      simp [ha, this]
    · have : i ≥ 0 := by omega
      have : ¬ i ≥ (M.length : Int) := by omega
      simp [*]
    · have : i ≥ (M.length : Int) := by omega
      simp [ha, hb, this]
  have hr0 : (turnL M i bit).2 = 0 := by rw [← hr]; simpa using h
  obtain ⟨k, hk, rfl, hb1, hb2, hM'⟩ := turnL_ok hr0
  rw [hM'] at h1 ⊢
  rw [List.length_set] at h1
  have g0 := List.getElem?_eq_getElem (l := rs0) (i := k) (by omega)
  have g1 := List.getElem?_eq_getElem (l := rs1) (i := k) (by omega)
  have m0 : (M.map (·.1))[k]? = some M[k].1 := by rw [List.getElem?_map, List.getElem?_eq_getElem hk]; rfl
  have m1 : ((M.set k (flipB M[k].1 bit.toNat, true)).map (·.1))[k]? = some (flipB M[k].1 bit.toNat) := by
    rw [List.getElem?_map, List.getElem?_set_self hk]; rfl
  have hMk := hMb _ (List.getElem_mem hk)
  refine xdraw (xjoin (xiff (by rw [← hn0, ← hn1, h0, h1]; simp) ?_))
  refine xif_dec (fun h => absurd h (by omega)) (fun _ => xif_dec (fun h => absurd h (by omega)) (fun _ => ?_))
  refine xidxn (h1 := by omega) (h := fun _ _ => ?_)
  refine xgetE g0 (h := ?_)
  refine xidxn (h1 := by omega) (h := fun _ _ => ?_)
  refine xgetE g1 (h := ?_)
  refine xcall0 (apart_spec rs0[k] rs1[k] M[k].1 (flipB M[k].1 bit.toNat) (by omega)) (rds_and (rds_row 3 g0 m0) (rds_row 1 g1 m1)) ?_
  rintro ⟨e, _⟩ _ ⟨he, rfl⟩
  rw [apart_flip _ _ hb2] at he
  obtain rfl : e = 1 := he
  refine app0 (ca1 (xiff rfl ?_))
  refine xloop1 (fun n j As => ∃ c : Nat, j = (c : Int) ∧ n = M.length - c ∧ c ≤ M.length ∧ As = [Ar SL s1 rs1, Each (Ar U8) rs1 ((M.set k (flipB M[k].1 bit.toNat, true)).map fun x : List UInt8 × Bool => x.1), Ar SL s0 rs0, Each (Ar U8) rs0 (M.map fun x : List UInt8 × Bool => x.1), LineObj (some ⟨q0, 0, none⟩) (M.set k (flipB M[k].1 bit.toNat, true))]) M.length ⟨0, rfl, rfl, by omega, rfl⟩ ?_
  rintro n _ _ K ⟨c, rfl, rfl, hc, rfl⟩ hK
  refine xif_dec (fun h => ?_) (fun h => ?_)
  · have hcM : c < M.length := by omega
    have hnext : Ent B [Ar SL s1 rs1, Each (Ar U8) rs1 ((M.set k (flipB M[k].1 bit.toNat, true)).map fun x : List UInt8 × Bool => x.1), Ar SL s0 rs0, Each (Ar U8) rs0 (M.map fun x : List UInt8 × Bool => x.1), LineObj (some ⟨q0, 0, none⟩) (M.set k (flipB M[k].1 bit.toNat, true))] (K (IntKind.i64.wrap ((c : Int) + 1))) := by
      rw [wrap_succ c (by omega)]
      exact hK (M.length - (c + 1)) _ _ (by omega) ⟨c + 1, rfl, rfl, by omega, rfl⟩
    refine xdraw (xjoin (xif (fun hne => ?_) (fun _ => xiff rfl hnext)))
    have hck : c ≠ k := by
      have h7 : ¬ (c : Int) = k := by simpa using hne
      omega
    have g0' := List.getElem?_eq_getElem (l := rs0) (i := c) (by omega)
    have g1' := List.getElem?_eq_getElem (l := rs1) (i := c) (by omega)
    have m0' : (M.map fun x : List UInt8 × Bool => x.1)[c]? = some M[c].1 := by rw [List.getElem?_map, List.getElem?_eq_getElem hcM]; rfl
    have m1' : ((M.set k (flipB M[k].1 bit.toNat, true)).map fun x : List UInt8 × Bool => x.1)[c]? = some M[c].1 := by
      rw [List.getElem?_map, List.getElem?_set_ne (Ne.symm hck), List.getElem?_eq_getElem hcM]; rfl
    have hMc := hMb _ (List.getElem_mem hcM)
    refine xidxn (h1 := by omega) (h := fun _ _ => ?_)
    refine xgetE g0' (h := ?_)
    refine xidxn (h1 := by omega) (h := fun _ _ => ?_)
    refine xgetE g1' (h := ?_)
    refine xcall0 (SameBytes_spec rs0[c] rs1[c] M[c].1 M[c].1 (by omega)) (rds_and (rds_row 3 g0' m0') (rds_row 1 g1' m1')) ?_
    rintro ⟨e, _⟩ _ ⟨he, rfl⟩
    obtain rfl : e = true := by simpa using he
    exact app0 (ca1 (xiff rfl hnext))
  have hflen : (flipB M[k].1 bit.toNat).length = M[k].1.length := by simp [flipB]
  refine xidxn (h1 := by omega) (h := fun _ _ => ?_)
  refine xgetE g1 (h := ?_)
  refine xfact 1 (fun g hg => (each_read (S := RAr U8) (fun _ _ _ _ h s => h.mono s) (fun _ _ _ h => h.read) hg g1 m1).1) fun hrl => ?_
  rw [wrap_id (8 * (rs1[k].n : Int)) (by omega) (by omega)]
  refine xcall0 (Pick_spec more (8 * (rs1[k].n : Int)) hmore ⟨by omega, by omega⟩) rdb ?_
  rintro ⟨r5, _⟩ _ ⟨hp, rfl⟩
  have hp' := pick_use r5 (8 * (rs1[k].n : Int)) hp (by omega)
  refine app0 (ca1 ?_)
  refine xcall1 4 (Turn_spec (some ⟨q0, 0, none⟩) (M.set k (flipB M[k].1 bit.toNat, true)) k r5 (by omega) (by omega)) rdb ?_
  rw [turnL_twice hk hp'.1 (by omega)]
  rintro ⟨r6, _⟩ _ ⟨h6, rfl⟩
  obtain rfl : r6 = 7 := h6
  refine app1 (ca1 (xjoin (xift rfl ?_)))
  refine xcall1 0 (All_spec (some ⟨q0, 0, none⟩) (M.set k (flipB M[k].1 bit.toNat, true))) rdb ?_
  rintro ⟨s13, _⟩ _ rfl
  refine app2 (ca1 ?_)
  refine xrows 1 fun rs13 h13 => ?_
  have hb1' : ∀ x ∈ (M.set k (flipB M[k].1 bit.toNat, true)).map (fun x : List UInt8 × Bool => x.1), x.length ≤ 140737488355328 := fun x hx => by
    obtain ⟨l, hl, rfl⟩ := List.mem_map.1 hx
    rcases List.mem_or_eq_of_mem_set hl with h | h
    · have := hMb l h; omega
    · subst h; simp only; omega
  refine xcall0 (SameRows_spec s1 s13 ((M.set k (flipB M[k].1 bit.toNat, true)).map fun x : List UInt8 × Bool => x.1) ((M.set k (flipB M[k].1 bit.toNat, true)).map fun x : List UInt8 × Bool => x.1) (by rw [List.length_map, List.length_set]; omega) hb1') (rds_and (rds_rows 3 3) (rds_rows 0 0)) ?_
  rintro ⟨c, _⟩ _ ⟨hc, rfl⟩
  obtain rfl : c = true := by simpa using hc
  exact app0 (ca1 (xkeep (l := []) (xret ⟨rfl, rfl⟩)))

end Go.Cx
