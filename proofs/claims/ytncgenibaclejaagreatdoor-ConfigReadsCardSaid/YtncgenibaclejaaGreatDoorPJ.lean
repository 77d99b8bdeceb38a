/-
  A tag's line, as the document reads it.
-/
import Derived.Test.YtncgenibaclejaaGreatDoorPI
namespace Go.Cx
open Go Go.Cf
set_option linter.unusedVariables false
set_option maxRecDepth 100000
variable {B : Base} {As F : List HP} {α : Type}

theorem xword {s : Sl} {ws : List (List UInt8)} {k : Int} (j : Nat) {K : ByteArray → WP} [f : Fro B s Cf.ST (ws.map BA)] (hk : k = (j : Int)) (hi : j < ws.length) (h : Ent B As (K (BA (wd ws j)))) : Ent B As (XIdx s.p s.n k 1 fun a => XGet .str a fun (t : ByteArray) => K t) := by
  subst hk
  refine xidxn (E := Cf.ST) (xs := ws.map BA) (s := s) (h1 := by rw [List.length_map]; exact hi) (h := fun x hx => ?_)
  have hwx : (ws.map BA)[j]? = some (BA (wd ws j)) := by rw [List.getElem?_map, wd_get hi]; rfl
  obtain rfl : x = BA (wd ws j) := by rw [hwx] at hx; exact (Option.some.inj hx).symm
  exact xgetE (E := Cf.ST) (xs := ws.map BA) hx (h := h)
theorem xelI {s : Sl} {xs : List Int} {k : Int} (j : Nat) (x : Int) {K : Int → WP} [r : RdA B As s I64 xs] (hx : xs[j]? = some x) (hk : k = (j : Int) := by rfl) (h : Ent B As (K x)) : Ent B As (XIdx s.p s.n k 1 fun a => XGet (.int .i64) a fun (t : Int) => K t) := by
  subst hk
  refine xidxn (E := I64) (xs := xs) (s := s) (h1 := (List.getElem?_eq_some_iff.1 hx).1) (h := fun y hy => ?_)
  obtain rfl : y = x := by rw [hx] at hy; exact (Option.some.inj hy).symm
  exact xgetE (E := I64) (xs := xs) hy (h := h)

theorem kindV_range (w : List UInt8) : 0 ≤ kindV w ∧ kindV w ≤ 4 := by
  unfold kindV
  repeat' split
  all_goals decide
theorem place_range (w : List UInt8) : placeI flagsW w ≤ 7 := by
  unfold placeI
  rcases placeFrom_get (w := w) (l := flagsW) (i := 0) with h | ⟨k, h1, h2⟩
  · omega
  · have := (List.getElem?_eq_some_iff.1 h2).1
    simp [flagsW] at this
    omega
theorem wrap_flag (r : Int) (h0 : 0 ≤ r) (h7 : r ≤ 7) : IntKind.i64.wrap (r.tdiv 2) = r.tdiv 2 ∧ IntKind.i64.wrap (r.tdiv 4) = r.tdiv 4 := by
  have : r = 0 ∨ r = 1 ∨ r = 2 ∨ r = 3 ∨ r = 4 ∨ r = 5 ∨ r = 6 ∨ r = 7 := by omega
  rcases this with rfl | rfl | rfl | rfl | rfl | rfl | rfl | rfl <;> decide
theorem tagM_no {ws : List (List UInt8)} (h : ¬ (ws.length = 16 ∧ wd ws 0 = tagWd ∧ wd ws 1 ≠ [])) : tagM ws = none := by
  cases e : tagM ws with
  | none => rfl
  | some t =>
    obtain ⟨⟨h1, h2, h3, _, _⟩, _⟩ := tagM_some.1 e
    exact absurd ⟨h1, h2, h3⟩ h

def nineW (ws : List (List UInt8)) : List (List UInt8) := [wd ws 2, wd ws 4, wd ws 5, wd ws 7, wd ws 8, wd ws 9, wd ws 10, wd ws 11, wd ws 14]

set_option maxHeartbeats 4000000 in
theorem rtag_spec (s : Sl) (ws : List (List UInt8)) (hm : ∀ w ∈ ws, w.length ≤ 1048576) : Ct Pr F_ref27_tag [s.v] (.tup [some 19, none]) [.str, .int .i64, .int .i64, .int .i64, .int .i64, .bool, .bool, .bool, .int .i64, .int .i64, .int .i64, .int .i64, .int .i64, .bool, .bool, .bool, .int .i64, .int .i64, .int .i64, .bool] [] (RAr Cf.ST s (ws.map BA))
    (fun r Bs => r.2.2.2.2.2.2.2.2.2.2.2.2.2.2.2.2.2.2.2.1 = (tagM ws).isSome ∧ (∀ t, tagM ws = some t → r = (t.name, t.unit, t.kind, t.addr, t.every, t.wide, t.sgn, t.swap, t.mul, t.div, t.add, t.dead, t.quiet, t.ulow, t.uhigh, t.latch, t.low, t.high, t.hyst, true, ())) ∧ Bs = []) := by
  refine spec20 c_ref27_tag fun B hr => ?_
  haveI : Fro B s Cf.ST (ws.map BA) := ⟨hr⟩
  have hs : (ws.map BA).length = s.n := hr.1
  rw [List.length_map] at hs
  unfold ref27_tag
  have wl : ∀ i, (wd ws i).length ≤ 4611686018427387904 := fun i => by have := wd_len hm i; omega
  refine xnew fun b => ?_
  have hn16 : (((s.n : Int)) != 16) = !(ws.length == 16) := by rw [← hs, Bool.eq_iff_iff]; simp; omega
  rw [hn16]
  have e0 := BA_eqv (wd ws 0) [116, 97, 103]
  refine xjoin1 (fun (c : Bool) As' => As' = [Blk b [.string ByteArray.empty, .int .i64 0, .int .i64 0, .int .i64 0, .int .i64 0, .bool false, .bool false, .bool false, .int .i64 0, .int .i64 0, .int .i64 0, .int .i64 0, .int .i64 0, .bool false, .bool false, .bool false, .int .i64 0, .int .i64 0, .int .i64 0]] ∧ c = !(ws.length == 16 && wd ws 0 == tagWd)) (fun K hK => ?_) ?_
  · refine xif (fun h => hK _ _ ⟨rfl, ?_⟩) (fun h => ?_)
    · have : (ws.length == 16) = false := by simpa using h
      rw [this]; rfl
    · have h : ws.length = 16 := by simpa using h
      refine xword 0 rfl (by omega) (hK _ _ ⟨rfl, ?_⟩)
      rw [h]
      exact congrArg (! ·) e0
  rintro c As2 ⟨rfl, rfl⟩
  refine xjoin1 (fun (c : Bool) As' => As' = [Blk b [.string ByteArray.empty, .int .i64 0, .int .i64 0, .int .i64 0, .int .i64 0, .bool false, .bool false, .bool false, .int .i64 0, .int .i64 0, .int .i64 0, .int .i64 0, .int .i64 0, .bool false, .bool false, .bool false, .int .i64 0, .int .i64 0, .int .i64 0]] ∧ c = !(ws.length == 16 && wd ws 0 == tagWd && !(wd ws 1 == []))) (fun K hK => ?_) ?_
  · refine xif (fun h => hK _ _ ⟨rfl, ?_⟩) (fun h => ?_)
    · have : (ws.length == 16 && wd ws 0 == tagWd) = false := by rw [Bool.not_eq_true'] at h; exact h
      rw [this]; rfl
    · have h : (ws.length == 16 && wd ws 0 == tagWd) = true := by rw [Bool.not_eq_false'] at h; exact h
      have hl : ws.length = 16 := by
        have := (Bool.and_eq_true _ _ ▸ h).1
        simpa using this
      refine xword 1 rfl (by omega) (hK _ _ ⟨rfl, ?_⟩)
      rw [h, BA_size, Bool.true_and, Bool.not_not, Bool.eq_iff_iff]
      simp only [beq_iff_eq]
      constructor
      · intro e; exact List.length_eq_zero_iff.1 (by omega)
      · intro e; rw [e]; rfl
  rintro c As2 ⟨rfl, rfl⟩
  refine xif (fun h => ?_) (fun h => ?_)
  · have hnone : tagM ws = none := tagM_no fun ⟨h1, h2, h3⟩ => by
      rw [h1, h2] at h
      have h3 : (wd ws 1 == []) = false := beq_eq_false_iff_ne.2 h3
      rw [h3] at h
      cases h
    iterate 19 (refine xset (h := ?_))
    iterate 19 (refine xget (h := ?_))
    refine xkeep (l := []) (xret ⟨?_, fun t ht => ?_, rfl⟩)
    · rw [hnone]; rfl
    · rw [hnone] at ht; cases ht
  have hh : ws.length = 16 ∧ wd ws 0 = tagWd ∧ wd ws 1 ≠ [] := by
    simp only [Bool.not_eq_false', Bool.and_eq_true, beq_iff_eq, Bool.not_eq_true', beq_eq_false_iff_ne, ne_eq] at h
    exact ⟨h.1.1, h.1.2, h.2⟩
  obtain ⟨hl, hw0, hw1⟩ := hh
  have h3 : (ws.map BA)[3]? = some (BA (wd ws 3)) := by rw [List.getElem?_map, wd_get (by omega)]; rfl
  have h6 : (ws.map BA)[6]? = some (BA (wd ws 6)) := by rw [List.getElem?_map, wd_get (by omega)]; rfl
  refine xdraw ?_
  refine xidx (E := Cf.ST) (xs := ws.map BA) (s := s) (h0 := by decide) (h1 := by rw [List.length_map, hl]; decide) (h := fun x hx => ?_)
  obtain rfl : x = BA (wd ws 3) := by rw [show (3 : Int).toNat = 3 from rfl, h3] at hx; exact (Option.some.inj hx).symm
  refine xgetE (E := Cf.ST) (xs := ws.map BA) hx (h := ?_)
  have hx3 := hx
  refine xidx (E := Cf.ST) (xs := ws.map BA) (s := s) (h0 := by decide) (h1 := by rw [List.length_map, hl]; decide) (h := fun x hx => ?_)
  obtain rfl : x = BA (wd ws 6) := by rw [show (6 : Int).toNat = 6 from rfl, h6] at hx; exact (Option.some.inj hx).symm
  refine xgetE (E := Cf.ST) (xs := ws.map BA) hx (h := ?_)
  have hx6 := hx
  refine xcall0 kinds_spec rdb ?_
  rintro ⟨sk, _⟩ _ rfl
  refine app1 (ca1 ?_)
  rw [show kindsL = kindsW.map BA from rfl]
  refine xchkE (E := Cf.ST) (xs := ws.map BA) hx6 (h := xchkE (E := Cf.ST) (xs := ws.map BA) hx3 (h := ?_))
  refine xcall0 (place_spec sk kindsW (wd ws 3) (by decide)) rdb ?_
  rintro ⟨r, _⟩ _ ⟨hr0, rfl⟩
  obtain rfl : r = placeI kindsW (wd ws 3) := hr0
  refine app0 (ca1 ?_)
  refine xchkE (E := Cf.ST) (xs := ws.map BA) hx6 (h := ?_)
  refine xdrop 0 ?_
  refine xcall0 flags_spec rdb ?_
  rintro ⟨sk2, _⟩ _ rfl
  refine app1 (ca1 ?_)
  rw [show flagsL = flagsW.map BA from rfl]
  refine xchkE (E := Cf.ST) (xs := ws.map BA) hx6 (h := ?_)
  refine xcall0 (place_spec sk2 flagsW (wd ws 6) (by decide)) rdb ?_
  rintro ⟨r1, _⟩ _ ⟨hr1, rfl⟩
  obtain rfl : r1 = placeI flagsW (wd ws 6) := hr1
  refine app0 (ca1 ?_)
  refine xdrop 0 ?_
  refine xdraw ?_
  refine xword 2 rfl (by omega) ?_
  refine xword 4 rfl (by omega) ?_
  refine xword 5 rfl (by omega) ?_
  refine xword 7 rfl (by omega) ?_
  refine xword 8 rfl (by omega) ?_
  refine xword 9 rfl (by omega) ?_
  refine xword 10 rfl (by omega) ?_
  refine xword 11 rfl (by omega) ?_
  refine xword 14 rfl (by omega) ?_
  refine xnew fun b1 => ?_
  refine xfold1 (Q := Ar Cf.ST ⟨some ⟨b1, 0, none⟩, 9, 9⟩ ((nineW ws).map BA)) 0 (fun g hg => ⟨[], blk_ar (E := Cf.ST) ((nineW ws).map BA) 9 rfl rfl hg⟩) ?_
  have nl : ∀ w ∈ nineW ws, w.length ≤ 4611686018427387904 := by
    intro w hw
    simp only [nineW, List.mem_cons, List.not_mem_nil, or_false] at hw
    rcases hw with rfl | rfl | rfl | rfl | rfl | rfl | rfl | rfl | rfl <;> exact wl _
  refine xcall0 (numbers_spec ⟨some ⟨b1, 0, none⟩, 9, 9⟩ (nineW ws) nl (show 9 ≤ 1000 by decide)) rdb ?_
  rintro ⟨s2, c2, _⟩ _ (⟨hnum, hc2, rfl⟩ | ⟨vs, hvs, hc2, rfl⟩)
  · obtain rfl : c2 = false := hc2
    have hnone : tagM ws = none := by
      cases e : tagM ws with
      | none => rfl
      | some t =>
        obtain ⟨w, hw, hwn⟩ := numsI_none hnum
        obtain ⟨_, g1, g2, g3, g4, g5, g6, g7, g8, g9, g10, g11, g12, _⟩ := tagM_some.1 e
        simp only [nineW, List.mem_cons, List.not_mem_nil, or_false] at hw
        rcases hw with rfl | rfl | rfl | rfl | rfl | rfl | rfl | rfl | rfl
        all_goals simp_all
    refine app0 (ca2 ?_)
    refine xword 12 rfl (by omega) ?_
    refine xcall0 (bound27_spec (wd ws 12) (wl _)) rdb ?_
    rintro ⟨r2, c3, c4, _⟩ _ ⟨_, _, rfl⟩
    refine app0 (ca3 ?_)
    refine xword 13 rfl (by omega) ?_
    refine xcall0 (bound27_spec (wd ws 13) (wl _)) rdb ?_
    rintro ⟨r3, c5, c6, _⟩ _ ⟨_, _, rfl⟩
    refine app0 (ca3 ?_)
    refine xuse [Blk b [.string ByteArray.empty, .int .i64 0, .int .i64 0, .int .i64 0, .int .i64 0, .bool false, .bool false, .bool false, .int .i64 0, .int .i64 0, .int .i64 0, .int .i64 0, .int .i64 0, .bool false, .bool false, .bool false, .int .i64 0, .int .i64 0, .int .i64 0]] ?_
    refine xjoin (xift (by simp) ?_)
    refine xift rfl ?_
    iterate 19 (refine xset (h := ?_))
    iterate 19 (refine xget (h := ?_))
    refine xkeep (l := []) (xret ⟨?_, fun t ht => ?_, rfl⟩)
    · rw [hnone]; rfl
    · rw [hnone] at ht; cases ht
  obtain rfl : c2 = true := hc2
  obtain ⟨hvl, hvi⟩ := numsI_some hvs
  refine app1 (ca2 ?_)
  refine xword 12 rfl (by omega) ?_
  refine xcall0 (bound27_spec (wd ws 12) (wl _)) rdb ?_
  rintro ⟨r2, c3, c4, _⟩ _ ⟨hb1, hb2, rfl⟩
  obtain rfl : c4 = (boundV (wd ws 12)).isSome := hb1
  refine app0 (ca3 ?_)
  refine xword 13 rfl (by omega) ?_
  refine xcall0 (bound27_spec (wd ws 13) (wl _)) rdb ?_
  rintro ⟨r3, c5, c6, _⟩ _ ⟨hb3, hb4, rfl⟩
  obtain rfl : c6 = (boundV (wd ws 13)).isSome := hb3
  refine app0 (ca3 ?_)
  refine xuse [Ar I64 s2 vs, Blk b [.string ByteArray.empty, .int .i64 0, .int .i64 0, .int .i64 0, .int .i64 0, .bool false, .bool false, .bool false, .int .i64 0, .int .i64 0, .int .i64 0, .int .i64 0, .int .i64 0, .bool false, .bool false, .bool false, .int .i64 0, .int .i64 0, .int .i64 0]] ?_
  have el := BA_eqv (wd ws 15) [108, 97, 116, 99, 104]
  have ed := BA_eqv (wd ws 15) [45]
  refine xjoin1 (fun (c : Bool) As' => As' = [Ar I64 s2 vs, Blk b [.string ByteArray.empty, .int .i64 0, .int .i64 0, .int .i64 0, .int .i64 0, .bool false, .bool false, .bool false, .int .i64 0, .int .i64 0, .int .i64 0, .int .i64 0, .int .i64 0, .bool false, .bool false, .bool false, .int .i64 0, .int .i64 0, .int .i64 0]] ∧ c = !(decide (0 ≤ placeI kindsW (wd ws 3)) && decide (0 ≤ placeI flagsW (wd ws 6)) && (boundV (wd ws 12)).isSome && (boundV (wd ws 13)).isSome && (wd ws 15 == latchWd || wd ws 15 == [45]))) (fun K hK => ?_) ?_
  · refine xif (fun h => hK _ _ ⟨rfl, ?_⟩) (fun h => ?_)
    · have : (decide (0 ≤ placeI kindsW (wd ws 3)) && decide (0 ≤ placeI flagsW (wd ws 6)) && (boundV (wd ws 12)).isSome && (boundV (wd ws 13)).isSome) = false := by
        rw [Bool.eq_false_iff]
        intro e
        simp only [Bool.and_eq_true, decide_eq_true_eq] at e
        simp only [Bool.or_eq_true, decide_eq_true_eq, Bool.not_eq_true', e.1.2, e.2] at h
        rcases h with (((h | h) | h) | h) | h
        · omega
        · omega
        all_goals cases h
      rw [this]; rfl
    · have : (decide (0 ≤ placeI kindsW (wd ws 3)) && decide (0 ≤ placeI flagsW (wd ws 6)) && (boundV (wd ws 12)).isSome && (boundV (wd ws 13)).isSome) = true := by
        simp only [Bool.or_eq_false_iff, decide_eq_false_iff_not, Bool.not_eq_false'] at h
        simp only [Bool.and_eq_true, decide_eq_true_eq]
        exact ⟨⟨⟨by omega, by omega⟩, h.1.2⟩, h.2⟩
      rw [this, Bool.true_and] at hK
      refine xword 15 rfl (by omega) ?_
      refine xjoin (xif (fun h1 => ?_) (fun h1 => ?_))
      · refine xword 15 rfl (by omega) ?_
        refine hK _ _ ⟨rfl, ?_⟩
        have h1 : (wd ws 15 == latchWd) = false := by
          rw [show latchWd = [108, 97, 116, 99, 104] from rfl, ← el]
          exact (Bool.not_eq_true' _).mp h1
        rw [h1, Bool.false_or]
        exact congrArg (! ·) ed
      · refine hK _ _ ⟨rfl, ?_⟩
        have h1 : (wd ws 15 == latchWd) = true := by
          rw [show latchWd = [108, 97, 116, 99, 104] from rfl, ← el]
          exact (Bool.not_eq_false' _).mp h1
        rw [h1]; rfl
  rintro c As2 ⟨rfl, rfl⟩
  refine xif (fun h => ?_) (fun h => ?_)
  · have hnone : tagM ws = none := by
      cases e : tagM ws with
      | none => rfl
      | some t =>
        obtain ⟨⟨_, _, _, g0, gl⟩, g1, g2, g3, g4, g5, g6, g7, g8, g9, g10, g11, g12, _⟩ := tagM_some.1 e
        have k1 : 0 ≤ placeI kindsW (wd ws 3) := by rw [place_kind]; omega
        have k2 : 0 ≤ placeI flagsW (wd ws 6) := by
          have := place_flag (wd ws 6)
          rw [g4] at this
          split at this
          · cases this
          · omega
        have k3 : (wd ws 15 == latchWd || wd ws 15 == [45]) = true := by
          rcases gl with gl | gl <;> rw [gl] <;> rfl
        rw [decide_eq_true k1, decide_eq_true k2, k3, g10, g11] at h
        cases h
    refine xdrop 0 ?_
    iterate 19 (refine xset (h := ?_))
    iterate 19 (refine xget (h := ?_))
    refine xkeep (l := []) (xret ⟨?_, fun t ht => ?_, rfl⟩)
    · rw [hnone]; rfl
    · rw [hnone] at ht; cases ht
  have hc : 0 ≤ placeI kindsW (wd ws 3) ∧ 0 ≤ placeI flagsW (wd ws 6) ∧ (boundV (wd ws 12)).isSome = true ∧ (boundV (wd ws 13)).isSome = true ∧ (wd ws 15 = latchWd ∨ wd ws 15 = [45]) := by
    simp only [Bool.not_eq_false', Bool.and_eq_true, Bool.or_eq_true, decide_eq_true_eq, beq_iff_eq] at h
    exact ⟨h.1.1.1.1, h.1.1.1.2, h.1.1.2, h.1.2, h.2⟩
  obtain ⟨k1, k2, k3, k4, k5⟩ := hc
  obtain ⟨lo, hlo⟩ := Option.isSome_iff_exists.1 k3
  obtain ⟨hi, hhi⟩ := Option.isSome_iff_exists.1 k4
  have hlo2 := hb2 lo hlo
  have hhi2 := hb4 hi hhi
  simp only at hlo2 hhi2
  obtain ⟨rfl, rfl⟩ := hlo2
  obtain ⟨rfl, rfl⟩ := hhi2
  have nlen : (nineW ws).length = 9 := rfl
  rw [nlen] at hvl hvi
  have gv : ∀ i, i < 9 → ∃ v, vs[i]? = some v := fun i hi => ⟨_, List.getElem?_eq_getElem (by omega)⟩
  obtain ⟨v0, q0⟩ := gv 0 (by decide)
  have p0 : numI (wd ws 2) = some v0 := (hvi 0 (by decide)).trans q0
  obtain ⟨v1, q1⟩ := gv 1 (by decide)
  have p1 : numI (wd ws 4) = some v1 := (hvi 1 (by decide)).trans q1
  obtain ⟨v2, q2⟩ := gv 2 (by decide)
  have p2 : numI (wd ws 5) = some v2 := (hvi 2 (by decide)).trans q2
  obtain ⟨v3, q3⟩ := gv 3 (by decide)
  have p3 : numI (wd ws 7) = some v3 := (hvi 3 (by decide)).trans q3
  obtain ⟨v4, q4⟩ := gv 4 (by decide)
  have p4 : numI (wd ws 8) = some v4 := (hvi 4 (by decide)).trans q4
  obtain ⟨v5, q5⟩ := gv 5 (by decide)
  have p5 : numI (wd ws 9) = some v5 := (hvi 5 (by decide)).trans q5
  obtain ⟨v6, q6⟩ := gv 6 (by decide)
  have p6 : numI (wd ws 10) = some v6 := (hvi 6 (by decide)).trans q6
  obtain ⟨v7, q7⟩ := gv 7 (by decide)
  have p7 : numI (wd ws 11) = some v7 := (hvi 7 (by decide)).trans q7
  obtain ⟨v8, q8⟩ := gv 8 (by decide)
  have p8 : numI (wd ws 14) = some v8 := (hvi 8 (by decide)).trans q8
  refine xdraw ?_
  refine xword 1 rfl (by omega) ?_
  refine xelI 0 v0 q0 (h := ?_)
  refine xelI 1 v1 q1 (h := ?_)
  refine xelI 2 v2 q2 (h := ?_)
  refine xnew fun b2 => ?_
  iterate 19 (refine xset (h := ?_))
  refine xdraw (xasrt (by decide) (xasrt (by decide) (xasrt (by decide) (xasrt (by decide) ?_))))
  refine xelI 3 v3 q3 (h := ?_)
  refine xelI 4 v4 q4 (h := ?_)
  refine xelI 5 v5 q5 (h := ?_)
  iterate 6 (refine xset (h := ?_))
  refine xdraw ?_
  refine xelI 6 v6 q6 (h := ?_)
  refine xelI 7 v7 q7 (h := ?_)
  iterate 2 (refine xset (h := ?_))
  refine xdraw ?_
  refine xelI 8 v8 q8 (h := ?_)
  refine xword 15 rfl (by omega) ?_
  iterate 6 (refine xset (h := ?_))
  iterate 19 (refine xget (h := ?_))
  iterate 19 (refine xset (h := ?_))
  iterate 19 (refine xget (h := ?_))
  have hkw : IntKind.i64.wrap (placeI kindsW (wd ws 3) + 1) = kindV (wd ws 3) := by
    have := kindV_range (wd ws 3)
    rw [place_kind, wrap_id _ (by omega) (by omega)]
    omega
  have hfw := wrap_flag (placeI flagsW (wd ws 6)) k2 (place_range _)
  have hfl := place_flag (wd ws 6)
  rw [if_neg (by omega)] at hfl
  have hT : tagM ws = some ⟨BA (wd ws 1), v0, IntKind.i64.wrap (placeI kindsW (wd ws 3) + 1), v1, v2, (placeI flagsW (wd ws 6)).tmod 2 == 1, (IntKind.i64.wrap ((placeI flagsW (wd ws 6)).tdiv 2)).tmod 2 == 1, IntKind.i64.wrap ((placeI flagsW (wd ws 6)).tdiv 4) == 1, v3, v4, v5, v6, v7, lo.2, hi.2, (BA (wd ws 15)).toList == (BA [108, 97, 116, 99, 104]).toList, lo.1, hi.1, v8⟩ := by
    refine tagM_some.2 ⟨⟨hl, hw0, hw1, ?_, k5⟩, p0, p1, p2, ?_, p3, p4, p5, p6, p7, hlo, hhi, p8, rfl, hkw, ?_⟩
    · rw [place_kind] at k1; omega
    · rw [hfl, hfw.1, hfw.2]; rfl
    · exact el
  refine xkeep (l := []) (xret ⟨?_, fun t ht => ?_, rfl⟩)
  · rw [hT]; rfl
  · rw [hT] at ht
    obtain rfl := Option.some.inj ht
    rfl

end Go.Cx
