/-
  LineKeeps.
-/
import Derived.Test.YtdbdnlahimbcaaaV
namespace Go.Cx
open Go Go.Cf
set_option linter.unusedVariables false
variable {B : Base} {As : List HP}

theorem ROps.cut {s : Sl} {ops : List MOp} {h : Frag} (hr : ROps s ops h) (l r m : Nat) (h1 : l ≤ r) (h2 : r ≤ m) (h3 : r ≤ ops.length) : ROps (s.cut l r m 4) ((ops.take r).drop l) h := by
  obtain ⟨hc, os, a1, a2, a3⟩ := hr
  refine ⟨by simp only [Sl.cut]; omega, (os.take r).drop l, a1.cut l r m h1 h2 (by omega), by simp [a2], fun i o x ho hx => ?_⟩
  rw [List.getElem?_drop, List.getElem?_take] at ho hx
  split at ho
  · rename_i hlt
    rw [if_pos hlt] at hx
    exact a3 (l + i) o x ho hx
  · cases ho

def wasB (ops : List MOp) (bs : List UInt8) : Bool := ops.any fun m => m.kind == 0 && (apartL m.data bs == 0 || apartL m.data bs == 1)

theorem was_spec (s : Sl) (ops : List MOp) (b : Sl) (bs : List UInt8) (hl : ∀ m ∈ ops, m.data.length ≤ 4096) (hn : ops.length ≤ 300) : Ct Pr F_law20_was [s.v, b.v] .one [.bool] [] ((ROps s ops).and (RAr U8 b bs)) (fun t Bs => t.1 = wasB ops bs ∧ Bs = []) := by
  refine spec1 c_law20_was fun B hr => ?_
  obtain ⟨⟨hc, os, h1, h2, h3⟩, hb⟩ := hr
  have fa : Fro B s OP os := ⟨h1⟩
  have fb : Fro B b U8 bs := ⟨hb⟩
  have hsn := h1.1
  unfold law20_was
  refine xloop1 (fun n i As => ∃ k : Nat, i = (k : Int) ∧ n = ops.length - k ∧ k ≤ ops.length ∧ wasB (ops.take k) bs = false ∧ As = []) ops.length ⟨0, rfl, rfl, by omega, rfl, rfl⟩ ?_
  rintro n _ _ K ⟨k, rfl, rfl, hk, hw, rfl⟩ hK
  refine xif_dec (fun h => ?_) (fun h => ?_)
  · have hm := List.getElem?_eq_getElem (l := ops) (i := k) (by omega)
    have hml := hl _ (List.getElem_mem (l := ops) (n := k) (by omega))
    have ho := List.getElem?_eq_getElem (l := os) (i := k) (by omega)
    have hok := h3 k _ _ ho hm
    have fd : Fro B os[k].2.2.2 U8 ops[k].data := ⟨hok.2.2.2.2.2.2⟩
    have hstep : wasB (ops.take (k + 1)) bs = (wasB (ops.take k) bs || (ops[k].kind == 0 && (apartL ops[k].data bs == 0 || apartL ops[k].data bs == 1))) := by
      simp only [wasB, List.take_add_one, hm, List.any_append, Option.toList_some, List.any_cons, List.any_nil, Bool.or_false]
    rw [hw, Bool.false_or] at hstep
    have hnext : ∀ As, As = [] → (ops[k].kind == 0 && (apartL ops[k].data bs == 0 || apartL ops[k].data bs == 1)) = false → Ent B As (K (IntKind.i64.wrap ((k : Int) + 1))) := fun As hA he => by
      rw [wrap_succ k (by omega)]
      exact hK (ops.length - (k + 1)) _ _ (by omega) ⟨k + 1, rfl, rfl, by omega, by rw [hstep, he], hA⟩
    refine xjoin ?_
    refine xidxn (h1 := by omega) (h := fun _ _ => ?_)
    refine xgetE ho (h := ?_)
    refine xif (fun g => ?_) (fun g => ?_)
    · refine hnext _ rfl ?_
      rw [hok.1] at g
      have g' : ¬ ops[k].kind = 0 := by simpa using g
      simp [g']
    · rw [hok.1] at g
      have g' : ops[k].kind = 0 := by simpa using g
      refine xidxn (h1 := by omega) (h := fun _ _ => ?_)
      refine xgetEj ho (h := ?_)
      refine xcall0 (apart_spec os[k].2.2.2 b ops[k].data bs (by omega)) rdb ?_
      rintro ⟨e, _⟩ _ ⟨he, rfl⟩
      simp only at he
      subst he
      refine app0 (ca1 (xif (fun g2 => ?_) (fun g2 => ?_)))
      · refine xret ⟨?_, rfl⟩
        refine (List.any_eq_true.2 ⟨ops[k], List.getElem_mem _, ?_⟩).symm
        rw [g', g2]; rfl
      · refine hnext _ rfl ?_
        rw [g2]; simp
  · have : k = ops.length := by omega
    subst this
    rw [List.take_length] at hw
    exact xret ⟨hw.symm, rfl⟩

/-! The law of lists. -/
theorem apart_same (xs : List UInt8) : apartL xs xs = 0 := by
  unfold apartL
  rw [if_pos rfl]
  have : ∀ xs : List UInt8, (xs.zipWith (fun x y => popN 8 (xorN x y)) xs).sum = 0 := by
    intro xs; induction xs with
    | nil => rfl
    | cons x xs ih => simp only [List.zipWith_cons_cons, List.sum_cons, xorN_self, ih]
  rw [this]; rfl

/-- Each row was put, but for one bit where it was turned. -/
def Came (ops : List MOp) (L : Lm) : Prop := ∀ l ∈ L, ∃ m ∈ ops, m.kind = 0 ∧ ((l.2 = false ∧ l.1 = m.data) ∨ (l.2 = true ∧ apartL m.data l.1 = 1))

theorem Came.mono {ops ops' : List MOp} {L : Lm} (h : Came ops L) (hs : ∀ m ∈ ops, m ∈ ops') : Came ops' L := fun l hl => by
  obtain ⟨m, hm, h⟩ := h l hl
  exact ⟨m, hs m hm, h⟩

theorem Came.was {ops : List MOp} {L : Lm} (h : Came ops L) {l : List UInt8 × Bool} (hl : l ∈ L) : wasB ops l.1 = true := by
  obtain ⟨m, hm, hk, hd⟩ := h l hl
  refine List.any_eq_true.2 ⟨m, hm, ?_⟩
  rcases hd with ⟨_, hd⟩ | ⟨_, hd⟩
  · rw [hk, hd, apart_same]; rfl
  · rw [hk, hd]; rfl

theorem Came.lay {ops : List MOp} {L : Lm} (h : Came ops L) {x : List UInt8 × Bool} (hx : ∃ m ∈ ops, m.kind = 0 ∧ ((x.2 = false ∧ x.1 = m.data) ∨ (x.2 = true ∧ apartL m.data x.1 = 1))) : Came ops (layL L x).1 := by
  unfold layL
  split
  · intro l hl
    rcases List.mem_append.1 hl with h' | h'
    · exact h l h'
    · simp at h'; subst h'; exact hx
  · exact h

theorem inL_get {L : Lm} {i : Int} (h : inL L i = true) : ∃ hk : i.toNat < L.length, L.getD i.toNat ([], false) = L[i.toNat] := by
  have hi : 0 ≤ i ∧ i < L.length := by simpa [inL] using h
  exact ⟨by omega, by simp [show i.toNat < L.length by omega]⟩

theorem Came.step {ops : List MOp} {L : Lm} (h : Came ops L) (m : MOp) : Came (ops ++ [m]) (stepL L m) := by
  have h0 : Came (ops ++ [m]) L := h.mono fun x hx => List.mem_append_left _ hx
  unfold stepL
  split
  · rename_i hk
    exact h0.lay ⟨m, by simp, hk, .inl ⟨rfl, rfl⟩⟩
  have htake : Came (ops ++ [m]) (takeL L m.i).1 := by
    unfold takeL
    split
    · exact fun l hl => h0 l (List.mem_of_mem_eraseIdx hl)
    · exact h0
  split
  · exact htake
  split
  · exact htake
  split
  · unfold doubleL
    split
    · rename_i hin
      obtain ⟨hk, e⟩ := inL_get hin
      rw [e]
      exact h0.lay (h0 _ (List.getElem_mem hk))
    · exact h0
  split
  · unfold turnL
    split
    · rename_i hin
      obtain ⟨hk, e⟩ := inL_get hin
      rw [e]
      split
      · exact h0
      rename_i hr
      split
      · exact h0
      rename_i ht
      intro l hl
      rcases List.mem_or_eq_of_mem_set hl with h' | h'
      · exact h0 l h'
      · obtain ⟨x, hx, hx0, hd⟩ := h0 _ (List.getElem_mem hk)
        rcases hd with ⟨_, hd⟩ | ⟨hd, _⟩
        · refine ⟨x, hx, hx0, .inr ⟨by rw [h'], ?_⟩⟩
          subst h'
          rw [← hd]
          exact apart_flip _ _ (by omega)
        · exact absurd hd ht
    · exact h0
  · exact h0


/-- How the count goes. -/
def countL (L : Lm) (m : MOp) : Int :=
  if m.kind = 0 then (if L.length < 64 then 1 else 0)
  else if m.kind = 3 then (if L.length < 64 ∧ 0 ≤ m.i ∧ m.i < L.length then 1 else 0)
  else if m.kind = 1 ∨ m.kind = 2 then (if 0 ≤ m.i ∧ m.i < L.length then -1 else 0)
  else 0

theorem layL_len (L : Lm) (x : List UInt8 × Bool) : ((layL L x).1.length : Int) = L.length + (if L.length < 64 then 1 else 0) := by
  unfold layL
  split <;> simp

theorem takeL_len (L : Lm) (i : Int) : ((takeL L i).1.length : Int) = L.length + (if 0 ≤ i ∧ i < L.length then -1 else 0) := by
  unfold takeL
  split
  · rename_i h
    have hi : 0 ≤ i ∧ i < L.length := by simpa [inL] using h
    rw [if_pos hi, List.length_eraseIdx, if_pos (by omega)]; omega
  · rename_i h
    have hi : ¬ (0 ≤ i ∧ i < L.length) := by simpa [inL] using h
    rw [if_neg hi]; simp

theorem stepL_len (L : Lm) (m : MOp) : ((stepL L m).length : Int) = L.length + countL L m := by
  unfold stepL countL
  by_cases h0 : m.kind = 0
  · rw [if_pos h0, if_pos h0]; exact layL_len _ _
  rw [if_neg h0, if_neg h0]
  by_cases h1 : m.kind = 1
  · rw [if_pos h1, if_neg (by omega), if_pos (.inl h1)]; exact takeL_len _ _
  rw [if_neg h1]
  by_cases h2 : m.kind = 2
  · rw [if_pos h2, if_neg (by omega), if_pos (.inr h2)]; exact takeL_len _ _
  rw [if_neg h2]
  by_cases h3 : m.kind = 3
  · rw [if_pos h3, if_pos h3]
    unfold doubleL
    by_cases hi : inL L m.i = true
    · rw [if_pos hi, layL_len]
      have hi' : 0 ≤ m.i ∧ m.i < L.length := by simpa [inL] using hi
      by_cases h64 : L.length < 64
      · rw [if_pos h64, if_pos ⟨h64, hi'⟩]
      · rw [if_neg h64, if_neg (fun h => h64 h.1)]
    · rw [if_neg hi]
      have hi' : ¬ (0 ≤ m.i ∧ m.i < L.length) := by simpa [inL] using hi
      rw [if_neg (fun h => hi' h.2)]; simp
  rw [if_neg h3, if_neg h3, if_neg (show ¬ (m.kind = 1 ∨ m.kind = 2) by omega)]
  split
  · unfold turnL
    split
    · split
      · simp
      · split <;> simp
    · simp
  · simp


theorem LineKeeps_spec (s : Sl) (ops : List MOp) : Ct Pr F_law20_LineKeeps [s.v] .one [.bool] [] (ROps s ops) (fun t Bs => t.1 = true ∧ Bs = []) := by
  refine spec1 c_law20_LineKeeps fun B hr => ?_
  have fo : FroP B (ROps s ops) := ⟨hr, fun _ _ h s => h.mono s⟩
  have hr' := hr
  obtain ⟨hsc, os, h1, h2, h3⟩ := hr'
  have fa : Fro B s OP os := ⟨h1⟩
  have hsn := h1.1
  unfold law20_LineKeeps
  refine xcall0 works_spec rdb ?_
  rintro ⟨c, _⟩ _ ⟨h, rfl⟩
  obtain rfl : c = true := h
  refine app0 (ca1 (xiff rfl ?_))
  refine xcall0 (long_spec s ops) rdb ?_
  rintro ⟨c, _⟩ _ ⟨hlong, rfl⟩
  simp only at hlong
  refine app0 (ca1 (xif (fun h => xret ⟨rfl, rfl⟩) (fun h => ?_)))
  obtain ⟨hol, hob⟩ := long_false (hlong.symm.trans h)
  refine xcall0 New_spec rdb ?_
  rintro ⟨q, _⟩ _ ⟨⟨q0, hq⟩, rfl⟩
  simp only at hq
  subst hq
  refine app1 (ca1 ?_)
  refine xloop2 (fun n c i As => ∃ (k : Nat) (L : Lm), i = (k : Int) ∧ c = (L.length : Int) ∧ n = ops.length - k ∧ k ≤ ops.length ∧ Came (ops.take k) L ∧ As = [LineObj (some ⟨q0, 0, none⟩) L]) ops.length ⟨0, [], rfl, rfl, rfl, by omega, fun l hl => by simp at hl, rfl⟩ ?_
  rintro n _ _ _ K ⟨k, L, rfl, rfl, rfl, hk, hcame, rfl⟩ hK
  refine xif_dec (fun h => ?_) (fun h => xkeep (l := []) (xret ⟨rfl, rfl⟩))
  refine xfact 0 (fun g hg => hg.1) fun hL64 => ?_
  have hm := List.getElem?_eq_getElem (l := ops) (i := k) (by omega)
  have ho := List.getElem?_eq_getElem (l := os) (i := k) (by omega)
  obtain ⟨e1, e2, e3, _, _, hbit, hdata⟩ := h3 k _ _ ho hm
  generalize hM : ops[k] = m at *
  generalize os[k] = o at *
  obtain ⟨o1, o2, o3, o4⟩ := o
  simp only at e1 e2 e3 hdata
  subst e1 e2 e3
  refine xidxn (h1 := by omega) (h := fun _ _ => ?_)
  refine xgetE ho (h := ?_)
  refine xgetEj ho (h := ?_)
  refine xgetEj ho (h := ?_)
  refine xgetEj ho (h := ?_)
  dsimp only
  refine xnew fun b => xset (h := ?_)
  refine xset (h := xset (h := xset (h := ?_)))
  refine xcall1 1 (Len_spec (some ⟨q0, 0, none⟩) L) rdb ?_
  rintro ⟨r, _⟩ _ ⟨hr1, rfl⟩
  obtain rfl : r = (L.length : Int) := hr1
  refine app1 (ca1 ?_)
  rw [wrap_succ k (by omega)]
  refine xslc (by omega) (by omega) (by omega) (by omega) ?_
  rw [Int.toNat_natCast, Int.toNat_natCast, Int.toNat_natCast]
  have hcut : ROps (s.cut k (k + 1) s.c 4) ((ops.take (k + 1)).drop k) (frz B.W B.h0) := hr.cut k (k + 1) s.c (by omega) (by omega) (by omega)
  have ecut : (ops.take (k + 1)).drop k = [m] := by
    rw [List.take_add_one, hm, List.drop_append_of_le_length (by simp; omega)]
    simp
  rw [ecut] at hcut
  have fo1 : FroP B (ROps (s.cut k (k + 1) s.c 4) [m]) := ⟨hcut, fun _ _ h s => h.mono s⟩
  have hcut2 : ROps (s.cut 0 (k + 1) s.c 4) ((ops.take (k + 1)).drop 0) (frz B.W B.h0) := hr.cut 0 (k + 1) s.c (by omega) (by omega) (by omega)
  rw [List.drop_zero] at hcut2
  have fo2 : FroP B (ROps (s.cut 0 (k + 1) s.c 4) (ops.take (k + 1))) := ⟨hcut2, fun _ _ h s => h.mono s⟩
  have hmb : ∀ x ∈ [m], x.data.length ≤ 4096 := fun x hx => by
    simp at hx; subst hx; rw [← hM]; exact hob _ (List.getElem_mem _)
  refine xcall1 0 (run_spec (some ⟨q0, 0, none⟩) L (s.cut k (k + 1) s.c 4) [m] hmb (by simp)) rdb ?_
  rintro _ _ rfl
  refine app1 (ca0 ?_)
  show Ent B (LineObj (some ⟨q0, 0, none⟩) (stepL L m) :: _) _
  have hlen := stepL_len L m
  have hcame' : Came (ops.take (k + 1)) (stepL L m) := by
    rw [List.take_add_one, hm]; exact hcame.step m
  refine xfact 0 (fun g hg => And.intro hg.1 hg.2.1) fun hM64 => ?_
  obtain ⟨hM64, hMb⟩ := hM64
  refine xget (h := ?_)
  refine xjoin1 (fun x As' => x = ((stepL L m).length : Int) ∧ As' = [LineObj (some ⟨q0, 0, none⟩) (stepL L m), Blk b [.int .i64 m.kind, .int .i64 m.i, .int .i64 m.bit, o4.v]]) ?_ ?_
  · intro J hJ
    have hJ' : ∀ y, y = (L.length : Int) + countL L m → Ent B [LineObj (some ⟨q0, 0, none⟩) (stepL L m), Blk b [.int .i64 m.kind, .int .i64 m.i, .int .i64 m.bit, o4.v]] (J y) := fun y hy => hJ _ _ ⟨by rw [hlen, hy], rfl⟩
    have w1 : IntKind.i64.wrap ((L.length : Int) + 1) = (L.length : Int) + 1 := wrap_id _ (by omega) (by omega)
    have w2 : IntKind.i64.wrap ((L.length : Int) - 1) = (L.length : Int) - 1 := wrap_id _ (by omega) (by omega)
    rw [w1, w2]
    refine xif (fun g => ?_) (fun g => ?_)
    · have hk0 : m.kind = 0 := by simpa using g
      refine xjoin (xif_dec (fun a => hJ' _ ?_) (fun a => hJ' _ ?_)) <;> rw [countL, if_pos hk0]
      · rw [if_pos (by omega)]
      · rw [if_neg (by omega)]; omega
    have n0 : ¬ m.kind = 0 := by simpa using g
    refine xjoin (xif (fun g => ?_) (fun g => ?_))
    · have hk3 : m.kind = 3 := by simpa using g
      have hc : countL L m = (if L.length < 64 ∧ 0 ≤ m.i ∧ m.i < L.length then 1 else 0) := by rw [countL, if_neg n0, if_pos hk3]
      refine xjoin (xif_dec (fun a => xget (h := xjoin (xif_dec (fun a2 => xget (h := xjoin (xif_dec (fun a3 => hJ' _ ?_) (fun a3 => hJ' _ ?_)))) (fun a2 => xjoin (xiff rfl (hJ' _ ?_)))))) (fun a => xjoin (xiff rfl (xjoin (xiff rfl (hJ' _ ?_)))))) <;> rw [hc]
      · rw [if_pos (by omega)]
      all_goals (rw [if_neg (by omega)]; omega)
    have n3 : ¬ m.kind = 3 := by simpa using g
    refine (xjoin1 (fun x As' => x = decide (m.kind = 1 ∨ m.kind = 2) ∧ As' = [LineObj (some ⟨q0, 0, none⟩) (stepL L m), Blk b [.int .i64 m.kind, .int .i64 m.i, .int .i64 m.bit, o4.v]]) ?_ ?_)
    · intro J2 hJ2
      refine xif (fun g => hJ2 _ _ ⟨?_, rfl⟩) (fun g => hJ2 _ _ ⟨?_, rfl⟩)
      · have g' : m.kind = 1 := by simpa using g
        simp [g']
      · have g' : ¬ m.kind = 1 := by simpa using g
        rw [Bool.eq_iff_iff]; simp [g']
    · rintro _ _ ⟨rfl, rfl⟩
      refine xjoin (xif_dec (fun g => ?_) (fun g => hJ' _ ?_))
      · have hc : countL L m = (if 0 ≤ m.i ∧ m.i < L.length then -1 else 0) := by rw [countL, if_neg n0, if_neg n3, if_pos g]
        refine xget (h := xjoin (xif_dec (fun a2 => xget (h := xjoin (xif_dec (fun a3 => hJ' _ ?_) (fun a3 => hJ' _ ?_)))) (fun a2 => xjoin (xiff rfl (hJ' _ ?_))))) <;> rw [hc]
        · rw [if_pos (by omega)]; omega
        all_goals (rw [if_neg (by omega)]; omega)
      · rw [countL, if_neg n0, if_neg n3, if_neg g]; omega
  · rintro _ _ ⟨rfl, rfl⟩
    refine xcall1 0 (All_spec (some ⟨q0, 0, none⟩) (stepL L m)) rdb ?_
    rintro ⟨s2, _⟩ _ rfl
    refine app2 (ca1 ?_)
    refine xrows 1 fun rs0 h0 => ?_
    refine xlen s2 fun hn0 _ => ?_
    rw [List.length_map] at h0
    refine xiff (by rw [← hn0, h0]; simp; omega) ?_
    refine xloop1 (fun n j As => ∃ c : Nat, j = (c : Int) ∧ n = (stepL L m).length - c ∧ c ≤ (stepL L m).length ∧ As = [Ar SL s2 rs0, Each (Ar U8) rs0 ((stepL L m).map fun x : List UInt8 × Bool => x.1), LineObj (some ⟨q0, 0, none⟩) (stepL L m), Blk b [.int .i64 m.kind, .int .i64 m.i, .int .i64 m.bit, o4.v]]) (stepL L m).length ⟨0, rfl, rfl, by omega, rfl⟩ ?_
    rintro n _ _ K' ⟨c, rfl, rfl, hc, rfl⟩ hK'
    refine xif_dec (fun h => ?_) (fun h => ?_)
    · have hcM : c < (stepL L m).length := by omega
      have g0 := List.getElem?_eq_getElem (l := rs0) (i := c) (by omega)
      have m0 : ((stepL L m).map fun x : List UInt8 × Bool => x.1)[c]? = some (stepL L m)[c].1 := by rw [List.getElem?_map, List.getElem?_eq_getElem hcM]; rfl
      refine xdraw (xslc (by omega) (by omega) (by omega) (by omega) ?_)
      rw [Int.toNat_natCast, Int.toNat_natCast]
      refine xidxn (h1 := by omega) (h := fun _ _ => ?_)
      refine xgetE g0 (h := ?_)
      refine xcall0 (was_spec (s.cut 0 (k + 1) s.c 4) (ops.take (k + 1)) rs0[c] (stepL L m)[c].1 (fun x hx => hob x (List.mem_of_mem_take hx)) (by simp; omega)) (rds_and rdb (rds_row 1 g0 m0)) ?_
      rintro ⟨e, _⟩ _ ⟨he, rfl⟩
      rw [hcame'.was (List.getElem_mem hcM)] at he
      obtain rfl : e = true := he
      refine app0 (ca1 (xiff rfl ?_))
      rw [wrap_succ c (by omega)]
      exact hK' ((stepL L m).length - (c + 1)) _ _ (by omega) ⟨c + 1, rfl, rfl, by omega, rfl⟩
    · refine xdrop 0 (xdrop 0 (xdrop 1 ?_))
      exact hK (ops.length - (k + 1)) _ _ _ (by omega) ⟨k + 1, stepL L m, rfl, rfl, rfl, by omega, hcame', rfl⟩

end Go.Cx
