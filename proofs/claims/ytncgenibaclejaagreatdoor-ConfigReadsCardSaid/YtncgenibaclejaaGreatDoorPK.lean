/-
  A line, and a whole text, as the document reads it.
-/
import Derived.Test.YtncgenibaclejaaGreatDoorPJ
namespace Go.Cx
open Go Go.Cf
set_option linter.unusedVariables false
set_option maxRecDepth 100000
variable {B : Base} {As F : List HP} {α : Type}

def stepW (first : Bool) (ws : List (List UInt8)) (c : Cfg) : Option Cfg := if first = true then headM ws else (tagM ws).map fun t => { c with tags := c.tags ++ [t] }

theorem headM_no {ws : List (List UInt8)} (h : ¬ (ws.length = 7 ∧ wd ws 0 = gwW)) : headM ws = none := by
  cases e : headM ws with
  | none => rfl
  | some t =>
    obtain ⟨h1, h2, _⟩ := headM_some.1 e
    exact absurd ⟨h1, h2⟩ h
theorem wd_drop (ws : List (List UInt8)) (i : Nat) : ((ws.drop 1)[i]?).getD [] = wd ws (i + 1) := by
  unfold wd; rw [List.getElem?_drop, Nat.add_comm]

set_option maxHeartbeats 4000000 in
theorem rline_spec (c : Cfg) (sc s : Sl) (ws : List (List UInt8)) (first : Bool) (hm : ∀ w ∈ ws, w.length ≤ 1048576) (hc : s.n ≤ s.c) (ht : c.tags.length ≤ 1048577) : Ct Pr F_ref27_line [c.v sc, s.v, .bool first] (.tup [some 7, none]) [.int .i64, .int .i64, .int .i64, .int .i64, .int .i64, .int .i64, .slice, .bool] [Ar TG sc c.tags] (RAr Cf.ST s (ws.map BA))
    (fun t Bs => (∃ (c' : Cfg) (sl : Sl), stepW first ws c = some c' ∧ t = (c'.timeout, c'.retries, c'.window, c'.resend, c'.span, c'.keep, sl, true, ()) ∧ Bs = [Ar TG sl c'.tags]) ∨ (stepW first ws c = none ∧ t.2.2.2.2.2.2.2.1 = false ∧ Bs = [])) := by
  refine spec8 c_ref27_line fun B hr => ?_
  haveI : Fro B s Cf.ST (ws.map BA) := ⟨hr⟩
  have hs : (ws.map BA).length = s.n := hr.1
  rw [List.length_map] at hs
  unfold ref27_line
  refine xnew fun b => xnew fun b1 => ?_
  refine xif (fun h => ?_) (fun h => ?_)
  · have hf : first = false := by simpa using h
    have hst : stepW first ws c = (tagM ws).map fun t => { c with tags := c.tags ++ [t] } := by unfold stepW; rw [hf]; rfl
    refine xcall0 (rtag_spec s ws hm) rdb ?_
    rintro ⟨t2, r6, r7, r8, r9, f1, f2, f3, r10, r11, r12, r13, r14, f4, f5, f6, r15, r16, r17, ok, _⟩ _ ⟨hok, hval, rfl⟩
    simp only at hok
    refine app0 (ca20 ?_)
    refine xnew fun b2 => ?_
    iterate 19 (refine xset (h := ?_))
    iterate 20 (refine xget (h := ?_))
    refine xnew fun b3 => ?_
    refine xapp1 (E := TG) (⟨t2, r6, r7, r8, r9, f1, f2, f3, r10, r11, r12, r13, r14, f4, f5, f6, r15, r16, r17⟩ : Tag) (hb := by omega) (h := fun s4 => xset (h := ?_))
    iterate 7 (refine xget (h := ?_))
    iterate 7 (refine xset (h := ?_))
    iterate 7 (refine xget (h := ?_))
    cases e : tagM ws with
    | some tt =>
      have hv := hval tt e
      simp only [Prod.mk.injEq] at hv
      obtain ⟨rfl, rfl, rfl, rfl, rfl, rfl, rfl, rfl, rfl, rfl, rfl, rfl, rfl, rfl, rfl, rfl, rfl, rfl, rfl, rfl, _⟩ := hv
      refine xuse [Ar TG s4 (c.tags ++ [tt])] (xret (.inl ⟨{ c with tags := c.tags ++ [tt] }, s4, by rw [hst, e]; rfl, rfl, rfl⟩))
    | none =>
      rw [e] at hok
      obtain rfl : ok = false := hok
      exact xkeep (l := []) (xret (.inr ⟨by rw [hst, e]; rfl, rfl, rfl⟩))
  · have hf : first = true := by simpa using h
    have hst : stepW first ws c = headM ws := by unfold stepW; rw [hf]; rfl
    have hn7 : (((s.n : Int)) != 7) = !(ws.length == 7) := by rw [← hs, Bool.eq_iff_iff]; simp; omega
    rw [hn7]
    have e0 := BA_eqv (wd ws 0) [103, 97, 116, 101, 119, 97, 121]
    refine xuse [Blk b (c.cs sc), Blk b1 [.int .i64 0, .int .i64 0, .int .i64 0, .int .i64 0, .int .i64 0, .int .i64 0, .slice none 0 0]] ?_
    refine xjoin1 (fun (x : Bool) As' => As' = [Blk b (c.cs sc), Blk b1 [.int .i64 0, .int .i64 0, .int .i64 0, .int .i64 0, .int .i64 0, .int .i64 0, .slice none 0 0]] ∧ x = !(ws.length == 7 && wd ws 0 == gwW)) (fun K hK => ?_) ?_
    · refine xif (fun h => hK _ _ ⟨rfl, ?_⟩) (fun h => ?_)
      · have : (ws.length == 7) = false := by simpa using h
        rw [this]; rfl
      · have h : ws.length = 7 := by simpa using h
        refine xword 0 rfl (by omega) (hK _ _ ⟨rfl, ?_⟩)
        rw [h]
        exact congrArg (! ·) e0
    rintro x As2 ⟨rfl, rfl⟩
    refine xif (fun h => ?_) (fun h => ?_)
    · have hnone : headM ws = none := headM_no fun ⟨h1, h2⟩ => by
        rw [h1, h2] at h
        cases h
      iterate 7 (refine xget (h := ?_))
      iterate 7 (refine xset (h := ?_))
      iterate 7 (refine xget (h := ?_))
      exact xkeep (l := []) (xret (.inr ⟨by rw [hst, hnone], rfl, rfl⟩))
    have hh : ws.length = 7 ∧ wd ws 0 = gwW := by
      simp only [Bool.not_eq_false', Bool.and_eq_true, beq_iff_eq] at h
      exact h
    obtain ⟨hl, hw0⟩ := hh
    refine xslc (by decide) (by omega) (by omega) (Int.le_refl _) ?_
    rw [show (1 : Int).toNat = 1 from rfl, Int.toNat_natCast, Int.toNat_natCast]
    have hcut : RAr Cf.ST (s.cut 1 s.n s.c 1) ((ws.drop 1).map BA) (frz B.W B.h0) := by
      have := hr.cut 1 s.n s.c (by omega) hc (by rw [hr.1]; exact Nat.le_refl _)
      have e : ((List.map BA ws).take s.n).drop 1 = (ws.drop 1).map BA := by
        rw [List.take_of_length_le (by rw [List.length_map]; omega), List.map_drop]
      rw [e] at this
      exact this
    haveI : Fro B (s.cut 1 s.n s.c 1) Cf.ST ((ws.drop 1).map BA) := ⟨hcut⟩
    refine xcall0 (numbers_spec (s.cut 1 s.n s.c 1) (ws.drop 1) (fun w hw => by have := hm w (List.mem_of_mem_drop hw); omega) (by simp; omega)) rdb ?_
    rintro ⟨s2, c2, _⟩ _ (⟨hnum, hc2, rfl⟩ | ⟨vs, hvs, hc2, rfl⟩)
    · obtain rfl : c2 = false := hc2
      have hnone : headM ws = none := by
        cases e : headM ws with
        | none => rfl
        | some t =>
          obtain ⟨w, hw, hwn⟩ := numsI_none hnum
          obtain ⟨_, _, g1, g2, g3, g4, g5, g6, _⟩ := headM_some.1 e
          obtain ⟨j, hj⟩ := List.getElem?_of_mem hw
          have hj6 := (List.getElem?_eq_some_iff.1 hj).1
          simp at hj6
          have hwd : wd ws (j + 1) = w := by rw [← wd_drop, hj]; rfl
          have : j = 0 ∨ j = 1 ∨ j = 2 ∨ j = 3 ∨ j = 4 ∨ j = 5 := by omega
          rcases this with rfl | rfl | rfl | rfl | rfl | rfl
          all_goals
            rw [← hwd] at hwn
            simp_all
      refine app0 (ca2 ?_)
      refine xjoin (xiff rfl ?_)
      iterate 7 (refine xget (h := ?_))
      iterate 7 (refine xset (h := ?_))
      iterate 7 (refine xget (h := ?_))
      exact xkeep (l := []) (xret (.inr ⟨by rw [hst, hnone], rfl, rfl⟩))
    · obtain rfl : c2 = true := hc2
      obtain ⟨hvl, hvi⟩ := numsI_some hvs
      have hdl : (ws.drop 1).length = 6 := by simp; omega
      rw [hdl] at hvl hvi
      have gv : ∀ i, i < 6 → ∃ v, vs[i]? = some v := fun i hi => ⟨_, List.getElem?_eq_getElem (by omega)⟩
      obtain ⟨v0, q0⟩ := gv 0 (by decide)
      have p0 : numI (wd ws 1) = some v0 := by rw [← wd_drop]; exact (hvi 0 (by decide)).trans q0
      obtain ⟨v1, q1⟩ := gv 1 (by decide)
      have p1 : numI (wd ws 2) = some v1 := by rw [← wd_drop]; exact (hvi 1 (by decide)).trans q1
      obtain ⟨v2, q2⟩ := gv 2 (by decide)
      have p2 : numI (wd ws 3) = some v2 := by rw [← wd_drop]; exact (hvi 2 (by decide)).trans q2
      obtain ⟨v3, q3⟩ := gv 3 (by decide)
      have p3 : numI (wd ws 4) = some v3 := by rw [← wd_drop]; exact (hvi 3 (by decide)).trans q3
      obtain ⟨v4, q4⟩ := gv 4 (by decide)
      have p4 : numI (wd ws 5) = some v4 := by rw [← wd_drop]; exact (hvi 4 (by decide)).trans q4
      obtain ⟨v5, q5⟩ := gv 5 (by decide)
      have p5 : numI (wd ws 6) = some v5 := by rw [← wd_drop]; exact (hvi 5 (by decide)).trans q5
      refine app1 (ca2 ?_)
      refine xjoin (xift rfl (xdraw ?_))
      refine xelI 0 v0 q0 (h := ?_)
      refine xelI 1 v1 q1 (h := ?_)
      refine xelI 2 v2 q2 (h := ?_)
      refine xelI 3 v3 q3 (h := ?_)
      refine xelI 4 v4 q4 (h := ?_)
      refine xelI 5 v5 q5 (h := ?_)
      iterate 7 (refine xset (h := ?_))
      iterate 6 (refine xget (h := ?_))
      refine xget (s := .slice) (x := ⟨none, 0, 0⟩) (h := ?_)
      iterate 7 (refine xset (h := ?_))
      iterate 6 (refine xget (h := ?_))
      refine xget (s := .slice) (x := ⟨none, 0, 0⟩) (h := ?_)
      refine xnone TG ?_
      refine xuse [Ar TG ⟨none, 0, 0⟩ []] (xret (.inl ⟨⟨v0, v1, v2, v3, v4, v5, []⟩, ⟨none, 0, 0⟩, ?_, rfl, rfl⟩))
      rw [hst]
      exact headM_some.2 ⟨hl, hw0, p0, p1, p2, p3, p4, p5, rfl⟩

theorem split_step {c : UInt8} {s : List UInt8} {f k : Nat} (hf : f ≤ k) (hk : s[k]? = some c) (hn : c ∉ (s.take k).drop f) : splitL c (s.drop f) = (s.take k).drop f :: splitL c (s.drop (k + 1)) := by
  have hlt := (List.getElem?_eq_some_iff.1 hk).1
  have e : s.drop f = (s.take k).drop f ++ c :: s.drop (k + 1) := by
    conv => lhs; rw [← List.take_append_drop k s]
    rw [List.drop_append_of_le_length (by rw [List.length_take]; omega), List.drop_eq_getElem_cons hlt, (List.getElem?_eq_some_iff.1 hk).2]
  rw [e, splitL_hit hn]

set_option maxHeartbeats 8000000 in
theorem ParseRef_spec (S : List UInt8) : Ct Pr F_ref27_Parse [.string (BA S)] (.tup [some 7, none, none]) [.int .i64, .int .i64, .int .i64, .int .i64, .int .i64, .int .i64, .slice, .int .i64, .int .i64] [] emp
    (fun t Bs => ∃ sl : Sl, t = ((parseM S).1.timeout, (parseM S).1.retries, (parseM S).1.window, (parseM S).1.resend, (parseM S).1.span, (parseM S).1.keep, sl, (parseM S).2.1, (parseM S).2.2, ()) ∧ Bs = [Ar TG sl (parseM S).1.tags]) := by
  refine spec9 c_ref27_Parse fun B hr => ?_
  unfold ref27_Parse
  rw [BA_size]
  refine xnew fun b => ?_
  refine xif_dec (fun h => ?_) (fun h => ?_)
  · have hp : parseM S = (cfg0, 0, 2) := by unfold parseM; rw [if_pos (by omega)]
    rw [hp]
    iterate 7 (refine xset (h := ?_))
    iterate 6 (refine xget (h := ?_))
    refine xget (s := .slice) (x := ⟨none, 0, 0⟩) (h := ?_)
    refine xnone TG ?_
    exact xuse [Ar TG ⟨none, 0, 0⟩ []] (xret ⟨_, rfl, rfl⟩)
  have hp : parseM S = match goT (splitL 10 S) 1 cfg0 with
    | (none, no) => (cfg0, (no : Int), 33)
    | (some c, _) => endM c := by unfold parseM; rw [if_neg (by omega)]; rfl
  refine xnew fun b1 => ?_
  iterate 7 (refine xset (h := ?_))
  refine xnone TG ?_
  refine xuse [Blk b1 (cfg0.cs ⟨none, 0, 0⟩), Ar TG ⟨none, 0, 0⟩ [], Blk b [.int .i64 0, .int .i64 0, .int .i64 0, .int .i64 0, .int .i64 0, .int .i64 0, .slice none 0 0]] ?_
  refine xloop3 (fun m (fr : Int) (n : Int) (i : Int) As' => ∃ (k f no : Nat) (c : Cfg) (sl : Sl), fr = (f : Int) ∧ n = (no : Int) ∧ i = (k : Int) ∧ m = S.length - k ∧ f ≤ k ∧ k ≤ S.length ∧ 1 ≤ no ∧ no ≤ f + 1 ∧ c.tags.length ≤ no ∧ (10 : UInt8) ∉ (S.take k).drop f ∧ goT (splitL 10 S) 1 cfg0 = goT (splitL 10 (S.drop f)) no c ∧ As' = [Blk b1 (c.cs sl), Ar TG sl c.tags, Blk b [.int .i64 0, .int .i64 0, .int .i64 0, .int .i64 0, .int .i64 0, .int .i64 0, .slice none 0 0]]) S.length ⟨0, 0, 1, cfg0, ⟨none, 0, 0⟩, rfl, rfl, rfl, rfl, by omega, by omega, by omega, by omega, by simp, by simp, rfl, rfl⟩ ?_
  rintro m fr n i As' K ⟨k, f, no, c, sl, rfl, rfl, rfl, rfl, hfk, hk, hno, hnf, htl, hnl, hgo, rfl⟩ hK
  rw [hgo] at hp
  refine xif_dec (fun hlt => ?_) (fun hlt => ?_)
  · have hlt : k < S.length := by omega
    obtain ⟨y, hy⟩ : ∃ w, S[k]? = some w := ⟨_, List.getElem?_eq_getElem hlt⟩
    refine xjoin (xbyte (k := k) rfl (BA_at hy) ?_)
    refine xif (fun h1 => ?_) (fun h1 => ?_)
    · have hy10 : y ≠ 10 := by
        intro e; subst e; simp at h1
      rw [wrap_succ k (by omega)]
      exact hK (S.length - (k + 1)) _ _ _ _ (by omega) ⟨k + 1, f, no, c, sl, rfl, rfl, rfl, rfl, by omega, by omega, hno, hnf, htl, notin_step hfk hy hy10 hnl, hgo, rfl⟩
    have hy10 : y = 10 := by
      have h1 : (y.toNat : Int) = 10 := by simpa using h1
      exact UInt8.toNat_inj.1 (by have : y.toNat = 10 := by omega
                                  rw [this]; rfl)
    subst hy10
    have hsp := split_step hfk hy hnl
    obtain ⟨l, hl⟩ : ∃ l, l = (S.take k).drop f := ⟨_, rfl⟩
    have hll : l.length ≤ 1048576 := by rw [hl]; simp; omega
    have hg : goT (splitL 10 (S.drop f)) no c = match stepM no l c with
      | some c' => goT (splitL 10 (S.drop (k + 1))) (no + 1) c'
      | none => (none, no) := by rw [hsp, ← hl]; exact goT_cons (splitL_ne _ _)
    have hfi : ((no : Int) == 1) = (no == 1) := by rw [Bool.eq_iff_iff]; simp; omega
    have hsw : stepM no l c = stepW (no == 1) (splitL 32 l) c := by
      unfold stepM stepW
      by_cases e : no = 1
      · subst e; rfl
      · have : (no == 1) = false := by simpa using e
        rw [if_neg e, this]; rfl
    have hwm : ∀ w ∈ splitL 32 l, w.length ≤ 1048576 := fun w hw => by have := splitL_len hw; omega
    rw [hfi]
    refine xdraw ?_
    iterate 7 (refine xget (h := ?_))
    refine xsub rfl rfl hfk (by omega) ?_
    rw [← hl]
    have good : ∀ {As' F' : List HP} {c' : Cfg} {sl' : Sl} [Split [Blk b1 (c'.cs sl'), Ar TG sl' c'.tags, Blk b [.int .i64 0, .int .i64 0, .int .i64 0, .int .i64 0, .int .i64 0, .int .i64 0, .slice none 0 0]] As' F'], stepW (no == 1) (splitL 32 l) c = some c' → Ent B As' (K (IntKind.i64.wrap ((k : Int) + 1)) (IntKind.i64.wrap ((no : Int) + 1)) (IntKind.i64.wrap ((k : Int) + 1))) := by
      intro As' F' c' sl' _ hst
      rw [wrap_succ k (by omega), wrap_succ no (by omega)]
      refine xuse [Blk b1 (c'.cs sl'), Ar TG sl' c'.tags, Blk b [.int .i64 0, .int .i64 0, .int .i64 0, .int .i64 0, .int .i64 0, .int .i64 0, .slice none 0 0]] (hK (S.length - (k + 1)) _ _ _ _ (by omega) ⟨k + 1, k + 1, no + 1, c', sl', rfl, rfl, rfl, rfl, by omega, by omega, by omega, by omega, ?_, notin_nil _, ?_, rfl⟩)
      · rw [← hsw] at hst
        unfold stepM at hst
        split at hst
        · have := (headM_some.1 hst).2.2.2.2.2.2.2.2
          rw [this]; simp
        · obtain ⟨t, _, e⟩ := Option.map_eq_some_iff.1 hst
          rw [← e]; simp; omega
      · rw [hgo, hg, hsw, hst]
    refine xand ?_ ?_
    · refine xcall0 (words_spec l hll) rdb ?_
      rintro ⟨s2, _⟩ _ rfl
      refine app1 (ca1 ?_)
      dsimp only
      refine xlen s2 (fun hl2 hc2 => ?_)
      iterate 7 (refine xchk (h := ?_))
      refine xand ?_ ?_
      · refine xcl (rline_spec c sl s2 (splitL 32 l) (no == 1) hwm hc2 (by omega)) rdb ?_
        rintro ⟨u0, u1, u2, u3, u4, u5, us, ok, _⟩ _ (⟨c', sl', hst, hv, rfl⟩ | ⟨hst, hok, rfl⟩)
        · simp only [Prod.mk.injEq] at hv
          obtain ⟨rfl, rfl, rfl, rfl, rfl, rfl, rfl, rfl, _⟩ := hv
          refine app1 (ca8 ?_)
          refine xnew fun b2 => ?_
          iterate 7 (refine xset (h := ?_))
          refine xiff rfl ?_
          iterate 7 (refine xget (h := ?_))
          iterate 7 (refine xset (h := ?_))
          exact good (c' := c') (sl' := us) hst
        · obtain rfl : ok = false := hok
          refine app0 (ca8 ?_)
          refine xnew fun b2 => ?_
          iterate 7 (refine xset (h := ?_))
          refine xift rfl ?_
          have hp : parseM S = (cfg0, (no : Int), 33) := by rw [hp, hg, hsw, hst]
          rw [hp]
          iterate 7 (refine xset (h := ?_))
          iterate 6 (refine xget (h := ?_))
          refine xget (s := .slice) (x := ⟨none, 0, 0⟩) (h := ?_)
          refine xnone TG ?_
          exact xuse [Ar TG ⟨none, 0, 0⟩ []] (xret ⟨_, rfl, rfl⟩)
      · refine xnew fun b2 => ?_
        refine xcl (rline_spec c sl s2 (splitL 32 l) (no == 1) hwm hc2 (by omega)) rdb ?_
        rintro ⟨u0, u1, u2, u3, u4, u5, us, ok, _⟩ _ (⟨c', sl', hst, hv, rfl⟩ | ⟨hst, hok, rfl⟩)
        · simp only [Prod.mk.injEq] at hv
          obtain ⟨rfl, rfl, rfl, rfl, rfl, rfl, rfl, rfl, _⟩ := hv
          refine app1 (ca8 ?_)
          iterate 7 (refine xset (h := ?_))
          refine xiff rfl ?_
          iterate 7 (refine xget (h := ?_))
          iterate 7 (refine xset (h := ?_))
          exact good (c' := c') (sl' := us) hst
        · obtain rfl : ok = false := hok
          refine app0 (ca8 ?_)
          iterate 7 (refine xset (h := ?_))
          refine xift rfl ?_
          have hp : parseM S = (cfg0, (no : Int), 33) := by rw [hp, hg, hsw, hst]
          rw [hp]
          iterate 7 (refine xset (h := ?_))
          iterate 6 (refine xget (h := ?_))
          refine xget (s := .slice) (x := ⟨none, 0, 0⟩) (h := ?_)
          refine xnone TG ?_
          exact xuse [Ar TG ⟨none, 0, 0⟩ []] (xret ⟨_, rfl, rfl⟩)
    · refine xnew fun b2 => ?_
      refine xcall0 (words_spec l hll) rdb ?_
      rintro ⟨s2, _⟩ _ rfl
      refine app1 (ca1 ?_)
      dsimp only
      refine xlen s2 (fun hl2 hc2 => ?_)
      iterate 7 (refine xchk (h := ?_))
      refine xcl (rline_spec c sl s2 (splitL 32 l) (no == 1) hwm hc2 (by omega)) rdb ?_
      rintro ⟨u0, u1, u2, u3, u4, u5, us, ok, _⟩ _ (⟨c', sl', hst, hv, rfl⟩ | ⟨hst, hok, rfl⟩)
      · simp only [Prod.mk.injEq] at hv
        obtain ⟨rfl, rfl, rfl, rfl, rfl, rfl, rfl, rfl, _⟩ := hv
        refine app1 (ca8 ?_)
        iterate 7 (refine xset (h := ?_))
        refine xiff rfl ?_
        iterate 7 (refine xget (h := ?_))
        iterate 7 (refine xset (h := ?_))
        exact good (c' := c') (sl' := us) hst
      · obtain rfl : ok = false := hok
        refine app0 (ca8 ?_)
        iterate 7 (refine xset (h := ?_))
        refine xift rfl ?_
        have hp : parseM S = (cfg0, (no : Int), 33) := by rw [hp, hg, hsw, hst]
        rw [hp]
        iterate 7 (refine xset (h := ?_))
        iterate 6 (refine xget (h := ?_))
        refine xget (s := .slice) (x := ⟨none, 0, 0⟩) (h := ?_)
        refine xnone TG ?_
        exact xuse [Ar TG ⟨none, 0, 0⟩ []] (xret ⟨_, rfl, rfl⟩)
  · have hk' : k = S.length := by omega
    subst hk'
    rw [List.take_of_length_le (Nat.le_refl _)] at hnl
    have hg : goT (splitL 10 (S.drop f)) no c = if no = 1 ∨ S.drop f ≠ [] then (none, no) else (some c, 0) := by rw [splitL_none hnl]; rfl
    have hcond : (((no : Int) == 1) || decide ((f : Int) < (S.length : Int))) = decide (no = 1 ∨ S.drop f ≠ []) := by
      rw [Bool.eq_iff_iff]
      simp only [Bool.or_eq_true, beq_iff_eq, decide_eq_true_eq, ne_eq, List.drop_eq_nil_iff]
      omega
    rw [hcond]
    refine xif_dec (fun h1 => ?_) (fun h1 => ?_)
    · have hp : parseM S = (cfg0, (no : Int), 33) := by rw [hp, hg, if_pos h1]
      rw [hp]
      iterate 7 (refine xset (h := ?_))
      iterate 6 (refine xget (h := ?_))
      refine xget (s := .slice) (x := ⟨none, 0, 0⟩) (h := ?_)
      refine xnone TG ?_
      exact xuse [Ar TG ⟨none, 0, 0⟩ []] (xret ⟨_, rfl, rfl⟩)
    rw [hg, if_neg h1] at hp
    simp only at hp
    iterate 7 (refine xget (h := ?_))
    refine xcall0 (ownRef_spec c sl) rdb ?_
    rintro ⟨o, _⟩ _ ⟨ho, rfl⟩
    obtain rfl : o = ownB c := ho
    refine app0 (ca1 (xif (fun h2 => ?_) (fun h2 => ?_)))
    · have h2 : ownB c = false := by simpa using h2
      have hp : parseM S = (cfg0, 1, 32) := by rw [hp]; unfold endM; rw [if_pos h2]
      rw [hp]
      iterate 7 (refine xset (h := ?_))
      iterate 6 (refine xget (h := ?_))
      refine xget (s := .slice) (x := ⟨none, 0, 0⟩) (h := ?_)
      refine xnone TG ?_
      exact xuse [Ar TG ⟨none, 0, 0⟩ []] (xret ⟨_, rfl, rfl⟩)
    have h2 : ¬ ownB c = false := by simpa using h2
    refine xget (h := ?_)
    refine xcall0 (CheckAllRef_spec sl c.tags) rdb ?_
    rintro ⟨e, at_, _⟩ _ ⟨he, hat, rfl⟩
    simp only at he hat; subst he hat
    refine app0 (ca2 (xif (fun h3 => ?_) (fun h3 => ?_)))
    · have h3 : (allE c.tags).1 ≠ 0 := by simpa using h3
      obtain ⟨k0, k1⟩ := allE_bound c.tags
      have hp : parseM S = (cfg0, (allE c.tags).2 + 2, (allE c.tags).1) := by rw [hp]; unfold endM; rw [if_neg h2, if_pos h3]
      rw [hp]
      rw [show (2 : Int) + (allE c.tags).2 = (allE c.tags).2 + 2 from Int.add_comm _ _, wrap_id ((allE c.tags).2 + 2) (by omega) (by omega)]
      iterate 7 (refine xset (h := ?_))
      iterate 6 (refine xget (h := ?_))
      refine xget (s := .slice) (x := ⟨none, 0, 0⟩) (h := ?_)
      refine xnone TG ?_
      exact xuse [Ar TG ⟨none, 0, 0⟩ []] (xret ⟨_, rfl, rfl⟩)
    · have h3 : ¬ (allE c.tags).1 ≠ 0 := by simpa using h3
      have hp : parseM S = (c, 0, 0) := by rw [hp]; unfold endM; rw [if_neg h2, if_neg h3]
      rw [hp]
      iterate 7 (refine xget (h := ?_))
      iterate 7 (refine xset (h := ?_))
      iterate 7 (refine xget (h := ?_))
      exact xuse [Ar TG sl c.tags] (xret ⟨_, rfl, rfl⟩)

end Go.Cx
