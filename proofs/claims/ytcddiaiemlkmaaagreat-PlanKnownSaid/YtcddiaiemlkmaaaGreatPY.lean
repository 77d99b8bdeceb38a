/-
  PlanKnown.
-/
import Derived.Test.YtcddiaiemlkmaaaGreatPX
import Derived.Test.YtcddiaiemlkmaaaGreatPT
import Derived.Test.YtcddiaiemlkmaaaGreatPU
namespace Go.Cx
open Go Go.Cf
set_option linter.unusedVariables false
set_option maxRecDepth 100000
variable {B : Base} {As F : List HP} {α β : Type}

theorem each_star {R : α → β → HP} : ∀ {xs : List α} {ys : List β} {g : Frag}, xs.length = ys.length → star (List.zipWith R xs ys) g → Each R xs ys g
  | [], [], _, _, _ => trivial
  | x :: xs, y :: ys, g, hl, h => each_take (R := R) (P := R x y) (Ps := List.zipWith R xs ys) (fun _ h => h) (fun _ h => each_star (by simpa using hl) h) h
  | [], _ :: _, _, hl, _ => by simp at hl
  | _ :: _, [], _, hl, _ => by simp at hl

instance Rdb.rwnil : Rdb B F (RW nilS []) := ⟨fun _ _ _ _ _ => ⟨[], ⟨rfl, by simp [flat, nilS], fun h => absurd h (Nat.lt_irrefl 0)⟩, rfl, fun i r b h => by simp at h⟩⟩
instance Rdb.nilS (E : Enc α) : Rdb B F (RAr E nilS []) := ⟨fun _ _ _ _ _ => ⟨rfl, by simp [flat, Go.Cx.nilS], fun h => absurd h (Nat.lt_irrefl 0)⟩⟩
theorem rdb_two {b : Nat} {x y z : Tag} [r : Rdb B F (RAr TG ⟨some ⟨b, 0, none⟩, 3, 3⟩ [x, y, z])] : Rdb B F (RAr TG ⟨some ⟨b, 0, none⟩, 2, 3⟩ [x, y]) := ⟨fun g h1 hF h2 h3 => by
  have := (r.go g h1 hF h2 h3).cut 0 2 3 (by omega) (by omega) (by simp)
  have e := cut_zero ⟨some ⟨b, 0, none⟩, 3, 3⟩ 2 TG.sz
  simp only at e
  rw [e] at this
  exact this⟩

abbrev twoT : Tag := { regT ⟨#[98]⟩ 1 with unit := 2 }
abbrev wideT : Tag := { regT ⟨#[99]⟩ 2 with wide := true }
abbrev list3 : List Tag := [regT ⟨#[97]⟩ 0, twoT, wideT]
abbrev w4 : List UInt16 := [7, 8, 1, 2]
abbrev xss7 : List (List Int) := [[], [0], [2, 0, 2], [1], [3], [-1], [0, 1]]
theorem allk : allE list3 = (0, 0) := by kernel_rfl
theorem valsk : valuesM list3 ⟨1, 3, 0, 4, 0, [2, 0]⟩ 0 [] w4 0 = ([65538, 7], 0) := by
  unfold valuesM
  rw [allk]
  kernel_rfl

theorem knownValues_spec : Ct Pr F_law10_knownValues [] .one [.bool] [] emp (fun t Bs => t.1 = true ∧ Bs = []) := by
  refine spec1 c_law10_knownValues fun B hr => ?_
  unfold law10_knownValues
  refine xcall0 (reg_spec _ _) rdb ?_
  rintro t _ ⟨rfl, rfl⟩
  refine app0 (ca19 (xnew fun b => ?_))
  iterate 20 (refine xset (h := ?_))
  refine xcall0 (reg_spec _ _) rdb ?_
  rintro t _ ⟨rfl, rfl⟩
  refine app0 (ca19 (xnew fun b1 => ?_))
  iterate 20 (refine xset (h := ?_))
  refine xdraw ?_
  iterate 38 (refine xget (h := ?_))
  refine xcall0 (reg_spec _ _) rdb ?_
  rintro t _ ⟨rfl, rfl⟩
  refine app0 (ca19 ?_)
  iterate 38 (refine xchk (h := ?_))
  refine xnew fun b2 => ?_
  refine xfold1 (Q := Ar TG ⟨some ⟨b2, 0, none⟩, 3, 3⟩ list3) 0 (fun g hg => ⟨[], blk_ar list3 3 rfl rfl hg⟩) ?_
  refine xnew fun b3 => xnew fun b4 => ?_
  iterate 6 (refine xset (h := ?_))
  refine xnew fun b5 => ?_
  refine xfold1 (Q := Ar U16 ⟨some ⟨b5, 0, none⟩, 4, 4⟩ w4) 0 (fun g hg => ⟨[], blk_ar w4 4 rfl rfl hg⟩) ?_
  refine xnew fun b6 => ?_
  iterate 4 (refine xset (h := ?_))
  refine xnew fun b7 => xfold1 (Q := Ar I64 ⟨some ⟨b7, 0, none⟩, 1, 1⟩ [0]) 0 (fun g hg => ⟨[], blk_ar [0] 1 rfl rfl hg⟩) ?_
  refine xnew fun b8 => xfold1 (Q := Ar I64 ⟨some ⟨b8, 0, none⟩, 3, 3⟩ [2, 0, 2]) 0 (fun g hg => ⟨[], blk_ar [2, 0, 2] 3 rfl rfl hg⟩) ?_
  refine xnew fun b9 => xfold1 (Q := Ar I64 ⟨some ⟨b9, 0, none⟩, 1, 1⟩ [1]) 0 (fun g hg => ⟨[], blk_ar [1] 1 rfl rfl hg⟩) ?_
  refine xnew fun b10 => xfold1 (Q := Ar I64 ⟨some ⟨b10, 0, none⟩, 1, 1⟩ [3]) 0 (fun g hg => ⟨[], blk_ar [3] 1 rfl rfl hg⟩) ?_
  refine xnew fun b11 => xfold1 (Q := Ar I64 ⟨some ⟨b11, 0, none⟩, 1, 1⟩ [-1]) 0 (fun g hg => ⟨[], blk_ar [-1] 1 rfl rfl hg⟩) ?_
  refine xnew fun b12 => xfold1 (Q := Ar I64 ⟨some ⟨b12, 0, none⟩, 2, 2⟩ [0, 1]) 0 (fun g hg => ⟨[], blk_ar [0, 1] 2 rfl rfl hg⟩) ?_
  generalize hss : ([nilS, ⟨some ⟨b7, 0, none⟩, 1, 1⟩, ⟨some ⟨b8, 0, none⟩, 3, 3⟩, ⟨some ⟨b9, 0, none⟩, 1, 1⟩, ⟨some ⟨b10, 0, none⟩, 1, 1⟩, ⟨some ⟨b11, 0, none⟩, 1, 1⟩, ⟨some ⟨b12, 0, none⟩, 2, 2⟩] : List Sl) = ss
  have hsl : ss.length = 7 := by rw [← hss]; rfl
  refine xnew fun b13 => xfold1 (Q := Ar SL ⟨some ⟨b13, 0, none⟩, 7, 7⟩ ss) 0 (fun g hg => ⟨[], blk_ar ss 7 (by subst hss; rfl) (by subst hss; rfl) (by subst hss; exact hg)⟩) ?_
  refine xnone I64 ?_
  refine xfold [Ar I64 nilS [], Ar I64 ⟨some ⟨b7, 0, none⟩, 1, 1⟩ [0], Ar I64 ⟨some ⟨b8, 0, none⟩, 3, 3⟩ [2, 0, 2], Ar I64 ⟨some ⟨b9, 0, none⟩, 1, 1⟩ [1], Ar I64 ⟨some ⟨b10, 0, none⟩, 1, 1⟩ [3], Ar I64 ⟨some ⟨b11, 0, none⟩, 1, 1⟩ [-1], Ar I64 ⟨some ⟨b12, 0, none⟩, 2, 2⟩ [0, 1]] (Each (Ar I64) ss xss7) (fun g hg => by subst hss; exact each_star rfl hg) ?_
  clear hss
  have val : ∀ {As : List HP} {K : Bool → WP} (p : Poll) (sp : Sl) (s : Sl) (ts : List Tag) (exc : Int) (r2 : Sl) (ws : List UInt16), r2.n ≤ r2.c → Rds B As ((RAr TG s ts).and ((RAr I64 sp p.tags).and ((RAr BL nilS []).and ((RAr U16 r2 ws).and (RW nilS []))))) → Ent B As (K true) → Ent B As (XCall Pr F_law10_PlanValues [s.v, .agg #[.int .i64 p.unit, .int .i64 p.kind, .int .i64 p.addr, .int .i64 p.count, .int .i64 p.every, sp.v], .agg #[.int .i64 exc, nilS.v, r2.v, nilS.v]] .one [.bool] K) := by
    intro As K p sp s ts exc r2 ws h1 h2 h3
    refine xcall0 (PlanValues_spec s ts p sp exc nilS r2 nilS [] ws [] h1 (by simp)) h2 ?_
    rintro ⟨c, _⟩ _ ⟨hc, rfl⟩
    obtain rfl : c = true := hc
    exact app0 (ca1 h3)
  refine xfold1 (Q := Blk b1 wideT.cells) 7 (fun g hg => hg) ?_
  obtain ⟨s5, hs5⟩ : ∃ s : Sl, s = ⟨some ⟨b5, 0, none⟩, 4, 4⟩ := ⟨_, rfl⟩
  obtain ⟨s3, hs3⟩ : ∃ s : Sl, s = ⟨some ⟨b3, 0, none⟩, 2, 2⟩ := ⟨_, rfl⟩
  have h5 : s5.n ≤ s5.c := by subst hs5; exact Nat.le_refl _
  refine xuse [Blk b6 [.int .i64 0, .slice none 0 0, .slice (some ⟨b5, 0, none⟩) 4 4, .slice none 0 0], Ar U16 ⟨some ⟨b5, 0, none⟩, 4, 4⟩ w4, Ar TG ⟨some ⟨b2, 0, none⟩, 3, 3⟩ list3, Blk b1 wideT.cells, Blk b4 [.int .i64 1, .int .i64 3, .int .i64 0, .int .i64 4, .int .i64 0, .slice (some ⟨b3, 0, none⟩) 2 2], Ar SL ⟨some ⟨b13, 0, none⟩, 7, 7⟩ ss, Each (Ar I64) ss xss7] ?_
  refine xfold1 (Q := Blk b6 [.int .i64 0, nilS.v, s5.v, nilS.v]) 0 (fun g hg => by subst hs5; exact hg) ?_
  refine xfold1 (Q := Ar U16 s5 w4) 1 (fun g hg => by subst hs5; exact hg) ?_
  refine xfold1 (Q := Blk b4 [.int .i64 1, .int .i64 3, .int .i64 0, .int .i64 4, .int .i64 0, s3.v]) 4 (fun g hg => by subst hs3; exact hg) ?_
  refine xuse [Blk b6 [.int .i64 0, nilS.v, s5.v, nilS.v], Ar U16 s5 w4, Ar TG ⟨some ⟨b2, 0, none⟩, 3, 3⟩ list3, Blk b1 wideT.cells, Blk b4 [.int .i64 1, .int .i64 3, .int .i64 0, .int .i64 4, .int .i64 0, s3.v], Ar SL ⟨some ⟨b13, 0, none⟩, 7, 7⟩ ss, Each (Ar I64) ss xss7] ?_
  clear hs5 hs3
  refine xloop1 (fun n (i : Int) As' => ∃ (k : Nat) (sp : Sl), i = (k : Int) ∧ n = 7 - k ∧ k ≤ 7 ∧ As' = [Blk b6 [.int .i64 0, nilS.v, s5.v, nilS.v], Ar U16 s5 w4, Ar TG ⟨some ⟨b2, 0, none⟩, 3, 3⟩ list3, Blk b1 wideT.cells, Blk b4 [.int .i64 1, .int .i64 3, .int .i64 0, .int .i64 4, .int .i64 0, sp.v], Ar SL ⟨some ⟨b13, 0, none⟩, 7, 7⟩ ss, Each (Ar I64) ss xss7]) 7 ⟨0, s3, rfl, rfl, by omega, rfl⟩ ?_
  rintro n i As' K ⟨k, sp0, rfl, rfl, hk, rfl⟩ hK
  refine xif_dec (fun hp => ?_) (fun hp => ?_)
  · have hp : k < 7 := by omega
    refine xidxn (E := SL) (xs := ss) (s := ⟨some ⟨b13, 0, none⟩, 7, 7⟩) (h1 := by omega) (h := fun sp hsp => ?_)
    refine xgetE (E := SL) (xs := ss) hsp (h := ?_)
    refine xset (h := xdraw (xjoin ?_))
    obtain ⟨xs, hxs⟩ : ∃ xs, xss7[k]? = some xs := ⟨_, List.getElem?_eq_getElem (by simpa using hp)⟩
    refine xunf 6 [Ar I64 sp xs, Each (Ar I64) (ss.eraseIdx k) (xss7.eraseIdx k)] (fun g hg => each_pick (R := Ar I64) hg hsp hxs) (app2 ?_)
    iterate 10 (refine xget (h := ?_))
    haveI : ∀ {F : List HP} [Rdb B F (RAr TG ⟨some ⟨b2, 0, none⟩, 3, 3⟩ list3)], Rdb B F (RAr TG ⟨some ⟨b2, 0, none⟩, 2, 3⟩ [regT ⟨#[97]⟩ 0, twoT]) := fun {F} _ => rdb_two (z := wideT)
    refine val ⟨1, 3, 0, 4, 0, xs⟩ sp ⟨some ⟨b2, 0, none⟩, 3, 3⟩ list3 0 s5 w4 h5 rdb (xiff rfl ?_)
    iterate 6 (refine xget (h := ?_))
    refine val ⟨1, 3, 0, 4, 0, xs⟩ sp ⟨some ⟨b2, 0, none⟩, 3, 3⟩ list3 2 nilS [] (Nat.le_refl _) rdb (xiff rfl ?_)
    refine xslc0 rfl (by omega) (show (2 : Int) ≤ ((3 : Nat) : Int) by decide) ?_
    iterate 10 (refine xget (h := ?_))
    refine val ⟨1, 3, 0, 4, 0, xs⟩ sp ⟨some ⟨b2, 0, none⟩, 2, 3⟩ [regT ⟨#[97]⟩ 0, twoT] 0 s5 w4 h5 rdb (xiff rfl ?_)
    refine xfold [Ar I64 sp xs, Each (Ar I64) (ss.eraseIdx k) (xss7.eraseIdx k)] (Each (Ar I64) ss xss7) (fun g hg => by have := each_put (R := Ar I64) (xs := ss) (ys := xss7) (x := sp) (y := xs) (by omega) (by simpa using hp) hg; rwa [set_self hsp, set_self hxs] at this) ?_
    rw [wrap_succ k (by omega)]
    exact xuse [Blk b6 [.int .i64 0, nilS.v, s5.v, nilS.v], Ar U16 s5 w4, Ar TG ⟨some ⟨b2, 0, none⟩, 3, 3⟩ list3, Blk b1 wideT.cells, Blk b4 [.int .i64 1, .int .i64 3, .int .i64 0, .int .i64 4, .int .i64 0, sp.v], Ar SL ⟨some ⟨b13, 0, none⟩, 7, 7⟩ ss, Each (Ar I64) ss xss7] (hK _ _ _ (by omega) ⟨k + 1, sp, rfl, rfl, by omega, rfl⟩)
  · refine xnew fun b14 => xset (h := ?_)
    refine xfold1 (Q := Ar I64 ⟨some ⟨b14, 0, none⟩, 1, 1⟩ [0]) 0 (fun g hg => ⟨[], blk_ar [0] 1 rfl rfl hg⟩) ?_
    obtain ⟨s14, h14⟩ : ∃ s : Sl, s = ⟨some ⟨b14, 0, none⟩, 1, 1⟩ := ⟨_, rfl⟩
    refine xuse [Ar I64 ⟨some ⟨b14, 0, none⟩, 1, 1⟩ [0], Blk b6 [.int .i64 0, nilS.v, s5.v, nilS.v], Ar U16 s5 w4, Ar TG ⟨some ⟨b2, 0, none⟩, 3, 3⟩ list3, Blk b1 wideT.cells, Blk b4 [.int .i64 1, .int .i64 3, .int .i64 0, .int .i64 4, .int .i64 0, .slice (some ⟨b14, 0, none⟩) 1 1]] ?_
    refine xfold1 (Q := Ar I64 s14 [0]) 0 (fun g hg => by subst h14; exact hg) ?_
    refine xfold1 (Q := Blk b4 [.int .i64 1, .int .i64 3, .int .i64 0, .int .i64 4, .int .i64 0, s14.v]) 5 (fun g hg => by subst h14; exact hg) ?_
    refine xuse [Ar I64 s14 [0], Blk b6 [.int .i64 0, nilS.v, s5.v, nilS.v], Ar U16 s5 w4, Ar TG ⟨some ⟨b2, 0, none⟩, 3, 3⟩ list3, Blk b1 wideT.cells, Blk b4 [.int .i64 1, .int .i64 3, .int .i64 0, .int .i64 4, .int .i64 0, s14.v]] ?_
    refine xloop1 (fun n (i : Int) As' => ∃ k : Nat, i = (k : Int) - 1 ∧ n = 7 - k ∧ k ≤ 7 ∧ As' = [Ar I64 s14 [0], Blk b6 [.int .i64 0, nilS.v, s5.v, nilS.v], Ar U16 s5 w4, Ar TG ⟨some ⟨b2, 0, none⟩, 3, 3⟩ list3, Blk b1 wideT.cells, Blk b4 [.int .i64 1, .int .i64 3, .int .i64 0, .int .i64 4, .int .i64 0, s14.v]]) 7 ⟨0, rfl, rfl, by omega, rfl⟩ ?_
    rintro n i As' K ⟨k, rfl, rfl, hk, rfl⟩ hK
    refine xif_dec (fun hp => ?_) (fun hp => ?_)
    · have wk1 : IntKind.i64.wrap ((k : Int) - 1 + 1) = ((k + 1 : Nat) : Int) - 1 := by rw [wrap_id _ (by omega) (by omega)]; omega
      iterate 6 (refine xget (h := ?_))
      refine xnew fun b15 => ?_
      iterate 7 (refine xset (h := ?_))
      iterate 6 (refine xget (h := ?_))
      refine xnew fun b16 => ?_
      iterate 7 (refine xset (h := ?_))
      iterate 6 (refine xget (h := ?_))
      refine xnew fun b17 => ?_
      iterate 7 (refine xset (h := ?_))
      iterate 10 (refine xget (h := ?_))
      refine val ⟨1, 3, 0, (k : Int) - 1, 0, [0]⟩ s14 ⟨some ⟨b2, 0, none⟩, 3, 3⟩ list3 0 s5 w4 h5 rdb (xjoin (xiff rfl ?_))
      iterate 10 (refine xget (h := ?_))
      refine val ⟨1, 3, (k : Int) - 1, 4, 0, [0]⟩ s14 ⟨some ⟨b2, 0, none⟩, 3, 3⟩ list3 0 s5 w4 h5 rdb (xjoin (xiff rfl ?_))
      iterate 10 (refine xget (h := ?_))
      refine val ⟨1, (k : Int) - 1, 0, 4, 0, [0]⟩ s14 ⟨some ⟨b2, 0, none⟩, 3, 3⟩ list3 0 s5 w4 h5 rdb (xiff rfl ?_)
      rw [wk1]
      exact xuse [Ar I64 s14 [0], Blk b6 [.int .i64 0, nilS.v, s5.v, nilS.v], Ar U16 s5 w4, Ar TG ⟨some ⟨b2, 0, none⟩, 3, 3⟩ list3, Blk b1 wideT.cells, Blk b4 [.int .i64 1, .int .i64 3, .int .i64 0, .int .i64 4, .int .i64 0, s14.v]] (hK _ _ _ (by omega) ⟨k + 1, rfl, rfl, by omega, rfl⟩)
    · refine xnew fun b18 => ?_
      refine xfold1 (Q := Ar I64 ⟨some ⟨b18, 0, none⟩, 2, 2⟩ [2, 0]) 0 (fun g hg => ⟨[], blk_ar [2, 0] 2 rfl rfl hg⟩) ?_
      iterate 4 (refine xget (h := ?_))
      refine xcall0 (Values_spec ⟨some ⟨b2, 0, none⟩, 3, 3⟩ list3 ⟨1, 3, 0, 4, 0, [2, 0]⟩ ⟨some ⟨b18, 0, none⟩, 2, 2⟩ 0 nilS s5 nilS [] w4 h5 (by decide)) rdb ?_
      rintro ⟨sv, e, _⟩ _ ⟨he, rfl⟩
      simp only at he
      have hv : valuesM list3 ⟨1, 3, 0, 4, 0, [2, 0]⟩ 0 [] w4 nilS.n = ([65538, 7], 0) := valsk
      rw [hv] at he ⊢
      obtain rfl : e = 0 := he
      refine app1 (ca2 (xjoin (xift rfl (xnew fun b19 => ?_))))
      refine xfold1 (Q := Ar I64 ⟨some ⟨b19, 0, none⟩, 2, 2⟩ [65538, 7]) 0 (fun g hg => ⟨[], blk_ar [65538, 7] 2 rfl rfl hg⟩) ?_
      refine xcall0 (SameInts_spec sv ⟨some ⟨b19, 0, none⟩, 2, 2⟩ [65538, 7] (by decide)) rdb ?_
      rintro ⟨c, _⟩ _ ⟨hc, rfl⟩
      obtain rfl : c = true := hc
      refine app0 (ca1 (xjoin (xift rfl (xnew fun b20 => ?_))))
      refine xfold1 (Q := Ar U16 ⟨some ⟨b20, 0, none⟩, 3, 3⟩ [1, 2, 3]) 0 (fun g hg => ⟨[], blk_ar [1, 2, 3] 3 rfl rfl hg⟩) ?_
      refine xcall0 (PlanReads_spec ⟨some ⟨b2, 0, none⟩, 3, 3⟩ ⟨some ⟨b20, 0, none⟩, 3, 3⟩ list3 [1, 2, 3]) rdb ?_
      rintro ⟨c, _⟩ _ ⟨hc, rfl⟩
      obtain rfl : c = true := hc
      refine app0 (ca1 (xjoin (xift rfl (xnew fun b21 => ?_))))
      refine xfold1 (Q := Ar U16 ⟨some ⟨b21, 0, none⟩, 1, 1⟩ [1]) 0 (fun g hg => ⟨[], blk_ar [1] 1 rfl rfl hg⟩) ?_
      refine xcall0 (PlanReads_spec nilS ⟨some ⟨b21, 0, none⟩, 1, 1⟩ [] [1]) rdb ?_
      rintro ⟨c, _⟩ _ ⟨hc, rfl⟩
      obtain rfl : c = true := hc
      refine app0 (ca1 (xjoin (xift rfl ?_)))
      iterate 38 (refine xget (h := ?_))
      refine xnew fun b22 => ?_
      refine xfold1 (Q := Ar TG ⟨some ⟨b22, 0, none⟩, 2, 2⟩ [wideT, wideT]) 0 (fun g hg => ⟨[], blk_ar [wideT, wideT] 2 rfl rfl hg⟩) ?_
      iterate 10 (refine xget (h := ?_))
      exact val ⟨1, 3, 0, 4, 0, [0]⟩ s14 ⟨some ⟨b22, 0, none⟩, 2, 2⟩ [wideT, wideT] 0 s5 w4 h5 rdb (xkeep (l := []) (xret ⟨rfl, rfl⟩))

abbrev aT (v m : Int) : Tag := ⟨⟨#[97]⟩, 1, m, v, 5, false, false, false, 1, 1, 0, 0, 0, false, false, false, 0, 0, 0⟩
abbrev bT (v m : Int) (w : Bool) : Tag := ⟨⟨#[98]⟩, 1, m, v, 5, w, false, false, 1, 1, 0, 0, 0, false, false, false, 0, 0, 0⟩
abbrev addr18 : List Int := [0, 1, 8, 9, 10, 11, 116, 117, 118, 123, 124, 125, 126, 1999, 2000, 2001, 65534, 65535]

theorem PlanKnown_spec : Ct Pr F_law10_PlanKnown [] .one [.bool] [] emp (fun t Bs => t.1 = true ∧ Bs = []) := by
  refine spec1 c_law10_PlanKnown fun B hr => ?_
  unfold law10_PlanKnown
  have polls : ∀ {As : List HP} {K : Bool → WP} (s : Sl) (ts : List Tag), Rds B As (RAr TG s ts) → Ent B As (K true) → Ent B As (XCall Pr F_law10_PlanPolls [s.v] .one [.bool] K) := by
    intro As K s ts h1 h2
    refine xcall0 (PlanPolls_spec s ts) h1 ?_
    rintro ⟨c, _⟩ _ ⟨hc, rfl⟩
    obtain rfl : c = true := hc
    exact app0 (ca1 h2)
  have covers : ∀ {As : List HP} {K : Bool → WP} (s : Sl) (ts : List Tag), Rds B As (RAr TG s ts) → Ent B As (K true) → Ent B As (XCall Pr F_law10_PlanCovers [s.v] .one [.bool] K) := by
    intro As K s ts h1 h2
    refine xcall0 (PlanCovers_spec s ts) h1 ?_
    rintro ⟨c, _⟩ _ ⟨hc, rfl⟩
    obtain rfl : c = true := hc
    exact app0 (ca1 h2)
  have few : ∀ {As : List HP} {K : Bool → WP} (s : Sl) (ts : List Tag), Rds B As (RAr TG s ts) → Ent B As (K true) → Ent B As (XCall Pr F_law10_PlanFew [s.v] .one [.bool] K) := by
    intro As K s ts h1 h2
    refine xcall0 (PlanFew_spec s ts) h1 ?_
    rintro ⟨c, _⟩ _ ⟨hc, rfl⟩
    obtain rfl : c = true := hc
    exact app0 (ca1 h2)
  have asks : ∀ {As : List HP} {K : Bool → WP} (p : Poll) (sp : Sl), Ent B As (K true) → Ent B As (XCall Pr F_law10_PlanAsks [.agg #[.int .i64 p.unit, .int .i64 p.kind, .int .i64 p.addr, .int .i64 p.count, .int .i64 p.every, sp.v]] .one [.bool] K) := by
    intro As K p sp h2
    refine xcall0 (PlanAsks_spec p sp) rdb ?_
    rintro ⟨c, _⟩ _ ⟨hc, rfl⟩
    obtain rfl : c = true := hc
    exact app0 (ca1 h2)
  refine xnew fun b => ?_
  refine xfold1 (Q := Ar I64 ⟨some ⟨b, 0, none⟩, 18, 18⟩ addr18) 0 (fun g hg => ⟨[], blk_ar addr18 18 rfl rfl hg⟩) ?_
  refine xloop1 (fun n (i : Int) As' => ∃ k : Nat, i = (k : Int) ∧ n = 18 - k ∧ k ≤ 18 ∧ As' = [Ar I64 ⟨some ⟨b, 0, none⟩, 18, 18⟩ addr18]) 18 ⟨0, rfl, rfl, by omega, rfl⟩ ?_
  rintro n i As' K ⟨i, rfl, rfl, hi, rfl⟩ hK
  refine xif_dec (fun hp => ?_) (fun hp => ?_)
  rotate_left
  · refine xcall0 knownValues_spec rdb ?_
    rintro ⟨c, _⟩ _ ⟨hc, rfl⟩
    obtain rfl : c = true := hc
    refine app0 (ca1 (xjoin (xift rfl ?_)))
    refine xcall0 works_spec rdb ?_
    rintro ⟨x, _⟩ _ ⟨hx, rfl⟩
    simp only at hx; subst hx
    exact app0 (ca1 (xkeep (l := []) (xret ⟨rfl, rfl⟩)))
  refine xloop1 (fun n (x : Int) As' => ∃ k : Nat, x = (k : Int) ∧ n = 18 - k ∧ k ≤ 18 ∧ As' = [Ar I64 ⟨some ⟨b, 0, none⟩, 18, 18⟩ addr18]) 18 ⟨0, rfl, rfl, by omega, rfl⟩ ?_
  rintro n x As' K1 ⟨k, rfl, rfl, hk, rfl⟩ hK1
  refine xif_dec (fun hp1 => ?_) (fun hp1 => ?_)
  rotate_left
  · rw [wrap_succ i (by omega)]
    exact hK _ _ _ (by omega) ⟨i + 1, rfl, rfl, by omega, rfl⟩
  obtain ⟨vi, hvi⟩ : ∃ v, addr18[i]? = some v := ⟨_, List.getElem?_eq_getElem (by simp; omega)⟩
  obtain ⟨vk, hvk⟩ : ∃ v, addr18[k]? = some v := ⟨_, List.getElem?_eq_getElem (by simp; omega)⟩
  have rd : ∀ {As F : List HP} {m : Nat} {v : Int} {K : Int → WP} [r : RdA B As ⟨some ⟨b, 0, none⟩, 18, 18⟩ I64 addr18], m < 18 → addr18[m]? = some v → Ent B As (K v) → Ent B As (XIdx (some ⟨b, 0, none⟩) 18 (m : Int) 1 fun a => XGet (.int .i64) a K) := by
    intro As F m v K r h1 h2 h3
    refine xidxn (E := I64) (xs := addr18) (s := ⟨some ⟨b, 0, none⟩, 18, 18⟩) (h1 := by simp; omega) (h := fun v' hv' => ?_)
    obtain rfl : v' = v := by rw [h2] at hv'; cases hv'; rfl
    exact xgetE (E := I64) (xs := addr18) hv' (h := h3)
  refine xloop1 (fun n (x : Int) As' => ∃ m : Nat, x = (m : Int) ∧ n = 6 - m ∧ m ≤ 6 ∧ As' = [Ar I64 ⟨some ⟨b, 0, none⟩, 18, 18⟩ addr18]) 6 ⟨0, rfl, rfl, by omega, rfl⟩ ?_
  rintro n x As' K2 ⟨m, rfl, rfl, hm, rfl⟩ hK2
  refine xif_dec (fun hp2 => ?_) (fun hp2 => ?_)
  · refine rd (F := []) (by omega) hvi ?_
    refine xcall0 (reg_spec _ _) rdb ?_
    rintro t _ ⟨rfl, rfl⟩
    refine app0 (ca19 (xnew fun b1 => ?_))
    iterate 19 (refine xset (h := ?_))
    refine rd (F := []) (by omega) hvk ?_
    refine xcall0 (reg_spec _ _) rdb ?_
    rintro t _ ⟨rfl, rfl⟩
    refine app0 (ca19 (xnew fun b2 => ?_))
    iterate 19 (refine xset (h := ?_))
    refine xcall0 (reg_spec _ _) rdb ?_
    rintro t _ ⟨rfl, rfl⟩
    refine app0 (ca19 (xnew fun b3 => ?_))
    iterate 19 (refine xset (h := ?_))
    refine xset (h := xset (h := xasrt (by decide) (xset (h := ?_))))
    iterate 57 (refine xget (h := ?_))
    refine xnew fun b4 => ?_
    refine xfold1 (Q := Ar TG ⟨some ⟨b4, 0, none⟩, 3, 3⟩ [aT vi (m : Int), bT vk (m : Int) (((k : Int).tmod 2) == 1), regT ⟨#[99]⟩ 9]) 0 (fun g hg => ⟨[], blk_ar [aT vi (m : Int), bT vk (m : Int) (((k : Int).tmod 2) == 1), regT ⟨#[99]⟩ 9] 3 rfl rfl hg⟩) ?_
    refine polls ⟨some ⟨b4, 0, none⟩, 3, 3⟩ [aT vi (m : Int), bT vk (m : Int) (((k : Int).tmod 2) == 1), regT ⟨#[99]⟩ 9] rdb (xjoin (xiff rfl ?_))
    iterate 57 (refine xget (h := ?_))
    refine xnew fun b5 => ?_
    refine xfold1 (Q := Ar TG ⟨some ⟨b5, 0, none⟩, 3, 3⟩ [aT vi (m : Int), bT vk (m : Int) (((k : Int).tmod 2) == 1), regT ⟨#[99]⟩ 9]) 0 (fun g hg => ⟨[], blk_ar [aT vi (m : Int), bT vk (m : Int) (((k : Int).tmod 2) == 1), regT ⟨#[99]⟩ 9] 3 rfl rfl hg⟩) ?_
    refine covers ⟨some ⟨b5, 0, none⟩, 3, 3⟩ [aT vi (m : Int), bT vk (m : Int) (((k : Int).tmod 2) == 1), regT ⟨#[99]⟩ 9] rdb (xjoin (xiff rfl ?_))
    iterate 57 (refine xget (h := ?_))
    refine xnew fun b6 => ?_
    refine xfold1 (Q := Ar TG ⟨some ⟨b6, 0, none⟩, 3, 3⟩ [bT vk (m : Int) (((k : Int).tmod 2) == 1), aT vi (m : Int), regT ⟨#[99]⟩ 9]) 0 (fun g hg => ⟨[], blk_ar [bT vk (m : Int) (((k : Int).tmod 2) == 1), aT vi (m : Int), regT ⟨#[99]⟩ 9] 3 rfl rfl hg⟩) ?_
    refine few ⟨some ⟨b6, 0, none⟩, 3, 3⟩ [bT vk (m : Int) (((k : Int).tmod 2) == 1), aT vi (m : Int), regT ⟨#[99]⟩ 9] rdb (xiff rfl ?_)
    rw [wrap_succ m (by omega)]
    exact xuse [Ar I64 ⟨some ⟨b, 0, none⟩, 18, 18⟩ addr18] (hK2 _ _ _ (by omega) ⟨m + 1, rfl, rfl, by omega, rfl⟩)
  · refine xdraw (xjoin ?_)
    refine rd (F := []) (by omega) hvk (rd (F := []) (by omega) hvi ?_)
    refine asks ⟨0, IntKind.i64.wrap ((i : Int) - 1), vk, vi, 0, []⟩ nilS (xiff rfl ?_)
    refine rd (F := []) (by omega) hvk (rd (F := []) (by omega) hvi ?_)
    refine asks ⟨0, 3, vk, vi, 0, []⟩ nilS (xiff rfl ?_)
    refine rd (F := []) (by omega) hvk (rd (F := []) (by omega) hvi ?_)
    refine asks ⟨0, 1, vk, vi, 0, []⟩ nilS (xiff rfl ?_)
    rw [wrap_succ k (by omega)]
    exact hK1 _ _ _ (by omega) ⟨k + 1, rfl, rfl, by omega, rfl⟩

end Go.Cx
