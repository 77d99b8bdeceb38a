/-
  The laws SegsLasts, SegsOpens, SegsFull.
-/
import Derived.Test.YtffoldlhonbafaaDoorSS
import Derived.Test.YtffoldlhonbafaaDoorCgE
namespace Go.Cx
open Go Go.Cf
set_option linter.unusedVariables false
set_option maxRecDepth 100000
variable {B : Base} {As F : List HP}

theorem openPost_disk {p : Option Addr} {m : DM} {gs : List (List (List UInt8))} {r : List UInt8} (h : Disk m gs r) (hd : m.down = false) {t : Tup [.ptr, .int .i64]} {Bs : List HP} (hp : openPost p m t Bs) :
    (m.armed = true ∧ t.1 = none ∧ t.2.1 = 10 ∧ ∃ (m' : DM) (r' : List UInt8), Disk m' gs r' ∧ Bs = [DevObj p m']) ∨
    (∃ (b : Nat) (m' : DM) (r' : List UInt8), t.1 = some ⟨b, 0, none⟩ ∧ t.2.1 = 0 ∧ Disk m' gs r' ∧ m'.down = false ∧ m'.room = m.room ∧ (m.armed = false → m'.armed = false) ∧ Bs = [LogObj (some ⟨b, 0, none⟩) p (logOf gs gs.flatten.length), DevObj p m']) := by
  rcases h.open hd with ⟨a1, a2, a3, r', a4⟩ | ⟨a1, a2, a3, a4, a5, r', a6⟩
  · left
    rcases hp with ⟨l, b, e, _⟩ | ⟨e1, e2, e3, e4, e5⟩
    · rw [a2] at e; cases e
    · exact ⟨a3, e3, by rw [e4, a1], _, r', a4, e5⟩
  · right
    rcases hp with ⟨l, b, e1, e2, e3, e4, e5⟩ | ⟨e1, e2, _⟩
    · rw [a2] at e1
      obtain rfl := Option.some.inj e1
      exact ⟨b, _, r', e3, e4, a6, a3, a4, a5, e5⟩
    · rw [a2] at e1; cases e1

theorem prefix_get {α : Type} {a b : List α} (h : a <+: b) {i : Nat} {x : α} (hx : a[i]? = some x) : b[i]? = some x := by
  obtain ⟨c, rfl⟩ := h
  rw [List.getElem?_append_left (List.getElem?_eq_some_iff.1 hx).1]; exact hx

theorem behind_spec (d : Option Addr) (m : DM) (all : Sl) (rows : List (List UInt8)) (safe : Nat) (keep : Int) (gs : List (List (List UInt8))) (r : List UInt8)
    (hD : Disk (wakeM m keep) gs r) (hpre : gs.flatten <+: rows) (hs : safe ≤ gs.flatten.length) (hl : rows.length ≤ 1000) :
    Ct Pr F_law14_behind [.pointer d, all.v, .int .i64 0, .int .i64 (safe : Int), .int .i64 keep] .one [.bool] [DevObj d m] ((RRows all rows).and GTab)
    (fun t Bs => t.1 = true ∧ ∃ (m' : DM) (r' : List UInt8), Disk m' gs r' ∧ m'.down = false ∧ m'.armed = false ∧ Bs = [DevObj d m']) := by
  refine spec1 c_law14_behind fun B hr => ?_
  obtain ⟨⟨ra, ha1, ha2, ha3⟩, hg⟩ := hr
  haveI : Fro B all SL ra := ⟨ha1⟩
  haveI : FroP B GTab := ⟨hg, fun _ _ h s => GTab.mono _ _ h s⟩
  have hplen := hpre.length_le
  have han := ha1.1
  unfold law14_behind
  refine xcl (Wake_spec d m keep) rdb ?_
  rintro _ _ rfl
  refine app1 (ca0 ?_)
  refine xcl (sOpen_spec d (wakeM m keep)) rdb ?_
  rintro ⟨q, e, _⟩ Bs hp
  rcases openPost_disk hD rfl hp with ⟨h, _⟩ | ⟨b, m1, r1, h1, h2, h3, h4, _, h5, rfl⟩
  · cases h
  have h5 := h5 rfl
  simp only at h1 h2; subst h1 h2
  refine app2 (ca2 (xjoin (xiff rfl (xiff rfl ?_))))
  refine xcl (told_spec (some ⟨b, 0, none⟩) d gs (gs.flatten.length : Nat) (by omega)) rdb ?_
  rintro ⟨s, c, _⟩ _ ⟨hc, rfl⟩
  obtain rfl : c = true := hc
  refine app2 (ca2 (xjoin (xiff rfl ?_)))
  refine xcl (sFirst_spec (some ⟨b, 0, none⟩) d (logOf gs (gs.flatten.length : Nat))) rdb ?_
  rintro ⟨t, _⟩ _ ⟨ht, rfl⟩
  simp only [lo_of] at ht; subst ht
  refine app1 (ca1 (xjoin (xiff rfl ?_)))
  refine xcl (sNext_spec (some ⟨b, 0, none⟩) d (logOf gs (gs.flatten.length : Nat))) rdb ?_
  rintro ⟨t, _⟩ _ ⟨ht, rfl⟩
  simp only [next_of] at ht; subst ht
  refine app1 (ca1 (xjoin (xiff (decide_eq_false (by omega)) ?_)))
  refine xcl (sNext_spec (some ⟨b, 0, none⟩) d (logOf gs (gs.flatten.length : Nat))) rdb ?_
  rintro ⟨t, _⟩ _ ⟨ht, rfl⟩
  simp only [next_of] at ht; subst ht
  have hplen' : ¬ ((gs.flatten.length : Int) > (all.n : Int)) := by omega
  refine app1 (ca1 (xjoin (xiff (decide_eq_false hplen') ?_)))
  refine xcl (sSafe_spec (some ⟨b, 0, none⟩) d (logOf gs (gs.flatten.length : Nat))) rdb ?_
  rintro ⟨t, _⟩ _ ⟨ht, rfl⟩
  simp only at ht; subst ht
  refine app1 (ca1 ?_)
  refine xcl (sNext_spec (some ⟨b, 0, none⟩) d (logOf gs (gs.flatten.length : Nat))) rdb ?_
  rintro ⟨t, _⟩ _ ⟨ht, rfl⟩
  simp only [next_of] at ht; subst ht
  refine app1 (ca1 (xiff (by simp) ?_))
  have hsmall : ∀ (i : Nat) x, gs.flatten[i]? = some x → x.length ≤ 1024 := fun i x hx => by
    obtain ⟨g, hg, hxg⟩ := List.mem_flatten.1 (List.mem_of_getElem? hx)
    exact hD.small g hg x hxg
  generalize hT : gs.flatten = T at *
  refine xopen 1 (P1 := ORows s T) (fun Bs => ∃ rs, Bs = [Ar SL s rs, Each (Ar U8) rs T]) (fun g hg => by obtain ⟨rs, h⟩ := hg; exact ⟨_, ⟨rs, rfl⟩, h⟩) ?_
  rintro _ ⟨rs, rfl⟩
  refine app2 ?_
  refine xfact 1 (P1 := Each (Ar U8) rs T) (fun g hg => hg.length) fun hrl => ?_
  refine xlen (E := SL) (xs := rs) s fun hsn _ => ?_
  refine xuse [Ar SL s rs, Each (Ar U8) rs T, LogObj (some ⟨b, 0, none⟩) d (logOf gs (T.length : Nat)), DevObj d m1] ?_
  refine xloop1 (fun n (x : Int) As' => ∃ k : Nat, x = (k : Int) ∧ n = rs.length - k ∧ k ≤ rs.length ∧ As' = [Ar SL s rs, Each (Ar U8) rs T, LogObj (some ⟨b, 0, none⟩) d (logOf gs (T.length : Nat)), DevObj d m1]) rs.length ⟨0, rfl, rfl, by omega, rfl⟩ ?_
  rintro n x As' K ⟨k, rfl, rfl, hk, rfl⟩ hK
  refine xif_dec (fun hp => ?_) (fun hp => ?_)
  · have hlt : k < rs.length := by omega
    obtain ⟨y, hy⟩ : ∃ y, T[k]? = some y := ⟨_, List.getElem?_eq_getElem (by omega)⟩
    obtain ⟨r', hr'⟩ : ∃ r', rs[k]? = some r' := ⟨_, List.getElem?_eq_getElem hlt⟩
    have hy2 := prefix_get hpre hy
    obtain ⟨r2, hr2⟩ : ∃ r2, ra[k]? = some r2 := ⟨_, List.getElem?_eq_getElem (by rw [ha2]; exact (List.getElem?_eq_some_iff.1 hy2).1)⟩
    haveI : Fro B r2 U8 y := ⟨ha3 k r2 y hr2 hy2⟩
    have hyl := hsmall k y hy
    refine xdraw (xidxn (E := SL) (xs := rs) (s := s) (h1 := hlt) (h := fun _ _ => ?_))
    refine xgetE (E := SL) (xs := rs) hr' (h := ?_)
    refine xcl (sFirst_spec (some ⟨b, 0, none⟩) d (logOf gs (T.length : Nat))) rdb ?_
    rintro ⟨t, _⟩ _ ⟨ht, rfl⟩
    simp only [lo_of] at ht; subst ht
    refine app1 (ca1 (xchkE (E := SL) (xs := rs) hr' (h := ?_)))
    rw [show IntKind.i64.wrap (0 + (k : Int)) = (k : Int) by rw [wrap_id _ (by omega) (by omega)]; omega]
    refine xidxn (E := SL) (xs := ra) (s := all) (h1 := (List.getElem?_eq_some_iff.1 hr2).1) (h := fun _ _ => ?_)
    refine xgetE (E := SL) (xs := ra) hr2 (h := ?_)
    refine xuse [Ar SL s rs, Each (Ar U8) rs T, LogObj (some ⟨b, 0, none⟩) d (logOf gs (T.length : Nat)), DevObj d m1] ?_
    refine xcl (pre := []) (SameBytes_spec r' r2 y y (by omega)) (rds_and (rds_pick 1 (fun g hg => each_read (R := Ar U8) (S := fun sl row => RAr U8 sl row) (fun _ _ _ _ h s => h.mono s) (fun _ _ _ h => h.read) hg hr' hy) (fun _ _ h s => h.mono s)) rdb) ?_
    rintro ⟨c, _⟩ _ ⟨hc, rfl⟩
    obtain rfl : c = true := by rw [show c = _ from hc]; simp
    refine app0 (ca1 (xiff rfl ?_))
    rw [wrap_succ k (by omega)]
    exact hK _ _ _ (by omega) ⟨k + 1, rfl, rfl, by omega, rfl⟩
  refine xcl (sFirst_spec (some ⟨b, 0, none⟩) d (logOf gs (T.length : Nat))) rdb ?_
  rintro ⟨t, _⟩ _ ⟨ht, rfl⟩
  simp only [lo_of] at ht; subst ht
  refine app1 (ca1 ?_)
  refine xcl (sSegments_spec (some ⟨b, 0, none⟩) d (logOf gs (T.length : Nat))) rdb ?_
  rintro ⟨t, _⟩ _ ⟨ht, rfl⟩
  simp only [segsFrom_len] at ht; subst ht
  refine app1 (ca1 ?_)
  refine xcl (Wake_spec d m1 0) rdb ?_
  rintro _ _ rfl
  refine app1 (ca0 ?_)
  have hD1 := h3.wake 0
  refine xcl (sOpen_spec d (wakeM m1 0)) rdb ?_
  rintro ⟨q, e, _⟩ Bs hp
  rcases openPost_disk hD1 rfl hp with ⟨h, _⟩ | ⟨b2, m2, r2, h1, h2, h6, h7, _, h8, rfl⟩
  · cases h
  have h8 := h8 rfl
  simp only at h1 h2; subst h1 h2
  rw [hT]
  refine app2 (ca2 (xjoin (xiff rfl (xiff rfl ?_))))
  refine xuse [LogObj (some ⟨b2, 0, none⟩) d (logOf gs (T.length : Nat)), DevObj d m2, Ar SL s rs, Each (Ar U8) rs T] ?_
  refine xcl (told_spec (some ⟨b2, 0, none⟩) d gs (T.length : Nat) (by rw [hT]; omega)) rdb ?_
  rintro ⟨s3, c, _⟩ _ ⟨hc, rfl⟩
  obtain rfl : c = true := hc
  rw [hT]
  refine app2 (ca2 (xjoin (xift rfl ?_)))
  refine xcl (sFirst_spec (some ⟨b2, 0, none⟩) d (logOf gs (T.length : Nat))) rdb ?_
  rintro ⟨t, _⟩ _ ⟨ht, rfl⟩
  simp only [lo_of] at ht; subst ht
  refine app1 (ca1 (xjoin (xift rfl ?_)))
  refine xcl (sSegments_spec (some ⟨b2, 0, none⟩) d (logOf gs (T.length : Nat))) rdb ?_
  rintro ⟨t, _⟩ _ ⟨ht, rfl⟩
  simp only [segsFrom_len] at ht; subst ht
  refine app1 (ca1 (xjoin (xift (by simp) ?_)))
  refine xfold [Ar SL s rs, Each (Ar U8) rs T] (ORows s T) (fun g hg => ⟨rs, hg⟩) ?_
  refine xuse [ORows s T, ORows s3 T, DevObj d m2] ?_
  refine xcl (pre := []) (SameRows_spec s s3 T T (by omega) (fun x hx => by
    obtain ⟨i, hi⟩ := List.mem_iff_getElem?.1 hx
    have := hsmall i x hi; omega)) (rds_and (rds_pick 0 (fun g hg => hg.read) (fun _ _ h s => h.mono s)) (rds_pick 1 (fun g hg => hg.read) (fun _ _ h s => h.mono s))) ?_
  rintro ⟨c, _⟩ _ ⟨hc, rfl⟩
  obtain rfl : c = true := by rw [show c = _ from hc]; simp
  refine app0 (ca1 (xuse [DevObj d m2] (xret ⟨rfl, m2, r2, h6, h7, h8, rfl⟩)))

theorem rowsAt_mono {B : Base} {p : Sl} {rs : List Sl} {ps : List (List UInt8)} (h : RowsAt p rs ps (frz B.W B.h0)) : FroP B (RowsAt p rs ps) :=
  ⟨h, fun _ _ ⟨a, b, c⟩ s => ⟨a.mono s, b, fun i r x h1 h2 => (c i r x h1 h2).mono s⟩⟩
theorem SegsLasts_spec (p sy : Sl) (ps : List (List UInt8)) (bs : List Bool) (cut keep : Int) (hc : i64 cut) (hk : i64 keep) :
    Ct Pr F_law14_SegsLasts [p.v, sy.v, .int .i64 cut, .int .i64 keep] .one [.bool] [] ((RRows p ps).and ((RAr BL sy bs).and GTab)) (fun t Bs => t.1 = true ∧ Bs = []) := by
  refine spec1 c_law14_SegsLasts fun B hr => ?_
  obtain ⟨hrr, hb, hg⟩ := hr
  have hrr' := hrr
  obtain ⟨rs, hra⟩ := hrr'
  haveI : FroP B (RowsAt p rs ps) := rowsAt_mono hra
  haveI : FroP B (RRows p ps) := ⟨hrr, fun _ _ h s => h.mono s⟩
  haveI : Fro B sy BL bs := ⟨hb⟩
  haveI : FroP B GTab := ⟨hg, fun _ _ h s => GTab.mono _ _ h s⟩
  unfold law14_SegsLasts
  refine xcall0 works_spec rdb ?_
  rintro ⟨c, _⟩ _ ⟨hc1, rfl⟩
  obtain rfl : c = true := hc1
  refine app0 (ca1 (xiff rfl ?_))
  refine xcall0 (great_spec p ps) rdb ?_
  rintro ⟨c, _⟩ _ ⟨hc1, rfl⟩
  refine app0 (ca1 (xif (fun h => xret ⟨rfl, rfl⟩) (fun h => ?_)))
  have hps := (hc1 h).1
  refine xcall0 (New_spec 16777216) rdb ?_
  rintro ⟨q, r, _⟩ _ (⟨h, _⟩ | ⟨_, _, h1, ⟨b, h2⟩, rfl⟩)
  · omega
  simp only at h1 h2; subst h1 h2
  have hI : DInv ⟨false, false, 0, 16777216, []⟩ := dinv_new (by decide)
  refine app1 (ca2 ?_)
  refine xcl (sOpen_spec (some ⟨b, 0, none⟩) ⟨false, false, 0, 16777216, []⟩) rdb ?_
  have he := open_empty hI rfl rfl
  rintro ⟨q1, r1, _⟩ _ (⟨l, b1, e1, e2, e3, e4, rfl⟩ | ⟨e1, _⟩)
  rotate_left
  · rw [he] at e1; cases e1
  simp only at e3 e4; subst e3 e4
  rw [he] at e1
  obtain rfl := Option.some.inj e1
  rw [he]
  refine app2 (ca2 (xjoin (xiff rfl (xiff rfl (xdraw (xnil ?_))))))
  refine xcall0 (Pick_spec cut 260 hc ⟨by decide, by decide⟩) rdb ?_
  rintro ⟨(x : Int), _⟩ _ ⟨hx, rfl⟩
  have hx := hx (by decide)
  refine app0 (ca1 ?_)
  have hxi : i64 x := ⟨by have h : (0 : Int) ≤ x := hx.1; omega, by have h : x < 260 := hx.2; omega⟩
  refine xcl (Arm_spec (some ⟨b, 0, none⟩) ⟨false, false, 0, 16777216, []⟩ x hxi) rdb ?_
  rintro _ _ rfl
  refine app1 (ca0 ?_)
  have hrel := arm_rel (rel_empty hI rfl) hxi
  refine xcl (fill_spec (some ⟨b1, 0, none⟩) (some ⟨b, 0, none⟩) _ p sy rs ps bs hps hrel) (rds_and rdb (rds_and rdb rdb)) ?_
  rintro ⟨s, c, _⟩ _ ⟨hc2, m', gs, safe, rs', hR, _, _, hgl, hso, rfl⟩
  obtain rfl : c = true := hc2
  refine app3 (ca2 (xjoin (xift rfl ?_)))
  refine xcl (sSafe_spec (some ⟨b1, 0, none⟩) (some ⟨b, 0, none⟩) (logOf gs safe)) rdb ?_
  rintro ⟨t, _⟩ _ ⟨ht, rfl⟩
  simp only at ht; subst ht
  obtain ⟨gs', r', hD, hgl', hpre, hsafe⟩ := hR.lay.wake keep
  refine app1 (ca1 ?_)
  refine xuse [Ar SL s rs', DevObj (some ⟨b, 0, none⟩) m'] ?_
  refine xcl (behind_spec (some ⟨b, 0, none⟩) m' s gs.flatten safe keep gs' r' hD hpre hsafe (by omega)) (rds_and (someOf_rows hso hra 0) rdb) ?_
  rintro ⟨c, _⟩ _ ⟨hc3, m2, r2, _, _, _, rfl⟩
  obtain rfl : c = true := hc3
  exact app1 (ca1 (xkeep (l := []) (xret ⟨rfl, rfl⟩)))

theorem SegsOpens_spec (p sy cu : Sl) (ps : List (List UInt8)) (bs : List Bool) (keep : Int) (cuts : List Int) (hk : i64 keep) (hcu : ∀ x ∈ cuts, i64 x) :
    Ct Pr F_law14_SegsOpens [p.v, sy.v, .int .i64 keep, cu.v] .one [.bool] [] ((RRows p ps).and ((RAr BL sy bs).and ((RAr I64 cu cuts).and GTab))) (fun t Bs => t.1 = true ∧ Bs = []) := by
  refine spec1 c_law14_SegsOpens fun B hr => ?_
  obtain ⟨hrr, hb, hcr, hg⟩ := hr
  have hrr' := hrr
  obtain ⟨rs, hra⟩ := hrr'
  haveI : FroP B (RowsAt p rs ps) := rowsAt_mono hra
  haveI : FroP B (RRows p ps) := ⟨hrr, fun _ _ h s => h.mono s⟩
  haveI : Fro B sy BL bs := ⟨hb⟩
  haveI : Fro B cu I64 cuts := ⟨hcr⟩
  haveI : FroP B GTab := ⟨hg, fun _ _ h s => GTab.mono _ _ h s⟩
  have hcl := hcr.1
  unfold law14_SegsOpens
  refine xcall0 works_spec rdb ?_
  rintro ⟨c, _⟩ _ ⟨hc1, rfl⟩
  obtain rfl : c = true := hc1
  refine app0 (ca1 (xiff rfl ?_))
  refine xcall0 (great_spec p ps) rdb ?_
  rintro ⟨c, _⟩ _ ⟨hc1, rfl⟩
  refine app0 (ca1 (xif (fun h => xret ⟨rfl, rfl⟩) (fun h => ?_)))
  simp only [Bool.or_eq_false_iff, decide_eq_false_iff_not] at h
  have hps := (hc1 h.1).1
  have hc20 := h.2
  refine xcall0 (New_spec 16777216) rdb ?_
  rintro ⟨q, r, _⟩ _ (⟨h, _⟩ | ⟨_, _, h1, ⟨b, h2⟩, rfl⟩)
  · omega
  simp only at h1 h2; subst h1 h2
  have hI : DInv ⟨false, false, 0, 16777216, []⟩ := dinv_new (by decide)
  refine app1 (ca2 ?_)
  refine xcl (sOpen_spec (some ⟨b, 0, none⟩) ⟨false, false, 0, 16777216, []⟩) rdb ?_
  have he := open_empty hI rfl rfl
  rintro ⟨q1, r1, _⟩ _ (⟨l, b1, e1, e2, e3, e4, rfl⟩ | ⟨e1, _⟩)
  rotate_left
  · rw [he] at e1; cases e1
  simp only at e3 e4; subst e3 e4
  rw [he] at e1
  obtain rfl := Option.some.inj e1
  rw [he]
  refine app2 (ca2 (xjoin (xiff rfl (xiff rfl ?_))))
  have hrel := rel_empty hI rfl
  refine xcl (fill_spec (some ⟨b1, 0, none⟩) (some ⟨b, 0, none⟩) _ p sy rs ps bs hps hrel) (rds_and rdb (rds_and rdb rdb)) ?_
  rintro ⟨s, c, _⟩ _ ⟨hc2, m', gs, safe, rs', hR, _, _, hgl, hso, rfl⟩
  obtain rfl : c = true := hc2
  refine app3 (ca2 ?_)
  refine xcl (sSafe_spec (some ⟨b1, 0, none⟩) (some ⟨b, 0, none⟩) (logOf gs safe)) rdb ?_
  rintro ⟨t, _⟩ _ ⟨ht, rfl⟩
  simp only at ht; subst ht
  refine app1 (ca1 (xiff rfl (xnew fun b2 => ?_)))
  refine xfold1 (Q := Ar U8 ⟨some ⟨b2, 0, none⟩, 3, 3⟩ [1, 2, 3]) 0 (fun g hg => ⟨[], blk_ar [1, 2, 3] 3 rfl rfl hg⟩) ?_
  refine xcl (Append_spec (some ⟨b, 0, none⟩) m' newN ⟨some ⟨b2, 0, none⟩, 3, 3⟩ [1, 2, 3]) rdb ?_
  rintro ⟨t, _⟩ _ ⟨_, rfl⟩
  refine app1 (ca1 (xnew fun b3 => ?_))
  refine xfold1 (Q := Ar U8 ⟨some ⟨b3, 0, none⟩, 1, 1⟩ [4]) 0 (fun g hg => ⟨[], blk_ar [4] 1 rfl rfl hg⟩) ?_
  have e77 : (⟨#[108, 111, 103, 45, 55, 55]⟩ : ByteArray) = fN 77 := by decide +kernel
  rw [e77]
  refine xcl (Append_spec (some ⟨b, 0, none⟩) (appendM m' newN [1, 2, 3]).1 (fN 77) ⟨some ⟨b3, 0, none⟩, 1, 1⟩ [4]) rdb ?_
  rintro ⟨t, _⟩ _ ⟨_, rfl⟩
  refine app1 (ca1 ?_)
  obtain ⟨gs', r', hD, hgl', hpre, hsafe⟩ := (hR.lay.beside2 [1, 2, 3] [4]).wake keep
  have hplen := hpre.length_le
  generalize (appendM (appendM m' newN [1, 2, 3]).1 (fN 77) [4]).1 = mb at *
  refine xcl (Wake_spec (some ⟨b, 0, none⟩) mb keep) rdb ?_
  rintro _ _ rfl
  refine app1 (ca0 ?_)
  refine xuse [DevObj (some ⟨b, 0, none⟩) (wakeM mb keep), Ar SL s rs'] ?_
  refine xloop2 (fun n (most : Int) (x : Int) As' => ∃ (k : Nat) (mk : DM) (rk : List UInt8), x = (k : Int) ∧ n = cuts.length - k ∧ k ≤ cuts.length ∧ (most = -1 ∨ most = (gs'.flatten.length : Nat)) ∧ Disk mk gs' rk ∧ mk.down = false ∧ As' = [DevObj (some ⟨b, 0, none⟩) mk, Ar SL s rs']) cuts.length ⟨0, _, r', rfl, rfl, by omega, .inl rfl, hD, rfl, rfl⟩ ?_
  rintro n most x As' K ⟨k, mk, rk, rfl, rfl, hk2, hmost, hDk, hdk, rfl⟩ hK
  refine xif_dec (fun hp => ?_) (fun hp => ?_)
  · have hlt : k < cuts.length := by omega
    obtain ⟨y, hy⟩ : ∃ y, cuts[k]? = some y := ⟨_, List.getElem?_eq_getElem hlt⟩
    refine xdraw (xnil (xidxn (E := I64) (xs := cuts) (s := cu) (h1 := hlt) (h := fun _ _ => ?_)))
    refine xgetE (E := I64) (xs := cuts) hy (h := ?_)
    refine xcall0 (Pick_spec y 9 (hcu y (List.mem_of_getElem? hy)) ⟨by decide, by decide⟩) rdb ?_
    rintro ⟨(x : Int), _⟩ _ ⟨hx, rfl⟩
    have hx := hx (by decide)
    refine app0 (ca1 ?_)
    have hxi : i64 x := ⟨by have h : (0 : Int) ≤ x := hx.1; omega, by have h : x < 9 := hx.2; omega⟩
    refine xcl (Arm_spec (some ⟨b, 0, none⟩) mk x hxi) rdb ?_
    rintro _ _ rfl
    refine app1 (ca0 ?_)
    have hDa := arm_disk hDk hxi
    refine xcl (sOpen_spec (some ⟨b, 0, none⟩) (armM mk x)) rdb ?_
    rintro ⟨q2, e, _⟩ Bs hpp
    rcases openPost_disk hDa hdk hpp with ⟨_, h1, h2, m1, r1, h3, rfl⟩ | ⟨b4, m1, r1, h1, h2, h3, h4, _, h5, rfl⟩
    · simp only at h1 h2; subst h1 h2
      refine app1 (ca2 (xjoin (xiff rfl (xiff rfl (xjoin (xiff rfl ?_))))))
      refine xcl (Wake_spec (some ⟨b, 0, none⟩) m1 (-1)) rdb ?_
      rintro _ _ rfl
      refine app1 (ca0 ?_)
      rw [wrap_succ k (by omega)]
      exact hK _ _ _ _ (by omega) ⟨k + 1, _, r1, rfl, rfl, by omega, hmost, h3.wake (-1), rfl, rfl⟩
    · simp only at h1 h2; subst h1 h2
      refine app2 (ca2 (xjoin (xiff rfl (xiff rfl ?_))))
      refine xjoin1 (fun (z : Int) As' => z = (gs'.flatten.length : Nat) ∧ As' = [DevObj (some ⟨b, 0, none⟩) m1, Ar SL s rs']) (fun K2 hK2 => ?_) ?_
      · refine xift rfl ?_
        refine xjoin1 (fun (c : Bool) As' => c = false ∧ As' = [LogObj (some ⟨b4, 0, none⟩) (some ⟨b, 0, none⟩) (logOf gs' (gs'.flatten.length : Nat)), DevObj (some ⟨b, 0, none⟩) m1, Ar SL s rs']) (fun K3 hK3 => ?_) ?_
        · refine xif_dec (fun h6 => ?_) (fun h6 => hK3 _ _ ⟨rfl, rfl⟩)
          refine xcl (sNext_spec (some ⟨b4, 0, none⟩) (some ⟨b, 0, none⟩) (logOf gs' (gs'.flatten.length : Nat))) rdb ?_
          rintro ⟨t, _⟩ _ ⟨ht, rfl⟩
          simp only [next_of] at ht; subst ht
          refine app1 (ca1 (hK3 _ _ ⟨?_, rfl⟩))
          rcases hmost with e | e
          · rw [e] at h6; exact absurd h6 (by decide)
          · rw [e]; simp
        rintro c As2 ⟨rfl, rfl⟩
        refine xiff rfl ?_
        refine xcl (sNext_spec (some ⟨b4, 0, none⟩) (some ⟨b, 0, none⟩) (logOf gs' (gs'.flatten.length : Nat))) rdb ?_
        rintro ⟨t, _⟩ _ ⟨ht, rfl⟩
        simp only [next_of] at ht; subst ht
        exact app1 (ca1 (xuse [DevObj (some ⟨b, 0, none⟩) m1, Ar SL s rs'] (hK2 _ _ ⟨rfl, rfl⟩)))
      rintro z As2 ⟨rfl, rfl⟩
      refine xcl (Wake_spec (some ⟨b, 0, none⟩) m1 (-1)) rdb ?_
      rintro _ _ rfl
      refine app1 (ca0 ?_)
      rw [wrap_succ k (by omega)]
      exact hK _ _ _ _ (by omega) ⟨k + 1, _, r1, rfl, rfl, by omega, .inr rfl, h3.wake (-1), rfl, rfl⟩
  have hDw := hDk.wake 0
  refine xcl (behind_spec (some ⟨b, 0, none⟩) mk s gs.flatten safe 0 gs' rk hDw hpre hsafe (by omega)) (rds_and (someOf_rows hso hra 0) rdb) ?_
  rintro ⟨c, _⟩ _ ⟨hc3, m2, r2, hD2, hd2, ha2, rfl⟩
  obtain rfl : c = true := hc3
  refine app1 (ca1 (xiff rfl ?_))
  refine xcl (sOpen_spec (some ⟨b, 0, none⟩) m2) rdb ?_
  rintro ⟨q2, e, _⟩ Bs hpp
  rcases openPost_disk hD2 hd2 hpp with ⟨h, _⟩ | ⟨b4, m3, r3, h1, h2, h3, h4, _, h5, rfl⟩
  · rw [ha2] at h; cases h
  simp only at h1 h2; subst h1 h2
  refine app2 (ca2 (xjoin (xift rfl ?_)))
  refine xcl (sFirst_spec (some ⟨b4, 0, none⟩) (some ⟨b, 0, none⟩) (logOf gs' (gs'.flatten.length : Nat))) rdb ?_
  rintro ⟨t, _⟩ _ ⟨ht, rfl⟩
  simp only [lo_of] at ht; subst ht
  refine app1 (ca1 (xjoin (xift rfl (xjoin ?_))))
  refine xif_dec (fun h6 => xkeep (l := []) (xret ⟨rfl, rfl⟩)) (fun h6 => ?_)
  refine xcl (sNext_spec (some ⟨b4, 0, none⟩) (some ⟨b, 0, none⟩) (logOf gs' (gs'.flatten.length : Nat))) rdb ?_
  rintro ⟨t, _⟩ _ ⟨ht, rfl⟩
  simp only [next_of] at ht; subst ht
  refine app1 (ca1 (xkeep (l := []) (xret ⟨?_, rfl⟩)))
  rcases hmost with e | e
  · rw [e] at h6; exact absurd (by decide) h6
  · rw [e]; simp

end Go.Cx
