/-
  The law SegsFull.
-/
import Derived.Test.YtffoldlhonbafaaDoorST
namespace Go.Cx
open Go Go.Cf
set_option linter.unusedVariables false
set_option maxRecDepth 100000
variable {B : Base} {As F : List HP}

theorem Rel.fstep {m : DM} {gs : List (List (List UInt8))} {safe : Nat} (h : Rel m gs safe) (p : List UInt8) (ht : gs.flatten.length < 1000000) (ha : m.armed = false) (hd : m.down = false) :
    ∃ (gs' : List (List (List UInt8))) (safe' : Nat), (appendL m (logOf gs safe) p).2.1 = logOf gs' safe' ∧ Rel (appendL m (logOf gs safe) p).1 gs' safe' ∧ (appendL m (logOf gs safe) p).1.room = m.room ∧ (appendL m (logOf gs safe) p).1.armed = false ∧ (appendL m (logOf gs safe) p).1.down = false ∧
      (((appendL m (logOf gs safe) p).2.2.2 = 0 ∧ (appendL m (logOf gs safe) p).2.2.1 = gs.flatten.length ∧ gs'.flatten = gs.flatten ++ [p] ∧ usedN (appendL m (logOf gs safe) p).1.fs = usedN m.fs + 6 + p.length) ∨
       ((appendL m (logOf gs safe) p).2.2.1 = 0 ∧ gs' = gs ∧ usedN (appendL m (logOf gs safe) p).1.fs = usedN m.fs ∧ ((appendL m (logOf gs safe) p).2.2.2 = 2 ∨ ((appendL m (logOf gs safe) p).2.2.2 = 9 ∧ ((appendL m (logOf gs safe) p).1.fs.length = 64 ∨ (6 + p.length : Int) > m.room - usedN m.fs))))) := by
  by_cases hp : p.length > 1024
  · have e : appendL m (logOf gs safe) p = (m, logOf gs safe, 0, 2) := by unfold appendL; rw [if_neg (by rw [hd]; decide), if_pos hp]
    rw [e]
    exact ⟨gs, safe, rfl, h, rfl, ha, hd, .inr ⟨rfl, rfl, rfl, .inl rfl⟩⟩
  have hA := h.append hd (p := p) (by omega) ht
  rcases hA.or with ⟨a1, a2, a3, a4, ⟨safe', b1, b2, b3⟩, a5⟩ | ⟨a1, a2, a3, a4, a5, gs', safe', b1, b2, b3, b4⟩
  · rcases a5 with ⟨_, c2, _⟩ | ⟨c1, c2, c3, c4⟩
    · rw [ha] at c2; cases c2
    · exact ⟨gs, safe', b2, b3, hA.room, c3 ha, c2, .inr ⟨a2, rfl, a3, .inr ⟨c1, c4.imp (fun h => a4.trans h) id⟩⟩⟩
  · exact ⟨gs', safe', b3, b4, hA.room, a4 ha, a3, .inl ⟨a1, a2, b2, a5⟩⟩

theorem SegsFull_spec (room : Int) (p : Sl) (ps : List (List UInt8)) (hro : i64 room) :
    Ct Pr F_law14_SegsFull [.int .i64 room, p.v] .one [.bool] [] ((RRows p ps).and GTab) (fun t Bs => t.1 = true ∧ Bs = []) := by
  refine spec1 c_law14_SegsFull fun B hr => ?_
  obtain ⟨hrr, hg⟩ := hr
  have hrr' := hrr
  obtain ⟨rs, hra⟩ := hrr'
  haveI : FroP B (RowsAt p rs ps) := rowsAt_mono hra
  haveI : FroP B (RRows p ps) := ⟨hrr, fun _ _ h s => h.mono s⟩
  haveI : FroP B GTab := ⟨hg, fun _ _ h s => GTab.mono _ _ h s⟩
  obtain ⟨ha, hl, hrow⟩ := id hra
  haveI : Fro B p SL rs := ⟨ha⟩
  have h1 := ha.1
  unfold law14_SegsFull
  refine xcall0 works_spec rdb ?_
  rintro ⟨c, _⟩ _ ⟨hc1, rfl⟩
  obtain rfl : c = true := hc1
  refine app0 (ca1 (xiff rfl ?_))
  refine xcall0 (great_spec p ps) rdb ?_
  rintro ⟨c, _⟩ _ ⟨hc1, rfl⟩
  refine app0 (ca1 (xif (fun h => xret ⟨rfl, rfl⟩) (fun h => ?_)))
  obtain ⟨hps, hshort⟩ := hc1 h
  refine xcall0 (Pick_spec room 16384 hro ⟨by decide, by decide⟩) rdb ?_
  rintro ⟨(x : Int), _⟩ _ ⟨hx, rfl⟩
  have hx := hx (by decide)
  have hx0 : (0 : Int) ≤ x := hx.1
  have hx1 : x < 16384 := hx.2
  refine app0 (ca1 ?_)
  refine xcall0 (New_spec x) rdb ?_
  rintro ⟨q, r, _⟩ _ (⟨h, _⟩ | ⟨_, _, h1, ⟨b, h2⟩, rfl⟩)
  · omega
  simp only at h1 h2; subst h1 h2
  have hI : DInv ⟨false, false, 0, x, []⟩ := dinv_new (by omega)
  refine app1 (ca2 ?_)
  refine xcl (sOpen_spec (some ⟨b, 0, none⟩) ⟨false, false, 0, x, []⟩) rdb ?_
  have he := open_empty hI rfl rfl
  rintro ⟨q1, r1, _⟩ _ (⟨l, b1, e1, e2, e3, e4, rfl⟩ | ⟨e1, _⟩)
  rotate_left
  · rw [he] at e1; cases e1
  simp only at e3 e4; subst e3 e4
  rw [he] at e1
  obtain rfl := Option.some.inj e1
  rw [he]
  refine app2 (ca2 (xjoin (xiff rfl (xiff rfl ?_))))
  refine xnone SL ?_
  refine xuse [Ar SL ⟨none, 0, 0⟩ [], LogObj (some ⟨b1, 0, none⟩) (some ⟨b, 0, none⟩) (logOf [] 0), DevObj (some ⟨b, 0, none⟩) ⟨false, false, 0, x, []⟩] ?_
  refine xloop2 (fun n (all : Sl) (i : Int) As' => ∃ (k : Nat) (m' : DM) (gs : List (List (List UInt8))) (safe : Nat) (rs' : List Sl), i = (k : Int) ∧ n = rs.length - k ∧ k ≤ rs.length ∧ Rel m' gs safe ∧ m'.room = x ∧ m'.armed = false ∧ m'.down = false ∧ gs.flatten.length ≤ k ∧ SomeOf rs ps rs' gs.flatten ∧ As' = [Ar SL all rs', LogObj (some ⟨b1, 0, none⟩) (some ⟨b, 0, none⟩) (logOf gs safe), DevObj (some ⟨b, 0, none⟩) m'])
    rs.length ⟨0, _, [], 0, [], rfl, rfl, by omega, rel_empty hI rfl, rfl, rfl, rfl, by simp, ⟨rfl, fun j r x h => by simp at h⟩, rfl⟩ ?_
  rintro n all i As' K ⟨k, m', gs, safe, rs', rfl, rfl, hk, hRel, hroom, hma, hmd, hgl, hso, rfl⟩ hK
  refine xif_dec (fun hp => ?_) (fun hp => ?_)
  rotate_left
  · refine xcl (told_spec (some ⟨b1, 0, none⟩) (some ⟨b, 0, none⟩) gs safe (by omega)) rdb ?_
    rintro ⟨s, c, _⟩ _ ⟨hc, rfl⟩
    obtain rfl : c = true := hc
    refine app2 (ca2 (xjoin (xift rfl ?_)))
    refine xuse [Ar SL all rs', ORows s gs.flatten] ?_
    refine xcl (pre := []) (SameRows_spec s all gs.flatten gs.flatten (by omega) (fun y hy => by
      obtain ⟨g, hg, hyg⟩ := List.mem_flatten.1 hy
      have := hRel.small g hg y hyg
      omega)) (rds_and (rds_pick 1 (fun g hg => hg.read) (fun _ _ h s => h.mono s)) (someOf_rows hso hra 0)) ?_
    rintro ⟨c, _⟩ _ ⟨hc, rfl⟩
    obtain rfl : c = true := by rw [show c = _ from hc]; simp
    exact app0 (ca1 (xkeep (l := []) (xret ⟨rfl, rfl⟩)))
  have hlt : k < rs.length := by omega
  obtain ⟨y, hy⟩ : ∃ y, ps[k]? = some y := ⟨_, List.getElem?_eq_getElem (by omega)⟩
  obtain ⟨r, hrk⟩ : ∃ r, rs[k]? = some r := ⟨_, List.getElem?_eq_getElem hlt⟩
  have hry := hrow k r y hrk hy
  haveI : Fro B r U8 y := ⟨hry⟩
  have hryl := hry.1
  refine xcl (Used_spec (some ⟨b, 0, none⟩) m') rdb ?_
  rintro ⟨u, _⟩ _ ⟨hu, rfl⟩
  simp only at hu; subst hu
  have hub := hRel.inv.used
  refine app1 (ca1 ?_)
  refine xidxn (E := SL) (xs := rs) (s := p) (h1 := hlt) (h := fun r' hr' => ?_)
  obtain rfl : r' = r := by rw [hrk] at hr'; exact (Option.some.inj hr').symm
  refine xgetE (E := SL) (xs := rs) hrk (h := ?_)
  obtain ⟨gs1, safe1, s1, s2, s3, s4, s5, s6⟩ := hRel.fstep y (by omega) hma hmd
  have hgl1 : gs1.flatten.length ≤ k + 1 := by
    rcases s6 with ⟨_, _, e, _⟩ | ⟨_, e, _⟩ <;> rw [e]
    · rw [List.length_append, List.length_singleton]; omega
    · omega
  refine xcl (sAppend_spec (some ⟨b1, 0, none⟩) (some ⟨b, 0, none⟩) m' (logOf gs safe) r' y hRel.calm (by rw [s1]; exact s2.linv (by omega))) (rds_and rdb rdb) ?_
  rintro ⟨t, t1, _⟩ _ ⟨ht, ht1, rfl⟩
  simp only at ht ht1
  rw [s1]
  generalize hm1 : (appendL m' (logOf gs safe) y).1 = m1 at *
  refine app2 (ca2 ?_)
  have hub1 := s2.inv.used
  refine xjoin1 (fun (all1 : Sl) As' => ∃ rs1, SomeOf rs ps rs1 gs1.flatten ∧ As' = [Ar SL all1 rs1, LogObj (some ⟨b1, 0, none⟩) (some ⟨b, 0, none⟩) (logOf gs1 safe1), DevObj (some ⟨b, 0, none⟩) m1]) (fun K2 hK2 => ?_) ?_
  · rcases s6 with ⟨e1, e2, e3, e4⟩ | ⟨e1, e2, e3, e4⟩
    · rw [e1] at ht1; subst ht1
      rw [e2] at ht; subst ht
      refine xift rfl (xdraw ?_)
      refine xlen (E := SL) (xs := rs') all fun hol _ => ?_
      have hae : all.n = gs.flatten.length := by have := hso.1; omega
      refine xjoin (xiff (by rw [hae]; simp) ?_)
      refine xidxn (E := SL) (xs := rs) (s := p) (h1 := hlt) (h := fun r'' hr'' => ?_)
      obtain rfl : r'' = r' := by rw [hrk] at hr''; exact (Option.some.inj hr'').symm
      refine xgetE (E := SL) (xs := rs) hrk (h := ?_)
      refine xcl (Used_spec (some ⟨b, 0, none⟩) m1) rdb ?_
      rintro ⟨u, _⟩ _ ⟨hu, rfl⟩
      simp only at hu; subst hu
      refine app1 (ca1 (xchkE (E := SL) (xs := rs) hrk (h := ?_)))
      have hw : IntKind.i64.wrap (IntKind.i64.wrap ((usedN m'.fs : Int) + (r''.n : Int)) + 6) = (usedN m1.fs : Int) := by
        rw [wrap_id ((usedN m'.fs : Int) + (r''.n : Int)) (by omega) (by omega), wrap_id _ (by omega) (by omega)]
        omega
      rw [hw]
      refine xiff (by simp) ?_
      refine xidxn (E := SL) (xs := rs) (s := p) (h1 := hlt) (h := fun r3 hr3 => ?_)
      obtain rfl : r3 = r'' := by rw [hrk] at hr3; exact (Option.some.inj hr3).symm
      refine xgetE (E := SL) (xs := rs) hrk (h := xnew fun b2 => ?_)
      have hrl := hso.1
      refine xapp1 (E := SL) r3 (hb := by omega) (h := fun s2' => ?_)
      exact xuse [Ar SL s2' (rs' ++ [r3]), LogObj (some ⟨b1, 0, none⟩) (some ⟨b, 0, none⟩) (logOf gs1 safe1), DevObj (some ⟨b, 0, none⟩) m1] (hK2 _ _ ⟨rs' ++ [r3], by rw [e3]; exact someOf_snoc hso hrk hy, rfl⟩)
    · rw [e1] at ht; subst ht
      subst e2
      have fin : ∀ {As G : List HP} [Split [Ar SL all rs', LogObj (some ⟨b1, 0, none⟩) (some ⟨b, 0, none⟩) (logOf gs1 safe1), DevObj (some ⟨b, 0, none⟩) m1] As G], Ent B As (K2 all) := fun {As G} _ =>
        xuse [Ar SL all rs', LogObj (some ⟨b1, 0, none⟩) (some ⟨b, 0, none⟩) (logOf gs1 safe1), DevObj (some ⟨b, 0, none⟩) m1] (hK2 _ _ ⟨rs', hso, rfl⟩)
      rcases e4 with e4 | ⟨e4, e5⟩
      · rw [e4] at ht1; subst ht1
        refine xiff rfl (xdraw (xjoin (xift rfl (xiff rfl ?_))))
        refine xcl (Used_spec (some ⟨b, 0, none⟩) m1) rdb ?_
        rintro ⟨u, _⟩ _ ⟨hu, rfl⟩
        simp only at hu; subst hu
        rw [e3]
        exact app1 (ca1 (xiff (by simp) (xiff rfl (xiff rfl (xiff rfl (xiff rfl fin))))))
      · rw [e4] at ht1; subst ht1
        refine xiff rfl (xdraw (xjoin (xiff rfl (xiff rfl ?_))))
        refine xcl (Used_spec (some ⟨b, 0, none⟩) m1) rdb ?_
        rintro ⟨u, _⟩ _ ⟨hu, rfl⟩
        simp only at hu; subst hu
        rw [e3]
        refine app1 (ca1 (xiff (by simp) (xiff rfl (xift rfl ?_))))
        refine xidxn (E := SL) (xs := rs) (s := p) (h1 := hlt) (h := fun r'' hr'' => ?_)
        obtain rfl : r'' = r' := by rw [hrk] at hr''; exact (Option.some.inj hr'').symm
        refine xgetE (E := SL) (xs := rs) hrk (h := ?_)
        refine xcl (Free_spec (some ⟨b, 0, none⟩) m1) rdb ?_
        rintro ⟨u, _⟩ _ ⟨hu, rfl⟩
        simp only at hu; subst hu
        refine app1 (ca1 (xchkE (E := SL) (xs := rs) hrk (h := ?_)))
        have hyl : r''.n ≤ 2305843009213693951 := by
          have := hshort k y hy
          omega
        rw [wrap_id _ (by omega) (by omega)]
        refine xif_dec (fun h5 => ?_) (fun h5 => xiff rfl fin)
        have h64 : m1.fs.length = 64 := by
          rcases e5 with e | e
          · exact e
          · rw [s3, e3] at h5; omega
        refine xcl (Names_spec (some ⟨b, 0, none⟩) m1) rdb ?_
        rintro ⟨s5', _⟩ _ rfl
        refine app2 (ca1 ?_)
        refine xlen (E := Cf.ST) (xs := m1.fs.map (fun f : DF => f.nm)) s5' fun hn5 _ => ?_
        rw [List.length_map, h64] at hn5
        exact xiff (decide_eq_false (by omega)) fin
  rintro all1 As2 ⟨rs1, hso1, rfl⟩
  rw [wrap_succ k (by omega)]
  exact hK _ _ _ _ (by omega) ⟨k + 1, m1, gs1, safe1, rs1, rfl, rfl, by omega, s2, s3.trans hroom, s4, s5, hgl1, hso1, rfl⟩

end Go.Cx
