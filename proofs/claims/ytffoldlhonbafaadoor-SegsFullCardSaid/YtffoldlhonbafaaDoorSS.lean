/-
  The laws of a log in segments: what they call.
-/
import Derived.Test.YtffoldlhonbafaaDoorSN
import Derived.Test.YtffoldlhonbafaaDoorKR
import Derived.Test.YtffoldlhonbafaaDoorCgE
namespace Go.Cx
open Go Go.Cf
set_option linter.unusedVariables false
set_option maxRecDepth 100000
variable {B : Base} {As F : List HP}

theorem dinv_new {room : Int} (h : 0 ≤ room ∧ room ≤ 16777216) : DInv ⟨false, false, 0, room, []⟩ :=
  ⟨List.Pairwise.nil, fun f hf => by simp at hf, fun f hf => by simp at hf, by simp [usedN]; omega, h, by simp, ⟨⟨by simp, by simp⟩, fun h => by cases h⟩⟩

/-! What each asks. -/
abbrev k14 : DM := ⟨false, false, 0, 4096, []⟩
def wA := appendL k14 (logOf [] 0) [1]
def wB := appendL wA.1 wA.2.1 []
def wC := syncL wB.1 wB.2.1
def wD := appendL wC.1 wC.2.1 [2]
def wE := openM (wakeM wD.1 0)
theorem k14_inv : DInv k14 := dinv_new (by decide)
theorem relA : ∃ (gs : List (List (List UInt8))) (safe : Nat), wA.2.1 = logOf gs safe ∧ Rel wA.1 gs safe ∧ gs.flatten.length ≤ 1 := by
  obtain ⟨gs, safe, h1, h2, _, _, _, h3⟩ := (rel_empty k14_inv rfl).step [1] (by decide)
  refine ⟨gs, safe, h1, h2, ?_⟩
  rcases h3 with ⟨_, _, e⟩ | ⟨_, _, e⟩ <;> rw [e] <;> simp
theorem relB : ∃ (gs : List (List (List UInt8))) (safe : Nat), wB.2.1 = logOf gs safe ∧ Rel wB.1 gs safe ∧ gs.flatten.length ≤ 2 := by
  obtain ⟨gs0, safe0, e0, r0, l0⟩ := relA
  obtain ⟨gs, safe, h1, h2, _, _, _, h3⟩ := r0.step [] (by omega)
  rw [← e0] at h1 h2
  refine ⟨gs, safe, h1, h2, ?_⟩
  rcases h3 with ⟨_, _, e⟩ | ⟨_, _, e⟩ <;> rw [e]
  · rw [List.length_append, List.length_singleton]; omega
  · omega
theorem relC : ∃ (gs : List (List (List UInt8))) (safe : Nat), wC.2.1 = logOf gs safe ∧ Rel wC.1 gs safe ∧ gs.flatten.length ≤ 2 := by
  obtain ⟨gs0, safe0, e0, r0, l0⟩ := relB
  obtain ⟨safe, h1, h2, _⟩ := r0.sstep
  rw [← e0] at h1 h2
  exact ⟨gs0, safe, h1, h2, l0⟩
theorem relD : ∃ (gs : List (List (List UInt8))) (safe : Nat), wD.2.1 = logOf gs safe ∧ Rel wD.1 gs safe ∧ gs.flatten.length ≤ 3 := by
  obtain ⟨gs0, safe0, e0, r0, l0⟩ := relC
  obtain ⟨gs, safe, h1, h2, _, _, _, h3⟩ := r0.step [2] (by omega)
  rw [← e0] at h1 h2
  refine ⟨gs, safe, h1, h2, ?_⟩
  rcases h3 with ⟨_, _, e⟩ | ⟨_, _, e⟩ <;> rw [e]
  · rw [List.length_append, List.length_singleton]; omega
  · omega
theorem kn1 : wD.2.2.1 = 2 ∧ wD.2.2.2 = 0 ∧ wD.2.1.next = 3 ∧ wD.2.1.safe = 2 := by decide +kernel
theorem kn2 : wE.2.2 = 0 ∧ wE.2.1.map (fun l => (l.next, l.safe, l.lo, getL l 0)) = some (2, 2, 0, ([1], 0)) := by decide +kernel
theorem linv_of {l : LM} {m : DM} {n : Nat} (h : ∃ (gs : List (List (List UInt8))) (safe : Nat), l = logOf gs safe ∧ Rel m gs safe ∧ gs.flatten.length ≤ n) (hn : n ≤ 1000) : LInv l ∧ (l.segs = [] → l.safe = l.next) := by
  obtain ⟨gs, safe, rfl, hr, hl⟩ := h
  exact ⟨hr.linv (by omega), hr.calm⟩
theorem linv_empty : LInv (logOf [] 0) := (rel_empty k14_inv rfl).linv (by simp)

theorem works_spec : Ct Pr F_law14_works [] .one [.bool] [] GTab (fun t Bs => t.1 = true ∧ Bs = []) := by
  refine spec1 c_law14_works fun B hr => ?_
  haveI : FroP B GTab := ⟨hr, fun _ _ h s => GTab.mono _ _ h s⟩
  unfold law14_works
  refine xcall0 (New_spec 4096) rdb ?_
  rintro ⟨q, r, _⟩ _ (⟨h, _⟩ | ⟨_, _, h1, ⟨b, h2⟩, rfl⟩)
  · omega
  simp only at h1 h2; subst h1 h2
  refine app1 (ca2 (xiff rfl ?_))
  refine xcl (sOpen_spec (some ⟨b, 0, none⟩) k14) rdb ?_
  have he := open_empty k14_inv rfl rfl
  rintro ⟨q1, r1, _⟩ _ (⟨l, b1, e1, e2, e3, e4, rfl⟩ | ⟨e1, _⟩)
  rotate_left
  · rw [he] at e1; cases e1
  simp only at e3 e4; subst e3 e4
  rw [he] at e1
  obtain rfl := Option.some.inj e1
  rw [he]
  refine app2 (ca2 (xjoin (xiff rfl (xiff rfl (xnew fun b2 => ?_)))))
  refine xfold1 (Q := Ar U8 ⟨some ⟨b2, 0, none⟩, 1, 1⟩ [1]) 0 (fun g hg => ⟨[], blk_ar [1] 1 rfl rfl hg⟩) ?_
  refine xcl (sAppend_spec (some ⟨b1, 0, none⟩) (some ⟨b, 0, none⟩) k14 (logOf [] 0) ⟨some ⟨b2, 0, none⟩, 1, 1⟩ [1] (fun _ => rfl) (linv_of relA (by decide)).1) (rds_and rdb rdb) ?_
  rintro ⟨t, t1, _⟩ _ ⟨_, _, rfl⟩
  rw [show appendL k14 (logOf [] 0) [1] = wA from rfl]
  refine app2 (ca2 ?_)
  refine xnone U8 ?_
  refine xcl (sAppend_spec (some ⟨b1, 0, none⟩) (some ⟨b, 0, none⟩) wA.1 wA.2.1 ⟨none, 0, 0⟩ [] (linv_of relA (by decide)).2 (linv_of relB (by decide)).1) (rds_and rdb rdb) ?_
  rintro ⟨t, t1, _⟩ _ ⟨_, _, rfl⟩
  rw [show appendL wA.1 wA.2.1 [] = wB from rfl]
  refine app2 (ca2 ?_)
  refine xcl (sSync_spec (some ⟨b1, 0, none⟩) (some ⟨b, 0, none⟩) wB.1 wB.2.1 (linv_of relB (by decide)).2) rdb ?_
  rintro ⟨t, _⟩ _ ⟨_, rfl⟩
  rw [show syncL wB.1 wB.2.1 = wC from rfl]
  refine app2 (ca1 (xnew fun b3 => ?_))
  refine xfold1 (Q := Ar U8 ⟨some ⟨b3, 0, none⟩, 1, 1⟩ [2]) 0 (fun g hg => ⟨[], blk_ar [2] 1 rfl rfl hg⟩) ?_
  refine xcl (sAppend_spec (some ⟨b1, 0, none⟩) (some ⟨b, 0, none⟩) wC.1 wC.2.1 ⟨some ⟨b3, 0, none⟩, 1, 1⟩ [2] (linv_of relC (by decide)).2 (linv_of relD (by decide)).1) (rds_and rdb rdb) ?_
  rintro ⟨t, t1, _⟩ _ ⟨ht, ht1, rfl⟩
  obtain ⟨k1, k2, k3, k4⟩ := kn1
  have ht : t = 2 := Eq.trans ht k1
  have ht1 : t1 = 0 := Eq.trans ht1 k2
  subst ht
  subst ht1
  rw [show appendL wC.1 wC.2.1 [2] = wD from rfl]
  refine app2 (ca2 (xjoin (xiff (by rw [k2]; rfl) ?_)))
  refine xuse [LogObj (some ⟨b1, 0, none⟩) (some ⟨b, 0, none⟩) wD.2.1, DevObj (some ⟨b, 0, none⟩) wD.1] ?_
  refine xcl (sNext_spec (some ⟨b1, 0, none⟩) (some ⟨b, 0, none⟩) wD.2.1) rdb ?_
  rintro ⟨t, _⟩ _ ⟨ht, rfl⟩
  simp only at ht
  rw [k3] at ht; subst ht
  refine app1 (ca1 (xjoin (xiff rfl ?_)))
  refine xcl (sSafe_spec (some ⟨b1, 0, none⟩) (some ⟨b, 0, none⟩) wD.2.1) rdb ?_
  rintro ⟨t, _⟩ _ ⟨ht, rfl⟩
  simp only at ht
  rw [k4] at ht; subst ht
  refine app1 (ca1 (xiff rfl ?_))
  refine xcl (Wake_spec (some ⟨b, 0, none⟩) wD.1 0) rdb ?_
  rintro _ _ rfl
  refine app1 (ca0 ?_)
  refine xcl (sOpen_spec (some ⟨b, 0, none⟩) (wakeM wD.1 0)) rdb ?_
  obtain ⟨k5, k6⟩ := kn2
  rintro ⟨q1, r1, _⟩ _ (⟨l, b4, e1, e2, e3, e4, rfl⟩ | ⟨e1, e2, _⟩)
  rotate_left
  · exact absurd k5 e2
  simp only at e3 e4; subst e3 e4
  have e1 : wE.2.1 = some l := e1
  rw [e1] at k6
  simp only [Option.map_some, Option.some.injEq, Prod.mk.injEq] at k6
  obtain ⟨k6, k7, k8, k9⟩ := k6
  refine app2 (ca2 (xjoin (xiff rfl (xjoin (xiff rfl ?_)))))
  refine xcl (sNext_spec (some ⟨b4, 0, none⟩) (some ⟨b, 0, none⟩) l) rdb ?_
  rintro ⟨t, _⟩ _ ⟨ht, rfl⟩
  simp only at ht
  rw [k6] at ht; subst ht
  refine app1 (ca1 (xjoin (xiff rfl ?_)))
  refine xcl (sSafe_spec (some ⟨b4, 0, none⟩) (some ⟨b, 0, none⟩) l) rdb ?_
  rintro ⟨t, _⟩ _ ⟨ht, rfl⟩
  simp only at ht
  rw [k7] at ht; subst ht
  refine app1 (ca1 (xjoin (xiff rfl ?_)))
  refine xcl (sFirst_spec (some ⟨b4, 0, none⟩) (some ⟨b, 0, none⟩) l) rdb ?_
  rintro ⟨t, _⟩ _ ⟨ht, rfl⟩
  simp only at ht
  rw [k8] at ht; subst ht
  refine app1 (ca1 (xiff rfl ?_))
  refine xcl (sGet_spec (some ⟨b4, 0, none⟩) (some ⟨b, 0, none⟩) l 0 ⟨by decide, by decide⟩) rdb ?_
  rintro ⟨t, t1, _⟩ _ ⟨ht1, rfl⟩
  simp only at ht1
  simp only [k9] at ht1 ⊢
  subst ht1
  refine app2 (ca2 (xjoin (xift rfl (xnew fun b5 => ?_))))
  refine xfold1 (Q := Ar U8 ⟨some ⟨b5, 0, none⟩, 1, 1⟩ [1]) 0 (fun g hg => ⟨[], blk_ar [1] 1 rfl rfl hg⟩) ?_
  refine xcl (pre := []) (SameBytes_spec t ⟨some ⟨b5, 0, none⟩, 1, 1⟩ [1] [1] (by decide)) (rds_and rdb rdb) ?_
  rintro ⟨c, _⟩ _ ⟨hc, rfl⟩
  obtain rfl : c = true := by rw [show c = _ from hc]; rfl
  exact app0 (ca1 (xkeep (l := []) (xret ⟨rfl, rfl⟩)))

theorem great_spec (p : Sl) (ps : List (List UInt8)) : Ct Pr F_law14_great [p.v] .one [.bool] [] (RRows p ps) (fun t Bs => (t.1 = false → ps.length ≤ 100 ∧ ∀ (i : Nat) (y : List UInt8), ps[i]? = some y → y.length ≤ 4096) ∧ Bs = []) := by
  refine spec1 c_law14_great fun B hr => ?_
  obtain ⟨rs, ha, hl, hrow⟩ := hr
  haveI : Fro B p SL rs := ⟨ha⟩
  have h1 := ha.1
  unfold law14_great
  refine xif_dec (fun h => xret ⟨fun e => by (cases e), rfl⟩) (fun h => ?_)
  refine xloop1 (fun m (x : Int) As' => ∃ k : Nat, x = (k : Int) ∧ m = rs.length - k ∧ k ≤ rs.length ∧ (∀ (j : Nat) (y : List UInt8), j < k → ps[j]? = some y → y.length ≤ 4096) ∧ As' = []) rs.length ⟨0, rfl, rfl, by omega, fun j y h => by omega, rfl⟩ ?_
  rintro m x As' K ⟨k, rfl, rfl, hk, hall, rfl⟩ hK
  refine xif_dec (fun hp => ?_) (fun hp => xret ⟨fun _ => ⟨by omega, fun i y hy => hall i y (by have := (List.getElem?_eq_some_iff.1 hy).1; omega) hy⟩, rfl⟩)
  refine xidxn (E := SL) (xs := rs) (s := p) (h1 := by omega) (h := fun r hr => ?_)
  refine xgetE (E := SL) (xs := rs) hr (h := xif_dec (fun h2 => xret ⟨fun e => by (cases e), rfl⟩) (fun h2 => ?_))
  rw [wrap_succ k (by omega)]
  refine hK _ _ _ (by omega) ⟨k + 1, rfl, rfl, by omega, fun j y hj hy => ?_, rfl⟩
  by_cases e : j < k
  · exact hall j y e hy
  · obtain rfl : j = k := by omega
    have := (hrow j r y hr hy).1
    omega

/-- All that a log holds. -/
theorem told_spec (q p : Option Addr) (gs : List (List (List UInt8))) (safe : Int) (hl : gs.flatten.length ≤ 10000) :
    Ct Pr F_law14_told [.pointer q] (.tup [none, none]) [.slice, .bool] [LogObj q p (logOf gs safe)] emp (fun t Bs => t.2.1 = true ∧ Bs = [LogObj q p (logOf gs safe), ORows t.1 gs.flatten]) := by
  refine spec2 c_law14_told fun B _ => ?_
  unfold law14_told
  refine xcl (sFirst_spec q p (logOf gs safe)) rdb ?_
  rintro ⟨t, _⟩ _ ⟨ht, rfl⟩
  simp only [lo_of] at ht; subst ht
  refine app1 (ca1 ?_)
  refine xnone SL ?_
  refine xadd (A := Each (Ar U8) [] []) trivial ?_
  refine xuse [Each (Ar U8) [] [], Ar SL ⟨none, 0, 0⟩ [], LogObj q p (logOf gs safe)] ?_
  refine xloop2 (fun m (out : Sl) (x : Int) As' => ∃ (k : Nat) (rs : List Sl), x = (k : Int) ∧ m = gs.flatten.length - k ∧ k ≤ gs.flatten.length ∧ rs.length = k ∧ As' = [Each (Ar U8) rs (gs.flatten.take k), Ar SL out rs, LogObj q p (logOf gs safe)]) gs.flatten.length ⟨0, [], rfl, rfl, by omega, rfl, rfl⟩ ?_
  rintro m out x As' K ⟨k, rs, rfl, rfl, hk, hrl, rfl⟩ hK
  refine xcl (sNext_spec q p (logOf gs safe)) rdb ?_
  rintro ⟨t, _⟩ _ ⟨ht, rfl⟩
  simp only [next_of] at ht; subst ht
  refine app1 (ca1 (xif_dec (fun hp => ?_) (fun hp => ?_)))
  · obtain ⟨y, hy⟩ : ∃ y, gs.flatten[k]? = some y := ⟨_, List.getElem?_eq_getElem (by omega)⟩
    refine xcl (sGet_spec q p (logOf gs safe) (k : Int) ⟨by omega, by omega⟩) rdb ?_
    rintro ⟨t, t1, _⟩ _ ⟨ht1, rfl⟩
    simp only [get_of hy] at ht1 ⊢
    subst ht1
    refine app2 (ca2 ?_)
    refine xlen (E := SL) (xs := rs) out fun hol _ => ?_
    refine xiff (by simp; omega) (xnew fun b => ?_)
    refine xapp1 (E := SL) t (hb := by omega) (h := fun s1 => ?_)
    refine xfold [Each (Ar U8) rs (gs.flatten.take k), Ar U8 t y] (Each (Ar U8) (rs ++ [t]) (gs.flatten.take (k + 1))) (fun g hg => ?_) ?_
    · rw [List.take_add_one, hy]
      exact each_snoc hg
    rw [wrap_succ k (by omega)]
    exact xuse [Each (Ar U8) (rs ++ [t]) (gs.flatten.take (k + 1)), Ar SL s1 (rs ++ [t]), LogObj q p (logOf gs safe)] (hK _ _ _ _ (by omega) ⟨k + 1, _, rfl, rfl, by omega, by simp; omega, rfl⟩)
  · have hkl : k = gs.flatten.length := by omega
    rw [hkl, List.take_of_length_le (Nat.le_refl _)]
    refine xfold [Ar SL out rs, Each (Ar U8) rs gs.flatten] (ORows out gs.flatten) (fun g hg => ⟨rs, hg⟩) ?_
    exact xuse [LogObj q p (logOf gs safe), ORows out gs.flatten] (xret ⟨rfl, rfl⟩)

/-- Rows that came in, and the slices that they are. -/
def RowsAt (s : Sl) (rs : List Sl) (bss : List (List UInt8)) : HP := fun h => RAr SL s rs h ∧ rs.length = bss.length ∧ ∀ (i : Nat) (r : Sl) (bs : List UInt8), rs[i]? = some r → bss[i]? = some bs → RAr U8 r bs h
/-- Some of them. -/
def SomeOf (rs : List Sl) (ps : List (List UInt8)) (rs' : List Sl) (all : List (List UInt8)) : Prop := rs'.length = all.length ∧ ∀ (j : Nat) (r : Sl) (x : List UInt8), rs'[j]? = some r → all[j]? = some x → ∃ i : Nat, rs[i]? = some r ∧ ps[i]? = some x
theorem someOf_snoc {rs : List Sl} {ps : List (List UInt8)} {rs' : List Sl} {all : List (List UInt8)} (h : SomeOf rs ps rs' all) {i : Nat} {r : Sl} {x : List UInt8} (hr : rs[i]? = some r) (hx : ps[i]? = some x) : SomeOf rs ps (rs' ++ [r]) (all ++ [x]) := by
  refine ⟨by simp [h.1], fun j r' x' h1 h2 => ?_⟩
  by_cases e : j < rs'.length
  · rw [List.getElem?_append_left e] at h1
    rw [List.getElem?_append_left (by rw [← h.1]; exact e)] at h2
    exact h.2 j r' x' h1 h2
  · have hj := (List.getElem?_eq_some_iff.1 h1).1
    simp at hj
    obtain rfl : j = rs'.length := by omega
    rw [List.getElem?_append_right (by omega), Nat.sub_self] at h1
    rw [h.1, List.getElem?_append_right (by omega), Nat.sub_self] at h2
    obtain rfl := Option.some.inj h1
    obtain rfl := Option.some.inj h2
    exact ⟨i, hr, hx⟩
theorem someOf_rows {B : Base} {As F : List HP} {p s : Sl} {rs rs' : List Sl} {ps all : List (List UInt8)} (h : SomeOf rs ps rs' all) (hf : RowsAt p rs ps (frz B.W B.h0)) (i : Nat) [q : Pick i As (Ar SL s rs') F] : Rds B As (RRows s all) := by
  refine rds_of fun g hg hF hs hm => ?_
  obtain ⟨a, _, pa, _, _, sa, _⟩ := star_perm q.perm hs
  refine ⟨rs', (pa.read).mono (sa.trans hm), h.1, fun j r x hr hx => ?_⟩
  obtain ⟨k, h1, h2⟩ := h.2 j r x hr hx
  exact (hf.2.2 k r x h1 h2).mono hg

theorem fill_spec (q d : Option Addr) (m : DM) (p sy : Sl) (rs : List Sl) (ps : List (List UInt8)) (bs : List Bool) (hps : ps.length ≤ 100) (hR : Rel m [] 0) :
    Ct Pr F_law14_fill [.pointer q, p.v, sy.v] (.tup [none, none]) [.slice, .bool] [LogObj q d (logOf [] 0), DevObj d m] ((RowsAt p rs ps).and ((RAr BL sy bs).and GTab))
    (fun t Bs => t.2.1 = true ∧ ∃ (m' : DM) (gs : List (List (List UInt8))) (safe : Nat) (rs' : List Sl), Rel m' gs safe ∧ m'.room = m.room ∧ (m.armed = false → m.down = false → m'.armed = false ∧ m'.down = false) ∧ gs.flatten.length ≤ 100 ∧ SomeOf rs ps rs' gs.flatten ∧
      Bs = [Ar SL t.1 rs', LogObj q d (logOf gs safe), DevObj d m']) := by
  refine spec2 c_law14_fill fun B hr => ?_
  obtain ⟨⟨ha, hl, hrow⟩, hb, hg⟩ := hr
  haveI : Fro B p SL rs := ⟨ha⟩
  haveI : Fro B sy BL bs := ⟨hb⟩
  haveI : FroP B GTab := ⟨hg, fun _ _ h s => GTab.mono _ _ h s⟩
  have h1 := ha.1
  have h2 := hb.1
  unfold law14_fill
  refine xnone SL ?_
  refine xloop2 (fun n (all : Sl) (x : Int) As' => ∃ (k : Nat) (m' : DM) (gs : List (List (List UInt8))) (safe : Nat) (rs' : List Sl), x = (k : Int) ∧ n = rs.length - k ∧ k ≤ rs.length ∧ Rel m' gs safe ∧ m'.room = m.room ∧ (m.armed = false → m.down = false → m'.armed = false ∧ m'.down = false) ∧ gs.flatten.length ≤ k ∧ SomeOf rs ps rs' gs.flatten ∧ As' = [Ar SL all rs', LogObj q d (logOf gs safe), DevObj d m'])
    rs.length ⟨0, m, [], 0, [], rfl, rfl, by omega, hR, rfl, fun a b => ⟨a, b⟩, by simp, ⟨rfl, fun j r x h => by simp at h⟩, rfl⟩ ?_
  rintro n all x As' K ⟨k, m', gs, safe, rs', rfl, rfl, hk, hRel, hroom, hup, hgl, hso, rfl⟩ hK
  refine xif_dec (fun hp => ?_) (fun hp => ?_)
  rotate_left
  · refine xret ⟨rfl, m', gs, safe, rs', hRel, hroom, hup, by omega, hso, rfl⟩
  have hlt : k < rs.length := by omega
  obtain ⟨y, hy⟩ : ∃ y, ps[k]? = some y := ⟨_, List.getElem?_eq_getElem (by omega)⟩
  obtain ⟨r, hrk⟩ : ∃ r, rs[k]? = some r := ⟨_, List.getElem?_eq_getElem hlt⟩
  haveI : Fro B r U8 y := ⟨hrow k r y hrk hy⟩
  refine xidxn (E := SL) (xs := rs) (s := p) (h1 := hlt) (h := fun r' hr' => ?_)
  obtain rfl : r' = r := by rw [hrk] at hr'; exact (Option.some.inj hr').symm
  refine xgetE (E := SL) (xs := rs) hrk (h := ?_)
  obtain ⟨gs1, safe1, s1, s2, s3, s4, s5, s6⟩ := hRel.step y (by omega)
  have hgl1 : gs1.flatten.length ≤ k + 1 := by
    rcases s6 with ⟨_, _, e⟩ | ⟨_, _, e⟩ <;> rw [e]
    · rw [List.length_append, List.length_singleton]; omega
    · omega
  refine xcl (sAppend_spec q d m' (logOf gs safe) r' y hRel.calm (by rw [s1]; exact s2.linv (by omega))) (rds_and rdb rdb) ?_
  rintro ⟨t, t1, _⟩ _ ⟨ht, ht1, rfl⟩
  simp only at ht ht1
  rw [s1]
  generalize hm1 : (appendL m' (logOf gs safe) y).1 = m1 at *
  refine app2 (ca2 ?_)
  refine xjoin1 (fun (all1 : Sl) As' => ∃ rs1, SomeOf rs ps rs1 gs1.flatten ∧ As' = [Ar SL all1 rs1, LogObj q d (logOf gs1 safe1), DevObj d m1]) (fun K2 hK2 => ?_) ?_
  · rcases s6 with ⟨e1, e2, e3⟩ | ⟨e1, e2, e3⟩
    · rw [e1] at ht1; subst ht1
      rw [e2] at ht; subst ht
      refine xift rfl ?_
      refine xlen (E := SL) (xs := rs') all fun hol _ => ?_
      have hae : all.n = gs.flatten.length := by have := hso.1; omega
      refine xiff (by rw [hae]; simp) ?_
      refine xidxn (E := SL) (xs := rs) (s := p) (h1 := hlt) (h := fun r'' hr'' => ?_)
      obtain rfl : r'' = r' := by rw [hrk] at hr''; exact (Option.some.inj hr'').symm
      refine xgetE (E := SL) (xs := rs) hrk (h := xnew fun b => ?_)
      have hrl := hso.1
      refine xapp1 (E := SL) r'' (hb := by omega) (h := fun s2 => ?_)
      refine xuse [Ar SL s2 (rs' ++ [r'']), LogObj q d (logOf gs1 safe1), DevObj d m1] (hK2 _ _ ⟨rs' ++ [r''], by rw [e3]; exact someOf_snoc hso hrk hy, rfl⟩)
    · rw [← ht1] at e1
      refine xiff (by simpa using e1) ?_
      subst e3
      exact xuse [Ar SL all rs', LogObj q d (logOf gs1 safe1), DevObj d m1] (hK2 _ _ ⟨rs', hso, rfl⟩)
  rintro all1 As2 ⟨rs1, hso1, rfl⟩
  have hup1 : m.armed = false → m.down = false → m1.armed = false ∧ m1.down = false := fun a b => by
    obtain ⟨c1, c2⟩ := hup a b
    exact s5 c1 c2
  have hroom1 : m1.room = m.room := s4.trans hroom
  refine xjoin1 (fun (c : Bool) As' => As' = [Ar SL all1 rs1, LogObj q d (logOf gs1 safe1), DevObj d m1]) (fun K2 hK2 => ?_) ?_
  · refine xif_dec (fun h3 => ?_) (fun h3 => hK2 _ _ rfl)
    refine xidxn (E := BL) (xs := bs) (s := sy) (h1 := by omega) (h := fun c hc => ?_)
    exact xgetE (E := BL) (xs := bs) hc (h := hK2 _ _ rfl)
  rintro c As2 rfl
  -- the sync
  refine xjoin1 (fun (c2 : Bool) As' => ∃ (m2 : DM) (safe2 : Nat), Rel m2 gs1 safe2 ∧ m2.room = m.room ∧ (m.armed = false → m.down = false → m2.armed = false ∧ m2.down = false) ∧ (c2 = true → safe2 = gs1.flatten.length) ∧ As' = [Ar SL all1 rs1, LogObj q d (logOf gs1 safe2), DevObj d m2]) (fun K2 hK2 => ?_) ?_
  · refine xif (fun h3 => ?_) (fun h3 => hK2 _ _ ⟨m1, safe1, s2, hroom1, hup1, fun h => (by cases h), rfl⟩)
    obtain ⟨safe2, u1, u2, u3, u4, u5, u6⟩ := s2.sstep
    refine xcl (sSync_spec q d m1 (logOf gs1 safe1) s2.calm) rdb ?_
    rintro ⟨t2, _⟩ _ ⟨ht2, rfl⟩
    simp only at ht2; subst ht2
    rw [u1]
    refine app2 (ca1 ?_)
    refine xuse [Ar SL all1 rs1, LogObj q d (logOf gs1 safe2), DevObj d (syncL m1 (logOf gs1 safe1)).1] (hK2 _ _ ⟨_, safe2, u2, u4.trans hroom1, fun a b => ?_, fun h => u6 (by simpa using h), rfl⟩)
    obtain ⟨c1, c2⟩ := hup1 a b
    exact u5 c1 c2
  rintro c2 As2 ⟨m2, safe2, r2, hroom2, hup2, hc2, rfl⟩
  refine xjoin1 (fun (c3 : Bool) As' => c3 = false ∧ As' = [Ar SL all1 rs1, LogObj q d (logOf gs1 safe2), DevObj d m2]) (fun K2 hK2 => ?_) ?_
  · refine xif (fun h3 => ?_) (fun h3 => hK2 _ _ ⟨rfl, rfl⟩)
    refine xcl (sSafe_spec q d (logOf gs1 safe2)) rdb ?_
    rintro ⟨t2, _⟩ _ ⟨ht2, rfl⟩
    simp only at ht2; subst ht2
    refine app1 (ca1 ?_)
    refine xcl (sNext_spec q d (logOf gs1 safe2)) rdb ?_
    rintro ⟨t3, _⟩ _ ⟨ht3, rfl⟩
    simp only [next_of] at ht3; subst ht3
    refine app1 (ca1 ?_)
    refine xuse [Ar SL all1 rs1, LogObj q d (logOf gs1 safe2), DevObj d m2] (hK2 _ _ ⟨?_, rfl⟩)
    rw [hc2 h3]; simp
  rintro c3 As2 ⟨rfl, rfl⟩
  refine xiff rfl ?_
  rw [wrap_succ k (by omega)]
  exact hK _ _ _ _ (by omega) ⟨k + 1, m2, gs1, safe2, rs1, rfl, rfl, by omega, r2, hroom2, hup2, hgl1, hso1, rfl⟩

end Go.Cx
