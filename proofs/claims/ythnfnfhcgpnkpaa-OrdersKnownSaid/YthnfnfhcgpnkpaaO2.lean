/-
  Both journals, side by side; the example.
  OrdersOpens, OrdersPlays.
  How the arguments are read.
-/
import Derived.Test.YthnfnfhcgpnkpaaO1
namespace Go.Cx
open Go Go.Cf
set_option linter.unusedVariables false
variable {B : Base} {As : List HP}

theorem SameInts_spec (a b : Sl) (xs ys : List Int) (hm : xs.length ≤ 140737488355328) :
    Ct Pr F_kit_SameInts [a.v, b.v] .one [.bool] [] ((RAr I64 a xs).and (RAr I64 b ys)) (fun t Bs => t.1 = decide (xs = ys) ∧ Bs = []) := by
  refine spec1 c_kit_SameInts fun B hr => ?_
  have fa : Fro B a I64 xs := ⟨hr.1⟩
  have fb : Fro B b I64 ys := ⟨hr.2⟩
  have ha := hr.1.1
  have hb := hr.2.1
  unfold kit_SameInts
  refine xif (fun h => ?_) (fun h => ?_)
  · refine xret ⟨?_, rfl⟩
    have : xs ≠ ys := fun e => by subst e; simp [← ha, ← hb] at h
    simp [this]
  · have hl : xs.length = ys.length := by simp at h; omega
    refine xloop1 (fun n i As => ∃ k : Nat, i = (k : Int) ∧ n = xs.length - k ∧ k ≤ xs.length ∧ xs.take k = ys.take k ∧ As = []) xs.length ⟨0, rfl, rfl, by omega, rfl, rfl⟩ ?_
    rintro n _ _ K ⟨k, rfl, rfl, hk, he, rfl⟩ hK
    refine xif_dec (fun h => ?_) (fun h => ?_)
    · refine xdraw (xidxn rfl (by omega) fun x hx => xgetE hx rfl rfl (xidxn rfl (by omega) fun y hy => xgetE hy rfl rfl ?_))
      refine xif (fun h => ?_) (fun h => ?_)
      · refine xret ⟨?_, rfl⟩
        have : xs ≠ ys := fun e => by subst e; rw [hx] at hy; simp at hy h; exact h hy
        simp [this]
      · rw [wrap_succ k (by omega)]
        refine hK (xs.length - (k + 1)) _ _ (by omega) ⟨k + 1, rfl, rfl, by omega, ?_, rfl⟩
        rw [List.take_add_one, List.take_add_one, he, hx, hy]
        simp at h
        rw [h]
    · refine xret ⟨?_, rfl⟩
      have : k = xs.length := by omega
      subst this
      rw [List.take_length, hl, List.take_length] at he
      simp [he]

theorem SpoilInts_spec (l : Sl) (xs : List Int) : Ct Pr F_kit_SpoilInts [l.v] (.tup []) [] [Ar I64 l xs] emp (fun t Bs => Bs = []) := by
  refine spec0 c_kit_SpoilInts fun B _ => ?_
  unfold kit_SpoilInts
  refine xslc0 rfl (by omega) (by omega) ?_
  rw [Int.toNat_natCast]
  refine xars 0 fun zs h1 h2 => ?_
  refine xshift l.c (xs ++ zs) [] (by simp) (by simp; omega) ?_
  refine xar ?_
  refine xloop1 (fun n i As => ∃ (k : Nat) (ys : List Int), i = (k : Int) ∧ n = l.c - k ∧ k ≤ l.c ∧ ys.length = l.c ∧ As = [Ar I64 ⟨l.p, l.c, l.c⟩ ys]) l.c ⟨0, xs ++ zs, rfl, rfl, by omega, by simp; omega, rfl⟩ ?_
  rintro n _ _ K ⟨k, ys, rfl, rfl, hk, hl, rfl⟩ hK
  have hc63 : (k : Int) < (l.c : Int) → k < 9223372036854775807 → True := fun _ _ => trivial
  refine xfact 0 (fun g hg => (show l.c ≤ 9223372036854775807 by obtain ⟨_, h⟩ := hg; exact h.cap_le)) fun hc => ?_
  refine xif_dec (fun h => ?_) (fun h => ?_)
  · have hkl : k < l.c := by simp only at h; omega
    have hy := List.getElem?_eq_getElem (l := ys) (i := k) (by omega)
    generalize ys[k]'(by omega) = y at hy
    refine xidxn (h1 := by omega) (h := fun _ _ => ?_)
    refine xgetE hy (h := ?_)
    refine xidxn (h1 := by omega) (h := fun _ _ => ?_)
    refine xsetE (bits .xor .i64 y 77) hy (hv := rfl) (h := ?_)
    rw [wrap_succ k (by omega)]
    exact hK (l.c - (k + 1)) _ _ (by omega) ⟨k + 1, _, rfl, rfl, by omega, by simpa using hl, rfl⟩
  · exact xdrop 0 (xret rfl)

def JOpt (d q : Option Addr) : Option JM → HP
  | some J => JObj d q J
  | none => fun _ => q = none
def RJOpt (d q : Option Addr) : Option JM → HP
  | some J => RefJ d q J
  | none => fun _ => q = none
abbrev pCells (d x q1 q2 : Option Addr) : List Value := [.pointer d, .pointer x, .pointer q1, .pointer q2]
def PairO (pa d x : Option Addr) (o : Option JM) : HP := fun h => ∃ b q1 q2, pa = some ⟨b, 0, none⟩ ∧ star [Blk b (pCells d x q1 q2), JOpt d q1 o, RJOpt x q2 o] h

theorem jopt_none {d q : Option Addr} {o : Option JM} {g : Frag} (h : JOpt d q o g) : noneB q = o.isNone := by
  cases o with
  | none => obtain rfl : q = none := h; rfl
  | some J => obtain ⟨b, rfl⟩ := jobj_some h; rfl
theorem rjopt_none {d q : Option Addr} {o : Option JM} {g : Frag} (h : RJOpt d q o g) : noneB q = o.isNone := by
  cases o with
  | none => obtain rfl : q = none := h; rfl
  | some J => obtain ⟨b, rfl⟩ := refj_some h; rfl

theorem xpair (i : Nat) {pa d x : Option Addr} {o : Option JM} {F : List HP} [p : Pick i As (PairO pa d x o) F] {φ : WP}
    (k : ∀ b q1 q2, pa = some ⟨b, 0, none⟩ → noneB q1 = o.isNone → noneB q2 = o.isNone → Ent B (Blk b (pCells d x q1 q2) :: JOpt d q1 o :: RJOpt x q2 o :: F) φ) : Ent B As φ := by
  refine Ent.perm p.perm ?_
  intro w hw
  obtain ⟨g, ⟨a, c, ⟨b, q1, q2, hp, pa⟩, pc, d, sa, sc⟩, hm, hu⟩ := hw
  have hl : noneB q1 = o.isNone ∧ noneB q2 = o.isNone := by
    obtain ⟨_, _, _, ⟨_, _, pj, ⟨_, _, pr, _⟩, _⟩, _⟩ := pa
    exact ⟨jopt_none pj, rjopt_none pr⟩
  exact k b q1 q2 hp hl.1 hl.2 w ⟨g, (star_append [_, _, _] F).2 ⟨a, c, pa, pc, d, sa, sc⟩, hm, hu⟩

theorem xpair_back (b : Nat) (d x q1 q2 : Option Addr) (o : Option JM) {G : List HP} [q : Split [Blk b (pCells d x q1 q2), JOpt d q1 o, RJOpt x q2 o] As G] {φ : WP}
    (k : Ent B (PairO (some ⟨b, 0, none⟩) d x o :: G) φ) : Ent B As φ :=
  xfold [Blk b (pCells d x q1 q2), JOpt d q1 o, RJOpt x q2 o] (PairO (some ⟨b, 0, none⟩) d x o) (fun g hg => ⟨b, q1, q2, rfl, hg⟩) k

def openedJ (m : DM) : Option JM := (openJ m).2.2.map fun L => ⟨false, L⟩

theorem popen_spec (pa d x : Option Addr) (m : DM) (o : Option JM) : Ct Pr F_law25_pair_open [.pointer pa] .one [.bool] [PairO pa d x o, DevObj d m, RefDev x m] emp
    (fun t Bs => t.1 = true ∧ Bs = [PairO pa d x (openedJ m), DevObj d (openJ m).1, RefDev x (openJ m).1]) := by
  refine spec1 c_law25_pair_open fun B _ => ?_
  unfold law25_pair_open
  refine xpair 0 fun b q1 q2 hp _ _ => ?_
  subst hp
  refine xdrop 1 (xdrop 1 ?_)
  refine xnil (xget (h := ?_))
  obtain ⟨hn, hs⟩ := open_err (m := m)
  refine xcl (Open_spec d m) rdb ?_
  rintro ⟨j1, r, _⟩ _ (⟨L, hL, hr, rfl⟩ | ⟨hL, hj, hr, rfl⟩)
  · simp only at hr
    subst hr
    have e := hs L hL
    refine app2 (ca2 (xnil (xget (h := ?_))))
    refine xcl (rOpen_spec x m) rdb ?_
    rintro ⟨j2, r, _⟩ _ (⟨L', hL', hr, rfl⟩ | ⟨hL', _⟩)
    · simp only at hr
      subst hr
      rw [hL] at hL'
      cases hL'
      refine app2 (ca2 (xnil (xset (h := xnil (xset (h := ?_))))))
      refine xfact 3 (fun g hg => jobj_some hg) fun hj => ?_
      obtain ⟨bj, hj⟩ := hj
      simp only at hj
      subst hj
      refine xjoin (xift rfl ?_)
      refine xfold [Blk b (pCells d x (some ⟨bj, 0, none⟩) j2), JObj d (some ⟨bj, 0, none⟩) ⟨false, L⟩, RefJ x j2 ⟨false, L⟩] (PairO (some ⟨b, 0, none⟩) d x (openedJ m)) (fun g hg => ⟨b, _, _, rfl, by unfold openedJ; rw [hL]; exact hg⟩) ?_
      exact xuse [PairO (some ⟨b, 0, none⟩) d x (openedJ m), DevObj d (openJ m).1, RefDev x (openJ m).1] (xret ⟨rfl, rfl⟩)
    · rw [hL] at hL'; cases hL'
  · simp only at hr hj
    subst hr hj
    refine app1 (ca2 (xnil (xget (h := ?_))))
    refine xcl (rOpen_spec x m) rdb ?_
    rintro ⟨j2, r, _⟩ _ (⟨L', hL', _⟩ | ⟨_, hj, hr, rfl⟩)
    · rw [hL] at hL'; cases hL'
    · simp only at hr hj
      subst hr hj
      refine app1 (ca2 (xnil (xset (h := xnil (xset (h := ?_))))))
      refine xjoin (xift (by simp) ?_)
      refine xfold [Blk b (pCells d x none none)] (PairO (some ⟨b, 0, none⟩) d x (openedJ m)) (fun g hg => ⟨b, none, none, rfl, by
        unfold openedJ; rw [hL]
        obtain ⟨a, c, pa, _, _, sa, _⟩ := hg
        exact ⟨a, fun _ => none, pa, ⟨fun _ => none, fun _ => none, rfl, ⟨fun _ => none, fun _ => none, rfl, trivial, fun _ => .inl rfl, Sub.refl _, Sub.refl _⟩, fun _ => .inl rfl, Sub.refl _, Sub.refl _⟩, fun _ => .inr rfl, sa, fun _ _ e => by cases e⟩⟩) ?_
      refine xuse [PairO (some ⟨b, 0, none⟩) d x (openedJ m), DevObj d (openJ m).1, RefDev x (openJ m).1] (xret ⟨?_, rfl⟩)
      have : ((openJ m).2.1 != 0) = true := by simpa using hn hL
      rw [this]; rfl

theorem left_len {L : JL} : (leftJ L).length ≤ L.length := by
  unfold leftJ
  rw [List.length_map]
  exact List.length_filter_le _ _

theorem alike_spec (pa d x : Option Addr) (o : Option JM) (id : Int) : Ct Pr F_law25_pair_alike [.pointer pa, .int .i64 id] .one [.bool] [PairO pa d x o] emp
    (fun t Bs => t.1 = true ∧ Bs = [PairO pa d x o]) := by
  refine spec1 c_law25_pair_alike fun B _ => ?_
  unfold law25_pair_alike
  refine xpair 0 fun b q1 q2 hp h1 h2 => ?_
  subst hp
  refine xnil (xget (h := ?_))
  cases o with
  | none =>
    refine xjoin (xift h1 (xift rfl ?_))
    exact xpair_back b d x q1 q2 none (xret ⟨rfl, rfl⟩)
  | some J =>
    refine xjoin (xiff h1 (xnil (xget (h := xiff h2 ?_))))
    show Ent B [Blk b (pCells d x q1 q2), JObj d q1 J, RefJ x q2 J] _
    refine xnil (xget (h := ?_))
    refine xcl (State_spec d q1 J id) rdb ?_
    rintro ⟨r, r1, _⟩ _ ⟨g1, g2, rfl⟩
    simp only at g1 g2
    subst g1 g2
    refine app1 (ca2 (xnil (xget (h := ?_))))
    refine xcl (rState_spec x q2 J id) rdb ?_
    rintro ⟨r, r1, _⟩ _ ⟨g1, g2, rfl⟩
    simp only at g1 g2
    subst g1 g2
    refine app1 (ca2 (xnil (xget (h := ?_))))
    refine xfact 1 (fun g hg => (show JInv J.L from hg.1)) fun hji => ?_
    have hll := hji.len
    have hle := left_len (L := J.L)
    refine xcl (Left_spec d q1 J) rdb ?_
    rintro ⟨s, _⟩ _ rfl
    refine app2 (ca1 (xjoin (xift (by simp) (xnil (xget (h := ?_))))))
    refine xcl (rLeft_spec x q2 J) rdb ?_
    rintro ⟨s1, _⟩ _ rfl
    refine app2 (ca1 ?_)
    refine xcl (SameInts_spec s s1 (leftJ J.L) (leftJ J.L) (by omega)) (rds_and rdb rdb) ?_
    rintro ⟨c, _⟩ _ ⟨hc, rfl⟩
    obtain rfl : c = true := by simpa using hc
    refine app0 (ca1 ?_)
    refine xcl (SpoilInts_spec s (leftJ J.L)) rdb ?_
    rintro _ _ rfl
    refine app0 (ca0 ?_)
    refine xfold [Blk b (pCells d x q1 q2), JObj d q1 J, RefJ x q2 J] (PairO (some ⟨b, 0, none⟩) d x (some J)) (fun g hg => ⟨b, q1, q2, rfl, hg⟩) ?_
    exact xuse [PairO (some ⟨b, 0, none⟩) d x (some J)] (xret ⟨rfl, rfl⟩)

theorem does_spec (pa d x : Option Addr) (m : DM) (o : Option JM) (k id n : Int) (s : Sl) (bs : List UInt8) (hk : i64 k) (hn : i64 n) : Ct Pr F_law25_pair_does [.pointer pa, .agg #[.int .i64 k, .int .i64 id, .int .i64 n, s.v]] .one [.bool]
    [PairO pa d x o, DevObj d m, RefDev x m] (RAr U8 s bs) (fun t Bs => t.1 = true ∧ ∃ m' o', Bs = [PairO pa d x o', DevObj d m', RefDev x m']) := by
  refine spec1 c_law25_pair_does fun B hr => ?_
  have fb : Fro B s U8 bs := ⟨hr⟩
  unfold law25_pair_does
  refine xpair 0 fun b q1 q2 hp h1 h2 => ?_
  subst hp
  refine xnew fun b1 => xget (h := ?_)
  refine xcl (Pick_spec k 8 hk ⟨by decide, by decide⟩) rdb ?_
  rintro ⟨r, _⟩ _ ⟨_, rfl⟩
  refine app0 (ca1 ?_)
  refine xfact 4 (fun g hg => dev_some hg) fun hd => ?_
  obtain ⟨bd, rfl⟩ := hd
  refine xif (fun _ => ?_) (fun _ => ?_)
  · refine xdraw (xnil (xget (h := xnil (xget (h := ?_)))))
    refine xcl (Arm_spec (some ⟨bd, 0, none⟩) m n hn) rdb ?_
    rintro _ _ rfl
    refine app1 (ca0 (xdraw (xnil (xget (h := xget (h := ?_))))))
    refine xcl (rArm_spec x m n hn) rdb ?_
    rintro _ _ rfl
    refine app1 (ca0 ?_)
    refine xpair_back b (some ⟨bd, 0, none⟩) x q1 q2 o ?_
    exact xuse [PairO (some ⟨b, 0, none⟩) (some ⟨bd, 0, none⟩) x o, DevObj (some ⟨bd, 0, none⟩) (armM m n), RefDev x (armM m n)] (xret ⟨rfl, _, _, rfl⟩)
  refine xif (fun _ => ?_) (fun _ => ?_)
  · refine xdraw (xnil (xget (h := xget (h := ?_))))
    refine xcl (Wake_spec (some ⟨bd, 0, none⟩) m n) rdb ?_
    rintro _ _ rfl
    refine app1 (ca0 (xdraw (xnil (xget (h := xget (h := ?_))))))
    refine xcl (rWake_spec x m n) rdb ?_
    rintro _ _ rfl
    refine app1 (ca0 ?_)
    refine xpair_back b (some ⟨bd, 0, none⟩) x q1 q2 o ?_
    refine xcl (popen_spec (some ⟨b, 0, none⟩) (some ⟨bd, 0, none⟩) x (wakeM m n) o) rdb ?_
    rintro ⟨c, _⟩ _ ⟨hc, rfl⟩
    obtain rfl : c = true := hc
    refine app3 (ca1 ?_)
    exact xuse [PairO (some ⟨b, 0, none⟩) (some ⟨bd, 0, none⟩) x (openedJ (wakeM m n)), DevObj (some ⟨bd, 0, none⟩) (openJ (wakeM m n)).1, RefDev x (openJ (wakeM m n)).1] (xret ⟨rfl, _, _, rfl⟩)
  refine xif (fun _ => ?_) (fun _ => ?_)
  · refine xpair_back b (some ⟨bd, 0, none⟩) x q1 q2 o ?_
    refine xcl (popen_spec (some ⟨b, 0, none⟩) (some ⟨bd, 0, none⟩) x m o) rdb ?_
    rintro ⟨c, _⟩ _ ⟨hc, rfl⟩
    obtain rfl : c = true := hc
    refine app3 (ca1 ?_)
    exact xuse [PairO (some ⟨b, 0, none⟩) (some ⟨bd, 0, none⟩) x (openedJ m), DevObj (some ⟨bd, 0, none⟩) (openJ m).1, RefDev x (openJ m).1] (xret ⟨rfl, _, _, rfl⟩)
  refine xif (fun _ => ?_) (fun _ => ?_)
  · refine xnil (xset (h := xnil (xset (h := ?_))))
    refine xdraw (xnil (xget (h := xget (h := xnil (xget (h := xget (h := ?_)))))))
    refine xcl (Append_spec (some ⟨bd, 0, none⟩) m cmdN s bs) rdb ?_
    rintro ⟨r1, _⟩ _ ⟨hr1, rfl⟩
    simp only at hr1
    subst hr1
    refine app1 (ca1 (xchk (h := xchk (h := ?_))))
    refine xcl (rAppend_spec x m cmdN s bs) rdb ?_
    rintro ⟨r2, _⟩ _ ⟨hr2, rfl⟩
    simp only at hr2
    subst hr2
    refine app1 (ca1 ?_)
    refine xuse [Blk b (pCells (some ⟨bd, 0, none⟩) x none none), DevObj (some ⟨bd, 0, none⟩) (appendM m cmdN bs).1, RefDev x (appendM m cmdN bs).1] ?_
    refine xadd (A := JOpt (some ⟨bd, 0, none⟩) none none) rfl ?_
    refine xadd (A := RJOpt x none none) rfl ?_
    refine xpair_back b (some ⟨bd, 0, none⟩) x none none none ?_
    exact xret ⟨by simp, _, _, rfl⟩
  refine xnil (xget (h := ?_))
  cases o with
  | none =>
    refine xjoin (xift h1 (xift rfl ?_))
    refine xpair_back b (some ⟨bd, 0, none⟩) x q1 q2 none ?_
    exact xuse [PairO (some ⟨b, 0, none⟩) (some ⟨bd, 0, none⟩) x none, DevObj (some ⟨bd, 0, none⟩) m, RefDev x m] (xret ⟨rfl, _, _, rfl⟩)
  | some J =>
    refine xjoin (xiff h1 (xnil (xget (h := xiff h2 ?_))))
    refine xuse [Blk b1 [.int .i64 k, .int .i64 id, .int .i64 n, s.v], Blk b (pCells (some ⟨bd, 0, none⟩) x q1 q2), JOpt (some ⟨bd, 0, none⟩) q1 (some J), RJOpt x q2 (some J), DevObj (some ⟨bd, 0, none⟩) m, RefDev x m] ?_
    show Ent B [Blk b1 [.int .i64 k, .int .i64 id, .int .i64 n, s.v], Blk b (pCells (some ⟨bd, 0, none⟩) x q1 q2), JObj (some ⟨bd, 0, none⟩) q1 J, RefJ x q2 J, DevObj (some ⟨bd, 0, none⟩) m, RefDev x m] _
    refine xif (fun _ => ?_) (fun _ => ?_)
    · refine xdraw (xnil (xget (h := xget (h := xnil (xget (h := xget (h := ?_)))))))
      refine xcl (Begin_spec (some ⟨bd, 0, none⟩) q1 m J id) rdb ?_
      rintro ⟨r3, _⟩ _ ⟨hr3, rfl⟩
      simp only at hr3
      subst hr3
      refine app2 (ca1 (xchk (h := xchk (h := ?_))))
      refine xcl (rBegin_spec x q2 m J id) rdb ?_
      rintro ⟨r3, _⟩ _ ⟨hr3, rfl⟩
      simp only at hr3
      subst hr3
      refine app2 (ca1 ?_)
      refine xfold [Blk b (pCells (some ⟨bd, 0, none⟩) x q1 q2), JObj (some ⟨bd, 0, none⟩) q1 (beginJ m J id).2.1, RefJ x q2 (beginJ m J id).2.1] (PairO (some ⟨b, 0, none⟩) (some ⟨bd, 0, none⟩) x (some (beginJ m J id).2.1)) (fun g hg => ⟨b, q1, q2, rfl, hg⟩) ?_
      exact xuse [PairO (some ⟨b, 0, none⟩) (some ⟨bd, 0, none⟩) x (some (beginJ m J id).2.1), DevObj (some ⟨bd, 0, none⟩) (beginJ m J id).1, RefDev x (beginJ m J id).1] (xret ⟨by simp, _, _, rfl⟩)
    · refine xdraw (xnil (xget (h := xget (h := xget (h := xnil (xget (h := xget (h := xget (h := ?_)))))))))
      refine xcl (End_spec (some ⟨bd, 0, none⟩) q1 m J id n) rdb ?_
      rintro ⟨r3, _⟩ _ ⟨hr3, rfl⟩
      simp only at hr3
      subst hr3
      refine app2 (ca1 (xchk (h := xchk (h := xchk (h := ?_)))))
      refine xcl (rEnd_spec x q2 m J id n) rdb ?_
      rintro ⟨r3, _⟩ _ ⟨hr3, rfl⟩
      simp only at hr3
      subst hr3
      refine app2 (ca1 ?_)
      refine xfold [Blk b (pCells (some ⟨bd, 0, none⟩) x q1 q2), JObj (some ⟨bd, 0, none⟩) q1 (endJ m J id n).2.1, RefJ x q2 (endJ m J id n).2.1] (PairO (some ⟨b, 0, none⟩) (some ⟨bd, 0, none⟩) x (some (endJ m J id n).2.1)) (fun g hg => ⟨b, q1, q2, rfl, hg⟩) ?_
      exact xuse [PairO (some ⟨b, 0, none⟩) (some ⟨bd, 0, none⟩) x (some (endJ m J id n).2.1), DevObj (some ⟨bd, 0, none⟩) (endJ m J id n).1, RefDev x (endJ m J id n).1] (xret ⟨by simp, _, _, rfl⟩)

/-! The example. -/
def k0M : DM := ⟨false, false, 0, 1000, []⟩
def kA := beginJ k0M ⟨false, []⟩ 7
def kB := beginJ kA.1 kA.2.1 9
def kC := beginJ kB.1 kB.2.1 7
def kD := endJ kC.1 kC.2.1 7 3
theorem kn0 : (openJ k0M).2.2 = some [] ∧ (openJ k0M).1.fs.length = 0 := by decide +kernel
theorem kn0' : openJ k0M = (k0M, 0, some []) := open_none rfl (by decide +kernel)
theorem kn1 : kA.2.2 = 0 ∧ kB.2.2 = 0 ∧ kC.2.2 = 7 ∧ kD.2.2 = 0 := by decide +kernel
theorem kn2 : (openJ kD.1).2.2 = some [(7, 3), (9, -1)] := by decide +kernel

theorem known_spec : Ct Pr F_law25_known [] .one [.bool] [] emp (fun t Bs => t.1 = true ∧ Bs = []) := by
  refine spec1 c_law25_known fun B _ => ?_
  unfold law25_known
  refine xcl (New_spec 1000) rdb ?_
  rintro ⟨q, r, _⟩ _ (⟨h, _⟩ | ⟨_, _, h5, ⟨b0, h4⟩, rfl⟩)
  · omega
  simp only at h4 h5
  subst h4 h5
  refine app1 (ca2 (xiff rfl ?_))
  rw [show (⟨false, false, 0, 1000, []⟩ : DM) = k0M from rfl]
  refine xcl (Open_spec (some ⟨b0, 0, none⟩) k0M) rdb ?_
  rintro ⟨q1, r, _⟩ _ (⟨L, hL, hr, rfl⟩ | ⟨hL, _⟩)
  case inr => rw [kn0.1] at hL; cases hL
  simp only at hr
  subst hr
  rw [kn0.1] at hL
  cases hL
  rw [kn0']
  refine app2 (ca2 ?_)
  refine xfact 1 (fun g hg => jobj_some hg) fun hj => ?_
  obtain ⟨bj, hj⟩ := hj
  simp only at hj
  subst hj
  obtain ⟨k1, k2, k3, k4⟩ := kn1
  refine xjoin (xiff rfl (xjoin (xiff rfl ?_)))
  refine xcl (Begin_spec (some ⟨b0, 0, none⟩) (some ⟨bj, 0, none⟩) k0M ⟨false, []⟩ 7) rdb ?_
  rintro ⟨r, _⟩ _ ⟨hr, rfl⟩
  obtain rfl : r = 0 := hr.trans k1
  rw [show beginJ k0M ⟨false, []⟩ 7 = kA from rfl]
  refine app2 (ca1 (xjoin (xiff rfl ?_)))
  refine xcl (Begin_spec (some ⟨b0, 0, none⟩) (some ⟨bj, 0, none⟩) kA.1 kA.2.1 9) rdb ?_
  rintro ⟨r, _⟩ _ ⟨hr, rfl⟩
  obtain rfl : r = 0 := hr.trans k2
  rw [show beginJ kA.1 kA.2.1 9 = kB from rfl]
  refine app2 (ca1 (xjoin (xiff rfl ?_)))
  refine xcl (Begin_spec (some ⟨b0, 0, none⟩) (some ⟨bj, 0, none⟩) kB.1 kB.2.1 7) rdb ?_
  rintro ⟨r, _⟩ _ ⟨hr, rfl⟩
  obtain rfl : r = 7 := hr.trans k3
  rw [show beginJ kB.1 kB.2.1 7 = kC from rfl]
  refine app2 (ca1 (xjoin (xiff rfl ?_)))
  refine xcl (End_spec (some ⟨b0, 0, none⟩) (some ⟨bj, 0, none⟩) kC.1 kC.2.1 7 3) rdb ?_
  rintro ⟨r, _⟩ _ ⟨hr, rfl⟩
  obtain rfl : r = 0 := hr.trans k4
  rw [show endJ kC.1 kC.2.1 7 3 = kD from rfl]
  refine app2 (ca1 (xiff rfl ?_))
  refine xcl (Open_spec (some ⟨b0, 0, none⟩) kD.1) rdb ?_
  rintro ⟨q2, r, _⟩ _ (⟨L, hL, hr, rfl⟩ | ⟨hL, _⟩)
  case inr => rw [kn2] at hL; cases hL
  simp only at hr
  subst hr
  rw [kn2] at hL
  cases hL
  refine app2 (ca2 ?_)
  refine xfact 1 (fun g hg => jobj_some hg) fun hj => ?_
  obtain ⟨bk, hj⟩ := hj
  simp only at hj
  subst hj
  refine xjoin (xiff rfl (xiff rfl ?_))
  refine xdrop 2 ?_
  refine xcl (State_spec (some ⟨b0, 0, none⟩) (some ⟨bk, 0, none⟩) ⟨false, [(7, 3), (9, -1)]⟩ 7) rdb ?_
  rintro ⟨r, r1, _⟩ _ ⟨g1, g2, rfl⟩
  obtain rfl : r = 2 := g1
  obtain rfl : r1 = 3 := g2
  refine app1 (ca2 ?_)
  refine xcl (State_spec (some ⟨b0, 0, none⟩) (some ⟨bk, 0, none⟩) ⟨false, [(7, 3), (9, -1)]⟩ 9) rdb ?_
  rintro ⟨r, r1, _⟩ _ ⟨g1, g2, rfl⟩
  obtain rfl : r = 1 := g1
  refine app1 (ca2 ?_)
  refine xcl (State_spec (some ⟨b0, 0, none⟩) (some ⟨bk, 0, none⟩) ⟨false, [(7, 3), (9, -1)]⟩ 8) rdb ?_
  rintro ⟨r, r1, _⟩ _ ⟨g1, g2, rfl⟩
  obtain rfl : r = 0 := g1
  refine app1 (ca2 (xjoin (xift rfl ?_)))
  refine xcl (Left_spec (some ⟨b0, 0, none⟩) (some ⟨bk, 0, none⟩) ⟨false, [(7, 3), (9, -1)]⟩) rdb ?_
  rintro ⟨s, _⟩ _ rfl
  refine app2 (ca1 (xnew fun b => ?_))
  refine xfold1 (Q := Ar I64 ⟨some ⟨b, 0, none⟩, 1, 1⟩ [9]) 0 (fun g hg => ⟨[], blk_ar [9] 1 rfl rfl hg⟩) ?_
  refine xcl (SameInts_spec s ⟨some ⟨b, 0, none⟩, 1, 1⟩ (leftJ [(7, 3), (9, -1)]) [9] (by decide)) (rds_and rdb rdb) ?_
  rintro ⟨c, _⟩ _ ⟨hc, rfl⟩
  obtain rfl : c = true := hc
  exact app0 (ca1 (xkeep (l := []) (xret ⟨rfl, rfl⟩)))

theorem wk25 {B : Base} {As : List HP} : Ent B As (XCall Pr F_law25_known [] .one [.bool] fun c => Ret B (ss := [.bool]) (fun t Bs => t.1 = true ∧ Bs = []) (c, ())) := by
  refine xkeep (l := []) ?_
  refine xcl known_spec rdb ?_
  rintro ⟨c, _⟩ _ ⟨h, rfl⟩
  obtain rfl : c = true := h
  exact app0 (ca1 (xret ⟨rfl, rfl⟩))

end Go.Cx

namespace Go.Cx
open Go Go.Cf
set_option linter.unusedVariables false
variable {B : Base} {As : List HP}

theorem OrdersOpens_spec (b ids : Sl) (xs : List UInt8) (ys : List Int) : Ct Pr F_law25_OrdersOpens [b.v, ids.v] .one [.bool] [] ((RAr U8 b xs).and (RAr I64 ids ys)) (fun t Bs => t.1 = true ∧ Bs = []) := by
  refine spec1 c_law25_OrdersOpens fun B hr => ?_
  have fb : Fro B b U8 xs := ⟨hr.1⟩
  have fi : Fro B ids I64 ys := ⟨hr.2⟩
  have hb := hr.1.1
  have hi := hr.2.1
  unfold law25_OrdersOpens
  refine xif (fun _ => wk25) (fun h => ?_)
  have h : ¬ (b.n > 2000 ∨ ids.n > 100) := by simp at h; omega
  refine xcl (New_spec 4000) rdb ?_
  rintro ⟨q, r, _⟩ _ (⟨h, _⟩ | ⟨_, _, h5, ⟨b0, h4⟩, rfl⟩)
  · omega
  simp only at h4 h5
  subst h4 h5
  refine app1 (ca2 ?_)
  refine xcl (rNew_spec 4000) rdb ?_
  rintro ⟨x, r, _⟩ _ (⟨h, _⟩ | ⟨_, _, h5, ⟨b2, h4⟩, rfl⟩)
  · omega
  simp only at h4 h5
  subst h4 h5
  refine app1 (ca2 (xjoin (xiff rfl ?_)))
  refine xcl (Append_spec (some ⟨b0, 0, none⟩) ⟨false, false, 0, 4000, []⟩ cmdN b xs) rdb ?_
  rintro ⟨r, _⟩ _ ⟨hr1, rfl⟩
  simp only at hr1
  subst hr1
  refine app1 (ca1 ?_)
  refine xcl (rAppend_spec (some ⟨b2, 0, none⟩) ⟨false, false, 0, 4000, []⟩ cmdN b xs) rdb ?_
  rintro ⟨r, _⟩ _ ⟨hr1, rfl⟩
  simp only at hr1
  subst hr1
  refine app1 (ca1 (xiff (by simp) (xnew fun b1 => ?_)))
  generalize (appendM ⟨false, false, 0, 4000, []⟩ cmdN xs).1 = m
  refine xadd (A := JOpt (some ⟨b0, 0, none⟩) none none) rfl ?_
  refine xadd (A := RJOpt (some ⟨b2, 0, none⟩) none none) rfl ?_
  refine xpair_back b1 (some ⟨b0, 0, none⟩) (some ⟨b2, 0, none⟩) none none none ?_
  refine xuse [PairO (some ⟨b1, 0, none⟩) (some ⟨b0, 0, none⟩) (some ⟨b2, 0, none⟩) none, DevObj (some ⟨b0, 0, none⟩) m, RefDev (some ⟨b2, 0, none⟩) m] ?_
  refine xloop1 (fun n i As => ∃ (k : Nat) (m : DM) (o : Option JM), i = (k : Int) ∧ n = 2 - k ∧ k ≤ 2 ∧ As = [PairO (some ⟨b1, 0, none⟩) (some ⟨b0, 0, none⟩) (some ⟨b2, 0, none⟩) o, DevObj (some ⟨b0, 0, none⟩) m, RefDev (some ⟨b2, 0, none⟩) m]) 2 ⟨0, m, none, rfl, rfl, by omega, rfl⟩ ?_
  rintro n _ _ K ⟨k, m, o, rfl, rfl, hk, rfl⟩ hK
  refine xif_dec (fun hlt => ?_) (fun _ => wk25)
  refine xcl (popen_spec (some ⟨b1, 0, none⟩) (some ⟨b0, 0, none⟩) (some ⟨b2, 0, none⟩) m o) rdb ?_
  rintro ⟨c, _⟩ _ ⟨hc, rfl⟩
  obtain rfl : c = true := hc
  refine app3 (ca1 (xjoin (xiff rfl ?_)))
  refine xcl (Looks_spec (some ⟨b0, 0, none⟩) (some ⟨b2, 0, none⟩) (openJ m).1) rdb ?_
  rintro ⟨c, _⟩ _ ⟨hc, rfl⟩
  obtain rfl : c = true := hc
  refine app2 (ca1 (xiff rfl ?_))
  refine xuse [PairO (some ⟨b1, 0, none⟩) (some ⟨b0, 0, none⟩) (some ⟨b2, 0, none⟩) (openedJ m), DevObj (some ⟨b0, 0, none⟩) (openJ m).1, RefDev (some ⟨b2, 0, none⟩) (openJ m).1] ?_
  refine xloop1 (fun n i As => ∃ (t : Nat), i = (t : Int) ∧ n = ys.length - t ∧ t ≤ ys.length ∧ As = [PairO (some ⟨b1, 0, none⟩) (some ⟨b0, 0, none⟩) (some ⟨b2, 0, none⟩) (openedJ m), DevObj (some ⟨b0, 0, none⟩) (openJ m).1, RefDev (some ⟨b2, 0, none⟩) (openJ m).1]) ys.length ⟨0, rfl, rfl, by omega, rfl⟩ ?_
  rintro n _ _ K1 ⟨t, rfl, rfl, ht, rfl⟩ hK1
  refine xif_dec (fun hlt => ?_) (fun _ => ?_)
  · have hy := List.getElem?_eq_getElem (l := ys) (i := t) (by omega)
    refine xidxn (h1 := by omega) (h := fun _ _ => ?_)
    refine xgetE hy (h := ?_)
    refine xcl (alike_spec (some ⟨b1, 0, none⟩) (some ⟨b0, 0, none⟩) (some ⟨b2, 0, none⟩) (openedJ m) (ys[t]'(by omega))) rdb ?_
    rintro ⟨c, _⟩ _ ⟨hc, rfl⟩
    obtain rfl : c = true := hc
    refine app1 (ca1 (xiff rfl ?_))
    rw [wrap_succ t (by omega)]
    exact hK1 (ys.length - (t + 1)) _ _ (by omega) ⟨t + 1, rfl, rfl, by omega, rfl⟩
  · rw [wrap_succ k (by omega)]
    exact hK (2 - (k + 1)) _ _ (by omega) ⟨k + 1, _, _, rfl, rfl, by omega, rfl⟩

structure AOp where
  kind : Int
  id : Int
  n : Int
  data : List UInt8
instance : Inhabited AOp := ⟨⟨0, 0, 0, []⟩⟩
abbrev CAc := Int × Int × Int × Sl
def ACT : Enc CAc := ⟨fun x => [.int .i64 x.1, .int .i64 x.2.1, .int .i64 x.2.2.1, x.2.2.2.v], 4, fun _ => rfl, fun x v h => by simp at h; rcases h with rfl | rfl | rfl | rfl <;> rfl, by decide, (0, 0, 0, ⟨none, 0, 0⟩)⟩
def AOk (o : CAc) (a : AOp) (h : Frag) : Prop := o.1 = a.kind ∧ o.2.1 = a.id ∧ o.2.2.1 = a.n ∧ i64 a.kind ∧ i64 a.n ∧ RAr U8 o.2.2.2 a.data h
def RActs (s : Sl) (acts : List AOp) : HP := fun h => ∃ os : List CAc, RAr ACT s os h ∧ os.length = acts.length ∧ ∀ (i : Nat) (o : CAc) (a : AOp), os[i]? = some o → acts[i]? = some a → AOk o a h

theorem OrdersPlays_spec (room : Int) (l : Sl) (acts : List AOp) (hr0 : i64 room) : Ct Pr F_law25_OrdersPlays [.int .i64 room, l.v] .one [.bool] [] (RActs l acts) (fun t Bs => t.1 = true ∧ Bs = []) := by
  refine spec1 c_law25_OrdersPlays fun B hr => ?_
  obtain ⟨os, ha, hlen, hok⟩ := hr
  have fo : Fro B l ACT os := ⟨ha⟩
  have hol := ha.1
  unfold law25_OrdersPlays
  refine xcl (Pick_spec room 4000 hr0 ⟨by decide, by decide⟩) rdb ?_
  rintro ⟨r, _⟩ _ ⟨hp, rfl⟩
  have hp := pick_use r 4000 hp (by decide)
  obtain ⟨rm, hrm⟩ := Int.eq_ofNat_of_zero_le hp.1
  obtain rfl : r = (rm : Int) := hrm
  have hrm : rm < 4000 := by omega
  refine app0 (ca1 ?_)
  refine xcl (New_spec (rm : Int)) rdb ?_
  rintro ⟨q, r1, _⟩ _ (⟨h, _⟩ | ⟨_, _, h5, ⟨b0, h4⟩, rfl⟩)
  · omega
  simp only at h4 h5
  subst h4 h5
  refine app1 (ca2 ?_)
  refine xcl (rNew_spec (rm : Int)) rdb ?_
  rintro ⟨x, r1, _⟩ _ (⟨h, _⟩ | ⟨_, _, h5, ⟨b2, h4⟩, rfl⟩)
  · omega
  simp only at h4 h5
  subst h4 h5
  refine app1 (ca2 (xiff rfl (xnew fun b1 => ?_)))
  refine xadd (A := JOpt (some ⟨b0, 0, none⟩) none none) rfl ?_
  refine xadd (A := RJOpt (some ⟨b2, 0, none⟩) none none) rfl ?_
  refine xpair_back b1 (some ⟨b0, 0, none⟩) (some ⟨b2, 0, none⟩) none none none ?_
  refine xcl (popen_spec (some ⟨b1, 0, none⟩) (some ⟨b0, 0, none⟩) (some ⟨b2, 0, none⟩) ⟨false, false, 0, rm, []⟩ none) rdb ?_
  rintro ⟨c, _⟩ _ ⟨hc, rfl⟩
  obtain rfl : c = true := hc
  refine app3 (ca1 (xiff rfl ?_))
  generalize (openJ ⟨false, false, 0, rm, []⟩).1 = m
  generalize openedJ ⟨false, false, 0, rm, []⟩ = o
  refine xuse [PairO (some ⟨b1, 0, none⟩) (some ⟨b0, 0, none⟩) (some ⟨b2, 0, none⟩) o, DevObj (some ⟨b0, 0, none⟩) m, RefDev (some ⟨b2, 0, none⟩) m] ?_
  refine xloop1 (fun n i As => ∃ (k : Nat) (m : DM) (o : Option JM), i = (k : Int) ∧ n = os.length - k ∧ k ≤ os.length ∧ As = [PairO (some ⟨b1, 0, none⟩) (some ⟨b0, 0, none⟩) (some ⟨b2, 0, none⟩) o, DevObj (some ⟨b0, 0, none⟩) m, RefDev (some ⟨b2, 0, none⟩) m]) os.length ⟨0, m, o, rfl, rfl, by omega, rfl⟩ ?_
  rintro n _ _ K ⟨k, m, o, rfl, rfl, hk, rfl⟩ hK
  refine xif (fun hlt => ?_) (fun hlt => ?_)
  · have hlt : k < os.length ∧ k < 60 := by simp at hlt; omega
    have hx := List.getElem?_eq_getElem (l := os) (i := k) (by omega)
    have hy := List.getElem?_eq_getElem (l := acts) (i := k) (by omega)
    generalize os[k]'(by omega) = w at hx
    generalize acts[k]'(by omega) = a at hy
    obtain ⟨e1, e2, e3, ek, en, ed⟩ := hok k w a hx hy
    obtain ⟨w1, w2, w3, w4⟩ := w
    simp only at e1 e2 e3 ed
    refine xidxn (h1 := by omega) (h := fun _ _ => ?_)
    refine xgetEj hx (h := ?_)
    dsimp only
    refine xif_dec (fun _ => wk25) (fun _ => ?_)
    refine xdraw (xjoin ?_)
    refine xidxn (h1 := by omega) (h := fun _ _ => ?_)
    refine xgetE hx (h := ?_)
    refine xgetEj hx (h := ?_)
    refine xgetEj hx (h := ?_)
    refine xgetEj hx (h := ?_)
    dsimp only
    subst e1 e2 e3
    have fd : Fro B w4 U8 a.data := ⟨ed⟩
    refine xcl (does_spec (some ⟨b1, 0, none⟩) (some ⟨b0, 0, none⟩) (some ⟨b2, 0, none⟩) m o a.kind a.id a.n w4 a.data ek en) rdb ?_
    rintro ⟨c, _⟩ _ ⟨hc, m', o', rfl⟩
    obtain rfl : c = true := hc
    refine app3 (ca1 (xiff rfl ?_))
    refine xidxn (h1 := by omega) (h := fun _ _ => ?_)
    refine xgetEj hx (h := ?_)
    dsimp only
    refine xcl (alike_spec (some ⟨b1, 0, none⟩) (some ⟨b0, 0, none⟩) (some ⟨b2, 0, none⟩) o' a.id) rdb ?_
    rintro ⟨c, _⟩ _ ⟨hc, rfl⟩
    obtain rfl : c = true := hc
    refine app1 (ca1 (xiff rfl ?_))
    refine xpair 0 fun b q1 q2 hp _ _ => ?_
    cases hp
    refine xnil (xget (h := xnil (xget (h := ?_))))
    refine xcl (Looks_spec (some ⟨b0, 0, none⟩) (some ⟨b2, 0, none⟩) m') rdb ?_
    rintro ⟨c, _⟩ _ ⟨hc, rfl⟩
    obtain rfl : c = true := hc
    refine app2 (ca1 (xiff rfl ?_))
    refine xpair_back b1 (some ⟨b0, 0, none⟩) (some ⟨b2, 0, none⟩) q1 q2 o' ?_
    rw [wrap_succ k (by omega)]
    exact hK (os.length - (k + 1)) _ _ (by omega) ⟨k + 1, m', o', rfl, rfl, by omega, rfl⟩
  · clear hlt hK hk
    refine xloop1 (fun n i As => ∃ (k : Nat), i = (k : Int) ∧ n = os.length - k ∧ k ≤ os.length ∧ As = [PairO (some ⟨b1, 0, none⟩) (some ⟨b0, 0, none⟩) (some ⟨b2, 0, none⟩) o, DevObj (some ⟨b0, 0, none⟩) m, RefDev (some ⟨b2, 0, none⟩) m]) os.length ⟨0, rfl, rfl, by omega, rfl⟩ ?_
    rintro n _ _ K1 ⟨k, rfl, rfl, hk, rfl⟩ hK1
    refine xif (fun hlt => ?_) (fun hlt => wk25)
    have hlt : k < os.length ∧ k < 60 := by simp at hlt; omega
    have hx := List.getElem?_eq_getElem (l := os) (i := k) (by omega)
    generalize os[k]'(by omega) = w at hx
    refine xidxn (h1 := by omega) (h := fun _ _ => ?_)
    refine xgetEj hx (h := ?_)
    dsimp only
    refine xcl (alike_spec (some ⟨b1, 0, none⟩) (some ⟨b0, 0, none⟩) (some ⟨b2, 0, none⟩) o w.2.1) rdb ?_
    rintro ⟨c, _⟩ _ ⟨hc, rfl⟩
    obtain rfl : c = true := hc
    refine app1 (ca1 (xiff rfl ?_))
    rw [wrap_succ k (by omega)]
    exact hK1 (os.length - (k + 1)) _ _ (by omega) ⟨k + 1, rfl, rfl, by omega, rfl⟩

end Go.Cx

namespace Go.Cx
open Go Go.Cf Go.ChangeShapes Go.WideShapes Go.Deep
set_option linter.unusedVariables false
set_option maxRecDepth 100000
variable {H : Type} {enc : TypeId × Value → H} {w : World} {base : Nat} {held : Bool}

theorem opens_act : Opens enc Pr w base held 67 ACT (fun o (m : AOp) => AOk o m (mem w)) := by
  intro fuel cs x hx
  obtain ⟨xs, n, _, _, hlen, hxs, hf⟩ := DataW.trod_struct Go.Proofs.Try.underlying67 hx
  have ce : Pr.cellsOf 67 = 4 := by kernel_rfl
  rw [ce] at hlen
  match xs, hxs, cs, hlen with
  | [y0, y1, y2, y3], _, [v0, v1, v2, v3], _ =>
    have c3 : Pr.cellsOf 3 = 1 := by kernel_rfl
    have c36 : Pr.cellsOf 36 = 1 := by kernel_rfl
    have g0 := hf 0 _ rfl
    have g1 := hf 1 _ rfl
    have g2 := hf 2 _ rfl
    have g3 := hf 3 _ rfl
    simp [c3, c36] at g0 g1 g2 g3
    obtain ⟨a0, _, h0, rfl, r0⟩ := opens_i64 (P := Pr) (t := 3) (by kernel_rfl) _ _ _ g0
    obtain ⟨a1, _, h1, rfl, r1⟩ := opens_i64 (P := Pr) (t := 3) (by kernel_rfl) _ _ _ g1
    obtain ⟨a2, _, h2, rfl, r2⟩ := opens_i64 (P := Pr) (t := 3) (by kernel_rfl) _ _ _ g2
    obtain ⟨s, bs, h3, _, r3⟩ := opens_bytes (P := Pr) (t := 36) (e := 5) (by kernel_rfl) (by kernel_rfl) (by kernel_rfl) _ _ _ g3
    obtain rfl : v0 = .int .i64 a0 := by simpa [I64] using h0
    obtain rfl : v1 = .int .i64 a1 := by simpa [I64] using h1
    obtain rfl : v2 = .int .i64 a2 := by simpa [I64] using h2
    obtain rfl : v3 = s.v := by simpa [SL] using h3
    exact ⟨(a0, a1, a2, s), ⟨a0, a1, a2, bs⟩, rfl, rfl, rfl, rfl, r0, r2, r3⟩

theorem acts_of_trod {fuel : Nat} {a : Option Addr} {n c : Nat} {x : DataW H × List MemPlace}
    (h : DataW.trod enc Pr w base (fun _ => true) held fuel 65 [.slice a n c] = some x) : ∃ s acts, [Value.slice a n c] = SL.f s ∧ RActs s acts (mem w) := by
  obtain ⟨s, ops, h1, h2, os, h3, h4, h5⟩ := opens_slice (E := ACT) (P := Pr) (R := fun o (m : AOp) => AOk o m (mem w)) (t := 65) (e := 67) (by kernel_rfl) (by kernel_rfl) opens_act fuel _ x h
  exact ⟨s, ops, h1, os, h3, h4, h5⟩

theorem ints_of_trod {fuel : Nat} {a : Option Addr} {n c : Nat} {x : DataW H × List MemPlace}
    (h : DataW.trod enc Pr w base (fun _ => true) held fuel 22 [.slice a n c] = some x) : ∃ s ys, [Value.slice a n c] = SL.f s ∧ RAr I64 s ys (mem w) ∧ ∀ y ∈ ys, i64 y := by
  obtain ⟨s, ys, h1, h2, os, h3, h4, h5⟩ := opens_slice (E := I64) (P := Pr) (R := fun a b => a = b ∧ -9223372036854775808 ≤ a ∧ a ≤ 9223372036854775807) (t := 22) (e := 3) (by kernel_rfl) (by kernel_rfl) (opens_i64 (P := Pr) (t := 3) (by kernel_rfl)) fuel _ x h
  refine ⟨s, os, h1, h3, fun y hy => ?_⟩
  obtain ⟨i, hi, rfl⟩ := List.getElem_of_mem hy
  exact (h5 i _ _ (List.getElem?_eq_getElem hi) (List.getElem?_eq_getElem (by omega))).2

theorem bytes_of_trod {fuel : Nat} {a : Option Addr} {n c : Nat} {x : DataW H × List MemPlace}
    (h : DataW.trod enc Pr w base (fun _ => true) held fuel 36 [.slice a n c] = some x) : ∃ s bs, [Value.slice a n c] = SL.f s ∧ s.n ≤ s.c ∧ RAr U8 s bs (mem w) := by
  obtain ⟨s, bs, h1, h2, h3⟩ := opens_bytes (P := Pr) (t := 36) (e := 5) (by kernel_rfl) (by kernel_rfl) (by kernel_rfl) fuel _ x h
  exact ⟨s, bs, h1, h2, h3⟩

abbrev DEED : Enc (Int × Int × Int × Int) := ⟨fun x => [.int .i64 x.1, .int .i64 x.2.1, .int .i64 x.2.2.1, .int .i64 x.2.2.2], 4, fun _ => rfl, fun x v h => by simp at h; rcases h with rfl | rfl | rfl | rfl <;> rfl, by decide, (0, 0, 0, 0)⟩
def DOk (o : Int × Int × Int × Int) : Prop := i64 o.1 ∧ i64 o.2.1 ∧ i64 o.2.2.1 ∧ i64 o.2.2.2
theorem opens_deed : Opens enc Pr w base held 54 DEED (fun o (m : Int × Int × Int × Int) => DOk o) := by
  intro fuel cs x hx
  obtain ⟨xs, n, _, _, hlen, hxs, hf⟩ := DataW.trod_struct Go.Proofs.Try.underlying54 hx
  have ce : Pr.cellsOf 54 = 4 := by kernel_rfl
  rw [ce] at hlen
  match xs, hxs, cs, hlen with
  | [y0, y1, y2, y3], _, [v0, v1, v2, v3], _ =>
    have c3 : Pr.cellsOf 3 = 1 := by kernel_rfl
    have g0 := hf 0 _ rfl
    have g1 := hf 1 _ rfl
    have g2 := hf 2 _ rfl
    have g3 := hf 3 _ rfl
    simp [c3] at g0 g1 g2 g3
    obtain ⟨a0, _, h0, rfl, r0⟩ := opens_i64 (P := Pr) (t := 3) (by kernel_rfl) _ _ _ g0
    obtain ⟨a1, _, h1, rfl, r1⟩ := opens_i64 (P := Pr) (t := 3) (by kernel_rfl) _ _ _ g1
    obtain ⟨a2, _, h2, rfl, r2⟩ := opens_i64 (P := Pr) (t := 3) (by kernel_rfl) _ _ _ g2
    obtain ⟨a3, _, h3, rfl, r3⟩ := opens_i64 (P := Pr) (t := 3) (by kernel_rfl) _ _ _ g3
    obtain rfl : v0 = .int .i64 a0 := by simpa [I64] using h0
    obtain rfl : v1 = .int .i64 a1 := by simpa [I64] using h1
    obtain rfl : v2 = .int .i64 a2 := by simpa [I64] using h2
    obtain rfl : v3 = .int .i64 a3 := by simpa [I64] using h3
    exact ⟨(a0, a1, a2, a3), (a0, a1, a2, a3), rfl, r0, r1, r2, r3⟩

theorem deeds_of_trod {fuel : Nat} {a : Option Addr} {n c : Nat} {x : DataW H × List MemPlace}
    (h : DataW.trod enc Pr w base (fun _ => true) held fuel 48 [.slice a n c] = some x) : ∃ s ys, [Value.slice a n c] = SL.f s ∧ RAr DEED s ys (mem w) ∧ ∀ y ∈ ys, DOk y := by
  obtain ⟨s, ys, h1, h2, os, h3, h4, h5⟩ := opens_slice (E := DEED) (P := Pr) (R := fun o (m : Int × Int × Int × Int) => DOk o) (t := 48) (e := 54) (by kernel_rfl) (by kernel_rfl) opens_deed fuel _ x h
  refine ⟨s, os, h1, h3, fun y hy => ?_⟩
  obtain ⟨i, hi, rfl⟩ := List.getElem_of_mem hy
  exact h5 i _ _ (List.getElem?_eq_getElem hi) (List.getElem?_eq_getElem (by omega))

end Go.Cx
