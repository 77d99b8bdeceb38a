/-
  DeviceLasts.
-/
import Derived.Test.YtbdmjjeigbhidaaDK
namespace Go.Cx
open Go Go.Cf
set_option linter.unusedVariables false
variable {B : Base} {As : List HP}

theorem begins_spec (a b : Sl) (xs ys : List UInt8) (hac : a.n ≤ a.c) (hm : ys.length ≤ 140737488355328) : Ct Pr F_law12_begins [a.v, b.v] .one [.bool] [] ((RAr U8 a xs).and (RAr U8 b ys))
    (fun t Bs => t.1 = decide (ys.length ≤ xs.length ∧ xs.take ys.length = ys) ∧ Bs = []) := by
  refine spec1 c_law12_begins fun B hr => ?_
  have fb : Fro B b U8 ys := ⟨hr.2⟩
  have ha := hr.1.1
  have hb := hr.2.1
  unfold law12_begins
  refine xjoin (xif_dec (fun h => ?_) (fun h => ?_))
  · have hle : ys.length ≤ xs.length := by omega
    refine xslc0 rfl (by omega) (by omega) ?_
    rw [Int.toNat_natCast]
    have hc := hr.1.cut 0 b.n a.c (Nat.zero_le _) (by omega) (by omega)
    rw [cut_zero, List.drop_zero, ← hb] at hc
    have fa : Fro B ⟨a.p, ys.length, a.c⟩ U8 (xs.take ys.length) := ⟨hc⟩
    rw [← hb]
    refine xcl (SameBytes_spec ⟨a.p, ys.length, a.c⟩ b (xs.take ys.length) ys (by rw [List.length_take]; omega)) rdb ?_
    rintro ⟨c, _⟩ _ ⟨hc, rfl⟩
    simp only at hc
    subst hc
    refine app0 (ca1 (xret ⟨?_, rfl⟩))
    simp [hle]
  · refine xret ⟨?_, rfl⟩
    have : ¬ ys.length ≤ xs.length := by omega
    simp [this]

abbrev logN : ByteArray := ⟨#[108, 111, 103]⟩

/-- One file, or none. -/
def LI (m : DM) (all : List UInt8) (sy : Int) : Prop := (m.fs = [] ∧ all = [] ∧ sy = 0) ∨ m.fs = [⟨logN, all, sy⟩]

theorem append_yes {m : DM} {nm : ByteArray} {b : List UInt8} (h : (appendM m nm b).2 = 0) :
    (appendM m nm b).1.fs = (withF m nm).set (findL m.fs nm.toList) { ((withF m nm).getD (findL m.fs nm.toList) ⟨nm, [], 0⟩) with b := ((withF m nm).getD (findL m.fs nm.toList) ⟨nm, [], 0⟩).b ++ b } := by
  revert h
  unfold appendM
  split
  · intro h; simp at h
  split
  · intro h; simp at h
  split
  · intro h; simp at h
  split
  · intro h; simp at h
  · intro _; rfl

theorem append_no {m : DM} {nm : ByteArray} {b : List UInt8} (h : (appendM m nm b).2 ≠ 0) : (appendM m nm b).1.fs = m.fs := by
  revert h
  unfold appendM
  split
  · intro _; rfl
  split
  · intro _; rfl
  split
  · intro _; rfl
  split
  · intro _; exact (spendM_fs m).1
  · intro h; exact absurd rfl h

theorem LI.append {m : DM} {all : List UInt8} {sy : Int} (h : LI m all sy) (row : List UInt8) : ((appendM m logN row).2 = 0 → LI (appendM m logN row).1 (all ++ row) sy) ∧ ((appendM m logN row).2 ≠ 0 → LI (appendM m logN row).1 all sy) := by
  refine ⟨fun h0 => ?_, fun h0 => ?_⟩
  · right
    rw [append_yes h0]
    rcases h with ⟨h1, rfl, rfl⟩ | h1
    · simp [withF, h1, thereL, findL, insL]
    · simp [withF, h1, thereL, findL, lt_irrefl, DF.key]
  · unfold LI
    rw [append_no h0]
    exact h

theorem LI.sync {m : DM} {all : List UInt8} {sy : Int} (h : LI m all sy) : ((syncM m logN).2 = 0 → LI (syncM m logN).1 all all.length) ∧ ((syncM m logN).2 ≠ 0 → LI (syncM m logN).1 all sy) := by
  have hsp := (spendM_fs m).1
  rcases h with ⟨h1, rfl, rfl⟩ | h1
  · have hno : thereL m.fs logN.toList = false := by simp [h1, thereL]
    have e : (syncM m logN).1 = m ∧ (syncM m logN).2 ≠ 0 := by
      unfold syncM onFile
      rw [hno]
      cases m.down <;> simp
    rw [e.1]
    exact ⟨fun h => absurd h e.2, fun _ => .inl ⟨h1, rfl, rfl⟩⟩
  · have hf : findL m.fs logN.toList = 0 := by simp [h1, findL, lt_irrefl, DF.key]
    have ht : thereL m.fs logN.toList = true := by simp [h1, thereL, DF.key, findL, lt_irrefl]
    cases hd : m.down with
    | true =>
      have e : syncM m logN = (m, 10) := by simp [syncM, onFile_down hd]
      rw [e]
      exact ⟨fun h => by simp at h, fun _ => .inr h1⟩
    | false =>
      unfold syncM
      rw [onFile_ok hd ht, hf]
      cases hs : (spendM m).2 with
      | true =>
        rw [spent_ok hs]
        refine ⟨fun _ => .inr ?_, fun h => absurd rfl h⟩
        simp [hsp, h1]
      | false =>
        rw [spent_no hs]
        refine ⟨fun h => by simp at h, fun _ => .inr ?_⟩
        rw [hsp, h1]

theorem LI.read_some {m : DM} {all : List UInt8} {sy : Int} (h : m.fs = [⟨logN, all, sy⟩]) : readM m logN = (all, 0) := by
  simp [readM, thereL, findL, h, lt_irrefl, DF.key]
theorem LI.read_none {m : DM} (h : m.fs = []) : readM m logN = ([], 6) := by
  simp [readM, thereL, h]

theorem LI.short {m : DM} {all : List UInt8} {sy : Int} (hi : DInv m) (h : LI m all sy) : all.length ≤ 16777216 ∧ 0 ≤ sy ∧ sy ≤ all.length := by
  have h2 := hi.used
  have h3 := hi.room
  rcases h with ⟨_, rfl, rfl⟩ | h1
  · simp
  · have h4 := hi.syn ⟨logN, all, sy⟩ (by rw [h1]; simp)
    rw [h1] at h2
    simp [usedN] at h2 h4
    omega

theorem DeviceLasts_spec (l : Sl) (rows : List (List UInt8)) (y : Sl) (ss : List Bool) (cut keep : Int) (hc0 : i64 cut) : Ct Pr F_law12_DeviceLasts [l.v, y.v, .int .i64 cut, .int .i64 keep] .one [.bool] [] ((RRows l rows).and (RAr BL y ss)) (fun t Bs => t.1 = true ∧ Bs = []) := by
  refine spec1 c_law12_DeviceLasts fun B hr => ?_
  obtain ⟨⟨rs, hr1, hr2, hr3⟩, hy⟩ := hr
  have fl : Fro B l SL rs := ⟨hr1⟩
  have fy : Fro B y BL ss := ⟨hy⟩
  have hln := hr1.1
  have hyn := hy.1
  unfold law12_DeviceLasts
  refine xcl works_spec rdb ?_
  rintro ⟨c, _⟩ _ ⟨h, rfl⟩
  obtain rfl : c = true := h
  refine app0 (ca1 (xiff rfl (xif_dec (fun h => xret ⟨rfl, rfl⟩) (fun hn200 => ?_))))
  refine xcl (New_spec 16777216) rdb ?_
  rintro ⟨q, r, _⟩ _ (⟨h, _⟩ | ⟨_, _, h5, ⟨b, h4⟩, rfl⟩)
  · omega
  simp only at h4 h5
  subst h4 h5
  refine app1 (ca2 (xdraw (xnil ?_)))
  refine xcl (Pick_spec cut 410 hc0 ⟨by decide, by decide⟩) rdb ?_
  rintro ⟨r1, _⟩ _ ⟨hp, rfl⟩
  have hp := pick_use r1 410 hp (by decide)
  refine app0 (ca1 ?_)
  refine xcl (Arm_spec (some ⟨b, 0, none⟩) ⟨false, false, 0, 16777216, []⟩ r1 ⟨by omega, by omega⟩) rdb ?_
  rintro _ _ rfl
  refine app1 (ca0 (xnone U8 ?_))
  refine xfront 1 ?_
  refine xloop3 (fun (n : Nat) (al : Sl) (sy : Int) (i : Int) As => ∃ (k : Nat) (m : DM) (all : List UInt8), i = (k : Int) ∧ n = rows.length - k ∧ k ≤ rows.length ∧ LI m all sy ∧ As = [DevObj (some ⟨b, 0, none⟩) m, Ar U8 al all]) rows.length ⟨0, _, [], rfl, rfl, by omega, .inl ⟨rfl, rfl, rfl⟩, rfl⟩ ?_
  rintro n al sy _ _ K ⟨k, m, all, rfl, rfl, hk, hLI, rfl⟩ hK
  refine xfact 0 (fun g hg => hg.1) fun hi => ?_
  obtain ⟨hal, hsy0, hsy1⟩ := hLI.short hi
  refine xif_dec (fun h => ?_) (fun h => ?_)
  · have hx := List.getElem?_eq_getElem (l := rs) (i := k) (by omega)
    have hrow := List.getElem?_eq_getElem (l := rows) (i := k) (by omega)
    have hrd := hr3 k _ _ hx hrow
    have fr : Fro B rs[k] U8 rows[k] := ⟨hrd⟩
    have hrn := hrd.1
    generalize rows[k] = row at *
    generalize rs[k] = r at *
    refine xidxn (h1 := by omega) (h := fun _ _ => ?_)
    refine xgetE hx (h := xif_dec (fun h => xkeep (l := []) (xret ⟨rfl, rfl⟩)) (fun h4 => ?_))
    refine xidxn (h1 := by omega) (h := fun _ _ => ?_)
    refine xgetE hx (h := ?_)
    refine xcl (Append_spec (some ⟨b, 0, none⟩) m logN r row) rdb ?_
    rintro ⟨r2, _⟩ _ ⟨hr2', rfl⟩
    simp only at hr2'
    subst hr2'
    refine app1 (ca1 ?_)
    obtain ⟨ha1, ha2⟩ := hLI.append row
    generalize appendM m logN row = rr at *
    obtain ⟨m1, e⟩ := rr
    simp only at ha1 ha2 ⊢
    refine xjoin1 (fun (s3 : Sl) As' => ∃ all1, LI m1 all1 sy ∧ As' = [DevObj (some ⟨b, 0, none⟩) m1, Ar U8 s3 all1]) ?_ ?_
    · intro J hJ
      refine xif (fun h => ?_) (fun h => hJ _ _ ⟨all, ha2 (by simpa using h), rfl⟩)
      refine xidxn (h1 := by omega) (h := fun _ _ => ?_)
      refine xgetE hx (h := ?_)
      refine xapp (y := r) (hb := by omega) (h := fun s' => ?_)
      exact hJ _ _ ⟨all ++ row, ha1 (by simpa using h), rfl⟩
    rintro al1 _ ⟨all1, hLI1, rfl⟩
    refine xjoin1 (fun (c : Bool) As' => As' = [DevObj (some ⟨b, 0, none⟩) m1, Ar U8 al1 all1]) ?_ ?_
    · intro J hJ
      refine xif_dec (fun h => ?_) (fun h => hJ _ _ rfl)
      have hs := List.getElem?_eq_getElem (l := ss) (i := k) (by omega)
      refine xidxn (h1 := by omega) (h := fun _ _ => ?_)
      exact xgetE hs (h := hJ _ _ rfl)
    rintro c1 _ rfl
    refine xlen al1 fun hl1 _ => ?_
    refine xjoin1 (fun (c : Bool) As' => ∃ m2, LI m2 all1 (if c then (all1.length : Int) else sy) ∧ As' = [DevObj (some ⟨b, 0, none⟩) m2, Ar U8 al1 all1]) ?_ ?_
    · intro J hJ
      refine xif (fun h => ?_) (fun h => hJ _ _ ⟨m1, hLI1, rfl⟩)
      refine xcl (Sync_spec (some ⟨b, 0, none⟩) m1 logN) rdb ?_
      rintro ⟨r3, _⟩ _ ⟨hr3', rfl⟩
      simp only at hr3'
      subst hr3'
      obtain ⟨hs1, hs2⟩ := hLI1.sync
      refine app1 (ca1 (hJ _ _ ⟨(syncM m1 logN).1, ?_, rfl⟩))
      by_cases e0 : (syncM m1 logN).2 = 0
      · rw [e0]; exact hs1 e0
      · have : ((syncM m1 logN).2 == 0) = false := by simpa using e0
        rw [this]; exact hs2 e0
    rintro c3 _ ⟨m2, hLI2, rfl⟩
    have hnext : ∀ z : Int, z = (if c3 then (all1.length : Int) else sy) → Ent B [DevObj (some ⟨b, 0, none⟩) m2, Ar U8 al1 all1] (K al1 z (IntKind.i64.wrap ((k : Int) + 1))) := fun z hz => by
      rw [wrap_succ k (by omega)]
      exact hK (rows.length - (k + 1)) _ _ _ _ (by omega) ⟨k + 1, m2, all1, rfl, rfl, by omega, by rw [hz]; exact hLI2, rfl⟩
    refine xjoin (xif (fun h => hnext _ ?_) (fun h => hnext _ ?_))
    · rw [if_pos h, hl1]
    · rw [if_neg (by rw [h]; simp)]
  · refine xlen al fun haln halc => ?_
    refine xcl (Read_spec (some ⟨b, 0, none⟩) m logN) rdb ?_
    rcases hLI with ⟨hfs, rfl, rfl⟩ | hfs
    · rw [LI.read_none hfs]
      rintro ⟨s4, r4, _⟩ _ ⟨h6, rfl⟩
      obtain rfl : r4 = 6 := h6
      have h0 : al.n = 0 := by simpa using haln.symm
      refine app2 (ca2 (xift rfl (xjoin (xift (by rw [h0]; rfl) ?_))))
      refine xcl (Names_spec (some ⟨b, 0, none⟩) m) rdb ?_
      rintro ⟨s5, _⟩ _ rfl
      refine app2 (ca1 ?_)
      refine xlen s5 fun h5n _ => ?_
      rw [hfs] at h5n
      have h50 : s5.n = 0 := by simpa using h5n.symm
      rw [h50]
      exact xkeep (l := []) (xret ⟨rfl, rfl⟩)
    · rw [LI.read_some hfs]
      rintro ⟨s4, r4, _⟩ _ ⟨h6, rfl⟩
      obtain rfl : r4 = 0 := h6
      refine app2 (ca2 (xiff rfl ?_))
      refine xcl (SameBytes_spec s4 al all all (by omega)) rdb ?_
      rintro ⟨c, _⟩ _ ⟨hc, rfl⟩
      obtain rfl : c = true := by simpa using hc
      refine app0 (ca1 (xiff rfl ?_))
      refine xcl (Wake_spec (some ⟨b, 0, none⟩) m keep) rdb ?_
      rintro _ _ rfl
      refine app1 (ca0 ?_)
      have hkn := keepN_le (f := ⟨logN, all, sy⟩) ⟨hsy0, hsy1⟩ keep
      have hfw : (wakeM m keep).fs = [⟨logN, all.take (keepN keep ⟨logN, all, sy⟩).toNat, keepN keep ⟨logN, all, sy⟩⟩] := by
        simp [wakeM, hfs, wakeF]
      have hkeq : keepN keep ⟨logN, all, sy⟩ = sy + (if (all.length : Int) - sy < (if 0 > keep then 0 else keep) then (all.length : Int) - sy else (if 0 > keep then 0 else keep)) := rfl
      have hww : (wakeM (wakeM m keep) (-1)).fs = (wakeM m keep).fs := wake_wake m.fs keep (-1) hi.syn
      generalize keepN keep ⟨logN, all, sy⟩ = kn at *
      simp only at hkn
      have hdn : (wakeM m keep).down = false := rfl
      have hlt : (all.take kn.toNat).length = kn.toNat := by rw [List.length_take]; omega
      refine xcl (Read_spec (some ⟨b, 0, none⟩) (wakeM m keep) logN) rdb ?_
      rw [LI.read_some hfw]
      rintro ⟨s6, r5, _⟩ _ ⟨h6, rfl⟩
      obtain rfl : r5 = 0 := h6
      refine app2 (ca2 (xjoin (xiff rfl (xnil ?_))))
      refine xcl (Down_spec (some ⟨b, 0, none⟩) (wakeM m keep)) rdb ?_
      rintro ⟨c, _⟩ _ ⟨hc, rfl⟩
      obtain rfl : c = false := hc
      refine app1 (ca1 (xjoin (xiff rfl ?_)))
      refine xlen s6 fun h6n h6c => ?_
      have h6n' : (all.take kn.toNat).length = s6.n := h6n
      refine xslc0 rfl (by omega) (by omega) ?_
      refine xcl (begins_spec s6 ⟨al.p, sy.toNat, al.c⟩ (all.take kn.toNat) (all.take sy.toNat) h6c (by rw [List.length_take]; omega)) (rds_and rdb (rds_pick 3 (fun g hg => (ar_cut (k := sy.toNat) (by omega) hg).read) (fun _ _ h s => h.mono s))) ?_
      rintro ⟨c, _⟩ _ ⟨hc, rfl⟩
      have hb1 : decide ((all.take sy.toNat).length ≤ (all.take kn.toNat).length ∧ (all.take kn.toNat).take (all.take sy.toNat).length = all.take sy.toNat) = true := by
        have e : (all.take sy.toNat).length = sy.toNat := by rw [List.length_take]; omega
        rw [decide_eq_true_iff, e, hlt, List.take_take, Nat.min_eq_left (by omega)]
        exact ⟨by omega, rfl⟩
      simp only at hc
      rw [hb1] at hc
      subst hc
      refine app0 (ca1 (xjoin (xiff rfl ?_)))
      refine xcl (begins_spec al s6 all (all.take kn.toNat) halc (by omega)) rdb ?_
      rintro ⟨c, _⟩ _ ⟨hc, rfl⟩
      have hb2 : decide ((all.take kn.toNat).length ≤ all.length ∧ all.take (all.take kn.toNat).length = all.take kn.toNat) = true := by
        rw [decide_eq_true_iff, hlt]
        exact ⟨by omega, rfl⟩
      simp only at hc
      rw [hb2] at hc
      subst hc
      refine app0 (ca1 (xjoin (xiff rfl (xiff ?_ ?_))))
      · rw [wrap_id ((s6.n : Int) - sy) (by omega) (by omega), wrap_id ((al.n : Int) - sy) (by omega) (by omega), ← haln, ← h6n', hlt]
        simp only [bne_eq_false_iff_eq]
        omega
      refine xcl (Wake_spec (some ⟨b, 0, none⟩) (wakeM m keep) (-1)) rdb ?_
      rintro _ _ rfl
      refine app1 (ca0 ?_)
      refine xcl (Read_spec (some ⟨b, 0, none⟩) (wakeM (wakeM m keep) (-1)) logN) rdb ?_
      rw [read_fs hww, LI.read_some hfw]
      rintro ⟨s8, r6, _⟩ _ ⟨h6, rfl⟩
      obtain rfl : r6 = 0 := h6
      refine app2 (ca2 (xjoin (xift rfl ?_)))
      refine xcl (SameBytes_spec s6 s8 (all.take kn.toNat) (all.take kn.toNat) (by omega)) rdb ?_
      rintro ⟨c, _⟩ _ ⟨hc, rfl⟩
      obtain rfl : c = true := by simpa using hc
      exact app0 (ca1 (xkeep (l := []) (xret ⟨rfl, rfl⟩)))

end Go.Cx
