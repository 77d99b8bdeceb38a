/-
  DeviceRuns.
-/
import Derived.Test.YtbdmjjeigbhidaaDT
namespace Go.Cx
open Go Go.Cf
set_option linter.unusedVariables false
variable {B : Base} {As : List HP}

theorem both_spec (p q : Option Addr) (m : DM) (d : Sl) (o : DOp) (hn : i64 o.n) (hdl : o.data.length ≤ 4096) : Ct Pr F_law12_both [.pointer p, .pointer q, .agg #[.int .i64 o.kind, .string o.name, .string o.to, d.v, .int .i64 o.n]] .one [.bool] [DevObj p m, RefDev q m] (RAr U8 d o.data)
    (fun t Bs => t.1 = true ∧ Bs = [DevObj p (runM m o).1, RefDev q (runM m o).1]) := by
  refine spec1 c_law12_both fun B hr => ?_
  have fd : Fro B d U8 o.data := ⟨hr⟩
  unfold law12_both
  refine xnew fun b => xget (h := xjoin ?_)
  refine xif (fun g => ?_) (fun g => ?_)
  · have hk : o.kind = 0 := by simpa using g
    rw [runM0 hk]
    refine xget (h := ?_)
    refine xcl (LentBytes_spec d o.data (by omega)) rdb ?_
    rintro ⟨s1, _⟩ _ rfl
    refine app1 (ca1 (xget (h := ?_)))
    refine xcl (Append_spec p m o.name s1 o.data) rdb ?_
    rintro ⟨r, _⟩ _ ⟨hr, rfl⟩
    simp only at hr
    subst hr
    refine app1 (ca1 (xget (h := xget (h := ?_))))
    refine xcl (rAppend_spec q m o.name d o.data) rdb ?_
    rintro ⟨r, _⟩ _ ⟨hr, rfl⟩
    simp only at hr
    subst hr
    refine app1 (ca1 (xjoin (xiff (by simp) (xget (h := ?_)))))
    refine xcl (KeptBytes_spec s1 d o.data (by omega)) (rds_and rdb rdb) ?_
    rintro ⟨c, _⟩ _ ⟨hc, rfl⟩
    obtain rfl : c = true := hc
    refine app0 (ca1 (xiff rfl ?_))
    refine xfold1 (Q := Ar U8 s1 o.data) 2 (fun g hg => ⟨_, hg⟩) ?_
    refine xcl (SpoilBytes_spec s1 o.data) rdb ?_
    rintro _ _ rfl
    exact app0 (ca0 (xuse [DevObj p (appendM m o.name o.data).1, RefDev q (appendM m o.name o.data).1] (xret ⟨rfl, rfl⟩)))
  have n0 : ¬ o.kind = 0 := by simpa using g
  refine xif (fun g => ?_) (fun g => ?_)
  · have hk : o.kind = 1 := by simpa using g
    rw [runM1 hk]
    refine xdraw (xget (h := xget (h := ?_)))
    refine xcl (Sync_spec p m o.name) rdb ?_
    rintro ⟨r, _⟩ _ ⟨hr, rfl⟩
    simp only at hr
    subst hr
    refine app1 (ca1 (xchk (h := ?_)))
    refine xcl (rSync_spec q m o.name) rdb ?_
    rintro ⟨r, _⟩ _ ⟨hr, rfl⟩
    simp only at hr
    subst hr
    exact app1 (ca1 (xuse [DevObj p (syncM m o.name).1, RefDev q (syncM m o.name).1] (xret ⟨by simp, rfl⟩)))
  have n1 : ¬ o.kind = 1 := by simpa using g
  refine xif (fun g => ?_) (fun g => ?_)
  · have hk : o.kind = 2 := by simpa using g
    rw [runM2 hk]
    refine xdraw (xget (h := xget (h := xget (h := xget (h := ?_)))))
    refine xcl (Truncate_spec p m o.name o.n) rdb ?_
    rintro ⟨r, _⟩ _ ⟨hr, rfl⟩
    simp only at hr
    subst hr
    refine app1 (ca1 (xchk (h := xchk (h := ?_))))
    refine xcl (rTruncate_spec q m o.name o.n) rdb ?_
    rintro ⟨r, _⟩ _ ⟨hr, rfl⟩
    simp only at hr
    subst hr
    exact app1 (ca1 (xuse [DevObj p (truncM m o.name o.n).1, RefDev q (truncM m o.name o.n).1] (xret ⟨by simp, rfl⟩)))
  have n2 : ¬ o.kind = 2 := by simpa using g
  refine xif (fun g => ?_) (fun g => ?_)
  · have hk : o.kind = 3 := by simpa using g
    rw [runM3 hk]
    refine xdraw (xget (h := xget (h := xget (h := xget (h := ?_)))))
    refine xcl (Rename_spec p m o.name o.to) rdb ?_
    rintro ⟨r, _⟩ _ ⟨hr, rfl⟩
    simp only at hr
    subst hr
    refine app1 (ca1 (xchk (h := xchk (h := ?_))))
    refine xcl (rRename_spec q m o.name o.to) rdb ?_
    rintro ⟨r, _⟩ _ ⟨hr, rfl⟩
    simp only at hr
    subst hr
    exact app1 (ca1 (xuse [DevObj p (renameM m o.name o.to).1, RefDev q (renameM m o.name o.to).1] (xret ⟨by simp, rfl⟩)))
  have n3 : ¬ o.kind = 3 := by simpa using g
  refine xif (fun g => ?_) (fun g => ?_)
  · have hk : o.kind = 4 := by simpa using g
    rw [runM4 hk]
    refine xdraw (xget (h := xget (h := ?_)))
    refine xcl (Remove_spec p m o.name) rdb ?_
    rintro ⟨r, _⟩ _ ⟨hr, rfl⟩
    simp only at hr
    subst hr
    refine app1 (ca1 (xchk (h := ?_)))
    refine xcl (rRemove_spec q m o.name) rdb ?_
    rintro ⟨r, _⟩ _ ⟨hr, rfl⟩
    simp only at hr
    subst hr
    exact app1 (ca1 (xuse [DevObj p (removeM m o.name).1, RefDev q (removeM m o.name).1] (xret ⟨by simp, rfl⟩)))
  have n4 : ¬ o.kind = 4 := by simpa using g
  refine xjoin (xif (fun g => ?_) (fun g => ?_))
  · have hk : o.kind = 5 := by simpa using g
    rw [runM5 hk]
    refine xfact 1 (fun g hg => dev_some hg) fun hp => ?_
    obtain ⟨b', rfl⟩ := hp
    refine xdraw (xnil (xget (h := ?_)))
    refine xcl (Arm_spec (some ⟨b', 0, none⟩) m o.n hn) rdb ?_
    rintro _ _ rfl
    refine app1 (ca0 (xget (h := ?_)))
    refine xcl (rArm_spec q m o.n hn) rdb ?_
    rintro _ _ rfl
    exact app1 (ca0 (xuse [DevObj (some ⟨b', 0, none⟩) (armM m o.n), RefDev q (armM m o.n)] (xret ⟨rfl, rfl⟩)))
  have n5 : ¬ o.kind = 5 := by simpa using g
  refine xjoin (xif (fun g => ?_) (fun g => ?_))
  · have hk : o.kind = 6 := by simpa using g
    rw [runM6 hk]
    refine xget (h := ?_)
    refine xcl (Wake_spec p m o.n) rdb ?_
    rintro _ _ rfl
    refine app1 (ca0 (xget (h := ?_)))
    refine xcl (rWake_spec q m o.n) rdb ?_
    rintro _ _ rfl
    exact app1 (ca0 (xuse [DevObj p (wakeM m o.n), RefDev q (wakeM m o.n)] (xret ⟨rfl, rfl⟩)))
  have n6 : ¬ o.kind = 6 := by simpa using g
  rw [runM7 n0 n1 n2 n3 n4 n5 n6]
  exact xuse [DevObj p m, RefDev q m] (xret ⟨rfl, rfl⟩)

theorem wk_end {B : Base} {As : List HP} : Ent B As (XCall Pr F_law12_works [] .one [.bool] fun c => Ret B (ss := [.bool]) (fun t Bs => t.1 = true ∧ Bs = []) (c, ())) := by
  refine xkeep (l := []) ?_
  refine xcl works_spec rdb ?_
  rintro ⟨c, _⟩ _ ⟨h, rfl⟩
  obtain rfl : c = true := h
  exact app0 (ca1 (xret ⟨rfl, rfl⟩))

theorem DeviceRuns_spec (room : Int) (s : Sl) (ops : List DOp) (hr0 : i64 room) : Ct Pr F_law12_DeviceRuns [.int .i64 room, s.v] .one [.bool] [] (ROps s ops) (fun t Bs => t.1 = true ∧ Bs = []) := by
  refine spec1 c_law12_DeviceRuns fun B hr => ?_
  have fo : FroP B (ROps s ops) := ⟨hr, fun _ _ h s => h.mono s⟩
  have hr' := hr
  obtain ⟨hsc, os, h1, h2, h3⟩ := hr'
  have fa : Fro B s OP os := ⟨h1⟩
  have hsn := h1.1
  unfold law12_DeviceRuns
  refine xcl (long_spec s ops) rdb ?_
  rintro ⟨c, _⟩ _ ⟨hlong, rfl⟩
  simp only at hlong
  refine app0 (ca1 (xif (fun _ => wk_end) (fun h => ?_)))
  obtain ⟨hol, hob⟩ := long_false (hlong.symm.trans (by simpa using h))
  refine xcl (New_spec room) rdb ?_
  rintro ⟨q, r, _⟩ _ (⟨hbad, h4, h5, rfl⟩ | ⟨hlo, hhi, h5, ⟨b, h4⟩, rfl⟩)
  · simp only at h4 h5
    subst h4 h5
    refine app0 (ca2 ?_)
    refine xcl (rNew_spec room) rdb ?_
    rintro ⟨q, r, _⟩ _ (⟨_, h4, h5, rfl⟩ | ⟨hlo, hhi, _⟩)
    · simp only at h4 h5
      subst h4 h5
      exact app0 (ca2 (xift rfl (xjoin (xift rfl wk_end))))
    · omega
  simp only at h4 h5
  subst h4 h5
  refine app1 (ca2 ?_)
  refine xcl (rNew_spec room) rdb ?_
  rintro ⟨q, r, _⟩ _ (⟨hbad, _⟩ | ⟨_, _, h5, ⟨b2, h4⟩, rfl⟩)
  · omega
  simp only at h4 h5
  subst h4 h5
  refine app1 (ca2 (xiff rfl ?_))
  refine xuse [DevObj (some ⟨b, 0, none⟩) ⟨false, false, 0, room, []⟩, RefDev (some ⟨b2, 0, none⟩) ⟨false, false, 0, room, []⟩] ?_
  refine xloop1 (fun n i As => ∃ (k : Nat) (m : DM), i = (k : Int) ∧ n = ops.length - k ∧ k ≤ ops.length ∧ As = [DevObj (some ⟨b, 0, none⟩) m, RefDev (some ⟨b2, 0, none⟩) m]) ops.length ⟨0, _, rfl, rfl, by omega, rfl⟩ ?_
  rintro n _ _ K ⟨k, m0, rfl, rfl, hk, rfl⟩ hK
  refine xif_dec (fun h => ?_) (fun h => wk_end)
  have hm := List.getElem?_eq_getElem (l := ops) (i := k) (by omega)
  have ho := List.getElem?_eq_getElem (l := os) (i := k) (by omega)
  have hsh := hob _ (List.getElem_mem (show k < ops.length by omega))
  obtain ⟨e1, e2, e3, e4, _, hn, hd⟩ := h3 k _ _ ho hm
  generalize ops[k] = x at *
  generalize os[k] = o at *
  obtain ⟨o1, o2, o3, o4, o5⟩ := o
  simp only at e1 e2 e3 e4 hd
  subst e1 e2 e3 e4
  have hdl : x.data.length ≤ 4096 := by simp [shortB] at hsh; omega
  have fd : Fro B o4 U8 x.data := ⟨hd⟩
  refine xidxn (h1 := by omega) (h := fun _ _ => ?_)
  refine xgetE ho (h := ?_)
  refine xgetEj ho (h := ?_)
  refine xgetEj ho (h := ?_)
  refine xgetEj ho (h := ?_)
  refine xgetEj ho (h := ?_)
  dsimp only
  refine xcl (both_spec (some ⟨b, 0, none⟩) (some ⟨b2, 0, none⟩) m0 o4 x hn hdl) rdb ?_
  rintro ⟨r1, _⟩ _ ⟨h6, rfl⟩
  obtain rfl : r1 = true := h6
  refine app2 (ca1 (xjoin (xiff rfl ?_)))
  generalize (runM m0 x).1 = m at *
  refine xcl (Looks_spec (some ⟨b, 0, none⟩) (some ⟨b2, 0, none⟩) m) rdb ?_
  rintro ⟨r1, _⟩ _ ⟨h6, rfl⟩
  obtain rfl : r1 = true := h6
  refine app2 (ca1 (xiff rfl ?_))
  refine xfact 0 (fun g hg => hg.1) fun hi => ?_
  have hbl := body_le hi x.to
  refine xidxn (h1 := by omega) (h := fun _ _ => ?_)
  refine xgetEj ho (h := ?_)
  dsimp only
  refine xcl (Read_spec (some ⟨b, 0, none⟩) m x.to) rdb ?_
  rintro ⟨s1, r2, _⟩ _ ⟨h6, rfl⟩
  simp only at h6
  subst h6
  refine app2 (ca2 ?_)
  refine xidxn (h1 := by omega) (h := fun _ _ => ?_)
  refine xgetEj ho (h := ?_)
  dsimp only
  refine xcl (rRead_spec (some ⟨b2, 0, none⟩) m x.to) rdb ?_
  rintro ⟨s2, r3, _⟩ _ ⟨h6, rfl⟩
  simp only at h6
  subst h6
  refine app2 (ca2 (xjoin (xiff (by simp) ?_)))
  refine xcl (SameBytes_spec s1 s2 (readM m x.to).1 (readM m x.to).1 (by omega)) (rds_and rdb rdb) ?_
  rintro ⟨c, _⟩ _ ⟨hc, rfl⟩
  obtain rfl : c = true := by simpa using hc
  refine app0 (ca1 (xiff rfl ?_))
  rw [wrap_succ k (by omega)]
  exact xuse [DevObj (some ⟨b, 0, none⟩) m, RefDev (some ⟨b2, 0, none⟩) m] (hK (ops.length - (k + 1)) _ _ (by omega) ⟨k + 1, m, rfl, rfl, by omega, rfl⟩)

end Go.Cx
