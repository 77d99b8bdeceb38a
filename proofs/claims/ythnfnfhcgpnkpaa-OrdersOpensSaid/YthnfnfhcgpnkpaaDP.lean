/-
  The document's device: its calls.
-/
import Derived.Test.YthnfnfhcgpnkpaaDO
namespace Go.Cx
open Go Go.Cf
set_option linter.unusedVariables false
variable {B : Base} {As : List HP}

theorem rUsed_spec (p : Option Addr) (m : DM) : Ct Pr F_ref12_Device_Used [.pointer p] .one [.int .i64] [RefDev p m] emp (fun t Bs => t.1 = (usedN m.fs : Int) ∧ Bs = [RefDev p m]) := by
  refine spec1 (φ := XCall Pr F_ref12_Device_Used [.pointer p] .one [.int .i64]) id fun B _ => ?_
  refine xrdev 0 fun hi b s cs hp sf hn => ?_
  subst hp
  refine xcl (rUsed_raw b (leftR m) m.down s cs m hi sf) rdb ?_
  rintro ⟨r, _⟩ _ ⟨hr, rfl⟩
  exact app2 (ca1 (xrdev_back b s cs hi (xret ⟨hr, rfl⟩)))

theorem rFree_spec (p : Option Addr) (m : DM) : Ct Pr F_ref12_Device_Free [.pointer p] .one [.int .i64] [RefDev p m] emp (fun t Bs => t.1 = m.room - (usedN m.fs : Int) ∧ Bs = [RefDev p m]) := by
  refine spec1 (φ := XCall Pr F_ref12_Device_Free [.pointer p] .one [.int .i64]) id fun B _ => ?_
  refine xrdev 0 fun hi b s cs hp sf hn => ?_
  subst hp
  refine xcl (rFree_raw b (leftR m) m.down s cs m hi sf) rdb ?_
  rintro ⟨r, _⟩ _ ⟨hr, rfl⟩
  exact app2 (ca1 (xrdev_back b s cs hi (xret ⟨hr, rfl⟩)))

theorem rDown_spec (p : Option Addr) (m : DM) : Ct Pr F_ref12_Device_Down [.pointer p] .one [.bool] [RefDev p m] emp (fun t Bs => t.1 = m.down ∧ Bs = [RefDev p m]) := by
  refine spec1 c_ref12_Device_Down fun B _ => ?_
  unfold ref12_Device_Down
  refine xrdev 0 fun hi b s cs hp sf hn => ?_
  subst hp
  exact xnil (xget (h := xrdev_back b s cs hi (xret ⟨rfl, rfl⟩)))

theorem rArm_spec (p : Option Addr) (m : DM) (n : Int) (hn : i64 n) : Ct Pr F_ref12_Device_Arm [.pointer p, .int .i64 n] (.tup []) [] [RefDev p m] emp (fun t Bs => Bs = [RefDev p (armM m n)]) := by
  refine spec0 c_ref12_Device_Arm fun B _ => ?_
  unfold ref12_Device_Arm
  refine xrdev 0 fun hi b s cs hp sf hsn => ?_
  subst hp
  refine xnil (xset (h := xjoin (xif_dec (fun h => ?_) (fun h => ?_))))
  · have e : leftR (armM m n) = -1 := by simp [leftR, armM]; omega
    refine xnil (xset (h := xrdev_put 0 0 0 b s cs (armM m n) (arm_inv hi hn) (fun _ h => ?_) (xret rfl)))
    unfold refCells
    rw [e]; exact h
  · have e : leftR (armM m n) = n := by simp [leftR, armM]; omega
    refine xrdev_put 0 0 0 b s cs (armM m n) (arm_inv hi hn) (fun _ h => ?_) (xret rfl)
    unfold refCells
    rw [e]; exact h

theorem rNames_spec (p : Option Addr) (m : DM) : Ct Pr F_ref12_Device_Names [.pointer p] .one [.slice] [RefDev p m] emp (fun t Bs => Bs = [RefDev p m, Ar ST t.1 (m.fs.map (·.nm))]) := by
  refine spec1 c_ref12_Device_Names fun B _ => ?_
  unfold ref12_Device_Names
  refine xrdev 0 fun hi b s cs hp sf hsn => ?_
  subst hp
  have hlen := hi.len
  have hcl := sf.len
  refine xnone ST ?_
  refine xloop2 (fun n o i As => ∃ k : Nat, i = (k : Int) ∧ n = m.fs.length - k ∧ k ≤ m.fs.length ∧ As = [Ar ST o ((m.fs.map fun f : DF => f.nm).take k), Blk b (refCells m s), Ar FILE s cs, Each FileR cs m.fs]) m.fs.length ⟨0, rfl, rfl, by omega, rfl⟩ ?_
  rintro n o _ _ K ⟨k, rfl, rfl, hk, rfl⟩ hK
  refine xnil (xget (h := xif_dec (fun h => ?_) (fun h => ?_)))
  · have hf := List.getElem?_eq_getElem (l := m.fs) (i := k) (by omega)
    have hc := List.getElem?_eq_getElem (l := cs) (i := k) (by omega)
    obtain ⟨h1, _⟩ := sf.each _ _ _ hc hf
    refine xnil (xget (h := ?_))
    refine xidxn (h1 := by omega) (h := fun _ _ => ?_)
    refine xgetE hc (h := xnew fun b2 => ?_)
    refine xapp1 cs[k].1 (hb := by simp; omega) (h := fun s' => ?_)
    rw [wrap_succ k (by omega)]
    refine hK (m.fs.length - (k + 1)) _ _ _ (by omega) ⟨k + 1, rfl, rfl, by omega, ?_⟩
    rw [List.take_add_one, List.getElem?_map, hf, h1]; rfl
  · have : k = m.fs.length := by omega
    subst this
    rw [List.take_of_length_le (by simp)]
    exact xrdev_back b s cs hi (xret rfl)

theorem rRead_spec (p : Option Addr) (m : DM) (nm : ByteArray) : Ct Pr F_ref12_Device_Read [.pointer p, .string nm] (.tup [none, none]) [.slice, .int .i64] [RefDev p m] emp
    (fun t Bs => t.2.1 = (readM m nm).2 ∧ Bs = [RefDev p m, Ar U8 t.1 (readM m nm).1]) := by
  refine spec2 c_ref12_Device_Read fun B _ => ?_
  unfold ref12_Device_Read
  refine xrdev 0 fun hi b s cs hp sf hsn => ?_
  subst hp
  have hlen := hi.len
  refine xcl (rFind_raw b m.room (leftR m) m.down s cs m.fs nm hi.sorted sf.names (by omega)) rdb ?_
  rintro ⟨r, _⟩ _ ⟨h1, rfl⟩
  simp only at h1
  subst h1
  refine app2 (ca1 ?_)
  rw [fIdx_neg]
  refine xif (fun h => ?_) (fun h => ?_)
  · have h' : thereL m.fs nm.toList = false := by simpa using h
    refine xnone U8 (xrdev_back b s cs hi (xret ?_))
    simp [readM, h']
  · have h' : thereL m.fs nm.toList = true := by simpa using h
    rw [fIdx_yes h']
    obtain ⟨c, f, hc, hf, hgd, e1, e2, e3, e4, hfb, _⟩ := on_file (p := none) hi sf h'
    have hlt := (List.getElem?_eq_some_iff.1 hc).1
    refine xnil (xget (h := ?_))
    refine xidxn (h1 := hlt) (h := fun _ _ => ?_)
    refine xgetEj hc (h := ?_)
    refine xcl (CopyBytes_spec c.2.1 f.b (by omega)) (rds_pick 2 (fun g hg => each_read (R := FileR) (S := fun c f => RAr U8 c.2.1 f.b) (fun _ _ _ _ h s => h.mono s) (fun _ _ _ h => h.2.2.read) hg hc hf) (fun _ _ h s => h.mono s)) ?_
    rintro ⟨r, _⟩ _ rfl
    refine app1 (ca1 (xrdev_back b s cs hi (xret ?_)))
    unfold readM
    rw [h', hgd]
    exact ⟨rfl, rfl⟩

/-- What every call on a file begins with. -/
theorem th_down {m : DM} {nm : ByteArray} (h : m.down = true) : thR m nm = (0, 10) := by simp [thR, h]
theorem th_none {m : DM} {nm : ByteArray} (h : m.down = false) (ht : thereL m.fs nm.toList = false) : thR m nm = (0, 6) := by simp [thR, h, ht]
theorem th_ok {m : DM} {nm : ByteArray} (h : m.down = false) (ht : thereL m.fs nm.toList = true) : thR m nm = ((findL m.fs nm.toList : Int), 0) := by simp [thR, h, ht]

theorem rSync_spec (p : Option Addr) (m : DM) (nm : ByteArray) : Ct Pr F_ref12_Device_Sync [.pointer p, .string nm] .one [.int .i64] [RefDev p m] emp
    (fun t Bs => t.1 = (syncM m nm).2 ∧ Bs = [RefDev p (syncM m nm).1]) := by
  refine spec1 c_ref12_Device_Sync fun B _ => ?_
  unfold ref12_Device_Sync
  refine xrdev 0 fun hi b s cs hp sf hsn => ?_
  subst hp
  have hinv := sync_inv hi nm
  unfold syncM at hinv ⊢
  refine xcl (rthere_raw b s cs m nm hi sf) rdb ?_
  rintro ⟨r, c, _⟩ _ ⟨h1, h2, rfl⟩
  simp only at h1 h2
  refine app2 (ca2 ?_)
  cases hd : m.down with
  | true =>
    rw [th_down hd] at h1 h2
    subst h1 h2
    rw [onFile_down hd]
    exact xift rfl (xrdev_back b s cs hi (xret ⟨rfl, rfl⟩))
  | false =>
  cases ht : thereL m.fs nm.toList with
  | false =>
    rw [th_none hd ht] at h1 h2
    subst h1 h2
    rw [onFile_none hd ht]
    exact xift rfl (xrdev_back b s cs hi (xret ⟨rfl, rfl⟩))
  | true =>
  rw [th_ok hd ht] at h1 h2
  simp only at h1 h2
  subst h1 h2
  rw [onFile_ok hd ht] at hinv ⊢
  obtain ⟨c, f, hc, hf, hgd, e1, e2, e3, _, hfb, _⟩ := on_file (p := none) hi sf ht
  rw [hgd] at hinv ⊢
  obtain ⟨q1, q2⟩ := spendM_fs m
  refine xiff rfl ?_
  refine xcl (rDone_raw b s m hi.left.1 hi.left.2) rdb ?_
  rintro ⟨r, _⟩ _ ⟨hr, rfl⟩
  simp only at hr
  subst hr
  refine app1 (ca1 (xif (fun hsp => ?_) (fun hsp => ?_)))
  · rw [spent_no (by simpa using hsp)] at hinv ⊢
    exact xrdev_put 0 0 0 b s cs (spendM m).1 hinv (fun _ h => by rw [q1]; exact h) (xret ⟨rfl, rfl⟩)
  rw [spent_ok (by simpa using hsp)] at hinv ⊢
  have hlt := (List.getElem?_eq_some_iff.1 hc).1
  refine xdraw (xnil (xget (h := xnil (xget (h := ?_)))))
  refine xidxn (h1 := hlt) (h := fun _ _ => ?_)
  refine xgetEj hc (h := ?_)
  refine xidxn (h1 := hlt) (h := fun _ _ => ?_)
  refine xsetEj (c.1, c.2.1, (f.b.length : Int)) hc (hj := by decide) (hv := by simp [FILE, e3]) (h := ?_)
  refine xfold1 2 (file_set (c' := (c.1, c.2.1, (f.b.length : Int))) (f' := { f with sy := f.b.length }) hc hf (fun g h => ⟨h.1, rfl, h.2.2⟩)) ?_
  exact xrdev_put 1 1 0 b s (cs.set (findL m.fs nm.toList) (c.1, c.2.1, (f.b.length : Int))) _ hinv (fun _ h => by simp only [q1]; exact h) (xret ⟨rfl, rfl⟩)

/-- One file's bytes lie elsewhere now. -/
theorem file_new {cs : List CF} {fs : List DF} {k : Nat} {c c' : CF} {f f' : DF} (hc : cs[k]? = some c) (hf : fs[k]? = some f) (h1 : c'.1 = f'.nm) (h2 : c'.2.2 = f'.sy) (g : Frag) (hg : star [Ar U8 c'.2.1 f'.b, Each FileR cs fs] g) : Each FileR (cs.set k c') (fs.set k f') g := by
  refine each_put (List.getElem?_eq_some_iff.1 hc).1 (List.getElem?_eq_some_iff.1 hf).1 ?_
  refine star_imp (P := Ar U8 c'.2.1 f'.b) (fun q hq => ⟨h1, h2, hq⟩) ?_
  refine star_cons (l := [Each FileR cs fs]) (fun q hq => ?_) hg
  obtain ⟨a, _, pa, _, _, sa, _⟩ := hq
  obtain ⟨a1, b1, _, pb1, _, _, sb1⟩ := each_pick pa hc hf
  exact star_mono _ pb1 (sb1.trans sa)

theorem rTruncate_spec (p : Option Addr) (m : DM) (nm : ByteArray) (n : Int) : Ct Pr F_ref12_Device_Truncate [.pointer p, .string nm, .int .i64 n] .one [.int .i64] [RefDev p m] emp
    (fun t Bs => t.1 = (truncM m nm n).2 ∧ Bs = [RefDev p (truncM m nm n).1]) := by
  refine spec1 c_ref12_Device_Truncate fun B _ => ?_
  unfold ref12_Device_Truncate
  refine xrdev 0 fun hi b s cs hp sf hsn => ?_
  subst hp
  have hinv := trunc_inv hi nm n
  unfold truncM at hinv ⊢
  refine xcl (rthere_raw b s cs m nm hi sf) rdb ?_
  rintro ⟨r, c, _⟩ _ ⟨h1, h2, rfl⟩
  simp only at h1 h2
  refine app2 (ca2 ?_)
  cases hd : m.down with
  | true =>
    rw [th_down hd] at h1 h2
    subst h1 h2
    rw [onFile_down hd]
    exact xift rfl (xrdev_back b s cs hi (xret ⟨rfl, rfl⟩))
  | false =>
  cases ht : thereL m.fs nm.toList with
  | false =>
    rw [th_none hd ht] at h1 h2
    subst h1 h2
    rw [onFile_none hd ht]
    exact xift rfl (xrdev_back b s cs hi (xret ⟨rfl, rfl⟩))
  | true =>
  rw [th_ok hd ht] at h1 h2
  simp only at h1 h2
  subst h1 h2
  rw [onFile_ok hd ht] at hinv ⊢
  obtain ⟨c, f, hc, hf, hgd, e1, e2, e3, e4, hfb, _, _⟩ := on_file (p := none) hi sf ht
  rw [hgd] at hinv ⊢
  have hlt := (List.getElem?_eq_some_iff.1 hc).1
  obtain ⟨q1, q2⟩ := spendM_fs m
  refine xiff rfl ?_
  refine xjoin1 (fun x As' => x = decide (n < 0 ∨ n > f.b.length) ∧ As' = [Blk b (refCells m s), Ar FILE s cs, Each FileR cs m.fs]) ?_ ?_
  · intro J hJ
    refine xif_dec (fun h => hJ _ _ ⟨by simp [h], rfl⟩) (fun h => ?_)
    refine xnil (xget (h := ?_))
    refine xidxn (h1 := hlt) (h := fun _ _ => ?_)
    refine xgetEj hc (h := hJ _ _ ⟨?_, rfl⟩)
    rw [e3]; simp [h]
  rintro _ _ ⟨rfl, rfl⟩
  refine xif_dec (fun h => ?_) (fun h => ?_)
  · rw [if_pos h]
    exact xrdev_back b s cs hi (xret ⟨rfl, rfl⟩)
  rw [if_neg h] at hinv ⊢
  refine xcl (rDone_raw b s m hi.left.1 hi.left.2) rdb ?_
  rintro ⟨r, _⟩ _ ⟨hr, rfl⟩
  simp only at hr
  subst hr
  refine app1 (ca1 (xif (fun hsp => ?_) (fun hsp => ?_)))
  · rw [spent_no (by simpa using hsp)] at hinv ⊢
    exact xrdev_put 0 0 0 b s cs (spendM m).1 hinv (fun _ h => by rw [q1]; exact h) (xret ⟨rfl, rfl⟩)
  rw [spent_ok (by simpa using hsp)] at hinv ⊢
  simp only [q1] at hinv ⊢
  generalize findL m.fs nm.toList = i at *
  refine xdraw (xnil (xget (h := xnil (xget (h := ?_)))))
  refine xidxn (h1 := hlt) (h := fun _ _ => ?_)
  refine xgetEj hc (h := ?_)
  refine xslc0 rfl (by omega) (by omega) ?_
  refine xcl (CopyBytes_spec ⟨c.2.1.p, n.toNat, c.2.1.c⟩ (f.b.take n.toNat) (by rw [List.length_take]; omega)) (rds_pick 2 (fun g hg => each_read (R := FileR) (S := fun c f g => n.toNat ≤ f.b.length → RAr U8 ⟨c.2.1.p, n.toNat, c.2.1.c⟩ (f.b.take n.toNat) g) (fun _ _ _ _ h s l => (h l).mono s) (fun c' f' g h l => (ar_cut l h.2.2).read) hg hc hf (by omega)) (fun _ _ h s => h.mono s)) ?_
  rintro ⟨s6, _⟩ _ rfl
  refine app1 (ca1 (xchk (h := ?_)))
  refine xidxn (h1 := hlt) (h := fun _ _ => ?_)
  refine xsetEj (c.1, s6, c.2.2) hc (hj := by decide) (hv := rfl) (h := xnil (xget (h := ?_)))
  have hc2 : (cs.set i (c.1, s6, c.2.2))[i]? = some (c.1, s6, c.2.2) := List.getElem?_set_self hlt
  refine xidxn (h1 := by simp; omega) (h := fun _ _ => ?_)
  refine xgetEj hc2 (h := ?_)
  refine xjoin0 (fun As' => As' = [Blk b (refCells (spendM m).1 s), Ar FILE s (cs.set i (c.1, s6, if n < f.sy then n else f.sy)), Each FileR cs m.fs, Ar U8 s6 (f.b.take n.toNat)]) ?_ ?_
  · intro J hJ
    refine xif_dec (fun h => ?_) (fun h => ?_)
    · have h : n < f.sy := by simp only [e2] at h; omega
      rw [if_pos h] at hJ
      refine xnil (xget (h := ?_))
      refine xidxn (h1 := by simp; omega) (h := fun _ _ => ?_)
      refine xsetEj (c.1, s6, n) hc2 (hj := by decide) (hv := rfl) (h := ?_)
      rw [List.set_set]
      exact xuse [Blk b (refCells (spendM m).1 s), Ar FILE s (cs.set i (c.1, s6, n)), Each FileR cs m.fs, Ar U8 s6 (f.b.take n.toNat)] (hJ _ rfl)
    · have h : ¬ n < f.sy := by simp only [e2] at h; omega
      rw [if_neg h, ← e2] at hJ
      exact xuse [Blk b (refCells (spendM m).1 s), Ar FILE s (cs.set i (c.1, s6, c.2.2)), Each FileR cs m.fs, Ar U8 s6 (f.b.take n.toNat)] (hJ _ rfl)
  rintro _ rfl
  refine xfold2 3 2 (Q := Each FileR (cs.set i (c.1, s6, if n < f.sy then n else f.sy)) (m.fs.set i { f with b := f.b.take n.toNat, sy := if n < f.sy then n else f.sy })) (fun g hg => file_new (c' := (c.1, s6, if n < f.sy then n else f.sy)) (f' := { f with b := f.b.take n.toNat, sy := if n < f.sy then n else f.sy }) hc hf e1 rfl g hg) ?_
  exact xrdev_put 1 1 0 b s (cs.set i (c.1, s6, if n < f.sy then n else f.sy)) _ hinv (fun _ h => h) (xret ⟨rfl, rfl⟩)

end Go.Cx
