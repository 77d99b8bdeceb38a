/-
  The device: its calls that change it.
-/
import Derived.Test.YtlcnhajfgilipaaGreatDoorDD
namespace Go.Cx
open Go Go.Cf
set_option linter.unusedVariables false
variable {B : Base} {As : List HP}

theorem onFile_down {m : DM} {nm : ByteArray} {g : Nat → DF → DM → DM × Int} (h : m.down = true) : onFile m nm g = (m, 10) := by simp [onFile, h]
theorem onFile_none {m : DM} {nm : ByteArray} {g : Nat → DF → DM → DM × Int} (h : m.down = false) (ht : thereL m.fs nm.toList = false) : onFile m nm g = (m, 6) := by simp [onFile, h, ht]
theorem onFile_ok {m : DM} {nm : ByteArray} {g : Nat → DF → DM → DM × Int} (h : m.down = false) (ht : thereL m.fs nm.toList = true) : onFile m nm g = g (findL m.fs nm.toList) (m.fs.getD (findL m.fs nm.toList) ⟨nm, [], 0⟩) m := by
  unfold onFile
  rw [h, ht]; rfl
theorem spent_no {m : DM} {g : DM → DM} (h : (spendM m).2 = false) : spent m g = ((spendM m).1, 10) := by simp [spent, h]
theorem spent_ok {m : DM} {g : DM → DM} (h : (spendM m).2 = true) : spent m g = (g (spendM m).1, 0) := by simp [spent, h]

/-- A file is another one now. -/
theorem file_set {cs : List CF} {fs : List DF} {k : Nat} {c c' : CF} {f f' : DF} (hc : cs[k]? = some c) (hf : fs[k]? = some f) (h : ∀ g, FileR c f g → FileR c' f' g) (g : Frag) (hg : Each FileR cs fs g) : Each FileR (cs.set k c') (fs.set k f') g :=
  each_put (List.getElem?_eq_some_iff.1 hc).1 (List.getElem?_eq_some_iff.1 hf).1 (star_imp (h) (each_pick hg hc hf))

/-- What every call on a file begins with. -/
theorem on_file {p : Option Addr} {m : DM} {nm : ByteArray} (hi : DInv m) {cs : List CF} (sf : SF cs m.fs) (ht : thereL m.fs nm.toList = true) :
    ∃ c f, cs[findL m.fs nm.toList]? = some c ∧ m.fs[findL m.fs nm.toList]? = some f ∧ m.fs.getD (findL m.fs nm.toList) ⟨nm, [], 0⟩ = f ∧ c.1 = f.nm ∧ c.2.2 = f.sy ∧ c.2.1.n = f.b.length ∧ c.2.1.n ≤ c.2.1.c ∧ f.b.length ≤ 16777216 ∧ 0 ≤ f.sy ∧ f.sy ≤ f.b.length := by
  obtain ⟨hf, _⟩ := getD_there (d := ⟨nm, [], 0⟩) ht
  have hlt : findL m.fs nm.toList < cs.length := by rw [sf.len]; exact (List.getElem?_eq_some_iff.1 hf).1
  have hc := List.getElem?_eq_getElem hlt
  obtain ⟨h1, h2, h3, h4⟩ := sf.each _ _ _ hc hf
  have h5 := hi.syn _ (List.mem_of_getElem? hf)
  refine ⟨_, _, hc, hf, rfl, h1, h2, h3, h4, ?_, h5.1, h5.2⟩
  have h1 := usedN_erase hf
  have h2 := hi.used
  have h3 := hi.room
  omega

theorem Sync_spec (p : Option Addr) (m : DM) (nm : ByteArray) : Ct Pr F_device_Device_Sync [.pointer p, .string nm] .one [.int .i64] [DevObj p m] emp
    (fun t Bs => t.1 = (syncM m nm).2 ∧ Bs = [DevObj p (syncM m nm).1]) := by
  refine spec1 c_device_Device_Sync fun B _ => ?_
  unfold device_Device_Sync
  refine xdev 0 fun hi b s cs hp sf hsn => ?_
  subst hp
  have hinv := sync_inv hi nm
  unfold syncM at hinv ⊢
  refine xcl (find_raw b s cs m nm hi.sorted sf hi.len) rdb ?_
  rintro ⟨r, c, _⟩ _ ⟨h1, h2, rfl⟩
  simp only at h1 h2
  subst h1 h2
  refine app2 (ca2 (xnil (xget (h := xif (fun hd => ?_) (fun hd => xif (fun ht => ?_) (fun ht => ?_))))))
  · rw [onFile_down hd]
    exact xdev_back b s cs hi (xret ⟨rfl, rfl⟩)
  · rw [onFile_none hd (by simpa using ht)]
    exact xdev_back b s cs hi (xret ⟨rfl, rfl⟩)
  have ht : thereL m.fs nm.toList = true := by simpa using ht
  rw [onFile_ok hd ht] at hinv ⊢
  obtain ⟨c, f, hc, hf, hgd, e1, e2, e3, _, hfb, _⟩ := on_file (p := none) hi sf ht
  rw [hgd] at hinv ⊢
  obtain ⟨q1, q2⟩ := spendM_fs m
  refine xnil ?_
  refine xcl (spend_raw b s m hi.left.1 hi.left.2) rdb ?_
  rintro ⟨r, _⟩ _ ⟨hr, rfl⟩
  simp only at hr
  subst hr
  refine app1 (ca1 (xif (fun hsp => ?_) (fun hsp => ?_)))
  · rw [spent_no (by simpa using hsp)] at hinv ⊢
    exact xdev_put 0 0 0 b s cs (spendM m).1 hinv (fun _ h => by rw [q1]; exact h) (xret ⟨rfl, rfl⟩)
  rw [spent_ok (by simpa using hsp)] at hinv ⊢
  have hlt := (List.getElem?_eq_some_iff.1 hc).1
  refine xdraw (xnil (xget (h := xnil (xget (h := ?_)))))
  refine xidxn (h1 := hlt) (h := fun _ _ => ?_)
  refine xgetEj hc (h := ?_)
  refine xidxn (h1 := hlt) (h := fun _ _ => ?_)
  refine xsetEj (c.1, c.2.1, (f.b.length : Int)) hc (hj := by decide) (hv := by simp [FILE, e3]) (h := ?_)
  refine xfold1 2 (file_set (c' := (c.1, c.2.1, (f.b.length : Int))) (f' := { f with sy := f.b.length }) hc hf (fun g h => ⟨h.1, rfl, h.2.2⟩)) ?_
  exact xdev_put 1 1 0 b s (cs.set (findL m.fs nm.toList) (c.1, c.2.1, (f.b.length : Int))) _ hinv (fun _ h => by simp only [q1]; exact h) (xret ⟨rfl, rfl⟩)


theorem ar_cut {s : Sl} {xs : List UInt8} {k : Nat} (hk : k ≤ xs.length) {g : Frag} (h : Ar U8 s xs g) : Ar U8 ⟨s.p, k, s.c⟩ (xs.take k) g := by
  obtain ⟨zs, h⟩ := h
  obtain ⟨p, n, c⟩ := s
  exact ⟨xs.drop k ++ zs, h.shift (by rw [← List.append_assoc, List.take_append_drop]) (by simp; omega)⟩

theorem Truncate_spec (p : Option Addr) (m : DM) (nm : ByteArray) (n : Int) : Ct Pr F_device_Device_Truncate [.pointer p, .string nm, .int .i64 n] .one [.int .i64] [DevObj p m] emp
    (fun t Bs => t.1 = (truncM m nm n).2 ∧ Bs = [DevObj p (truncM m nm n).1]) := by
  refine spec1 c_device_Device_Truncate fun B _ => ?_
  unfold device_Device_Truncate
  refine xdev 0 fun hi b s cs hp sf hsn => ?_
  subst hp
  have hinv := trunc_inv hi nm n
  unfold truncM at hinv ⊢
  refine xcl (find_raw b s cs m nm hi.sorted sf hi.len) rdb ?_
  rintro ⟨r, c, _⟩ _ ⟨h1, h2, rfl⟩
  simp only at h1 h2
  subst h1 h2
  refine app2 (ca2 (xnil (xget (h := xif (fun hd => ?_) (fun hd => xif (fun ht => ?_) (fun ht => ?_))))))
  · rw [onFile_down hd]
    exact xdev_back b s cs hi (xret ⟨rfl, rfl⟩)
  · rw [onFile_none hd (by simpa using ht)]
    exact xdev_back b s cs hi (xret ⟨rfl, rfl⟩)
  have ht : thereL m.fs nm.toList = true := by simpa using ht
  rw [onFile_ok hd ht] at hinv ⊢
  obtain ⟨c, f, hc, hf, hgd, e1, e2, e3, e4, hfb, _, _⟩ := on_file (p := none) hi sf ht
  rw [hgd] at hinv ⊢
  have hlt := (List.getElem?_eq_some_iff.1 hc).1
  obtain ⟨q1, q2⟩ := spendM_fs m
  refine xjoin1 (fun x As' => x = decide (n < 0 ∨ n > f.b.length) ∧ As' = [Blk b (devCells m s), Ar FILE s cs, Each FileR cs m.fs]) ?_ ?_
  · intro J hJ
    refine xif_dec (fun h => hJ _ _ ⟨by simp [h], rfl⟩) (fun h => ?_)
    refine xnil (xget (h := ?_))
    refine xidxn (h1 := hlt) (h := fun _ _ => ?_)
    refine xgetEj hc (h := hJ _ _ ⟨?_, rfl⟩)
    rw [e3]; simp [h]
  rintro _ _ ⟨rfl, rfl⟩
  refine xif_dec (fun h => ?_) (fun h => ?_)
  · rw [if_pos h]
    exact xdev_back b s cs hi (xret ⟨rfl, rfl⟩)
  rw [if_neg h] at hinv ⊢
  refine xnil ?_
  refine xcl (spend_raw b s m hi.left.1 hi.left.2) rdb ?_
  rintro ⟨r, _⟩ _ ⟨hr, rfl⟩
  simp only at hr
  subst hr
  refine app1 (ca1 (xif (fun hsp => ?_) (fun hsp => ?_)))
  · rw [spent_no (by simpa using hsp)] at hinv ⊢
    exact xdev_put 0 0 0 b s cs (spendM m).1 hinv (fun _ h => by rw [q1]; exact h) (xret ⟨rfl, rfl⟩)
  rw [spent_ok (by simpa using hsp)] at hinv ⊢
  refine xnil (xget (h := ?_))
  refine xidxn (h1 := hlt) (h := fun _ _ => xdraw (xnil ?_))
  refine xgetEj hc (h := ?_)
  refine xslc0 rfl (by omega) (by omega) (xnil ?_)
  refine xgetEj hc (h := xnil ?_)
  refine xsetEj (c.1, ⟨c.2.1.p, n.toNat, c.2.1.c⟩, c.2.2) hc (hj := by decide) (hv := by simp [FILE]) (h := xnil ?_)
  have hc2 : (cs.set (findL m.fs nm.toList) (c.1, ⟨c.2.1.p, n.toNat, c.2.1.c⟩, c.2.2))[findL m.fs nm.toList]? = some (c.1, ⟨c.2.1.p, n.toNat, c.2.1.c⟩, c.2.2) := List.getElem?_set_self hlt
  refine xsetEj (c.1, ⟨c.2.1.p, n.toNat, c.2.1.c⟩, if n < f.sy then n else f.sy) hc2 (hj := by decide) (hv := by simp [FILE, e2]) (h := ?_)
  rw [List.set_set]
  refine xfold1 2 (file_set (c' := (c.1, ⟨c.2.1.p, n.toNat, c.2.1.c⟩, if n < f.sy then n else f.sy)) (f' := { f with b := f.b.take n.toNat, sy := if n < f.sy then n else f.sy }) hc hf (fun g h => ⟨h.1, rfl, ar_cut (by omega) h.2.2⟩)) ?_
  exact xdev_put 1 1 0 b s (cs.set (findL m.fs nm.toList) (c.1, ⟨c.2.1.p, n.toNat, c.2.1.c⟩, if n < f.sy then n else f.sy)) _ hinv (fun _ h => by simp only [q1]; exact h) (xret ⟨rfl, rfl⟩)

theorem Remove_spec (p : Option Addr) (m : DM) (nm : ByteArray) : Ct Pr F_device_Device_Remove [.pointer p, .string nm] .one [.int .i64] [DevObj p m] emp
    (fun t Bs => t.1 = (removeM m nm).2 ∧ Bs = [DevObj p (removeM m nm).1]) := by
  refine spec1 c_device_Device_Remove fun B _ => ?_
  unfold device_Device_Remove
  refine xdev 0 fun hi b s cs hp sf hsn => ?_
  subst hp
  have hinv := remove_inv hi nm
  unfold removeM at hinv ⊢
  refine xcl (find_raw b s cs m nm hi.sorted sf hi.len) rdb ?_
  rintro ⟨r, c, _⟩ _ ⟨h1, h2, rfl⟩
  simp only at h1 h2
  subst h1 h2
  refine app2 (ca2 (xnil (xget (h := xif (fun hd => ?_) (fun hd => xif (fun ht => ?_) (fun ht => ?_))))))
  · rw [onFile_down hd]
    exact xdev_back b s cs hi (xret ⟨rfl, rfl⟩)
  · rw [onFile_none hd (by simpa using ht)]
    exact xdev_back b s cs hi (xret ⟨rfl, rfl⟩)
  have ht : thereL m.fs nm.toList = true := by simpa using ht
  rw [onFile_ok hd ht] at hinv ⊢
  obtain ⟨c, f, hc, hf, hgd, e1, e2, e3, e4, hfb, _, _⟩ := on_file (p := none) hi sf ht
  have hlt := (List.getElem?_eq_some_iff.1 hc).1
  have hlen := hi.len
  have hcl := sf.len
  obtain ⟨q1, q2⟩ := spendM_fs m
  refine xnil ?_
  refine xcl (spend_raw b s m hi.left.1 hi.left.2) rdb ?_
  rintro ⟨r, _⟩ _ ⟨hr, rfl⟩
  simp only at hr
  subst hr
  refine app1 (ca1 (xif (fun hsp => ?_) (fun hsp => ?_)))
  · rw [spent_no (by simpa using hsp)] at hinv ⊢
    exact xdev_put 0 0 0 b s cs (spendM m).1 hinv (fun _ h => by rw [q1]; exact h) (xret ⟨rfl, rfl⟩)
  rw [spent_ok (by simpa using hsp)] at hinv ⊢
  refine xnil (xget (h := ?_))
  rw [wrap_succ _ (by omega)]
  refine xcl (Delete_spec s cs (findL m.fs nm.toList) hlt (by omega)) rdb ?_
  rintro ⟨s', _⟩ _ rfl
  refine app1 (ca1 (xnil (xset (h := ?_))))
  refine xunf 2 [FileR c f, Each FileR (cs.eraseIdx (findL m.fs nm.toList)) (m.fs.eraseIdx (findL m.fs nm.toList))] (fun g hg => each_pick hg hc hf) (app2 (xdrop 0 ?_))
  exact xdev_put 2 1 0 b s' (cs.eraseIdx (findL m.fs nm.toList)) _ hinv (fun _ h => by simp only [q1]; exact h) (xret ⟨rfl, rfl⟩)

theorem each_split {α β : Type} {R : α → β → HP} : ∀ (k : Nat) {xs : List α} {ys : List β} {g : Frag}, Each R xs ys g → star [Each R (xs.take k) (ys.take k), Each R (xs.drop k) (ys.drop k)] g := by
  intro k
  induction k with
  | zero =>
    intro xs ys g h
    exact ⟨fun _ => none, g, (trivial : Each R [] [] _), star_in h, fun _ => .inl rfl, fun _ _ e => (by cases e), Sub.refl _⟩
  | succ k ih =>
    intro xs ys g h
    cases xs with
    | nil =>
      cases ys with
      | cons => exact h.elim
      | nil => exact ⟨fun _ => none, g, (trivial : Each R [] [] _), star_in h, fun _ => .inl rfl, fun _ _ e => (by cases e), Sub.refl _⟩
    | cons x xs =>
      cases ys with
      | nil => exact h.elim
      | cons y ys =>
        have h1 : star [R x y, Each R (xs.take k) (ys.take k), Each R (xs.drop k) (ys.drop k)] g := star_cons (l := [Each R xs ys]) (fun g hg => by
          obtain ⟨a, b, pa, _, _, sa, _⟩ := hg
          exact star_mono _ (ih pa) sa) h
        exact star_fold1 (l := [R x y, Each R (xs.take k) (ys.take k)]) (fun g hg => hg) h1

theorem each_ins {α β : Type} {R : α → β → HP} {x : α} {y : β} (k : Nat) {xs : List α} {ys : List β} {g : Frag} (h : star [R x y, Each R xs ys] g) : Each R (xs.take k ++ x :: xs.drop k) (ys.take k ++ y :: ys.drop k) g := by
  have h1 : star [R x y, Each R (xs.take k) (ys.take k), Each R (xs.drop k) (ys.drop k)] g := star_cons (l := [Each R xs ys]) (fun g hg => by
    obtain ⟨a, b, pa, _, _, sa, _⟩ := hg
    exact star_mono _ (each_split k pa) sa) h
  have h2 : star [Each R (xs.take k) (ys.take k), R x y, Each R (xs.drop k) (ys.drop k)] g := star_swap h1
  refine each_app (star_cons (l' := [Each R (x :: xs.drop k) (y :: ys.drop k)]) (fun g hg => star_in hg) h2)


/-- The files ahead of the bytes: with one of that name. -/
def withF (m : DM) (nm : ByteArray) : List DF := if thereL m.fs nm.toList then m.fs else insL m.fs (findL m.fs nm.toList) ⟨nm, [], 0⟩

theorem withF_get (m : DM) (nm : ByteArray) : ∃ f, (withF m nm)[findL m.fs nm.toList]? = some f ∧ (withF m nm).getD (findL m.fs nm.toList) ⟨nm, [], 0⟩ = f ∧ f.b.length ≤ usedN m.fs := by
  unfold withF
  cases ht : thereL m.fs nm.toList with
  | true =>
    obtain ⟨hf, _⟩ := getD_there (d := ⟨nm, [], 0⟩) ht
    simp only [if_true]
    refine ⟨_, hf, rfl, ?_⟩
    have := usedN_erase hf
    omega
  | false =>
    have h := insL_get m.fs (findL m.fs nm.toList) ⟨nm, [], 0⟩ (findL_le _ _)
    simp only [Bool.false_eq_true, if_false]
    exact ⟨_, h, by simp [h], by simp⟩

theorem appendM_ok {m : DM} {nm : ByteArray} {bs : List UInt8} (h1 : namedB nm = true) (h2 : m.down = false) (h3 : ((!(thereL m.fs nm.toList) && decide ((m.fs.length : Int) ≥ 64)) || decide ((bs.length : Int) > m.room - usedN m.fs)) = false) (h4 : (spendM m).2 = true) :
    appendM m nm bs = ({ (spendM m).1 with fs := (withF m nm).set (findL m.fs nm.toList) { ((withF m nm).getD (findL m.fs nm.toList) ⟨nm, [], 0⟩) with b := ((withF m nm).getD (findL m.fs nm.toList) ⟨nm, [], 0⟩).b ++ bs } }, 0) := by
  unfold appendM
  rw [h1, h2, h3, h4]
  rfl

theorem Append_spec (p : Option Addr) (m : DM) (nm : ByteArray) (d : Sl) (bs : List UInt8) : Ct Pr F_device_Device_Append [.pointer p, .string nm, d.v] .one [.int .i64] [DevObj p m] (RAr U8 d bs)
    (fun t Bs => t.1 = (appendM m nm bs).2 ∧ Bs = [DevObj p (appendM m nm bs).1]) := by
  refine spec1 c_device_Device_Append fun B hr => ?_
  have fd : Fro B d U8 bs := ⟨hr⟩
  have hdn := hr.1
  unfold device_Device_Append
  refine xdev 0 fun hi b s cs hp sf hsn => ?_
  subst hp
  have hinv := append_inv hi nm bs
  have hlen := hi.len
  have hcl := sf.len
  have hu := hi.used
  have hroom := hi.room
  refine xcl (find_raw b s cs m nm hi.sorted sf hi.len) rdb ?_
  rintro ⟨r, c, _⟩ _ ⟨h1, h2, rfl⟩
  simp only at h1 h2
  subst h1 h2
  refine app2 (ca2 ?_)
  refine xcl (named_spec nm) rdb ?_
  rintro ⟨c, _⟩ _ ⟨h1, rfl⟩
  simp only at h1
  subst h1
  refine app0 (ca1 (xif (fun hn => ?_) (fun hn => ?_)))
  · have e : appendM m nm bs = (m, 8) := by unfold appendM; rw [if_pos hn]
    rw [e]
    exact xdev_back b s cs hi (xret ⟨rfl, rfl⟩)
  have hn : namedB nm = true := by simpa using hn
  refine xnil (xget (h := xif (fun hd => ?_) (fun hd => ?_)))
  · have hd : m.down = true := hd
    have e : appendM m nm bs = (m, 10) := by unfold appendM; rw [hn, hd]; rfl
    rw [e]
    exact xdev_back b s cs hi (xret ⟨rfl, rfl⟩)
  have hd : m.down = false := hd
  refine xjoin1 (fun x As' => x = (!(thereL m.fs nm.toList) && decide ((m.fs.length : Int) ≥ 64)) ∧ As' = [Blk b (devCells m s), Ar FILE s cs, Each FileR cs m.fs]) ?_ ?_
  · intro J hJ
    refine xif (fun h => xnil (xget (h := hJ _ _ ⟨?_, rfl⟩))) (fun h => hJ _ _ ⟨by rw [h]; rfl, rfl⟩)
    rw [h, hsn, hcl]; rfl
  rintro _ _ ⟨rfl, rfl⟩
  refine xjoin1 (fun x As' => x = ((!(thereL m.fs nm.toList) && decide ((m.fs.length : Int) ≥ 64)) || decide ((bs.length : Int) > m.room - usedN m.fs)) ∧ As' = [Blk b (devCells m s), Ar FILE s cs, Each FileR cs m.fs]) ?_ ?_
  · intro J hJ
    refine xif (fun h => hJ _ _ ⟨by rw [h]; rfl, rfl⟩) (fun h => ?_)
    refine xcl (Free_raw b s cs m hi sf) rdb ?_
    rintro ⟨r, _⟩ _ ⟨hr, rfl⟩
    simp only at hr
    subst hr
    refine app2 (ca1 (hJ _ _ ⟨?_, rfl⟩))
    rw [h, ← hdn]; rfl
  rintro _ _ ⟨rfl, rfl⟩
  refine xif (fun hfull => ?_) (fun hfull => ?_)
  · have e : appendM m nm bs = (m, 9) := by unfold appendM; rw [hn, hd, hfull]; rfl
    rw [e]
    exact xdev_back b s cs hi (xret ⟨rfl, rfl⟩)
  obtain ⟨q1, q2⟩ := spendM_fs m
  refine xnil ?_
  refine xcl (spend_raw b s m hi.left.1 hi.left.2) rdb ?_
  rintro ⟨r, _⟩ _ ⟨hr, rfl⟩
  simp only at hr
  subst hr
  refine app1 (ca1 (xif (fun hsp => ?_) (fun hsp => ?_)))
  · have hsp : (spendM m).2 = false := by simpa using hsp
    have e : appendM m nm bs = ((spendM m).1, 10) := by unfold appendM; rw [hn, hd, hfull, hsp]; rfl
    rw [e] at hinv ⊢
    exact xdev_put 0 0 0 b s cs (spendM m).1 hinv (fun _ h => by rw [q1]; exact h) (xret ⟨rfl, rfl⟩)
  have hsp : (spendM m).2 = true := by simpa using hsp
  rw [appendM_ok hn hd hfull hsp] at hinv ⊢
  have hbs : (bs.length : Int) ≤ m.room - usedN m.fs := by
    have := (Bool.or_eq_false_iff.1 hfull).2
    simpa using this
  refine xjoin0 (fun As' => ∃ s' cs', As' = [Blk b (devCells (spendM m).1 s'), Ar FILE s' cs', Each FileR cs' (withF m nm)]) ?_ ?_
  · intro J hJ
    refine xif (fun h => ?_) (fun h => ?_)
    · have ht : thereL m.fs nm.toList = false := by simpa using h
      have hle := findL_le m.fs nm.toList
      refine xnil (xget (h := xnewS fun b1 => ?_))
      refine xcl (Insert_spec s cs (findL m.fs nm.toList) b1 (nm, ⟨none, 0, 0⟩, 0) (by omega) (by omega)) rdb ?_
      rintro ⟨s2, _⟩ _ rfl
      refine app1 (ca1 (xnil (xset (h := ?_))))
      refine xadd (A := FileR (nm, ⟨none, 0, 0⟩, 0) ⟨nm, [], 0⟩) ⟨rfl, rfl, [], rfl, rfl, .inl ⟨rfl, rfl⟩⟩ ?_
      refine xfold2 0 2 (Q := Each FileR (cs.take (findL m.fs nm.toList) ++ (nm, ⟨none, 0, 0⟩, 0) :: cs.drop (findL m.fs nm.toList)) (withF m nm)) (fun g hg => ?_) ?_
      · unfold withF
        rw [ht]
        exact each_ins _ hg
      · exact xuse [Blk b (devCells (spendM m).1 s2), Ar FILE s2 (cs.take (findL m.fs nm.toList) ++ (nm, ⟨none, 0, 0⟩, 0) :: cs.drop (findL m.fs nm.toList)), Each FileR (cs.take (findL m.fs nm.toList) ++ (nm, ⟨none, 0, 0⟩, 0) :: cs.drop (findL m.fs nm.toList)) (withF m nm)] (hJ _ ⟨s2, _, rfl⟩)
    · have ht : thereL m.fs nm.toList = true := by simpa using h
      refine hJ _ ⟨s, cs, ?_⟩
      unfold withF
      rw [ht]; rfl
  rintro _ ⟨s', cs', rfl⟩
  obtain ⟨f, hf, hgd, hfu⟩ := withF_get m nm
  rw [hgd] at hinv ⊢
  refine xfact 2 (fun g hg => sf_of hg) fun sf' => ?_
  have hlt : findL m.fs nm.toList < cs'.length := by rw [sf'.len]; exact (List.getElem?_eq_some_iff.1 hf).1
  have hc := List.getElem?_eq_getElem hlt
  generalize cs'[findL m.fs nm.toList] = c at hc
  obtain ⟨e1, e2, e3, e4⟩ := sf'.each _ _ _ hc hf
  generalize findL m.fs nm.toList = i at *
  refine xdraw (xnil (xget (h := xnil (xget (h := ?_)))))
  refine xidxn (h1 := hlt) (h := fun _ _ => ?_)
  refine xgetEj hc (h := ?_)
  refine xunf 2 [FileR c f, Each FileR (cs'.eraseIdx i) ((withF m nm).eraseIdx i)] (fun g hg => each_pick hg hc hf) (app2 ?_)
  refine xfold1 (Q := Ar U8 c.2.1 f.b) 0 (fun g hg => hg.2.2) ?_
  refine xapp (y := d) (hb := by omega) (h := fun s6 => xchk (h := ?_))
  refine xidxn (h1 := hlt) (h := fun _ _ => ?_)
  refine xsetEj (c.1, s6, c.2.2) hc (hj := by decide) (hv := rfl) (h := ?_)
  refine xfold2 0 0 (Q := Each FileR (cs'.set i (c.1, s6, c.2.2)) ((withF m nm).set i { f with b := f.b ++ bs })) (fun g hg => ?_) ?_
  · exact each_put hlt (List.getElem?_eq_some_iff.1 hf).1 (star_imp (P := Ar U8 s6 (f.b ++ bs)) (fun q hq => (⟨e1, e2, hq⟩ : FileR (c.1, s6, c.2.2) { f with b := f.b ++ bs } q)) hg)
  exact xdev_put 1 1 0 b s' (cs'.set i (c.1, s6, c.2.2)) _ hinv (fun _ h => h) (xret ⟨rfl, rfl⟩)

theorem keep_eq {f : DF} (keep : Int) (h : 0 ≤ f.sy ∧ f.sy ≤ f.b.length) (hb : f.b.length ≤ 16777216) :
    IntKind.i64.wrap (f.sy + (if IntKind.i64.wrap ((f.b.length : Int) - f.sy) < if 0 > keep then 0 else keep then IntKind.i64.wrap ((f.b.length : Int) - f.sy) else if 0 > keep then 0 else keep)) = keepN keep f := by
  rw [wrap_id ((f.b.length : Int) - f.sy) (by omega) (by omega)]
  have := keepN_le h keep
  unfold keepN at this ⊢
  rw [wrap_id _ (by omega) (by omega)]

theorem Wake_spec (p : Option Addr) (m : DM) (keep : Int) : Ct Pr F_device_Device_Wake [.pointer p, .int .i64 keep] (.tup []) [] [DevObj p m] emp (fun t Bs => Bs = [DevObj p (wakeM m keep)]) := by
  refine spec0 c_device_Device_Wake fun B _ => ?_
  unfold device_Device_Wake
  refine xdev 0 fun hi b s cs hp sf hsn => ?_
  subst hp
  have hinv := wake_inv hi keep
  have hlen := hi.len
  have hcl := sf.len
  refine xnil (xget (h := ?_))
  refine xloop1 (fun n i As => ∃ (k : Nat) (cs' : List CF), i = (k : Int) ∧ n = m.fs.length - k ∧ k ≤ m.fs.length ∧ cs'.length = m.fs.length ∧ As = [Blk b (devCells m s), Ar FILE s cs', Each FileR cs' ((m.fs.map (wakeF keep)).take k ++ m.fs.drop k)]) m.fs.length ⟨0, cs, rfl, rfl, by omega, hcl, rfl⟩ ?_
  rintro n _ _ K ⟨k, cs', rfl, rfl, hk, hl', rfl⟩ hK
  refine xif_dec (fun h => ?_) (fun h => ?_)
  · refine xfact 2 (fun g hg => sf_of hg) fun sf' => ?_
    have hkl : k < m.fs.length := by omega
    have hf0 := List.getElem?_eq_getElem hkl
    have hsy := hi.syn _ (List.getElem_mem hkl)
    have hfb : m.fs[k].b.length ≤ 16777216 := by
      have h1 := usedN_erase hf0
      have h2 := hi.used
      have h3 := hi.room
      omega
    have hf : ((m.fs.map (wakeF keep)).take k ++ m.fs.drop k)[k]? = some m.fs[k] := by
      rw [List.getElem?_append_right (by simp; omega)]
      simp [Nat.min_eq_left (Nat.le_of_lt hkl), hf0]
    have hset : ((m.fs.map (wakeF keep)).take k ++ m.fs.drop k).set k (wakeF keep m.fs[k]) = (m.fs.map (wakeF keep)).take (k + 1) ++ m.fs.drop (k + 1) := by
      have hlt : ((m.fs.map (wakeF keep)).take k).length = k := by simp; omega
      rw [List.drop_eq_getElem_cons hkl, List.set_append_right _ _ (by omega), hlt, Nat.sub_self, List.set_cons_zero, List.take_add_one, List.getElem?_map, hf0]
      simp only [Option.map_some, Option.toList_some, List.append_assoc, List.singleton_append]
    generalize m.fs[k] = f at *
    have hc := List.getElem?_eq_getElem (l := cs') (i := k) (by omega)
    generalize cs'[k] = c at hc
    obtain ⟨e1, e2, e3, e4⟩ := sf'.each _ _ _ hc hf
    have hkn := keepN_le hsy keep
    refine xnil (xget (h := ?_))
    refine xidxn (h1 := by omega) (h := fun _ _ => xdraw (xnil ?_))
    refine xgetEj hc (h := xnil ?_)
    refine xgetEj hc (h := xnil ?_)
    refine xgetEj hc (h := xnil ?_)
    rw [e2, e3, keep_eq keep hsy hfb]
    refine xsetEj (c.1, c.2.1, keepN keep f) hc (hj := by decide) (hv := rfl) (h := xdraw (xnil ?_))
    have hc2 : (cs'.set k (c.1, c.2.1, keepN keep f))[k]? = some (c.1, c.2.1, keepN keep f) := List.getElem?_set_self (by omega)
    refine xgetEj hc2 (h := xnil ?_)
    refine xgetEj hc2 (h := ?_)
    dsimp only
    refine xslc0 rfl (by omega) (by omega) (xnil ?_)
    refine xsetEj (c.1, ⟨c.2.1.p, (keepN keep f).toNat, c.2.1.c⟩, keepN keep f) hc2 (hj := by decide) (hv := rfl) (h := ?_)
    rw [List.set_set, wrap_succ k (by omega)]
    refine xfold1 2 (file_set (c' := (c.1, ⟨c.2.1.p, (keepN keep f).toNat, c.2.1.c⟩, keepN keep f)) (f' := wakeF keep f) hc hf (fun g h => ⟨h.1, rfl, ar_cut (by omega) h.2.2⟩)) ?_
    rw [hset]
    exact xback 0 (hK (m.fs.length - (k + 1)) _ _ (by omega) ⟨k + 1, _, rfl, rfl, by omega, by simpa using hl', rfl⟩)
  · have hk' : k = m.fs.length := by omega
    subst hk'
    rw [List.take_of_length_le (by simp), List.drop_length, List.append_nil]
    refine xnil (xset (h := xset (h := xset (h := ?_))))
    exact xdev_put 0 0 0 b s cs' (wakeM m keep) hinv (fun _ h => h) (xret rfl)

end Go.Cx
