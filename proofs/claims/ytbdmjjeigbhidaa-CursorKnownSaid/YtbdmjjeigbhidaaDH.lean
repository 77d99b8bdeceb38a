/-
  Calls of a device that are done one behind the other.
-/
import Derived.Test.YtbdmjjeigbhidaaDF
namespace Go.Cx
open Go Go.Cf Go.ChangeShapes Go.WideShapes Go.Deep
set_option linter.unusedVariables false
variable {B : Base} {As : List HP}

structure DOp where
  kind : Int
  name : ByteArray
  to : ByteArray
  data : List UInt8
  n : Int
instance : Inhabited DOp := ⟨⟨0, ByteArray.empty, ByteArray.empty, [], 0⟩⟩

abbrev COp := Int × ByteArray × ByteArray × Sl × Int
def OP : Enc COp := ⟨fun x => [.int .i64 x.1, .string x.2.1, .string x.2.2.1, x.2.2.2.1.v, .int .i64 x.2.2.2.2], 5, fun _ => rfl, fun x v h => by simp at h; rcases h with rfl | rfl | rfl | rfl | rfl <;> rfl, by decide, (0, ByteArray.empty, ByteArray.empty, ⟨none, 0, 0⟩, 0)⟩

def OpOk (o : COp) (m : DOp) (h : Frag) : Prop := o.1 = m.kind ∧ o.2.1 = m.name ∧ o.2.2.1 = m.to ∧ o.2.2.2.2 = m.n ∧ i64 m.kind ∧ i64 m.n ∧ RAr U8 o.2.2.2.1 m.data h
def ROps (s : Sl) (ops : List DOp) : HP := fun h => s.n ≤ s.c ∧ ∃ os : List COp, RAr OP s os h ∧ os.length = ops.length ∧ ∀ (i : Nat) (o : COp) (m : DOp), os[i]? = some o → ops[i]? = some m → OpOk o m h

theorem OpOk.mono {o : COp} {m : DOp} {h g : Frag} (hr : OpOk o m h) (hs : Sub h g) : OpOk o m g :=
  ⟨hr.1, hr.2.1, hr.2.2.1, hr.2.2.2.1, hr.2.2.2.2.1, hr.2.2.2.2.2.1, hr.2.2.2.2.2.2.mono hs⟩
theorem ROps.mono {s : Sl} {ops : List DOp} {h g : Frag} (hr : ROps s ops h) (hs : Sub h g) : ROps s ops g := by
  obtain ⟨h0, os, h1, h2, h3⟩ := hr
  exact ⟨h0, os, h1.mono hs, h2, fun i o m a b => (h3 i o m a b).mono hs⟩

def shortB (m : DOp) : Bool := decide (m.data.length ≤ 4096) && decide (m.name.size ≤ 4096) && decide (m.to.size ≤ 4096)
def longB (ops : List DOp) : Bool := decide (200 < ops.length) || ops.any fun m => !(shortB m)

theorem long_spec (s : Sl) (ops : List DOp) : Ct Pr F_law12_long [s.v] .one [.bool] [] (ROps s ops) (fun t Bs => t.1 = longB ops ∧ Bs = []) := by
  refine spec1 c_law12_long fun B hr => ?_
  obtain ⟨hc, os, h1, h2, h3⟩ := hr
  have fa : Fro B s OP os := ⟨h1⟩
  have hn := h1.1
  unfold law12_long
  refine xif_dec (fun h => xret ⟨?_, rfl⟩) (fun h => ?_)
  · have : 200 < ops.length := by omega
    simp [longB, this]
  have h200 : ¬ 200 < ops.length := by omega
  refine xloop1 (fun n i As => ∃ k : Nat, i = (k : Int) ∧ n = ops.length - k ∧ k ≤ ops.length ∧ (∀ m ∈ ops.take k, shortB m = true) ∧ As = []) ops.length ⟨0, rfl, rfl, by omega, by simp, rfl⟩ ?_
  rintro n _ _ K ⟨k, rfl, rfl, hk, hall, rfl⟩ hK
  refine xif_dec (fun h => ?_) (fun h => ?_)
  · have hm := List.getElem?_eq_getElem (l := ops) (i := k) (by omega)
    have ho := List.getElem?_eq_getElem (l := os) (i := k) (by omega)
    obtain ⟨_, e2, e3, _, _, _, hd⟩ := h3 k _ _ ho hm
    have hmem := List.getElem_mem (l := ops) (n := k) (by omega)
    generalize ops[k] = m at *
    generalize os[k] = o at *
    have hlen := hd.1
    refine xidxn (h1 := by omega) (h := fun _ _ => ?_)
    refine xgetEj ho (h := ?_)
    refine xjoin1 (fun x As' => x = (decide (4096 < m.data.length) || decide (4096 < m.name.size)) ∧ As' = []) ?_ ?_
    · intro J hJ
      refine xif_dec (fun h => hJ _ _ ⟨?_, rfl⟩) (fun h => ?_)
      · have : 4096 < m.data.length := by omega
        simp [this]
      refine xidxn (h1 := by omega) (h := fun _ _ => ?_)
      refine xgetEj ho (h := hJ _ _ ⟨?_, rfl⟩)
      have : ¬ 4096 < m.data.length := by omega
      rw [e2]; simp [this]; omega
    rintro _ _ ⟨rfl, rfl⟩
    refine xjoin1 (fun x As' => x = (!(shortB m)) ∧ As' = []) ?_ ?_
    · intro J hJ
      refine xif (fun h => hJ _ _ ⟨?_, rfl⟩) (fun h => ?_)
      · simp only [Bool.or_eq_true, decide_eq_true_eq] at h
        have : shortB m = false := by
          simp only [shortB, Bool.and_eq_false_iff, decide_eq_false_iff_not]
          omega
        rw [this]; rfl
      simp only [Bool.or_eq_false_iff, decide_eq_false_iff_not] at h
      refine xidxn (h1 := by omega) (h := fun _ _ => ?_)
      refine xgetEj ho (h := hJ _ _ ⟨?_, rfl⟩)
      have h1 : m.data.length ≤ 4096 := by omega
      have h2 : m.name.size ≤ 4096 := by omega
      rw [e3]
      by_cases h3 : m.to.size ≤ 4096
      · have : ¬ ((m.to.size : Int) > 4096) := by omega
        simp [shortB, h1, h2, h3, this]
      · have : ((m.to.size : Int) > 4096) := by omega
        simp [shortB, h1, h2, h3, this]
    rintro _ _ ⟨rfl, rfl⟩
    refine xif (fun h => ?_) (fun h => ?_)
    · refine xret ⟨?_, rfl⟩
      have : ops.any (fun m => !(shortB m)) = true := List.any_eq_true.2 ⟨m, hmem, h⟩
      simp only [longB, this, Bool.or_true]
    · rw [wrap_succ k (by omega)]
      refine hK (ops.length - (k + 1)) _ _ (by omega) ⟨k + 1, rfl, rfl, by omega, ?_, rfl⟩
      intro x hx
      rw [List.take_add_one, hm] at hx
      rcases List.mem_append.1 hx with h' | h'
      · exact hall x h'
      · simp at h'; subst h'; simpa using h
  · have : k = ops.length := by omega
    subst this
    rw [List.take_length] at hall
    refine xret ⟨?_, rfl⟩
    have h0 : ops.any (fun m => !(shortB m)) = false := by
      rw [List.any_eq_false]; intro m hm; have := hall m hm; simp [this]
    simp only [longB, h0, Bool.or_false]
    simp; omega


theorem long_false {ops : List DOp} (h : longB ops = false) : ops.length ≤ 200 ∧ ∀ m ∈ ops, shortB m = true := by
  simp only [longB, Bool.or_eq_false_iff, decide_eq_false_iff_not] at h
  refine ⟨by omega, fun m hm => ?_⟩
  have := List.any_eq_false.1 h.2 m hm
  simpa using this

/-- One call, as a law of lists. -/
def runM (m : DM) (o : DOp) : DM × Int :=
  if o.kind = 0 then appendM m o.name o.data
  else if o.kind = 1 then syncM m o.name
  else if o.kind = 2 then truncM m o.name o.n
  else if o.kind = 3 then renameM m o.name o.to
  else if o.kind = 4 then removeM m o.name
  else if o.kind = 5 then (armM m o.n, 0)
  else if o.kind = 6 then (wakeM m o.n, 0)
  else (m, 0)

theorem runM0 {m : DM} {o : DOp} (h : o.kind = 0) : runM m o = appendM m o.name o.data := by simp [runM, h]
theorem runM1 {m : DM} {o : DOp} (h : o.kind = 1) : runM m o = syncM m o.name := by simp [runM, h]
theorem runM2 {m : DM} {o : DOp} (h : o.kind = 2) : runM m o = truncM m o.name o.n := by simp [runM, h]
theorem runM3 {m : DM} {o : DOp} (h : o.kind = 3) : runM m o = renameM m o.name o.to := by simp [runM, h]
theorem runM4 {m : DM} {o : DOp} (h : o.kind = 4) : runM m o = removeM m o.name := by simp [runM, h]
theorem runM5 {m : DM} {o : DOp} (h : o.kind = 5) : runM m o = (armM m o.n, 0) := by simp [runM, h]
theorem runM6 {m : DM} {o : DOp} (h : o.kind = 6) : runM m o = (wakeM m o.n, 0) := by simp [runM, h]
theorem runM7 {m : DM} {o : DOp} (h0 : ¬ o.kind = 0) (h1 : ¬ o.kind = 1) (h2 : ¬ o.kind = 2) (h3 : ¬ o.kind = 3) (h4 : ¬ o.kind = 4) (h5 : ¬ o.kind = 5) (h6 : ¬ o.kind = 6) : runM m o = (m, 0) := by simp [runM, h0, h1, h2, h3, h4, h5, h6]

theorem run_inv {m : DM} (h : DInv m) {o : DOp} (hn : i64 o.n) : DInv (runM m o).1 := by
  unfold runM
  split
  · exact append_inv h _ _
  split
  · exact sync_inv h _
  split
  · exact trunc_inv h _ _
  split
  · exact rename_inv h _ _
  split
  · exact remove_inv h _
  split
  · exact arm_inv h hn
  split
  · exact wake_inv h _
  · exact h

theorem run_spec (p : Option Addr) (m : DM) (d : Sl) (o : DOp) (hn : i64 o.n) : Ct Pr F_law12_run [.pointer p, .agg #[.int .i64 o.kind, .string o.name, .string o.to, d.v, .int .i64 o.n]] .one [.int .i64] [DevObj p m] (RAr U8 d o.data)
    (fun t Bs => t.1 = (runM m o).2 ∧ Bs = [DevObj p (runM m o).1]) := by
  refine spec1 c_law12_run fun B hr => ?_
  have fd : Fro B d U8 o.data := ⟨hr⟩
  unfold law12_run
  refine xnew fun b => xget (h := ?_)
  refine xif (fun g => ?_) (fun g => ?_)
  · have hk : o.kind = 0 := by simpa using g
    refine xget (h := xget (h := ?_))
    refine xcl (Append_spec p m o.name d o.data) rdb ?_
    rintro ⟨r, _⟩ _ ⟨hr, rfl⟩
    exact app1 (ca1 (xdrop 1 (xret (by rw [runM0 hk]; exact ⟨hr, rfl⟩))))
  have n0 : ¬ o.kind = 0 := by simpa using g
  refine xif (fun g => ?_) (fun g => ?_)
  · have hk : o.kind = 1 := by simpa using g
    refine xget (h := ?_)
    refine xcl (Sync_spec p m o.name) rdb ?_
    rintro ⟨r, _⟩ _ ⟨hr, rfl⟩
    exact app1 (ca1 (xdrop 1 (xret (by rw [runM1 hk]; exact ⟨hr, rfl⟩))))
  have n1 : ¬ o.kind = 1 := by simpa using g
  refine xif (fun g => ?_) (fun g => ?_)
  · have hk : o.kind = 2 := by simpa using g
    refine xget (h := xget (h := ?_))
    refine xcl (Truncate_spec p m o.name o.n) rdb ?_
    rintro ⟨r, _⟩ _ ⟨hr, rfl⟩
    exact app1 (ca1 (xdrop 1 (xret (by rw [runM2 hk]; exact ⟨hr, rfl⟩))))
  have n2 : ¬ o.kind = 2 := by simpa using g
  refine xif (fun g => ?_) (fun g => ?_)
  · have hk : o.kind = 3 := by simpa using g
    refine xget (h := xget (h := ?_))
    refine xcl (Rename_spec p m o.name o.to) rdb ?_
    rintro ⟨r, _⟩ _ ⟨hr, rfl⟩
    exact app1 (ca1 (xdrop 1 (xret (by rw [runM3 hk]; exact ⟨hr, rfl⟩))))
  have n3 : ¬ o.kind = 3 := by simpa using g
  refine xif (fun g => ?_) (fun g => ?_)
  · have hk : o.kind = 4 := by simpa using g
    refine xget (h := ?_)
    refine xcl (Remove_spec p m o.name) rdb ?_
    rintro ⟨r, _⟩ _ ⟨hr, rfl⟩
    exact app1 (ca1 (xdrop 1 (xret (by rw [runM4 hk]; exact ⟨hr, rfl⟩))))
  have n4 : ¬ o.kind = 4 := by simpa using g
  refine xjoin (xif (fun g => ?_) (fun g => ?_))
  · have hk : o.kind = 5 := by simpa using g
    refine xfact 1 (fun g hg => (by obtain ⟨_, b, _, _, h, _⟩ := hg; exact ⟨b, h⟩ : ∃ b, p = some ⟨b, 0, none⟩)) fun hp => ?_
    obtain ⟨b', rfl⟩ := hp
    refine xdraw (xnil (xget (h := ?_)))
    refine xcl (Arm_spec (some ⟨b', 0, none⟩) m o.n hn) rdb ?_
    rintro _ _ rfl
    exact app1 (ca0 (xdrop 1 (xret (by rw [runM5 hk]; exact ⟨rfl, rfl⟩))))
  have n5 : ¬ o.kind = 5 := by simpa using g
  refine xjoin (xif (fun g => ?_) (fun g => ?_))
  · have hk : o.kind = 6 := by simpa using g
    refine xget (h := ?_)
    refine xcl (Wake_spec p m o.n) rdb ?_
    rintro _ _ rfl
    exact app1 (ca0 (xdrop 1 (xret (by rw [runM6 hk]; exact ⟨rfl, rfl⟩))))
  have n6 : ¬ o.kind = 6 := by simpa using g
  exact xdrop 0 (xret (by rw [runM7 n0 n1 n2 n3 n4 n5 n6]; exact ⟨rfl, rfl⟩))

theorem SameTexts_spec (a b : Sl) (xs ys : List ByteArray) (hm : xs.length ≤ 140737488355328) :
    Ct Pr F_kit_SameTexts [a.v, b.v] .one [.bool] [] ((RAr ST a xs).and (RAr ST b ys)) (fun t Bs => t.1 = decide (xs = ys) ∧ Bs = []) := by
  refine spec1 c_kit_SameTexts fun B hr => ?_
  have fa : Fro B a ST xs := ⟨hr.1⟩
  have fb : Fro B b ST ys := ⟨hr.2⟩
  have ha := hr.1.1
  have hb := hr.2.1
  unfold kit_SameTexts
  refine xif (fun h => ?_) (fun h => ?_)
  · refine xret ⟨?_, rfl⟩
    have : xs ≠ ys := fun e => by subst e; simp [← ha, ← hb] at h
    simp [this]
  · have hl : xs.length = ys.length := by simp at h; omega
    refine xloop1 (fun n i As => ∃ k : Nat, i = (k : Int) ∧ n = xs.length - k ∧ k ≤ xs.length ∧ xs.take k = ys.take k ∧ As = []) xs.length ⟨0, rfl, rfl, by omega, rfl, rfl⟩ ?_
    rintro n _ _ K ⟨k, rfl, rfl, hk, he, rfl⟩ hK
    refine xif_dec (fun h => ?_) (fun h => ?_)
    · refine xdraw (xidxn rfl (by omega) fun x hx => xgetE hx rfl rfl (xidxn rfl (by omega) fun y hy => xgetE hy rfl rfl ?_))
      refine xif (fun h => ?_) (fun h => ?_)
      · refine xret ⟨?_, rfl⟩
        have : xs ≠ ys := fun e => by subst e; rw [hx] at hy; cases hy; simp at h
        simp [this]
      · rw [wrap_succ k (by omega)]
        refine hK (xs.length - (k + 1)) _ _ (by omega) ⟨k + 1, rfl, rfl, by omega, ?_, rfl⟩
        have : x = y := ba_toList_inj (by simpa using h)
        rw [List.take_add_one, List.take_add_one, he, hx, hy, this]
    · refine xret ⟨?_, rfl⟩
      have : k = xs.length := by omega
      subst this
      rw [List.take_length, hl, List.take_length] at he
      simp [he]

end Go.Cx
