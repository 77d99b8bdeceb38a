/-
  Calls of a device that are done one behind the other.
-/
import Derived.Test.YthnfnfhcgpnkpaaDF
namespace Go.Cx
open Go Go.Cf Go.ChangeShapes Go.WideShapes Go.Deep
set_option linter.unusedVariables false
variable {B : Base} {As : List HP}

structure DOp where
  kind : Int
  name : ByteArray
  to : ByteArray
  data : List UInt8
  n : Int
instance : Inhabited DOp := ⟨⟨0, ByteArray.empty, ByteArray.empty, [], 0⟩⟩

abbrev COp := Int × ByteArray × ByteArray × Sl × Int
def OP : Enc COp := ⟨fun x => [.int .i64 x.1, .string x.2.1, .string x.2.2.1, x.2.2.2.1.v, .int .i64 x.2.2.2.2], 5, fun _ => rfl, fun x v h => by simp at h; rcases h with rfl | rfl | rfl | rfl | rfl <;> rfl, by decide, (0, ByteArray.empty, ByteArray.empty, ⟨none, 0, 0⟩, 0)⟩

def OpOk (o : COp) (m : DOp) (h : Frag) : Prop := o.1 = m.kind ∧ o.2.1 = m.name ∧ o.2.2.1 = m.to ∧ o.2.2.2.2 = m.n ∧ i64 m.kind ∧ i64 m.n ∧ RAr U8 o.2.2.2.1 m.data h
def ROps (s : Sl) (ops : List DOp) : HP := fun h => s.n ≤ s.c ∧ ∃ os : List COp, RAr OP s os h ∧ os.length = ops.length ∧ ∀ (i : Nat) (o : COp) (m : DOp), os[i]? = some o → ops[i]? = some m → OpOk o m h

theorem OpOk.mono {o : COp} {m : DOp} {h g : Frag} (hr : OpOk o m h) (hs : Sub h g) : OpOk o m g :=
  ⟨hr.1, hr.2.1, hr.2.2.1, hr.2.2.2.1, hr.2.2.2.2.1, hr.2.2.2.2.2.1, hr.2.2.2.2.2.2.mono hs⟩
theorem ROps.mono {s : Sl} {ops : List DOp} {h g : Frag} (hr : ROps s ops h) (hs : Sub h g) : ROps s ops g := by
  obtain ⟨h0, os, h1, h2, h3⟩ := hr
  exact ⟨h0, os, h1.mono hs, h2, fun i o m a b => (h3 i o m a b).mono hs⟩

def shortB (m : DOp) : Bool := decide (m.data.length ≤ 4096) && decide (m.name.size ≤ 4096) && decide (m.to.size ≤ 4096)
def longB (ops : List DOp) : Bool := decide (200 < ops.length) || ops.any fun m => !(shortB m)

theorem long_false {ops : List DOp} (h : longB ops = false) : ops.length ≤ 200 ∧ ∀ m ∈ ops, shortB m = true := by
  simp only [longB, Bool.or_eq_false_iff, decide_eq_false_iff_not] at h
  refine ⟨by omega, fun m hm => ?_⟩
  have := List.any_eq_false.1 h.2 m hm
  simpa using this

/-- One call, as a law of lists. -/
def runM (m : DM) (o : DOp) : DM × Int :=
  if o.kind = 0 then appendM m o.name o.data
  else if o.kind = 1 then syncM m o.name
  else if o.kind = 2 then truncM m o.name o.n
  else if o.kind = 3 then renameM m o.name o.to
  else if o.kind = 4 then removeM m o.name
  else if o.kind = 5 then (armM m o.n, 0)
  else if o.kind = 6 then (wakeM m o.n, 0)
  else (m, 0)

theorem runM0 {m : DM} {o : DOp} (h : o.kind = 0) : runM m o = appendM m o.name o.data := by simp [runM, h]
theorem runM1 {m : DM} {o : DOp} (h : o.kind = 1) : runM m o = syncM m o.name := by simp [runM, h]
theorem runM2 {m : DM} {o : DOp} (h : o.kind = 2) : runM m o = truncM m o.name o.n := by simp [runM, h]
theorem runM3 {m : DM} {o : DOp} (h : o.kind = 3) : runM m o = renameM m o.name o.to := by simp [runM, h]
theorem runM4 {m : DM} {o : DOp} (h : o.kind = 4) : runM m o = removeM m o.name := by simp [runM, h]
theorem runM5 {m : DM} {o : DOp} (h : o.kind = 5) : runM m o = (armM m o.n, 0) := by simp [runM, h]
theorem runM6 {m : DM} {o : DOp} (h : o.kind = 6) : runM m o = (wakeM m o.n, 0) := by simp [runM, h]
theorem runM7 {m : DM} {o : DOp} (h0 : ¬ o.kind = 0) (h1 : ¬ o.kind = 1) (h2 : ¬ o.kind = 2) (h3 : ¬ o.kind = 3) (h4 : ¬ o.kind = 4) (h5 : ¬ o.kind = 5) (h6 : ¬ o.kind = 6) : runM m o = (m, 0) := by simp [runM, h0, h1, h2, h3, h4, h5, h6]

theorem run_inv {m : DM} (h : DInv m) {o : DOp} (hn : i64 o.n) : DInv (runM m o).1 := by
  unfold runM
  split
  · exact append_inv h _ _
  split
  · exact sync_inv h _
  split
  · exact trunc_inv h _ _
  split
  · exact rename_inv h _ _
  split
  · exact remove_inv h _
  split
  · exact arm_inv h hn
  split
  · exact wake_inv h _
  · exact h

theorem SameTexts_spec (a b : Sl) (xs ys : List ByteArray) (hm : xs.length ≤ 140737488355328) :
    Ct Pr F_kit_SameTexts [a.v, b.v] .one [.bool] [] ((RAr ST a xs).and (RAr ST b ys)) (fun t Bs => t.1 = decide (xs = ys) ∧ Bs = []) := by
  refine spec1 c_kit_SameTexts fun B hr => ?_
  have fa : Fro B a ST xs := ⟨hr.1⟩
  have fb : Fro B b ST ys := ⟨hr.2⟩
  have ha := hr.1.1
  have hb := hr.2.1
  unfold kit_SameTexts
  refine xif (fun h => ?_) (fun h => ?_)
  · refine xret ⟨?_, rfl⟩
    have : xs ≠ ys := fun e => by subst e; simp [← ha, ← hb] at h
    simp [this]
  · have hl : xs.length = ys.length := by simp at h; omega
    refine xloop1 (fun n i As => ∃ k : Nat, i = (k : Int) ∧ n = xs.length - k ∧ k ≤ xs.length ∧ xs.take k = ys.take k ∧ As = []) xs.length ⟨0, rfl, rfl, by omega, rfl, rfl⟩ ?_
    rintro n _ _ K ⟨k, rfl, rfl, hk, he, rfl⟩ hK
    refine xif_dec (fun h => ?_) (fun h => ?_)
    · refine xdraw (xidxn rfl (by omega) fun x hx => xgetE hx rfl rfl (xidxn rfl (by omega) fun y hy => xgetE hy rfl rfl ?_))
      refine xif (fun h => ?_) (fun h => ?_)
      · refine xret ⟨?_, rfl⟩
        have : xs ≠ ys := fun e => by subst e; rw [hx] at hy; cases hy; simp at h
        simp [this]
      · rw [wrap_succ k (by omega)]
        refine hK (xs.length - (k + 1)) _ _ (by omega) ⟨k + 1, rfl, rfl, by omega, ?_, rfl⟩
        have : x = y := ba_toList_inj (by simpa using h)
        rw [List.take_add_one, List.take_add_one, he, hx, hy, this]
    · refine xret ⟨?_, rfl⟩
      have : k = xs.length := by omega
      subst this
      rw [List.take_length, hl, List.take_length] at he
      simp [he]

end Go.Cx
