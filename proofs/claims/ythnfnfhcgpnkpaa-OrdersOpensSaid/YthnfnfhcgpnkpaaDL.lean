/-
  DeviceLasts.
-/
import Derived.Test.YthnfnfhcgpnkpaaDK
namespace Go.Cx
open Go Go.Cf
set_option linter.unusedVariables false
variable {B : Base} {As : List HP}

abbrev logN : ByteArray := ⟨#[108, 111, 103]⟩

/-- One file, or none. -/
def LI (m : DM) (all : List UInt8) (sy : Int) : Prop := (m.fs = [] ∧ all = [] ∧ sy = 0) ∨ m.fs = [⟨logN, all, sy⟩]

theorem append_yes {m : DM} {nm : ByteArray} {b : List UInt8} (h : (appendM m nm b).2 = 0) :
    (appendM m nm b).1.fs = (withF m nm).set (findL m.fs nm.toList) { ((withF m nm).getD (findL m.fs nm.toList) ⟨nm, [], 0⟩) with b := ((withF m nm).getD (findL m.fs nm.toList) ⟨nm, [], 0⟩).b ++ b } := by
  revert h
  unfold appendM
  split
  · intro h; simp at h
  split
  · intro h; simp at h
  split
  · intro h; simp at h
  split
  · intro h; simp at h
  · intro _; rfl

theorem append_no {m : DM} {nm : ByteArray} {b : List UInt8} (h : (appendM m nm b).2 ≠ 0) : (appendM m nm b).1.fs = m.fs := by
  revert h
  unfold appendM
  split
  · intro _; rfl
  split
  · intro _; rfl
  split
  · intro _; rfl
  split
  · intro _; exact (spendM_fs m).1
  · intro h; exact absurd rfl h

theorem LI.append {m : DM} {all : List UInt8} {sy : Int} (h : LI m all sy) (row : List UInt8) : ((appendM m logN row).2 = 0 → LI (appendM m logN row).1 (all ++ row) sy) ∧ ((appendM m logN row).2 ≠ 0 → LI (appendM m logN row).1 all sy) := by
  refine ⟨fun h0 => ?_, fun h0 => ?_⟩
  · right
    rw [append_yes h0]
    rcases h with ⟨h1, rfl, rfl⟩ | h1
    · simp [withF, h1, thereL, findL, insL]
    · simp [withF, h1, thereL, findL, lt_irrefl, DF.key]
  · unfold LI
    rw [append_no h0]
    exact h

theorem LI.sync {m : DM} {all : List UInt8} {sy : Int} (h : LI m all sy) : ((syncM m logN).2 = 0 → LI (syncM m logN).1 all all.length) ∧ ((syncM m logN).2 ≠ 0 → LI (syncM m logN).1 all sy) := by
  have hsp := (spendM_fs m).1
  rcases h with ⟨h1, rfl, rfl⟩ | h1
  · have hno : thereL m.fs logN.toList = false := by simp [h1, thereL]
    have e : (syncM m logN).1 = m ∧ (syncM m logN).2 ≠ 0 := by
      unfold syncM onFile
      rw [hno]
      cases m.down <;> simp
    rw [e.1]
    exact ⟨fun h => absurd h e.2, fun _ => .inl ⟨h1, rfl, rfl⟩⟩
  · have hf : findL m.fs logN.toList = 0 := by simp [h1, findL, lt_irrefl, DF.key]
    have ht : thereL m.fs logN.toList = true := by simp [h1, thereL, DF.key, findL, lt_irrefl]
    cases hd : m.down with
    | true =>
      have e : syncM m logN = (m, 10) := by simp [syncM, onFile_down hd]
      rw [e]
      exact ⟨fun h => by simp at h, fun _ => .inr h1⟩
    | false =>
      unfold syncM
      rw [onFile_ok hd ht, hf]
      cases hs : (spendM m).2 with
      | true =>
        rw [spent_ok hs]
        refine ⟨fun _ => .inr ?_, fun h => absurd rfl h⟩
        simp [hsp, h1]
      | false =>
        rw [spent_no hs]
        refine ⟨fun h => by simp at h, fun _ => .inr ?_⟩
        rw [hsp, h1]

theorem LI.read_some {m : DM} {all : List UInt8} {sy : Int} (h : m.fs = [⟨logN, all, sy⟩]) : readM m logN = (all, 0) := by
  simp [readM, thereL, findL, h, lt_irrefl, DF.key]
theorem LI.read_none {m : DM} (h : m.fs = []) : readM m logN = ([], 6) := by
  simp [readM, thereL, h]

theorem LI.short {m : DM} {all : List UInt8} {sy : Int} (hi : DInv m) (h : LI m all sy) : all.length ≤ 16777216 ∧ 0 ≤ sy ∧ sy ≤ all.length := by
  have h2 := hi.used
  have h3 := hi.room
  rcases h with ⟨_, rfl, rfl⟩ | h1
  · simp
  · have h4 := hi.syn ⟨logN, all, sy⟩ (by rw [h1]; simp)
    rw [h1] at h2
    simp [usedN] at h2 h4
    omega

end Go.Cx
