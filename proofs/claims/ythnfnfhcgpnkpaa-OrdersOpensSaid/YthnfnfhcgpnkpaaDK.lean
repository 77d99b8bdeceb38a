/-
  DeviceFails.
-/
import Derived.Test.YthnfnfhcgpnkpaaDJ
namespace Go.Cx
open Go Go.Cf
set_option linter.unusedVariables false
variable {B : Base} {As : List HP}

/-- What a call comes to: it is done, the power fails in its place, or it is refused. -/
def StepLaw (m : DM) (r : DM × Int) : Prop :=
  (r.2 = 0 ∧ m.down = false ∧ (spendM m).2 = true ∧ r.1.armed = (spendM m).1.armed ∧ r.1.down = (spendM m).1.down ∧ r.1.left = (spendM m).1.left) ∨
  (r.2 = 10 ∧ m.down = false ∧ (spendM m).2 = false ∧ r.1 = (spendM m).1) ∨
  (r.2 ≠ 0 ∧ r.1 = m ∧ (r.2 = 10 → m.down = true) ∧ (m.down = true → r.2 = 10 ∨ r.2 = 8))

theorem spent_law {m : DM} (hd : m.down = false) {g : DM → DM} (hg : ∀ m, (g m).armed = m.armed ∧ (g m).down = m.down ∧ (g m).left = m.left) : StepLaw m (spent m g) := by
  unfold spent
  cases hs : (spendM m).2 with
  | true =>
    obtain ⟨h1, h2, h3⟩ := hg (spendM m).1
    exact .inl ⟨rfl, hd, hs, h1, h2, h3⟩
  | false => exact .inr (.inl ⟨rfl, hd, hs, rfl⟩)

theorem onFile_law {m : DM} {nm : ByteArray} {g : Nat → DF → DM → DM × Int} (hg : m.down = false → ∀ i f, StepLaw m (g i f m)) : StepLaw m (onFile m nm g) := by
  unfold onFile
  cases hd : m.down with
  | true => exact .inr (.inr ⟨by show (10 : Int) ≠ 0; decide, rfl, fun _ => hd, fun _ => .inl rfl⟩)
  | false =>
    simp only [Bool.false_eq_true, if_false]
    split
    · exact .inr (.inr ⟨by show (6 : Int) ≠ 0; decide, rfl, fun h => by simp at h, fun h => by rw [hd] at h; cases h⟩)
    · exact hg hd _ _

theorem step_law (m : DM) (o : DOp) (h0 : 0 ≤ o.kind) (h4 : o.kind ≤ 4) : StepLaw m (runM m o) := by
  have refuse : ∀ e : Int, e ≠ 0 → e ≠ 10 → (m.down = true → e = 8) → StepLaw m (m, e) := fun e h1 h2 h3 => .inr (.inr ⟨h1, rfl, fun h => absurd h h2, fun h => .inr (h3 h)⟩)
  by_cases k0 : o.kind = 0
  · rw [runM0 k0]
    unfold appendM
    split
    · exact refuse 8 (by decide) (by decide) (fun _ => rfl)
    split
    · rename_i hd
      exact .inr (.inr ⟨by show (10 : Int) ≠ 0; decide, rfl, fun _ => hd, fun _ => .inl rfl⟩)
    rename_i hd
    have hd : m.down = false := by simpa using hd
    split
    · exact refuse 9 (by decide) (by decide) (fun h => by rw [hd] at h; cases h)
    split
    · rename_i hs
      exact .inr (.inl ⟨rfl, hd, by simpa using hs, rfl⟩)
    · rename_i hs
      exact .inl ⟨rfl, hd, by simpa using hs, rfl, rfl, rfl⟩
  by_cases k1 : o.kind = 1
  · rw [runM1 k1]
    exact onFile_law fun hd i f => spent_law hd fun _ => ⟨rfl, rfl, rfl⟩
  by_cases k2 : o.kind = 2
  · rw [runM2 k2]
    refine onFile_law fun hd i f => ?_
    split
    · exact refuse 3 (by decide) (by decide) (fun h => by rw [hd] at h; cases h)
    · exact spent_law hd fun _ => ⟨rfl, rfl, rfl⟩
  by_cases k3 : o.kind = 3
  · rw [runM3 k3]
    unfold renameM
    split
    · exact refuse 8 (by decide) (by decide) (fun _ => rfl)
    · exact onFile_law fun hd i f => spent_law hd fun _ => ⟨rfl, rfl, rfl⟩
  · rw [runM4 (show o.kind = 4 by omega)]
    exact onFile_law fun hd i f => spent_law hd fun _ => ⟨rfl, rfl, rfl⟩

theorem pick_use (z n : Int) (h : 1 ≤ n → 0 ≤ z ∧ z < n) (hn : 1 ≤ n) : 0 ≤ z ∧ z < n := h hn

end Go.Cx
