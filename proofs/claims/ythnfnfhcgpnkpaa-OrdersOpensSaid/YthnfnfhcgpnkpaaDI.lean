/-
  DeviceRoom, DeviceRenamed.
-/
import Derived.Test.YthnfnfhcgpnkpaaDH
namespace Go.Cx
open Go Go.Cf Go.ChangeShapes Go.WideShapes Go.Deep
set_option linter.unusedVariables false
set_option maxRecDepth 100000
variable {B : Base} {As : List HP}

section
variable {H : Type} {enc : TypeId × Value → H} {w : World} {base : Nat} {held : Bool}

theorem opens_str {P : Program} {t : TypeId} (ht : P.underlying t = some .string) : Opens enc P w base held t ST (fun a b => a = b) := by
  intro fuel cs x hx
  obtain ⟨s, hcs, _⟩ := DataW.trod_string ht hx
  exact ⟨s, s, hcs, rfl⟩

end

theorem spent_room {m : DM} {g : DM → DM} (hg : ∀ m, (g m).room = m.room) : (spent m g).1.room = m.room := by
  unfold spent
  split
  · exact (spendM_fs m).2
  · simp only [hg]; exact (spendM_fs m).2

theorem onFile_room {m : DM} {nm : ByteArray} {g : Nat → DF → DM → DM × Int} (hg : ∀ i f, (g i f m).1.room = m.room) : (onFile m nm g).1.room = m.room := by
  unfold onFile
  split
  · rfl
  split
  · rfl
  · exact hg _ _

theorem runM_room (m : DM) (o : DOp) : (runM m o).1.room = m.room := by
  unfold runM
  split
  · unfold appendM
    split
    · rfl
    split
    · rfl
    split
    · rfl
    split
    · exact (spendM_fs m).2
    · exact (spendM_fs m).2
  split
  · exact onFile_room fun _ _ => spent_room fun _ => rfl
  split
  · refine onFile_room fun _ _ => ?_
    split
    · rfl
    · exact spent_room fun _ => rfl
  split
  · unfold renameM
    split
    · rfl
    · exact onFile_room fun _ _ => spent_room fun _ => rfl
  split
  · exact onFile_room fun _ _ => spent_room fun _ => rfl
  split
  · rfl
  split
  · rfl
  · rfl

theorem read_at {m : DM} (h : Sorted m.fs) {i : Nat} {f : DF} (hf : m.fs[i]? = some f) : readM m f.nm = (f.b, 0) := by
  obtain ⟨h1, h2⟩ := find_unique h hf rfl
  unfold readM
  simp only [DF.key] at h1 h2
  rw [h1, h2]
  simp [hf]

end Go.Cx
