/-
  What the listed variables and the shape of the world give.
-/
import Derived.Test.YtncgenibaclejaaGreatDoorPF
import Derived.Shelf.Vars
namespace Go.Cx
open Go Go.Cf Go.RowKit Go.ChangeShapes Go.WideShapes Go.Deep
set_option linter.unusedVariables false
set_option maxRecDepth 100000

theorem GMax_of {W : World} (h : W.ShapedOpen Pr) : GMax (mem W) := by
  obtain ⟨m, hm⟩ := Go.Proofs.cell_of_shapedOpen_int (P := Pr) (g := 0) (t := 3) (zero := #[.int .i64 0]) h (of_decide_eq_true (by kernel_rfl)) (by kernel_rfl) rfl (by kernel_rfl) (by kernel_rfl) Go.Proofs.Tryz.underlying3
  unfold World.cell? at hm
  cases hh : W.heap[0]? with
  | none => rw [hh] at hm; cases hm
  | some o =>
    rw [hh] at hm
    cases o with
    | cells cs e fr =>
      refine ⟨cs.toList, e, fr, m, ?_, ?_⟩
      · show W.heap[0]? = _
        rw [hh]
      · simpa using hm
    | _ => simp at hm

end Go.Cx
