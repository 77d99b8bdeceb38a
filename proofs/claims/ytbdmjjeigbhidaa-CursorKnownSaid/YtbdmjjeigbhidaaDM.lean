/-
  Slices of bool, read out of a form.
-/
import Derived.Test.YtbdmjjeigbhidaaDL
namespace Go.Cx
open Go Go.Cf Go.ChangeShapes Go.WideShapes Go.Deep
set_option linter.unusedVariables false
set_option maxRecDepth 100000
section
variable {H : Type} {enc : TypeId × Value → H} {w : World} {base : Nat} {held : Bool}

theorem opens_bool {P : Program} {t : TypeId} (ht : P.underlying t = some .bool) : Opens enc P w base held t BL (fun a b => a = b) := by
  intro fuel cs x hx
  obtain ⟨s, hcs, _⟩ := DataW.trod_bool ht hx
  exact ⟨s, s, hcs, rfl⟩

theorem bools_of_trod {fuel : Nat} {a : Option Addr} {n c : Nat} {x : DataW H × List MemPlace}
    (h : DataW.trod enc Pr w base (fun _ => true) held fuel 43 [.slice a n c] = some x) : ∃ s ss, [Value.slice a n c] = SL.f s ∧ RAr BL s ss (mem w) := by
  obtain ⟨s, ys, h1, h2, os, h3, h4, h5⟩ := opens_slice (E := BL) (P := Pr) (R := fun o m => o = m) (t := 43) (e := 4) (by kernel_rfl) (by kernel_rfl) (opens_bool (by kernel_rfl)) fuel _ x h
  exact ⟨s, os, h1, h3⟩
end
end Go.Cx
