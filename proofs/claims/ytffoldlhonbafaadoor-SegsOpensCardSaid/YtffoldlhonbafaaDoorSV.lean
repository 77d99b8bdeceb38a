/-
  Arguments read; what the listed variables give.
-/
import Derived.Test.YtffoldlhonbafaaDoorSU
import Derived.Test.YtffoldlhonbafaaDoorCfZ
import Derived.Lib.LaidTab
import Derived.LaidLaws
namespace Go.Cx
open Go Go.Cf Go.RowKit Go.ChangeShapes Go.WideShapes Go.Deep
set_option linter.unusedVariables false
set_option maxRecDepth 100000
section
variable {H : Type} {enc : TypeId × Value → H} {w : World} {base : Nat} {held : Bool}

theorem opens_bool {P : Program} {t : TypeId} (ht : P.underlying t = some .bool) : Opens enc P w base held t BL (fun a b => a = b) := by
  intro fuel cs x hx
  obtain ⟨s, hcs, _⟩ := DataW.trod_bool ht hx
  exact ⟨s, s, hcs, rfl⟩
theorem bools_of_trod {fuel : Nat} {a : Option Addr} {n c : Nat} {x : DataW H × List MemPlace}
    (h : DataW.trod enc Pr w base (fun _ => true) held fuel 43 [.slice a n c] = some x) : ∃ s ss, [Value.slice a n c] = SL.f s ∧ RAr BL s ss (mem w) := by
  obtain ⟨s, ys, h1, h2, os, h3, h4, h5⟩ := opens_slice (E := BL) (P := Pr) (R := fun o m => o = m) (t := 43) (e := 4) (by kernel_rfl) (by kernel_rfl) (opens_bool (by kernel_rfl)) fuel _ x h
  exact ⟨s, os, h1, h3⟩
theorem ints_of_trod {fuel : Nat} {a : Option Addr} {n c : Nat} {x : DataW H × List MemPlace}
    (h : DataW.trod enc Pr w base (fun _ => true) held fuel 53 [.slice a n c] = some x) : ∃ s ys, [Value.slice a n c] = SL.f s ∧ RAr I64 s ys (mem w) ∧ ∀ y ∈ ys, i64 y := by
  obtain ⟨s, ys, h1, h2, os, h3, h4, h5⟩ := opens_slice (E := I64) (P := Pr) (R := fun a b => a = b ∧ -9223372036854775808 ≤ a ∧ a ≤ 9223372036854775807) (t := 53) (e := 3) (by kernel_rfl) (by kernel_rfl) (opens_i64 (P := Pr) (t := 3) (by kernel_rfl)) fuel _ x h
  refine ⟨s, os, h1, h3, fun y hy => ?_⟩
  obtain ⟨i, hi, rfl⟩ := List.getElem_of_mem hy
  exact (h5 i _ _ (List.getElem?_eq_getElem hi) (List.getElem?_eq_getElem (by omega))).2
end

theorem tabType : (Pr.globals[0]?).map (·.type) = some 129 := by kernel_rfl
theorem cU : Pr.cellsOf 90 = 1 := by kernel_rfl
theorem cA : Pr.cellsOf 129 = 20 := by kernel_rfl
theorem GTab_of {W : World} (h : Lib.TabIs Pr W "internal/strconv.uint64pow10" .u64 Lib.pow10Tab) : GTab (mem W) := by
  unfold Lib.TabIs World.var? at h
  rw [globTab] at h
  simp only [Option.bind_some] at h
  show ∃ e fr, W.heap[_]? = some _
  split at h
  · rename_i cs e fr hh
    obtain rfl := Option.some.inj h
    exact ⟨e, fr, hh⟩
  · cases h
theorem GTab_of_laid {W : World} {a b : String × DataW Unit} {rest : List (String × DataW Unit)} (h : laidMet Pr (a :: b :: ("internal/strconv.uint64pow10", Lib.tabData .u64 Lib.pow10Tab) :: rest) W) : GTab (mem W) := by
  obtain ⟨ps, hv, _⟩ := h
  obtain ⟨n1, d1⟩ := a
  obtain ⟨n2, d2⟩ := b
  obtain ⟨g1, t1, cs1, fu1, p1, q1, hg1, ht1, hvar1, hd1, hv2, _⟩ := hv
  obtain ⟨g2, t2, cs2, fu2, p2, q2, hg2, ht2, hvar2, hd2, hv3, _⟩ := hv2
  obtain ⟨g3, t3, cs3, fu3, p3, q3, hg3, ht3, hvar3, hd3, _, _⟩ := hv3
  obtain rfl := Option.some.inj (globTab.symm.trans hg3)
  obtain rfl := Option.some.inj (tabType.symm.trans ht3)
  refine GTab_of ?_
  unfold Lib.TabIs
  rw [hvar3]
  have := Lib.cells_of_tab (by kernel_rfl : Pr.underlying 129 = some (.array 20 90)) (by kernel_rfl : Pr.underlying 90 = some (.int .u64)) cU cA hd3
  rw [← this]

end Go.Cx
