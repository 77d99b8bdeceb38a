/-
  A record as it comes in; what the listed variables give.
-/
import Derived.Test.YtifochbabgjhpaaGreatDoorHC
import Derived.Test.YtifochbabgjhpaaGreatDoorCfZ
import Derived.OpenShut
import Derived.WalkKit
import Derived.ProofKit
import Derived.Lib.LaidTab
import Derived.LaidLaws
namespace Go.Cx
open Go Go.Cf Go.RowKit Go.ChangeShapes Go.WideShapes Go.Deep
set_option linter.unusedVariables false
set_option maxRecDepth 100000
section
variable {α : Type} {H : Type} {enc : TypeId × Value → H} {P : Program} {w : World} {base : Nat} {held : Bool}

theorem opens_str {t : TypeId} (ht : P.underlying t = some .string) : Opens enc P w base held t Cf.ST (fun a b => a = b) := by
  intro fuel cs x hx
  obtain ⟨s, hcs, _⟩ := DataW.trod_string ht hx
  exact ⟨s, s, hcs, rfl⟩
theorem opens_int {t : TypeId} (ht : P.underlying t = some (.int .i64)) : Opens enc P w base held t I64 (fun a b => a = b) := by
  intro fuel cs x hx
  obtain ⟨a, b, h1, h2, _⟩ := opens_i64 ht fuel cs x hx
  exact ⟨a, b, h1, h2⟩
theorem c3 : Pr.cellsOf 3 = 1 := by kernel_rfl
theorem c9 : Pr.cellsOf 9 = 1 := by kernel_rfl
theorem int1 {fuel : Nat} {v : Value} {x : DataW H × List MemPlace} (h : DataW.trod enc Pr w base (fun _ => true) held fuel 3 [v] = some x) : ∃ a : Int, v = .int .i64 a := by
  obtain ⟨a, _, h1, rfl⟩ := opens_int (P := Pr) (t := 3) (by kernel_rfl) _ _ _ h
  exact ⟨a, by simpa [I64] using h1⟩
theorem str1 {fuel : Nat} {v : Value} {x : DataW H × List MemPlace} (h : DataW.trod enc Pr w base (fun _ => true) held fuel 9 [v] = some x) : ∃ a : ByteArray, v = .string a := by
  obtain ⟨a, _, h1, rfl⟩ := opens_str (P := Pr) (t := 9) (by kernel_rfl) _ _ _ h
  exact ⟨a, by simpa [Cf.ST] using h1⟩

theorem rec1 {fuel : Nat} {cs : List Value} {x : DataW H × List MemPlace} (h : DataW.trod enc Pr w base (fun _ => true) held fuel 23 cs = some x) : ∃ r : RE, cs = r.cells := by
  obtain ⟨xs, n, _, _, hlen, hxs, hf⟩ := DataW.trod_struct Go.Proofs.Tryz.underlying23 h
  have ce : Pr.cellsOf 23 = 5 := by kernel_rfl
  rw [ce] at hlen
  match xs, hxs, cs, hlen with
  | [y0, y1, y2, y3, y4], _, [v0, v1, v2, v3, v4], _ =>
    have g0 := hf 0 _ rfl
    have g1 := hf 1 _ rfl
    have g2 := hf 2 _ rfl
    have g3 := hf 3 _ rfl
    have g4 := hf 4 _ rfl
    simp [c3, c9] at g0 g1 g2 g3 g4
    obtain ⟨a0, rfl⟩ := int1 g0
    obtain ⟨a1, rfl⟩ := int1 g1
    obtain ⟨a2, rfl⟩ := str1 g2
    obtain ⟨a3, rfl⟩ := int1 g3
    obtain ⟨a4, rfl⟩ := int1 g4
    exact ⟨⟨a0, a1, a2, a3, a4⟩, rfl⟩
end

theorem tabType : (Pr.globals[0]?).map (·.type) = some 259 := by kernel_rfl
theorem cU : Pr.cellsOf 113 = 1 := by kernel_rfl
theorem cA : Pr.cellsOf 259 = 20 := by kernel_rfl
theorem GTab_of {W : World} (h : Lib.TabIs Pr W "internal/strconv.uint64pow10" .u64 Lib.pow10Tab) : GTab (mem W) := by
  unfold Lib.TabIs World.var? at h
  rw [globTab] at h
  simp only [Option.bind_some] at h
  show ∃ e fr, W.heap[_]? = some _
  split at h
  · rename_i cs e fr hh
    obtain rfl := Option.some.inj h
    exact ⟨e, fr, hh⟩
  · cases h
theorem GTab_of_laid {W : World} {a b : String × DataW Unit} {rest : List (String × DataW Unit)} (h : laidMet Pr (a :: b :: ("internal/strconv.uint64pow10", Lib.tabData .u64 Lib.pow10Tab) :: rest) W) : GTab (mem W) := by
  obtain ⟨ps, hv, _⟩ := h
  obtain ⟨n1, d1⟩ := a
  obtain ⟨n2, d2⟩ := b
  obtain ⟨g1, t1, cs1, fu1, p1, q1, hg1, ht1, hvar1, hd1, hv2, _⟩ := hv
  obtain ⟨g2, t2, cs2, fu2, p2, q2, hg2, ht2, hvar2, hd2, hv3, _⟩ := hv2
  obtain ⟨g3, t3, cs3, fu3, p3, q3, hg3, ht3, hvar3, hd3, _, _⟩ := hv3
  obtain rfl := Option.some.inj (globTab.symm.trans hg3)
  obtain rfl := Option.some.inj (tabType.symm.trans ht3)
  refine GTab_of ?_
  unfold Lib.TabIs
  rw [hvar3]
  have := Lib.cells_of_tab (by kernel_rfl : Pr.underlying 259 = some (.array 20 113)) (by kernel_rfl : Pr.underlying 113 = some (.int .u64)) cU cA hd3
  rw [← this]

end Go.Cx
