/-
  A store as it comes in.
-/
import Derived.Test.YtifochbabgjhpaaGreatDoorHX
import Derived.Test.YtifochbabgjhpaaGreatDoorEV
import Derived.Test.YtifochbabgjhpaaGreatDoorCfY
namespace Go.Cx
open Go Go.Cf Go.RowKit Go.ChangeShapes Go.WideShapes Go.Deep
set_option linter.unusedVariables false
set_option maxRecDepth 100000
section
variable {H : Type} {enc : TypeId × Value → H} {w : World} {base : Nat} {held : Bool}
theorem c32 : Pr.cellsOf 32 = 1 := by kernel_rfl
theorem c33 : Pr.cellsOf 33 = 1 := by kernel_rfl
theorem slice1 {fuel : Nat} {t e : TypeId} {v : Value} {x : DataW H × List MemPlace} (ht : Pr.underlying t = some (.slice e)) (h : DataW.trod enc Pr w base (fun _ => true) held fuel t [v] = some x) : ∃ s : Sl, v = s.v := by
  rcases DataW.trod_slice ht h with ⟨h1, _⟩ | ⟨a, n, c, _, _, _, _, h1, _⟩
  · exact ⟨⟨none, 0, 0⟩, by simpa using h1⟩
  · exact ⟨⟨some a, n, c⟩, by simpa using h1⟩
theorem store1 {fuel : Nat} {cs : List Value} {x : DataW H × List MemPlace} (h : DataW.trod enc Pr w base (fun _ => true) held fuel 35 cs = some x) : ∃ (s0 s2 : Sl) (to : Int) (rows : List (List UInt8)), cs = [s0.v, .int .i64 to, s2.v] ∧ RRows s0 rows (mem w) := by
  obtain ⟨xs, n, _, _, hlen, hxs, hf⟩ := DataW.trod_struct Go.Proofs.Tryz.underlying35 h
  have ce : Pr.cellsOf 35 = 3 := by kernel_rfl
  rw [ce] at hlen
  match xs, hxs, cs, hlen with
  | [y0, y1, y2], _, [v0, v1, v2], _ =>
    have g0 := hf 0 _ rfl
    have g1 := hf 1 _ rfl
    have g2 := hf 2 _ rfl
    simp [c3, c32, c33] at g0 g1 g2
    obtain ⟨s0, rfl⟩ := slice1 (e := 78) (by kernel_rfl) g0
    obtain ⟨a1, rfl⟩ := int1 g1
    obtain ⟨s2, rfl⟩ := slice1 (e := 55) (by kernel_rfl) g2
    obtain ⟨rows, hr⟩ := rows_of_trod (s := s0) (e := 78) (q := 5) (by kernel_rfl) (by kernel_rfl) (by kernel_rfl) (by kernel_rfl) (by kernel_rfl) g0
    exact ⟨s0, s2, a1, rows, rfl, hr⟩
end
end Go.Cx
