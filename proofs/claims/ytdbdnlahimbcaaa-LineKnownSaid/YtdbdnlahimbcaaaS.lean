/-
  How a list of calls is read; in how many bits rows are apart.
-/
import Derived.Test.YtdbdnlahimbcaaaR
import Derived.Test.YtdbdnlahimbcaaaCfZ
namespace Go.Cx
open Go Go.Cf Go.ChangeShapes Go.WideShapes Go.Deep
set_option linter.unusedVariables false

instance : Inhabited MOp := ⟨⟨0, 0, 0, []⟩⟩

section
variable {H : Type} {enc : TypeId × Value → H} {w : World} {base : Nat} {held : Bool}

theorem opens_op {f0 f1 f2 f3 : Field} (he : Pr.underlying T_outstationlaw20_Op = some (.struct #[f0, f1, f2, f3])) (ce : Pr.cellsOf T_outstationlaw20_Op = 4) (o0 : f0.offset = 0) (o1 : f1.offset = 1) (o2 : f2.offset = 2) (o3 : f3.offset = 3)
    (c0 : Pr.cellsOf f0.type = 1) (c1 : Pr.cellsOf f1.type = 1) (c2 : Pr.cellsOf f2.type = 1) (c3 : Pr.cellsOf f3.type = 1)
    (u0 : Pr.underlying f0.type = some (.int .i64)) (u1 : Pr.underlying f1.type = some (.int .i64)) (u2 : Pr.underlying f2.type = some (.int .i64)) {e3 : TypeId} (u3 : Pr.underlying f3.type = some (.slice e3)) (u4 : Pr.underlying e3 = some (.int .u8)) (c4 : Pr.cellsOf e3 = 1) :
    Opens enc Pr w base held T_outstationlaw20_Op OP (fun o (m : MOp) => OpOk o m (mem w)) := by
  intro fuel cs x hx
  obtain ⟨xs, n, _, _, hlen, hxs, hf⟩ := DataW.trod_struct he hx
  rw [ce] at hlen
  match xs, hxs, cs, hlen with
  | [y0, y1, y2, y3], _, [v0, v1, v2, v3], _ =>
    have g0 := hf 0 f0 rfl
    have g1 := hf 1 f1 rfl
    have g2 := hf 2 f2 rfl
    have g3 := hf 3 f3 rfl
    simp [o0, o1, o2, o3, c0, c1, c2, c3] at g0 g1 g2 g3
    obtain ⟨a0, _, h0, rfl, r0⟩ := opens_i64 u0 _ _ _ g0
    obtain ⟨a1, _, h1, rfl, r1⟩ := opens_i64 u1 _ _ _ g1
    obtain ⟨a2, _, h2, rfl, r2⟩ := opens_i64 u2 _ _ _ g2
    obtain ⟨s, bs, h3, _, r3⟩ := opens_bytes u3 u4 c4 _ _ _ g3
    obtain rfl : v0 = .int .i64 a0 := by simpa [I64] using h0
    obtain rfl : v1 = .int .i64 a1 := by simpa [I64] using h1
    obtain rfl : v2 = .int .i64 a2 := by simpa [I64] using h2
    obtain rfl : v3 = s.v := by simpa [SL] using h3
    exact ⟨(a0, a1, a2, s), ⟨a0, a1, a2, bs⟩, rfl, rfl, rfl, rfl, r0, r1, r2, r3⟩
end

end Go.Cx
namespace Go.Cx
open Go Go.Cf Go.ChangeShapes Go.WideShapes Go.Deep
theorem ops_of_trod {H : Type} {enc : TypeId × Value → H} {w : World} {base : Nat} {held : Bool} {fuel : Nat} {a : Option Addr} {n c : Nat} {x : DataW H × List MemPlace}
    (h : DataW.trod enc Pr w base (fun _ => true) held fuel 34 [.slice a n c] = some x) : ∃ s ops, [Value.slice a n c] = SL.f s ∧ ROps s ops (mem w) := by
  obtain ⟨s, ops, h1, h2, os, h3, h4, h5⟩ := opens_slice (E := OP) (P := Pr) (R := fun o (m : MOp) => OpOk o m (mem w)) (t := 34) (e := T_outstationlaw20_Op) (by kernel_rfl) (by kernel_rfl)
    (opens_op Go.Proofs.Try.underlying49 (by kernel_rfl) (by rfl) (by rfl) (by rfl) (by rfl) (by kernel_rfl) (by kernel_rfl) (by kernel_rfl) (by kernel_rfl) (by kernel_rfl) (by kernel_rfl) (by kernel_rfl) (e3 := 5) (by kernel_rfl) (by kernel_rfl) (by kernel_rfl)) fuel _ x h
  exact ⟨s, ops, h1, h2, os, h3, h4, h5⟩
end Go.Cx
