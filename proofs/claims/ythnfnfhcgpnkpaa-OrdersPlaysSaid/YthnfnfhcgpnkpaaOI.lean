/-
  How the arguments are read.
-/
import Derived.Test.YthnfnfhcgpnkpaaOH
namespace Go.Cx
open Go Go.Cf Go.ChangeShapes Go.WideShapes Go.Deep
set_option linter.unusedVariables false
set_option maxRecDepth 100000
variable {H : Type} {enc : TypeId × Value → H} {w : World} {base : Nat} {held : Bool}

theorem opens_act : Opens enc Pr w base held 67 ACT (fun o (m : AOp) => AOk o m (mem w)) := by
  intro fuel cs x hx
  obtain ⟨xs, n, _, _, hlen, hxs, hf⟩ := DataW.trod_struct Go.Proofs.Try.underlying67 hx
  have ce : Pr.cellsOf 67 = 4 := by kernel_rfl
  rw [ce] at hlen
  match xs, hxs, cs, hlen with
  | [y0, y1, y2, y3], _, [v0, v1, v2, v3], _ =>
    have c3 : Pr.cellsOf 3 = 1 := by kernel_rfl
    have c36 : Pr.cellsOf 36 = 1 := by kernel_rfl
    have g0 := hf 0 _ rfl
    have g1 := hf 1 _ rfl
    have g2 := hf 2 _ rfl
    have g3 := hf 3 _ rfl
    simp [c3, c36] at g0 g1 g2 g3
    obtain ⟨a0, _, h0, rfl, r0⟩ := opens_i64 (P := Pr) (t := 3) (by kernel_rfl) _ _ _ g0
    obtain ⟨a1, _, h1, rfl, r1⟩ := opens_i64 (P := Pr) (t := 3) (by kernel_rfl) _ _ _ g1
    obtain ⟨a2, _, h2, rfl, r2⟩ := opens_i64 (P := Pr) (t := 3) (by kernel_rfl) _ _ _ g2
    obtain ⟨s, bs, h3, _, r3⟩ := opens_bytes (P := Pr) (t := 36) (e := 5) (by kernel_rfl) (by kernel_rfl) (by kernel_rfl) _ _ _ g3
    obtain rfl : v0 = .int .i64 a0 := by simpa [I64] using h0
    obtain rfl : v1 = .int .i64 a1 := by simpa [I64] using h1
    obtain rfl : v2 = .int .i64 a2 := by simpa [I64] using h2
    obtain rfl : v3 = s.v := by simpa [SL] using h3
    exact ⟨(a0, a1, a2, s), ⟨a0, a1, a2, bs⟩, rfl, rfl, rfl, rfl, r0, r2, r3⟩

theorem acts_of_trod {fuel : Nat} {a : Option Addr} {n c : Nat} {x : DataW H × List MemPlace}
    (h : DataW.trod enc Pr w base (fun _ => true) held fuel 65 [.slice a n c] = some x) : ∃ s acts, [Value.slice a n c] = SL.f s ∧ RActs s acts (mem w) := by
  obtain ⟨s, ops, h1, h2, os, h3, h4, h5⟩ := opens_slice (E := ACT) (P := Pr) (R := fun o (m : AOp) => AOk o m (mem w)) (t := 65) (e := 67) (by kernel_rfl) (by kernel_rfl) opens_act fuel _ x h
  exact ⟨s, ops, h1, os, h3, h4, h5⟩

theorem ints_of_trod {fuel : Nat} {a : Option Addr} {n c : Nat} {x : DataW H × List MemPlace}
    (h : DataW.trod enc Pr w base (fun _ => true) held fuel 22 [.slice a n c] = some x) : ∃ s ys, [Value.slice a n c] = SL.f s ∧ RAr I64 s ys (mem w) ∧ ∀ y ∈ ys, i64 y := by
  obtain ⟨s, ys, h1, h2, os, h3, h4, h5⟩ := opens_slice (E := I64) (P := Pr) (R := fun a b => a = b ∧ -9223372036854775808 ≤ a ∧ a ≤ 9223372036854775807) (t := 22) (e := 3) (by kernel_rfl) (by kernel_rfl) (opens_i64 (P := Pr) (t := 3) (by kernel_rfl)) fuel _ x h
  refine ⟨s, os, h1, h3, fun y hy => ?_⟩
  obtain ⟨i, hi, rfl⟩ := List.getElem_of_mem hy
  exact (h5 i _ _ (List.getElem?_eq_getElem hi) (List.getElem?_eq_getElem (by omega))).2

theorem bytes_of_trod {fuel : Nat} {a : Option Addr} {n c : Nat} {x : DataW H × List MemPlace}
    (h : DataW.trod enc Pr w base (fun _ => true) held fuel 36 [.slice a n c] = some x) : ∃ s bs, [Value.slice a n c] = SL.f s ∧ s.n ≤ s.c ∧ RAr U8 s bs (mem w) := by
  obtain ⟨s, bs, h1, h2, h3⟩ := opens_bytes (P := Pr) (t := 36) (e := 5) (by kernel_rfl) (by kernel_rfl) (by kernel_rfl) fuel _ x h
  exact ⟨s, bs, h1, h2, h3⟩

abbrev DEED : Enc (Int × Int × Int × Int) := ⟨fun x => [.int .i64 x.1, .int .i64 x.2.1, .int .i64 x.2.2.1, .int .i64 x.2.2.2], 4, fun _ => rfl, fun x v h => by simp at h; rcases h with rfl | rfl | rfl | rfl <;> rfl, by decide, (0, 0, 0, 0)⟩
def DOk (o : Int × Int × Int × Int) : Prop := i64 o.1 ∧ i64 o.2.1 ∧ i64 o.2.2.1 ∧ i64 o.2.2.2
theorem opens_deed : Opens enc Pr w base held 54 DEED (fun o (m : Int × Int × Int × Int) => DOk o) := by
  intro fuel cs x hx
  obtain ⟨xs, n, _, _, hlen, hxs, hf⟩ := DataW.trod_struct Go.Proofs.Try.underlying54 hx
  have ce : Pr.cellsOf 54 = 4 := by kernel_rfl
  rw [ce] at hlen
  match xs, hxs, cs, hlen with
  | [y0, y1, y2, y3], _, [v0, v1, v2, v3], _ =>
    have c3 : Pr.cellsOf 3 = 1 := by kernel_rfl
    have g0 := hf 0 _ rfl
    have g1 := hf 1 _ rfl
    have g2 := hf 2 _ rfl
    have g3 := hf 3 _ rfl
    simp [c3] at g0 g1 g2 g3
    obtain ⟨a0, _, h0, rfl, r0⟩ := opens_i64 (P := Pr) (t := 3) (by kernel_rfl) _ _ _ g0
    obtain ⟨a1, _, h1, rfl, r1⟩ := opens_i64 (P := Pr) (t := 3) (by kernel_rfl) _ _ _ g1
    obtain ⟨a2, _, h2, rfl, r2⟩ := opens_i64 (P := Pr) (t := 3) (by kernel_rfl) _ _ _ g2
    obtain ⟨a3, _, h3, rfl, r3⟩ := opens_i64 (P := Pr) (t := 3) (by kernel_rfl) _ _ _ g3
    obtain rfl : v0 = .int .i64 a0 := by simpa [I64] using h0
    obtain rfl : v1 = .int .i64 a1 := by simpa [I64] using h1
    obtain rfl : v2 = .int .i64 a2 := by simpa [I64] using h2
    obtain rfl : v3 = .int .i64 a3 := by simpa [I64] using h3
    exact ⟨(a0, a1, a2, a3), (a0, a1, a2, a3), rfl, r0, r1, r2, r3⟩

theorem deeds_of_trod {fuel : Nat} {a : Option Addr} {n c : Nat} {x : DataW H × List MemPlace}
    (h : DataW.trod enc Pr w base (fun _ => true) held fuel 48 [.slice a n c] = some x) : ∃ s ys, [Value.slice a n c] = SL.f s ∧ RAr DEED s ys (mem w) ∧ ∀ y ∈ ys, DOk y := by
  obtain ⟨s, ys, h1, h2, os, h3, h4, h5⟩ := opens_slice (E := DEED) (P := Pr) (R := fun o (m : Int × Int × Int × Int) => DOk o) (t := 48) (e := 54) (by kernel_rfl) (by kernel_rfl) opens_deed fuel _ x h
  refine ⟨s, os, h1, h3, fun y hy => ?_⟩
  obtain ⟨i, hi, rfl⟩ := List.getElem_of_mem hy
  exact h5 i _ _ (List.getElem?_eq_getElem hi) (List.getElem?_eq_getElem (by omega))

end Go.Cx
