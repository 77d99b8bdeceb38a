/-
  The laws of the device: what they share.
-/
import Derived.Test.YthnfnfhcgpnkpaaDE
namespace Go.Cx
open Go Go.Cf
set_option linter.unusedVariables false
variable {B : Base} {As : List HP}

theorem key_lit (l : List UInt8) : (⟨l.toArray⟩ : ByteArray).toList = l := by rw [ByteArray.toList_eq]

def leftR (m : DM) : Int := if m.armed then m.left else -1
abbrev refCells (m : DM) (s : Sl) : List Value := [.int .i64 m.room, .int .i64 (leftR m), .bool m.down, s.v]
def RefDev (p : Option Addr) (m : DM) : HP := fun h => DInv m ∧ ∃ b s cs, p = some ⟨b, 0, none⟩ ∧ star [Blk b (refCells m s), Ar FILE s cs, Each FileR cs m.fs] h

theorem xrdev (i : Nat) {p : Option Addr} {m : DM} {F : List HP} [q : Pick i As (RefDev p m) F] {φ : WP}
    (k : DInv m → ∀ b s cs, p = some ⟨b, 0, none⟩ → SF cs m.fs → s.n = cs.length → Ent B (Blk b (refCells m s) :: Ar FILE s cs :: Each FileR cs m.fs :: F) φ) : Ent B As φ := by
  refine Ent.perm q.perm ?_
  intro w hw
  obtain ⟨g, ⟨a, c, ⟨hi, b, s, cs, hp, pa⟩, pc, d, sa, sc⟩, hm, hu⟩ := hw
  have hl : SF cs m.fs ∧ s.n = cs.length := by
    obtain ⟨_, _, _, ⟨_, _, ⟨_, par⟩, ⟨_, _, pe, _⟩, _⟩, _⟩ := pa
    exact ⟨sf_of pe, par.1.symm⟩
  exact k hi b s cs hp hl.1 hl.2 w ⟨g, (star_append [_, _, _] F).2 ⟨a, c, pa, pc, d, sa, sc⟩, hm, hu⟩

theorem xrdev_put (i j l : Nat) {P1 P2 P3 : HP} {F F' F'' : List HP} [p : Pick i As P1 F] [q : Pick j F P2 F'] [r : Pick l F' P3 F''] {φ : WP} (b : Nat) (s : Sl) (cs : List CF) (m : DM) (hi : DInv m)
    (h : ∀ g, star [P1, P2, P3] g → star [Blk b (refCells m s), Ar FILE s cs, Each FileR cs m.fs] g) (k : Ent B (RefDev (some ⟨b, 0, none⟩) m :: F'') φ) : Ent B As φ :=
  xfold3 i j l (fun g hg => ⟨hi, b, s, cs, rfl, h g hg⟩) k

theorem rNew_spec (room : Int) : Ct Pr F_ref12_New [.int .i64 room] (.tup [none, none]) [.ptr, .int .i64] [] emp
    (fun t Bs => (((room < 0 ∨ room > 16777216) ∧ t.1 = none ∧ t.2.1 = 3 ∧ Bs = []) ∨ (0 ≤ room ∧ room ≤ 16777216 ∧ t.2.1 = 0 ∧ (∃ b, t.1 = some ⟨b, 0, none⟩) ∧ Bs = [RefDev t.1 ⟨false, false, 0, room, []⟩]))) := by
  refine spec2 c_ref12_New fun B _ => ?_
  unfold ref12_New
  refine xif (fun h => ?_) (fun h => ?_)
  · refine xret (.inl ⟨?_, rfl, rfl, rfl⟩)
    simpa using h
  · have h' : 0 ≤ room ∧ room ≤ 16777216 := by simp at h; omega
    refine xnew fun b => xnone FILE (xadd (A := Each FileR [] []) trivial ?_)
    refine xrdev_put 2 1 0 b ⟨none, 0, 0⟩ [] ⟨false, false, 0, room, []⟩ ⟨List.Pairwise.nil, by simp, by simp, by simp [usedN]; omega, h', by simp, ⟨by simp, by simp⟩, fun h => by cases h⟩ (fun _ h => h) ?_
    exact xret (.inr ⟨h'.1, h'.2, rfl, ⟨b, rfl⟩, rfl⟩)

end Go.Cx
