/-
  The laws of the device: what they share.
-/
import Derived.Test.YtbdmjjeigbhidaaDE
namespace Go.Cx
open Go Go.Cf
set_option linter.unusedVariables false
variable {B : Base} {As : List HP}

theorem key_lit (l : List UInt8) : (⟨l.toArray⟩ : ByteArray).toList = l := by rw [ByteArray.toList_eq]

theorem works_spec : Ct Pr F_law12_works [] .one [.bool] [] emp (fun t Bs => t.1 = true ∧ Bs = []) := by
  refine spec1 c_law12_works fun B _ => ?_
  unfold law12_works
  have ka : (⟨#[97]⟩ : ByteArray).toList = [97] := key_lit [97]
  refine xcl (New_spec 10) rdb ?_
  rintro ⟨q, r, _⟩ _ (⟨h, _⟩ | ⟨_, _, h1, ⟨b, h2⟩, rfl⟩)
  · omega
  simp only at h1 h2
  subst h1 h2
  refine app1 (ca2 (xjoin (xiff rfl (xiff rfl (xnew fun b1 => ?_)))))
  refine xfold1 (Q := Ar U8 ⟨some ⟨b1, 0, none⟩, 2, 2⟩ [1, 2]) 0 (fun g hg => ⟨[], blk_ar [1, 2] 2 rfl rfl hg⟩) ?_
  refine xcl (Append_spec (some ⟨b, 0, none⟩) ⟨false, false, 0, 10, []⟩ ⟨#[97]⟩ ⟨some ⟨b1, 0, none⟩, 2, 2⟩ [1, 2]) rdb ?_
  have e1 : appendM ⟨false, false, 0, 10, []⟩ ⟨#[97]⟩ [1, 2] = (⟨false, false, 0, 10, [⟨⟨#[97]⟩, [1, 2], 0⟩]⟩, 0) := by
    simp [appendM, namedB, thereL, findL, usedN, spendM, insL, ByteArray.size]
  rw [e1]
  rintro ⟨r1, _⟩ _ ⟨h, rfl⟩
  obtain rfl : r1 = 0 := h
  refine app1 (ca1 (xdrop 1 ?_))
  refine xcl (Sync_spec (some ⟨b, 0, none⟩) ⟨false, false, 0, 10, [⟨⟨#[97]⟩, [1, 2], 0⟩]⟩ ⟨#[97]⟩) rdb ?_
  have e2 : syncM ⟨false, false, 0, 10, [⟨⟨#[97]⟩, [1, 2], 0⟩]⟩ ⟨#[97]⟩ = (⟨false, false, 0, 10, [⟨⟨#[97]⟩, [1, 2], 2⟩]⟩, 0) := by
    simp [syncM, onFile, spent, thereL, findL, spendM, DF.key, ka, lt_irrefl]
  rw [e2]
  rintro ⟨r2, _⟩ _ ⟨h, rfl⟩
  obtain rfl : r2 = 0 := h
  refine app1 (ca1 (xnew fun b2 => ?_))
  refine xfold1 (Q := Ar U8 ⟨some ⟨b2, 0, none⟩, 2, 2⟩ [3, 4]) 0 (fun g hg => ⟨[], blk_ar [3, 4] 2 rfl rfl hg⟩) ?_
  refine xcl (Append_spec (some ⟨b, 0, none⟩) ⟨false, false, 0, 10, [⟨⟨#[97]⟩, [1, 2], 2⟩]⟩ ⟨#[97]⟩ ⟨some ⟨b2, 0, none⟩, 2, 2⟩ [3, 4]) rdb ?_
  have e3 : appendM ⟨false, false, 0, 10, [⟨⟨#[97]⟩, [1, 2], 2⟩]⟩ ⟨#[97]⟩ [3, 4] = (⟨false, false, 0, 10, [⟨⟨#[97]⟩, [1, 2, 3, 4], 2⟩]⟩, 0) := by
    simp [appendM, namedB, thereL, findL, usedN, spendM, DF.key, ka, lt_irrefl, ByteArray.size]
  rw [e3]
  rintro ⟨r3, _⟩ _ ⟨h, rfl⟩
  obtain rfl : r3 = 0 := h
  refine app1 (ca1 (xdrop 1 ?_))
  refine xcl (Wake_spec (some ⟨b, 0, none⟩) ⟨false, false, 0, 10, [⟨⟨#[97]⟩, [1, 2, 3, 4], 2⟩]⟩ 1) rdb ?_
  have e4 : wakeM ⟨false, false, 0, 10, [⟨⟨#[97]⟩, [1, 2, 3, 4], 2⟩]⟩ 1 = ⟨false, false, 0, 10, [⟨⟨#[97]⟩, [1, 2, 3], 3⟩]⟩ := by
    simp [wakeM, wakeF, keepN]
  rw [e4]
  rintro _ _ rfl
  refine app1 (ca0 ?_)
  refine xcl (Read_spec (some ⟨b, 0, none⟩) ⟨false, false, 0, 10, [⟨⟨#[97]⟩, [1, 2, 3], 3⟩]⟩ ⟨#[97]⟩) rdb ?_
  have e5 : readM ⟨false, false, 0, 10, [⟨⟨#[97]⟩, [1, 2, 3], 3⟩]⟩ ⟨#[97]⟩ = ([1, 2, 3], 0) := by
    simp [readM, thereL, findL, DF.key, ka, lt_irrefl]
  rw [e5]
  rintro ⟨s, r4, _⟩ _ ⟨h, rfl⟩
  obtain rfl : r4 = 0 := h
  refine app2 (ca2 (xjoin (xift rfl (xnew fun b3 => ?_))))
  refine xfold1 (Q := Ar U8 ⟨some ⟨b3, 0, none⟩, 3, 3⟩ [1, 2, 3]) 0 (fun g hg => ⟨[], blk_ar [1, 2, 3] 3 rfl rfl hg⟩) ?_
  refine xcl (SameBytes_spec s ⟨some ⟨b3, 0, none⟩, 3, 3⟩ [1, 2, 3] [1, 2, 3] (by decide)) rdb ?_
  rintro ⟨c, _⟩ _ ⟨h, rfl⟩
  obtain rfl : c = true := h
  refine app0 (ca1 (xjoin (xift rfl ?_)))
  refine xcl (Free_spec (some ⟨b, 0, none⟩) ⟨false, false, 0, 10, [⟨⟨#[97]⟩, [1, 2, 3], 3⟩]⟩) rdb ?_
  rintro ⟨c, _⟩ _ ⟨h, rfl⟩
  obtain rfl : c = 7 := h
  exact app1 (ca1 (xkeep (l := []) (xret ⟨rfl, rfl⟩)))

/-! The document's device. -/
def leftR (m : DM) : Int := if m.armed then m.left else -1
abbrev refCells (m : DM) (s : Sl) : List Value := [.int .i64 m.room, .int .i64 (leftR m), .bool m.down, s.v]
def RefDev (p : Option Addr) (m : DM) : HP := fun h => DInv m ∧ ∃ b s cs, p = some ⟨b, 0, none⟩ ∧ star [Blk b (refCells m s), Ar FILE s cs, Each FileR cs m.fs] h

theorem xrdev (i : Nat) {p : Option Addr} {m : DM} {F : List HP} [q : Pick i As (RefDev p m) F] {φ : WP}
    (k : DInv m → ∀ b s cs, p = some ⟨b, 0, none⟩ → SF cs m.fs → s.n = cs.length → Ent B (Blk b (refCells m s) :: Ar FILE s cs :: Each FileR cs m.fs :: F) φ) : Ent B As φ := by
  refine Ent.perm q.perm ?_
  intro w hw
  obtain ⟨g, ⟨a, c, ⟨hi, b, s, cs, hp, pa⟩, pc, d, sa, sc⟩, hm, hu⟩ := hw
  have hl : SF cs m.fs ∧ s.n = cs.length := by
    obtain ⟨_, _, _, ⟨_, _, ⟨_, par⟩, ⟨_, _, pe, _⟩, _⟩, _⟩ := pa
    exact ⟨sf_of pe, par.1.symm⟩
  exact k hi b s cs hp hl.1 hl.2 w ⟨g, (star_append [_, _, _] F).2 ⟨a, c, pa, pc, d, sa, sc⟩, hm, hu⟩

theorem xrdev_put (i j l : Nat) {P1 P2 P3 : HP} {F F' F'' : List HP} [p : Pick i As P1 F] [q : Pick j F P2 F'] [r : Pick l F' P3 F''] {φ : WP} (b : Nat) (s : Sl) (cs : List CF) (m : DM) (hi : DInv m)
    (h : ∀ g, star [P1, P2, P3] g → star [Blk b (refCells m s), Ar FILE s cs, Each FileR cs m.fs] g) (k : Ent B (RefDev (some ⟨b, 0, none⟩) m :: F'') φ) : Ent B As φ :=
  xfold3 i j l (fun g hg => ⟨hi, b, s, cs, rfl, h g hg⟩) k

theorem rNew_spec (room : Int) : Ct Pr F_ref12_New [.int .i64 room] (.tup [none, none]) [.ptr, .int .i64] [] emp
    (fun t Bs => (((room < 0 ∨ room > 16777216) ∧ t.1 = none ∧ t.2.1 = 3 ∧ Bs = []) ∨ (0 ≤ room ∧ room ≤ 16777216 ∧ t.2.1 = 0 ∧ (∃ b, t.1 = some ⟨b, 0, none⟩) ∧ Bs = [RefDev t.1 ⟨false, false, 0, room, []⟩]))) := by
  refine spec2 c_ref12_New fun B _ => ?_
  unfold ref12_New
  refine xif (fun h => ?_) (fun h => ?_)
  · refine xret (.inl ⟨?_, rfl, rfl, rfl⟩)
    simpa using h
  · have h' : 0 ≤ room ∧ room ≤ 16777216 := by simp at h; omega
    refine xnew fun b => xnone FILE (xadd (A := Each FileR [] []) trivial ?_)
    refine xrdev_put 2 1 0 b ⟨none, 0, 0⟩ [] ⟨false, false, 0, room, []⟩ ⟨List.Pairwise.nil, by simp, by simp, by simp [usedN]; omega, h', by simp, ⟨by simp, by simp⟩, fun h => by cases h⟩ (fun _ h => h) ?_
    exact xret (.inr ⟨h'.1, h'.2, rfl, ⟨b, rfl⟩, rfl⟩)

theorem DeviceNews_spec (room : Int) (nm : ByteArray) : Ct Pr F_law12_DeviceNews [.int .i64 room, .string nm] .one [.bool] [] emp (fun t Bs => t.1 = true ∧ Bs = []) := by
  refine spec1 c_law12_DeviceNews fun B _ => ?_
  unfold law12_DeviceNews
  refine xcl (New_spec room) rdb ?_
  rintro ⟨q, r, _⟩ _ (⟨h, h1, h2, rfl⟩ | ⟨h, h', h1, ⟨b, h2⟩, rfl⟩)
  · simp only at h1 h2
    subst h1 h2
    refine app0 (ca2 ?_)
    refine xcl (rNew_spec room) rdb ?_
    rintro ⟨q, r, _⟩ _ (⟨_, h1, h2, rfl⟩ | ⟨h', h'', _⟩)
    · simp only at h1 h2
      subst h1 h2
      refine app0 (ca2 (xift rfl (xjoin (xift rfl (xjoin (xift rfl ?_))))))
      refine xcl works_spec rdb ?_
      rintro ⟨c, _⟩ _ ⟨h, rfl⟩
      obtain rfl : c = true := h
      exact app0 (ca1 (xret ⟨rfl, rfl⟩))
    · omega
  simp only at h1 h2
  subst h1 h2
  refine app1 (ca2 ?_)
  refine xcl (rNew_spec room) rdb ?_
  rintro ⟨q, r, _⟩ _ (⟨h', _⟩ | ⟨_, _, h1, ⟨b', h2⟩, rfl⟩)
  · omega
  simp only at h1 h2
  subst h1 h2
  refine app1 (ca2 (xdrop 0 (xiff rfl ?_)))
  refine xcl (Read_spec (some ⟨b, 0, none⟩) ⟨false, false, 0, room, []⟩ nm) rdb ?_
  rintro ⟨s, r, _⟩ _ ⟨h, rfl⟩
  obtain rfl : r = 6 := h
  refine app2 (ca2 (xjoin (xift rfl ?_)))
  refine xcl (Free_spec (some ⟨b, 0, none⟩) ⟨false, false, 0, room, []⟩) rdb ?_
  rintro ⟨r, _⟩ _ ⟨h, rfl⟩
  obtain rfl : r = room := by simpa [usedN] using h
  refine app1 (ca1 (xjoin (xift (by simp) ?_)))
  refine xcl (Used_spec (some ⟨b, 0, none⟩) ⟨false, false, 0, r, []⟩) rdb ?_
  rintro ⟨r', _⟩ _ ⟨h, rfl⟩
  obtain rfl : r' = 0 := by simpa [usedN] using h
  refine app1 (ca1 (xjoin (xift rfl ?_)))
  refine xcl (Names_spec (some ⟨b, 0, none⟩) ⟨false, false, 0, r, []⟩) rdb ?_
  rintro ⟨s1, _⟩ _ rfl
  refine app2 (ca1 ?_)
  refine xlen s1 fun hn _ => ?_
  have hn0 : s1.n = 0 := by simpa using hn.symm
  rw [hn0]
  refine xjoin (xift rfl (xnil ?_))
  refine xcl (Down_spec (some ⟨b, 0, none⟩) ⟨false, false, 0, r, []⟩) rdb ?_
  rintro ⟨c, _⟩ _ ⟨h, rfl⟩
  obtain rfl : c = false := h
  refine app1 (ca1 (xjoin (xift rfl ?_)))
  refine xcl works_spec rdb ?_
  rintro ⟨c, _⟩ _ ⟨h, rfl⟩
  obtain rfl : c = true := h
  exact app0 (ca1 (xkeep (l := []) (xret ⟨rfl, rfl⟩)))

end Go.Cx
