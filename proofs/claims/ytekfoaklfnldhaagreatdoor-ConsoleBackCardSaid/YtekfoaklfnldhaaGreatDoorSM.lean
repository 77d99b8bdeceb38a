/-
  The library's functions by the kit's contracts, in the words of these rules.
-/
import Derived.Lib.Join
import Derived.Test.YtekfoaklfnldhaaGreatDoorH
import Derived.Test.YtekfoaklfnldhaaGreatDoorSL
import Derived.Test.YtekfoaklfnldhaaGreatDoorCfO
namespace Go.Cx
open Go Go.Cf
set_option linter.unusedVariables false
set_option maxRecDepth 100000
variable {B : Base} {As : List HP}

theorem Sx.below {w w' : World} (h : Sx B As w) (hb : Go.RowKit.Below w.heap.size w w') : Sx B As w' := by
  obtain ⟨g, hs, hm, hu⟩ := h
  refine ⟨g, hs, fun k o e => ?_, hb.os.trans hu.os, hb.tape.trans hu.tape, hb.output.trans hu.output, Nat.zero_le _, Nat.le_trans hu.size hb.size, fun k hk h0 => ⟨?_, (hu.old k hk h0).2⟩⟩
  · have := hm k o e
    show w'.heap[k]? = some o
    rw [hb.block k (Array.getElem?_eq_some_iff.1 this).1]; exact this
  · rw [hb.block k (Nat.lt_of_lt_of_le hk hu.size)]; exact (hu.old k hk h0).1

theorem below_drewN (w : World) (n : Nat) : Go.RowKit.Below w.heap.size w (w.drewN n) := ⟨rfl, rfl, rfl, Nat.le_refl _, fun _ _ => rfl⟩
theorem below_grow (w : World) (n : Nat) (os : Array Obj) : Go.RowKit.Below w.heap.size w (Go.Sort.grow (w.drewN n) os) :=
  ⟨rfl, rfl, rfl, by simp [Go.Sort.grow, World.drewN], fun k hk => by
    show (w.heap ++ os)[k]? = _
    rw [Array.getElem?_append_left hk]⟩

/-- A call whose contract is the kit's, and that changes nothing that was there. -/
theorem ct_below {P : Program} {f : FuncId} {args : List Value} {rs : Rs} {ss : List Sh} {rd : HP} {post : Tup ss → List HP → Prop} {t : Tup ss}
    (hp : post t []) (h : ∀ w : World, rd (mem w) → Calls P f args.toArray w fun e w' => e = .returned (rs.mk (Tup.vals ss t)) ∧ Go.RowKit.Below w.heap.size w w')
    (mono : ∀ g f, rd g → Sub g f → rd f) : Ct P f args rs ss [] rd post := by
  intro w g hs hm hr
  refine (h w (mono _ _ hr fun k o hk => ?_)).mono ?_
  · unfold frz at hk
    cases hg : g k with
    | some _ => rw [hg] at hk; cases hk
    | none => rw [hg] at hk; exact hk
  · rintro e w' ⟨he, hb⟩
    exact ⟨t, [], he, hp, Sx.below (Sx.start (pre := []) hs hm) hb⟩

def numB (n : Int) : ByteArray := ⟨(Lib.itoa n).toArray⟩
/-- The library's table of powers of ten, and its greatest length of what is looked for by a machine's own means, as they lie. -/
def GTab : HP := fun h => ∃ e fr, h 5 = some (.cells (Lib.pow10Tab.map fun z => Value.int .u64 z).toArray e fr)
theorem GTab.mono : ∀ g f, GTab g → Sub g f → GTab f := fun _ _ ⟨e, fr, h⟩ s => ⟨e, fr, s _ _ h⟩
def GMax : HP := fun h => ∃ (cs : List Value) (e : TypeId) (fr : Nat × Nat) (m : Int), h 0 = some (.cells cs.toArray e fr) ∧ cs[0]? = some (.int .i64 m)
theorem GMax.mono : ∀ g f, GMax g → Sub g f → GMax f := fun _ _ ⟨cs, e, fr, m, h, h2⟩ s => ⟨cs, e, fr, m, s _ _ h, h2⟩
theorem GMax.cell {w : World} (h : GMax (mem w)) : ∃ m, w.cell? ⟨0, 0, none⟩ = some (.int .i64 m) := by
  obtain ⟨cs, e, fr, m, h, h2⟩ := h
  have h' : w.heap[0]? = some (.cells cs.toArray e fr) := h
  refine ⟨m, ?_⟩
  simp only [World.cell?, h']
  simpa using h2

theorem globTab : Pr.globalNamed "internal/strconv.uint64pow10" = some 5 := by kernel_rfl
theorem GTab.tab {w : World} (h : GTab (mem w)) : Lib.TabIs Pr w "internal/strconv.uint64pow10" .u64 Lib.pow10Tab := by
  obtain ⟨e, fr, h⟩ := h
  have h' : w.heap[5]? = some _ := h
  show w.var? Pr _ = _
  unfold World.var?
  rw [globTab]
  simp only [Option.bind_some, h']

theorem Itoa_spec (n : Int) (h0 : -9223372036854775808 ≤ n) (h1 : n ≤ 9223372036854775807) : Ct Pr F_strconv_Itoa [.int .i64 n] .one [.str] [] GTab (fun t Bs => t.1 = numB n ∧ Bs = []) :=
  ct_below (t := (numB n, ())) ⟨rfl, rfl⟩ (fun w hw => (Go.Proofs.Tryz.strconv_Itoa n h0 h1 w hw.tab).mono fun e w' ⟨he, k, os, hw'⟩ => ⟨he, hw' ▸ below_grow w k os⟩) GTab.mono

theorem TrimPrefix_spec (s p : ByteArray) : Ct Pr F_strings_TrimPrefix [.string s, .string p] .one [.str] [] emp (fun t Bs => t.1 = ⟨(Lib.trimPrefix s.data.toList p.data.toList).toArray⟩ ∧ Bs = []) :=
  ct_below (t := (⟨(Lib.trimPrefix s.data.toList p.data.toList).toArray⟩, ())) ⟨rfl, rfl⟩ (fun w _ => (Go.Proofs.Tryz.strings_TrimPrefix s p w).mono fun e w' ⟨he, hw'⟩ => ⟨he, hw' ▸ Go.RowKit.Below.refl _ _⟩) (fun _ _ h _ => h)

theorem CutPrefix_spec (s p : ByteArray) : Ct Pr F_strings_CutPrefix [.string s, .string p] (.tup [none, none]) [.str, .bool] [] emp (fun t Bs => t.1 = ⟨(Lib.trimPrefix s.data.toList p.data.toList).toArray⟩ ∧ t.2.1 = Lib.hasPrefix s.data.toList p.data.toList ∧ Bs = []) :=
  ct_below (t := (⟨(Lib.trimPrefix s.data.toList p.data.toList).toArray⟩, Lib.hasPrefix s.data.toList p.data.toList, ())) ⟨rfl, rfl, rfl⟩ (fun w _ => (Go.Proofs.Tryz.strings_CutPrefix s p w).mono fun e w' ⟨he, hw'⟩ => ⟨he, hw' ▸ Go.RowKit.Below.refl _ _⟩) (fun _ _ h _ => h)

theorem Cut_spec (s p : ByteArray) (hs : s.size < 4294967281) : Ct Pr F_strings_Cut [.string s, .string p] (.tup [none, none, none]) [.str, .str, .bool] [] GMax (fun t Bs => t.1 = ⟨(Lib.cut s.data.toList p.data.toList).1.toArray⟩ ∧ t.2.1 = ⟨(Lib.cut s.data.toList p.data.toList).2.1.toArray⟩ ∧ t.2.2.1 = (Lib.cut s.data.toList p.data.toList).2.2 ∧ Bs = []) :=
  ct_below (t := (⟨(Lib.cut s.data.toList p.data.toList).1.toArray⟩, ⟨(Lib.cut s.data.toList p.data.toList).2.1.toArray⟩, (Lib.cut s.data.toList p.data.toList).2.2, ())) ⟨rfl, rfl, rfl, rfl⟩ (fun w hw => by
    obtain ⟨m, hm⟩ := hw.cell
    exact (Go.Proofs.Tryz.strings_Cut s p m w hs hm).mono fun e w' ⟨he, n, hw'⟩ => ⟨he, hw' ▸ below_drewN _ _⟩) GMax.mono

theorem Atoi_spec (s : ByteArray) (n : Int) (hl : s.size ≤ 18) (h : Lib.atoi s.data.toList = some n) : Ct Pr F_strconv_Atoi [.string s] (.tup [none, none]) [.int .i64, .val] [] emp (fun t Bs => t.1 = n ∧ Bs = []) :=
  ct_below (t := (n, .nilIface, ())) ⟨rfl, rfl⟩ (fun w _ => (Go.Proofs.Tryz.strconv_Atoi s n hl h w).mono fun e w' ⟨he, t, hw'⟩ => ⟨he, hw' ▸ ⟨rfl, rfl, rfl, by
      show w.heap.size ≤ (((w.heap.push _).modify _ _).size)
      rw [Array.size_modify, Array.size_push]; omega, fun k hk => by
      show (((w.heap.push _).modify w.heap.size _))[k]? = _
      rw [Array.getElem?_modify, if_neg (by omega), Array.getElem?_push_lt hk]
      exact (Array.getElem?_eq_getElem hk).symm⟩⟩) (fun _ _ h _ => h)

theorem flat_st (xs : List ByteArray) : flat Cf.ST xs = xs.map Value.string := by
  induction xs with
  | nil => rfl
  | cons x xs ih => show _ ++ flat Cf.ST xs = _; rw [ih]; rfl

theorem splitB_len (sep : ByteArray) (h1 : 1 ≤ sep.size) (s : ByteArray) : (Lib.splitB sep 0 (Lib.countB s sep) s).length = Lib.countB s sep + 1 := Lib.splitB_all sep h1 0 _ s rfl

theorem Split_spec (s sep : ByteArray) (hs : s.size < 4294967281) (h1 : 1 ≤ sep.size) : Ct Pr F_strings_Split [.string s, .string sep] .one [.slice] [] GMax (fun t Bs => Bs = [Ar Cf.ST t.1 (Lib.splitB sep 0 (Lib.countB s sep) s)] ∧ t.1.n = t.1.c) := by
  intro w g hs' hm hr
  have hr' : GMax (mem w) := GMax.mono _ _ hr fun k o hk => by
    unfold frz at hk
    cases hg : g k with
    | some _ => rw [hg] at hk; cases hk
    | none => rw [hg] at hk; exact hk
  obtain ⟨m, hmx⟩ := hr'.cell
  refine (Go.Proofs.Tryz.strings_Split s sep m w hs hmx h1).mono ?_
  rintro e w' ⟨he, rfl⟩
  have hl := splitB_len sep h1 s
  refine ⟨(⟨some ⟨w.heap.size, 0, none⟩, Lib.countB s sep + 1, Lib.countB s sep + 1⟩, ()), _, he, ⟨rfl, rfl⟩, ?_⟩
  have := (Sx.start (pre := []) hs' hm).alloc ((Lib.splitB sep 0 (Lib.countB s sep) s).map Value.string) 9
  obtain ⟨g', h2, h3, h4⟩ := this
  have hle := Lib.countB_le sep h1 s.size s (Nat.le_refl _)
  refine ⟨g', star_imp (fun q hq => ⟨[], blk_ar (E := Cf.ST) (Lib.splitB sep 0 (Lib.countB s sep) s) (Lib.countB s sep + 1) hl (flat_st _) hq (by omega)⟩) h2, h3, h4⟩

end Go.Cx
