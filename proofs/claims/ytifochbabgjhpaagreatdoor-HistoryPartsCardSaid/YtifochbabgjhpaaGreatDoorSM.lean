/-
  The library's functions by the kit's contracts, in the words of these rules.
-/
import Derived.Test.YtifochbabgjhpaaGreatDoorH
import Derived.Test.YtifochbabgjhpaaGreatDoorCgA
import Derived.Test.YtifochbabgjhpaaGreatDoorSL
import Derived.Test.YtifochbabgjhpaaGreatDoorCfO
namespace Go.Cx
open Go Go.Cf
set_option linter.unusedVariables false
set_option maxRecDepth 100000
variable {B : Base} {As : List HP}

theorem Sx.below {w w' : World} (h : Sx B As w) (hb : Go.RowKit.Below w.heap.size w w') : Sx B As w' := by
  obtain ⟨g, hs, hm, hu⟩ := h
  refine ⟨g, hs, fun k o e => ?_, hb.os.trans hu.os, hb.tape.trans hu.tape, hb.output.trans hu.output, Nat.zero_le _, Nat.le_trans hu.size hb.size, fun k hk h0 => ⟨?_, (hu.old k hk h0).2⟩⟩
  · have := hm k o e
    show w'.heap[k]? = some o
    rw [hb.block k (Array.getElem?_eq_some_iff.1 this).1]; exact this
  · rw [hb.block k (Nat.lt_of_lt_of_le hk hu.size)]; exact (hu.old k hk h0).1

theorem below_drewN (w : World) (n : Nat) : Go.RowKit.Below w.heap.size w (w.drewN n) := ⟨rfl, rfl, rfl, Nat.le_refl _, fun _ _ => rfl⟩
theorem below_grow (w : World) (n : Nat) (os : Array Obj) : Go.RowKit.Below w.heap.size w (Go.Sort.grow (w.drewN n) os) :=
  ⟨rfl, rfl, rfl, by simp [Go.Sort.grow, World.drewN], fun k hk => by
    show (w.heap ++ os)[k]? = _
    rw [Array.getElem?_append_left hk]⟩

/-- A call whose contract is the kit's, and that changes nothing that was there. -/
theorem ct_below {P : Program} {f : FuncId} {args : List Value} {rs : Rs} {ss : List Sh} {rd : HP} {post : Tup ss → List HP → Prop} {t : Tup ss}
    (hp : post t []) (h : ∀ w : World, rd (mem w) → Calls P f args.toArray w fun e w' => e = .returned (rs.mk (Tup.vals ss t)) ∧ Go.RowKit.Below w.heap.size w w')
    (mono : ∀ g f, rd g → Sub g f → rd f) : Ct P f args rs ss [] rd post := by
  intro w g hs hm hr
  refine (h w (mono _ _ hr fun k o hk => ?_)).mono ?_
  · unfold frz at hk
    cases hg : g k with
    | some _ => rw [hg] at hk; cases hk
    | none => rw [hg] at hk; exact hk
  · rintro e w' ⟨he, hb⟩
    exact ⟨t, [], he, hp, Sx.below (Sx.start (pre := []) hs hm) hb⟩

def numB (n : Int) : ByteArray := ⟨(Lib.itoa n).toArray⟩
/-- The library's table of powers of ten, and its greatest length of what is looked for by a machine's own means, as they lie. -/
def GTab : HP := fun h => ∃ e fr, h 0 = some (.cells (Lib.pow10Tab.map fun z => Value.int .u64 z).toArray e fr)
theorem GTab.mono : ∀ g f, GTab g → Sub g f → GTab f := fun _ _ ⟨e, fr, h⟩ s => ⟨e, fr, s _ _ h⟩
def GMax : HP := fun h => ∃ (cs : List Value) (e : TypeId) (fr : Nat × Nat) (m : Int), h 0 = some (.cells cs.toArray e fr) ∧ cs[0]? = some (.int .i64 m)
theorem GMax.mono : ∀ g f, GMax g → Sub g f → GMax f := fun _ _ ⟨cs, e, fr, m, h, h2⟩ s => ⟨cs, e, fr, m, s _ _ h, h2⟩
theorem GMax.cell {w : World} (h : GMax (mem w)) : ∃ m, w.cell? ⟨0, 0, none⟩ = some (.int .i64 m) := by
  obtain ⟨cs, e, fr, m, h, h2⟩ := h
  have h' : w.heap[0]? = some (.cells cs.toArray e fr) := h
  refine ⟨m, ?_⟩
  simp only [World.cell?, h']
  simpa using h2

theorem globTab : Pr.globalNamed "internal/strconv.uint64pow10" = some 0 := by kernel_rfl
theorem GTab.tab {w : World} (h : GTab (mem w)) : Lib.TabIs Pr w "internal/strconv.uint64pow10" .u64 Lib.pow10Tab := by
  obtain ⟨e, fr, h⟩ := h
  have h' : w.heap[0]? = some _ := h
  show w.var? Pr _ = _
  unfold World.var?
  rw [globTab]
  simp only [Option.bind_some, h']

theorem Itoa_spec (n : Int) (h0 : -9223372036854775808 ≤ n) (h1 : n ≤ 9223372036854775807) : Ct Pr F_strconv_Itoa [.int .i64 n] .one [.str] [] GTab (fun t Bs => t.1 = numB n ∧ Bs = []) :=
  ct_below (t := (numB n, ())) ⟨rfl, rfl⟩ (fun w hw => (Go.Proofs.Tryz.strconv_Itoa n h0 h1 w hw.tab).mono fun e w' ⟨he, k, os, hw'⟩ => ⟨he, hw' ▸ below_grow w k os⟩) GTab.mono

theorem CutPrefix_spec (s p : ByteArray) : Ct Pr F_strings_CutPrefix [.string s, .string p] (.tup [none, none]) [.str, .bool] [] emp (fun t Bs => t.1 = ⟨(Lib.trimPrefix s.data.toList p.data.toList).toArray⟩ ∧ t.2.1 = Lib.hasPrefix s.data.toList p.data.toList ∧ Bs = []) :=
  ct_below (t := (⟨(Lib.trimPrefix s.data.toList p.data.toList).toArray⟩, Lib.hasPrefix s.data.toList p.data.toList, ())) ⟨rfl, rfl, rfl⟩ (fun w _ => (Go.Proofs.Tryz.strings_CutPrefix s p w).mono fun e w' ⟨he, hw'⟩ => ⟨he, hw' ▸ Go.RowKit.Below.refl _ _⟩) (fun _ _ h _ => h)

theorem flat_st (xs : List ByteArray) : flat Cf.ST xs = xs.map Value.string := by
  induction xs with
  | nil => rfl
  | cons x xs ih => show _ ++ flat Cf.ST xs = _; rw [ih]; rfl

theorem Trim_spec (s p : ByteArray) (hs : s.size ≤ 4611686018427387904) (hp : p.size < 1000) (ha : p.data.toList.all (fun b => decide (b.toNat < 128)) = true) : Ct Pr F_strings_Trim [.string s, .string p] .one [.str] [] emp (fun t Bs => t.1 = ⟨(Lib.trimS s.data.toList p.data.toList).toArray⟩ ∧ Bs = []) :=
  ct_below (t := (⟨(Lib.trimS s.data.toList p.data.toList).toArray⟩, ())) ⟨rfl, rfl⟩ (fun w _ => (Go.Proofs.Tryz.strings_Trim s p w (by omega) (by omega) (fun _ b hb => of_decide_eq_true (List.all_eq_true.1 ha b (List.mem_of_getElem? hb)))).mono fun e w' ⟨he, hb⟩ => ⟨he, hb⟩) (fun _ _ h _ => h)

end Go.Cx
