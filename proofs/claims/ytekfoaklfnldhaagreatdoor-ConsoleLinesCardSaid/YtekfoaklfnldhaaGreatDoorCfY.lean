/-
  What a law's arguments hold, as memory that may be read; what a call leaves behind.
-/
import Derived.Test.YtekfoaklfnldhaaGreatDoorCfX
import Derived.Deep.Matrix
import Derived.Carry
import Derived.SizedLaws
namespace Go.Cf
open Go Go.RowKit
set_option linter.unusedVariables false
variable {α : Type}

theorem rar_of_cells {E : Enc α} {s : Sl} {xs : List α} {w : World} (hn : xs.length = s.n)
    (h : 0 < s.n → ∃ b o, s.p = some ⟨b, o, none⟩ ∧ ∀ j, j < s.n * E.sz → w.cell? ⟨b, o + j, none⟩ = (flat E xs)[j]?) : RAr E s xs (mem w) := by
  have hfl := flat_length E xs
  refine ⟨hn, by rw [hfl, hn], fun h0 => ?_⟩
  obtain ⟨b, o, hp, hc⟩ := h h0
  have hpos : 0 < s.n * E.sz := Nat.mul_pos h0 E.pos
  have key : ∃ c e fr, w.heap[b]? = some (.cells c e fr) := by
    have h1 := hc 0 hpos
    have h2 : (flat E xs)[0]? = some ((flat E xs)[0]'(by rw [hfl, hn]; exact hpos)) := List.getElem?_eq_getElem (by rw [hfl, hn]; exact hpos)
    rw [h2] at h1
    unfold World.cell? at h1
    split at h1
    · rename_i c e fr hh; exact ⟨c, e, fr, hh⟩
    · cases h1
  obtain ⟨c, e, fr, hb⟩ := key
  have hcell : ∀ j, j < s.n * E.sz → c.toList[o + j]? = (flat E xs)[j]? := fun j hj => by
    have := hc j hj
    simp only [World.cell?, hb] at this
    simpa using this
  have hlast : o + (s.n * E.sz - 1) < c.toList.length := by
    have h1 := hcell (s.n * E.sz - 1) (by omega)
    have h2 : (flat E xs)[s.n * E.sz - 1]? = some ((flat E xs)[s.n * E.sz - 1]'(by rw [hfl, hn]; omega)) := List.getElem?_eq_getElem (by rw [hfl, hn]; omega)
    rw [h2] at h1
    exact (List.getElem?_eq_some_iff.1 h1).1
  refine ⟨b, o, c.toList.take o, (c.toList.drop o).drop (s.n * E.sz), e, fr, hp, ?_, by simp only [List.length_take]; omega⟩
  show w.heap[b]? = _
  rw [hb]
  congr 2
  have e1 : flat E xs = (c.toList.drop o).take (s.n * E.sz) := by
    apply List.ext_getElem?
    intro j
    by_cases hj : j < s.n * E.sz
    · rw [← hcell j hj, List.getElem?_take_of_lt hj, List.getElem?_drop]
    · rw [List.getElem?_eq_none (by rw [hfl, hn]; omega), List.getElem?_eq_none (by simp only [List.length_take]; omega)]
  rw [e1, List.append_assoc, List.take_append_drop, List.take_append_drop]

theorem below_of {W w' : World} {Bs : List HP} (h : Sx ⟨W, fun _ => none⟩ Bs w') : Below W.heap.size W w' := by
  obtain ⟨g, _, _, hu⟩ := h
  exact ⟨hu.os, hu.tape, hu.output, hu.size, fun k hk => (hu.old k hk rfl).1⟩

theorem frz_none (W : World) : frz W (fun _ => none) = mem W := by funext k; rfl

/-- A contract of a function that owns nothing, at a world. -/
theorem Ct.top {P : Program} {f : FuncId} {args : List Value} {rs : Rs} {ss : List Sh} {rd : HP} {post : Tup ss → List HP → Prop} (c : Ct P f args rs ss [] rd post) (W : World) (h : rd (mem W)) :
    Calls P f args.toArray W fun e w' => ∃ t Bs, e = .returned (rs.mk (Tup.vals ss t)) ∧ post t Bs ∧ Below W.heap.size W w' :=
  (c W (fun _ => none) trivial (fun _ _ e => by cases e) (by rw [frz_none]; exact h)).mono fun e w' ⟨t, Bs, h1, h2, h3⟩ => ⟨t, Bs, h1, h2, below_of h3⟩

section
open Go.ChangeShapes Go.WideShapes Go.Deep
variable {H : Type} {enc : TypeId × Value → H} {P : Program} {w : World} {base : Nat} {held : Bool}

def u8s (zs : List Int) : List UInt8 := zs.map fun z => UInt8.ofNat z.toNat

theorem u8_wf {z : Int} (h : (Lit.int .u8 z).wf = true) : ((UInt8.ofNat z.toNat).toNat : Int) = z := by
  have h1 : IntKind.u8.min = 0 := rfl
  have h2 : IntKind.u8.max = 255 := rfl
  simp only [Lit.wf, Bool.and_eq_true, decide_eq_true_eq, h1, h2] at h
  rw [UInt8.toNat_ofNat']
  omega

theorem flat_u8 (xs : List UInt8) (j : Nat) : (flat U8 xs)[j]? = xs[j]?.map fun x => Value.int .u8 x.toNat := by
  have : flat U8 xs = xs.map fun x => Value.int .u8 (x.toNat : Int) := by
    unfold flat
    induction xs with
    | nil => rfl
    | cons x xs ih => simp only [List.flatMap_cons, List.map_cons, ih]; rfl
  rw [this, List.getElem?_map]

theorem flat_sl (xs : List Sl) (j : Nat) : (flat SL xs)[j]? = xs[j]?.map Sl.v := by
  have : flat SL xs = xs.map Sl.v := by
    unfold flat
    induction xs with
    | nil => rfl
    | cons x xs ih => simp only [List.flatMap_cons, List.map_cons, ih]; rfl
  rw [this, List.getElem?_map]

/-- [][]byte. -/
theorem rows_of_trod {t e q : TypeId} {fuel : Nat} {s : Sl} {x : DataW H × List MemPlace} (ht : P.underlying t = some (.slice e)) (he : P.underlying e = some (.slice q)) (hq : P.underlying q = some (.int .u8))
    (ce : P.cellsOf e = 1) (cq : P.cellsOf q = 1) (h : DataW.trod enc P w base (fun _ => true) held fuel t [s.v] = some x) : ∃ rows, RRows s rows (mem w) := by
  rcases open_int_rows ht he hq ce cq h with ⟨hcs, _⟩ | ⟨a, len, cap, A, L, C, Z, hcs, _, hlc, _, _, hr⟩
  · obtain ⟨p, n, c⟩ := s
    simp only [Sl.v, List.cons.injEq, Value.slice.injEq, and_true] at hcs
    obtain ⟨rfl, rfl, rfl⟩ := hcs
    exact ⟨[], [], rar_of_cells rfl (fun h => absurd h (Nat.lt_irrefl 0)), rfl, fun i r bs h => by simp at h⟩
  · obtain ⟨p, n, c⟩ := s
    simp only [Sl.v, List.cons.injEq, Value.slice.injEq, and_true] at hcs
    obtain ⟨rfl, rfl, rfl⟩ := hcs
    refine ⟨(List.range n).map fun r => u8s ((Z r).take (L r)), (List.range n).map fun r => ⟨A r, L r, C r⟩, rar_of_cells (by simp) (fun h0 => ?_), by simp, fun i r bs hi hb => ?_⟩
    · obtain ⟨b, o, spot⟩ := a
      have hspot : spot = none := by simpa [Addr.add] using World.cell?_spot (hr 0 (Nat.lt_of_lt_of_le h0 hlc)).1
      subst hspot
      refine ⟨b, o, rfl, fun j hj => ?_⟩
      have hj' : j < n := by simpa [SL] using hj
      have := (hr j (by omega)).1
      rw [add_none] at this
      rw [this, flat_sl, List.getElem?_map, List.getElem?_range hj']
      rfl
    · have hin : i < n := by
        have := (List.getElem?_eq_some_iff.1 hi).1
        simpa using this
      rw [List.getElem?_map, List.getElem?_range hin] at hi hb
      simp only [Option.map_some, Option.some.injEq] at hi hb
      subst hi hb
      obtain ⟨_, h1, _, h3, h4, h5, h6⟩ := hr i (by omega)
      refine rar_of_cells (by simp [u8s]; omega) (fun h0 => ?_)
      have h0' : 0 < L i := h0
      cases hA : A i with
      | none => have := h5 hA; omega
      | some a' =>
        obtain ⟨b', o', spot⟩ := a'
        have hcell := (h6 _ hA).2
        have hspot : spot = none := by simpa [Addr.add] using World.cell?_spot (hcell 0 (by omega))
        subst hspot
        refine ⟨b', o', rfl, fun j hj => ?_⟩
        have hj' : j < L i := by simpa [U8] using hj
        have := hcell j (by omega)
        rw [add_none] at this
        have hjz : j < (Z i).length := by omega
        rw [this, flat_u8, u8s, List.getElem?_map, List.getElem?_take_of_lt hj', List.getElem?_eq_getElem hjz]
        simp only [Option.map_some, List.getD_eq_getElem?_getD, List.getElem?_eq_getElem hjz, Option.getD_some]
        rw [u8_wf (h4 _ (List.getElem_mem hjz))]
end
end Go.Cf
