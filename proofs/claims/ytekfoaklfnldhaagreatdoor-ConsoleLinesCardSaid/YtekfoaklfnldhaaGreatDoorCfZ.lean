/-
  What arguments hold, type by type.
-/
import Derived.Test.YtekfoaklfnldhaaGreatDoorCfY
namespace Go.Cf
open Go Go.RowKit Go.ChangeShapes Go.WideShapes Go.Deep
set_option linter.unusedVariables false
variable {α β : Type} {H : Type} {enc : TypeId × Value → H} {P : Program} {w : World} {base : Nat} {held : Bool}

/-- What is read at a type are the cells of a thing. -/
def Opens (enc : TypeId × Value → H) (P : Program) (w : World) (base : Nat) (held : Bool) (t : TypeId) (E : Enc α) (R : α → β → Prop) : Prop :=
  ∀ (fuel : Nat) (cs : List Value) (x : DataW H × List MemPlace), DataW.trod enc P w base (fun _ => true) held fuel t cs = some x → ∃ a b, cs = E.f a ∧ R a b

theorem opens_slice [Inhabited β] {t e : TypeId} {E : Enc α} {R : α → β → Prop} (ht : P.underlying t = some (.slice e)) (ce : P.cellsOf e = E.sz) (h : Opens enc P w base held e E R) :
    Opens enc P w base held t SL (fun (s : Sl) (bs : List β) => s.n ≤ s.c ∧ ∃ as : List α, RAr E s as (mem w) ∧ as.length = bs.length ∧ ∀ (i : Nat) (a : α) (b : β), as[i]? = some a → bs[i]? = some b → R a b) := by
  intro fuel cs x hx
  rcases open_slice ht hx with ⟨hcs, _⟩ | ⟨a, len, cap, m, n, D, Pl, hcs, _, hlc, _, hm, _, hr⟩
  · exact ⟨⟨none, 0, 0⟩, [], hcs, Nat.le_refl _, [], rar_of_cells rfl (fun h => absurd h (Nat.lt_irrefl 0)), rfl, fun i a b h => by simp at h⟩
  simp only [if_true] at hm
  subst hm
  have each : ∀ i, i < m → ∃ q : α × β, w.cells? base (a.add (i * E.sz)) E.sz = some (E.f q.1) ∧ R q.1 q.2 := by
    intro i hi
    obtain ⟨cs', h1, h2⟩ := hr i hi
    obtain ⟨u, v, rfl, huv⟩ := h _ _ _ h2
    rw [ce] at h1
    exact ⟨(u, v), h1, huv⟩
  have : Inhabited α := ⟨E.zero⟩
  obtain ⟨q, hq⟩ := choose_lt each
  refine ⟨⟨some a, len, m⟩, (List.range len).map fun i => (q i).2, hcs, hlc, (List.range len).map fun i => (q i).1, rar_of_cells (by simp) (fun h0 => ?_), by simp, fun i u v hi hb => ?_⟩
  · obtain ⟨b, o, spot⟩ := a
    have hlt : ∀ i r, i < m → r < E.sz → w.cell? ((⟨b, o, spot⟩ : Addr).add (i * E.sz + r)) = (E.f (q i).1)[r]? := by
      intro i r hi hr'
      obtain ⟨_, hlen, hcell⟩ := World.cells?_some (hq i hi).1
      have := hcell r hr'
      rwa [add_add] at this
    have hspot : spot = none := by
      have h1 := hlt 0 0 (Nat.lt_of_lt_of_le h0 hlc) E.pos
      have h2 : (E.f (q 0).1)[0]? = some ((E.f (q 0).1)[0]'(by rw [E.len]; exact E.pos)) := List.getElem?_eq_getElem _
      rw [h2] at h1
      simpa [Addr.add] using World.cell?_spot h1
    subst hspot
    refine ⟨b, o, rfl, fun j hj => ?_⟩
    have hpos := E.pos
    have hjd : j / E.sz < len := Nat.div_lt_of_lt_mul (by rw [Nat.mul_comm]; exact hj)
    have hjm : j % E.sz < E.sz := Nat.mod_lt _ hpos
    have hj2 : j / E.sz * E.sz + j % E.sz = j := by rw [Nat.mul_comm]; exact Nat.div_add_mod j E.sz
    have h1 := hlt (j / E.sz) (j % E.sz) (Nat.lt_of_lt_of_le hjd hlc) hjm
    rw [hj2, add_none] at h1
    have h2 := flat_get E ((List.range len).map fun i => (q i).1) (j / E.sz) (j % E.sz) (q (j / E.sz)).1 (by rw [List.getElem?_map, List.getElem?_range hjd]; rfl) hjm
    rw [hj2] at h2
    rw [h1, h2]
  · have hin : i < len := by
      have := (List.getElem?_eq_some_iff.1 hi).1
      simpa using this
    rw [List.getElem?_map, List.getElem?_range hin] at hi hb
    simp only [Option.map_some, Option.some.injEq] at hi hb
    subst hi hb
    exact (hq i (Nat.lt_of_lt_of_le hin hlc)).2

theorem opens_u8 {t : TypeId} (ht : P.underlying t = some (.int .u8)) : Opens enc P w base held t U8 (fun a b => a = b) := by
  intro fuel cs x hx
  obtain ⟨n, hcs, _, hwf⟩ := DataW.trod_int ht hx
  refine ⟨UInt8.ofNat n.toNat, UInt8.ofNat n.toNat, ?_, rfl⟩
  rw [hcs]
  show _ = [Value.int .u8 ((UInt8.ofNat n.toNat).toNat : Int)]
  rw [u8_wf hwf]

theorem opens_i64 {t : TypeId} (ht : P.underlying t = some (.int .i64)) : Opens enc P w base held t I64 (fun a b => a = b ∧ -9223372036854775808 ≤ a ∧ a ≤ 9223372036854775807) := by
  intro fuel cs x hx
  obtain ⟨n, hcs, _, hwf⟩ := DataW.trod_int ht hx
  have h1 : IntKind.i64.min = -9223372036854775808 := rfl
  have h2 : IntKind.i64.max = 9223372036854775807 := rfl
  simp only [Lit.wf, Bool.and_eq_true, decide_eq_true_eq, h1, h2] at hwf
  exact ⟨n, n, hcs, rfl, hwf⟩

/-- []byte -/
theorem opens_bytes {t e : TypeId} (ht : P.underlying t = some (.slice e)) (he : P.underlying e = some (.int .u8)) (ce : P.cellsOf e = 1) :
    Opens enc P w base held t SL (fun (s : Sl) (bs : List UInt8) => s.n ≤ s.c ∧ RAr U8 s bs (mem w)) := by
  intro fuel cs x hx
  obtain ⟨s, bs, h1, h2, as, h3, h4, h5⟩ := opens_slice (E := U8) ht ce (opens_u8 he) fuel cs x hx
  have : as = bs := by
    apply List.ext_getElem h4
    intro i hi hj
    exact h5 i _ _ (List.getElem?_eq_getElem hi) (List.getElem?_eq_getElem hj)
  subst this
  exact ⟨s, as, h1, h2, h3⟩

end Go.Cf
namespace Go.Cf
open Go
theorem sl_inj {a : Option Addr} {n c : Nat} {s : Sl} (h : [Value.slice a n c] = SL.f s) : (⟨a, n, c⟩ : Sl) = s := by
  obtain ⟨p, m, k⟩ := s
  simp only [SL, Sl.v, List.cons.injEq, Value.slice.injEq, and_true] at h
  obtain ⟨rfl, rfl, rfl⟩ := h
  rfl
def i64 (x : Int) : Prop := -9223372036854775808 ≤ x ∧ x ≤ 9223372036854775807
theorem i64_of_wf {n : Int} (h : (Lit.int .i64 n).wf = true) : i64 n := by
  have h1 : IntKind.i64.min = -9223372036854775808 := rfl
  have h2 : IntKind.i64.max = 9223372036854775807 := rfl
  simpa [Lit.wf, h1, h2, i64] using h
end Go.Cf
