/-
  How long an answer's files may be.
-/
import Derived.Test.YtcddiaiemlkmaaaPP
namespace Go.Cx
open Go Go.Cf Go.RowKit Go.ChangeShapes Go.WideShapes Go.Deep
set_option linter.unusedVariables false
set_option maxRecDepth 100000
variable {α : Type} {H : Type} {enc : TypeId × Value → H} {P : Program} {w : World} {base : Nat} {held : Bool}

theorem mem_weightsAll {e : TypeId} {d : DataW H} {n : Nat} (hn : n ∈ d.weights P e) : ∀ {l : List (DataW H)}, d ∈ l → n ∈ DataW.weightsAll P e l := by
  intro l
  induction l with
  | nil => intro h; cases h
  | cons x l ih =>
    intro h
    unfold DataW.weightsAll
    rcases List.mem_cons.1 h with rfl | h
    · exact List.mem_append_left _ hn
    · exact List.mem_append_right _ (ih h)

theorem slice_weights {t e : TypeId} {xs ys : List (DataW H)} (ht : P.underlying t = some (.slice e)) : DataW.weights P t (.slice xs ys) = (xs.length + ys.length) * P.bytesOf e :: (DataW.weightsAll P e xs ++ DataW.weightsAll P e ys) := by
  unfold DataW.weights
  rw [ht]

theorem files_len {fuel : Nat} {s : Sl} {rs : List Sl} {x : DataW H × List MemPlace} (h : DataW.trod enc Pr w base (fun _ => true) held fuel 37 [s.v] = some x) (hr : RAr SL s rs (mem w)) (hz : (x.1.weights Pr 37).all (· ≤ reachBytes) = true) : ∀ r ∈ rs, r.n ≤ 70368744175616 := by
  intro r hrm
  obtain ⟨i, hi⟩ := List.mem_iff_getElem?.1 hrm
  have hil := (List.getElem?_eq_some_iff.1 hi).1
  have hln := hr.1
  rcases open_slice Go.Proofs.Try.underlying37 h with ⟨hcs, _⟩ | ⟨a, len, cap, m, n, D, Pl, hcs, _, hlc, _, hm, rfl, hr'⟩
  · obtain ⟨q1, q2, q3⟩ := s
    simp only [Sl.v, List.cons.injEq, Value.slice.injEq, and_true] at hcs
    simp only at hln; omega
  obtain ⟨q1, q2, q3⟩ := s
  simp only [Sl.v, List.cons.injEq, Value.slice.injEq, and_true] at hcs
  obtain ⟨rfl, rfl, rfl⟩ := hcs
  simp only at hln
  simp only [if_true] at hm
  obtain ⟨cs', h1, h2⟩ := hr' i (by omega)
  rw [c26] at h1
  obtain ⟨b, o, hp, _, hc⟩ := hr.cell (j := 0) hi (by decide)
  simp only [Option.some.injEq] at hp
  subst hp
  obtain ⟨_, hl1, hcell⟩ := World.cells?_some h1
  have hv := hcell 0 (by decide)
  rw [add_none, add_none] at hv
  rw [show o + i * 1 + 0 = o + (i * SL.sz + 0) by simp [SL]] at hv
  rw [hc] at hv
  match cs', hl1, hv with
  | [v], _, hv =>
    have hv : v = r.v := by simpa [SL] using hv.symm
    subst hv
    rcases open_slice Go.Proofs.Try.underlying26 h2 with ⟨hcs, _⟩ | ⟨a2, len2, cap2, m2, n2, D2, Pl2, hcs, _, _, _, _, heq, _⟩
    · obtain ⟨q1, q2, q3⟩ := r
      simp only [Sl.v, List.cons.injEq, Value.slice.injEq, and_true] at hcs
      simp only; omega
    obtain ⟨q1, q2', q3'⟩ := r
    simp only [Sl.v, List.cons.injEq, Value.slice.injEq, and_true] at hcs
    obtain ⟨rfl, rfl, rfl⟩ := hcs
    have hD : D i = .slice ((List.range q2').map D2) ((List.range (m2 - q2')).map fun j => D2 (q2' + j)) := congrArg Prod.fst heq
    have hb : Pr.bytesOf 74 = 2 := by kernel_rfl
    have hmem : (q2' + (m2 - q2')) * 2 ∈ (D i).weights Pr 26 := by
      rw [hD, slice_weights Go.Proofs.Try.underlying26, hb]
      simp
    simp only [slice_weights Go.Proofs.Try.underlying37] at hz
    have := List.all_eq_true.1 hz _ (List.mem_cons_of_mem _ (List.mem_append_left _ (mem_weightsAll hmem (l := (List.range q2).map D) (List.mem_map.2 ⟨i, List.mem_range.2 (by omega), rfl⟩))))
    have hrb : reachBytes = 140737488351232 := rfl
    rw [hrb] at this
    have := of_decide_eq_true this
    simp only; omega

theorem reply2 {fuel : Nat} {cs : List Value} {x : DataW H × List MemPlace} (h : DataW.trod enc Pr w base (fun _ => true) held fuel 39 cs = some x) (hz : (x.1.weights Pr 39).all (· ≤ reachBytes) = true) : ∃ (exc : Int) (r1 r2 r3 : Sl) (on : List Bool) (ws : List UInt16) (fs : List (List UInt16)), cs = [.int .i64 exc, r1.v, r2.v, r3.v] ∧ r2.n ≤ r2.c ∧ RAr BL r1 on (mem w) ∧ RAr U16 r2 ws (mem w) ∧ RW r3 fs (mem w) ∧ ∀ f ∈ fs, f.length ≤ 70368744175616 := by
  obtain ⟨xs, n, _, hx0, hlen, hxs, hf⟩ := DataW.trod_struct Go.Proofs.Try.underlying39 h
  have ce : Pr.cellsOf 39 = 4 := by kernel_rfl
  rw [ce] at hlen
  subst hx0
  match xs, hxs, cs, hlen with
  | [y0, y1, y2, y3], _, [v0, v1, v2, v3], _ =>
    have g0 := hf 0 _ rfl
    have g1 := hf 1 _ rfl
    have g2 := hf 2 _ rfl
    have g3 := hf 3 _ rfl
    simp [c3, c25, c26, c37] at g0 g1 g2 g3
    obtain ⟨a0, rfl⟩ := int1 g0
    obtain ⟨r1, on, hs1, hc1, hr1⟩ := opens_bools _ _ _ g1
    obtain rfl := sl1 hs1
    obtain ⟨r2, ws, hs2, hc2, hr2⟩ := opens_words _ _ _ g2
    obtain rfl := sl1 hs2
    obtain ⟨r3, fs, hs3, hc3, rs, k1, k2, k3⟩ := opens_files _ _ _ g3
    obtain rfl := sl1 hs3
    have hw3 : (y3.1.weights Pr 37).all (· ≤ reachBytes) = true := by
      refine List.all_eq_true.2 fun n hn => List.all_eq_true.1 hz n ?_
      unfold DataW.weights
      rw [Go.Proofs.Try.underlying39]
      simp only [List.map_cons, List.map_nil, DataW.weightsEach]
      exact List.mem_append_right _ (List.mem_append_right _ (List.mem_append_right _ (List.mem_append_left _ hn)))
    have hfl := files_len g3 k1 hw3
    refine ⟨a0, r1, r2, r3, on, ws, fs, rfl, hc2, hr1, hr2, ⟨rs, k1, k2, fun i r b hi hb => (k3 i r b hi hb).2⟩, fun f hf => ?_⟩
    obtain ⟨i, hi⟩ := List.mem_iff_getElem?.1 hf
    have hil := (List.getElem?_eq_some_iff.1 hi).1
    have hri : rs[i]? = some rs[i] := List.getElem?_eq_getElem _
    have := (k3 i _ f hri hi).2.1
    rw [this]
    exact hfl _ (List.mem_of_getElem? hri)

end Go.Cx
