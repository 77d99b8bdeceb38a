/-
  A configuration as it comes in.
-/
import Derived.Test.YtncgenibaclejaaDoorCD
import Derived.Test.YtncgenibaclejaaDoorCfZ
import Derived.OpenShut
import Derived.WalkKit
import Derived.ProofKit
namespace Go.Cx
open Go Go.Cf Go.RowKit Go.ChangeShapes Go.WideShapes Go.Deep
set_option linter.unusedVariables false
set_option maxRecDepth 100000
variable {α : Type} {H : Type} {enc : TypeId × Value → H} {P : Program} {w : World} {base : Nat} {held : Bool}

theorem opens_list [Inhabited α] {t e : TypeId} {E : Enc α} (ht : P.underlying t = some (.slice e)) (ce : P.cellsOf e = E.sz) (h : Opens enc P w base held e E (fun a b => a = b)) :
    Opens enc P w base held t SL (fun (s : Sl) (bs : List α) => s.n ≤ s.c ∧ RAr E s bs (mem w)) := by
  intro fuel cs x hx
  obtain ⟨s, bs, h1, h2, zs, h3, h4, h5⟩ := opens_slice ht ce h fuel cs x hx
  have : zs = bs := by
    apply List.ext_getElem h4
    intro i hi hj
    exact h5 i _ _ (List.getElem?_eq_getElem hi) (List.getElem?_eq_getElem hj)
  subst this
  exact ⟨s, zs, h1, h2, h3⟩

theorem opens_str {t : TypeId} (ht : P.underlying t = some .string) : Opens enc P w base held t Cf.ST (fun a b => a = b) := by
  intro fuel cs x hx
  obtain ⟨s, hcs, _⟩ := DataW.trod_string ht hx
  exact ⟨s, s, hcs, rfl⟩
theorem opens_bool {t : TypeId} (ht : P.underlying t = some .bool) : Opens enc P w base held t BL (fun a b => a = b) := by
  intro fuel cs x hx
  obtain ⟨s, hcs, _⟩ := DataW.trod_bool ht hx
  exact ⟨s, s, hcs, rfl⟩
theorem opens_int {t : TypeId} (ht : P.underlying t = some (.int .i64)) : Opens enc P w base held t I64 (fun a b => a = b) := by
  intro fuel cs x hx
  obtain ⟨a, b, h1, h2, _⟩ := opens_i64 ht fuel cs x hx
  exact ⟨a, b, h1, h2⟩
theorem c3 : Pr.cellsOf 3 = 1 := by kernel_rfl
theorem c4 : Pr.cellsOf 4 = 1 := by kernel_rfl
theorem c9 : Pr.cellsOf 9 = 1 := by kernel_rfl
theorem c41 : Pr.cellsOf 41 = 6 := by kernel_rfl
theorem c43 : Pr.cellsOf 43 = 2 := by kernel_rfl
theorem c45 : Pr.cellsOf 45 = 6 := by kernel_rfl

theorem int1 {fuel : Nat} {v : Value} {x : DataW H × List MemPlace} (h : DataW.trod enc Pr w base (fun _ => true) held fuel 3 [v] = some x) : ∃ a : Int, v = .int .i64 a := by
  obtain ⟨a, _, h1, rfl⟩ := opens_int (P := Pr) (t := 3) (by kernel_rfl) _ _ _ h
  exact ⟨a, by simpa [I64] using h1⟩
theorem bool1 {fuel : Nat} {v : Value} {x : DataW H × List MemPlace} (h : DataW.trod enc Pr w base (fun _ => true) held fuel 4 [v] = some x) : ∃ a : Bool, v = .bool a := by
  obtain ⟨a, _, h1, rfl⟩ := opens_bool (P := Pr) (t := 4) (by kernel_rfl) _ _ _ h
  exact ⟨a, by simpa [BL] using h1⟩
theorem str1 {fuel : Nat} {v : Value} {x : DataW H × List MemPlace} (h : DataW.trod enc Pr w base (fun _ => true) held fuel 9 [v] = some x) : ∃ a : ByteArray, v = .string a := by
  obtain ⟨a, _, h1, rfl⟩ := opens_str (P := Pr) (t := 9) (by kernel_rfl) _ _ _ h
  exact ⟨a, by simpa [Cf.ST] using h1⟩

theorem scale1 {fuel : Nat} {cs : List Value} {x : DataW H × List MemPlace} (h : DataW.trod enc Pr w base (fun _ => true) held fuel 41 cs = some x) : ∃ (a b c : Bool) (d e f : Int), cs = [.bool a, .bool b, .bool c, .int .i64 d, .int .i64 e, .int .i64 f] := by
  obtain ⟨xs, n, _, _, hlen, hxs, hf⟩ := DataW.trod_struct Go.Proofs.Tryd.underlying41 h
  rw [c41] at hlen
  match xs, hxs, cs, hlen with
  | [y0, y1, y2, y3, y4, y5], _, [v0, v1, v2, v3, v4, v5], _ =>
    have g0 := hf 0 _ rfl
    have g1 := hf 1 _ rfl
    have g2 := hf 2 _ rfl
    have g3 := hf 3 _ rfl
    have g4 := hf 4 _ rfl
    have g5 := hf 5 _ rfl
    simp [c3, c4] at g0 g1 g2 g3 g4 g5
    obtain ⟨a, rfl⟩ := bool1 g0
    obtain ⟨b, rfl⟩ := bool1 g1
    obtain ⟨c, rfl⟩ := bool1 g2
    obtain ⟨d, rfl⟩ := int1 g3
    obtain ⟨e, rfl⟩ := int1 g4
    obtain ⟨f, rfl⟩ := int1 g5
    exact ⟨a, b, c, d, e, f, rfl⟩
theorem band1 {fuel : Nat} {cs : List Value} {x : DataW H × List MemPlace} (h : DataW.trod enc Pr w base (fun _ => true) held fuel 43 cs = some x) : ∃ (d e : Int), cs = [.int .i64 d, .int .i64 e] := by
  obtain ⟨xs, n, _, _, hlen, hxs, hf⟩ := DataW.trod_struct Go.Proofs.Tryd.underlying43 h
  rw [c43] at hlen
  match xs, hxs, cs, hlen with
  | [y0, y1], _, [v0, v1], _ =>
    have g0 := hf 0 _ rfl
    have g1 := hf 1 _ rfl
    simp [c3, c4] at g0 g1
    obtain ⟨a, rfl⟩ := int1 g0
    obtain ⟨b, rfl⟩ := int1 g1
    exact ⟨a, b, rfl⟩
theorem lim1 {fuel : Nat} {cs : List Value} {x : DataW H × List MemPlace} (h : DataW.trod enc Pr w base (fun _ => true) held fuel 45 cs = some x) : ∃ (a b c : Bool) (d e f : Int), cs = [.bool a, .bool b, .bool c, .int .i64 d, .int .i64 e, .int .i64 f] := by
  obtain ⟨xs, n, _, _, hlen, hxs, hf⟩ := DataW.trod_struct Go.Proofs.Tryd.underlying45 h
  rw [c45] at hlen
  match xs, hxs, cs, hlen with
  | [y0, y1, y2, y3, y4, y5], _, [v0, v1, v2, v3, v4, v5], _ =>
    have g0 := hf 0 _ rfl
    have g1 := hf 1 _ rfl
    have g2 := hf 2 _ rfl
    have g3 := hf 3 _ rfl
    have g4 := hf 4 _ rfl
    have g5 := hf 5 _ rfl
    simp [c3, c4] at g0 g1 g2 g3 g4 g5
    obtain ⟨a, rfl⟩ := bool1 g0
    obtain ⟨b, rfl⟩ := bool1 g1
    obtain ⟨c, rfl⟩ := bool1 g2
    obtain ⟨d, rfl⟩ := int1 g3
    obtain ⟨e, rfl⟩ := int1 g4
    obtain ⟨f, rfl⟩ := int1 g5
    exact ⟨a, b, c, d, e, f, rfl⟩

theorem opens_tag : Opens enc Pr w base held 47 TG (fun a b => a = b) := by
  intro fuel cs x hx
  obtain ⟨xs, n, _, _, hlen, hxs, hf⟩ := DataW.trod_struct Go.Proofs.Tryd.underlying47 hx
  have ce : Pr.cellsOf 47 = 19 := by kernel_rfl
  rw [ce] at hlen
  match xs, hxs, cs, hlen with
  | [y0, y1, y2, y3, y4, y5, y6, y7], _, [v0, v1, v2, v3, v4, v5, v6, v7, v8, v9, v10, v11, v12, v13, v14, v15, v16, v17, v18], _ =>
    have g0 := hf 0 _ rfl
    have g1 := hf 1 _ rfl
    have g2 := hf 2 _ rfl
    have g3 := hf 3 _ rfl
    have g4 := hf 4 _ rfl
    have g5 := hf 5 _ rfl
    have g6 := hf 6 _ rfl
    have g7 := hf 7 _ rfl
    simp [c3, c4, c9, c41, c43, c45] at g0 g1 g2 g3 g4 g5 g6 g7
    obtain ⟨a0, rfl⟩ := str1 g0
    obtain ⟨a1, rfl⟩ := int1 g1
    obtain ⟨a2, rfl⟩ := int1 g2
    obtain ⟨a3, rfl⟩ := int1 g3
    obtain ⟨a4, rfl⟩ := int1 g4
    obtain ⟨b0, b1, b2, b3, b4, b5, e1⟩ := scale1 g5
    obtain ⟨d0, d1, e2⟩ := band1 g6
    obtain ⟨l0, l1, l2, l3, l4, l5, e3⟩ := lim1 g7
    simp only [List.cons.injEq, and_true] at e1 e2 e3
    obtain ⟨rfl, rfl, rfl, rfl, rfl, rfl⟩ := e1
    obtain ⟨rfl, rfl⟩ := e2
    obtain ⟨rfl, rfl, rfl, rfl, rfl, rfl⟩ := e3
    exact ⟨⟨a0, a1, a2, a3, a4, b0, b1, b2, b3, b4, b5, d0, d1, l0, l1, l2, l3, l4, l5⟩, _, rfl, rfl⟩

instance : Inhabited Tag := ⟨tag0⟩
theorem opens_tags : Opens enc Pr w base held 22 SL (fun (s : Sl) (bs : List Tag) => s.n ≤ s.c ∧ RAr TG s bs (mem w)) := opens_list (e := 47) (by kernel_rfl) (by kernel_rfl) opens_tag
theorem mem_weightsAll {e : TypeId} {d : DataW H} {n : Nat} (hn : n ∈ d.weights P e) : ∀ {l : List (DataW H)}, d ∈ l → n ∈ DataW.weightsAll P e l := by
  intro l
  induction l with
  | nil => intro h; cases h
  | cons x l ih =>
    intro h
    unfold DataW.weightsAll
    rcases List.mem_cons.1 h with rfl | h
    · exact List.mem_append_left _ hn
    · exact List.mem_append_right _ (ih h)

theorem slice_weights {t e : TypeId} {xs ys : List (DataW H)} (ht : P.underlying t = some (.slice e)) : DataW.weights P t (.slice xs ys) = (xs.length + ys.length) * P.bytesOf e :: (DataW.weightsAll P e xs ++ DataW.weightsAll P e ys) := by
  unfold DataW.weights
  rw [ht]


theorem sl1 {v : Value} {s : Sl} (h : [v] = SL.f s) : v = s.v := by simpa [SL] using h
theorem c22 : Pr.cellsOf 22 = 1 := by kernel_rfl

theorem tags_len {fuel : Nat} {s : Sl} {x : DataW H × List MemPlace} (h : DataW.trod enc Pr w base (fun _ => true) held fuel 22 [s.v] = some x) (hz : (x.1.weights Pr 22).all (· ≤ reachBytes) = true) : s.n ≤ 1099511627744 := by
  rcases open_slice Go.Proofs.Tryd.underlying22 h with ⟨hcs, _⟩ | ⟨a2, len2, cap2, m2, n2, D2, Pl2, hcs, _, _, _, _, heq, _⟩
  · obtain ⟨q1, q2, q3⟩ := s
    simp only [Sl.v, List.cons.injEq, Value.slice.injEq, and_true] at hcs
    simp only; omega
  obtain ⟨q1, q2', q3'⟩ := s
  simp only [Sl.v, List.cons.injEq, Value.slice.injEq, and_true] at hcs
  obtain ⟨rfl, rfl, rfl⟩ := hcs
  have hD : x.1 = .slice ((List.range q2').map D2) ((List.range (m2 - q2')).map fun j => D2 (q2' + j)) := congrArg Prod.fst heq
  have hb : Pr.bytesOf 47 = 128 := by kernel_rfl
  have hmem : (q2' + (m2 - q2')) * 128 ∈ x.1.weights Pr 22 := by
    rw [hD, slice_weights Go.Proofs.Tryd.underlying22, hb]
    simp
  have := List.all_eq_true.1 hz _ hmem
  have hrb : reachBytes = 140737488351232 := rfl
  rw [hrb] at this
  have := of_decide_eq_true this
  simp only; omega

theorem config1 {fuel : Nat} {cs : List Value} {x : DataW H × List MemPlace} (h : DataW.trod enc Pr w base (fun _ => true) held fuel 24 cs = some x) (hz : (x.1.weights Pr 24).all (· ≤ reachBytes) = true) : ∃ (c : Cfg) (s : Sl), cs = c.cs s ∧ s.n ≤ s.c ∧ RAr TG s c.tags (mem w) ∧ c.tags.length ≤ 1099511627744 := by
  obtain ⟨xs, n, _, hx0, hlen, hxs, hf⟩ := DataW.trod_struct Go.Proofs.Tryd.underlying24 h
  have ce : Pr.cellsOf 24 = 7 := by kernel_rfl
  rw [ce] at hlen
  subst hx0
  match xs, hxs, cs, hlen with
  | [y0, y1, y2, y3, y4, y5, y6], _, [v0, v1, v2, v3, v4, v5, v6], _ =>
    have g0 := hf 0 _ rfl
    have g1 := hf 1 _ rfl
    have g2 := hf 2 _ rfl
    have g3 := hf 3 _ rfl
    have g4 := hf 4 _ rfl
    have g5 := hf 5 _ rfl
    have g6 := hf 6 _ rfl
    simp [c3, c22] at g0 g1 g2 g3 g4 g5 g6
    obtain ⟨a0, rfl⟩ := int1 g0
    obtain ⟨a1, rfl⟩ := int1 g1
    obtain ⟨a2, rfl⟩ := int1 g2
    obtain ⟨a3, rfl⟩ := int1 g3
    obtain ⟨a4, rfl⟩ := int1 g4
    obtain ⟨a5, rfl⟩ := int1 g5
    obtain ⟨s, ts, hs, hc, hr⟩ := opens_tags _ _ _ g6
    obtain rfl := sl1 hs
    have hw : (y6.1.weights Pr 22).all (· ≤ reachBytes) = true := by
      refine List.all_eq_true.2 fun n hn => List.all_eq_true.1 hz n ?_
      unfold DataW.weights
      rw [Go.Proofs.Tryd.underlying24]
      simp only [List.map_cons, List.map_nil, DataW.weightsEach]
      exact List.mem_append_right _ (List.mem_append_right _ (List.mem_append_right _ (List.mem_append_right _ (List.mem_append_right _ (List.mem_append_right _ (List.mem_append_left _ hn))))))
    have := tags_len g6 hw
    exact ⟨⟨a0, a1, a2, a3, a4, a5, ts⟩, s, rfl, hc, hr, by rw [hr.1]; exact this⟩

end Go.Cx
