/-
  The plain law of what the document's own reader of numbers, words and places comes to; its calls.
-/
import Derived.Test.YtncgenibaclejaaGreatDoorPE
namespace Go.Cx
open Go Go.Cf
set_option linter.unusedVariables false
set_option maxRecDepth 100000
variable {B : Base} {As F : List HP} {α : Type}

theorem bare_drop (w : List UInt8) : bare w = w.drop (if isNeg w = true then 1 else 0) := by
  unfold bare isNeg
  cases w with
  | nil => rfl
  | cons b r =>
    by_cases h : b = 45
    · subst h; rfl
    · have : (b == 45) = false := by simpa using h
      simp [h]
def frm (w : List UInt8) : Nat := if isNeg w = true then 1 else 0
def rawV (w : List UInt8) : Int := if isNeg w = true then -(decV (bare w) : Int) else decV (bare w)
theorem decV_lt' {l : List UInt8} (hd : l.all isDig = true) : decV l < 10 ^ l.length := by
  have := decV_lt l 0 0 hd (by decide)
  rw [Nat.zero_add] at this
  exact this
theorem decV_lt13 {l : List UInt8} (hd : l.all isDig = true) (h : l.length ≤ 13) : decV l < 10000000000000 := by
  have h1 := decV_lt' hd
  have hp : 10 ^ l.length ≤ 10 ^ 13 := Nat.pow_le_pow_right (by decide) h
  have hp13 : (10 : Nat) ^ 13 = 10000000000000 := by decide
  omega
theorem rawV_lt {w : List UInt8} (h2 : (bare w).length ≤ 13) (hd : (bare w).all isDig = true) : -10000000000000 < rawV w ∧ rawV w < 10000000000000 := by
  have := decV_lt13 hd h2
  unfold rawV
  split <;> omega
theorem numI_ok {w : List UInt8} (h : numOk w = true) : numI w = some (rawV w) := by unfold numI rawV; rw [if_pos h]
theorem numI_no {w : List UInt8} (h : numOk w = false) : numI w = none := by unfold numI; rw [if_neg (by rw [h]; decide)]
theorem numI_raw {w : List UInt8} (h1 : 1 ≤ (bare w).length) (h2 : (bare w).length ≤ 13) (hd : (bare w).all isDig = true) : (numI w).isSome = (Lib.itoa (rawV w) == w) ∧ ∀ v, numI w = some v → v = rawV w := by
  obtain ⟨l1, l2⟩ := rawV_lt h2 hd
  rcases Bool.eq_false_or_eq_true (numOk w) with h | h
  · have e := numI_ok h
    have := (itoa_of_num e).1
    rw [e, this]
    exact ⟨by simp, fun v hv => (Option.some.inj hv).symm⟩
  · have e := numI_no h
    refine ⟨?_, fun v hv => by rw [e] at hv; cases hv⟩
    rw [e]
    refine (beq_eq_false_iff_ne.2 fun hi => ?_).symm
    have := num_of_itoa l1 l2
    rw [hi, e] at this
    cases this
theorem numI_len {w : List UInt8} (h : (bare w).length < 1 ∨ (bare w).length > 13) : numI w = none := by
  rcases Bool.eq_false_or_eq_true (numOk w) with h' | h'
  · obtain ⟨h1, h2, _⟩ := numOk_parts h'
    omega
  · exact numI_no h'
theorem numI_dig {w : List UInt8} {k : Nat} {b : UInt8} (hb : (bare w)[k]? = some b) (h : isDig b = false) : numI w = none := by
  rcases Bool.eq_false_or_eq_true (numOk w) with h' | h'
  · obtain ⟨_, _, _, _, h5⟩ := numOk_parts h'
    have := List.all_eq_true.1 h5 b (List.mem_of_getElem? hb)
    rw [h] at this; cases this
  · exact numI_no h'

/-! Places. -/
def placeFrom (i : Nat) (w : List UInt8) : List (List UInt8) → Int
  | [] => -1
  | x :: r => if x = w then (i : Int) else placeFrom (i + 1) w r
def placeI (l : List (List UInt8)) (w : List UInt8) : Int := placeFrom 0 w l
def kindsW : List (List UInt8) := [[99, 111, 105, 108], [105, 110, 112, 117, 116], [104, 111, 108, 100, 105, 110, 103], [114, 101, 103, 105, 115, 116, 101, 114]]
def flagsW : List (List UInt8) := [[45], [119], [115], [119, 115], [120], [119, 120], [115, 120], [119, 115, 120]]
theorem place_kind (w : List UInt8) : placeI kindsW w = kindV w - 1 := by
  unfold placeI kindsW kindV
  simp only [placeFrom]
  by_cases h1 : w = [99, 111, 105, 108]
  · subst h1; rfl
  by_cases h2 : w = [105, 110, 112, 117, 116]
  · subst h2; rfl
  by_cases h3 : w = [104, 111, 108, 100, 105, 110, 103]
  · subst h3; rfl
  by_cases h4 : w = [114, 101, 103, 105, 115, 116, 101, 114]
  · subst h4; rfl
  rw [if_neg h1, if_neg h2, if_neg h3, if_neg h4, if_neg (fun e => h1 e.symm), if_neg (fun e => h2 e.symm), if_neg (fun e => h3 e.symm), if_neg (fun e => h4 e.symm)]
  rfl
theorem placeFrom_get {w : List UInt8} : ∀ {l : List (List UInt8)} {i : Nat}, placeFrom i w l < 0 ∨ ∃ k : Nat, placeFrom i w l = ((i + k : Nat) : Int) ∧ l[k]? = some w
  | [], i => .inl (by simp [placeFrom])
  | x :: r, i => by
    unfold placeFrom
    split
    · rename_i h; exact .inr ⟨0, by simp, by simp [h]⟩
    · rcases placeFrom_get (w := w) (l := r) (i := i + 1) with h | ⟨k, h1, h2⟩
      · exact .inl h
      · exact .inr ⟨k + 1, by rw [h1]; omega, by simpa using h2⟩
theorem flag_list {w : List UInt8} {a b c : Bool} (h : flagV w = some (a, b, c)) : w ∈ flagsW := by
  have := flag_only h
  rw [← this]
  cases a <;> cases b <;> cases c <;> decide
theorem place_flag (w : List UInt8) : flagV w = if placeI flagsW w < 0 then none else some (decide ((placeI flagsW w).tmod 2 = 1), decide (((placeI flagsW w).tdiv 2).tmod 2 = 1), decide ((placeI flagsW w).tdiv 4 = 1)) := by
  by_cases h : w ∈ flagsW
  · simp only [flagsW, List.mem_cons, List.not_mem_nil, or_false] at h
    rcases h with rfl | rfl | rfl | rfl | rfl | rfl | rfl | rfl <;> decide
  · have hn : flagV w = none := by
      cases e : flagV w with
      | none => rfl
      | some x => exact absurd (flag_list (a := x.1) (b := x.2.1) (c := x.2.2) e) h
    have hp : placeI flagsW w < 0 := by
      unfold placeI
      rcases placeFrom_get (w := w) (l := flagsW) (i := 0) with h' | ⟨k, _, h2⟩
      · exact h'
      · exact absurd (List.mem_of_getElem? h2) h
    rw [hn, if_pos hp]

/-! Numbers. -/
def numsI : List (List UInt8) → Option (List Int)
  | [] => some []
  | w :: r => match numI w with
    | none => none
    | some v => (numsI r).map (v :: ·)
theorem numsI_some : ∀ {ws : List (List UInt8)} {vs : List Int}, numsI ws = some vs → vs.length = ws.length ∧ ∀ i, i < ws.length → numI ((ws[i]?).getD []) = vs[i]?
  | [], vs, h => by
    simp only [numsI, Option.some.injEq] at h
    subst h
    exact ⟨rfl, fun i hi => absurd hi (by simp)⟩
  | w :: r, vs, h => by
    unfold numsI at h
    cases e : numI w with
    | none => rw [e] at h; cases h
    | some v =>
      rw [e] at h
      obtain ⟨us, hu, rfl⟩ := Option.map_eq_some_iff.1 h
      obtain ⟨h1, h2⟩ := numsI_some hu
      refine ⟨by simp [h1], fun i hi => ?_⟩
      cases i with
      | zero => simpa using e
      | succ i => simpa using h2 i (by simpa using hi)
theorem numsI_none : ∀ {ws : List (List UInt8)}, numsI ws = none → ∃ w ∈ ws, numI w = none
  | [], h => by cases h
  | w :: r, h => by
    unfold numsI at h
    cases e : numI w with
    | none => exact ⟨w, by simp, e⟩
    | some v =>
      rw [e] at h
      obtain ⟨x, hx, h2⟩ := numsI_none (Option.map_eq_none_iff.1 h)
      exact ⟨x, by simp [hx], h2⟩
theorem numsI_take {ws : List (List UInt8)} {k : Nat} {vs : List Int} {w : List UInt8} (h : numsI (ws.take k) = some vs) (hw : ws[k]? = some w) : numsI (ws.take (k + 1)) = (numI w).map fun v => vs ++ [v] := by
  rw [← take_snoc27 hw]
  have gen : ∀ (l : List (List UInt8)) (vs : List Int), numsI l = some vs → numsI (l ++ [w]) = (numI w).map fun v => vs ++ [v] := by
    intro l
    induction l with
    | nil =>
      intro vs h
      simp only [numsI, Option.some.injEq] at h
      subst h
      simp only [List.nil_append, numsI]
      cases numI w <;> rfl
    | cons x r ih =>
      intro vs h
      unfold numsI at h
      cases e : numI x with
      | none => rw [e] at h; cases h
      | some v =>
        rw [e] at h
        obtain ⟨us, hu, rfl⟩ := Option.map_eq_some_iff.1 h
        rw [List.cons_append]
        conv => lhs; unfold numsI
        rw [e]
        simp only
        rw [ih us hu]
        cases numI w <;> rfl
  exact gen _ vs h
theorem numsI_bad : ∀ {ws : List (List UInt8)} {w : List UInt8}, w ∈ ws → numI w = none → numsI ws = none
  | [], w, h, _ => by cases h
  | x :: r, w, h, hw => by
    unfold numsI
    rcases List.mem_cons.1 h with rfl | h
    · rw [hw]
    · cases e : numI x with
      | none => rfl
      | some v => simp only [numsI_bad h hw]; rfl

end Go.Cx
