/-
  A tree of keys as its pages: what stands in it in order, what a put and a split make of it, what a range tells.
-/
import Derived.Test.YtifochbabgjhpaaGreatDoorCfW
namespace Go.Cx
open Go Go.Cf
set_option linter.unusedVariables false
set_option maxRecDepth 100000

abbrev KY := Int × Int
def ltK (a b : KY) : Bool := decide (a.1 < b.1) || (decide (a.1 = b.1) && decide (a.2 < b.2))
theorem ltK_iff {a b : KY} : ltK a b = true ↔ a.1 < b.1 ∨ (a.1 = b.1 ∧ a.2 < b.2) := by
  unfold ltK; simp only [Bool.or_eq_true, Bool.and_eq_true, decide_eq_true_eq]
theorem ltK_irr (a : KY) : ltK a a = false := by
  rw [Bool.eq_false_iff]; intro h
  rcases ltK_iff.1 h with h | h <;> omega
theorem ltK_trans {a b c : KY} (h1 : ltK a b = true) (h2 : ltK b c = true) : ltK a c = true := by
  rw [ltK_iff] at *; omega
theorem ltK_tri (a b : KY) : ltK a b = true ∨ a = b ∨ ltK b a = true := by
  rw [ltK_iff, ltK_iff]
  by_cases h : a = b
  · exact .inr (.inl h)
  · have : a.1 ≠ b.1 ∨ a.2 ≠ b.2 := by
      by_cases h1 : a.1 = b.1
      · exact .inr fun h2 => h (Prod.ext h1 h2)
      · exact .inl h1
    omega
theorem ltK_asym {a b : KY} (h : ltK a b = true) : ltK b a = false := by
  rw [Bool.eq_false_iff]; intro h2
  have := ltK_trans h h2
  rw [ltK_irr] at this; cases this
abbrev SrtK (l : List KY) : Prop := l.Pairwise fun a b => ltK a b = true

/-! What stands in a page, in order. -/
structure Pg (α : Type) where
  ks : List KY
  vs : List Int
  kids : List α
def PT : Nat → Type
  | 0 => Pg Empty
  | n + 1 => Pg (PT n)
def mix : List KY → List (List KY) → List KY
  | ks, [] => ks
  | [], l :: _ => l
  | k :: ks, l :: ls => l ++ k :: mix ks ls
def keysT : (n : Nat) → PT n → List KY
  | 0, (p : Pg Empty) => p.ks
  | n + 1, (p : Pg (PT n)) => mix p.ks (p.kids.map (keysT n))
def goodT : (n : Nat) → PT n → Prop
  | 0, (p : Pg Empty) => p.ks.length ≤ 15 ∧ p.vs.length = p.ks.length
  | n + 1, (p : Pg (PT n)) => p.ks.length ≤ 15 ∧ p.vs.length = p.ks.length ∧ p.kids.length = p.ks.length + 1 ∧ ∀ k ∈ p.kids, goodT n k
/-- What stands ahead of the kid at a place, and behind it. -/
def mixA : List KY → List (List KY) → Nat → List KY
  | k :: ks, l :: ls, i + 1 => l ++ k :: mixA ks ls i
  | _, _, _ => []
def mixZ : List KY → List (List KY) → Nat → List KY
  | k :: ks, _ :: ls, i + 1 => mixZ ks ls i
  | k :: ks, _ :: ls, 0 => k :: mix ks ls
  | _, _, _ => []

theorem mix_at : ∀ {ks : List KY} {ls : List (List KY)} (i : Nat) {x : List KY}, ls.length = ks.length + 1 → ls[i]? = some x → mix ks ls = mixA ks ls i ++ (x ++ mixZ ks ls i)
  | ks, [], i, x, h, hx => by simp at h
  | [], [l], 0, x, h, hx => by
    obtain rfl : l = x := by simpa using hx
    simp [mix, mixA, mixZ]
  | [], [l], i + 1, x, h, hx => by simp at hx
  | [], l :: l2 :: ls, i, x, h, hx => by simp at h
  | k :: ks, l :: ls, 0, x, h, hx => by
    obtain rfl : l = x := by simpa using hx
    simp [mix, mixA, mixZ]
  | k :: ks, l :: ls, i + 1, x, h, hx => by
    have ih := mix_at (ks := ks) (ls := ls) i (x := x) (by simpa using h) (by simpa using hx)
    simp only [mix, mixA, mixZ, ih, List.append_assoc, List.cons_append]
theorem mix_set : ∀ {ks : List KY} {ls : List (List KY)} (i : Nat) (x : List KY), ls.length = ks.length + 1 → i < ls.length → mix ks (ls.set i x) = mixA ks ls i ++ (x ++ mixZ ks ls i)
  | ks, [], i, x, h, hx => by simp at h
  | [], [l], 0, x, h, hx => by simp [mix, mixA, mixZ]
  | [], [l], i + 1, x, h, hx => by simp at hx
  | [], l :: l2 :: ls, i, x, h, hx => by simp at h
  | k :: ks, l :: ls, 0, x, h, hx => by simp [mix, mixA, mixZ]
  | k :: ks, l :: ls, i + 1, x, h, hx => by
    have ih := mix_set (ks := ks) (ls := ls) i x (by simpa using h) (by simpa using hx)
    simp only [List.set_cons_succ, mix, mixA, mixZ, ih, List.append_assoc, List.cons_append]
/-- A place's list: put into it. -/
def insAt {α : Type} (l : List α) (i : Nat) (x : α) : List α := l.take i ++ x :: l.drop i
theorem insAt_len {α : Type} (l : List α) (i : Nat) (x : α) : (insAt l i x).length = l.length + 1 := by
  unfold insAt
  have := congrArg List.length (List.take_append_drop i l)
  simp only [List.length_append, List.length_cons] at this ⊢
  omega
theorem mix_split : ∀ {ks : List KY} {ls : List (List KY)} (i : Nat) (m : KY) (a b : List KY), ls.length = ks.length + 1 → i < ls.length → mix (insAt ks i m) (insAt (ls.set i a) (i + 1) b) = mixA ks ls i ++ ((a ++ m :: b) ++ mixZ ks ls i)
  | ks, [], i, m, a, b, h, hx => by simp at h
  | [], [l], 0, m, a, b, h, hx => by simp [insAt, mix, mixA, mixZ]
  | [], [l], i + 1, m, a, b, h, hx => by simp at hx
  | [], l :: l2 :: ls, i, m, a, b, h, hx => by simp at h
  | k :: ks, l :: ls, 0, m, a, b, h, hx => by
    cases ls with
    | nil => simp at h
    | cons l2 ls => simp [insAt, mix, mixA, mixZ]
  | k :: ks, l :: ls, i + 1, m, a, b, h, hx => by
    have ih := mix_split (ks := ks) (ls := ls) i m a b (by simpa using h) (by simpa using hx)
    simp only [insAt] at ih
    simp only [insAt, List.set_cons_succ, List.take_succ_cons, List.drop_succ_cons, List.cons_append, mix, mixA, mixZ, ih, List.append_assoc]
/-- A full page parted. -/
theorem mix_part : ∀ {ks : List KY} {ls : List (List KY)} (d : Nat) {m : KY}, ls.length = ks.length + 1 → ks[d]? = some m → mix ks ls = mix (ks.take d) (ls.take (d + 1)) ++ m :: mix (ks.drop (d + 1)) (ls.drop (d + 1))
  | [], ls, d, m, h, hm => by simp at hm
  | ks, [], d, m, h, hm => by simp at h
  | k :: ks, [l], d, m, h, hm => by simp at h
  | k :: ks, l :: l2 :: ls, 0, m, h, hm => by
    obtain rfl : k = m := by simpa using hm
    simp [mix]
  | k :: ks, l :: l2 :: ls, d + 1, m, h, hm => by
    have ih := mix_part (ks := ks) (ls := l2 :: ls) d (m := m) (by simpa using h) (by simpa using hm)
    simp only [mix, List.take_succ_cons, List.drop_succ_cons, ih, List.append_assoc, List.cons_append]
theorem mixA_last : ∀ {ks : List KY} {ls : List (List KY)} (i : Nat) {k : KY}, ls.length = ks.length + 1 → ks[i]? = some k → ∃ a, mixA ks ls (i + 1) = a ++ [k]
  | [], ls, i, k, h, hk => by simp at hk
  | k' :: ks, [], i, k, h, hk => by simp at h
  | k' :: ks, l :: ls, 0, k, h, hk => by
    obtain rfl : k' = k := by simpa using hk
    exact ⟨l, by cases ks <;> cases ls <;> simp [mixA]⟩
  | k' :: ks, l :: ls, i + 1, k, h, hk => by
    obtain ⟨a, ha⟩ := mixA_last (ks := ks) (ls := ls) i (k := k) (by simpa using h) (by simpa using hk)
    exact ⟨l ++ k' :: a, by rw [mixA, ha]; simp⟩
theorem mixA_zero (ks : List KY) (ls : List (List KY)) : mixA ks ls 0 = [] := by cases ks <;> cases ls <;> simp [mixA]
theorem mixZ_head : ∀ {ks : List KY} {ls : List (List KY)} (i : Nat) {k : KY}, ls.length = ks.length + 1 → ks[i]? = some k → ∃ z, mixZ ks ls i = k :: z
  | [], ls, i, k, h, hk => by simp at hk
  | k' :: ks, [], i, k, h, hk => by simp at h
  | k' :: ks, l :: ls, 0, k, h, hk => by
    obtain rfl : k' = k := by simpa using hk
    exact ⟨mix ks ls, rfl⟩
  | k' :: ks, l :: ls, i + 1, k, h, hk => by
    obtain ⟨z, hz⟩ := mixZ_head (ks := ks) (ls := ls) i (k := k) (by simpa using h) (by simpa using hk)
    exact ⟨z, by rw [mixZ, hz]⟩
theorem mixZ_end : ∀ {ks : List KY} {ls : List (List KY)} (i : Nat), ks.length ≤ i → mixZ ks ls i = []
  | [], ls, i, h => by simp [mixZ]
  | k :: ks, [], i, h => by simp [mixZ]
  | k :: ks, l :: ls, 0, h => by simp at h
  | k :: ks, l :: ls, i + 1, h => by rw [mixZ]; exact mixZ_end i (by simpa using h)
/-- The next place: the kid and the key there. -/
theorem mixA_succ : ∀ {ks : List KY} {ls : List (List KY)} (i : Nat) {k : KY} {x : List KY}, ks[i]? = some k → ls[i]? = some x → mixA ks ls (i + 1) = mixA ks ls i ++ (x ++ [k])
  | [], ls, i, k, x, hk, hx => by simp at hk
  | k' :: ks, [], i, k, x, hk, hx => by simp at hx
  | k' :: ks, l :: ls, 0, k, x, hk, hx => by
    obtain rfl : k' = k := by simpa using hk
    obtain rfl : l = x := by simpa using hx
    cases ks <;> cases ls <;> simp [mixA]
  | k' :: ks, l :: ls, i + 1, k, x, hk, hx => by
    have ih := mixA_succ (ks := ks) (ls := ls) i (k := k) (x := x) (by simpa using hk) (by simpa using hx)
    rw [mixA, ih, mixA]; simp

/-! A key put into a row in order. -/
def insK (k : KY) (l : List KY) : List KY := if k ∈ l then l else l.filter (ltK · k) ++ k :: l.filter (ltK k ·)
theorem ins_mid {k : KY} {a x z : List KY} (ha : ∀ y ∈ a, ltK y k = true) (hz : ∀ y ∈ z, ltK k y = true) : insK k (a ++ (x ++ z)) = a ++ (insK k x ++ z) := by
  have na : k ∉ a := fun h => by have := ha k h; rw [ltK_irr] at this; cases this
  have nz : k ∉ z := fun h => by have := hz k h; rw [ltK_irr] at this; cases this
  unfold insK
  by_cases h : k ∈ x
  · rw [if_pos (by simp [h]), if_pos h]
  · rw [if_neg (by simp [h, na, nz]), if_neg h]
    have e1 : a.filter (ltK · k) = a := List.filter_eq_self.2 ha
    have e2 : z.filter (ltK k ·) = z := List.filter_eq_self.2 hz
    have e3 : z.filter (ltK · k) = [] := List.filter_eq_nil_iff.2 fun y hy => by rw [ltK_asym (hz y hy)]; decide
    have e4 : a.filter (ltK k ·) = [] := List.filter_eq_nil_iff.2 fun y hy => by rw [ltK_asym (ha y hy)]; decide
    simp only [List.filter_append, e1, e2, e3, e4, List.append_nil, List.nil_append, List.append_assoc, List.cons_append]
theorem ins_mem {k : KY} {l : List KY} (h : k ∈ l) : insK k l = l := by unfold insK; rw [if_pos h]
theorem srt_all_lt {a : List KY} {m k : KY} (hs : SrtK (a ++ [m])) (hm : ltK m k = true) : ∀ y ∈ a ++ [m], ltK y k = true := by
  intro y hy
  rcases List.mem_append.1 hy with h | h
  · exact ltK_trans ((List.pairwise_append.1 hs).2.2 y h m (by simp)) hm
  · obtain rfl : y = m := by simpa using h
    exact hm
theorem srt_all_gt {z : List KY} {m k : KY} (hs : SrtK (m :: z)) (hm : ltK k m = true) : ∀ y ∈ m :: z, ltK k y = true := by
  intro y hy
  rcases List.mem_cons.1 hy with rfl | h
  · exact hm
  · exact ltK_trans hm ((List.pairwise_cons.1 hs).1 y h)
theorem ins_at {k : KY} {l : List KY} {i : Nat} (h1 : ∀ y ∈ l.take i, ltK y k = true) (h2 : ∀ y ∈ l.drop i, ltK k y = true) : insK k l = insAt l i k := by
  have := ins_mid (k := k) (a := l.take i) (x := []) (z := l.drop i) h1 h2
  rw [List.nil_append, List.take_append_drop] at this
  rw [this]; rfl
theorem ins_srt {k : KY} {l : List KY} (h : SrtK l) : SrtK (insK k l) := by
  unfold insK
  split
  · exact h
  · rename_i hk
    refine List.pairwise_append.2 ⟨h.filter _, List.pairwise_cons.2 ⟨fun y hy => (List.mem_filter.1 hy).2, h.filter _⟩, fun a ha b hb => ?_⟩
    have h1 := (List.mem_filter.1 ha).2
    rcases List.mem_cons.1 hb with rfl | hb
    · exact h1
    · exact ltK_trans h1 (List.mem_filter.1 hb).2
theorem ins_iff {k y : KY} {l : List KY} (h : SrtK l) : y ∈ insK k l ↔ y = k ∨ y ∈ l := by
  unfold insK
  split
  · rename_i hk
    exact ⟨.inr, fun h => h.elim (fun e => e ▸ hk) id⟩
  · rename_i hk
    simp only [List.mem_append, List.mem_cons, List.mem_filter]
    constructor
    · rintro (h | h | h)
      · exact .inr h.1
      · exact .inl h
      · exact .inr h.1
    · rintro (rfl | h)
      · exact .inr (.inl rfl)
      · rcases ltK_tri y k with h1 | rfl | h1
        · exact .inl ⟨h, h1⟩
        · exact absurd h hk
        · exact .inr (.inr ⟨h, h1⟩)
theorem filter_part {k : KY} : ∀ (l : List KY), k ∉ l → (l.filter (ltK · k)).length + (l.filter (ltK k ·)).length = l.length
  | [], _ => rfl
  | y :: r, hk => by
    have hr : k ∉ r := fun h => hk (List.mem_cons_of_mem _ h)
    have ih := filter_part r hr
    have hy : y ≠ k := fun e => hk (by rw [e]; exact List.mem_cons_self ..)
    rcases ltK_tri y k with h1 | e | h1
    · rw [List.filter_cons_of_pos (p := fun x => ltK x k) h1, List.filter_cons_of_neg (p := fun x => ltK k x) (by rw [ltK_asym h1]; decide), List.length_cons, List.length_cons]; omega
    · exact absurd e hy
    · rw [List.filter_cons_of_neg (p := fun x => ltK x k) (by rw [ltK_asym h1]; decide), List.filter_cons_of_pos (p := fun x => ltK k x) h1, List.length_cons, List.length_cons]; omega
theorem ins_len {k : KY} {l : List KY} (h : k ∉ l) : (insK k l).length = l.length + 1 := by
  unfold insK
  rw [if_neg h, List.length_append, List.length_cons]
  have := filter_part l h
  omega

/-! A range. -/
def rngK (a b : KY) (l : List KY) : List KY := l.filter fun x => !(ltK x a) && ltK x b
theorem rng_app (a b : KY) (l m : List KY) : rngK a b (l ++ m) = rngK a b l ++ rngK a b m := List.filter_append _ _
theorem rng_low {a b : KY} {l : List KY} (h : ∀ y ∈ l, ltK y a = true) : rngK a b l = [] := List.filter_eq_nil_iff.2 fun y hy => by rw [h y hy]; simp
theorem rng_high {a b : KY} {l : List KY} (h : ∀ y ∈ l, ltK y b = false) : rngK a b l = [] := List.filter_eq_nil_iff.2 fun y hy => by rw [h y hy, Bool.and_false]; decide
theorem rng_one {a b k : KY} (h1 : ltK k a = false) (h2 : ltK k b = true) : rngK a b [k] = [k] := by
  unfold rngK; rw [List.filter_cons_of_pos (by rw [h1, h2]; rfl)]; rfl
theorem ge_of {b m : KY} (h : ltK m b = false) {z : List KY} (hs : SrtK (m :: z)) : ∀ y ∈ m :: z, ltK y b = false := by
  intro y hy
  rw [Bool.eq_false_iff]; intro h2
  rcases List.mem_cons.1 hy with rfl | hy
  · rw [h] at h2; cases h2
  · have := ltK_trans ((List.pairwise_cons.1 hs).1 y hy) h2
    rw [h] at this; cases this

/-! Where a key stands in a page, or would. -/
def plK (ks : List KY) (k : KY) : Nat := (ks.takeWhile (ltK · k)).length
theorem plK_le (ks : List KY) (k : KY) : plK ks k ≤ ks.length := (List.takeWhile_sublist _).length_le
theorem plK_lt {ks : List KY} {k : KY} : ∀ j y, j < plK ks k → ks[j]? = some y → ltK y k = true := by
  intro j y hj hy
  have hp : ks.takeWhile (ltK · k) <+: ks := List.takeWhile_prefix _
  have e : (ks.takeWhile (ltK · k))[j]? = some y := by
    obtain ⟨t, ht⟩ := hp
    rw [← ht, List.getElem?_append_left hj] at hy
    exact hy
  exact List.all_eq_true.1 (List.all_takeWhile (p := fun x => ltK x k) (l := ks)) y (List.mem_of_getElem? e)
theorem plK_ge {ks : List KY} {k y : KY} (h : ks[plK ks k]? = some y) : ltK y k = false := by
  unfold plK at h
  induction ks with
  | nil => simp at h
  | cons x r ih =>
    cases hx : ltK x k with
    | true =>
      rw [List.takeWhile_cons_of_pos (p := fun x => ltK x k) hx] at h
      simp only [List.length_cons, List.getElem?_cons_succ] at h
      exact ih h
    | false =>
      rw [List.takeWhile_cons_of_neg (p := fun x => ltK x k) (by rw [hx]; decide)] at h
      obtain rfl : x = y := by simpa using h
      exact hx

/-- A page in order: what is ahead of a key's place is below it. -/
theorem ahead_lt {ks : List KY} {ls : List (List KY)} {k : KY} (hl : ls.length = ks.length + 1) (hs : SrtK (mix ks ls)) : ∀ y ∈ mixA ks ls (plK ks k), ltK y k = true := by
  cases hp : plK ks k with
  | zero => rw [mixA_zero]; simp
  | succ i =>
    have hi : i < ks.length := by have := plK_le ks k; omega
    have hk : ks[i]? = some ks[i] := List.getElem?_eq_getElem hi
    obtain ⟨a, ha⟩ := mixA_last i hl hk
    have hx : ls[i + 1]? = some ls[i + 1] := List.getElem?_eq_getElem (by omega)
    rw [mix_at (i + 1) hl hx, ha] at hs
    rw [ha]
    exact srt_all_lt (List.pairwise_append.1 hs).1 (plK_lt i _ (by omega) hk)
theorem behind_gt {ks : List KY} {ls : List (List KY)} {k : KY} (hl : ls.length = ks.length + 1) (hs : SrtK (mix ks ls)) (hn : ks[plK ks k]? ≠ some k) : ∀ y ∈ mixZ ks ls (plK ks k), ltK k y = true := by
  by_cases hp : plK ks k < ks.length
  · have hk : ks[plK ks k]? = some ks[plK ks k] := List.getElem?_eq_getElem hp
    obtain ⟨z, hz⟩ := mixZ_head (plK ks k) hl hk
    have hx : ls[plK ks k]? = some ls[plK ks k] := List.getElem?_eq_getElem (by omega)
    rw [mix_at (plK ks k) hl hx, hz] at hs
    rw [hz]
    refine srt_all_gt (List.pairwise_append.1 (List.pairwise_append.1 hs).2.1).2.1 ?_
    rcases ltK_tri k ks[plK ks k] with h | h | h
    · exact h
    · rw [hk, ← h] at hn; exact absurd rfl hn
    · rw [plK_ge hk] at h; cases h
  · rw [mixZ_end _ (by omega)]; simp
theorem mix_mem {ks : List KY} {ls : List (List KY)} {i : Nat} {k : KY} (hl : ls.length = ks.length + 1) (hk : ks[i]? = some k) : k ∈ mix ks ls := by
  have hi := (List.getElem?_eq_some_iff.1 hk).1
  have hx : ls[i]? = some ls[i] := List.getElem?_eq_getElem (by omega)
  obtain ⟨z, hz⟩ := mixZ_head i hl hk
  rw [mix_at i hl hx, hz]; simp
/-- A leaf: the key put. -/
theorem leaf_ins {ks : List KY} {k : KY} (hs : SrtK ks) (hn : ks[plK ks k]? ≠ some k) : insAt ks (plK ks k) k = insK k ks := by
  refine (ins_at (fun y hy => ?_) fun y hy => ?_).symm
  · obtain ⟨j, hj⟩ := List.getElem?_of_mem hy
    rw [List.getElem?_take] at hj
    split at hj
    · rename_i h; exact plK_lt j y h hj
    · cases hj
  · by_cases hp : plK ks k < ks.length
    · have hk : ks[plK ks k]? = some ks[plK ks k] := List.getElem?_eq_getElem hp
      rw [List.drop_eq_getElem_cons hp] at hy
      have hs' : SrtK (ks[plK ks k] :: ks.drop (plK ks k + 1)) := by
        rw [← List.drop_eq_getElem_cons hp]; exact hs.sublist (List.drop_sublist _ _)
      refine srt_all_gt hs' ?_ y hy
      rcases ltK_tri k ks[plK ks k] with h | h | h
      · exact h
      · rw [hk, ← h] at hn; exact absurd rfl hn
      · rw [plK_ge hk] at h; cases h
    · rw [List.drop_of_length_le (by omega)] at hy; simp at hy

end Go.Cx
