/-
  A journal of commands, as a law of lists.
-/
import Derived.Test.YthnfnfhcgpnkpaaOA
import Derived.Test.YthnfnfhcgpnkpaaCE
namespace Go.Cx
open Go Go.Cf
set_option linter.unusedVariables false

def cmdN : ByteArray := ⟨#[99, 109, 100]⟩
abbrev JL := List (Int × Int)
structure JM where
  dead : Bool
  L : JL

def okId (id : Int) : Bool := decide (1 ≤ id) && decide (id ≤ 1099511627776)
def idOf (b : List UInt8) : Nat := beV (cut8 b 1)

/-- One entry. -/
def takeJ (L : JL) (b : List UInt8) : Option JL :=
  if b.length < 9 then none
  else if !(okId (idOf b)) then none
  else if b.getD 0 0 = 1 ∧ b.length = 9 ∧ lookM L (idOf b) = none ∧ L.length < 1024 then some (L ++ [((idOf b : Int), -1)])
  else if b.getD 0 0 = 2 ∧ b.length = 10 ∧ (lookM L (idOf b)).getD 0 < 0 then some (setM L (idOf b) ((b.getD 9 0).toNat : Int))
  else none

def takesJ : JL → List (List UInt8) → Option JL
  | L, [] => some L
  | L, b :: bs => match takeJ L b with
    | some L' => takesJ L' bs
    | none => none

def rowJ (id code : Int) : List UInt8 := (if code < 0 then [1] else [2]) ++ be8 id.toNat ++ (if code < 0 then [] else [UInt8.ofNat code.toNat])
def layJ (m : DM) (p : List UInt8) : DM × Int := if (appendM m cmdN (frameN p)).2 = 0 then syncM (appendM m cmdN (frameN p)).1 cmdN else appendM m cmdN (frameN p)

/-- The file is made whole. -/
def mendJ (m : DM) (n len : Nat) : DM × Int :=
  if n < len then (if (truncM m cmdN n).2 ≠ 0 then truncM m cmdN n else syncM (truncM m cmdN n).1 cmdN) else syncM m cmdN
def openJ (m : DM) : DM × Int × Option JL :=
  if m.down then (m, 10, none)
  else if (readM m cmdN).2 ≠ 0 then (m, 0, some [])
  else match takesJ [] (scanN (readM m cmdN).1).1 with
    | none => (m, 30, none)
    | some L => if (mendJ m (scanN (readM m cmdN).1).2 (readM m cmdN).1.length).2 = 0 then ((mendJ m (scanN (readM m cmdN).1).2 (readM m cmdN).1.length).1, 0, some L)
      else ((mendJ m (scanN (readM m cmdN).1).2 (readM m cmdN).1.length).1, (mendJ m (scanN (readM m cmdN).1).2 (readM m cmdN).1.length).2, none)

def laidJ (m : DM) (J : JM) (p : List UInt8) (L : JL) : DM × JM × Int :=
  if (layJ m p).2 = 0 then ((layJ m p).1, ⟨J.dead, L⟩, 0) else ((layJ m p).1, ⟨decide ((layJ m p).2 = 10), J.L⟩, (layJ m p).2)
def beginJ (m : DM) (J : JM) (id : Int) : DM × JM × Int :=
  if J.dead then (m, J, 10)
  else if !(okId id) then (m, J, 3)
  else if (lookM J.L id).isSome then (m, J, 7)
  else if J.L.length ≥ 1024 then (m, J, 34)
  else laidJ m J (rowJ id (-1)) (J.L ++ [(id, -1)])
def endJ (m : DM) (J : JM) (id code : Int) : DM × JM × Int :=
  if J.dead then (m, J, 10)
  else if code < 0 ∨ code > 255 then (m, J, 3)
  else match lookM J.L id with
    | none => (m, J, 6)
    | some c => if c ≥ 0 then (m, J, 7) else laidJ m J (rowJ id code) (setM J.L id code)
def stateJ (L : JL) (id : Int) : Int × Int := match lookM L id with
  | none => (0, 0)
  | some c => if c < 0 then (1, 0) else (2, c)
def leftJ (L : JL) : List Int := (L.filter fun p => decide (p.2 < 0)).map (·.1)

/-- What is so of every list. -/
structure JInv (L : JL) : Prop where
  nodup : (L.map (·.1)).Nodup
  ids : ∀ p ∈ L, okId p.1 = true
  codes : ∀ p ∈ L, -1 ≤ p.2 ∧ p.2 ≤ 255
  len : L.length ≤ 1024

theorem lookM_mem {β : Type} : ∀ {L : List (Int × β)} {k : Int} {v : β}, lookM L k = some v → (k, v) ∈ L
  | [], _, _, h => by cases h
  | p :: L, k, v, h => by
    unfold lookM at h
    split at h
    · rename_i e; subst e
      simp only [Option.some.injEq] at h
      subst h
      exact List.mem_cons_self ..
    · exact List.mem_cons_of_mem _ (lookM_mem h)
theorem lookM_none {β : Type} : ∀ {L : List (Int × β)} {k : Int}, lookM L k = none ↔ ∀ p ∈ L, p.1 ≠ k
  | [], _ => by simp [lookM]
  | p :: L, k => by
    unfold lookM
    by_cases e : k = p.1
    · rw [if_pos e]
      constructor
      · intro h; cases h
      · intro h; exact absurd e.symm (h p (List.mem_cons_self ..))
    · rw [if_neg e, lookM_none (L := L)]
      constructor
      · intro h q hq
        simp only [List.mem_cons] at hq
        rcases hq with rfl | hq
        · exact fun h' => e h'.symm
        · exact h q hq
      · intro h q hq; exact h q (List.mem_cons_of_mem _ hq)
theorem setM_keys {β : Type} : ∀ {L : List (Int × β)} {k : Int} {v x : β}, lookM L k = some v → (setM L k x).map (·.1) = L.map (·.1)
  | [], _, _, _, h => by cases h
  | p :: L, k, v, x, h => by
    unfold lookM at h
    unfold setM
    split at h
    · rename_i e; rw [if_pos e]; simp [e]
    · rename_i e; rw [if_neg e]; simp [setM_keys h]
theorem setM_mem {β : Type} : ∀ {L : List (Int × β)} {k : Int} {x : β} {p : Int × β}, p ∈ setM L k x → p ∈ L ∨ p = (k, x)
  | [], _, _, _, h => by simp [setM] at h; exact .inr h
  | q :: L, k, x, p, h => by
    unfold setM at h
    split at h
    · simp only [List.mem_cons] at h ⊢
      rcases h with h | h
      · exact .inr h
      · exact .inl (.inr h)
    · simp only [List.mem_cons] at h ⊢
      rcases h with h | h
      · exact .inl (.inl h)
      · rcases setM_mem h with h | h
        · exact .inl (.inr h)
        · exact .inr h
theorem setM_len {β : Type} {L : List (Int × β)} {k : Int} {v x : β} (h : lookM L k = some v) : (setM L k x).length = L.length := by
  have := congrArg List.length (setM_keys (x := x) h)
  simpa using this
theorem lookM_set {β : Type} : ∀ (L : List (Int × β)) (k j : Int) (x : β), lookM (setM L k x) j = if j = k then some x else lookM L j
  | [], k, j, x => by simp [setM, lookM]
  | p :: L, k, j, x => by
    unfold setM
    by_cases e : k = p.1
    · rw [if_pos e]
      by_cases h : j = k
      · subst h; simp [lookM]
      · have h' : ¬ j = p.1 := fun h2 => h (h2.trans e.symm)
        simp [lookM, h, h']
    · rw [if_neg e]
      by_cases h : j = p.1
      · have : ¬ j = k := fun h2 => e (h2.symm.trans h)
        rw [if_neg this]
        simp [lookM, h]
      · show (if j = p.1 then _ else lookM (setM L k x) j) = _
        rw [if_neg h, lookM_set L k j x]
        by_cases h2 : j = k
        · rw [if_pos h2, if_pos h2]
        · rw [if_neg h2, if_neg h2]; simp [lookM, h]
theorem lookM_app {β : Type} : ∀ (L : List (Int × β)) (k j : Int) (x : β), lookM (L ++ [(k, x)]) j = match lookM L j with | some v => some v | none => if j = k then some x else none
  | [], k, j, x => by simp [lookM]
  | p :: L, k, j, x => by
    show (if j = p.1 then _ else lookM (L ++ [(k, x)]) j) = _
    by_cases h : j = p.1
    · simp [lookM, h]
    · rw [if_neg h, lookM_app L k j x]; simp [lookM, h]

theorem jinv_nil : JInv [] := ⟨by simp, by simp, by simp, by simp⟩
theorem jinv_begin {L : JL} (h : JInv L) {id : Int} (h1 : lookM L id = none) (h2 : okId id = true) (h3 : L.length < 1024) : JInv (L ++ [(id, -1)]) := by
  refine ⟨?_, ?_, ?_, by simp; omega⟩
  · rw [List.map_append, List.nodup_append]
    refine ⟨h.nodup, by simp, ?_⟩
    intro a ha b hb
    simp only [List.map_cons, List.map_nil, List.mem_singleton] at hb
    subst hb
    obtain ⟨p, hp, rfl⟩ := List.mem_map.1 ha
    exact lookM_none.1 h1 p hp
  · intro p hp
    simp only [List.mem_append, List.mem_singleton] at hp
    rcases hp with hp | rfl
    · exact h.ids p hp
    · exact h2
  · intro p hp
    simp only [List.mem_append, List.mem_singleton] at hp
    rcases hp with hp | rfl
    · exact h.codes p hp
    · exact ⟨Int.le_refl _, show (-1 : Int) ≤ 255 by decide⟩
theorem jinv_end {L : JL} (h : JInv L) {id v code : Int} (h1 : lookM L id = some v) (h2 : -1 ≤ code ∧ code ≤ 255) : JInv (setM L id code) := by
  refine ⟨by rw [setM_keys h1]; exact h.nodup, ?_, ?_, by rw [setM_len h1]; exact h.len⟩
  · intro p hp
    rcases setM_mem hp with hp | rfl
    · exact h.ids p hp
    · exact h.ids (id, v) (lookM_mem h1)
  · intro p hp
    rcases setM_mem hp with hp | rfl
    · exact h.codes p hp
    · exact h2
theorem jinv_take {L L' : JL} {b : List UInt8} (h : JInv L) (ht : takeJ L b = some L') : JInv L' := by
  unfold takeJ at ht
  split at ht
  · cases ht
  split at ht
  · cases ht
  rename_i h2
  split at ht
  · rename_i h3
    cases ht
    exact jinv_begin h h3.2.2.1 (by simpa using h2) h3.2.2.2
  split at ht
  · rename_i h4
    cases ht
    cases hl : lookM L (idOf b) with
    | none => rw [hl] at h4; exact absurd h4.2.2 (by decide)
    | some v => exact jinv_end h hl (by have := (b.getD 9 0).toNat_lt; omega)
  · cases ht
theorem jinv_takes : ∀ {bs : List (List UInt8)} {L L' : JL}, JInv L → takesJ L bs = some L' → JInv L'
  | [], _, _, h, ht => by cases ht; exact h
  | b :: bs, L, L', h, ht => by
    unfold takesJ at ht
    split at ht
    · rename_i L1 h1; exact jinv_takes (jinv_take h h1) ht
    · cases ht
theorem jinv_open {m : DM} {L : JL} (h : (openJ m).2.2 = some L) : JInv L := by
  unfold openJ at h
  split at h
  · cases h
  split at h
  · cases h; exact jinv_nil
  split at h
  · cases h
  rename_i L1 h1
  split at h
  · cases h; exact jinv_takes jinv_nil h1
  · cases h
theorem jinv_laid {m : DM} {J : JM} {p : List UInt8} {L : JL} (h : JInv J.L) (h' : JInv L) : JInv (laidJ m J p L).2.1.L := by
  unfold laidJ
  split
  · exact h'
  · exact h
theorem jinv_beginJ {m : DM} {J : JM} (h : JInv J.L) (id : Int) : JInv (beginJ m J id).2.1.L := by
  unfold beginJ
  split
  · exact h
  split
  · exact h
  rename_i h2
  split
  · exact h
  rename_i h3
  split
  · exact h
  · exact jinv_laid h (jinv_begin h (by simpa using h3) (by simpa using h2) (by omega))
theorem jinv_endJ {m : DM} {J : JM} (h : JInv J.L) (id code : Int) : JInv (endJ m J id code).2.1.L := by
  unfold endJ
  split
  · exact h
  split
  · exact h
  split
  · exact h
  split
  · exact h
  · rename_i hl _; exact jinv_laid h (jinv_end h hl (by omega))

theorem rowJ_len (id code : Int) : (rowJ id code).length = if code < 0 then 9 else 10 := by
  unfold rowJ
  split <;> simp [be8_len]

theorem left_eq {L : JL} (h : (L.map (·.1)).Nodup) : leftJ L = ((L.map (·.1)).filter fun id => decide ((lookM L id).getD 0 < 0)) := by
  have key : ∀ (p : Int × Int), p ∈ L → lookM L p.1 = some p.2 := by
    induction L with
    | nil => intro p hp; cases hp
    | cons q L ih =>
      intro p hp
      simp only [List.map_cons, List.nodup_cons] at h
      simp only [List.mem_cons] at hp
      unfold lookM
      rcases hp with rfl | hp
      · rw [if_pos rfl]
      · have hne : ¬ p.1 = q.1 := fun e => h.1 (by rw [← e]; exact List.mem_map_of_mem hp)
        rw [if_neg hne]
        exact ih h.2 p hp
  unfold leftJ
  rw [List.filter_map]
  congr 1
  apply List.filter_congr
  intro p hp
  simp [key p hp]

end Go.Cx
