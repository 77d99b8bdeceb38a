/-
  The lines of a script: words and steps (plain).
  The lines of a script: there and back (plain).
  The library's builder of strings: its blocks keep their types.
  More of the library's functions by the kit's contracts.
  The program's reader of lines.
  The program's reader of a line.
  The program's writer of a line.
  The document's reader of a line: its parts.
  The document's reader of a line.
  The document's reader of a line, whole.
-/
import Derived.Test.YtekfoaklfnldhaaGreatDoorT1
import Derived.Test.YtekfoaklfnldhaaGreatDoorSM
import Derived.Test.YtekfoaklfnldhaaGreatDoorCgA
import Derived.Test.YtekfoaklfnldhaaGreatDoorCgG
import Derived.Lib.AtoiAll
import Derived.Lib.AtoiTie
import Derived.Lib.Bytealg
import Derived.Lib.IndexLaws
namespace Go.Cx
open Go Go.Cf
set_option linter.unusedVariables false
set_option maxRecDepth 100000

structure StepV where
  kind : Int
  num : Int
  way : Int
  bit : Int
  unit : Int
  addr : Int
  id : Int
  name : List UInt8
  bytes : List UInt8

def step0 : StepV := ⟨0, 0, 0, 0, 0, 0, 0, [], []⟩

def shapesL : List (List UInt8 × Int × List UInt8) :=
  [([98, 111, 111, 116], 1, [110]), ([116, 105, 99, 107], 2, [110]), ([108, 105, 110, 101], 3, [110]), ([98, 97, 99, 107], 4, [110]),
   ([117, 112], 5, [110]), ([100, 111, 119, 110], 6, [110]), ([108, 111, 115, 101], 7, [119, 110]), ([100, 111, 117, 98, 108, 101], 8, [119, 110]),
   ([116, 117, 114, 110], 9, [119, 110, 98]), ([115, 101, 116], 10, [117, 107, 97, 110]), ([99, 109, 100], 11, [105, 117, 97, 110]), ([97, 115, 107], 12, [104]),
   ([97, 114, 109], 13, [110]), ([119, 97, 107, 101], 14, [110]), ([97, 99, 107, 110], 15, [115]), ([99, 97, 108, 109], 16, [110])]
def waysW : List (List UInt8) := [[111, 117, 116], [98, 97, 99, 107], [117, 112], [100, 111, 119, 110]]
def namesW : List (List UInt8) := shapesL.map (·.1)

/-! Digits of base 16. -/
def hexI (b : UInt8) : Int := if 48 ≤ b.toNat ∧ b.toNat ≤ 57 then (b.toNat : Int) - 48 else if 97 ≤ b.toNat ∧ b.toNat ≤ 102 then (b.toNat : Int) - 87 else -1
def hexD (n : Nat) : UInt8 := if n < 10 then UInt8.ofNat (48 + n) else UInt8.ofNat (87 + n)
def hexP (a b : Int) : UInt8 := UInt8.ofNat (16 * a.toNat + b.toNat)
def hexB : List UInt8 → Option (List UInt8)
  | [] => some []
  | [_] => none
  | a :: b :: r => if hexI a < 0 ∨ hexI b < 0 then none else (hexB r).map (hexP (hexI a) (hexI b) :: ·)
def bytesV (w : List UInt8) : Option (List UInt8) := if w = [45] then some [] else if w = [] then none else hexB w
def hexL : List UInt8 → List UInt8
  | [] => []
  | b :: r => hexD (b.toNat / 16) :: hexD (b.toNat % 16) :: hexL r
def hexM (l : List UInt8) : List UInt8 := if l = [] then [45] else hexL l

theorem hexI_range (b : UInt8) : -1 ≤ hexI b ∧ hexI b ≤ 15 := by
  unfold hexI
  split
  · omega
  · split <;> omega
theorem hexB_two (a b : UInt8) (r : List UInt8) : hexB (a :: b :: r) = if hexI a < 0 ∨ hexI b < 0 then none else (hexB r).map (hexP (hexI a) (hexI b) :: ·) := rfl
theorem hexB_app : ∀ (n : Nat) (x y : List UInt8), x.length = 2 * n → hexB (x ++ y) = (hexB x).bind fun l => (hexB y).map (l ++ ·)
  | 0, x, y, h => by
    obtain rfl := List.length_eq_zero_iff.1 h
    simp [hexB]
  | n + 1, x, y, h => by
    match x, h with
    | a :: b :: r, h =>
      have h' : r.length = 2 * n := by simp only [List.length_cons] at h; omega
      rw [List.cons_append, List.cons_append, hexB_two, hexB_two]
      split
      · rfl
      · rw [hexB_app n r y h']
        cases hexB r with
        | none => rfl
        | some l => cases hexB y <;> rfl
theorem hexB_odd : ∀ (n : Nat) (x : List UInt8), x.length = 2 * n + 1 → hexB x = none
  | 0, x, h => by
    match x, h with
    | [a], _ => rfl
  | n + 1, x, h => by
    match x, h with
    | a :: b :: r, h =>
      rw [hexB_two, hexB_odd n r (by simp only [List.length_cons] at h; omega)]
      split <;> rfl
theorem hexB_step {w l : List UInt8} {k : Nat} {a b : UInt8} (h : hexB (w.take (2 * k)) = some l) (ha : w[2 * k]? = some a) (hb : w[2 * k + 1]? = some b) :
    hexB (w.take (2 * (k + 1))) = if hexI a < 0 ∨ hexI b < 0 then none else some (l ++ [hexP (hexI a) (hexI b)]) := by
  have hlt := (List.getElem?_eq_some_iff.1 hb).1
  have e : w.take (2 * (k + 1)) = w.take (2 * k) ++ [a, b] := by
    rw [show 2 * (k + 1) = 2 * k + 1 + 1 by omega, ← take_snoc27 hb, ← take_snoc27 ha]; simp
  rw [e, hexB_app k _ _ (by rw [List.length_take]; omega), h]
  simp only [hexB, Option.bind_some]
  split <;> rfl
theorem hexB_none {w : List UInt8} {k : Nat} (h : hexB (w.take (2 * k)) = none) (hk : 2 * k ≤ w.length) : hexB w = none := by
  conv => lhs; rw [← List.take_append_drop (2 * k) w]
  rw [hexB_app k _ _ (by rw [List.length_take]; omega), h]; rfl

theorem hexD_range (n : Nat) (h : n < 16) : hexI (hexD n) = n ∧ (hexD n).toNat ≥ 48 := by
  have : ∀ n, n < 16 → hexI (hexD n) = (n : Int) ∧ (hexD n).toNat ≥ 48 := by decide
  exact this n h
theorem hexD_back {b : UInt8} (h : 0 ≤ hexI b) : hexD (hexI b).toNat = b := by
  have : ∀ m, m < 256 → 0 ≤ hexI (UInt8.ofNat m) → hexD (hexI (UInt8.ofNat m)).toNat = UInt8.ofNat m := by decide +kernel
  have h2 := this b.toNat (UInt8.toNat_lt b)
  rw [UInt8.ofNat_toNat] at h2
  exact h2 h
theorem hex_back : ∀ (l : List UInt8), hexB (hexL l) = some l
  | [] => rfl
  | b :: r => by
    have hb := UInt8.toNat_lt b
    have h1 := (hexD_range (b.toNat / 16) (by omega)).1
    have h2 := (hexD_range (b.toNat % 16) (by omega)).1
    show hexB (hexD _ :: hexD _ :: hexL r) = _
    rw [hexB_two, h1, h2, if_neg (by omega), hex_back r]
    have e : hexP ((b.toNat / 16 : Nat) : Int) ((b.toNat % 16 : Nat) : Int) = b := by
      unfold hexP
      rw [Int.toNat_natCast, Int.toNat_natCast, Nat.div_add_mod, UInt8.ofNat_toNat]
    rw [e]; rfl
theorem hex_only : ∀ {w l : List UInt8}, hexB w = some l → hexL l = w
  | [], l, h => by obtain rfl := Option.some.inj h; rfl
  | [_], l, h => by cases h
  | a :: b :: r, l, h => by
    rw [hexB_two] at h
    split at h
    · cases h
    · rename_i hn
      obtain ⟨m, hm, rfl⟩ := Option.map_eq_some_iff.1 h
      have ra := hexI_range a
      have rb := hexI_range b
      have hp : (hexP (hexI a) (hexI b)).toNat = 16 * (hexI a).toNat + (hexI b).toNat := by
        unfold hexP
        rw [UInt8.toNat_ofNat']
        exact Nat.mod_eq_of_lt (by omega)
      show hexD _ :: hexD _ :: hexL m = _
      rw [hp, show (16 * (hexI a).toNat + (hexI b).toNat) / 16 = (hexI a).toNat by omega, show (16 * (hexI a).toNat + (hexI b).toNat) % 16 = (hexI b).toNat by omega, hexD_back (by omega), hexD_back (by omega), hex_only hm]
theorem hexL_len : ∀ (l : List UInt8), (hexL l).length = 2 * l.length
  | [] => rfl
  | b :: r => by simp only [hexL, List.length_cons, hexL_len r]; omega
theorem hexM_back (l : List UInt8) : bytesV (hexM l) = some l := by
  unfold hexM
  split
  · rename_i h; subst h; rfl
  · rename_i h
    have hl := hexL_len l
    have hp : 0 < l.length := List.length_pos_iff.2 h
    unfold bytesV
    rw [if_neg (fun e => by rw [e] at hl; simp at hl; omega), if_neg (fun e => by rw [e] at hl; simp at hl; omega), hex_back]
theorem hexM_only {w l : List UInt8} (h : bytesV w = some l) : hexM l = w := by
  unfold bytesV at h
  split at h
  · rename_i e; obtain rfl := Option.some.inj h; exact e.symm
  · split at h
    · cases h
    · rename_i h1 h2
      have := hex_only h
      unfold hexM
      rw [if_neg (fun e => h2 (by rw [← this, e]; rfl)), this]

/-! Steps. -/
def setF (f : UInt8) (v : Int) (s : StepV) : StepV :=
  if f = 110 then { s with num := v } else if f = 117 then { s with unit := v } else if f = 97 then { s with addr := v } else if f = 105 then { s with id := v } else if f = 119 then { s with way := v } else { s with bit := v }
def getF (f : UInt8) (s : StepV) : Int := if f = 110 then s.num else if f = 117 then s.unit else if f = 97 then s.addr else if f = 105 then s.id else if f = 119 then s.way else s.bit
def readF (f : UInt8) (w : List UInt8) (s : StepV) : Option StepV :=
  if f = 119 then (if placeI waysW w < 0 then none else some { s with way := placeI waysW w + 1 })
  else if f = 107 then (if placeI kindsW w < 0 then none else some { s with bit := placeI kindsW w + 1 })
  else if f = 104 then (bytesV w).map fun l => { s with bytes := l }
  else if f = 115 then (if w = [] then none else some { s with name := w })
  else (numI w).map fun v => setF f v s
def readAll : List UInt8 → List (List UInt8) → StepV → Option StepV
  | [], _, s => some s
  | f :: fs, ws, s => (readF f (ws.headD []) s).bind (readAll fs (ws.drop 1))
def findW (w : List UInt8) : List (List UInt8 × Int × List UInt8) → Option (Int × List UInt8)
  | [] => none
  | (x, k, fs) :: r => if x = w then some (k, fs) else findW w r
def stepOfW (line : List UInt8) (ws : List (List UInt8)) : Option StepV := match findW (wd ws 0) shapesL with
  | none => none
  | some (k, fs) => if ws.length = 1 + fs.length ∧ (10 : UInt8) ∉ line then readAll fs (ws.drop 1) { step0 with kind := k } else none
def stepC (line : List UInt8) : Option StepV := stepOfW line (splitL 32 line)

/-! Lines. -/
def wordF (s : StepV) (f : UInt8) : Int × List UInt8 :=
  if f = 104 then (0, hexM s.bytes)
  else if f = 115 then (if s.name = [] ∨ (32 : UInt8) ∈ s.name ∨ (10 : UInt8) ∈ s.name then (8, []) else (0, s.name))
  else if f = 119 then (if s.way < 1 ∨ s.way > 4 then (3, []) else (0, (waysW[(s.way - 1).toNat]?).getD []))
  else if f = 107 then (if s.bit < 1 ∨ s.bit > 4 then (3, []) else (0, (kindsW[(s.bit - 1).toNat]?).getD []))
  else if getF f s < -9999999999999 ∨ getF f s > 9999999999999 then (3, []) else (0, Lib.itoa (getF f s))
def wordsF (s : StepV) : List UInt8 → List UInt8 → Int × List UInt8
  | [], out => (0, out)
  | f :: fs, out => if (wordF s f).1 = 0 then wordsF s fs (out ++ 32 :: (wordF s f).2) else ((wordF s f).1, [])
def clearF (f : UInt8) (s : StepV) : StepV := if f = 104 then { s with bytes := [] } else if f = 115 then { s with name := [] } else setF f 0 s
def zeroB (s : StepV) : Bool := s.num == 0 && s.way == 0 && s.bit == 0 && s.unit == 0 && s.addr == 0 && s.id == 0 && s.name == [] && s.bytes == []
def foreignB (s : StepV) (fs : List UInt8) : Bool := !zeroB (fs.foldl (fun s f => clearF f s) s)
def findK (k : Int) : List (List UInt8 × Int × List UInt8) → Option (List UInt8 × List UInt8)
  | [] => none
  | (x, j, fs) :: r => if j = k then some (x, fs) else findK k r
def lineM (s : StepV) : Int × List UInt8 := match findK s.kind shapesL with
  | none => (28, [])
  | some (w, fs) => if foreignB s fs = true then (23, []) else wordsF s fs w

end Go.Cx

namespace Go.Cx
open Go Go.Cf
set_option linter.unusedVariables false
set_option maxRecDepth 100000

theorem waysW_get {w : List UInt8} (h : ¬ placeI waysW w < 0) : 1 ≤ placeI waysW w + 1 ∧ placeI waysW w + 1 ≤ 4 ∧ (waysW[(placeI waysW w + 1 - 1).toNat]?).getD [] = w := by
  unfold placeI at h ⊢
  rcases placeFrom_get (w := w) (l := waysW) (i := 0) with h' | ⟨k, h1, h2⟩
  · exact absurd h' h
  · have hk : k < 4 := by have := (List.getElem?_eq_some_iff.1 h2).1; simpa [waysW] using this
    rw [h1]
    refine ⟨by omega, by omega, ?_⟩
    rw [show (((0 + k : Nat) : Int) + 1 - 1).toNat = k by omega, h2]; rfl
theorem kindsW_get {w : List UInt8} (h : ¬ placeI kindsW w < 0) : 1 ≤ placeI kindsW w + 1 ∧ placeI kindsW w + 1 ≤ 4 ∧ (kindsW[(placeI kindsW w + 1 - 1).toNat]?).getD [] = w := by
  unfold placeI at h ⊢
  rcases placeFrom_get (w := w) (l := kindsW) (i := 0) with h' | ⟨k, h1, h2⟩
  · exact absurd h' h
  · have hk : k < 4 := by have := (List.getElem?_eq_some_iff.1 h2).1; simpa [kindsW] using this
    rw [h1]
    refine ⟨by omega, by omega, ?_⟩
    rw [show (((0 + k : Nat) : Int) + 1 - 1).toNat = k by omega, h2]; rfl
theorem waysW_place {n : Int} (h : ¬ (n < 1 ∨ n > 4)) : placeI waysW ((waysW[(n - 1).toNat]?).getD []) = n - 1 := by
  obtain ⟨k, rfl⟩ : ∃ k : Nat, n = (k : Int) + 1 := ⟨(n - 1).toNat, by omega⟩
  have hk : k < 4 := by omega
  have : ∀ k : Nat, k < 4 → placeI waysW ((waysW[k]?).getD []) = (k : Int) := by decide
  rw [show ((k : Int) + 1 - 1).toNat = k by omega, this k hk]; omega
theorem kindsW_place {n : Int} (h : ¬ (n < 1 ∨ n > 4)) : placeI kindsW ((kindsW[(n - 1).toNat]?).getD []) = n - 1 := by
  obtain ⟨k, rfl⟩ : ∃ k : Nat, n = (k : Int) + 1 := ⟨(n - 1).toNat, by omega⟩
  have hk : k < 4 := by omega
  have : ∀ k : Nat, k < 4 → placeI kindsW ((kindsW[k]?).getD []) = (k : Int) := by decide
  rw [show ((k : Int) + 1 - 1).toNat = k by omega, this k hk]; omega

theorem splitL_noc {c : UInt8} : ∀ {s w : List UInt8}, w ∈ splitL c s → c ∉ w
  | [], w, h => by simp [splitL] at h; subst h; simp
  | b :: r, w, h => by
    simp only [splitL] at h
    split at h
    · rcases List.mem_cons.1 h with rfl | h
      · simp
      · exact splitL_noc h
    · rename_i hb
      cases e : splitL c r with
      | nil => exact absurd e (splitL_ne _ _)
      | cons x xs =>
        rw [e] at h
        rcases List.mem_cons.1 h with rfl | h
        · have := splitL_noc (c := c) (s := r) (w := x) (by rw [e]; simp)
          simp only [List.mem_cons, not_or]
          exact ⟨fun e => hb e.symm, this⟩
        · exact splitL_noc (s := r) (by rw [e]; exact List.mem_cons_of_mem _ h)
theorem splitL_in {c : UInt8} : ∀ {s w : List UInt8}, w ∈ splitL c s → ∀ b ∈ w, b ∈ s
  | [], w, h => by simp [splitL] at h; subst h; simp
  | b :: r, w, h => by
    simp only [splitL] at h
    split at h
    · rcases List.mem_cons.1 h with rfl | h
      · simp
      · exact fun x hx => List.mem_cons_of_mem _ (splitL_in h x hx)
    · cases e : splitL c r with
      | nil => exact absurd e (splitL_ne _ _)
      | cons x xs =>
        rw [e] at h
        rcases List.mem_cons.1 h with rfl | h
        · intro y hy
          rcases List.mem_cons.1 hy with rfl | hy
          · simp
          · exact List.mem_cons_of_mem _ (splitL_in (c := c) (s := r) (w := x) (by rw [e]; simp) y hy)
        · exact fun y hy => List.mem_cons_of_mem _ (splitL_in (s := r) (by rw [e]; exact List.mem_cons_of_mem _ h) y hy)

/-! The 16 lines. -/
theorem findW_cases {w : List UInt8} {k : Int} {fs : List UInt8} (h : findW w shapesL = some (k, fs)) : findK k shapesL = some (w, fs) ∧ (w, k, fs) ∈ shapesL := by
  have gen : ∀ l : List (List UInt8 × Int × List UInt8), findW w l = some (k, fs) → (w, k, fs) ∈ l := by
    intro l
    induction l with
    | nil => intro h; cases h
    | cons x r ih =>
      obtain ⟨x, j, f⟩ := x
      intro h
      simp only [findW] at h
      split at h
      · rename_i e
        simp only [Option.some.injEq, Prod.mk.injEq] at h
        obtain ⟨rfl, rfl⟩ := h
        subst e; simp
      · exact List.mem_cons_of_mem _ (ih h)
  have hm := gen _ h
  refine ⟨?_, hm⟩
  simp only [shapesL, List.mem_cons, List.not_mem_nil, or_false, Prod.mk.injEq] at hm
  rcases hm with ⟨rfl, rfl, rfl⟩ | ⟨rfl, rfl, rfl⟩ | ⟨rfl, rfl, rfl⟩ | ⟨rfl, rfl, rfl⟩ | ⟨rfl, rfl, rfl⟩ | ⟨rfl, rfl, rfl⟩ | ⟨rfl, rfl, rfl⟩ | ⟨rfl, rfl, rfl⟩ | ⟨rfl, rfl, rfl⟩ | ⟨rfl, rfl, rfl⟩ | ⟨rfl, rfl, rfl⟩ | ⟨rfl, rfl, rfl⟩ | ⟨rfl, rfl, rfl⟩ | ⟨rfl, rfl, rfl⟩ | ⟨rfl, rfl, rfl⟩ | ⟨rfl, rfl, rfl⟩ <;> rfl
theorem findK_cases {w : List UInt8} {k : Int} {fs : List UInt8} (h : findK k shapesL = some (w, fs)) : findW w shapesL = some (k, fs) ∧ (w, k, fs) ∈ shapesL := by
  have gen : ∀ l : List (List UInt8 × Int × List UInt8), findK k l = some (w, fs) → (w, k, fs) ∈ l := by
    intro l
    induction l with
    | nil => intro h; cases h
    | cons x r ih =>
      obtain ⟨x, j, f⟩ := x
      intro h
      simp only [findK] at h
      split at h
      · rename_i e
        simp only [Option.some.injEq, Prod.mk.injEq] at h
        obtain ⟨rfl, rfl⟩ := h
        subst e; simp
      · exact List.mem_cons_of_mem _ (ih h)
  have hm := gen _ h
  refine ⟨?_, hm⟩
  simp only [shapesL, List.mem_cons, List.not_mem_nil, or_false, Prod.mk.injEq] at hm
  rcases hm with ⟨rfl, rfl, rfl⟩ | ⟨rfl, rfl, rfl⟩ | ⟨rfl, rfl, rfl⟩ | ⟨rfl, rfl, rfl⟩ | ⟨rfl, rfl, rfl⟩ | ⟨rfl, rfl, rfl⟩ | ⟨rfl, rfl, rfl⟩ | ⟨rfl, rfl, rfl⟩ | ⟨rfl, rfl, rfl⟩ | ⟨rfl, rfl, rfl⟩ | ⟨rfl, rfl, rfl⟩ | ⟨rfl, rfl, rfl⟩ | ⟨rfl, rfl, rfl⟩ | ⟨rfl, rfl, rfl⟩ | ⟨rfl, rfl, rfl⟩ | ⟨rfl, rfl, rfl⟩ <;> rfl
/-- The seven kinds of lines by their fields. -/
theorem fields_cases {w : List UInt8} {k : Int} {fs : List UInt8} (h : (w, k, fs) ∈ shapesL) : plainW w ∧ (fs = [110] ∨ fs = [119, 110] ∨ fs = [119, 110, 98] ∨ fs = [117, 107, 97, 110] ∨ fs = [105, 117, 97, 110] ∨ fs = [104] ∨ fs = [115]) := by
  simp only [shapesL, List.mem_cons, List.not_mem_nil, or_false, Prod.mk.injEq] at h
  rcases h with ⟨rfl, rfl, rfl⟩ | ⟨rfl, rfl, rfl⟩ | ⟨rfl, rfl, rfl⟩ | ⟨rfl, rfl, rfl⟩ | ⟨rfl, rfl, rfl⟩ | ⟨rfl, rfl, rfl⟩ | ⟨rfl, rfl, rfl⟩ | ⟨rfl, rfl, rfl⟩ | ⟨rfl, rfl, rfl⟩ | ⟨rfl, rfl, rfl⟩ | ⟨rfl, rfl, rfl⟩ | ⟨rfl, rfl, rfl⟩ | ⟨rfl, rfl, rfl⟩ | ⟨rfl, rfl, rfl⟩ | ⟨rfl, rfl, rfl⟩ | ⟨rfl, rfl, rfl⟩ <;> exact ⟨plain_lit (by decide), by decide⟩

/-! A line's step, as a line. -/
theorem num_only {w : List UInt8} {v : Int} (h : numI w = some v) : ¬ (v < -9999999999999 ∨ v > 9999999999999) ∧ Lib.itoa v = w := by
  obtain ⟨h1, h2, h3⟩ := itoa_of_num h
  exact ⟨by omega, h1⟩
theorem num_there {v : Int} (h : ¬ (v < -9999999999999 ∨ v > 9999999999999)) : numI (Lib.itoa v) = some v := num_of_itoa (by omega) (by omega)

theorem words_line {w : List UInt8} : ∀ (ws : List (List UInt8)), Lib.join (w :: ws) [32] = w ++ (ws.map (32 :: ·)).flatten
  | [] => by simp [join_one]
  | v :: r => by
    rw [join_cons2]
    have := words_line (w := v) r
    rw [this]; simp

/-- A field that was read is that word. -/
theorem readF_num {f : UInt8} {w : List UInt8} {s x : StepV} (h119 : f ≠ 119) (h107 : f ≠ 107) (h104 : f ≠ 104) (h115 : f ≠ 115) (h : readF f w s = some x) : ∃ v, numI w = some v ∧ x = setF f v s := by
  unfold readF at h
  rw [if_neg h119, if_neg h107, if_neg h104, if_neg h115] at h
  obtain ⟨v, hv, rfl⟩ := Option.map_eq_some_iff.1 h
  exact ⟨v, hv, rfl⟩
theorem bindS {α β : Type} {a : Option α} {f : α → Option β} {b : β} (h : a.bind f = some b) : ∃ x, a = some x ∧ f x = some b := by
  cases a with
  | none => cases h
  | some x => exact ⟨x, rfl, h⟩

theorem line_of_step {line : List UInt8} {x : StepV} (h : stepC line = some x) : lineM x = (0, line) := by
  unfold stepC stepOfW at h
  have hj := join_split 32 line
  have hno : ∀ v ∈ splitL 32 line, (32 : UInt8) ∉ v := fun v h => splitL_noc h
  have hin : ∀ v ∈ splitL 32 line, ∀ b ∈ v, b ∈ line := fun v h => splitL_in h
  generalize splitL 32 line = ws at h hj hno hin
  cases hf : findW (wd ws 0) shapesL with
  | none => rw [hf] at h; cases h
  | some kf =>
    obtain ⟨k, fs⟩ := kf
    rw [hf] at h
    simp only at h
    split at h
    case isFalse => cases h
    rename_i hc
    obtain ⟨hl, h10⟩ := hc
    obtain ⟨hk, hm⟩ := findW_cases hf
    obtain ⟨hpl, hfs⟩ := fields_cases hm
    match ws, hl with
    | w :: ws, hl =>
    have hw0 : wd (w :: ws) 0 = w := rfl
    rw [hw0] at hk hm hpl
    rw [words_line] at hj
    have hwl : ws.length = fs.length := by simpa [Nat.add_comm] using hl
    simp only [List.drop_succ_cons, List.drop_zero] at h
    have fin : ∀ {t : List UInt8}, x.kind = k → foreignB x fs = false → wordsF x fs w = (0, t) → t = line → lineM x = (0, line) := by
      intro t h1 h2 h3 h4
      unfold lineM
      rw [h1, hk]
      simp only [h2, Bool.false_eq_true, if_false]
      rw [h3, h4]
    rcases hfs with rfl | rfl | rfl | rfl | rfl | rfl | rfl
    · match ws, hwl with
      | [a], _ =>
        simp only [readAll, List.headD_cons] at h
        obtain ⟨y, h1, h⟩ := bindS h
        obtain rfl := Option.some.inj h
        obtain ⟨v, hv, rfl⟩ := readF_num (by decide) (by decide) (by decide) (by decide) h1
        obtain ⟨r1, r2⟩ := num_only hv
        refine fin rfl rfl (t := w ++ 32 :: a) ?_ (by rw [← hj]; simp)
        simp [wordsF, wordF, getF, setF, r1, r2]
    · match ws, hwl with
      | [a, b], _ =>
        simp only [readAll, List.headD_cons, List.drop_succ_cons, List.drop_zero] at h
        obtain ⟨y, h1, h⟩ := bindS h
        obtain ⟨z, h2, h⟩ := bindS h
        obtain rfl := Option.some.inj h
        obtain ⟨v, hv, rfl⟩ := readF_num (by decide) (by decide) (by decide) (by decide) h2
        obtain ⟨r1, r2⟩ := num_only hv
        unfold readF at h1
        rw [if_pos rfl] at h1
        split at h1
        · cases h1
        rename_i hp
        obtain rfl := Option.some.inj h1
        obtain ⟨p1, p2, p3⟩ := waysW_get hp
        refine fin rfl rfl (t := w ++ (32 :: a ++ 32 :: b)) ?_ (by rw [← hj]; simp)
        have : ¬ (placeI waysW a + 1 < 1 ∨ placeI waysW a + 1 > 4) := by omega
        simp only [wordsF, wordF, getF, setF, if_pos, if_neg this, p3, r1, r2]
        simp [r1, r2]
    · match ws, hwl with
      | [a, b, c], _ =>
        simp only [readAll, List.headD_cons, List.drop_succ_cons, List.drop_zero] at h
        obtain ⟨y, h1, h⟩ := bindS h
        obtain ⟨z, h2, h⟩ := bindS h
        obtain ⟨u, h3, h⟩ := bindS h
        obtain rfl := Option.some.inj h
        obtain ⟨v', hv', rfl⟩ := readF_num (by decide) (by decide) (by decide) (by decide) h3
        obtain ⟨v, hv, rfl⟩ := readF_num (by decide) (by decide) (by decide) (by decide) h2
        obtain ⟨r1, r2⟩ := num_only hv
        obtain ⟨q1, q2⟩ := num_only hv'
        unfold readF at h1
        rw [if_pos rfl] at h1
        split at h1
        · cases h1
        rename_i hp
        obtain rfl := Option.some.inj h1
        obtain ⟨p1, p2, p3⟩ := waysW_get hp
        refine fin rfl rfl (t := w ++ (32 :: a ++ (32 :: b ++ 32 :: c))) ?_ (by rw [← hj]; simp)
        have : ¬ (placeI waysW a + 1 < 1 ∨ placeI waysW a + 1 > 4) := by omega
        have p3' : (waysW[(placeI waysW a).toNat]?).getD [] = a := by simpa using p3
        simp [wordsF, wordF, getF, setF, this, p3', r1, r2, q1, q2]
    · match ws, hwl with
      | [a, b, c, d], _ =>
        simp only [readAll, List.headD_cons, List.drop_succ_cons, List.drop_zero] at h
        obtain ⟨y, h1, h⟩ := bindS h
        obtain ⟨z, h2, h⟩ := bindS h
        obtain ⟨u, h3, h⟩ := bindS h
        obtain ⟨t, h4, h⟩ := bindS h
        obtain rfl := Option.some.inj h
        obtain ⟨v4, hv4, rfl⟩ := readF_num (by decide) (by decide) (by decide) (by decide) h4
        obtain ⟨v3, hv3, rfl⟩ := readF_num (by decide) (by decide) (by decide) (by decide) h3
        obtain ⟨v1, hv1, rfl⟩ := readF_num (by decide) (by decide) (by decide) (by decide) h1
        obtain ⟨r1, r2⟩ := num_only hv1
        obtain ⟨q1, q2⟩ := num_only hv3
        obtain ⟨s1, s2⟩ := num_only hv4
        unfold readF at h2
        rw [if_neg (by decide), if_pos rfl] at h2
        split at h2
        · cases h2
        rename_i hp
        obtain rfl := Option.some.inj h2
        obtain ⟨p1, p2, p3⟩ := kindsW_get hp
        refine fin rfl rfl (t := w ++ (32 :: a ++ (32 :: b ++ (32 :: c ++ 32 :: d)))) ?_ (by rw [← hj]; simp)
        have : ¬ (placeI kindsW b + 1 < 1 ∨ placeI kindsW b + 1 > 4) := by omega
        have p3' : (kindsW[(placeI kindsW b).toNat]?).getD [] = b := by simpa using p3
        simp [wordsF, wordF, getF, setF, this, p3', r1, r2, q1, q2, s1, s2]
    · match ws, hwl with
      | [a, b, c, d], _ =>
        simp only [readAll, List.headD_cons, List.drop_succ_cons, List.drop_zero] at h
        obtain ⟨y, h1, h⟩ := bindS h
        obtain ⟨z, h2, h⟩ := bindS h
        obtain ⟨u, h3, h⟩ := bindS h
        obtain ⟨t, h4, h⟩ := bindS h
        obtain rfl := Option.some.inj h
        obtain ⟨v4, hv4, rfl⟩ := readF_num (by decide) (by decide) (by decide) (by decide) h4
        obtain ⟨v3, hv3, rfl⟩ := readF_num (by decide) (by decide) (by decide) (by decide) h3
        obtain ⟨v2, hv2, rfl⟩ := readF_num (by decide) (by decide) (by decide) (by decide) h2
        obtain ⟨v1, hv1, rfl⟩ := readF_num (by decide) (by decide) (by decide) (by decide) h1
        obtain ⟨r1, r2⟩ := num_only hv1
        obtain ⟨p1, p2⟩ := num_only hv2
        obtain ⟨q1, q2⟩ := num_only hv3
        obtain ⟨s1, s2⟩ := num_only hv4
        refine fin rfl rfl (t := w ++ (32 :: a ++ (32 :: b ++ (32 :: c ++ 32 :: d)))) ?_ (by rw [← hj]; simp)
        simp [wordsF, wordF, getF, setF, r1, r2, q1, q2, s1, s2, p1, p2]
    · match ws, hwl with
      | [a], _ =>
        simp only [readAll, List.headD_cons] at h
        obtain ⟨y, h1, h⟩ := bindS h
        obtain rfl := Option.some.inj h
        unfold readF at h1
        rw [if_neg (by decide), if_neg (by decide), if_pos rfl] at h1
        obtain ⟨l, hl2, rfl⟩ := Option.map_eq_some_iff.1 h1
        refine fin rfl rfl (t := w ++ 32 :: a) ?_ (by rw [← hj]; simp)
        simp [wordsF, wordF, hexM_only hl2]
    · match ws, hwl with
      | [a], _ =>
        simp only [readAll, List.headD_cons] at h
        obtain ⟨y, h1, h⟩ := bindS h
        obtain rfl := Option.some.inj h
        unfold readF at h1
        rw [if_neg (by decide), if_neg (by decide), if_neg (by decide), if_pos rfl] at h1
        split at h1
        · cases h1
        rename_i hne
        obtain rfl := Option.some.inj h1
        refine fin rfl rfl (t := w ++ 32 :: a) ?_ (by rw [← hj]; simp)
        have h32 := hno a (by simp)
        have h10' : (10 : UInt8) ∉ a := fun hb => h10 (hin a (by simp) _ hb)
        simp [wordsF, wordF, hne, h32, h10']

theorem hexL_plain : ∀ (l : List UInt8), plainW (hexL l)
  | [] => fun b hb => by cases hb
  | b :: r => by
    have hb := UInt8.toNat_lt b
    have h1 := (hexD_range (b.toNat / 16) (by omega)).2
    have h2 := (hexD_range (b.toNat % 16) (by omega)).2
    intro x hx
    simp only [hexL, List.mem_cons] at hx
    have key : ∀ y : UInt8, y.toNat ≥ 48 → y ≠ 32 ∧ y ≠ 10 := fun y hy => ⟨fun e => by subst e; simp at hy, fun e => by subst e; simp at hy⟩
    rcases hx with rfl | rfl | hx
    · exact key _ h1
    · exact key _ h2
    · exact hexL_plain r x hx
theorem hexM_plain {l : List UInt8} : (32 : UInt8) ∉ hexM l ∧ (10 : UInt8) ∉ hexM l := by
  unfold hexM
  split
  · decide
  · exact ⟨(hexL_plain l).blank, (hexL_plain l).line⟩

/-! A step's line, as a step. -/
def copyF (f : UInt8) (s x : StepV) : StepV := if f = 104 then { x with bytes := s.bytes } else if f = 115 then { x with name := s.name } else if f = 119 then { x with way := s.way } else if f = 107 then { x with bit := s.bit } else setF f (getF f s) x
theorem fne : ((115 : UInt8) = 104) = False ∧ ((119 : UInt8) = 104) = False ∧ ((119 : UInt8) = 115) = False ∧ ((107 : UInt8) = 104) = False ∧ ((107 : UInt8) = 115) = False ∧ ((107 : UInt8) = 119) = False ∧
    ((104 : UInt8) = 119) = False ∧ ((104 : UInt8) = 107) = False ∧ ((115 : UInt8) = 119) = False ∧ ((115 : UInt8) = 107) = False ∧ ((119 : UInt8) = 107) = False := by decide
theorem wordF_back {s : StepV} {f : UInt8} (x : StepV) (h : (wordF s f).1 = 0) : readF f (wordF s f).2 x = some (copyF f s x) ∧ (32 : UInt8) ∉ (wordF s f).2 ∧ (10 : UInt8) ∉ (wordF s f).2 := by
  unfold wordF at h ⊢
  unfold readF copyF
  by_cases h104 : f = 104
  · subst h104
    simp only [fne, if_true, if_false]
    rw [hexM_back]
    exact ⟨rfl, hexM_plain.1, hexM_plain.2⟩
  by_cases h115 : f = 115
  · subst h115
    simp only [fne, if_true, if_false] at h ⊢
    split at h
    · cases h
    · rename_i hn
      rw [if_neg hn]
      simp only [not_or] at hn
      rw [if_neg hn.1]
      exact ⟨rfl, hn.2⟩
  by_cases h119 : f = 119
  · subst h119
    simp only [fne, if_true, if_false] at h ⊢
    split at h
    · cases h
    · rename_i hn
      rw [if_neg hn]
      simp only
      rw [waysW_place hn, if_neg (by omega)]
      refine ⟨by rw [show s.way - 1 + 1 = s.way by omega], ?_⟩
      obtain ⟨k, hk⟩ : ∃ k : Nat, s.way = (k : Int) + 1 := ⟨(s.way - 1).toNat, by omega⟩
      have h4 : ∀ k : Nat, k < 4 → (32 : UInt8) ∉ (waysW[k]?).getD [] ∧ (10 : UInt8) ∉ (waysW[k]?).getD [] := by decide
      rw [hk, show ((k : Int) + 1 - 1).toNat = k by omega]
      exact h4 k (by omega)
  by_cases h107 : f = 107
  · subst h107
    simp only [fne, if_true, if_false] at h ⊢
    split at h
    · cases h
    · rename_i hn
      rw [if_neg hn]
      simp only
      rw [kindsW_place hn, if_neg (by omega)]
      refine ⟨by rw [show s.bit - 1 + 1 = s.bit by omega], ?_⟩
      obtain ⟨k, hk⟩ : ∃ k : Nat, s.bit = (k : Int) + 1 := ⟨(s.bit - 1).toNat, by omega⟩
      have h4 : ∀ k : Nat, k < 4 → (32 : UInt8) ∉ (kindsW[k]?).getD [] ∧ (10 : UInt8) ∉ (kindsW[k]?).getD [] := by decide
      rw [hk, show ((k : Int) + 1 - 1).toNat = k by omega]
      exact h4 k (by omega)
  · simp only [if_neg h104, if_neg h115, if_neg h119, if_neg h107] at h ⊢
    split at h
    · cases h
    · rename_i hn
      rw [if_neg hn]
      simp only
      rw [num_there hn]
      exact ⟨rfl, (plain_itoa _).blank, (plain_itoa _).line⟩

/-- What stands behind the first word. -/
def tailF (s : StepV) (fs : List UInt8) : List (List UInt8) := fs.map fun f => (wordF s f).2
theorem wordsF_ok {s : StepV} : ∀ {fs out t : List UInt8}, wordsF s fs out = (0, t) → (∀ f ∈ fs, (wordF s f).1 = 0) ∧ t = out ++ ((tailF s fs).map (32 :: ·)).flatten
  | [], out, t, h => by
    simp only [wordsF, Prod.mk.injEq] at h
    obtain ⟨_, rfl⟩ := h
    exact ⟨by simp, by simp [tailF]⟩
  | f :: fs, out, t, h => by
    simp only [wordsF] at h
    split at h
    · rename_i h0
      obtain ⟨h1, h2⟩ := wordsF_ok h
      refine ⟨fun g hg => ?_, by rw [h2]; simp [tailF]⟩
      rcases List.mem_cons.1 hg with rfl | hg
      · exact h0
      · exact h1 g hg
    · rename_i h0
      simp only [Prod.mk.injEq] at h
      exact absurd h.1 h0
theorem readAll_back {s : StepV} : ∀ {fs : List UInt8} (x : StepV), (∀ f ∈ fs, (wordF s f).1 = 0) → readAll fs (tailF s fs) x = some (fs.foldl (fun x f => copyF f s x) x)
  | [], x, _ => rfl
  | f :: fs, x, h => by
    simp only [tailF, List.map_cons, readAll, List.headD_cons, List.drop_succ_cons, List.drop_zero]
    rw [(wordF_back x (h f (by simp))).1]
    exact readAll_back _ fun g hg => h g (by simp [hg])

theorem step_of_line {s : StepV} {t : List UInt8} (h : lineM s = (0, t)) : stepC t = some s := by
  unfold lineM at h
  cases hf : findK s.kind shapesL with
  | none => rw [hf] at h; cases h
  | some wf =>
    obtain ⟨w, fs⟩ := wf
    rw [hf] at h
    simp only at h
    split at h
    · cases h
    rename_i hfo
    obtain ⟨hk, hm⟩ := findK_cases hf
    obtain ⟨hpl, hfs⟩ := fields_cases hm
    obtain ⟨hw, ht⟩ := wordsF_ok h
    have hno : ∀ v ∈ w :: tailF s fs, (32 : UInt8) ∉ v ∧ (10 : UInt8) ∉ v := by
      intro v hv
      rcases List.mem_cons.1 hv with rfl | hv
      · exact ⟨hpl.blank, hpl.line⟩
      · obtain ⟨f, hf, rfl⟩ := List.mem_map.1 hv
        exact (wordF_back s (hw f hf)).2
    have hj : t = Lib.join (w :: tailF s fs) [32] := by rw [words_line, ht]
    have hs : splitL 32 t = w :: tailF s fs := by rw [hj]; exact split_join (by simp) fun v hv => (hno v hv).1
    have h10 : (10 : UInt8) ∉ t := by
      rw [ht]
      simp only [List.mem_append, not_or]
      refine ⟨hpl.line, fun hm => ?_⟩
      obtain ⟨l, hl, hb⟩ := List.mem_flatten.1 hm
      obtain ⟨v, hv, rfl⟩ := List.mem_map.1 hl
      rcases List.mem_cons.1 hb with e | hb
      · exact absurd e (by decide)
      · exact (hno v (by simp [hv])).2 hb
    unfold stepC stepOfW
    rw [hs, show wd (w :: tailF s fs) 0 = w from rfl, hk]
    simp only
    rw [if_pos ⟨by simp [tailF, Nat.add_comm], h10⟩]
    rw [List.drop_succ_cons, List.drop_zero, readAll_back _ hw]
    have hz : zeroB (fs.foldl (fun s f => clearF f s) s) = true := by unfold foreignB at hfo; simpa using hfo
    obtain ⟨k0, n0, w0, b0, u0, a0, i0, nm0, by0⟩ := s
    clear hno hj hs hw ht h hf hfo hk hm
    unfold zeroB at hz
    simp only [Bool.and_eq_true, beq_iff_eq] at hz
    rcases hfs with rfl | rfl | rfl | rfl | rfl | rfl | rfl <;>
      · simp [List.foldl, clearF, setF] at hz
        simp [List.foldl, copyF, setF, getF, step0, hz]

end Go.Cx

namespace Go.Cx
open Go Go.Cf
set_option linter.unusedVariables false
set_option maxRecDepth 100000
variable {B : Base} {As F : List HP}

/-- A block that nothing froze, with its type. -/
def TBlk (b : Nat) (e : TypeId) (cs : List Value) : HP := fun h => h b = some (.cells cs.toArray e (0, 0))
/-- The bytes written: an array of their own, from its first cell on. -/
def TAr (s : Sl) (l : List UInt8) : HP := fun h => ∃ zs : List UInt8, l.length = s.n ∧ l.length + zs.length = s.c ∧
  ((s.p = none ∧ s.c = 0) ∨ ∃ g, s.p = some ⟨g, 0, none⟩ ∧ h g = some (.cells (flat U8 (l ++ zs)).toArray T_uint8 (0, 0)) ∧ s.c ≤ 9223372036854775807)
def Bld (b : Nat) (l : List UInt8) : HP := fun h => ∃ (q : Option Addr) (s : Sl), (q = none ∨ q = some ⟨b, 0, none⟩) ∧ star [TBlk b T_strings_Builder [.pointer q, s.v], TAr s l] h

theorem TBlk.mem {b : Nat} {e : TypeId} {cs : List Value} {w : World} (h : Sx B (TBlk b e cs :: As) w) : w.heap[b]? = some (.cells cs.toArray e (0, 0)) := by
  obtain ⟨g, hg, hs⟩ := h.head
  exact hs _ _ hg
theorem TBlk.write {b : Nat} {e : TypeId} {cs cs' : List Value} {w w' : World} (h : Sx B (TBlk b e cs :: As) w) (hn : ∀ k, k ≠ b → w'.heap[k]? = w.heap[k]?) (hb : w'.heap[b]? = some (.cells cs'.toArray e (0, 0)))
    (hos : w'.os = w.os) (ht : w'.tape = w.tape) (ho : w'.output = w.output) (hsz : Szd w w') : Sx B (TBlk b e cs' :: As) w' :=
  h.writeO (b := b) (o' := .cells cs'.toArray e (0, 0)) (fun g hg => ⟨_, hg⟩) (by simp [TBlk]) hn hb hos ht ho hsz
theorem TBlk.set {b off : Nat} {e : TypeId} {cs cs' : List Value} {v : Value} {w : World} (h : Sx B (TBlk b e cs :: As) w) (hc : cs' = cs.set off v) : Sx B (TBlk b e cs' :: As) (w.setCell ⟨b, off, none⟩ v) := by
  subst hc
  exact TBlk.write h (fun k hk => setCell_heap w b off v k hk) (setCell_self w b off v (TBlk.mem h)) rfl rfl rfl ⟨by simp, Nat.le_refl _⟩

theorem tget {b : Nat} {e : TypeId} {cs : List Value} {off : Nat} {s : Sh} {x : s.ty} {K : s.ty → WP} (hv : cs[off]? = some (s.mk x) := by rfl) (h : Ent B (TBlk b e cs :: As) (K x)) : Ent B (TBlk b e cs :: As) (XGet s ⟨b, off, none⟩ K) := by
  intro w hw
  refine ⟨x, ?_, h w hw⟩
  simp only [World.cell?, TBlk.mem hw]
  simpa using hv
theorem tset {b : Nat} {e : TypeId} {cs cs' : List Value} {off : Nat} {v : Value} {K : WP} [l : LSet cs off v cs'] (hv : v.oneCell' = true := by rfl) (h : Ent B (TBlk b e cs' :: As) K) : Ent B (TBlk b e cs :: As) (XSet ⟨b, off, none⟩ v K) := by
  intro w hw
  have hb := TBlk.mem hw
  have hlt := l.lt
  refine ⟨⟨cs[off], by simp [World.cell?, hb, hlt]⟩, ?_, hv, h _ (TBlk.set hw l.eq)⟩
  simp [World.frozen?, hb]

/-- The array as one that the other rules know. -/
theorem TAr.rd {s : Sl} {l : List UInt8} {h : Frag} (ha : TAr s l h) : RAr U8 s l h := by
  obtain ⟨zs, hn, hcap, hc⟩ := ha
  refine ⟨hn, by rw [flat_length, hn], fun h0 => ?_⟩
  rcases hc with ⟨_, h⟩ | ⟨g, hp, hb, _⟩
  · omega
  · exact ⟨g, 0, [], flat U8 zs, _, _, hp, by rw [hb, flat_append]; rfl, rfl⟩
theorem flat_u8L (l : List UInt8) : (flat U8 l).length = l.length := by rw [flat_length]; exact Nat.mul_one _

theorem tappend {t ty : TypeId} (hok : appOk Pr t T_uint8 1 1 = true) (hz : zeroOf Pr T_uint8 = some (U8.f U8.zero)) {s : Sl} {xs ys : List UInt8} {w : World} (hw : Sx B (TAr s xs :: F) w)
    {u : TypeId} {y : Value} {n : Nat} (hn : n = ys.length)
    (hnone : ∀ {sn sc : Nat} (hroom : sn + n ≤ sc), (Builtin.append_ #[t, u] ty #[.slice none sn sc, y]).run Pr w = .ok (.slice none (sn + n) sc) w)
    (hfits : ∀ {a : Addr} {sn sc : Nat} (hroom : sn + n ≤ sc) {w' : World} (hs : (storeCells (a.add (sn * 1)) (flat U8 ys)).run Pr w = .ok () w'), (Builtin.append_ #[t, u] ty #[.slice (some a) sn sc, y]).run Pr w = .ok (.slice (some a) (sn + n) sc) w')
    (hgrows : ∀ {p : Option Addr} {sn sc : Nat} {os : List Value} (hfs : ∀ w2 : World, mem w2 = mem w → (Builtin.firstCells 1 sn (.slice p sn sc)).run Pr w2 = .ok os.toArray w2) (hroom : ¬ sn + n ≤ sc) (hb : (sn + n) * 1 ≤ 140737488355328),
      ∃ (k : Nat), sn + n ≤ k ∧ k ≤ 9223372036854775807 ∧ (Builtin.append_ #[t, u] ty #[.slice p sn sc, y]).run Pr w = .ok (.slice (some ⟨w.heap.size, 0, none⟩) (sn + n) k) (w.drew.alloc (.cells (os ++ flat U8 ys ++ repL (U8.f U8.zero) (k - (sn + n))).toArray T_uint8)))
    (hb : xs.length + ys.length ≤ 140737488355328) :
    ∃ s' w', (Builtin.append_ #[t, u] ty #[s.v, y]).run Pr w = .ok (Sl.v s') w' ∧ Sx B (TAr s' (xs ++ ys) :: F) w' := by
  subst hn
  obtain ⟨p, sn, sc⟩ := s
  obtain ⟨g0, hg0, hs0⟩ := hw.head
  have hxr : RAr U8 ⟨p, sn, sc⟩ xs (mem w) := hg0.rd.mono hs0
  have hfx := fun (w2 : World) (h : mem w2 = mem w) => RArr.first (P := Pr) (w := w2) (by rw [h]; exact hxr.2)
  obtain ⟨zs, hxn, hxc, hc⟩ := hg0
  simp only at hxn hxc hc
  have hflx := flat_u8L xs
  have hfly := flat_u8L ys
  by_cases hroom : sn + ys.length ≤ sc
  · rcases hc with ⟨rfl, h0⟩ | ⟨b, rfl, hbk, hM⟩
    · have hys : ys = [] := List.eq_nil_of_length_eq_zero (by omega)
      subst hys
      refine ⟨⟨none, sn + 0, sc⟩, w, hnone hroom, ?_⟩
      rw [List.append_nil]; exact hw
    · have hwb : w.heap[b]? = some (.cells (flat U8 (xs ++ zs)).toArray T_uint8 (0, 0)) := hs0 _ _ hbk
      have hzsplit : flat U8 (xs ++ zs) = flat U8 xs ++ flat U8 (zs.take ys.length) ++ flat U8 (zs.drop ys.length) := by
        rw [← flat_append, ← flat_append, List.append_assoc, List.take_append_drop]
      obtain ⟨w', r1, r2, r3, r4, r5, r6, r7⟩ := storeCells_blk (P := Pr) b T_uint8 (0, 0) (flat U8 ys) (0 + sn * 1) 0 (flat U8 (xs ++ zs)) w hwb (by
        simp only [flat_u8L, List.length_append]; omega) (fun k _ h => by simp at h) (flat_one U8 ys)
      have hseg : setSeg (flat U8 ys) (0 + sn * 1 + 0) (flat U8 (xs ++ zs)) = flat U8 (xs ++ ys ++ zs.drop ys.length) := by
        have := setSeg_mid (flat U8 ys) (flat U8 xs) (flat U8 (zs.take ys.length)) (flat U8 (zs.drop ys.length)) (by rw [flat_u8L, flat_u8L, List.length_take]; omega)
        rw [hflx, hxn] at this
        rw [Nat.add_zero, Nat.zero_add, Nat.mul_one, hzsplit, flat_append, flat_append]
        exact this
      rw [hseg] at r2
      refine ⟨⟨some ⟨b, 0, none⟩, sn + ys.length, sc⟩, w', hfits hroom (by rw [add_none]; exact r1), ?_⟩
      refine Sx.writeO (P := TAr ⟨some ⟨b, 0, none⟩, sn, sc⟩ xs) (b := b) (o' := .cells (flat U8 (xs ++ ys ++ zs.drop ys.length)).toArray T_uint8 (0, 0)) hw (fun g hg => ?_) ⟨zs.drop ys.length, ?_, ?_, .inr ⟨b, rfl, by simp, hM⟩⟩ r3 r2 r4 r5 r6 r7
      · obtain ⟨_, _, _, hc⟩ := hg
        rcases hc with ⟨h, _⟩ | ⟨b', h, hb', _⟩
        · cases h
        · simp only [Option.some.injEq, Addr.mk.injEq, and_true, true_and] at h
          subst h; exact ⟨_, hb'⟩
      · simp; omega
      · simp; omega
  · obtain ⟨k, hk, hkM, hrun⟩ := hgrows hfx hroom (by omega)
    refine ⟨⟨some ⟨w.heap.size, 0, none⟩, sn + ys.length, k⟩, _, hrun, ?_⟩
    have hd : Sx B (TAr ⟨p, sn, sc⟩ xs :: F) w.drew := hw.drew
    refine Sx.allocO hd.tail ⟨List.replicate (k - (sn + ys.length)) U8.zero, ?_, ?_, .inr ⟨w.heap.size, rfl, ?_, hkM⟩⟩
    · simp; omega
    · simp; omega
    · rw [repL_flat, ← flat_append, ← flat_append]
      exact if_pos rfl

/-! append of one byte, append of a string. -/
theorem tapp1 {t ty : TypeId} {z : List Value} [a : AppT Pr t T_uint8 1 1 z] (hz : U8.f U8.zero = z := by rfl) {s : Sl} {xs : List UInt8} {b : Nat} (x : UInt8) {K : Sl → WP} (hb : xs.length + 1 ≤ 140737488355328)
    (h : ∀ s', Ent B (TAr s' (xs ++ [x]) :: F) (K s')) : Ent B (Blk b [.int .u8 x.toNat] :: TAr s xs :: F) (XApp Pr t t ty s.v (.slice (some ⟨b, 0, none⟩) 1 1) K) := by
  intro w hw
  have hw2 : Sx B (Ars U8 ⟨some ⟨b, 0, none⟩, 1, 1⟩ [x] [] :: TAr s xs :: F) w := by
    obtain ⟨g, hg, hm, hu⟩ := hw
    exact ⟨g, star_imp (fun q hq => blk_ar [x] 1 rfl rfl hq) hg, hm, hu⟩
  obtain ⟨q, hq, hqs⟩ := hw2.head
  have hy : RAr U8 ⟨some ⟨b, 0, none⟩, 1, 1⟩ [x] (mem w) := hq.read.mono hqs
  have hfy := fun (w2 : World) (h : mem w2 = mem w) => RArr.first (P := Pr) (w := w2) (by rw [h]; exact hy.2)
  have hzz : zeroOf Pr T_uint8 = some (U8.f U8.zero) := by rw [hz]; exact a.zero
  obtain ⟨s', w', hr, hx⟩ := tappend (ty := ty) (ys := [x]) (n := 1) a.ok hzz hw.tail rfl (fun hroom => append_none a.ok (hfy w rfl) hroom) (fun hroom _ hs => append_fits a.ok (hfy w rfl) hroom hs)
    (fun hfs hroom hb => append_grows a.ok hfs hfy hroom hb hzz) (by simpa using hb)
  exact ⟨s', w', hr, h s' w' hx⟩
theorem tappS {t u ty : TypeId} {z : List Value} [a : AppT Pr t T_uint8 1 1 z] (hu : Pr.underlying u = some .string) (hz : U8.f U8.zero = z := by rfl) {s : Sl} {xs : List UInt8} {str : ByteArray} {K : Sl → WP} (hb : xs.length + str.size ≤ 140737488355328)
    (h : ∀ s', Ent B (TAr s' (xs ++ str.data.toList) :: F) (K s')) : Ent B (TAr s xs :: F) (XApp Pr t u ty s.v (.string str) K) := by
  intro w hw
  have hfy : ∀ w2 : World, mem w2 = mem w → (Builtin.firstCells 1 str.size (.string str)).run Pr w2 = .ok (flat U8 str.data.toList).toArray w2 := fun w2 _ => by
    have e : (str.extract 0 str.size).data.map (fun b => Value.int .u8 (b.toNat : Int)) = (flat U8 str.data.toList).toArray := by
      have e0 : flat U8 str.data.toList = str.data.toList.map fun b => Value.int .u8 (b.toNat : Int) := (List.map_eq_flatMap ..).symm
      rw [ByteArray.extract_zero_size, e0]
      rw [← Array.toList_inj]; simp
    show (pure _ : Sem (Array Value)).run Pr w2 = _
    rw [e]; rfl
  have hzz : zeroOf Pr T_uint8 = some (U8.f U8.zero) := by rw [hz]; exact a.zero
  obtain ⟨s', w', hr, hx⟩ := tappend (ty := ty) (ys := str.data.toList) (n := str.size) a.ok hzz hw (by simp) (fun hroom => appendS_none a.ok hu (hfy w rfl) hroom) (fun hroom _ hs => appendS_fits a.ok hu (hfy w rfl) hroom hs)
    (fun hfs hroom hb => appendS_grows a.ok hu hfs hfy hroom hb hzz) (by simpa using hb)
  exact ⟨s', w', hr, h s' w' hx⟩

/-- A new builder. -/
theorem xbldnew {K : Nat → WP} (h : ∀ b, Ent B (Bld b [] :: As) (K b)) : Ent B As (XNew [.pointer none, .slice none 0 0] T_strings_Builder K) := by
  intro w hw
  refine h _ _ (hw.allocQ (Q := Bld w.heap.size []) ⟨none, ⟨none, 0, 0⟩, .inl rfl, ?_⟩)
  refine ⟨(fun k => if k = w.heap.size then some (.cells #[.pointer none, .slice none 0 0] T_strings_Builder) else none), (fun _ => none), by simp [TBlk, Sl.v], ?_, fun k => .inr rfl, fun _ _ h => h, fun _ _ h => (by cases h)⟩
  refine ⟨(fun _ => none), (fun _ => none), ⟨[], rfl, rfl, .inl ⟨rfl, rfl⟩⟩, ?_, fun k => .inr rfl, fun _ _ h => (by cases h), fun _ _ h => (by cases h)⟩
  exact trivial
end Go.Cx

namespace Go.Cx
open Go Go.Cf
set_option linter.unusedVariables false
set_option maxRecDepth 100000
variable {B : Base} {As F : List HP}

/-- The library's two errors, as they lie. -/
def ErrAt (b : Nat) : HP := fun h => ∃ (cs : List Value) (e : TypeId) (fr : Nat × Nat) (v : Value), h b = some (.cells cs.toArray e fr) ∧ cs[0]? = some v ∧ (v = .nilIface ∨ ∃ te pe, v = .iface te pe)
theorem ErrAt.mono {b : Nat} : ∀ g f, ErrAt b g → Sub g f → ErrAt b f := fun _ _ ⟨cs, e, fr, v, h, h2⟩ s => ⟨cs, e, fr, v, s _ _ h, h2⟩
theorem ErrAt.cell {b : Nat} {w : World} (h : ErrAt b (mem w)) : ∃ v, w.cell? ⟨b, 0, none⟩ = some v ∧ (v = .nilIface ∨ ∃ te pe, v = .iface te pe) := by
  obtain ⟨cs, e, fr, v, h, h2, h3⟩ := h
  have h' : w.heap[b]? = some (.cells cs.toArray e fr) := h
  refine ⟨v, ?_, h3⟩
  simp only [World.cell?, h']
  simpa using h2
abbrev errN : Nat := 3
abbrev errR : Nat := 4
def GErr : HP := (ErrAt errN).and (ErrAt errR)
theorem GErr.mono : ∀ g f, GErr g → Sub g f → GErr f := fun g f h s => ⟨ErrAt.mono g f h.1 s, ErrAt.mono g f h.2 s⟩

theorem below_bytes (w : World) (e : TypeId) (t : ByteArray) : Go.RowKit.Below w.heap.size w (Lib.bytesWorld w e t) := ⟨rfl, rfl, rfl, by
    show w.heap.size ≤ (((w.heap.push _).modify _ _).size)
    rw [Array.size_modify, Array.size_push]; omega, fun k hk => by
    show (((w.heap.push _).modify w.heap.size _))[k]? = _
    rw [Array.getElem?_modify, if_neg (by omega), Array.getElem?_push_lt hk]
    exact (Array.getElem?_eq_getElem hk).symm⟩
theorem HasPrefix_spec (s p : ByteArray) : Ct Pr F_strings_HasPrefix [.string s, .string p] .one [.bool] [] emp (fun t Bs => t.1 = Lib.hasPrefix s.data.toList p.data.toList ∧ Bs = []) :=
  ct_below (t := (Lib.hasPrefix s.data.toList p.data.toList, ())) ⟨rfl, rfl⟩ (fun w _ => (Go.Proofs.Tryz.strings_HasPrefix s p w).mono fun e w' ⟨he, hw'⟩ => ⟨he, hw' ▸ Go.RowKit.Below.refl _ _⟩) (fun _ _ h _ => h)
theorem HasSuffix_spec (s p : ByteArray) (hs : s.size ≤ 9223372036854775807) : Ct Pr F_strings_HasSuffix [.string s, .string p] .one [.bool] [] emp (fun t Bs => t.1 = Lib.hasSuffix s.data.toList p.data.toList ∧ Bs = []) :=
  ct_below (t := (Lib.hasSuffix s.data.toList p.data.toList, ())) ⟨rfl, rfl⟩ (fun w _ => (Go.Proofs.Tryz.strings_HasSuffix s p w hs).mono fun e w' ⟨he, hw'⟩ => ⟨he, hw' ▸ Go.RowKit.Below.refl _ _⟩) (fun _ _ h _ => h)
theorem TrimSuffix_spec (s p : ByteArray) (hs : s.size ≤ 9223372036854775807) : Ct Pr F_strings_TrimSuffix [.string s, .string p] .one [.str] [] emp (fun t Bs => t.1 = ⟨(Lib.trimSuffix s.data.toList p.data.toList).toArray⟩ ∧ Bs = []) :=
  ct_below (t := (⟨(Lib.trimSuffix s.data.toList p.data.toList).toArray⟩, ())) ⟨rfl, rfl⟩ (fun w _ => (Go.Proofs.Tryz.strings_TrimSuffix s p w hs).mono fun e w' ⟨he, hw'⟩ => ⟨he, hw' ▸ Go.RowKit.Below.refl _ _⟩) (fun _ _ h _ => h)
theorem indexByte_mem : ∀ (c : UInt8) (l : List UInt8), (0 ≤ Lib.indexByte l c) ↔ c ∈ l := by
  intro c l
  have hge := Lib.indexByte_ge l c
  refine ⟨fun h => ?_, fun h => ?_⟩
  · obtain ⟨o, ho⟩ := Int.eq_ofNat_of_zero_le h
    exact List.mem_of_getElem? (Lib.indexByte_some ho).1
  · by_cases e : Lib.indexByte l c = -1
    · obtain ⟨i, hi, e2⟩ := List.mem_iff_getElem.1 h
      exact absurd (by rw [List.getElem?_eq_getElem hi, e2]) (Lib.indexByte_none e i)
    · omega
theorem Contains_spec (s : ByteArray) (c : UInt8) : Ct Pr F_strings_Contains [.string s, .string ⟨#[c]⟩] .one [.bool] [] emp (fun t Bs => t.1 = decide (c ∈ s.data.toList) ∧ Bs = []) :=
  ct_below (t := (decide (c ∈ s.data.toList), ())) ⟨rfl, rfl⟩ (fun w _ => (Go.Proofs.Tryz.strings_Contains_one s c w).mono fun e w' ⟨he, hw'⟩ => ⟨by rw [he, decide_eq_decide.2 (indexByte_mem c _)]; rfl, hw' ▸ Go.RowKit.Below.refl _ _⟩) (fun _ _ h _ => h)
theorem IndexByte_spec (s : ByteArray) (c : UInt8) : Ct Pr F_strings_IndexByte [.string s, .int .u8 c.toNat] .one [.int .i64] [] emp (fun t Bs => t.1 = Lib.indexByte s.data.toList c ∧ Bs = []) :=
  ct_below (t := (Lib.indexByte s.data.toList c, ())) ⟨rfl, rfl⟩ (fun w _ => (Go.Proofs.Tryz.strings_IndexByte s (c.toNat : Int) w).mono fun e w' ⟨he, hw'⟩ => ⟨by rw [he, show ((c.toNat : Int).toNat.toUInt8) = c by simp]; rfl, hw' ▸ Go.RowKit.Below.refl _ _⟩) (fun _ _ h _ => h)
theorem AtoiAll_spec (s : ByteArray) (hs : s.size ≤ 281474976710656) : Ct Pr F_strconv_Atoi [.string s] (.tup [none, none]) [.int .i64, .val] [] GErr
    (fun t Bs => ((Lib.atoiAll s.data.toList = .ok t.1 ∧ t.2.1 = .nilIface) ∨ ((∀ v, Lib.atoiAll s.data.toList ≠ .ok v) ∧ ∃ te pe, t.2.1 = .iface te pe)) ∧ Bs = []) := by
  intro w g hs' hm hr
  have hr' : GErr (mem w) := GErr.mono _ _ hr fun k o hk => by
    unfold frz at hk
    cases hg : g k with
    | some _ => rw [hg] at hk; cases hk
    | none => rw [hg] at hk; exact hk
  obtain ⟨v1, hv1, hn1⟩ := ErrAt.cell hr'.1
  obtain ⟨v2, hv2, hn2⟩ := ErrAt.cell hr'.2
  have hst := Sx.start (pre := []) hs' hm
  obtain ⟨r, ha⟩ : ∃ r, Lib.atoiAll s.data.toList = r := ⟨_, rfl⟩
  rcases r with v | _ | _
  · skip
    refine (Go.Proofs.Tryz.strconv_Atoi_ok s (by omega) v ha w).mono ?_
    rintro e w' ⟨he, hw'⟩
    refine ⟨(v, .nilIface, ()), [], he, ⟨.inl ⟨ha, rfl⟩, rfl⟩, Sx.below hst ?_⟩
    rcases hw' with rfl | ⟨t, rfl⟩
    · exact Go.RowKit.Below.refl _ _
    · exact below_bytes _ _ _
  · skip
    refine (Go.Proofs.Any.strconv_Atoi_syntax Go.Proofs.Tryz.laysC172 s hs ha v1 w hv1 hn1).mono ?_
    rintro e w' ⟨n, he, _, _, hb⟩
    exact ⟨(0, _, ()), [], he, ⟨.inr ⟨fun v h => (by rw [ha] at h; cases h), _, _, rfl⟩, rfl⟩, Sx.below hst hb⟩
  · skip
    refine (Go.Proofs.Tryz.strconv_Atoi_range s hs ha v2 w hv2 hn2).mono ?_
    rintro e w' ⟨n, he, _, _, hb⟩
    exact ⟨(_, _, ()), [], he, ⟨.inr ⟨fun v h => (by rw [ha] at h; cases h), _, _, rfl⟩, rfl⟩, Sx.below hst hb⟩

/-! The builder's check of its place, and its string. -/
def ren240 : Go.Shelf.Ren := ⟨fun | 240 => 81 | 276 => 118 | n => n, fun | 0 => 0 | 4 => 4 | 9 => 9 | 20 => 20 | 70 => 65 | 72 => 67 | 37 => 23 | 164 => 183 | n => n, fun | n => n⟩
theorem lays240 : Go.Proofs.Lays.n240 Go.Proofs.Tryz.prog ren240 := {
  mixed := by kernel_rfl
  f240 := Go.Proofs.Tryz.func81.trans (congrArg some (by kernel_rfl))
  f276 := Go.Proofs.Tryz.func118.trans (congrArg some (by kernel_rfl))
  t0 := Go.Proofs.Tryz.underlying0
  a0 := Go.Proofs.Tryz.isAgg0
  z0 := Go.Proofs.Tryz.sizeOf0
  v0 := Go.Proofs.Tryz.zeroValue0
  t4 := Go.Proofs.Tryz.underlying4
  a4 := Go.Proofs.Tryz.isAgg4
  z4 := Go.Proofs.Tryz.sizeOf4
  v4 := Go.Proofs.Tryz.zeroValue4
  t9 := Go.Proofs.Tryz.underlying9
  a9 := Go.Proofs.Tryz.isAgg9
  z9 := Go.Proofs.Tryz.sizeOf9
  v9 := Go.Proofs.Tryz.zeroValue9
  t20 := Go.Proofs.Tryz.underlying20
  a20 := Go.Proofs.Tryz.isAgg20
  z20 := Go.Proofs.Tryz.sizeOf20
  v20 := Go.Proofs.Tryz.zeroValue20
  t70 := Go.Proofs.Tryz.underlying65
  a70 := Go.Proofs.Tryz.isAgg65
  z70 := Go.Proofs.Tryz.sizeOf65
  v70 := Go.Proofs.Tryz.zeroValue65
  t72 := Go.Proofs.Tryz.underlying67
  a72 := Go.Proofs.Tryz.isAgg67
  z72 := Go.Proofs.Tryz.sizeOf67
  v72 := Go.Proofs.Tryz.zeroValue67
  t164 := Go.Proofs.Tryz.underlying183
  a164 := Go.Proofs.Tryz.isAgg183
  z164 := Go.Proofs.Tryz.sizeOf183
  v164 := Go.Proofs.Tryz.zeroValue183 }
theorem x72 : Go.Proofs.Builder.X72 Go.Proofs.Tryz.prog ren240 := { sizeBuilder := by kernel_rfl, liesBuilder := by kernel_rfl }
theorem copyCheck_spec (b : Nat) (q : Option Addr) (x : Value) (hq : q = none ∨ q = some ⟨b, 0, none⟩) : Ct Pr F_strings_Builder_copyCheck [.pointer (some ⟨b, 0, none⟩)] (.tup []) [] [TBlk b T_strings_Builder [.pointer q, x]] emp (fun _ Bs => Bs = [TBlk b T_strings_Builder [.pointer (some ⟨b, 0, none⟩), x]]) := by
  intro w g hs' hm hr
  have hst := Sx.start hs' hm
  have hb := TBlk.mem hst
  rcases hq with rfl | rfl
  · refine (Go.Proofs.Any.Builder_copyCheck_fresh lays240 x72 b w (by simp [World.cell?, hb]) (by simp [World.shape?, hb]; rfl) (by simp [World.frozen?, hb])).mono ?_
    rintro e w' ⟨he, rfl⟩
    exact ⟨(), _, he, rfl, TBlk.set hst rfl⟩
  · refine (Go.Proofs.Any.Builder_copyCheck_used lays240 x72 b w (by simp [World.cell?, hb])).mono ?_
    rintro e w' ⟨he, rfl⟩
    exact ⟨(), _, he, rfl, hst⟩
theorem BString_run {P : Program} {ρ : Go.Shelf.Ren} (L : Go.Proofs.Lays.n169 P ρ) (X : Go.Proofs.Builder.Extra P ρ) (b g : Nat) (l : List UInt8) (cap : Nat) (cur : Array Value) (p : Value) (w : World) (h0 : l ≠ [])
    (hbk : w.heap[b]? = some (.cells #[p, .slice (some ⟨g, 0, none⟩) l.length cap] (ρ.t 72) (0, 0))) (hg : w.heap[g]? = some (.cells cur (ρ.t 5) (0, 0)))
    (hnc : l.length ≤ cap) (hcm : cap ≤ 9223372036854775807) (hcs : cur.size = cap) (hcell : ∀ j x, l[j]? = some x → w.cell? ((⟨g, 0, none⟩ : Addr).add j) = some (.int .u8 x.toNat)) :
    Calls P (ρ.f 169) #[.pointer (some ⟨b, 0, none⟩)] w fun e w' => e = .returned (.string ⟨l.toArray⟩) ∧ w' = w.drew.freeze ⟨g, 0, none⟩ l.length := by
  have hl0 : l.length ≠ 0 := by simpa using h0
  have c1 : w.drew.cell? ⟨b, 1, none⟩ = some (.slice (some ⟨g, 0, none⟩) l.length cap) := by
    have : w.drew.heap[b]? = some (.cells #[p, .slice (some ⟨g, 0, none⟩) l.length cap] (ρ.t 72) (0, 0)) := hbk
    simp [World.cell?, this]
  have hSD : (Builtin.unsafeSliceData_ #[(ρ.t 37)] (ρ.t 127) #[.slice (some ⟨g, 0, none⟩) l.length cap]).run P w.drew = .ok (.pointer (some ⟨g, 0, none⟩)) w.drew :=
    Lib.run_unsafeSliceData_row _ _ _ _ _ _ (by omega)
  have hUS : (Builtin.unsafeString_ #[(ρ.t 127), (ρ.t 3)] (ρ.t 9) #[.pointer (some ⟨g, 0, none⟩), .int .i64 l.length]).run P w.drew = .ok (.string ⟨l.toArray⟩) (w.drew.freeze ⟨g, 0, none⟩ l.length) :=
    Lib.run_unsafeString_row w.drew (ρ.t 127) (ρ.t 3) (ρ.t 9) (ρ.t 5) L.t127 X.cellsByte g cur.size (by have hg' : w.drew.heap[g]? = some (.cells cur (ρ.t 5) (0, 0)) := hg; simp [World.shape?, hg']) l h0 (by omega) (by omega) hcell
  have mixed := L.mixed
  have t72 := L.t72; have a72 := L.a72; have z72 := L.z72; have v72 := L.v72; have u72 := run_underlying L.t72
  have t70 := L.t70; have a70 := L.a70; have z70 := L.z70; have v70 := L.v70; have u70 := run_underlying L.t70
  have t37 := L.t37; have a37 := L.a37; have z37 := L.z37; have v37 := L.v37; have u37 := run_underlying L.t37
  have t127 := L.t127; have a127 := L.a127; have z127 := L.z127; have v127 := L.v127; have u127 := run_underlying L.t127
  have t3 := L.t3; have a3 := L.a3; have z3 := L.z3; have v3 := L.v3; have u3 := run_underlying L.t3
  have t9 := L.t9; have a9 := L.a9; have z9 := L.z9; have v9 := L.v9; have u9 := run_underlying L.t9
  have t5 := X.t5; have a5 := X.a5; have z5 := X.z5; have v5 := X.v5; have u5 := run_underlying X.t5
  go_enter L.f169, Go.Proofs.Body.n169_ntmps ρ
  go_wp2
  go_region_o
  all_goals (go_wp2; go_ret; exact ⟨rfl, rfl⟩)

theorem sx_modify {g : Nat} {o : Obj} {w : World} (f : Obj → Obj) (hx : Sx B [fun h => h g = some o] w) : Sx B [] { w with heap := w.heap.modify g f } := by
  obtain ⟨g1, hg1, hs1⟩ := hx.head
  have hgs : g < w.heap.size := (Array.getElem?_eq_some_iff.1 (hs1 _ _ hg1)).1
  exact (Sx.writeO (Q := fun h => ∃ o, h g = some o) (w' := { w with heap := w.heap.modify g f }) (b := g) (o' := (w.heap.modify g f)[g]'(by rw [Array.size_modify]; exact hgs)) hx (fun g2 h2 => ⟨_, h2⟩) ⟨_, if_pos rfl⟩ (fun k hk => by simp [Array.getElem?_modify, Ne.symm hk]) (Array.getElem?_eq_getElem _) rfl rfl rfl ⟨by simp, Nat.le_refl _⟩).tail
theorem BString_spec (b : Nat) (l : List UInt8) (h0 : l ≠ []) (hl : l.length ≤ 140737488355328) : Ct Pr F_strings_Builder_String [.pointer (some ⟨b, 0, none⟩)] .one [.str] [Bld b l] emp (fun t Bs => t.1 = BA l ∧ Bs = []) := by
  intro w g0 hs' hm hr
  obtain ⟨gg, ⟨h1, h2, ⟨q, s, hq, hbs⟩, hE, dd, u1, u2⟩, hm2, hu2⟩ := Sx.start hs' hm
  obtain ⟨k1, k2, p1, ⟨k3, k4, p3, _, _, s3, _⟩, _, s1, s2⟩ := hbs
  have hbk : w.heap[b]? = some _ := hm2 _ _ (u1 _ _ (s1 _ _ p1))
  obtain ⟨zs, hn, hc, hcase⟩ := p3
  obtain ⟨p, n, c⟩ := s
  simp only at hn hc hcase
  have hl0 : 0 < l.length := List.length_pos_iff.2 h0
  rcases hcase with ⟨_, h⟩ | ⟨g, rfl, hgk, hM⟩
  · omega
  have hg1 := s2 _ _ (s3 _ _ hgk)
  have hg : w.heap[g]? = some _ := hm2 _ _ (u1 _ _ hg1)
  subst hn
  have hx : Sx ⟨w, g0⟩ [fun h => h g = some (.cells (flat U8 (l ++ zs)).toArray T_uint8 (0, 0))] w := ⟨gg, ⟨h1, h2, hg1, hE, dd, u1, u2⟩, hm2, hu2⟩
  refine (BString_run Go.Proofs.Tryz.lays169 Go.Proofs.Tryz.Builder_Extra_169 b g l c _ _ w h0 hbk hg (by omega) (by omega) (by simp only [List.size_toArray, flat_u8L, List.length_append]; omega) (fun j x hx => ?_)).mono ?_
  · have hj : j < l.length := (List.getElem?_eq_some_iff.1 hx).1
    rw [add_none]
    simp only [World.cell?, hg]
    have : (flat U8 (l ++ zs))[0 + j]? = some (.int .u8 x.toNat) := by
      have e0 : flat U8 (l ++ zs) = (l ++ zs).map fun b => Value.int .u8 (b.toNat : Int) := (List.map_eq_flatMap ..).symm
      rw [e0, Nat.zero_add, List.getElem?_map, List.getElem?_append_left hj, hx]; rfl
    simpa using this
  · rintro e w' ⟨he, rfl⟩
    refine ⟨(BA l, ()), [], he, ⟨rfl, rfl⟩, ?_⟩
    unfold World.freeze
    rw [if_neg (by omega)]
    exact sx_modify _ hx.drew
end Go.Cx

namespace Go.Cx
open Go Go.Cf
set_option linter.unusedVariables false
set_option maxRecDepth 100000
variable {B : Base} {As F : List HP}

def StepV.cells (s : StepV) (sl : Sl) : List Value := [.int .i64 s.kind, .int .i64 s.num, .int .i64 s.way, .int .i64 s.bit, .int .i64 s.unit, .int .i64 s.addr, .int .i64 s.id, .string (BA s.name), sl.v]
def StepP (b : Nat) (s : StepV) : HP := fun h => ∃ sl : Sl, star [Blk b [.int .i64 s.kind, .int .i64 s.num, .int .i64 s.way, .int .i64 s.bit, .int .i64 s.unit, .int .i64 s.addr, .int .i64 s.id, .string (BA s.name), sl.v], Ar U8 sl s.bytes] h
theorem xstep {b : Nat} {s : StepV} {φ : WP} (j : Nat) [p : Pick j As (StepP b s) F]
    (h : ∀ sl : Sl, Ent B (Blk b [.int .i64 s.kind, .int .i64 s.num, .int .i64 s.way, .int .i64 s.bit, .int .i64 s.unit, .int .i64 s.addr, .int .i64 s.id, .string (BA s.name), sl.v] :: Ar U8 sl s.bytes :: F) φ) : Ent B As φ := by
  refine xopen j (fun Bs => ∃ sl : Sl, Bs = [Blk b [.int .i64 s.kind, .int .i64 s.num, .int .i64 s.way, .int .i64 s.bit, .int .i64 s.unit, .int .i64 s.addr, .int .i64 s.id, .string (BA s.name), sl.v], Ar U8 sl s.bytes]) (fun g hg => ?_) ?_
  · obtain ⟨sl, h3⟩ := hg
    exact ⟨_, ⟨sl, rfl⟩, h3⟩
  · rintro _ ⟨sl, rfl⟩
    exact app2 (h sl)

/-! Words in lists. -/
theorem idx_spec (s : Sl) (l : List (List UInt8)) (w : List UInt8) (hl : l.length ≤ 1000) : Ct Pr F_slices_Index_L_string_string_ [s.v, .string (BA w)] .one [.int .i64] [] (RAr Cf.ST s (l.map BA)) (fun t Bs => t.1 = placeI l w ∧ Bs = []) := by
  refine spec1 c_slices_Index_L_string_string_ fun B hr => ?_
  haveI : Fro B s Cf.ST (l.map BA) := ⟨hr⟩
  have hs : (l.map BA).length = s.n := hr.1
  rw [List.length_map] at hs
  unfold slices_Index_L_string_string_
  refine xloop1 (fun m (i : Int) As' => ∃ k : Nat, i = (k : Int) ∧ m = l.length - k ∧ k ≤ l.length ∧ (∀ j, j < k → l[j]? ≠ some w) ∧ As' = []) l.length ⟨0, rfl, rfl, by omega, fun j hj => absurd hj (by omega), rfl⟩ ?_
  rintro m i As' K ⟨k, rfl, rfl, hk, hno, rfl⟩ hK
  refine xif_dec (fun hp => ?_) (fun hp => ?_)
  · have hp : k < l.length := by omega
    obtain ⟨y, hy⟩ : ∃ w, l[k]? = some w := ⟨_, List.getElem?_eq_getElem hp⟩
    have hwx : (l.map BA)[k]? = some (BA y) := by rw [List.getElem?_map, hy]; rfl
    refine xidxn (E := Cf.ST) (xs := l.map BA) (s := s) (h1 := by rw [List.length_map]; exact hp) (h := fun x hx => ?_)
    obtain rfl : x = BA y := by rw [hwx] at hx; exact (Option.some.inj hx).symm
    refine xgetE (E := Cf.ST) (xs := l.map BA) hx (h := ?_)
    have e := BA_eqv w y
    refine xif (fun h => xret ⟨?_, rfl⟩) (fun h => ?_)
    · have h := eq_of_beq (e.symm.trans h)
      subst h
      have := place_get (i := 0) hno hy
      rw [Nat.zero_add] at this
      exact this.symm
    · have h := beq_eq_false_iff_ne.1 (e.symm.trans h)
      rw [wrap_succ k (by omega)]
      refine hK (l.length - (k + 1)) _ _ (by omega) ⟨k + 1, rfl, rfl, by omega, fun j hj => ?_, rfl⟩
      by_cases hjk : j = k
      · subst hjk; rw [hy]; simpa using fun e => h e.symm
      · exact hno j (by omega)
  · refine xret ⟨?_, rfl⟩
    refine (place_none fun hm => ?_).symm
    obtain ⟨j, hj⟩ := List.getElem?_of_mem hm
    have := (List.getElem?_eq_some_iff.1 hj).1
    exact hno j (by omega) hj

theorem ways_spec : Ct Pr F_console_ways [] .one [.slice] [] emp (fun t Bs => Bs = [Ar Cf.ST t.1 (waysW.map BA)] ∧ t.1.n = 4 ∧ t.1.c = 4) := by
  refine spec1 c_console_ways fun B hr => ?_
  unfold console_ways
  refine xnew fun b => ?_
  refine xfold1 (Q := Ar Cf.ST ⟨some ⟨b, 0, none⟩, 4, 4⟩ (waysW.map BA)) 0 (fun g hg => ⟨[], blk_ar (E := Cf.ST) (waysW.map BA) 4 rfl rfl hg⟩) ?_
  exact xret ⟨rfl, rfl, rfl⟩
theorem kindsC_spec : Ct Pr F_console_kinds [] .one [.slice] [] emp (fun t Bs => Bs = [Ar Cf.ST t.1 (kindsW.map BA)] ∧ t.1.n = 4 ∧ t.1.c = 4) := by
  refine spec1 c_console_kinds fun B hr => ?_
  unfold console_kinds
  refine xnew fun b => ?_
  refine xfold1 (Q := Ar Cf.ST ⟨some ⟨b, 0, none⟩, 4, 4⟩ (kindsW.map BA)) 0 (fun g hg => ⟨[], blk_ar (E := Cf.ST) (kindsW.map BA) 4 rfl rfl hg⟩) ?_
  exact xret ⟨rfl, rfl, rfl⟩

/-- A shape of a line. -/
def SHP : Enc (List UInt8 × Int × List UInt8) := ⟨fun x => [.string (BA x.1), .int .i64 x.2.1, .string (BA x.2.2)], 3, fun _ => rfl, fun x v h => by
  simp only [List.mem_cons, List.not_mem_nil, or_false] at h
  rcases h with h | h | h <;> (subst h; rfl), by decide, ([], 0, [])⟩
theorem shapes_spec : Ct Pr F_console_shapes [] .one [.slice] [] emp (fun t Bs => Bs = [Ar SHP t.1 shapesL] ∧ t.1.n = 16) := by
  refine spec1 c_console_shapes fun B hr => ?_
  unfold console_shapes
  refine xnew fun b => ?_
  refine xfold1 (Q := Ar SHP ⟨some ⟨b, 0, none⟩, 16, 16⟩ shapesL) 0 (fun g hg => ⟨[], blk_ar (E := SHP) shapesL 16 rfl rfl hg⟩) ?_
  exact xret ⟨rfl, rfl⟩

/-! Fields. -/
def offF (f : UInt8) : Nat := if f = 110 then 1 else if f = 117 then 4 else if f = 97 then 5 else if f = 105 then 6 else if f = 119 then 2 else 3
theorem off_cases (f : UInt8) : (offF f = 1 ∧ (∀ v s, setF f v s = { s with num := v }) ∧ ∀ s, getF f s = s.num) ∨ (offF f = 4 ∧ (∀ v s, setF f v s = { s with unit := v }) ∧ ∀ s, getF f s = s.unit) ∨
    (offF f = 5 ∧ (∀ v s, setF f v s = { s with addr := v }) ∧ ∀ s, getF f s = s.addr) ∨ (offF f = 6 ∧ (∀ v s, setF f v s = { s with id := v }) ∧ ∀ s, getF f s = s.id) ∨
    (offF f = 2 ∧ (∀ v s, setF f v s = { s with way := v }) ∧ ∀ s, getF f s = s.way) ∨ (offF f = 3 ∧ (∀ v s, setF f v s = { s with bit := v }) ∧ ∀ s, getF f s = s.bit) := by
  unfold offF setF getF
  by_cases h1 : f = 110
  · left; simp [h1]
  by_cases h2 : f = 117
  · right; left; simp [h2]
  by_cases h3 : f = 97
  · right; right; left; simp [h3]
  by_cases h4 : f = 105
  · right; right; right; left; simp [h4]
  by_cases h5 : f = 119
  · right; right; right; right; left; simp [h5]
  · right; right; right; right; right; simp [h1, h2, h3, h4, h5]
theorem u8_eq {f : UInt8} {n : Nat} (hn : n < 256) : ((f.toNat : Int) == (n : Int)) = (f == UInt8.ofNat n) := by
  rw [Bool.eq_iff_iff]
  simp only [beq_iff_eq]
  constructor
  · intro h; exact UInt8.toNat_inj.1 (by rw [UInt8.toNat_ofNat']; omega)
  · intro h; subst h; rw [UInt8.toNat_ofNat']; omega
theorem number_spec30 (b : Nat) (f : UInt8) : Ct Pr F_console_number [.pointer (some ⟨b, 0, none⟩), .int .u8 f.toNat] .one [.ptr] [] emp (fun t Bs => t.1 = some ⟨b, offF f, none⟩ ∧ Bs = []) := by
  refine spec1 c_console_number fun B hr => ?_
  unfold console_number offF
  have key : ∀ {n : Nat} {X Y : WP}, n < 256 → (f = UInt8.ofNat n → Ent B [] X) → (f ≠ UInt8.ofNat n → Ent B [] Y) → Ent B [] (XIf ((f.toNat : Int) == (n : Int)) X Y) := by
    intro n X Y hn h1 h2
    rw [u8_eq hn]
    exact xif (fun h => h1 (eq_of_beq h)) (fun h => h2 (beq_eq_false_iff_ne.1 h))
  refine key (n := 110) (by decide) (fun (h : f = 110) => xnil (xret ⟨by rw [if_pos h]; rfl, rfl⟩)) fun (h1 : f ≠ 110) => ?_
  refine key (n := 117) (by decide) (fun (h : f = 117) => xnil (xret ⟨by rw [if_neg h1, if_pos h]; rfl, rfl⟩)) fun (h2 : f ≠ 117) => ?_
  refine key (n := 97) (by decide) (fun (h : f = 97) => xnil (xret ⟨by rw [if_neg h1, if_neg h2, if_pos h]; rfl, rfl⟩)) fun (h3 : f ≠ 97) => ?_
  refine key (n := 105) (by decide) (fun (h : f = 105) => xnil (xret ⟨by rw [if_neg h1, if_neg h2, if_neg h3, if_pos h]; rfl, rfl⟩)) fun (h4 : f ≠ 105) => ?_
  refine key (n := 119) (by decide) (fun (h : f = 119) => xnil (xret ⟨by rw [if_neg h1, if_neg h2, if_neg h3, if_neg h4, if_pos h]; rfl, rfl⟩)) fun (h5 : f ≠ 119) => ?_
  exact xnil (xret ⟨by rw [if_neg h1, if_neg h2, if_neg h3, if_neg h4, if_neg h5]; rfl, rfl⟩)

theorem xisnil {v : Value} {f : Bool} {b : Bool} {K : Bool → WP} (hv : nilV f v = some b) (h : Ent B As (K b)) : Ent B As (XIsNil f v K) := fun w hw => ⟨b, hv, h w hw⟩

theorem numI_all {w : List UInt8} {v : Int} (h : numI w = some v) : Lib.atoiAll w = .ok v := by
  have hok : numOk w = true := by
    cases e : numOk w with
    | true => rfl
    | false => rw [numI_no e] at h; cases h
  have h13 := (numOk_parts hok).2.1
  have hw18 : w.length ≤ 18 := by
    have : w.length ≤ (bare w).length + 1 := by
      unfold bare
      split
      · split <;> simp
      · simp
    omega
  rw [Lib.atoiAll_short w hw18, atoi_of hok, h]; rfl
theorem toNumber_spec (w : List UInt8) (hl : w.length ≤ 281474976710656) : Ct Pr F_console_toNumber [.string (BA w)] (.tup [none, none]) [.int .i64, .bool] [] (GErr.and GTab) (fun t Bs => t.2.1 = (numI w).isSome ∧ (∀ v, numI w = some v → t.1 = v) ∧ Bs = []) := by
  refine spec2 c_console_toNumber fun B hr => ?_
  haveI : FroP B GErr := ⟨hr.1, fun _ _ h s => GErr.mono _ _ h s⟩
  haveI : FroP B GTab := ⟨hr.2, fun _ _ h s => GTab.mono _ _ h s⟩
  unfold console_toNumber
  refine xcall0 (AtoiAll_spec (BA w) (by rw [BA_size]; exact hl)) rdb ?_
  rintro ⟨(r : Int), v, _⟩ _ ⟨h, rfl⟩
  simp only [BA_list] at h
  refine app0 (ca2 ?_)
  rcases h with ⟨h1, rfl⟩ | ⟨h1, te, pe, rfl⟩
  · refine xisnil (b := true) rfl ?_
    refine xjoin1 (fun (c : Bool) As' => As' = [] ∧ c = (numI w).isSome) (fun K hK => ?_) ?_
    · have hno : ∀ c, ¬ (-9999999999999 ≤ r ∧ r ≤ 9999999999999 ∧ Lib.itoa r = w) → c = false → c = (numI w).isSome := by
        intro c hn hc
        subst hc
        cases e : numI w with
        | none => rfl
        | some v =>
          have := numI_all e
          rw [h1] at this
          injection this with this
          subst this
          obtain ⟨g1, g2⟩ := num_only e
          exact absurd ⟨by omega, by omega, g2⟩ hn
      refine xif (fun h => ?_) (fun h => hK _ _ ⟨rfl, ?_⟩)
      · simp only [Bool.true_and, Bool.and_eq_true, decide_eq_true_eq] at h
        refine xcall0 (Itoa_spec r (by omega) (by omega)) rdb ?_
        rintro ⟨t, _⟩ _ ⟨ht, rfl⟩
        obtain rfl : t = BA (Lib.itoa r) := ht
        refine app0 (ca1 (hK _ _ ⟨rfl, ?_⟩))
        show ((BA (Lib.itoa r)).toList == (BA w).toList) = _
        rw [BA_eqv]
        by_cases e : Lib.itoa r = w
        · have : numI w = some r := by rw [← e]; exact num_of_itoa (by omega) (by omega)
          rw [this, e]; simp
        · rw [beq_eq_false_iff_ne.2 e]
          exact hno _ (fun h => e h.2.2) rfl
      · refine hno _ (fun (hh : -9999999999999 ≤ r ∧ r ≤ 9999999999999 ∧ Lib.itoa r = w) => ?_) rfl
        simp only [Bool.true_and, Bool.and_eq_false_iff, decide_eq_false_iff_not] at h
        omega
    · rintro c As2 ⟨rfl, rfl⟩
      refine xret ⟨rfl, fun v hv => ?_, rfl⟩
      have := numI_all hv
      rw [h1] at this
      injection this
  · refine xisnil (b := false) rfl ?_
    refine xjoin (xiff rfl (xret ⟨?_, fun v hv => absurd (numI_all hv) (h1 v), rfl⟩))
    cases e : numI w with
    | none => rfl
    | some v => exact absurd (numI_all e) (h1 v)

/-! Bytes. -/
def digW : List UInt8 := [48, 49, 50, 51, 52, 53, 54, 55, 56, 57, 97, 98, 99, 100, 101, 102]
theorem hexI_idx (b : UInt8) : Lib.indexByte digW b = hexI b := by
  have : ∀ m, m < 256 → Lib.indexByte digW (UInt8.ofNat m) = hexI (UInt8.ofNat m) := by decide +kernel
  have h := this b.toNat (UInt8.toNat_lt b)
  rw [UInt8.ofNat_toNat] at h
  exact h
theorem hex_or {x y : Int} (hx : 0 ≤ x ∧ x ≤ 15) (hy : 0 ≤ y ∧ y ≤ 15) : IntKind.u8.wrap (bits .or .i64 (IntKind.i64.wrap (x * 2 ^ (min (Int.toNat 4) 64))) y) = ((hexP x y).toNat : Int) := by
  obtain ⟨a, rfl⟩ := Int.eq_ofNat_of_zero_le hx.1
  obtain ⟨b, rfl⟩ := Int.eq_ofNat_of_zero_le hy.1
  have : ∀ a : Nat, a < 16 → ∀ b : Nat, b < 16 → IntKind.u8.wrap (bits .or .i64 (IntKind.i64.wrap ((a : Int) * 2 ^ (min (Int.toNat 4) 64))) (b : Int)) = ((hexP (a : Int) (b : Int)).toNat : Int) := by decide +kernel
  exact this a (by omega) b (by omega)
theorem toBytes_spec (w : List UInt8) (hl : w.length ≤ 140737488355328) : Ct Pr F_console_toBytes [.string (BA w)] (.tup [none, none]) [.slice, .bool] [] emp (fun t Bs => t.2.1 = (bytesV w).isSome ∧ ∃ l, (∀ x, bytesV w = some x → l = x) ∧ Bs = [Ar U8 t.1 l]) := by
  refine spec2 c_console_toBytes fun B hr => ?_
  unfold console_toBytes
  have e := BA_eqv w [45]
  refine xif (fun h => ?_) (fun h => ?_)
  · have h := eq_of_beq (e.symm.trans h)
    subst h
    exact xnone U8 (xret ⟨rfl, [], fun x hx => Option.some.inj hx, rfl⟩)
  have h45 := beq_eq_false_iff_ne.1 (e.symm.trans h)
  have hsz := BA_size w
  rw [hsz]
  refine xnone U8 ?_
  refine xuse [Ar U8 ⟨none, 0, 0⟩ []] ?_
  refine xloop2 (fun m (out : Sl) (i : Int) As' => ∃ (k : Nat) (l : List UInt8), i = ((2 * k : Nat) : Int) ∧ m = w.length - 2 * k ∧ 2 * k ≤ w.length ∧ hexB (w.take (2 * k)) = some l ∧ l.length = k ∧ As' = [Ar U8 out l]) w.length ⟨0, [], rfl, rfl, by omega, rfl, rfl, rfl⟩ ?_
  rintro m out i As' K ⟨k, l, rfl, rfl, hk, hh, hll, rfl⟩ hK
  have w1 : IntKind.i64.wrap (((2 * k : Nat) : Int) + 1) = ((2 * k + 1 : Nat) : Int) := wrap_succ _ (by omega)
  rw [w1]
  refine xif_dec (fun hp => ?_) (fun hp => ?_)
  · have hp : 2 * k + 1 < w.length := by omega
    obtain ⟨a, ha⟩ : ∃ b, w[2 * k]? = some b := ⟨_, List.getElem?_eq_getElem (by omega)⟩
    obtain ⟨b, hb⟩ : ∃ b, w[2 * k + 1]? = some b := ⟨_, List.getElem?_eq_getElem hp⟩
    refine xdraw (xbyte (k := 2 * k) rfl (BA_at ha) ?_)
    refine xbyte (k := 2 * k + 1) rfl (BA_at hb) ?_
    have hs := hexB_step hh ha hb
    refine xcall0 (IndexByte_spec _ a) rdb ?_
    rintro ⟨x, _⟩ _ ⟨hx, rfl⟩
    obtain rfl : x = hexI a := hx.trans (hexI_idx a)
    refine app0 (ca1 ?_)
    refine xcall0 (IndexByte_spec _ b) rdb ?_
    rintro ⟨y, _⟩ _ ⟨hy, rfl⟩
    obtain rfl : y = hexI b := hy.trans (hexI_idx b)
    refine app0 (ca1 ?_)
    have ra := hexI_range a
    have rb := hexI_range b
    refine xif (fun hn => ?_) (fun hn => ?_)
    · simp only [Bool.or_eq_true, decide_eq_true_eq] at hn
      rw [if_pos hn] at hs
      have hb0 : bytesV w = none := by
        unfold bytesV
        rw [if_neg h45, if_neg (fun e => by subst e; simp at hp), hexB_none hs (by omega)]
      exact xdrop 0 (xnone U8 (xuse [Ar U8 ⟨none, 0, 0⟩ []] (xret ⟨by rw [hb0]; rfl, [], fun (x : List UInt8) (hx : bytesV w = some x) => (by rw [hb0] at hx; cases hx), rfl⟩)))
    · simp only [Bool.or_eq_false_iff, decide_eq_false_iff_not] at hn
      rw [if_neg (by omega)] at hs
      refine xasrt (by decide) ?_
      rw [hex_or ⟨by omega, by omega⟩ ⟨by omega, by omega⟩]
      refine xnew fun b0 => ?_
      refine xapp1 (E := U8) (hexP (hexI a) (hexI b)) (hb := by omega) (h := fun s2 => ?_)
      have w2 : IntKind.i64.wrap (((2 * k : Nat) : Int) + 2) = ((2 * (k + 1) : Nat) : Int) := by rw [wrap_id _ (by omega) (by omega)]; omega
      rw [w2]
      exact xuse [Ar U8 s2 (l ++ [hexP (hexI a) (hexI b)])] (hK (w.length - 2 * (k + 1)) _ _ _ (by omega) ⟨k + 1, _, rfl, rfl, by omega, hs, by simp [hll], rfl⟩)
  · refine xjoin1 (fun (c : Bool) As' => As' = [Ar U8 out l] ∧ c = (bytesV w).isSome) (fun K2 hK2 => ?_) ?_
    · by_cases h0 : w = []
      · subst h0
        refine xif_dec (fun h => absurd h (by simp)) (fun h => hK2 _ _ ⟨rfl, rfl⟩)
      · have hpos : 0 < w.length := List.length_pos_iff.2 h0
        refine xif_dec (fun h => xasrt (by decide) (hK2 _ _ ⟨rfl, ?_⟩)) (fun h => absurd h (by omega))
        rw [Int.tmod_eq_emod_of_nonneg (by omega)]
        unfold bytesV
        rw [if_neg h45, if_neg h0]
        rcases Nat.lt_or_ge (2 * k) w.length with hlt | hge
        · have e1 : w.length = 2 * k + 1 := by omega
          rw [hexB_odd k w e1, Bool.eq_iff_iff]
          simp only [beq_iff_eq]
          constructor
          · intro h; omega
          · intro h; cases h
        · have e1 : w.length = 2 * k := by omega
          rw [List.take_of_length_le (by omega)] at hh
          rw [hh, Bool.eq_iff_iff]
          simp only [beq_iff_eq]
          constructor
          · intro h; rfl
          · intro h; omega
    · rintro c As2 ⟨rfl, rfl⟩
      refine xret ⟨rfl, l, fun x hx => ?_, rfl⟩
      unfold bytesV at hx
      rw [if_neg h45] at hx
      split at hx
      · cases hx
      · rename_i h0
        rcases Nat.lt_or_ge (2 * k) w.length with hlt | hge
        · rw [hexB_odd k w (by omega)] at hx; cases hx
        · rw [List.take_of_length_le (by omega), hx] at hh
          exact (Option.some.inj hh).symm

/-! A field read. -/
theorem read_spec (b : Nat) (s : StepV) (f : UInt8) (w : List UInt8) (hl : w.length ≤ 140737488355328) : Ct Pr F_console_read [.pointer (some ⟨b, 0, none⟩), .int .u8 f.toNat, .string (BA w)] .one [.bool] [StepP b s] (GErr.and GTab)
    (fun t Bs => t.1 = (readF f w s).isSome ∧ ∃ s', (∀ x, readF f w s = some x → s' = x) ∧ Bs = [StepP b s']) := by
  refine spec1 c_console_read fun B hr => ?_
  haveI : FroP B (GErr.and GTab) := ⟨hr, fun _ _ h s => ⟨GErr.mono _ _ h.1 s, GTab.mono _ _ h.2 s⟩⟩
  unfold console_read
  have key : ∀ {n : Nat} {As : List HP} {X Y : WP}, n < 256 → (f = UInt8.ofNat n → Ent B As X) → (f ≠ UInt8.ofNat n → Ent B As Y) → Ent B As (XIf ((f.toNat : Int) == (n : Int)) X Y) := by
    intro n As X Y hn h1 h2
    rw [u8_eq hn]
    exact xif (fun h => h1 (eq_of_beq h)) (fun h => h2 (beq_eq_false_iff_ne.1 h))
  have place : ∀ {l : List (List UInt8)} {x : Int}, l.length = 4 → x = placeI l w → -1 ≤ x ∧ x ≤ 3 ∧ IntKind.i64.wrap (x + 1) = x + 1 := by
    intro l x h4 hx
    have : -1 ≤ x ∧ x ≤ 3 := by
      rw [hx]; unfold placeI
      rcases placeFrom_get (w := w) (l := l) (i := 0) with h | ⟨k, h1, h2⟩
      · have : ∀ (l : List (List UInt8)) (i : Nat), -1 ≤ placeFrom i w l := by
          intro l
          induction l with
          | nil => intro i; simp [placeFrom]
          | cons x r ih => intro i; unfold placeFrom; split <;> first | omega | exact ih _
        exact ⟨this _ _, by omega⟩
      · have := (List.getElem?_eq_some_iff.1 h2).1
        omega
    exact ⟨this.1, this.2, wrap_id _ (by omega) (by omega)⟩
  refine key (n := 119) (by decide) (fun (h : f = 119) => ?_) (fun (h119 : f ≠ 119) => ?_)
  · refine xcall0 ways_spec rdb ?_
    rintro ⟨sl, _⟩ _ ⟨rfl, _, _⟩
    refine app1 (ca1 ?_)
    refine xcall0 (idx_spec sl waysW w (by decide)) rdb ?_
    rintro ⟨(x : Int), _⟩ _ ⟨hx, rfl⟩
    have hx : x = placeI waysW w := hx
    obtain ⟨r1, r2, r3⟩ := place rfl hx
    refine app0 (ca1 ?_)
    refine xstep 1 fun s0 => ?_
    refine xnil (xset (h := xnil (xget (h := ?_))))
    rw [r3]
    refine xfold [Blk b [.int .i64 s.kind, .int .i64 s.num, .int .i64 (x + 1), .int .i64 s.bit, .int .i64 s.unit, .int .i64 s.addr, .int .i64 s.id, .string (BA s.name), s0.v], Ar U8 s0 s.bytes] (StepP b { s with way := x + 1 }) (fun g hg => ⟨s0, hg⟩) ?_
    refine xuse [StepP b { s with way := x + 1 }] (xret ⟨?_, _, fun y hy => ?_, rfl⟩)
    · unfold readF
      rw [if_pos h, ← hx]
      split
      · rename_i hn
        have : ¬ (x + 1 > 0) := by omega
        simp [this]
      · rename_i hn
        have : x + 1 > 0 := by omega
        simp [this]
    · unfold readF at hy
      rw [if_pos h, ← hx] at hy
      split at hy
      · cases hy
      · exact Option.some.inj hy
  refine key (n := 107) (by decide) (fun (h : f = 107) => ?_) (fun (h107 : f ≠ 107) => ?_)
  · refine xcall0 kindsC_spec rdb ?_
    rintro ⟨sl, _⟩ _ ⟨rfl, _, _⟩
    refine app1 (ca1 ?_)
    refine xcall0 (idx_spec sl kindsW w (by decide)) rdb ?_
    rintro ⟨(x : Int), _⟩ _ ⟨hx, rfl⟩
    have hx : x = placeI kindsW w := hx
    obtain ⟨r1, r2, r3⟩ := place rfl hx
    refine app0 (ca1 ?_)
    refine xstep 1 fun s0 => ?_
    refine xnil (xset (h := xnil (xget (h := ?_))))
    rw [r3]
    refine xfold [Blk b [.int .i64 s.kind, .int .i64 s.num, .int .i64 s.way, .int .i64 (x + 1), .int .i64 s.unit, .int .i64 s.addr, .int .i64 s.id, .string (BA s.name), s0.v], Ar U8 s0 s.bytes] (StepP b { s with bit := x + 1 }) (fun g hg => ⟨s0, hg⟩) ?_
    refine xuse [StepP b { s with bit := x + 1 }] (xret ⟨?_, _, fun y hy => ?_, rfl⟩)
    · unfold readF
      rw [if_neg h119, if_pos h, ← hx]
      split
      · rename_i hn
        have : ¬ (x + 1 > 0) := by omega
        simp [this]
      · rename_i hn
        have : x + 1 > 0 := by omega
        simp [this]
    · unfold readF at hy
      rw [if_neg h119, if_pos h, ← hx] at hy
      split at hy
      · cases hy
      · exact Option.some.inj hy
  refine xjoin1 (fun (c : Bool) As' => c = (readF f w s).isSome ∧ ∃ s', (∀ x, readF f w s = some x → s' = x) ∧ As' = [StepP b s']) (fun K hK => ?_) ?_
  · refine key (n := 104) (by decide) (fun (h : f = 104) => ?_) (fun (h104 : f ≠ 104) => ?_)
    · refine xcall0 (toBytes_spec w hl) rdb ?_
      rintro ⟨sl, c, _⟩ _ ⟨hc, l, hl2, rfl⟩
      have hc : c = (bytesV w).isSome := hc
      refine app1 (ca2 ?_)
      refine xstep 1 fun s0 => ?_
      refine xnil (xset (h := ?_))
      refine xfold [Blk b [.int .i64 s.kind, .int .i64 s.num, .int .i64 s.way, .int .i64 s.bit, .int .i64 s.unit, .int .i64 s.addr, .int .i64 s.id, .string (BA s.name), sl.v], Ar U8 sl l] (StepP b { s with bytes := l }) (fun g hg => ⟨sl, hg⟩) ?_
      refine xuse [StepP b { s with bytes := l }] (hK _ _ ⟨?_, _, fun y hy => ?_, rfl⟩)
      · unfold readF
        rw [if_neg h119, if_neg h107, if_pos h, hc]
        cases bytesV w <;> rfl
      · unfold readF at hy
        rw [if_neg h119, if_neg h107, if_pos h] at hy
        obtain ⟨z, hz, rfl⟩ := Option.map_eq_some_iff.1 hy
        rw [hl2 z hz]
    refine xjoin (key (n := 115) (by decide) (fun (h : f = 115) => ?_) (fun (h115 : f ≠ 115) => ?_))
    · refine xstep 0 fun s0 => ?_
      refine xnil (xset (h := ?_))
      refine xfold [Blk b [.int .i64 s.kind, .int .i64 s.num, .int .i64 s.way, .int .i64 s.bit, .int .i64 s.unit, .int .i64 s.addr, .int .i64 s.id, .string (BA w), s0.v], Ar U8 s0 s.bytes] (StepP b { s with name := w }) (fun g hg => ⟨s0, hg⟩) ?_
      refine hK _ _ ⟨?_, _, fun y hy => ?_, rfl⟩
      · unfold readF
        rw [if_neg h119, if_neg h107, if_neg h104, if_pos h, BA_toList, empty_list]
        by_cases hw : w = []
        · subst hw; rfl
        · rw [if_neg hw, beq_eq_false_iff_ne.2 hw]; rfl
      · unfold readF at hy
        rw [if_neg h119, if_neg h107, if_neg h104, if_pos h] at hy
        split at hy
        · cases hy
        · exact Option.some.inj hy
    · refine xcall0 (number_spec30 b f) rdb ?_
      rintro ⟨q, _⟩ _ ⟨hq, rfl⟩
      obtain rfl : q = some ⟨b, offF f, none⟩ := hq
      refine app0 (ca1 ?_)
      refine xcall0 (toNumber_spec w (by omega)) rdb ?_
      rintro ⟨(v : Int), c, _⟩ _ ⟨hc, hv, rfl⟩
      have hc : c = (numI w).isSome := hc
      have hv : ∀ x, numI w = some x → v = x := hv
      refine app0 (ca2 (xnil ?_))
      have fin : (readF f w s).isSome = (numI w).isSome ∧ ∀ y, readF f w s = some y → setF f v s = y := by
        unfold readF
        rw [if_neg h119, if_neg h107, if_neg h104, if_neg h115]
        refine ⟨by cases numI w <;> rfl, fun y hy => ?_⟩
        obtain ⟨z, hz, rfl⟩ := Option.map_eq_some_iff.1 hy
        rw [hv z hz]
      have last : ∀ {As' : List HP}, As' = [StepP b (setF f v s)] → Ent B As' (K c) := fun {As'} e => by
        subst e
        exact hK _ _ ⟨by rw [fin.1]; exact hc, _, fin.2, rfl⟩
      refine xstep 0 fun s0 => ?_
      rcases off_cases f with ⟨ho, hs, _⟩ | ⟨ho, hs, _⟩ | ⟨ho, hs, _⟩ | ⟨ho, hs, _⟩ | ⟨ho, hs, _⟩ | ⟨ho, hs, _⟩ <;>
        · rw [ho]
          refine xset (h := ?_)
          refine xclose (As' := [StepP b (setF f v s)]) (fun g hg => star_in ?_) (last rfl)
          rw [hs]
          exact ⟨s0, hg⟩
  · rintro c As2 ⟨rfl, s', h', rfl⟩
    exact xret ⟨rfl, s', h', rfl⟩

end Go.Cx

namespace Go.Cx
open Go Go.Cf
set_option linter.unusedVariables false
set_option maxRecDepth 100000
variable {B : Base} {As F : List HP}

theorem spec10 {P : Program} {f : FuncId} {args : List Value} {rs : Rs} {s0 s1 s2 s3 s4 s5 s6 s7 s8 s9 : Sh} {pre : List HP} {rd : HP} {post : Tup [s0, s1, s2, s3, s4, s5, s6, s7, s8, s9] → List HP → Prop} {φ : (s0.ty → s1.ty → s2.ty → s3.ty → s4.ty → s5.ty → s6.ty → s7.ty → s8.ty → s9.ty → WP) → WP}
    (c : ∀ {K : s0.ty → s1.ty → s2.ty → s3.ty → s4.ty → s5.ty → s6.ty → s7.ty → s8.ty → s9.ty → WP} {w : World}, φ K w → XCall P f args rs [s0, s1, s2, s3, s4, s5, s6, s7, s8, s9] K w)
    (h : ∀ B : Base, rd (frz B.W B.h0) → Ent B pre (φ fun x0 x1 x2 x3 x4 x5 x6 x7 x8 x9 => Ret B post (x0, x1, x2, x3, x4, x5, x6, x7, x8, x9, ()))) : Ct P f args rs [s0, s1, s2, s3, s4, s5, s6, s7, s8, s9] pre rd post :=
  spec_gen (ss := [s0, s1, s2, s3, s4, s5, s6, s7, s8, s9]) (φ := φ) c h
theorem ca10 {s0 s1 s2 s3 s4 s5 s6 s7 s8 s9 : Sh} {K : s0.ty → s1.ty → s2.ty → s3.ty → s4.ty → s5.ty → s6.ty → s7.ty → s8.ty → s9.ty → WP} {x0 : s0.ty} {x1 : s1.ty} {x2 : s2.ty} {x3 : s3.ty} {x4 : s4.ty} {x5 : s5.ty} {x6 : s6.ty} {x7 : s7.ty} {x8 : s8.ty} {x9 : s9.ty} {u : Unit}
    (h : Ent B As (K x0 x1 x2 x3 x4 x5 x6 x7 x8 x9)) : Ent B As (Cur.app [s0, s1, s2, s3, s4, s5, s6, s7, s8, s9] K (x0, x1, x2, x3, x4, x5, x6, x7, x8, x9, u)) := h

/-- A step that was told, and its error. -/
def StepT (t : Tup [.int .i64, .int .i64, .int .i64, .int .i64, .int .i64, .int .i64, .int .i64, .str, .slice, .int .i64]) (Bs : List HP) (o : Option StepV) : Prop :=
  ∃ (x : StepV) (sl : Sl) (e : Int), t = (x.kind, x.num, x.way, x.bit, x.unit, x.addr, x.id, BA x.name, sl, e, ()) ∧ Bs = [Ar U8 sl x.bytes] ∧ ((o = some x ∧ e = 0) ∨ (o = none ∧ x = step0 ∧ e = 33))

theorem findW_drop {w : List UInt8} {l : List (List UInt8 × Int × List UInt8)} {k : Nat} {x : List UInt8 × Int × List UInt8} (h : findW w l = findW w (l.drop k)) (hx : l[k]? = some x) : if x.1 = w then findW w l = some x.2 else findW w l = findW w (l.drop (k + 1)) := by
  have hlt := (List.getElem?_eq_some_iff.1 hx).1
  have hd : l.drop k = x :: l.drop (k + 1) := by rw [List.drop_eq_getElem_cons hlt, (List.getElem?_eq_some_iff.1 hx).2]
  rw [hd] at h
  obtain ⟨a, b, c⟩ := x
  simp only [findW] at h
  by_cases he : a = w
  · rw [if_pos he] at h; simp only [he, if_true]; rw [h]
  · rw [if_neg he] at h; simp only [he, if_false]; rw [h]

set_option maxHeartbeats 1000000 in
theorem Step_spec (line : List UInt8) (hl : line.length ≤ 1048576) : Ct Pr F_console_Step [.string (BA line)] (.tup [some 9, none]) [.int .i64, .int .i64, .int .i64, .int .i64, .int .i64, .int .i64, .int .i64, .str, .slice, .int .i64] [] ((GErr.and GTab).and GMax)
    (fun t Bs => StepT t Bs (stepC line)) := by
  refine spec10 c_console_Step fun B hr => ?_
  haveI : FroP B (GErr.and GTab) := ⟨hr.1, fun _ _ h s => ⟨GErr.mono _ _ h.1 s, GTab.mono _ _ h.2 s⟩⟩
  haveI : FroP B GMax := ⟨hr.2, fun _ _ h s => GMax.mono _ _ h s⟩
  unfold console_Step
  refine xnew fun b => ?_
  refine xcall0 (Split_spec (BA line) _ (by rw [BA_size]; omega) (by decide)) rdb ?_
  rintro ⟨s, _⟩ _ ⟨rfl, hnc⟩
  simp only at hnc
  have e := splitB_eq (BA line) 32
  rw [BA_list] at e
  have hwl : ∀ w ∈ splitL 32 line, w.length ≤ 1048576 := fun w hw => Nat.le_trans (splitL_len hw) hl
  have hne := splitL_ne 32 line
  have hst : ∀ k fs, findW (wd (splitL 32 line) 0) shapesL = some (k, fs) → stepC line = if (splitL 32 line).length = 1 + fs.length ∧ (10 : UInt8) ∉ line then readAll fs ((splitL 32 line).drop 1) { step0 with kind := k } else none := by
    intro k fs h; unfold stepC stepOfW; rw [h]
  have hst0 : findW (wd (splitL 32 line) 0) shapesL = none → stepC line = none := by
    intro h; unfold stepC stepOfW; rw [h]
  generalize hO : stepC line = O at hst hst0
  generalize splitL 32 line = ws at e hwl hne hst hst0
  have e' : Lib.splitB (⟨#[32]⟩ : ByteArray) 0 (Lib.countB (BA line) ⟨#[32]⟩) (BA line) = ws.map BA := e
  have hpos : 0 < ws.length := List.length_pos_iff.2 hne
  refine app1 (ca1 ?_)
  dsimp only
  rw [e']
  refine xlen s (fun hsl hsc => ?_)
  rw [List.length_map] at hsl
  refine xcall0 shapes_spec rdb ?_
  rintro ⟨s1, _⟩ _ ⟨rfl, hs1⟩
  have hs1 : s1.n = 16 := hs1
  refine app1 (ca1 ?_)
  refine xjoin1 (fun (x : Int) As' => O = none ∧ As' = [Blk b [.int .i64 0, .int .i64 0, .int .i64 0, .int .i64 0, .int .i64 0, .int .i64 0, .int .i64 0, .string ByteArray.empty, .slice none 0 0]]) (fun K' hK' => ?_) ?_
  rotate_left
  · rintro x As2 ⟨hO2, rfl⟩
    iterate 9 (refine xset (h := ?_))
    iterate 8 (refine xget (h := ?_))
    refine xget (s := .slice) (x := ⟨none, 0, 0⟩) (h := ?_)
    refine xnone U8 ?_
    exact xuse [Ar U8 ⟨none, 0, 0⟩ []] (xret ⟨step0, ⟨none, 0, 0⟩, 33, rfl, rfl, .inr ⟨hO2, rfl, rfl⟩⟩)
  refine xuse [Blk b [.int .i64 0, .int .i64 0, .int .i64 0, .int .i64 0, .int .i64 0, .int .i64 0, .int .i64 0, .string ByteArray.empty, .slice none 0 0], Ar Cf.ST s (ws.map BA), Ar SHP s1 shapesL] ?_
  refine xloop1 (fun m (x : Int) As' => ∃ k : Nat, x = (k : Int) ∧ m = 16 - k ∧ k ≤ 16 ∧ findW (wd ws 0) shapesL = findW (wd ws 0) (shapesL.drop k) ∧ As' = [Blk b [.int .i64 0, .int .i64 0, .int .i64 0, .int .i64 0, .int .i64 0, .int .i64 0, .int .i64 0, .string ByteArray.empty, .slice none 0 0], Ar Cf.ST s (ws.map BA), Ar SHP s1 shapesL]) 16 ⟨0, rfl, rfl, by omega, rfl, rfl⟩ ?_
  rintro m x As' K ⟨k, rfl, rfl, hk, hfw, rfl⟩ hK
  refine xif_dec (fun hp => ?_) (fun hp => ?_)
  rotate_left
  · have hk16 : k = 16 := by omega
    subst hk16
    exact xuse [Blk b [.int .i64 0, .int .i64 0, .int .i64 0, .int .i64 0, .int .i64 0, .int .i64 0, .int .i64 0, .string ByteArray.empty, .slice none 0 0]] (hK' _ _ ⟨hst0 (by rw [hfw]; rfl), rfl⟩)
  have hp : k < 16 := by omega
  obtain ⟨⟨w0, kd, fs⟩, hx⟩ : ∃ x, shapesL[k]? = some x := ⟨_, List.getElem?_eq_getElem (by simpa [shapesL] using hp)⟩
  refine xidxn (E := SHP) (xs := shapesL) (s := s1) (h1 := by simpa [shapesL] using hp) (h := fun x hx' => ?_)
  obtain rfl : x = (w0, kd, fs) := by rw [hx] at hx'; exact (Option.some.inj hx').symm
  refine xgetE (E := SHP) (xs := shapesL) hx (h := ?_)
  refine xgetEj (E := SHP) (xs := shapesL) (j := 1) hx (h := ?_)
  refine xgetEj (E := SHP) (xs := shapesL) (j := 2) hx (h := ?_)
  dsimp only
  refine xnew fun b1 => ?_
  iterate 3 (refine xset (h := ?_))
  refine xdraw (xget (h := ?_))
  obtain ⟨w1, hw1⟩ : ∃ w, ws[0]? = some w := ⟨_, List.getElem?_eq_getElem hpos⟩
  have hwd : wd ws 0 = w1 := by unfold wd; rw [hw1]; rfl
  have hw1x : (ws.map BA)[0]? = some (BA w1) := by rw [List.getElem?_map, hw1]; rfl
  refine xidx (E := Cf.ST) (xs := ws.map BA) (s := s) (h0 := by decide) (h1 := by simpa using hpos) (h := fun y hy => ?_)
  obtain rfl : y = BA w1 := by rw [show (0 : Int).toNat = 0 from rfl, hw1x] at hy; exact (Option.some.inj hy).symm
  refine xgetE (E := Cf.ST) (xs := ws.map BA) hy (h := ?_)
  have hfd := findW_drop hfw hx
  rw [hwd] at hfd hfw hst hst0
  rw [BA_eqv]
  refine xif (fun h => ?_) (fun h => ?_)
  · have h : w0 ≠ w1 := by simpa using h
    simp only [h, if_false] at hfd
    rw [wrap_succ k (by omega)]
    exact xuse [Blk b [.int .i64 0, .int .i64 0, .int .i64 0, .int .i64 0, .int .i64 0, .int .i64 0, .int .i64 0, .string ByteArray.empty, .slice none 0 0], Ar Cf.ST s (ws.map BA), Ar SHP s1 shapesL] (hK (16 - (k + 1)) _ _ (by omega) ⟨k + 1, rfl, rfl, by omega, by rw [hwd]; exact hfd, rfl⟩)
  have h : w0 = w1 := by simpa using h
  simp only [h, if_true] at hfd
  have hst := hst _ _ hfd
  have hfs : fs.length ≤ 4 := by
    have : ∀ k : Nat, k < 16 → ∀ x, shapesL[k]? = some x → x.2.2.length ≤ 4 := by decide
    exact this k hp _ hx
  refine xget (h := ?_)
  refine xnew fun b2 => ?_
  iterate 9 (refine xset (h := ?_))
  refine xget (h := ?_)
  refine xuse [Blk b [.int .i64 0, .int .i64 0, .int .i64 0, .int .i64 0, .int .i64 0, .int .i64 0, .int .i64 0, .string ByteArray.empty, .slice none 0 0], Ar Cf.ST s (ws.map BA), Blk b1 [.string (BA w0), .int .i64 kd, .string (BA fs)], Blk b2 [.int .i64 kd, .int .i64 0, .int .i64 0, .int .i64 0, .int .i64 0, .int .i64 0, .int .i64 0, .string ByteArray.empty, .slice none 0 0]] ?_
  refine xjoin1 (fun (c : Bool) As' => c = !(decide (ws.length = 1 + fs.length ∧ (10 : UInt8) ∉ line)) ∧ As' = [Blk b [.int .i64 0, .int .i64 0, .int .i64 0, .int .i64 0, .int .i64 0, .int .i64 0, .int .i64 0, .string ByteArray.empty, .slice none 0 0], Ar Cf.ST s (ws.map BA), Blk b1 [.string (BA w0), .int .i64 kd, .string (BA fs)], Blk b2 [.int .i64 kd, .int .i64 0, .int .i64 0, .int .i64 0, .int .i64 0, .int .i64 0, .int .i64 0, .string ByteArray.empty, .slice none 0 0]]) (fun K2 hK2 => ?_) ?_
  · have e1 : (((s.n : Int)) != (IntKind.i64.wrap (1 + ((BA fs).size : Int)))) = !decide (ws.length = 1 + fs.length) := by
      rw [BA_size, wrap_id _ (by omega) (by omega), Bool.eq_iff_iff]
      simp only [bne_iff_ne, ne_eq, Bool.not_eq_true', decide_eq_false_iff_not]
      omega
    rw [e1]
    refine xif (fun h1 => hK2 _ _ ⟨?_, rfl⟩) (fun h1 => ?_)
    · have h1 : ¬ ws.length = 1 + fs.length := by simpa using h1
      simp [h1]
    · have h1 : ws.length = 1 + fs.length := by simpa using h1
      refine xcall0 (Contains_spec (BA line) 10) rdb ?_
      rintro ⟨(c : Bool), _⟩ _ ⟨hc, rfl⟩
      rw [BA_list] at hc
      obtain rfl : c = decide ((10 : UInt8) ∈ line) := hc
      refine app0 (ca1 (hK2 _ _ ⟨?_, rfl⟩))
      simp [h1]
  rintro c As2 ⟨rfl, rfl⟩
  refine xif (fun hc => ?_) (fun hc => ?_)
  · refine xuse [Blk b [.int .i64 0, .int .i64 0, .int .i64 0, .int .i64 0, .int .i64 0, .int .i64 0, .int .i64 0, .string ByteArray.empty, .slice none 0 0]] (hK' _ _ ⟨?_, rfl⟩)
    rw [hst, if_neg (fun h => by simp [h.1, h.2] at hc)]
  have hc : ws.length = 1 + fs.length ∧ (10 : UInt8) ∉ line := by simpa using hc
  rw [if_pos hc] at hst
  refine xslc (by decide) (by omega) (by omega) (Int.le_refl _) ?_
  rw [show (1 : Int).toNat = 1 from rfl, Int.toNat_natCast, Int.toNat_natCast]
  obtain ⟨s2, hs2⟩ : ∃ s2, s2 = s.cut 1 s.n s.c 1 := ⟨_, rfl⟩
  rw [← hs2]
  have hs2n : s2.n = fs.length := by rw [hs2]; show s.n - 1 = _; omega
  refine xfold1 (Q := RAr Cf.ST s2 ((ws.drop 1).map BA)) 1 (fun g hg => ?_) ?_
  · have := (hg.read).cut 1 s.n s.c (by omega) hsc (by rw [hg.read.1]; exact Nat.le_refl _)
    rw [hs2]
    have e2 : ((ws.map BA).take s.n).drop 1 = (ws.drop 1).map BA := by
      rw [List.take_of_length_le (by rw [List.length_map]; omega), List.map_drop]
    rw [e2] at this
    exact this
  refine xnone U8 ?_
  refine xfold [Blk b2 [.int .i64 kd, .int .i64 0, .int .i64 0, .int .i64 0, .int .i64 0, .int .i64 0, .int .i64 0, .string ByteArray.empty, .slice none 0 0], Ar U8 ⟨none, 0, 0⟩ []] (StepP b2 { step0 with kind := kd }) (fun g hg => ⟨⟨none, 0, 0⟩, hg⟩) ?_
  refine xuse [StepP b2 { step0 with kind := kd }, RAr Cf.ST s2 ((ws.drop 1).map BA), Blk b [.int .i64 0, .int .i64 0, .int .i64 0, .int .i64 0, .int .i64 0, .int .i64 0, .int .i64 0, .string ByteArray.empty, .slice none 0 0], Blk b1 [.string (BA w0), .int .i64 kd, .string (BA fs)]] ?_
  refine xloop1 (fun m (x : Int) As' => ∃ (j : Nat) (sv : StepV), x = (j : Int) ∧ m = fs.length - j ∧ j ≤ fs.length ∧ O = readAll (fs.drop j) (ws.drop (1 + j)) sv ∧ As' = [StepP b2 sv, RAr Cf.ST s2 ((ws.drop 1).map BA), Blk b [.int .i64 0, .int .i64 0, .int .i64 0, .int .i64 0, .int .i64 0, .int .i64 0, .int .i64 0, .string ByteArray.empty, .slice none 0 0], Blk b1 [.string (BA w0), .int .i64 kd, .string (BA fs)]]) fs.length ⟨0, _, rfl, rfl, by omega, hst, rfl⟩ ?_
  rintro m x As' K3 ⟨j, sv, rfl, rfl, hj, hO3, rfl⟩ hK3
  refine xif_dec (fun hp => ?_) (fun hp => ?_)
  · have hp : j < fs.length := by omega
    obtain ⟨w, hw⟩ : ∃ w, ws[1 + j]? = some w := ⟨_, List.getElem?_eq_getElem (by omega)⟩
    obtain ⟨f, hf⟩ : ∃ f, fs[j]? = some f := ⟨_, List.getElem?_eq_getElem hp⟩
    have hwx : ((ws.drop 1).map BA)[j]? = some (BA w) := by rw [List.getElem?_map, List.getElem?_drop, hw]; rfl
    refine xidxn (E := Cf.ST) (xs := (ws.drop 1).map BA) (s := s2) (h1 := by rw [List.length_map, List.length_drop]; omega) (h := fun y hy => ?_)
    obtain rfl : y = BA w := by rw [hwx] at hy; exact (Option.some.inj hy).symm
    refine xgetE (E := Cf.ST) (xs := (ws.drop 1).map BA) hy (h := ?_)
    refine xget (h := ?_)
    refine xbyte (k := j) rfl (BA_at hf) ?_
    have hwlen := hwl w (List.mem_of_getElem? hw)
    refine xcl (read_spec b2 sv f w (by omega)) rdb ?_
    rintro ⟨(c : Bool), _⟩ _ ⟨hc2, s', hs', rfl⟩
    have hc2 : c = (readF f w sv).isSome := hc2
    refine app1 (ca1 ?_)
    have hstep : O = (readF f w sv).bind (readAll (fs.drop (j + 1)) (ws.drop (1 + (j + 1)))) := by
      rw [hO3]
      have h1 : fs.drop j = f :: fs.drop (j + 1) := by rw [List.drop_eq_getElem_cons hp, (List.getElem?_eq_some_iff.1 hf).2]
      have h2 : ws.drop (1 + j) = w :: ws.drop (1 + (j + 1)) := by rw [List.drop_eq_getElem_cons (by omega), (List.getElem?_eq_some_iff.1 hw).2]; rfl
      rw [h1, h2]; rfl
    refine xif (fun hn => ?_) (fun hn => ?_)
    · have hn : readF f w sv = none := by
        rw [hc2] at hn
        cases e : readF f w sv with
        | none => rfl
        | some x => rw [e] at hn; cases hn
      rw [hn] at hstep
      iterate 9 (refine xset (h := ?_))
      iterate 8 (refine xget (h := ?_))
      refine xget (s := .slice) (x := ⟨none, 0, 0⟩) (h := ?_)
      refine xnone U8 ?_
      exact xuse [Ar U8 ⟨none, 0, 0⟩ []] (xret ⟨step0, ⟨none, 0, 0⟩, 33, rfl, rfl, .inr ⟨hstep, rfl, rfl⟩⟩)
    · obtain ⟨y, hy⟩ : ∃ y, readF f w sv = some y := by
        rw [hc2] at hn
        cases e : readF f w sv with
        | none => rw [e] at hn; cases hn
        | some x => exact ⟨x, rfl⟩
      obtain rfl := hs' y hy
      rw [hy] at hstep
      rw [wrap_succ j (by omega)]
      exact xuse [StepP b2 s', RAr Cf.ST s2 ((ws.drop 1).map BA), Blk b [.int .i64 0, .int .i64 0, .int .i64 0, .int .i64 0, .int .i64 0, .int .i64 0, .int .i64 0, .string ByteArray.empty, .slice none 0 0], Blk b1 [.string (BA w0), .int .i64 kd, .string (BA fs)]] (hK3 (fs.length - (j + 1)) _ _ (by omega) ⟨j + 1, s', rfl, rfl, by omega, hstep, rfl⟩)
  · have hj' : j = fs.length := by omega
    rw [hj', List.drop_of_length_le (Nat.le_refl _)] at hO3
    have hO3 : O = some sv := hO3
    refine xstep 0 fun sl => ?_
    iterate 8 (refine xget (h := ?_))
    refine xget (s := .slice) (x := sl) (h := ?_)
    iterate 9 (refine xset (h := ?_))
    iterate 8 (refine xget (h := ?_))
    refine xget (s := .slice) (x := sl) (h := ?_)
    exact xuse [Ar U8 sl sv.bytes] (xret ⟨sv, sl, 0, rfl, rfl, .inl ⟨hO3, rfl⟩⟩)

end Go.Cx

namespace Go.Cx
open Go Go.Cf
set_option linter.unusedVariables false
set_option maxRecDepth 100000
variable {B : Base} {As F : List HP}

/-! Conditions that look into a block. -/
theorem xorG {b : Nat} {cs : List Value} {upd : List Value → List HP} {rest : List HP} [o : Own b As cs upd rest] {off : Nat} {s : Sh} {x : s.ty} {c : Bool} {g : s.ty → Bool} {K : Bool → WP} (hv : cs[off]? = some (s.mk x) := by rfl) (h : Ent B As (K (c || g x))) :
    Ent B As (XJoin [.bool] (fun (K' : Bool → WP) => XIf c (K' true) (XGet s ⟨b, off, none⟩ fun n => K' (g n))) K) := by
  refine xjoin (xif (fun e => ?_) (fun e => ?_))
  · rw [e, Bool.true_or] at h; exact h
  · rw [e, Bool.false_or] at h; exact xget (x := x) hv h
theorem xandGG {b b' : Nat} {cs cs' : List Value} {upd upd' : List Value → List HP} {rest rest' : List HP} [o : Own b As cs upd rest] [o' : Own b' As cs' upd' rest'] {off off' : Nat} {s : Sh} {x y : s.ty} {c : Bool} {g : s.ty → s.ty → Bool} {K : Bool → WP}
    (hv : cs[off]? = some (s.mk x) := by rfl) (hv' : cs'[off']? = some (s.mk y) := by rfl) (h : Ent B As (K (c && g x y))) :
    Ent B As (XJoin [.bool] (fun (K' : Bool → WP) => XIf c (XGet s ⟨b, off, none⟩ fun n => XGet s ⟨b', off', none⟩ fun m => K' (g n m)) (K' false)) K) := by
  refine xjoin (xif (fun e => ?_) (fun e => ?_))
  · rw [e, Bool.true_and] at h; exact xget (x := x) hv (xget (x := y) hv' h)
  · rw [e, Bool.false_and] at h; exact h

/-! The builder. -/
theorem xbld {b : Nat} {l : List UInt8} {φ : WP} (j : Nat) [p : Pick j As (Bld b l) F]
    (h : ∀ (q : Option Addr) (s : Sl), (q = none ∨ q = some ⟨b, 0, none⟩) → Ent B (TBlk b T_strings_Builder [.pointer q, s.v] :: TAr s l :: F) φ) : Ent B As φ := by
  refine xopen j (fun Bs => ∃ (q : Option Addr) (s : Sl), (q = none ∨ q = some ⟨b, 0, none⟩) ∧ Bs = [TBlk b T_strings_Builder [.pointer q, s.v], TAr s l]) (fun g hg => ?_) ?_
  · obtain ⟨q, s, h1, h3⟩ := hg
    exact ⟨_, ⟨q, s, h1, rfl⟩, h3⟩
  · rintro _ ⟨q, s, h1, rfl⟩
    exact app2 (h q s h1)
theorem WriteByte_spec (b : Nat) (l : List UInt8) (c : UInt8) (hl : l.length ≤ 70368744177664) : Ct Pr F_strings_Builder_WriteByte [.pointer (some ⟨b, 0, none⟩), .int .u8 c.toNat] .one [.val] [Bld b l] emp (fun _ Bs => Bs = [Bld b (l ++ [c])]) := by
  refine spec1 c_strings_Builder_WriteByte fun B hr => ?_
  unfold strings_Builder_WriteByte
  refine xbld 0 fun q s hq => ?_
  refine xcl (copyCheck_spec b q s.v hq) rdb ?_
  rintro _ _ rfl
  refine app1 (ca0 (xnil (tget (s := .slice) (x := s) (h := xnew fun b1 => ?_))))
  refine xuse [Blk b1 [.int .u8 c.toNat], TAr s l, TBlk b T_strings_Builder [.pointer (some ⟨b, 0, none⟩), s.v]] ?_
  refine tapp1 (x := c) (hb := by omega) (h := fun s2 => ?_)
  refine xuse [TBlk b T_strings_Builder [.pointer (some ⟨b, 0, none⟩), s.v], TAr s2 (l ++ [c])] ?_
  refine xnil (tset (h := ?_))
  refine xfold [TBlk b T_strings_Builder [.pointer (some ⟨b, 0, none⟩), s2.v], TAr s2 (l ++ [c])] (Bld b (l ++ [c])) (fun g hg => ⟨_, s2, .inr rfl, hg⟩) ?_
  exact xuse [Bld b (l ++ [c])] (xret rfl)
theorem WriteString_spec (b : Nat) (l : List UInt8) (str : ByteArray) (hl : l.length + str.size ≤ 70368744177664) : Ct Pr F_strings_Builder_WriteString [.pointer (some ⟨b, 0, none⟩), .string str] (.tup [none, none]) [.int .i64, .val] [Bld b l] emp (fun _ Bs => Bs = [Bld b (l ++ str.data.toList)]) := by
  refine spec2 c_strings_Builder_WriteString fun B hr => ?_
  unfold strings_Builder_WriteString
  refine xbld 0 fun q s hq => ?_
  refine xcl (copyCheck_spec b q s.v hq) rdb ?_
  rintro _ _ rfl
  refine app1 (ca0 (xnil (tget (s := .slice) (x := s) (h := ?_))))
  refine xuse [TAr s l, TBlk b T_strings_Builder [.pointer (some ⟨b, 0, none⟩), s.v]] ?_
  refine tappS (by kernel_rfl) (hb := by omega) (h := fun s2 => ?_)
  refine xuse [TBlk b T_strings_Builder [.pointer (some ⟨b, 0, none⟩), s.v], TAr s2 (l ++ str.data.toList)] ?_
  refine xnil (tset (h := ?_))
  refine xfold [TBlk b T_strings_Builder [.pointer (some ⟨b, 0, none⟩), s2.v], TAr s2 (l ++ str.data.toList)] (Bld b (l ++ str.data.toList)) (fun g hg => ⟨_, s2, .inr rfl, hg⟩) ?_
  exact xuse [Bld b (l ++ str.data.toList)] (xret rfl)
/-! Bytes as digits. -/
theorem dig_at {k : Nat} (h : k < 16) : digW[k]? = some (hexD k) := by
  have : ∀ k : Nat, k < 16 → digW[k]? = some (hexD k) := by decide
  exact this k h
theorem hi_of (x : UInt8) : Int.fdiv (x.toNat : Int) (2 ^ (min (Int.toNat 4) 8)) = ((x.toNat / 16 : Nat) : Int) := by
  rw [show (2 : Int) ^ (min (Int.toNat 4) 8) = 16 by decide, Int.fdiv_eq_ediv_of_nonneg _ (by decide)]; omega
theorem lo_of (x : UInt8) : bits .and .u8 (x.toNat : Int) 15 = ((x.toNat % 16 : Nat) : Int) := by
  have : ∀ m : Nat, m < 256 → bits .and .u8 (m : Int) 15 = ((m % 16 : Nat) : Int) := by decide +kernel
  exact this x.toNat (UInt8.toNat_lt x)
theorem hexL_app : ∀ (a : List UInt8) (x : UInt8), hexL (a ++ [x]) = hexL a ++ [hexD (x.toNat / 16), hexD (x.toNat % 16)]
  | [], x => rfl
  | b :: a, x => by simp only [List.cons_append, hexL, hexL_app a x]
theorem hex_spec (s : Sl) (l : List UInt8) (hl : l.length ≤ 1048576) : Ct Pr F_console_hex [s.v] .one [.str] [] (RAr U8 s l) (fun t Bs => t.1 = BA (hexM l) ∧ Bs = []) := by
  refine spec1 c_console_hex fun B hr => ?_
  haveI : Fro B s U8 l := ⟨hr⟩
  have hs : l.length = s.n := hr.1
  unfold console_hex
  refine xif (fun h => xret ⟨?_, rfl⟩) (fun h => ?_)
  · have : l = [] := List.length_eq_zero_iff.1 (by have : (s.n : Int) = 0 := by simpa using h
                                                   omega)
    subst this; rfl
  have hne : l ≠ [] := fun e => by subst e; simp at hs; rw [← hs] at h; simp at h
  refine xbldnew fun b1 => ?_
  refine xloop1 (fun m (x : Int) As' => ∃ k : Nat, x = (k : Int) ∧ m = l.length - k ∧ k ≤ l.length ∧ As' = [Bld b1 (hexL (l.take k))]) l.length ⟨0, rfl, rfl, by omega, rfl⟩ ?_
  rintro m x As' K ⟨k, rfl, rfl, hk, rfl⟩ hK
  refine xif_dec (fun hp => ?_) (fun hp => ?_)
  · have hp : k < l.length := by omega
    obtain ⟨x, hx⟩ : ∃ b, l[k]? = some b := ⟨_, List.getElem?_eq_getElem hp⟩
    have hxl := UInt8.toNat_lt x
    refine xidxn (E := U8) (xs := l) (s := s) (h1 := hp) (h := fun y hy => ?_)
    obtain rfl : y = x := by rw [hx] at hy; exact (Option.some.inj hy).symm
    refine xgetE (E := U8) (xs := l) hy (h := ?_)
    refine xasrt (by decide) ?_
    rw [hi_of]
    refine xbyte (k := y.toNat / 16) rfl (b := hexD (y.toNat / 16)) (dig_at (by omega)) ?_
    have hlen := hexL_len (l.take k)
    rw [List.length_take] at hlen
    refine xcl (WriteByte_spec b1 (hexL (l.take k)) (hexD (y.toNat / 16)) (by omega)) rdb ?_
    rintro ⟨v, _⟩ _ rfl
    refine app1 (ca1 ?_)
    rw [lo_of]
    refine xbyte (k := y.toNat % 16) rfl (b := hexD (y.toNat % 16)) (dig_at (by omega)) ?_
    refine xcl (WriteByte_spec b1 (hexL (l.take k) ++ [hexD (y.toNat / 16)]) (hexD (y.toNat % 16)) (by rw [List.length_append]; simp only [List.length_cons, List.length_nil]; omega)) rdb ?_
    rintro ⟨v2, _⟩ _ rfl
    refine app1 (ca1 ?_)
    rw [wrap_succ k (by omega)]
    refine hK (l.length - (k + 1)) _ _ (by omega) ⟨k + 1, rfl, rfl, by omega, ?_⟩
    rw [← take_snoc27 hx, hexL_app, List.append_assoc]; rfl
  · rw [List.take_of_length_le (by omega)]
    have hlen := hexL_len l
    refine xcl (BString_spec b1 (hexL l) (fun e => hne (List.length_eq_zero_iff.1 (by rw [e] at hlen; simp at hlen; omega))) (by omega)) rdb ?_
    rintro ⟨t, _⟩ _ ⟨ht, rfl⟩
    obtain rfl : t = BA (hexL l) := ht
    refine app0 (ca1 (xret ⟨?_, rfl⟩))
    unfold hexM; rw [if_neg hne]

/-! A field that a line does not name. -/
theorem foreign_spec (s : StepV) (sl : Sl) (fs : List UInt8) (hf : fs.length ≤ 1000) : Ct Pr F_console_foreign [.agg #[.int .i64 s.kind, .int .i64 s.num, .int .i64 s.way, .int .i64 s.bit, .int .i64 s.unit, .int .i64 s.addr, .int .i64 s.id, .string (BA s.name), sl.v], .string (BA fs)] .one [.bool] [] (RAr U8 sl s.bytes)
    (fun t Bs => t.1 = foreignB s fs ∧ Bs = []) := by
  refine spec1 c_console_foreign fun B hr => ?_
  have hsl : s.bytes.length = sl.n := hr.1
  unfold console_foreign
  refine xnew fun b => ?_
  iterate 8 (refine xget (h := ?_))
  refine xget (s := .slice) (x := sl) (h := ?_)
  refine xnew fun b1 => ?_
  iterate 9 (refine xset (h := ?_))
  rw [BA_size]
  refine xuse [Blk b1 [.int .i64 s.kind, .int .i64 s.num, .int .i64 s.way, .int .i64 s.bit, .int .i64 s.unit, .int .i64 s.addr, .int .i64 s.id, .string (BA s.name), sl.v]] ?_
  refine xloop1 (fun m (i : Int) As' => ∃ (k : Nat) (x : StepV) (sx : Sl), i = (k : Int) ∧ m = fs.length - k ∧ k ≤ fs.length ∧ x = (fs.take k).foldl (fun s f => clearF f s) s ∧ x.bytes.length = sx.n ∧ As' = [Blk b1 [.int .i64 x.kind, .int .i64 x.num, .int .i64 x.way, .int .i64 x.bit, .int .i64 x.unit, .int .i64 x.addr, .int .i64 x.id, .string (BA x.name), sx.v]]) fs.length ⟨0, s, sl, rfl, rfl, by omega, rfl, hsl, rfl⟩ ?_
  rintro m i As' K ⟨k, x, sx, rfl, rfl, hk, hx, hsx, rfl⟩ hK
  refine xif_dec (fun hp => ?_) (fun hp => ?_)
  · have hp : k < fs.length := by omega
    obtain ⟨f, hf1⟩ : ∃ b, fs[k]? = some b := ⟨_, List.getElem?_eq_getElem hp⟩
    refine xbyte (k := k) rfl (BA_at hf1) ?_
    rw [wrap_succ k (by omega)]
    have hnx : (fs.take (k + 1)).foldl (fun s f => clearF f s) s = clearF f x := by rw [← take_snoc27 hf1, List.foldl_append, ← hx]; rfl
    refine xjoin0 (fun As' => ∃ (sx : Sl), (clearF f x).bytes.length = sx.n ∧ As' = [Blk b1 [.int .i64 (clearF f x).kind, .int .i64 (clearF f x).num, .int .i64 (clearF f x).way, .int .i64 (clearF f x).bit, .int .i64 (clearF f x).unit, .int .i64 (clearF f x).addr, .int .i64 (clearF f x).id, .string (BA (clearF f x).name), sx.v]]) (fun K2 hK2 => ?_) ?_
    · have key : ∀ {n : Nat} {As : List HP} {X Y : WP}, n < 256 → (f = UInt8.ofNat n → Ent B As X) → (f ≠ UInt8.ofNat n → Ent B As Y) → Ent B As (XIf ((f.toNat : Int) == (n : Int)) X Y) := by
        intro n As X Y hn h1 h2
        rw [u8_eq hn]
        exact xif (fun h => h1 (eq_of_beq h)) (fun h => h2 (beq_eq_false_iff_ne.1 h))
      refine key (n := 104) (by decide) (fun (h : f = 104) => ?_) (fun (h104 : f ≠ 104) => ?_)
      · refine xset (h := hK2 _ ⟨⟨none, 0, 0⟩, ?_, ?_⟩)
        · unfold clearF; rw [if_pos h]; rfl
        · unfold clearF; rw [if_pos h]
      refine xjoin (key (n := 115) (by decide) (fun (h : f = 115) => ?_) (fun (h115 : f ≠ 115) => ?_))
      · refine xset (h := hK2 _ ⟨sx, ?_, ?_⟩)
        · unfold clearF; rw [if_neg h104, if_pos h]; exact hsx
        · unfold clearF; rw [if_neg h104, if_pos h]; rfl
      refine xbyte (k := k) rfl (BA_at hf1) ?_
      refine xcall0 (number_spec30 b1 f) rdb ?_
      rintro ⟨q, _⟩ _ ⟨hq, rfl⟩
      obtain rfl : q = some ⟨b1, offF f, none⟩ := hq
      refine app0 (ca1 (xnil ?_))
      have hc : clearF f x = setF f 0 x := by unfold clearF; rw [if_neg h104, if_neg h115]
      rw [hc] at hK2
      rcases off_cases f with ⟨ho, hs, _⟩ | ⟨ho, hs, _⟩ | ⟨ho, hs, _⟩ | ⟨ho, hs, _⟩ | ⟨ho, hs, _⟩ | ⟨ho, hs, _⟩ <;>
        · rw [ho]
          rw [hs] at hK2
          exact xset (h := hK2 _ ⟨sx, hsx, rfl⟩)
    · rintro As2 ⟨sx', h1, rfl⟩
      exact hK (fs.length - (k + 1)) _ _ (by omega) ⟨k + 1, _, sx', rfl, rfl, by omega, hnx.symm, h1, rfl⟩
  · rw [List.take_of_length_le (by omega)] at hx
    refine xget (h := ?_)
    iterate 6 (refine xorG (h := ?_))
    refine xorG (s := .slice) (x := sx) (h := ?_)
    refine xkeep (l := []) (xret ⟨?_, rfl⟩)
    unfold foreignB
    rw [← hx]
    unfold zeroB
    simp only [BA_toList, empty_list]
    have e : decide (((sx.n : Int)) > 0) = !(x.bytes == []) := by
      rw [← hsx, Bool.eq_iff_iff]
      cases x.bytes <;> simp
    rw [e]
    simp only [Bool.not_and, bne]

/-! A word. -/
theorem wordF_len (s : StepV) (f : UInt8) (hb : s.bytes.length ≤ 1048576) (hn : s.name.length ≤ 1048576) : (wordF s f).2.length ≤ 2097152 := by
  have hw : ∀ n : Int, ((waysW[(n - 1).toNat]?).getD []).length ≤ 2097152 := fun n => by
    have : ∀ k : Nat, ((waysW[k]?).getD []).length ≤ 100 := by
      intro k
      rcases Nat.lt_or_ge k 4 with h | h
      · have : ∀ k : Nat, k < 4 → ((waysW[k]?).getD []).length ≤ 100 := by decide
        exact this k h
      · rw [List.getElem?_eq_none (by simpa [waysW] using h)]; simp
    have := this (n - 1).toNat
    omega
  have hk : ∀ n : Int, ((kindsW[(n - 1).toNat]?).getD []).length ≤ 2097152 := fun n => by
    have : ∀ k : Nat, ((kindsW[k]?).getD []).length ≤ 100 := by
      intro k
      rcases Nat.lt_or_ge k 4 with h | h
      · have : ∀ k : Nat, k < 4 → ((kindsW[k]?).getD []).length ≤ 100 := by decide
        exact this k h
      · rw [List.getElem?_eq_none (by simpa [kindsW] using h)]; simp
    have := this (n - 1).toNat
    omega
  unfold wordF
  repeat' split
  · unfold hexM
    split
    · simp
    · have := hexL_len s.bytes
      show (hexL s.bytes).length ≤ _
      omega
  · simp
  · show s.name.length ≤ _
    omega
  · simp
  · exact hw _
  · simp
  · exact hk _
  · simp
  · rename_i h
    have := itoa_len (n := getF f s) (by omega) (by omega)
    show (Lib.itoa _).length ≤ _
    omega
theorem word_spec (s : StepV) (sl : Sl) (f : UInt8) (hb : s.bytes.length ≤ 1048576) : Ct Pr F_console_word [.agg #[.int .i64 s.kind, .int .i64 s.num, .int .i64 s.way, .int .i64 s.bit, .int .i64 s.unit, .int .i64 s.addr, .int .i64 s.id, .string (BA s.name), sl.v], .int .u8 f.toNat] (.tup [none, none]) [.str, .int .i64] [] ((RAr U8 sl s.bytes).and GTab)
    (fun t Bs => t.2.1 = (wordF s f).1 ∧ t.1 = BA (wordF s f).2 ∧ Bs = []) := by
  refine spec2 c_console_word fun B hr => ?_
  haveI : Fro B sl U8 s.bytes := ⟨hr.1⟩
  haveI : FroP B GTab := ⟨hr.2, fun _ _ h s => GTab.mono _ _ h s⟩
  unfold console_word
  have key : ∀ {n : Nat} {As : List HP} {X Y : WP}, n < 256 → (f = UInt8.ofNat n → Ent B As X) → (f ≠ UInt8.ofNat n → Ent B As Y) → Ent B As (XIf ((f.toNat : Int) == (n : Int)) X Y) := by
    intro n As X Y hn h1 h2
    rw [u8_eq hn]
    exact xif (fun h => h1 (eq_of_beq h)) (fun h => h2 (beq_eq_false_iff_ne.1 h))
  refine xnew fun b => ?_
  refine key (n := 104) (by decide) (fun (h : f = 104) => ?_) (fun (h104 : f ≠ 104) => ?_)
  · refine xget (s := .slice) (x := sl) (h := ?_)
    refine xcall0 (hex_spec sl s.bytes hb) rdb ?_
    rintro ⟨t, _⟩ _ ⟨ht, rfl⟩
    obtain rfl : t = BA (hexM s.bytes) := ht
    refine app0 (ca1 (xkeep (l := []) (xret ?_)))
    unfold wordF; rw [if_pos h]; exact ⟨rfl, rfl, rfl⟩
  refine key (n := 115) (by decide) (fun (h : f = 115) => ?_) (fun (h115 : f ≠ 115) => ?_)
  · refine xget (h := ?_)
    rw [BA_toList, empty_list]
    refine xjoin1 (fun (c : Bool) As' => c = decide (s.name = [] ∨ (32 : UInt8) ∈ s.name) ∧ As' = [Blk b [.int .i64 s.kind, .int .i64 s.num, .int .i64 s.way, .int .i64 s.bit, .int .i64 s.unit, .int .i64 s.addr, .int .i64 s.id, .string (BA s.name), sl.v]]) (fun K hK => ?_) ?_
    · refine xif (fun h => hK _ _ ⟨?_, rfl⟩) (fun h => ?_)
      · have h := eq_of_beq h
        simp [h]
      · have h := beq_eq_false_iff_ne.1 h
        refine xget (h := ?_)
        refine xcall0 (Contains_spec (BA s.name) 32) rdb ?_
        rintro ⟨(c : Bool), _⟩ _ ⟨hc, rfl⟩
        rw [BA_list] at hc
        obtain rfl : c = decide ((32 : UInt8) ∈ s.name) := hc
        refine app0 (ca1 (hK _ _ ⟨?_, rfl⟩))
        simp [h]
    rintro c As2 ⟨rfl, rfl⟩
    refine xjoin1 (fun (c : Bool) As' => c = decide (s.name = [] ∨ (32 : UInt8) ∈ s.name ∨ (10 : UInt8) ∈ s.name) ∧ As' = [Blk b [.int .i64 s.kind, .int .i64 s.num, .int .i64 s.way, .int .i64 s.bit, .int .i64 s.unit, .int .i64 s.addr, .int .i64 s.id, .string (BA s.name), sl.v]]) (fun K hK => ?_) ?_
    · refine xif_dec (fun h => hK _ _ ⟨?_, rfl⟩) (fun h => ?_)
      · rcases h with h | h <;> simp [h]
      · simp only [not_or] at h
        refine xget (h := ?_)
        refine xcall0 (Contains_spec (BA s.name) 10) rdb ?_
        rintro ⟨(c : Bool), _⟩ _ ⟨hc, rfl⟩
        rw [BA_list] at hc
        obtain rfl : c = decide ((10 : UInt8) ∈ s.name) := hc
        refine app0 (ca1 (hK _ _ ⟨?_, rfl⟩))
        simp [h.1, h.2]
    rintro c As2 ⟨rfl, rfl⟩
    refine xif_dec (fun h2 => xkeep (l := []) (xret ?_)) (fun h2 => xget (h := xkeep (l := []) (xret ?_)))
    · unfold wordF; rw [if_neg h104, if_pos h, if_pos h2]; exact ⟨rfl, rfl, rfl⟩
    · unfold wordF; rw [if_neg h104, if_pos h, if_neg h2]; exact ⟨rfl, rfl, rfl⟩
  refine xcall0 (number_spec30 b f) rdb ?_
  rintro ⟨q, _⟩ _ ⟨hq, rfl⟩
  obtain rfl : q = some ⟨b, offF f, none⟩ := hq
  refine app0 (ca1 (xnil ?_))
  have rest : ∀ {K : Int → WP}, Ent B [] (K (getF f s)) → Ent B [Blk b [.int .i64 s.kind, .int .i64 s.num, .int .i64 s.way, .int .i64 s.bit, .int .i64 s.unit, .int .i64 s.addr, .int .i64 s.id, .string (BA s.name), sl.v]] (XGet (.int .i64) ⟨b, offF f, none⟩ fun (n : Int) => K n) := by
    intro K h
    rcases off_cases f with ⟨ho, _, hs⟩ | ⟨ho, _, hs⟩ | ⟨ho, _, hs⟩ | ⟨ho, _, hs⟩ | ⟨ho, _, hs⟩ | ⟨ho, _, hs⟩ <;>
      · rw [ho]
        rw [hs] at h
        exact xget (h := xkeep (l := []) h)
  refine rest ?_
  refine xcall0 ways_spec rdb ?_
  rintro ⟨s1, _⟩ _ ⟨rfl, hs1, _⟩
  have hs1 : s1.n = 4 := hs1
  refine app1 (ca1 ?_)
  refine xjoin1 (fun (l : Sl) As' => ∃ L : List (List UInt8), (f = 107 → L = kindsW) ∧ (f ≠ 107 → L = waysW) ∧ L.length = 4 ∧ l.n = 4 ∧ As' = [Ar Cf.ST l (L.map BA)]) (fun K hK => ?_) ?_
  · refine key (n := 107) (by decide) (fun (h : f = 107) => ?_) (fun (h : f ≠ 107) => hK _ _ ⟨waysW, fun e => absurd e h, fun _ => rfl, rfl, hs1, rfl⟩)
    refine xcall0 kindsC_spec rdb ?_
    rintro ⟨s2, _⟩ _ ⟨rfl, hs2, _⟩
    have hs2 : s2.n = 4 := hs2
    exact app1 (ca1 (xuse [Ar Cf.ST s2 (kindsW.map BA)] (hK _ _ ⟨kindsW, fun _ => rfl, fun e => absurd h e, rfl, hs2, rfl⟩)))
  rintro l As2 ⟨L, hL1, hL2, hL4, hln, rfl⟩
  have e1 : ((f.toNat : Int) != 119) = !(f == 119) := by rw [bne, show ((f.toNat : Int) == 119) = (f == 119) from u8_eq (n := 119) (by decide)]
  have e2 : ((f.toNat : Int) != 107) = !(f == 107) := by rw [bne, show ((f.toNat : Int) == 107) = (f == 107) from u8_eq (n := 107) (by decide)]
  rw [e1, e2]
  refine xif (fun h => ?_) (fun h => ?_)
  · have h119 : f ≠ 119 := fun e => by subst e; cases h
    have h107 : f ≠ 107 := fun e => by subst e; cases h
    have hw : wordF s f = if getF f s < -9999999999999 ∨ getF f s > 9999999999999 then (3, []) else (0, Lib.itoa (getF f s)) := by
      unfold wordF; rw [if_neg h104, if_neg h115, if_neg h119, if_neg h107]
    rw [hw]
    refine xif (fun h2 => xkeep (l := []) (xret ?_)) (fun h2 => ?_)
    · rw [if_pos (by simpa using h2)]; exact ⟨rfl, rfl, rfl⟩
    · have h2 : ¬ (getF f s < -9999999999999 ∨ getF f s > 9999999999999) := by simpa using h2
      rw [if_neg h2]
      refine xcall0 (Itoa_spec (getF f s) (by omega) (by omega)) rdb ?_
      rintro ⟨t, _⟩ _ ⟨ht, rfl⟩
      obtain rfl : t = BA (Lib.itoa (getF f s)) := ht
      exact app0 (ca1 (xkeep (l := []) (xret ⟨rfl, rfl, rfl⟩)))
  · have hor : f = 119 ∨ f = 107 := by
      by_cases h119 : f = 119
      · exact .inl h119
      · by_cases h107 : f = 107
        · exact .inr h107
        · rw [beq_eq_false_iff_ne.2 h119, beq_eq_false_iff_ne.2 h107] at h; cases h
    have hw : wordF s f = if getF f s < 1 ∨ getF f s > 4 then (3, []) else (0, (L[(getF f s - 1).toNat]?).getD []) := by
      rcases hor with e | e
      · rw [hL2 (by rw [e]; decide)]; subst e; rfl
      · rw [hL1 e]; subst e; rfl
    rw [hw, hln]
    refine xif (fun h2 => xkeep (l := []) (xret ?_)) (fun h2 => ?_)
    · rw [if_pos (by simpa using h2)]; exact ⟨rfl, rfl, rfl⟩
    · have h2 : ¬ (getF f s < 1 ∨ getF f s > 4) := by simpa using h2
      rw [if_neg h2, wrap_id _ (by omega) (by omega)]
      obtain ⟨k, hk⟩ : ∃ k : Nat, getF f s - 1 = (k : Int) := ⟨(getF f s - 1).toNat, by omega⟩
      rw [hk, Int.toNat_natCast]
      obtain ⟨w, hw1⟩ : ∃ w, L[k]? = some w := ⟨_, List.getElem?_eq_getElem (by omega)⟩
      have hwx : (L.map BA)[k]? = some (BA w) := by rw [List.getElem?_map, hw1]; rfl
      rw [← hln]
      refine xidxn (E := Cf.ST) (xs := L.map BA) (s := l) (h1 := by rw [List.length_map]; omega) (h := fun y hy => ?_)
      obtain rfl : y = BA w := by rw [hwx] at hy; exact (Option.some.inj hy).symm
      refine xgetE (E := Cf.ST) (xs := L.map BA) hy (h := ?_)
      rw [hw1]
      exact xkeep (l := []) (xret ⟨rfl, rfl, rfl⟩)

/-! The line. -/
theorem findK_drop {w : Int} {l : List (List UInt8 × Int × List UInt8)} {k : Nat} {x : List UInt8 × Int × List UInt8} (h : findK w l = findK w (l.drop k)) (hx : l[k]? = some x) : if x.2.1 = w then findK w l = some (x.1, x.2.2) else findK w l = findK w (l.drop (k + 1)) := by
  have hlt := (List.getElem?_eq_some_iff.1 hx).1
  have hd : l.drop k = x :: l.drop (k + 1) := by rw [List.drop_eq_getElem_cons hlt, (List.getElem?_eq_some_iff.1 hx).2]
  rw [hd] at h
  obtain ⟨a, b, c⟩ := x
  simp only [findK] at h
  by_cases he : b = w
  · rw [if_pos he] at h; simp only [he, if_true]; rw [h]
  · rw [if_neg he] at h; simp only [he, if_false]; rw [h]

set_option maxHeartbeats 1000000 in
theorem Line_spec (s : StepV) (sl : Sl) (hb : s.bytes.length ≤ 1048576) (hn : s.name.length ≤ 1048576) : Ct Pr F_console_Line [.agg #[.int .i64 s.kind, .int .i64 s.num, .int .i64 s.way, .int .i64 s.bit, .int .i64 s.unit, .int .i64 s.addr, .int .i64 s.id, .string (BA s.name), sl.v]] (.tup [none, none]) [.str, .int .i64] [] ((RAr U8 sl s.bytes).and GTab)
    (fun t Bs => t.2.1 = (lineM s).1 ∧ t.1 = BA (lineM s).2 ∧ Bs = []) := by
  refine spec2 c_console_Line fun B hr => ?_
  haveI : Fro B sl U8 s.bytes := ⟨hr.1⟩
  haveI : FroP B GTab := ⟨hr.2, fun _ _ h s => GTab.mono _ _ h s⟩
  unfold console_Line
  refine xnew fun b => ?_
  refine xcall0 shapes_spec rdb ?_
  rintro ⟨s1, _⟩ _ ⟨rfl, hs1⟩
  have hs1 : s1.n = 16 := hs1
  refine app1 (ca1 ?_)
  refine xloop1 (fun m (x : Int) As' => ∃ k : Nat, x = (k : Int) ∧ m = 16 - k ∧ k ≤ 16 ∧ findK s.kind shapesL = findK s.kind (shapesL.drop k) ∧ As' = [Ar SHP s1 shapesL, Blk b [.int .i64 s.kind, .int .i64 s.num, .int .i64 s.way, .int .i64 s.bit, .int .i64 s.unit, .int .i64 s.addr, .int .i64 s.id, .string (BA s.name), sl.v]]) 16 ⟨0, rfl, rfl, by omega, rfl, rfl⟩ ?_
  rintro m x As' K ⟨k, rfl, rfl, hk, hfw, rfl⟩ hK
  refine xif_dec (fun hp => ?_) (fun hp => ?_)
  rotate_left
  · have hk16 : k = 16 := by omega
    subst hk16
    refine xkeep (l := []) (xret ?_)
    unfold lineM
    rw [hfw]; exact ⟨rfl, rfl, rfl⟩
  have hp : k < 16 := by omega
  obtain ⟨⟨w0, kd, fs⟩, hx⟩ : ∃ x, shapesL[k]? = some x := ⟨_, List.getElem?_eq_getElem (by simpa [shapesL] using hp)⟩
  refine xidxn (E := SHP) (xs := shapesL) (s := s1) (h1 := by simpa [shapesL] using hp) (h := fun x hx' => ?_)
  obtain rfl : x = (w0, kd, fs) := by rw [hx] at hx'; exact (Option.some.inj hx').symm
  refine xgetE (E := SHP) (xs := shapesL) hx (h := ?_)
  refine xgetEj (E := SHP) (xs := shapesL) (j := 1) hx (h := ?_)
  refine xgetEj (E := SHP) (xs := shapesL) (j := 2) hx (h := ?_)
  dsimp only
  refine xnew fun b1 => ?_
  iterate 3 (refine xset (h := ?_))
  iterate 2 (refine xget (h := ?_))
  have hfd := findK_drop hfw hx
  refine xif (fun h => ?_) (fun h => ?_)
  · have h : kd ≠ s.kind := by simpa using h
    simp only [h, if_false] at hfd
    rw [wrap_succ k (by omega)]
    exact xuse [Ar SHP s1 shapesL, Blk b [.int .i64 s.kind, .int .i64 s.num, .int .i64 s.way, .int .i64 s.bit, .int .i64 s.unit, .int .i64 s.addr, .int .i64 s.id, .string (BA s.name), sl.v]] (hK (16 - (k + 1)) _ _ (by omega) ⟨k + 1, rfl, rfl, by omega, hfd, rfl⟩)
  have h : kd = s.kind := by simpa using h
  simp only [h, if_true] at hfd
  have hlm : lineM s = if foreignB s fs = true then (23, []) else wordsF s fs w0 := by unfold lineM; rw [hfd]
  rw [hlm]
  have hfs : fs.length ≤ 4 ∧ w0.length ≤ 10 := by
    have : ∀ k : Nat, k < 16 → ∀ x, shapesL[k]? = some x → x.2.2.length ≤ 4 ∧ x.1.length ≤ 10 := by decide
    exact this k hp _ hx
  iterate 8 (refine xget (h := ?_))
  refine xget (s := .slice) (x := sl) (h := ?_)
  refine xget (h := ?_)
  refine xcall0 (foreign_spec s sl fs (by omega)) rdb ?_
  rintro ⟨(c : Bool), _⟩ _ ⟨hc, rfl⟩
  obtain rfl : c = foreignB s fs := hc
  refine app0 (ca1 (xif (fun hf => xkeep (l := []) (xret ?_)) (fun hf => ?_)))
  · rw [if_pos hf]; exact ⟨rfl, rfl, rfl⟩
  rw [if_neg (by rw [hf]; decide)]
  iterate 2 (refine xget (h := ?_))
  rw [BA_size]
  refine xuse [Blk b1 [.string (BA w0), .int .i64 kd, .string (BA fs)], Blk b [.int .i64 s.kind, .int .i64 s.num, .int .i64 s.way, .int .i64 s.bit, .int .i64 s.unit, .int .i64 s.addr, .int .i64 s.id, .string (BA s.name), sl.v]] ?_
  refine xloop2 (fun m (o : ByteArray) (x : Int) As' => ∃ (j : Nat) (out : List UInt8), x = (j : Int) ∧ o = BA out ∧ m = fs.length - j ∧ j ≤ fs.length ∧ wordsF s fs w0 = wordsF s (fs.drop j) out ∧ out.length ≤ 10 + 2097153 * j ∧ As' = [Blk b1 [.string (BA w0), .int .i64 kd, .string (BA fs)], Blk b [.int .i64 s.kind, .int .i64 s.num, .int .i64 s.way, .int .i64 s.bit, .int .i64 s.unit, .int .i64 s.addr, .int .i64 s.id, .string (BA s.name), sl.v]]) fs.length ⟨0, w0, rfl, rfl, rfl, by omega, rfl, by omega, rfl⟩ ?_
  rintro m o x As' K2 ⟨j, out, rfl, rfl, rfl, hj, hwf, hol, rfl⟩ hK2
  refine xif_dec (fun hp2 => ?_) (fun hp2 => ?_)
  · have hp2 : j < fs.length := by omega
    obtain ⟨f, hf1⟩ : ∃ b, fs[j]? = some b := ⟨_, List.getElem?_eq_getElem hp2⟩
    refine xdraw ?_
    iterate 8 (refine xget (h := ?_))
    refine xget (s := .slice) (x := sl) (h := ?_)
    refine xget (h := ?_)
    refine xbyte (k := j) rfl (BA_at hf1) ?_
    refine xcall0 (word_spec s sl f hb) rdb ?_
    rintro ⟨t, (e : Int), _⟩ _ ⟨he, ht, rfl⟩
    obtain rfl : e = (wordF s f).1 := he
    obtain rfl : t = BA (wordF s f).2 := ht
    have hd : fs.drop j = f :: fs.drop (j + 1) := by rw [List.drop_eq_getElem_cons hp2, (List.getElem?_eq_some_iff.1 hf1).2]
    have hwl := wordF_len s f hb hn
    rw [hd] at hwf
    simp only [wordsF] at hwf
    refine app0 (ca2 (xif (fun h1 => xkeep (l := []) (xret ?_)) (fun h1 => ?_)))
    · have h1 : (wordF s f).1 ≠ 0 := by simpa using h1
      rw [if_neg h1] at hwf
      rw [hwf]; exact ⟨rfl, rfl, rfl⟩
    · have h1 : (wordF s f).1 = 0 := by simpa using h1
      rw [if_pos h1] at hwf
      have e32 : (⟨#[32]⟩ : ByteArray) = BA [32] := rfl
      rw [e32, BA_app, BA_app]
      simp only [BA_size]
      refine xasrt (by simp; omega) (xasrt (by simp; omega) ?_)
      rw [wrap_succ j (by omega)]
      refine hK2 (fs.length - (j + 1)) _ _ _ (by omega) ⟨j + 1, out ++ 32 :: (wordF s f).2, rfl, rfl, rfl, by omega, hwf, ?_, rfl⟩
      simp only [List.length_append, List.length_cons]
      omega
  · have hj2 : j = fs.length := by omega
    rw [hj2, List.drop_of_length_le (Nat.le_refl _)] at hwf
    rw [hwf]
    exact xkeep (l := []) (xret ⟨rfl, rfl, rfl⟩)

end Go.Cx

namespace Go.Cx
open Go Go.Cf
set_option linter.unusedVariables false
set_option maxRecDepth 100000
variable {B : Base} {As F : List HP}

theorem place30_spec (s : Sl) (l : List (List UInt8)) (w : List UInt8) (hl : l.length ≤ 1000) : Ct Pr F_ref30_place [s.v, .string (BA w)] .one [.int .i64] [] (RAr Cf.ST s (l.map BA)) (fun t Bs => t.1 = placeI l w + 1 ∧ Bs = []) := by
  refine spec1 c_ref30_place fun B hr => ?_
  haveI : Fro B s Cf.ST (l.map BA) := ⟨hr⟩
  have hs : (l.map BA).length = s.n := hr.1
  rw [List.length_map] at hs
  unfold ref30_place
  refine xloop1 (fun m (i : Int) As' => ∃ k : Nat, i = (k : Int) ∧ m = l.length - k ∧ k ≤ l.length ∧ (∀ j, j < k → l[j]? ≠ some w) ∧ As' = []) l.length ⟨0, rfl, rfl, by omega, fun j hj => absurd hj (by omega), rfl⟩ ?_
  rintro m i As' K ⟨k, rfl, rfl, hk, hno, rfl⟩ hK
  refine xif_dec (fun hp => ?_) (fun hp => ?_)
  · have hp : k < l.length := by omega
    obtain ⟨y, hy⟩ : ∃ w, l[k]? = some w := ⟨_, List.getElem?_eq_getElem hp⟩
    have hwx : (l.map BA)[k]? = some (BA y) := by rw [List.getElem?_map, hy]; rfl
    refine xidxn (E := Cf.ST) (xs := l.map BA) (s := s) (h1 := by rw [List.length_map]; exact hp) (h := fun x hx => ?_)
    obtain rfl : x = BA y := by rw [hwx] at hx; exact (Option.some.inj hx).symm
    refine xgetE (E := Cf.ST) (xs := l.map BA) hx (h := ?_)
    have e := BA_eqv y w
    rw [wrap_succ k (by omega)]
    refine xif (fun h => xret ⟨?_, rfl⟩) (fun h => ?_)
    · have h := eq_of_beq (e.symm.trans h)
      subst h
      have := place_get (i := 0) hno hy
      rw [Nat.zero_add] at this
      show ((k + 1 : Nat) : Int) = placeI l y + 1
      unfold placeI; rw [this]; omega
    · have h := beq_eq_false_iff_ne.1 (e.symm.trans h)
      refine hK (l.length - (k + 1)) _ _ (by omega) ⟨k + 1, rfl, rfl, by omega, fun j hj => ?_, rfl⟩
      by_cases hjk : j = k
      · subst hjk; rw [hy]; simpa using h
      · exact hno j (by omega)
  · refine xret ⟨?_, rfl⟩
    have : placeI l w = -1 := place_none fun hm => by
      obtain ⟨j, hj⟩ := List.getElem?_of_mem hm
      have := (List.getElem?_eq_some_iff.1 hj).1
      exact hno j (by omega) hj
    rw [this]; rfl

theorem Names_spec : Ct Pr F_ref30_Names [] .one [.slice] [] emp (fun t Bs => Bs = [Ar Cf.ST t.1 (namesW.map BA)] ∧ t.1.n = 16) := by
  refine spec1 c_ref30_Names fun B hr => ?_
  unfold ref30_Names
  refine xnew fun b => ?_
  refine xfold1 (Q := Ar Cf.ST ⟨some ⟨b, 0, none⟩, 16, 16⟩ (namesW.map BA)) 0 (fun g hg => ⟨[], blk_ar (E := Cf.ST) (namesW.map BA) 16 rfl rfl hg⟩) ?_
  exact xret ⟨rfl, rfl⟩
theorem ways30_spec : Ct Pr F_ref30_ways [] .one [.slice] [] emp (fun t Bs => Bs = [Ar Cf.ST t.1 (waysW.map BA)] ∧ t.1.n = 4) := by
  refine spec1 c_ref30_ways fun B hr => ?_
  unfold ref30_ways
  refine xnew fun b => ?_
  refine xfold1 (Q := Ar Cf.ST ⟨some ⟨b, 0, none⟩, 4, 4⟩ (waysW.map BA)) 0 (fun g hg => ⟨[], blk_ar (E := Cf.ST) (waysW.map BA) 4 rfl rfl hg⟩) ?_
  exact xret ⟨rfl, rfl⟩
theorem kinds30_spec : Ct Pr F_ref30_kinds [] .one [.slice] [] emp (fun t Bs => Bs = [Ar Cf.ST t.1 (kindsW.map BA)] ∧ t.1.n = 4) := by
  refine spec1 c_ref30_kinds fun B hr => ?_
  unfold ref30_kinds
  refine xnew fun b => ?_
  refine xfold1 (Q := Ar Cf.ST ⟨some ⟨b, 0, none⟩, 4, 4⟩ (kindsW.map BA)) 0 (fun g hg => ⟨[], blk_ar (E := Cf.ST) (kindsW.map BA) 4 rfl rfl hg⟩) ?_
  exact xret ⟨rfl, rfl⟩

/-! A number. -/
theorem neg_at {w : List UInt8} {b : UInt8} (hb : w[0]? = some b) : ((b.toNat : Int) == 45) = isNeg w := by
  cases w with
  | nil => cases hb
  | cons x r =>
    obtain rfl : x = b := by simpa using hb
    exact u8_eq (n := 45) (by decide)
theorem numOk_of {w : List UInt8} (h1 : 1 ≤ (bare w).length) (h2 : (bare w).length ≤ 13) (h3 : ¬ ((bare w)[0]? = some 48 ∧ (isNeg w = true ∨ (bare w).length > 1))) (hd : (bare w).all isDig = true) : numOk w = true := by
  unfold numOk
  have e4 : (w == [45, 48]) = false := beq_eq_false_iff_ne.2 fun e => h3 (by subst e; exact ⟨rfl, .inl rfl⟩)
  have e3 : (decide ((bare w).length > 1) && ((bare w)[0]? == some 48)) = false := by
    rw [Bool.and_eq_false_iff]
    by_cases h : (bare w)[0]? = some 48
    · left; exact decide_eq_false fun hl => h3 ⟨h, .inr hl⟩
    · right; exact beq_eq_false_iff_ne.2 h
  rw [decide_eq_true h1, decide_eq_true h2, e3, e4, hd]; rfl
theorem numOk_no {w : List UInt8} (h3 : (bare w)[0]? = some 48 ∧ (isNeg w = true ∨ (bare w).length > 1)) : numOk w = false := by
  refine Bool.eq_false_iff.2 fun hk => ?_
  obtain ⟨g1, g2, g3, g4, g5⟩ := numOk_parts hk
  by_cases hl : (bare w).length > 1
  · exact g3 hl h3.1
  · have hn : isNeg w = true := h3.2.resolve_right hl
    cases w with
    | nil => cases hn
    | cons x r =>
      have hx : x = 45 := by unfold isNeg at hn; exact eq_of_beq hn
      subst hx
      have hb : bare (45 :: r) = r := by unfold bare; simp
      rw [hb] at g1 hl h3
      match r, g1, hl with
      | [y], _, _ =>
        have : y = 48 := by simpa using h3.1
        subst this; exact g4 rfl
      | _ :: _ :: _, _, hl => simp at hl

set_option maxHeartbeats 1000000 in
theorem number30_spec (w : List UInt8) (hl : w.length ≤ 4611686018427387904) : Ct Pr F_ref30_number [.string (BA w)] (.tup [none, none]) [.int .i64, .bool] [] emp (fun t Bs => t.2.1 = (numI w).isSome ∧ (∀ v, numI w = some v → t.1 = v) ∧ Bs = []) := by
  refine spec2 c_ref30_number fun B hr => ?_
  unfold ref30_number
  have hfail : ∀ {As : List HP}, numI w = none → Ent B As (Ret B (ss := [.int .i64, .bool]) (fun t Bs => t.2.1 = (numI w).isSome ∧ (∀ v, numI w = some v → t.1 = v) ∧ Bs = []) (0, false, ())) := fun {As} h =>
    xkeep (l := []) (xret ⟨by rw [h]; rfl, fun (v : Int) (hv : numI w = some v) => (by rw [h] at hv; cases hv), rfl⟩)
  have hsz := BA_size w
  rw [hsz]
  refine xjoin1 (fun (c : Bool) As' => As' = [] ∧ c = isNeg w) (fun K hK => ?_) ?_
  · refine xif_dec (fun h => ?_) (fun h => hK _ _ ⟨rfl, ?_⟩)
    · obtain ⟨b, hb⟩ : ∃ b, w[0]? = some b := ⟨_, List.getElem?_eq_getElem (by omega)⟩
      exact xbyte (k := 0) rfl (BA_at hb) (hK _ _ ⟨rfl, neg_at hb⟩)
    · have : w = [] := List.length_eq_zero_iff.1 (by omega)
      subst this; rfl
  rintro c As2 ⟨rfl, rfl⟩
  refine xjoin1 (fun (x : ByteArray) As' => As' = [] ∧ x = BA (bare w)) (fun K hK => ?_) ?_
  · refine xif (fun h => ?_) (fun h => hK _ _ ⟨rfl, ?_⟩)
    · have hw : 1 ≤ w.length := by cases w with
        | nil => cases h
        | cons _ _ => simp
      refine xsub (i := 1) (j := w.length) rfl (by first | rfl | exact congrArg Int.ofNat hsz) hw (Nat.le_refl _) (hK _ _ ⟨rfl, ?_⟩)
      rw [List.take_of_length_le (Nat.le_refl _), bare_drop, if_pos h]
    · rw [bare_drop, if_neg (by rw [h]; decide)]; rfl
  rintro x As2 ⟨rfl, rfl⟩
  have hsz2 := BA_size (bare w)
  have hbl : (bare w).length ≤ w.length := by rw [bare_drop]; simp
  rw [hsz2]
  refine xjoin1 (fun (c : Bool) As' => As' = [] ∧ c = (decide ((bare w).length < 1) || decide ((bare w).length > 13) || decide ((bare w)[0]? = some 48 ∧ (isNeg w = true ∨ (bare w).length > 1)))) (fun K hK => ?_) ?_
  · refine xif (fun h => hK _ _ ⟨rfl, ?_⟩) (fun h => ?_)
    · have : (decide ((bare w).length < 1) || decide ((bare w).length > 13)) = true := by
        simp only [Bool.or_eq_true, decide_eq_true_eq] at h ⊢; omega
      rw [this, Bool.true_or]
    · have hh : (decide ((bare w).length < 1) || decide ((bare w).length > 13)) = false := by
        simp only [Bool.or_eq_false_iff, decide_eq_false_iff_not] at h ⊢; omega
      simp only [Bool.or_eq_false_iff, decide_eq_false_iff_not] at h
      obtain ⟨b, hb⟩ : ∃ b, (bare w)[0]? = some b := ⟨_, List.getElem?_eq_getElem (by omega)⟩
      refine xbyte (k := 0) rfl (BA_at hb) ?_
      have e48 : ((b.toNat : Int) == 48) = (b == 48) := u8_eq (n := 48) (by decide)
      rw [e48]
      refine xjoin (xif (fun h2 => hK _ _ ⟨rfl, ?_⟩) (fun h2 => hK _ _ ⟨rfl, ?_⟩))
      · have h2 := eq_of_beq h2
        subst h2
        rw [hh, Bool.false_or, Bool.eq_iff_iff]
        simp only [Bool.or_eq_true, decide_eq_true_eq, hb, true_and]
        constructor
        · rintro (h3 | h3)
          · exact .inl h3
          · exact .inr (by omega)
        · rintro (h3 | h3)
          · exact .inl h3
          · exact .inr (by omega)
      · have h2 := beq_eq_false_iff_ne.1 h2
        rw [hh, Bool.false_or, hb]
        simp [h2]
  rintro c As2 ⟨rfl, rfl⟩
  refine xif (fun h => hfail ?_) (fun h => ?_)
  · simp only [Bool.or_eq_true, decide_eq_true_eq] at h
    rcases h with h | h
    · exact numI_len h
    · exact numI_no (numOk_no h)
  simp only [Bool.or_eq_false_iff, decide_eq_false_iff_not] at h
  refine xloop2 (fun m (v : Int) (i : Int) As' => ∃ k : Nat, i = (k : Int) ∧ v = (decV ((bare w).take k) : Int) ∧ m = (bare w).length - k ∧ k ≤ (bare w).length ∧ ((bare w).take k).all isDig = true ∧ As' = []) (bare w).length ⟨0, rfl, rfl, by omega, by omega, rfl, rfl⟩ ?_
  rintro m v i As' K ⟨k, rfl, rfl, rfl, hk, hall, rfl⟩ hK
  have hlt := decV_lt13 hall (by rw [List.length_take]; omega)
  refine xif_dec (fun hp => ?_) (fun hp => ?_)
  · have hp : k < (bare w).length := by omega
    obtain ⟨b, hb⟩ : ∃ b, (bare w)[k]? = some b := ⟨_, List.getElem?_eq_getElem hp⟩
    refine xbyte (k := k) rfl (BA_at hb) ?_
    refine xjoin1 (fun (c : Bool) As' => As' = [] ∧ c = !(isDig b)) (fun K2 hK2 => ?_) ?_
    · refine xif_dec (fun h1 => hK2 _ _ ⟨rfl, ?_⟩) (fun h1 => xbyte (k := k) rfl (BA_at hb) (hK2 _ _ ⟨rfl, ?_⟩))
      · have : isDig b = false := by
          unfold isDig
          have : decide (48 ≤ b.toNat) = false := by rw [decide_eq_false_iff_not]; omega
          rw [this]; rfl
        rw [this]; rfl
      · unfold isDig
        have e : decide (48 ≤ b.toNat) = true := by rw [decide_eq_true_eq]; omega
        rw [e, Bool.true_and, Bool.eq_iff_iff]
        simp only [decide_eq_true_eq, Bool.not_eq_true', decide_eq_false_iff_not]
        omega
    rintro c As2 ⟨rfl, rfl⟩
    refine xif (fun h1 => hfail (numI_dig hb (by simpa using h1))) (fun h1 => ?_)
    have hd : isDig b = true := by simpa using h1
    refine xbyte (k := k) rfl (BA_at hb) ?_
    rw [wrap_dig hd]
    have hb9 : b.toNat ≤ 57 := by simp only [isDig, Bool.and_eq_true, decide_eq_true_eq] at hd; exact hd.2
    have e1 : decV ((bare w).take (k + 1)) = decV ((bare w).take k) * 10 + (b.toNat - 48) := by rw [← take_snoc27 hb, decV_snoc]
    have e2 : IntKind.i64.wrap (IntKind.i64.wrap (10 * (decV ((bare w).take k) : Int)) + IntKind.i64.wrap ((b.toNat - 48 : Nat) : Int)) = (decV ((bare w).take (k + 1)) : Int) := by
      rw [wrap_id (10 * (decV ((bare w).take k) : Int)) (by omega) (by omega), wrap_id ((b.toNat - 48 : Nat) : Int) (by omega) (by omega), wrap_id _ (by omega) (by omega), e1]
      omega
    rw [e2, wrap_succ _ (by omega)]
    refine hK ((bare w).length - (k + 1)) _ _ _ (by omega) ⟨k + 1, rfl, rfl, rfl, by omega, ?_, rfl⟩
    rw [← take_snoc27 hb, List.all_append, hall]
    simpa using h1
  · rw [List.take_of_length_le (by omega)] at hall hlt ⊢
    have hn := numI_ok (numOk_of (w := w) (by omega) (by omega) h.2 hall)
    refine xif (fun h1 => xret ⟨by rw [hn]; rfl, fun v hv => ?_, rfl⟩) (fun h1 => xret ⟨by rw [hn]; rfl, fun v hv => ?_, rfl⟩)
    · rw [hn] at hv
      obtain rfl := Option.some.inj hv
      show IntKind.i64.wrap _ = _
      rw [wrap_id _ (by omega) (by omega)]; unfold rawV; rw [if_pos h1]; omega
    · rw [hn] at hv
      obtain rfl := Option.some.inj hv
      unfold rawV; rw [if_neg (by rw [h1]; decide)]

theorem all30_spec (s : Sl) (ws : List (List UInt8)) (hm : ∀ w ∈ ws, w.length ≤ 4611686018427387904) (hn : ws.length ≤ 1000) : Ct Pr F_ref30_all [s.v] (.tup [none, none]) [.slice, .bool] [] (RAr Cf.ST s (ws.map BA)) (fun t Bs => (numsI ws = none ∧ t.2.1 = false ∧ Bs = []) ∨ (∃ vs, numsI ws = some vs ∧ t.2.1 = true ∧ Bs = [Ar I64 t.1 vs])) := by
  refine spec2 c_ref30_all fun B hr => ?_
  haveI : Fro B s Cf.ST (ws.map BA) := ⟨hr⟩
  have hl : (ws.map BA).length = s.n := hr.1
  rw [List.length_map] at hl
  unfold ref30_all
  refine xnone I64 ?_
  refine xuse [Ar I64 ⟨none, 0, 0⟩ []] ?_
  refine xloop2 (fun m (out : Sl) (i : Int) As' => ∃ (k : Nat) (vs : List Int), i = (k : Int) ∧ m = ws.length - k ∧ k ≤ ws.length ∧ numsI (ws.take k) = some vs ∧ vs.length = k ∧ As' = [Ar I64 out vs]) ws.length ⟨0, [], rfl, rfl, by omega, rfl, rfl, rfl⟩ ?_
  rintro m out i As' K ⟨k, vs, rfl, rfl, hk, hvs, hvl, rfl⟩ hK
  refine xif_dec (fun hp => ?_) (fun hp => ?_)
  · have hp : k < ws.length := by omega
    obtain ⟨w, hw⟩ : ∃ w, ws[k]? = some w := ⟨_, List.getElem?_eq_getElem hp⟩
    have hwx : (ws.map BA)[k]? = some (BA w) := by rw [List.getElem?_map, hw]; rfl
    refine xidxn (E := Cf.ST) (xs := ws.map BA) (s := s) (h1 := by rw [List.length_map]; exact hp) (h := fun x hx => ?_)
    obtain rfl : x = BA w := by rw [hwx] at hx; exact (Option.some.inj hx).symm
    refine xgetE (E := Cf.ST) (xs := ws.map BA) hx (h := ?_)
    refine xcall0 (number30_spec w (hm w (List.mem_of_getElem? hw))) rdb ?_
    rintro ⟨r, c, _⟩ _ ⟨h1, h2, rfl⟩
    obtain rfl : c = (numI w).isSome := h1
    refine app0 (ca2 (xif (fun h => ?_) (fun h => ?_)))
    · have hn : numI w = none := by
        cases e : numI w with
        | none => rfl
        | some v => rw [e] at h; cases h
      refine xkeep (l := []) (xret (.inl ⟨numsI_bad (List.mem_of_getElem? hw) hn, rfl, rfl⟩))
    · obtain ⟨v, hv⟩ : ∃ v, numI w = some v := by
        cases e : numI w with
        | none => rw [e] at h; cases h
        | some v => exact ⟨v, rfl⟩
      obtain rfl : r = v := h2 v hv
      refine xnew fun b => ?_
      refine xapp1 (E := I64) r (hb := by rw [hvl]; omega) (h := fun s2 => ?_)
      rw [wrap_succ k (by omega)]
      refine xuse [Ar I64 s2 (vs ++ [r])] (hK (ws.length - (k + 1)) _ _ _ (by omega) ⟨k + 1, vs ++ [r], rfl, rfl, by omega, ?_, by simp [hvl], rfl⟩)
      rw [numsI_take hvs hw, hv]; rfl
  · have hk' : k = ws.length := by omega
    rw [hk', List.take_of_length_le (Nat.le_refl _)] at hvs
    exact xret (.inr ⟨vs, hvs, rfl, rfl⟩)

/-! Bytes. -/
theorem digit_spec (b : UInt8) : Ct Pr F_ref30_digit [.int .u8 b.toNat] .one [.int .i64] [] emp (fun t Bs => t.1 = hexI b ∧ Bs = []) := by
  refine spec1 c_ref30_digit fun B hr => ?_
  unfold ref30_digit
  have hb := UInt8.toNat_lt b
  refine xif (fun h => xret ⟨?_, rfl⟩) (fun h => xif (fun h2 => xret ⟨?_, rfl⟩) (fun h2 => xret ⟨?_, rfl⟩))
  · simp only [Bool.and_eq_true, decide_eq_true_eq] at h
    unfold hexI
    rw [if_pos ⟨by omega, by omega⟩]
    have e : IntKind.u8.wrap ((b.toNat : Int) - 48) = (b.toNat : Int) - 48 := by unfold IntKind.wrap; simp [IntKind.bits, IntKind.signed] <;> omega
    rw [e, wrap_id _ (by omega) (by omega)]
  · simp only [Bool.and_eq_true, decide_eq_true_eq] at h2
    unfold hexI
    rw [if_neg (by omega), if_pos ⟨by omega, by omega⟩]
    have e : IntKind.u8.wrap ((b.toNat : Int) - 97) = (b.toNat : Int) - 97 := by unfold IntKind.wrap; simp [IntKind.bits, IntKind.signed] <;> omega
    have e2 := wrap_id ((b.toNat : Int) - 97) (by omega) (by omega)
    rw [e, e2]
    show IntKind.i64.wrap ((b.toNat : Int) - 97 + 10) = _
    rw [wrap_id _ (by omega) (by omega)]; omega
  · have h : ¬ (48 ≤ b.toNat ∧ b.toNat ≤ 57) := fun hh => by
      rw [Bool.eq_false_iff] at h
      exact h (by simp only [Bool.and_eq_true, decide_eq_true_eq]; omega)
    have h2 : ¬ (97 ≤ b.toNat ∧ b.toNat ≤ 102) := fun hh => by
      rw [Bool.eq_false_iff] at h2
      exact h2 (by simp only [Bool.and_eq_true, decide_eq_true_eq]; omega)
    unfold hexI
    rw [if_neg h, if_neg h2]
theorem hexP_val {x y : Int} (hx : 0 ≤ x ∧ x ≤ 15) (hy : 0 ≤ y ∧ y ≤ 15) : IntKind.u8.wrap (IntKind.i64.wrap (IntKind.i64.wrap (16 * x) + y)) = ((hexP x y).toNat : Int) := by
  obtain ⟨a, rfl⟩ := Int.eq_ofNat_of_zero_le hx.1
  obtain ⟨b, rfl⟩ := Int.eq_ofNat_of_zero_le hy.1
  have : ∀ a : Nat, a < 16 → ∀ b : Nat, b < 16 → IntKind.u8.wrap (IntKind.i64.wrap (IntKind.i64.wrap (16 * (a : Int)) + (b : Int))) = ((hexP (a : Int) (b : Int)).toNat : Int) := by decide +kernel
  exact this a (by omega) b (by omega)
theorem bytes30_spec (w : List UInt8) (hne : w ≠ []) (hl : w.length ≤ 140737488355328) : Ct Pr F_ref30_bytes [.string (BA w)] (.tup [none, none]) [.slice, .bool] [] emp (fun t Bs => t.2.1 = (bytesV w).isSome ∧ ∃ l, (∀ x, bytesV w = some x → l = x) ∧ Bs = [Ar U8 t.1 l]) := by
  refine spec2 c_ref30_bytes fun B hr => ?_
  unfold ref30_bytes
  have e := BA_eqv w [45]
  refine xif (fun h => ?_) (fun h => ?_)
  · have h := eq_of_beq (e.symm.trans h)
    subst h
    exact xnone U8 (xret ⟨rfl, [], fun x hx => Option.some.inj hx, rfl⟩)
  have h45 := beq_eq_false_iff_ne.1 (e.symm.trans h)
  have hsz := BA_size w
  rw [hsz]
  refine xasrt (by decide) ?_
  rw [Int.tmod_eq_emod_of_nonneg (by omega)]
  refine xif (fun h => ?_) (fun h => ?_)
  · have h : (w.length : Int) % 2 = 1 := by simpa using h
    have hb0 : bytesV w = none := by
      unfold bytesV
      rw [if_neg h45, if_neg hne, hexB_odd (w.length / 2) w (by omega)]
    exact xnone U8 (xret ⟨by rw [hb0]; rfl, [], fun (x : List UInt8) (hx : bytesV w = some x) => (by rw [hb0] at hx; cases hx), rfl⟩)
  have hev : (w.length : Int) % 2 = 0 := by
    have h : ¬ (w.length : Int) % 2 = 1 := by simpa using h
    omega
  refine xnone U8 ?_
  refine xuse [Ar U8 ⟨none, 0, 0⟩ []] ?_
  refine xloop2 (fun m (out : Sl) (i : Int) As' => ∃ (k : Nat) (l : List UInt8), i = ((2 * k : Nat) : Int) ∧ m = w.length - 2 * k ∧ 2 * k ≤ w.length ∧ hexB (w.take (2 * k)) = some l ∧ l.length = k ∧ As' = [Ar U8 out l]) w.length ⟨0, [], rfl, rfl, by omega, rfl, rfl, rfl⟩ ?_
  rintro m out i As' K ⟨k, l, rfl, rfl, hk, hh, hll, rfl⟩ hK
  have w1 : IntKind.i64.wrap (((2 * k : Nat) : Int) + 1) = ((2 * k + 1 : Nat) : Int) := wrap_succ _ (by omega)
  rw [w1]
  refine xif_dec (fun hp => ?_) (fun hp => ?_)
  · have hp : 2 * k + 1 < w.length := by omega
    obtain ⟨a, ha⟩ : ∃ b, w[2 * k]? = some b := ⟨_, List.getElem?_eq_getElem (by omega)⟩
    obtain ⟨b, hb⟩ : ∃ b, w[2 * k + 1]? = some b := ⟨_, List.getElem?_eq_getElem hp⟩
    have hs := hexB_step hh ha hb
    refine xbyte (k := 2 * k) rfl (BA_at ha) ?_
    refine xcall0 (digit_spec a) rdb ?_
    rintro ⟨x, _⟩ _ ⟨hx, rfl⟩
    obtain rfl : x = hexI a := hx
    refine app0 (ca1 ?_)
    refine xbyte (k := 2 * k + 1) rfl (BA_at hb) ?_
    refine xcall0 (digit_spec b) rdb ?_
    rintro ⟨y, _⟩ _ ⟨hy, rfl⟩
    obtain rfl : y = hexI b := hy
    refine app0 (ca1 ?_)
    have ra := hexI_range a
    have rb := hexI_range b
    refine xif (fun hn => ?_) (fun hn => ?_)
    · simp only [Bool.or_eq_true, decide_eq_true_eq] at hn
      rw [if_pos hn] at hs
      have hb0 : bytesV w = none := by
        unfold bytesV
        rw [if_neg h45, if_neg (fun e => by subst e; simp at hp), hexB_none hs (by omega)]
      exact xdrop 0 (xnone U8 (xuse [Ar U8 ⟨none, 0, 0⟩ []] (xret ⟨by rw [hb0]; rfl, [], fun (x : List UInt8) (hx : bytesV w = some x) => (by rw [hb0] at hx; cases hx), rfl⟩)))
    · simp only [Bool.or_eq_false_iff, decide_eq_false_iff_not] at hn
      rw [if_neg (by omega)] at hs
      rw [hexP_val ⟨by omega, by omega⟩ ⟨by omega, by omega⟩]
      refine xnew fun b0 => ?_
      refine xapp1 (E := U8) (hexP (hexI a) (hexI b)) (hb := by omega) (h := fun s2 => ?_)
      have w2 : IntKind.i64.wrap (((2 * k : Nat) : Int) + 2) = ((2 * (k + 1) : Nat) : Int) := by rw [wrap_id _ (by omega) (by omega)]; omega
      rw [w2]
      exact xuse [Ar U8 s2 (l ++ [hexP (hexI a) (hexI b)])] (hK (w.length - 2 * (k + 1)) _ _ _ (by omega) ⟨k + 1, _, rfl, rfl, by omega, hs, by simp [hll], rfl⟩)
  · have e1 : w.length = 2 * k := by omega
    rw [List.take_of_length_le (by omega)] at hh
    have hb0 : bytesV w = some l := by unfold bytesV; rw [if_neg h45, if_neg hne, hh]
    exact xret ⟨by rw [hb0]; rfl, l, fun (x : List UInt8) (hx : bytesV w = some x) => (by rw [hb0] at hx; exact Option.some.inj hx), rfl⟩

end Go.Cx

namespace Go.Cx
open Go Go.Cf
set_option linter.unusedVariables false
set_option maxRecDepth 100000
variable {B : Base} {As F : List HP}

def goodW (line : List UInt8) : Prop := (10 : UInt8) ∉ line ∧ ∀ w ∈ splitL 32 line, w ≠ []
def stepD (ws : List (List UInt8)) : Option StepV := match findW (wd ws 0) shapesL with
  | none => none
  | some (k, fs) => if ws.length = 1 + fs.length then readAll fs (ws.drop 1) { step0 with kind := k } else none
theorem readF_nil (f : UInt8) (s : StepV) : readF f [] s = none := by
  unfold readF
  repeat' split
  · rfl
  · rename_i h; exact absurd (by decide) h
  · rfl
  · rename_i h; exact absurd (by decide) h
  · rfl
  · rfl
  · rename_i h; exact absurd rfl h
  · rfl
theorem readAll_nil : ∀ {fs : List UInt8} {ws : List (List UInt8)} {s : StepV}, ws.length = fs.length → [] ∈ ws → readAll fs ws s = none
  | [], ws, s, h, hm => by
    have : ws = [] := List.length_eq_zero_iff.1 h
    subst this; cases hm
  | f :: fs, ws, s, h, hm => by
    match ws, h with
    | w :: ws, h =>
      simp only [readAll, List.headD_cons, List.drop_succ_cons, List.drop_zero]
      rcases List.mem_cons.1 hm with e | hm
      · rw [← e, readF_nil]; rfl
      · cases readF f w s with
        | none => rfl
        | some x => exact readAll_nil (by simpa using h) hm
theorem stepC_good {line : List UInt8} (h : goodW line) : stepC line = stepD (splitL 32 line) := by
  unfold stepC stepOfW stepD
  cases findW (wd (splitL 32 line) 0) shapesL with
  | none => rfl
  | some x =>
    obtain ⟨k, fs⟩ := x
    simp only
    by_cases hl : (splitL 32 line).length = 1 + fs.length
    · rw [if_pos ⟨hl, h.1⟩, if_pos hl]
    · rw [if_neg (fun e => hl e.1), if_neg hl]
theorem stepC_bad {line : List UInt8} (h : ¬ goodW line) : stepC line = none := by
  unfold stepC stepOfW
  cases hf : findW (wd (splitL 32 line) 0) shapesL with
  | none => rfl
  | some x =>
    obtain ⟨k, fs⟩ := x
    simp only
    split
    · rename_i hc
      have hne : [] ∈ splitL 32 line := by
        refine Classical.byContradiction fun hn => h ⟨hc.2, fun w hw e => hn (by rw [← e]; exact hw)⟩
      generalize splitL 32 line = ws at hf hc hne
      match ws, hc.1 with
      | w :: ws, hl =>
        rcases List.mem_cons.1 hne with e | hm
        · rw [show wd (w :: ws) 0 = w from rfl, ← e] at hf; cases hf
        · exact readAll_nil (by simpa [Nat.add_comm] using hl) hm
    · rfl

theorem words30_spec (line : List UInt8) (hs : line.length ≤ 1048576) : Ct Pr F_ref30_words [.string (BA line)] (.tup [none, none]) [.slice, .bool] [] emp
    (fun t Bs => ∃ l : List (List UInt8), Bs = [Ar Cf.ST t.1 (l.map BA)] ∧ ((goodW line ∧ t.2.1 = true ∧ l = splitL 32 line) ∨ (¬ goodW line ∧ t.2.1 = false))) := by
  refine spec2 c_ref30_words fun B hr => ?_
  unfold ref30_words
  have hsz := BA_size line
  rw [hsz]
  refine xnone Cf.ST ?_
  refine xuse [Ar Cf.ST ⟨none, 0, 0⟩ []] ?_
  refine xloop3 (fun m (w : ByteArray) (l : Sl) (i : Int) As' => ∃ (k f : Nat) (ws : List (List UInt8)), i = (k : Int) ∧ w = BA ((line.take k).drop f) ∧ m = line.length - k ∧ f ≤ k ∧ k ≤ line.length ∧ ws.length ≤ k ∧ splitL 32 line = ws ++ splitL 32 (line.drop f) ∧ (32 : UInt8) ∉ (line.take k).drop f ∧ (10 : UInt8) ∉ line.take k ∧ (∀ v ∈ ws, v ≠ []) ∧ As' = [Ar Cf.ST l (ws.map BA)]) line.length ⟨0, 0, [], rfl, rfl, rfl, by omega, by omega, by simp, rfl, by simp, by simp, by simp, rfl⟩ ?_
  rintro m w l i As' K ⟨k, f, ws, rfl, rfl, rfl, hfk, hk, hwl, hsp, hno, h10, hwn, rfl⟩ hK
  refine xif_dec (fun hp => ?_) (fun hp => ?_)
  · have hp : k < line.length := by omega
    obtain ⟨b, hb⟩ : ∃ b, line[k]? = some b := ⟨_, List.getElem?_eq_getElem hp⟩
    refine xjoin (xbyte (k := k) rfl (BA_at hb) ?_)
    rw [show ((b.toNat : Int) == 10) = (b == 10) from u8_eq (n := 10) (by decide), wrap_succ k (by omega)]
    refine xif (fun h => ?_) (fun h => ?_)
    · have h := eq_of_beq h
      subst h
      refine xdrop 0 (xnone Cf.ST (xret ⟨[], rfl, .inr ⟨fun hg => hg.1 (List.mem_of_getElem? hb), rfl⟩⟩))
    have hb10 : b ≠ 10 := beq_eq_false_iff_ne.1 h
    have h10' : (10 : UInt8) ∉ line.take (k + 1) := by
      rw [← take_snoc27 hb]
      simp only [List.mem_append, List.mem_singleton, not_or]
      exact ⟨h10, fun e => hb10 e.symm⟩
    refine xbyte (k := k) rfl (BA_at hb) ?_
    have e32 : ((b.toNat : Int) != 32) = !(b == 32) := by rw [bne, show ((b.toNat : Int) == 32) = (b == 32) from u8_eq (n := 32) (by decide)]
    rw [e32]
    have e1 : (line.take (k + 1)).drop f = (line.take k).drop f ++ [b] := by
      rw [← take_snoc27 hb, List.drop_append_of_le_length (by rw [List.length_take]; omega)]
    refine xif (fun h2 => ?_) (fun h2 => ?_)
    · have hb32 : b ≠ 32 := by simpa using h2
      refine xsub (i := k) (j := k + 1) rfl rfl (by omega) (by omega) ?_
      have e2 : (line.take (k + 1)).drop k = [b] := by
        rw [← take_snoc27 hb, List.drop_append_of_le_length (by rw [List.length_take]; omega), List.drop_of_length_le (by rw [List.length_take]; omega)]; rfl
      rw [e2, BA_app, BA_size, BA_size]
      refine xasrt (by simp; omega) ?_
      rw [← e1]
      exact hK (line.length - (k + 1)) _ _ _ _ (by omega) ⟨k + 1, f, ws, rfl, rfl, rfl, by omega, by omega, by omega, hsp, notin_step hfk hb hb32 hno, h10', hwn, rfl⟩
    · have hb32 : b = 32 := by simpa using h2
      subst hb32
      rw [BA_toList, empty_list]
      refine xif (fun h3 => ?_) (fun h3 => ?_)
      · have h3 := eq_of_beq h3
        refine xdrop 0 (xnone Cf.ST (xret ⟨[], rfl, .inr ⟨fun hg => hg.2 [] ?_ rfl, rfl⟩⟩))
        rw [hsp, words_step hfk hb hno, h3]; simp
      · have h3 := beq_eq_false_iff_ne.1 h3
        refine xnew fun b => ?_
        refine xapp1 (E := Cf.ST) (BA ((line.take k).drop f)) (hb := by simp; omega) (h := fun s2 => ?_)
        have e : ws.map BA ++ [BA ((line.take k).drop f)] = (ws ++ [(line.take k).drop f]).map BA := by simp
        rw [e]
        refine xuse [Ar Cf.ST s2 ((ws ++ [(line.take k).drop f]).map BA)] (hK (line.length - (k + 1)) _ _ _ _ (by omega) ⟨k + 1, k + 1, ws ++ [(line.take k).drop f], rfl, ?_, rfl, by omega, by omega, by simp; omega, ?_, notin_nil _, h10', ?_, rfl⟩)
        · rw [List.drop_of_length_le (by rw [List.length_take]; omega)]; rfl
        · rw [hsp, words_step hfk hb hno, List.append_assoc]; rfl
        · intro v hv
          rcases List.mem_append.1 hv with hv | hv
          · exact hwn v hv
          · rw [List.mem_singleton.1 hv]; exact h3
  · have hk' : k = line.length := by omega
    subst hk'
    refine xnew fun b => ?_
    refine xapp1 (E := Cf.ST) (BA ((line.take line.length).drop f)) (hb := by simp; omega) (h := fun s2 => ?_)
    have hall : splitL 32 line = ws ++ [(line.take line.length).drop f] := by
      rw [List.take_of_length_le (Nat.le_refl _)] at hno ⊢
      rw [hsp, splitL_none hno]
    have e : ws.map BA ++ [BA ((line.take line.length).drop f)] = (splitL 32 line).map BA := by rw [hall]; simp
    rw [e, BA_toList, empty_list]
    refine xuse [Ar Cf.ST s2 ((splitL 32 line).map BA)] (xret ⟨splitL 32 line, rfl, ?_⟩)
    rw [List.take_of_length_le (Nat.le_refl _)] at h10 hall ⊢
    by_cases h3 : line.drop f = []
    · refine .inr ⟨fun hg => hg.2 _ (by rw [hall]; simp) h3, by rw [h3]; rfl⟩
    · refine .inl ⟨⟨h10, fun v hv => ?_⟩, by rw [beq_eq_false_iff_ne.2 h3]; rfl, rfl⟩
      rw [hall] at hv
      rcases List.mem_append.1 hv with hv | hv
      · exact hwn v hv
      · rw [List.mem_singleton.1 hv]; exact h3

/-! Kinds of lines. -/
def fieldsK (k : Nat) : List UInt8 := ((shapesL[k]?).map (·.2.2)).getD []
def manyK (r : Int) : Int := if r = 7 ∨ r = 8 then 2 else if r = 9 then 3 else if r = 10 ∨ r = 11 then 4 else 1
theorem names_find (w : List UInt8) : (placeI namesW w = -1 ∧ findW w shapesL = none) ∨ ∃ k : Nat, k < 16 ∧ placeI namesW w = (k : Int) ∧ findW w shapesL = some ((k : Int) + 1, fieldsK k) := by
  by_cases h : w ∈ namesW
  · right
    simp only [namesW, shapesL, List.map_cons, List.map_nil, List.mem_cons, List.not_mem_nil, or_false] at h
    rcases h with rfl | rfl | rfl | rfl | rfl | rfl | rfl | rfl | rfl | rfl | rfl | rfl | rfl | rfl | rfl | rfl
    · exact ⟨0, by decide, by decide, by decide⟩
    · exact ⟨1, by decide, by decide, by decide⟩
    · exact ⟨2, by decide, by decide, by decide⟩
    · exact ⟨3, by decide, by decide, by decide⟩
    · exact ⟨4, by decide, by decide, by decide⟩
    · exact ⟨5, by decide, by decide, by decide⟩
    · exact ⟨6, by decide, by decide, by decide⟩
    · exact ⟨7, by decide, by decide, by decide⟩
    · exact ⟨8, by decide, by decide, by decide⟩
    · exact ⟨9, by decide, by decide, by decide⟩
    · exact ⟨10, by decide, by decide, by decide⟩
    · exact ⟨11, by decide, by decide, by decide⟩
    · exact ⟨12, by decide, by decide, by decide⟩
    · exact ⟨13, by decide, by decide, by decide⟩
    · exact ⟨14, by decide, by decide, by decide⟩
    · exact ⟨15, by decide, by decide, by decide⟩
  · left
    refine ⟨place_none h, ?_⟩
    cases e : findW w shapesL with
    | none => rfl
    | some x =>
      obtain ⟨k, fs⟩ := x
      have := (findW_cases e).2
      exact absurd (List.mem_map.2 ⟨_, this, rfl⟩) h
theorem kf_len : ∀ k : Nat, k < 16 → manyK ((k : Int) + 1) = ((fieldsK k).length : Int) := by decide
theorem kf_fs : ∀ k : Nat, k < 16 → (k = 6 ∨ k = 7 → fieldsK k = [119, 110]) ∧ (k = 8 → fieldsK k = [119, 110, 98]) ∧ (k = 9 → fieldsK k = [117, 107, 97, 110]) ∧ (k = 10 → fieldsK k = [105, 117, 97, 110]) ∧ (k = 11 → fieldsK k = [104]) ∧ (k = 14 → fieldsK k = [115]) := by decide
theorem kf_rest : ∀ k : Nat, k < 16 → (k ≠ 6 ∧ k ≠ 7 ∧ k ≠ 8 ∧ k ≠ 9 ∧ k ≠ 10 ∧ k ≠ 11 ∧ k ≠ 14) → fieldsK k = [110] := by decide
theorem many_spec (r : Int) : Ct Pr F_ref30_many [.int .i64 r] .one [.int .i64] [] emp (fun t Bs => t.1 = manyK r ∧ Bs = []) := by
  refine spec1 c_ref30_many fun B hr => ?_
  unfold ref30_many
  refine xjoin1 (fun (c : Bool) As' => As' = [] ∧ c = decide (r = 7 ∨ r = 8)) (fun K hK => ?_) ?_
  · refine xif (fun h => hK _ _ ⟨rfl, ?_⟩) (fun h => hK _ _ ⟨rfl, ?_⟩)
    · have := eq_of_beq h; subst this; rfl
    · have h : ¬ r = 7 := beq_eq_false_iff_ne.1 h
      simp [h]; rfl
  rintro c As2 ⟨rfl, rfl⟩
  refine xif_dec (fun h => xret ⟨by unfold manyK; rw [if_pos h], rfl⟩) (fun h => xif (fun h2 => xret ⟨?_, rfl⟩) (fun h2 => ?_))
  · unfold manyK; rw [if_neg h, if_pos (eq_of_beq h2)]
  have h2 : ¬ r = 9 := beq_eq_false_iff_ne.1 h2
  refine xjoin1 (fun (c : Bool) As' => As' = [] ∧ c = decide (r = 10 ∨ r = 11)) (fun K hK => ?_) ?_
  · refine xif (fun h => hK _ _ ⟨rfl, ?_⟩) (fun h => hK _ _ ⟨rfl, ?_⟩)
    · have := eq_of_beq h; subst this; rfl
    · have h : ¬ r = 10 := beq_eq_false_iff_ne.1 h
      simp [h]; rfl
  rintro c As2 ⟨rfl, rfl⟩
  refine xif_dec (fun h3 => xret ⟨?_, rfl⟩) (fun h3 => xret ⟨?_, rfl⟩)
  · unfold manyK; rw [if_neg h, if_neg h2, if_pos h3]
  · unfold manyK; rw [if_neg h, if_neg h2, if_neg h3]

/-- A step that was told, and whether it is one. -/
def StepU (t : Tup [.int .i64, .int .i64, .int .i64, .int .i64, .int .i64, .int .i64, .int .i64, .str, .slice, .bool]) (Bs : List HP) (o : Option StepV) : Prop :=
  ∃ (x : StepV) (sl : Sl) (c : Bool), t = (x.kind, x.num, x.way, x.bit, x.unit, x.addr, x.id, BA x.name, sl, c, ()) ∧ Bs = [Ar U8 sl x.bytes] ∧ c = o.isSome ∧ ∀ y, o = some y → x = y


/-- Words of a frozen slice. -/
theorem wsx {ws : List (List UInt8)} {w : List UInt8} {j : Nat} (hw : ws[j]? = some w) : (ws.map BA)[j]? = some (BA w) := by rw [List.getElem?_map, hw]; rfl
theorem xw {s : Sl} {ws : List (List UInt8)} {w : List UInt8} (j : Nat) {k : Int} {K : Addr → WP} [f : Fro B s Cf.ST (ws.map BA)] (hk : k = (j : Int)) (hw : ws[j]? = some w)
    (h : ∀ a, (∀ (As : List HP) (φ : ByteArray → WP), Ent B As (φ (BA w)) → Ent B As (XGet .str a fun (t : ByteArray) => φ t)) → (∀ (As : List HP) (φ : WP), Ent B As φ → Ent B As (XChk a (.string (BA w)) φ)) → Ent B As (K a)) : Ent B As (XIdx s.p s.n k 1 K) := by
  subst hk
  have hlt := (List.getElem?_eq_some_iff.1 hw).1
  refine xidxn (E := Cf.ST) (xs := ws.map BA) (s := s) (h1 := by rw [List.length_map]; exact hlt) (h := fun x hx => ?_)
  obtain rfl : x = BA w := by rw [wsx hw] at hx; exact (Option.some.inj hx).symm
  exact h _ (fun As φ hφ => xgetE (E := Cf.ST) (xs := ws.map BA) hx (h := hφ)) (fun As φ hφ => xchkE (E := Cf.ST) (xs := ws.map BA) hx (h := hφ))

theorem xfail {b : Nat} {post : Tup [.int .i64, .int .i64, .int .i64, .int .i64, .int .i64, .int .i64, .int .i64, .str, .slice, .bool] → List HP → Prop} {cs : List Value} {o : Option StepV} (hp : post = fun t Bs => StepU t Bs o) (ho : o = none) : Ent B As (Ret B post (0, 0, 0, 0, 0, 0, 0, ByteArray.empty, ⟨none, 0, 0⟩, false, ())) := by
  subst hp ho
  refine xnone U8 (xuse [Ar U8 ⟨none, 0, 0⟩ []] (xret ⟨step0, ⟨none, 0, 0⟩, false, rfl, rfl, rfl, fun y hy => by cases hy⟩))

theorem numsI_two {a b : List UInt8} : numsI [a, b] = (numI a).bind fun x => (numI b).map fun y => [x, y] := by
  simp only [numsI]
  cases numI a with
  | none => rfl
  | some x => cases numI b <;> rfl
theorem numsI_one {a : List UInt8} : numsI [a] = (numI a).map fun x => [x] := by
  simp only [numsI]
  cases numI a <;> rfl

theorem cut1 {s : Sl} {ws : List (List UInt8)} {g : Frag} (h : RAr Cf.ST s (ws.map BA) g) (h1 : 1 ≤ s.n) (hc : s.n ≤ s.c) : RAr Cf.ST (s.cut 1 s.n s.c 1) ((ws.drop 1).map BA) g := by
  have := h.cut 1 s.n s.c h1 hc (by rw [h.1]; exact Nat.le_refl _)
  have e2 : ((ws.map BA).take s.n).drop 1 = (ws.drop 1).map BA := by
    rw [List.take_of_length_le (by rw [h.1]; exact Nat.le_refl _), List.map_drop]
  rw [e2] at this
  exact this
theorem place_range {l : List (List UInt8)} {w : List UInt8} (h4 : l.length ≤ 16) : -1 ≤ placeI l w ∧ placeI l w ≤ 15 := by
  unfold placeI
  rcases placeFrom_get (w := w) (l := l) (i := 0) with h | ⟨k, h1, h2⟩
  · have : ∀ (l : List (List UInt8)) (i : Nat), -1 ≤ placeFrom i w l := by
      intro l
      induction l with
      | nil => intro i; simp [placeFrom]
      | cons x r ih => intro i; unfold placeFrom; split <;> first | omega | exact ih _
    exact ⟨this _ _, by omega⟩
  · have := (List.getElem?_eq_some_iff.1 h2).1
    omega

theorem readN {f : UInt8} {w : List UInt8} {s : StepV} (h : f ≠ 119 ∧ f ≠ 107 ∧ f ≠ 104 ∧ f ≠ 115 := by decide) : readF f w s = (numI w).map fun v => setF f v s := by
  unfold readF; rw [if_neg h.1, if_neg h.2.1, if_neg h.2.2.1, if_neg h.2.2.2]
theorem xelJ {s : Sl} {xs : List Int} {k : Int} (j : Nat) (x : Int) {K : Int → WP} [r : RdA B As s I64 xs] (hx : xs[j]? = some x) (hk : k = (j : Int) := by rfl) (h : Ent B As (K x)) : Ent B As (XIdx s.p s.n k 1 fun a => XGet (.int .i64) a fun (t : Int) => K t) := by
  subst hk
  refine xidxn (E := I64) (xs := xs) (s := s) (h1 := (List.getElem?_eq_some_iff.1 hx).1) (h := fun y hy => ?_)
  obtain rfl : y = x := by rw [hx] at hy; exact (Option.some.inj hy).symm
  exact xgetE (E := I64) (xs := xs) hy (h := h)

set_option maxHeartbeats 1000000 in
theorem spoiled_spec (s : Sl) (kd : Int) (ws : List (List UInt8)) (fs : List UInt8) (hf : (fs = [119, 110] ∧ ws.length = 2) ∨ (fs = [119, 110, 98] ∧ ws.length = 3)) (hm : ∀ w ∈ ws, w.length ≤ 1048576) (hsc : s.n ≤ s.c) :
    Ct Pr F_ref30_spoiled [.int .i64 kd, s.v] (.tup [some 9, none]) [.int .i64, .int .i64, .int .i64, .int .i64, .int .i64, .int .i64, .int .i64, .str, .slice, .bool] [] (RAr Cf.ST s (ws.map BA))
    (fun t Bs => StepU t Bs (readAll fs ws { step0 with kind := kd })) := by
  refine spec10 c_ref30_spoiled fun B hr => ?_
  haveI : Fro B s Cf.ST (ws.map BA) := ⟨hr⟩
  have hsl : (ws.map BA).length = s.n := hr.1
  rw [List.length_map] at hsl
  have hlen : 2 ≤ ws.length ∧ ws.length ≤ 3 := by rcases hf with ⟨_, h⟩ | ⟨_, h⟩ <;> omega
  unfold ref30_spoiled
  refine xnew fun b => ?_
  obtain ⟨w0, hw0⟩ : ∃ w, ws[0]? = some w := ⟨_, List.getElem?_eq_getElem (by omega)⟩
  refine xdraw (xw 0 rfl hw0 fun a hget hchk => hget _ _ ?_)
  refine xcall0 ways30_spec rdb ?_
  rintro ⟨s1, _⟩ _ ⟨rfl, hs1⟩
  refine app1 (ca1 (hchk _ _ ?_))
  refine xcall0 (place30_spec s1 waysW w0 (by decide)) rdb ?_
  rintro ⟨(r : Int), _⟩ _ ⟨hr0, rfl⟩
  have hr0 : r = placeI waysW w0 + 1 := hr0
  refine app0 (ca1 ?_)
  refine xslc (by decide) (by omega) (by omega) (Int.le_refl _) ?_
  rw [show (1 : Int).toNat = 1 from rfl, Int.toNat_natCast, Int.toNat_natCast]
  haveI : Fro B (s.cut 1 s.n s.c 1) Cf.ST ((ws.drop 1).map BA) := ⟨cut1 hr (by omega) hsc⟩
  refine xcall0 (all30_spec (s.cut 1 s.n s.c 1) (ws.drop 1) (fun w hw => by have := hm w (List.mem_of_mem_drop hw); omega) (by rw [List.length_drop]; omega)) rdb ?_
  have hpl := place_range (l := waysW) (w := w0) (by decide)
  have hd : ws = w0 :: ws.drop 1 := by
    match ws, hw0 with
    | x :: r, h => simp at h; subst h; rfl
  have hws0 : readF 119 w0 { step0 with kind := kd } = if placeI waysW w0 < 0 then none else some { ({ step0 with kind := kd } : StepV) with way := placeI waysW w0 + 1 } := by
    unfold readF; rw [if_pos rfl]
  rintro ⟨s2, c, _⟩ _ (⟨h1, hc, rfl⟩ | ⟨vs, h1, hc, rfl⟩)
  · obtain rfl : c = false := hc
    refine app0 (ca2 (xift (by simp) ?_))
    iterate 9 (refine xset (h := ?_))
    iterate 8 (refine xget (h := ?_))
    refine xget (s := .slice) (x := ⟨none, 0, 0⟩) (h := ?_)
    refine xfail (b := b) (cs := []) rfl ?_
    rcases hf with ⟨rfl, hl⟩ | ⟨rfl, hl⟩
    · match ws, hl with
      | [x, y], _ =>
        simp only [List.drop_succ_cons, List.drop_zero, numsI_one] at h1
        have hy : numI y = none := by simpa using h1
        simp only [readAll, List.headD_cons, List.drop_succ_cons, List.drop_zero]
        cases readF 119 x { step0 with kind := kd } with
        | none => rfl
        | some u =>
          simp only [Option.bind_some]
          rw [readN (f := 110), hy]; rfl
    · match ws, hl with
      | [x, y, z], _ =>
        simp only [List.drop_succ_cons, List.drop_zero, numsI_two] at h1
        simp only [readAll, List.headD_cons, List.drop_succ_cons, List.drop_zero]
        cases readF 119 x { step0 with kind := kd } with
        | none => rfl
        | some u =>
          simp only [Option.bind_some]
          rw [readN (f := 110)]
          cases hy : numI y with
          | none => rfl
          | some v =>
            rw [hy] at h1
            have hz : numI z = none := by simpa using h1
            simp only [Option.map_some, Option.bind_some]
            rw [readN (f := 98), hz]; rfl
  · obtain rfl : c = true := hc
    refine app1 (ca2 ?_)
    rw [Bool.not_true, Bool.or_false]
    refine xif (fun hz => ?_) (fun hz => ?_)
    · have hz : r = 0 := eq_of_beq hz
      iterate 9 (refine xset (h := ?_))
      iterate 8 (refine xget (h := ?_))
      refine xget (s := .slice) (x := ⟨none, 0, 0⟩) (h := ?_)
      refine xfail (b := b) (cs := []) rfl ?_
      rw [if_pos (by omega)] at hws0
      rw [hd]
      rcases hf with ⟨rfl, hl⟩ | ⟨rfl, hl⟩ <;> (simp only [readAll, List.headD_cons]; rw [hws0]; rfl)
    have hz : ¬ r = 0 := beq_eq_false_iff_ne.1 hz
    rw [if_neg (by omega)] at hws0
    rcases hf with ⟨rfl, hl⟩ | ⟨rfl, hl⟩
    · match ws, hl with
      | [x, y], _ =>
        obtain rfl : x = w0 := by simpa using hw0
        simp only [List.drop_succ_cons, List.drop_zero, numsI_one] at h1
        obtain ⟨v, hv, rfl⟩ := Option.map_eq_some_iff.1 h1
        have hres : readAll [119, 110] [x, y] { step0 with kind := kd } = some { ({ step0 with kind := kd } : StepV) with way := r, num := v } := by
          simp only [readAll, List.headD_cons, List.drop_succ_cons, List.drop_zero]
          rw [hws0]
          simp only [Option.bind_some]
          rw [readN (f := 110), hv, hr0]; rfl
        refine xlen s2 (fun hsl2 _ => ?_)
        refine xelJ 0 v rfl (h := ?_)
        refine xnew fun b1 => ?_
        iterate 9 (refine xset (h := ?_))
        refine xjoin (xiff (by rw [← hsl2]; rfl) ?_)
        iterate 8 (refine xget (h := ?_))
        refine xget (s := .slice) (x := ⟨none, 0, 0⟩) (h := ?_)
        iterate 9 (refine xset (h := ?_))
        iterate 8 (refine xget (h := ?_))
        refine xget (s := .slice) (x := ⟨none, 0, 0⟩) (h := ?_)
        refine xnone U8 (xuse [Ar U8 ⟨none, 0, 0⟩ []] (xret ⟨{ ({ step0 with kind := kd } : StepV) with way := r, num := v }, ⟨none, 0, 0⟩, true, rfl, rfl, by rw [hres]; rfl, fun y hy => by rw [hres] at hy; exact Option.some.inj hy⟩))
    · match ws, hl with
      | [x, y, z], _ =>
        obtain rfl : x = w0 := by simpa using hw0
        simp only [List.drop_succ_cons, List.drop_zero, numsI_two] at h1
        obtain ⟨v, hv, h1⟩ := bindS h1
        obtain ⟨u, hu, rfl⟩ := Option.map_eq_some_iff.1 h1
        have hres : readAll [119, 110, 98] [x, y, z] { step0 with kind := kd } = some { ({ step0 with kind := kd } : StepV) with way := r, num := v, bit := u } := by
          simp only [readAll, List.headD_cons, List.drop_succ_cons, List.drop_zero]
          rw [hws0]
          simp only [Option.bind_some]
          rw [readN (f := 110), hv]
          simp only [Option.map_some, Option.bind_some]
          rw [readN (f := 98), hu, hr0]; rfl
        refine xlen s2 (fun hsl2 _ => ?_)
        refine xelJ 0 v rfl (h := ?_)
        refine xnew fun b1 => ?_
        iterate 9 (refine xset (h := ?_))
        refine xjoin (xift (by rw [← hsl2]; rfl) ?_)
        refine xelJ 1 u rfl (h := ?_)
        refine xset (h := ?_)
        iterate 8 (refine xget (h := ?_))
        refine xget (s := .slice) (x := ⟨none, 0, 0⟩) (h := ?_)
        iterate 9 (refine xset (h := ?_))
        iterate 8 (refine xget (h := ?_))
        refine xget (s := .slice) (x := ⟨none, 0, 0⟩) (h := ?_)
        refine xnone U8 (xuse [Ar U8 ⟨none, 0, 0⟩ []] (xret ⟨{ ({ step0 with kind := kd } : StepV) with way := r, num := v, bit := u }, ⟨none, 0, 0⟩, true, rfl, rfl, by rw [hres]; rfl, fun y hy => by rw [hres] at hy; exact Option.some.inj hy⟩))

theorem numsI_three {a b c : List UInt8} : numsI [a, b, c] = (numI a).bind fun x => (numI b).bind fun y => (numI c).map fun z => [x, y, z] := by
  simp only [numsI]
  cases numI a with
  | none => rfl
  | some x =>
    cases numI b with
    | none => rfl
    | some y => cases numI c <;> rfl
theorem numsI_four {a b c d : List UInt8} : numsI [a, b, c, d] = (numI a).bind fun x => (numI b).bind fun y => (numI c).bind fun z => (numI d).map fun u => [x, y, z, u] := by
  simp only [numsI]
  cases numI a with
  | none => rfl
  | some x =>
    cases numI b with
    | none => rfl
    | some y =>
      cases numI c with
      | none => rfl
      | some z => cases numI d <;> rfl

theorem set_read (a b c d : List UInt8) (kd : Int) : readAll [117, 107, 97, 110] [a, b, c, d] { step0 with kind := kd } =
    if placeI kindsW b < 0 then none else (numsI [a, c, d]).bind fun vs => match vs with
      | [x, y, z] => some { ({ step0 with kind := kd } : StepV) with unit := x, bit := placeI kindsW b + 1, addr := y, num := z }
      | _ => none := by
  rw [numsI_three]
  simp only [readAll, List.headD_cons, List.drop_succ_cons, List.drop_zero]
  rw [readN (f := 117)]
  have h107 : ∀ s, readF 107 b s = if placeI kindsW b < 0 then none else some { s with bit := placeI kindsW b + 1 } := by
    intro s; unfold readF; rw [if_neg (by decide), if_pos rfl]
  cases numI a with
  | none => simp only [Option.map_none, Option.bind_none, ite_self]
  | some x =>
    simp only [Option.map_some, Option.bind_some, h107]
    split
    · rfl
    simp only [Option.bind_some]
    rw [readN (f := 97)]
    cases numI c with
    | none => rfl
    | some y =>
      simp only [Option.map_some, Option.bind_some]
      rw [readN (f := 110)]
      cases numI d with
      | none => rfl
      | some z => rfl
theorem cmd_read (a b c d : List UInt8) (kd : Int) : readAll [105, 117, 97, 110] [a, b, c, d] { step0 with kind := kd } =
    (numsI [a, b, c, d]).bind fun vs => match vs with
      | [x, y, z, u] => some { ({ step0 with kind := kd } : StepV) with id := x, unit := y, addr := z, num := u }
      | _ => none := by
  rw [numsI_four]
  simp only [readAll, List.headD_cons, List.drop_succ_cons, List.drop_zero]
  rw [readN (f := 105)]
  cases numI a with
  | none => rfl
  | some x =>
    simp only [Option.map_some, Option.bind_some]
    rw [readN (f := 117)]
    cases numI b with
    | none => rfl
    | some y =>
      simp only [Option.map_some, Option.bind_some]
      rw [readN (f := 97)]
      cases numI c with
      | none => rfl
      | some z =>
        simp only [Option.map_some, Option.bind_some]
        rw [readN (f := 110)]
        cases numI d <;> rfl

set_option maxHeartbeats 1000000 in
theorem four_spec (s : Sl) (kd : Int) (ws : List (List UInt8)) (fs : List UInt8) (hf : (fs = [117, 107, 97, 110] ∧ kd = 10) ∨ (fs = [105, 117, 97, 110] ∧ kd = 11)) (hl4 : ws.length = 4) (hm : ∀ w ∈ ws, w.length ≤ 1048576) (hsc : s.n ≤ s.c) :
    Ct Pr F_ref30_four [.int .i64 kd, s.v] (.tup [some 9, none]) [.int .i64, .int .i64, .int .i64, .int .i64, .int .i64, .int .i64, .int .i64, .str, .slice, .bool] [] (RAr Cf.ST s (ws.map BA))
    (fun t Bs => StepU t Bs (readAll fs ws { step0 with kind := kd })) := by
  refine spec10 c_ref30_four fun B hr => ?_
  haveI : Fro B s Cf.ST (ws.map BA) := ⟨hr⟩
  have hsl : (ws.map BA).length = s.n := hr.1
  rw [List.length_map] at hsl
  match ws, hl4 with
  | [wa, wb, wc, wd'], _ =>
  unfold ref30_four
  refine xnew fun b => ?_
  have hml : ∀ w ∈ [wa, wb, wc, wd'], w.length ≤ 4611686018427387904 := fun w hw => by have := hm w hw; omega
  rcases hf with ⟨rfl, rfl⟩ | ⟨rfl, rfl⟩
  · refine xift rfl ?_
    rw [set_read]
    refine xdraw (xw 1 rfl rfl fun a hget hchk => hget _ _ ?_)
    refine xcall0 kinds30_spec rdb ?_
    rintro ⟨s1, _⟩ _ ⟨rfl, hs1⟩
    refine app1 (ca1 (hchk _ _ ?_))
    refine xcall0 (place30_spec s1 kindsW wb (by decide)) rdb ?_
    rintro ⟨(r : Int), _⟩ _ ⟨hr0, rfl⟩
    have hr0 : r = placeI kindsW wb + 1 := hr0
    have hpl := place_range (l := kindsW) (w := wb) (by decide)
    refine app0 (ca1 (xdraw ?_))
    refine xw 0 rfl rfl fun a0 hg0 hc0 => hg0 _ _ ?_
    refine xw 2 rfl rfl fun a2 hg2 hc2 => hg2 _ _ ?_
    refine xw 3 rfl rfl fun a3 hg3 hc3 => hg3 _ _ ?_
    refine xnew fun b1 => ?_
    refine xfold1 (Q := Ar Cf.ST ⟨some ⟨b1, 0, none⟩, 3, 3⟩ ([wa, wc, wd'].map BA)) 0 (fun g hg => ⟨[], blk_ar (E := Cf.ST) ([wa, wc, wd'].map BA) 3 rfl rfl hg⟩) ?_
    refine xcall0 (all30_spec ⟨some ⟨b1, 0, none⟩, 3, 3⟩ [wa, wc, wd'] (fun w hw => hml w (by simp at hw ⊢; rcases hw with h | h | h <;> simp [h])) (by simp)) rdb ?_
    rintro ⟨s2, c, _⟩ _ (⟨h1, hc, rfl⟩ | ⟨vs, h1, hc, rfl⟩)
    · obtain rfl : c = false := hc
      refine app0 (ca2 (xift (by simp) ?_))
      iterate 9 (refine xset (h := ?_))
      iterate 8 (refine xget (h := ?_))
      refine xget (s := .slice) (x := ⟨none, 0, 0⟩) (h := ?_)
      refine xfail (b := b) (cs := []) rfl ?_
      rw [h1]; simp
    · obtain rfl : c = true := hc
      refine app1 (ca2 ?_)
      rw [Bool.not_true, Bool.or_false]
      refine xif (fun hz => ?_) (fun hz => ?_)
      · have hz : r = 0 := eq_of_beq hz
        iterate 9 (refine xset (h := ?_))
        iterate 8 (refine xget (h := ?_))
        refine xget (s := .slice) (x := ⟨none, 0, 0⟩) (h := ?_)
        refine xfail (b := b) (cs := []) rfl ?_
        rw [if_pos (by omega)]
      have hz : ¬ r = 0 := beq_eq_false_iff_ne.1 hz
      rw [if_neg (by omega), h1, ← hr0]
      have h3 := (numsI_some h1).1
      match vs, h3 with
      | [x, y, z], _ =>
        refine xdraw (xelJ 0 x rfl (h := ?_))
        refine xelJ 1 y rfl (h := ?_)
        refine xelJ 2 z rfl (h := ?_)
        iterate 9 (refine xset (h := ?_))
        iterate 8 (refine xget (h := ?_))
        refine xget (s := .slice) (x := ⟨none, 0, 0⟩) (h := ?_)
        refine xnone U8 (xuse [Ar U8 ⟨none, 0, 0⟩ []] (xret ⟨{ ({ step0 with kind := 10 } : StepV) with unit := x, bit := r, addr := y, num := z }, ⟨none, 0, 0⟩, true, rfl, rfl, rfl, fun y hy => Option.some.inj hy⟩))
  · refine xiff rfl ?_
    rw [cmd_read]
    refine xcall0 (all30_spec s [wa, wb, wc, wd'] hml (by simp)) rdb ?_
    rintro ⟨s2, c, _⟩ _ (⟨h1, hc, rfl⟩ | ⟨vs, h1, hc, rfl⟩)
    · obtain rfl : c = false := hc
      refine app0 (ca2 (xift rfl ?_))
      iterate 9 (refine xset (h := ?_))
      iterate 8 (refine xget (h := ?_))
      refine xget (s := .slice) (x := ⟨none, 0, 0⟩) (h := ?_)
      refine xfail (b := b) (cs := []) rfl ?_
      rw [h1]; rfl
    · obtain rfl : c = true := hc
      refine app1 (ca2 (xiff rfl ?_))
      rw [h1]
      have h3 := (numsI_some h1).1
      match vs, h3 with
      | [x, y, z, u], _ =>
        refine xdraw (xelJ 0 x rfl (h := ?_))
        refine xelJ 1 y rfl (h := ?_)
        refine xelJ 2 z rfl (h := ?_)
        refine xelJ 3 u rfl (h := ?_)
        iterate 9 (refine xset (h := ?_))
        iterate 8 (refine xget (h := ?_))
        refine xget (s := .slice) (x := ⟨none, 0, 0⟩) (h := ?_)
        refine xnone U8 (xuse [Ar U8 ⟨none, 0, 0⟩ []] (xret ⟨{ ({ step0 with kind := 11 } : StepV) with id := x, unit := y, addr := z, num := u }, ⟨none, 0, 0⟩, true, rfl, rfl, rfl, fun y hy => Option.some.inj hy⟩))

end Go.Cx

namespace Go.Cx
open Go Go.Cf
set_option linter.unusedVariables false
set_option maxRecDepth 100000
variable {B : Base} {As F : List HP}

set_option maxHeartbeats 2000000 in
theorem step30_spec (s : Sl) (ws : List (List UInt8)) (hne : ws ≠ []) (hall : ∀ w ∈ ws, w ≠ []) (hm : ∀ w ∈ ws, w.length ≤ 1048576) (hwl : ws.length ≤ 1048577) (hsc : s.n ≤ s.c) :
    Ct Pr F_ref30_step [s.v] (.tup [some 9, none]) [.int .i64, .int .i64, .int .i64, .int .i64, .int .i64, .int .i64, .int .i64, .str, .slice, .bool] [] (RAr Cf.ST s (ws.map BA))
    (fun t Bs => StepU t Bs (stepD ws)) := by
  refine spec10 c_ref30_step fun B hr => ?_
  haveI : Fro B s Cf.ST (ws.map BA) := ⟨hr⟩
  have hsl : (ws.map BA).length = s.n := hr.1
  rw [List.length_map] at hsl
  have hpos : 0 < ws.length := List.length_pos_iff.2 hne
  unfold ref30_step
  refine xnew fun b => ?_
  obtain ⟨w0, hw0⟩ : ∃ w, ws[0]? = some w := ⟨_, List.getElem?_eq_getElem hpos⟩
  have hwd : wd ws 0 = w0 := by unfold wd; rw [hw0]; rfl
  have hd : ws = w0 :: ws.drop 1 := by
    match ws, hw0 with
    | x :: r, h => simp at h; subst h; rfl
  refine xdraw (xw 0 rfl hw0 fun a hget hchk => hget _ _ ?_)
  refine xcall0 Names_spec rdb ?_
  rintro ⟨s1, _⟩ _ ⟨rfl, hs1⟩
  refine app1 (ca1 (hchk _ _ ?_))
  refine xcall0 (place30_spec s1 namesW w0 (by decide)) rdb ?_
  rintro ⟨(r : Int), _⟩ _ ⟨hr0, rfl⟩
  have hr0 : r = placeI namesW w0 + 1 := hr0
  refine app0 (ca1 ?_)
  refine xuse [Blk b [.int .i64 0, .int .i64 0, .int .i64 0, .int .i64 0, .int .i64 0, .int .i64 0, .int .i64 0, .string ByteArray.empty, .slice none 0 0]] ?_
  refine xjoin1 (fun (c : Bool) As' => c = (decide (r = 0) || !(decide ((ws.length : Int) = 1 + manyK r))) ∧ As' = [Blk b [.int .i64 0, .int .i64 0, .int .i64 0, .int .i64 0, .int .i64 0, .int .i64 0, .int .i64 0, .string ByteArray.empty, .slice none 0 0]]) (fun K hK => ?_) ?_
  · refine xif (fun h => hK _ _ ⟨?_, rfl⟩) (fun h => ?_)
    · have := eq_of_beq h; rw [decide_eq_true this]; rfl
    · have h : ¬ r = 0 := beq_eq_false_iff_ne.1 h
      refine xcall0 (many_spec r) rdb ?_
      rintro ⟨(m : Int), _⟩ _ ⟨hmk, rfl⟩
      obtain rfl : m = manyK r := hmk
      have hmr : 0 ≤ manyK r ∧ manyK r ≤ 4 := by unfold manyK; repeat' split <;> omega
      refine app0 (ca1 (hK _ _ ⟨?_, rfl⟩))
      rw [decide_eq_false h, Bool.false_or, wrap_id _ (by omega) (by omega), Bool.eq_iff_iff]
      simp only [bne_iff_ne, ne_eq, Bool.not_eq_true', decide_eq_false_iff_not]
      omega
  rintro c As2 ⟨rfl, rfl⟩
  have hfind := names_find w0
  refine xif (fun hc => ?_) (fun hc => ?_)
  · iterate 9 (refine xset (h := ?_))
    iterate 8 (refine xget (h := ?_))
    refine xget (s := .slice) (x := ⟨none, 0, 0⟩) (h := ?_)
    refine xfail (b := b) (cs := []) rfl ?_
    unfold stepD
    rw [hwd]
    rcases hfind with ⟨_, hf⟩ | ⟨k, hk, hp, hf⟩
    · rw [hf]
    · rw [hf]
      simp only
      have h1 : ¬ r = 0 := by omega
      rw [decide_eq_false h1, Bool.false_or, hr0, hp, kf_len k hk] at hc
      rw [if_neg (fun e => by rw [e] at hc; simp at hc)]
  simp only [Bool.or_eq_false_iff, decide_eq_false_iff_not, Bool.not_eq_false', decide_eq_true_eq] at hc
  obtain ⟨hr1, hlen⟩ := hc
  obtain ⟨k, hk, hp, hf⟩ : ∃ k : Nat, k < 16 ∧ placeI namesW w0 = (k : Int) ∧ findW w0 shapesL = some ((k : Int) + 1, fieldsK k) := by
    rcases hfind with ⟨h, _⟩ | h
    · omega
    · exact h
  have hrk : r = (k : Int) + 1 := by omega
  rw [hrk, kf_len k hk] at hlen
  have hlen : ws.length = 1 + (fieldsK k).length := by omega
  have hres : stepD ws = readAll (fieldsK k) (ws.drop 1) { step0 with kind := r } := by
    unfold stepD
    rw [hwd, hf]
    simp only
    rw [if_pos hlen, hrk]
  rw [hres]
  have hkf := kf_fs k hk
  have hcut : RAr Cf.ST (s.cut 1 s.n s.c 1) ((ws.drop 1).map BA) (frz B.W B.h0) := cut1 hr (by omega) hsc
  have hm1 : ∀ w ∈ ws.drop 1, w.length ≤ 1048576 := fun w hw => hm w (List.mem_of_mem_drop hw)
  have hcutc : (s.cut 1 s.n s.c 1).n ≤ (s.cut 1 s.n s.c 1).c := by show s.n - 1 ≤ s.c - 1; omega
  refine xjoin1 (fun (c : Bool) As' => c = decide (k = 6 ∨ k = 7 ∨ k = 8) ∧ As' = [Blk b [.int .i64 0, .int .i64 0, .int .i64 0, .int .i64 0, .int .i64 0, .int .i64 0, .int .i64 0, .string ByteArray.empty, .slice none 0 0]]) (fun K hK => ?_) ?_
  · refine xif (fun h => hK _ _ ⟨?_, rfl⟩) (fun h => xjoin (xif (fun h2 => hK _ _ ⟨?_, rfl⟩) (fun h2 => hK _ _ ⟨?_, rfl⟩)))
    · rw [h]; have := eq_of_beq h; rw [decide_eq_true (by omega)]
    · rw [h2]; have := eq_of_beq h2; rw [decide_eq_true (by omega)]
    · have h : ¬ r = 7 := beq_eq_false_iff_ne.1 h
      have h2 : ¬ r = 8 := beq_eq_false_iff_ne.1 h2
      rw [Bool.eq_iff_iff]
      simp only [beq_iff_eq, decide_eq_true_eq]
      omega
  rintro c As2 ⟨rfl, rfl⟩
  refine xif_dec (fun h678 => ?_) (fun h678 => ?_)
  · refine xslc (by decide) (by omega) (by omega) (Int.le_refl _) ?_
    rw [show (1 : Int).toNat = 1 from rfl, Int.toNat_natCast, Int.toNat_natCast]
    haveI : Fro B (s.cut 1 s.n s.c 1) Cf.ST ((ws.drop 1).map BA) := ⟨hcut⟩
    refine xcall0 (spoiled_spec (s.cut 1 s.n s.c 1) r (ws.drop 1) (fieldsK k) ?_ hm1 hcutc) rdb ?_
    · rcases h678 with h | h | h
      · have e := hkf.1 (.inl h); rw [e] at hlen ⊢; exact .inl ⟨rfl, by rw [List.length_drop, hlen]; rfl⟩
      · have e := hkf.1 (.inr h); rw [e] at hlen ⊢; exact .inl ⟨rfl, by rw [List.length_drop, hlen]; rfl⟩
      · have e := hkf.2.1 h; rw [e] at hlen ⊢; exact .inr ⟨rfl, by rw [List.length_drop, hlen]; rfl⟩
    rintro _ _ ⟨x, sl, c, rfl, rfl, hc1, hc2⟩
    refine app1 (ca10 ?_)
    iterate 9 (refine xset (h := ?_))
    iterate 8 (refine xget (h := ?_))
    refine xget (s := .slice) (x := sl) (h := ?_)
    exact xuse [Ar U8 sl x.bytes] (xret ⟨x, sl, c, rfl, rfl, hc1, hc2⟩)
  refine xjoin1 (fun (c : Bool) As' => c = decide (k = 9 ∨ k = 10) ∧ As' = [Blk b [.int .i64 0, .int .i64 0, .int .i64 0, .int .i64 0, .int .i64 0, .int .i64 0, .int .i64 0, .string ByteArray.empty, .slice none 0 0]]) (fun K hK => ?_) ?_
  · refine xif (fun h => hK _ _ ⟨?_, rfl⟩) (fun h => hK _ _ ⟨?_, rfl⟩)
    · rw [h]; have := eq_of_beq h; rw [decide_eq_true (by omega)]
    · have h : ¬ r = 10 := beq_eq_false_iff_ne.1 h
      rw [Bool.eq_iff_iff]
      simp only [beq_iff_eq, decide_eq_true_eq]
      omega
  rintro c As2 ⟨rfl, rfl⟩
  refine xif_dec (fun h910 => ?_) (fun h910 => ?_)
  · refine xslc (by decide) (by omega) (by omega) (Int.le_refl _) ?_
    rw [show (1 : Int).toNat = 1 from rfl, Int.toNat_natCast, Int.toNat_natCast]
    haveI : Fro B (s.cut 1 s.n s.c 1) Cf.ST ((ws.drop 1).map BA) := ⟨hcut⟩
    have hff : (fieldsK k = [117, 107, 97, 110] ∧ r = 10) ∨ (fieldsK k = [105, 117, 97, 110] ∧ r = 11) := by
      rcases h910 with h | h
      · exact .inl ⟨hkf.2.2.1 h, by omega⟩
      · exact .inr ⟨hkf.2.2.2.1 h, by omega⟩
    have h4 : (ws.drop 1).length = 4 := by
      rw [List.length_drop, hlen]
      rcases hff with ⟨h, _⟩ | ⟨h, _⟩ <;> (rw [h]; rfl)
    refine xcall0 (four_spec (s.cut 1 s.n s.c 1) r (ws.drop 1) (fieldsK k) hff h4 hm1 hcutc) rdb ?_
    rintro _ _ ⟨x, sl, c, rfl, rfl, hc1, hc2⟩
    refine app1 (ca10 ?_)
    iterate 9 (refine xset (h := ?_))
    iterate 8 (refine xget (h := ?_))
    refine xget (s := .slice) (x := sl) (h := ?_)
    exact xuse [Ar U8 sl x.bytes] (xret ⟨x, sl, c, rfl, rfl, hc1, hc2⟩)
  have h1l : (fieldsK k).length = 1 := by
    by_cases h : k = 11
    · rw [hkf.2.2.2.2.1 h]; rfl
    · by_cases h' : k = 14
      · rw [hkf.2.2.2.2.2 h']; rfl
      · rw [kf_rest k hk (by omega)]; rfl
  obtain ⟨w1, hw1⟩ : ∃ w, ws[1]? = some w := ⟨_, List.getElem?_eq_getElem (by omega)⟩
  have hd1 : ws.drop 1 = [w1] := by
    match ws, hw1, hlen with
    | [x, y], h, _ => simp at h; subst h; rfl
    | x :: y :: z :: r, h, hl => simp at hl; omega
    | [x], h, hl => cases h
  have hmem : w1 ∈ ws := List.mem_of_getElem? hw1
  have hw1n : w1 ≠ [] := hall w1 hmem
  have hw1l : w1.length ≤ 1048576 := hm w1 hmem
  rw [hd1]
  refine xif (fun h12 => ?_) (fun h12 => ?_)
  · have h12 : r = 12 := eq_of_beq h12
    refine xw 1 rfl hw1 fun a1 hg1 hc1 => hg1 _ _ ?_
    refine xcall0 (bytes30_spec w1 hw1n (by omega)) rdb ?_
    rintro ⟨sl, c, _⟩ _ ⟨hc, l, hl2, rfl⟩
    have hc : c = (bytesV w1).isSome := hc
    refine app1 (ca2 ?_)
    iterate 9 (refine xset (h := ?_))
    iterate 8 (refine xget (h := ?_))
    refine xget (s := .slice) (x := sl) (h := ?_)
    have e : readAll (fieldsK k) [w1] { step0 with kind := r } = (bytesV w1).map fun l => { ({ step0 with kind := r } : StepV) with bytes := l } := by
      rw [hkf.2.2.2.2.1 (by omega)]
      simp only [readAll, List.headD_cons]
      unfold readF
      rw [if_neg (by decide), if_neg (by decide), if_pos rfl]
      cases bytesV w1 <;> rfl
    rw [e]
    refine xuse [Ar U8 sl l] (xret ⟨{ ({ step0 with kind := r } : StepV) with bytes := l }, sl, c, rfl, rfl, ?_, fun y hy => ?_⟩)
    · rw [hc]; cases bytesV w1 <;> rfl
    · obtain ⟨z, hz, rfl⟩ := Option.map_eq_some_iff.1 hy
      rw [hl2 z hz]
  have h12 : ¬ r = 12 := beq_eq_false_iff_ne.1 h12
  refine xif (fun h15 => ?_) (fun h15 => ?_)
  · have h15 : r = 15 := eq_of_beq h15
    refine xw 1 rfl hw1 fun a1 hg1 hc1 => hg1 _ _ ?_
    iterate 9 (refine xset (h := ?_))
    iterate 8 (refine xget (h := ?_))
    refine xget (s := .slice) (x := ⟨none, 0, 0⟩) (h := ?_)
    have e : readAll (fieldsK k) [w1] { step0 with kind := r } = some { ({ step0 with kind := r } : StepV) with name := w1 } := by
      rw [hkf.2.2.2.2.2 (by omega)]
      simp only [readAll, List.headD_cons]
      unfold readF
      rw [if_neg (by decide), if_neg (by decide), if_neg (by decide), if_pos rfl, if_neg hw1n]; rfl
    rw [e]
    refine xnone U8 (xuse [Ar U8 ⟨none, 0, 0⟩ []] (xret ⟨{ ({ step0 with kind := r } : StepV) with name := w1 }, ⟨none, 0, 0⟩, true, rfl, rfl, rfl, fun y hy => Option.some.inj hy⟩))
  have h15 : ¬ r = 15 := beq_eq_false_iff_ne.1 h15
  refine xw 1 rfl hw1 fun a1 hg1 hc1 => hg1 _ _ ?_
  refine xcall0 (number30_spec w1 (by omega)) rdb ?_
  rintro ⟨(v : Int), c, _⟩ _ ⟨hc, hv, rfl⟩
  have hc : c = (numI w1).isSome := hc
  have hv : ∀ x, numI w1 = some x → v = x := hv
  refine app0 (ca2 ?_)
  iterate 9 (refine xset (h := ?_))
  iterate 8 (refine xget (h := ?_))
  refine xget (s := .slice) (x := ⟨none, 0, 0⟩) (h := ?_)
  have e : readAll (fieldsK k) [w1] { step0 with kind := r } = (numI w1).map fun v => { ({ step0 with kind := r } : StepV) with num := v } := by
    rw [kf_rest k hk (by omega)]
    simp only [readAll, List.headD_cons]
    rw [readN (f := 110)]
    cases numI w1 <;> rfl
  rw [e]
  refine xnone U8 (xuse [Ar U8 ⟨none, 0, 0⟩ []] (xret ⟨{ ({ step0 with kind := r } : StepV) with num := v }, ⟨none, 0, 0⟩, c, rfl, rfl, ?_, fun y hy => ?_⟩))
  · rw [hc]; cases numI w1 <;> rfl
  · obtain ⟨z, hz, rfl⟩ := Option.map_eq_some_iff.1 hy
    rw [hv z hz]

set_option maxHeartbeats 1000000 in
theorem Step30_spec (line : List UInt8) (hl : line.length ≤ 1048576) : Ct Pr F_ref30_Step [.string (BA line)] (.tup [some 9, none]) [.int .i64, .int .i64, .int .i64, .int .i64, .int .i64, .int .i64, .int .i64, .str, .slice, .int .i64] [] emp
    (fun t Bs => StepT t Bs (stepC line)) := by
  refine spec10 c_ref30_Step fun B hr => ?_
  unfold ref30_Step
  refine xnew fun b => ?_
  refine xcall0 (words30_spec line hl) rdb ?_
  rintro ⟨s, c, _⟩ _ ⟨l, rfl, hcase⟩
  have hcase : (goodW line ∧ c = true ∧ l = splitL 32 line) ∨ (¬ goodW line ∧ c = false) := hcase
  have hwl : ∀ w ∈ splitL 32 line, w.length ≤ 1048576 := fun w hw => Nat.le_trans (splitL_len hw) hl
  have hcnt := splitL_count 32 line
  have hcl : line.count 32 ≤ line.length := List.count_le_length
  refine app1 (ca2 ?_)
  have fail : ∀ {K9 : Int → Int → Int → Int → Int → Int → Int → ByteArray → Sl → WP} {F : List HP}, stepC line = none → True := fun _ => trivial
  rcases hcase with ⟨hg, rfl, rfl⟩ | ⟨hg, rfl⟩
  · refine xiff rfl ?_
    rw [stepC_good hg]
    refine xlen s (fun hsl hsc => ?_)
    refine xcall0 (step30_spec s (splitL 32 line) (splitL_ne _ _) hg.2 hwl (by omega) hsc) rdb ?_
    rintro _ _ ⟨x, sl, c, rfl, rfl, hc1, hc2⟩
    refine app1 (ca10 ?_)
    refine xnew fun b1 => ?_
    iterate 9 (refine xset (h := ?_))
    refine xif (fun hn => ?_) (fun hn => ?_)
    · have hn : stepD (splitL 32 line) = none := by
        cases e : stepD (splitL 32 line) with
        | none => rfl
        | some y => rw [e] at hc1; subst hc1; cases hn
      iterate 9 (refine xset (h := ?_))
      iterate 8 (refine xget (h := ?_))
      refine xget (s := .slice) (x := ⟨none, 0, 0⟩) (h := ?_)
      refine xnone U8 ?_
      exact xuse [Ar U8 ⟨none, 0, 0⟩ []] (xret ⟨step0, ⟨none, 0, 0⟩, 33, rfl, rfl, .inr ⟨hn, rfl, rfl⟩⟩)
    · obtain ⟨y, hy⟩ : ∃ y, stepD (splitL 32 line) = some y := by
        cases e : stepD (splitL 32 line) with
        | none => rw [e] at hc1; subst hc1; cases hn
        | some y => exact ⟨y, rfl⟩
      obtain rfl := hc2 y hy
      iterate 8 (refine xget (h := ?_))
      refine xget (s := .slice) (x := sl) (h := ?_)
      iterate 9 (refine xset (h := ?_))
      iterate 8 (refine xget (h := ?_))
      refine xget (s := .slice) (x := sl) (h := ?_)
      exact xuse [Ar U8 sl x.bytes] (xret ⟨x, sl, 0, rfl, rfl, .inl ⟨hy, rfl⟩⟩)
  · refine xift rfl ?_
    rw [stepC_bad hg]
    iterate 9 (refine xset (h := ?_))
    iterate 8 (refine xget (h := ?_))
    refine xget (s := .slice) (x := ⟨none, 0, 0⟩) (h := ?_)
    refine xnone U8 ?_
    exact xuse [Ar U8 ⟨none, 0, 0⟩ []] (xret ⟨step0, ⟨none, 0, 0⟩, 33, rfl, rfl, .inr ⟨rfl, rfl, rfl⟩⟩)

end Go.Cx
