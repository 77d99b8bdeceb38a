/-
  The plain law of a configuration's text: words, numbers, lines.
-/
import Derived.Test.YtncgenibaclejaaGreatDoorCB
import Derived.Lib.IndexLaws
import Derived.Lib.IndexBytes
import Derived.Lib.CountLaws
import Derived.Lib.SplitLaws
import Derived.Lib.Split
import Derived.Lib.Atoi
namespace Go.Cx
open Go Go.Cf
set_option linter.unusedVariables false
set_option maxRecDepth 100000

/-! Words. -/
def splitL (c : UInt8) : List UInt8 → List (List UInt8)
  | [] => [[]]
  | b :: r => if b = c then [] :: splitL c r else match splitL c r with
    | w :: ws => (b :: w) :: ws
    | [] => [[b]]
theorem splitL_none {c : UInt8} : ∀ {s : List UInt8}, c ∉ s → splitL c s = [s]
  | [], _ => rfl
  | b :: r, h => by
    have h1 : ¬ b = c := fun e => h (by simp [e])
    have h2 := splitL_none (s := r) (c := c) (fun e => h (by simp [e]))
    simp only [splitL, if_neg h1, h2]
theorem splitL_hit {c : UInt8} : ∀ {a r : List UInt8}, c ∉ a → splitL c (a ++ c :: r) = a :: splitL c r
  | [], r, _ => by simp [splitL]
  | b :: a, r, h => by
    have h1 : ¬ b = c := fun e => h (by simp [e])
    have h2 := splitL_hit (a := a) (r := r) (c := c) (fun e => h (by simp [e]))
    simp only [List.cons_append, splitL, if_neg h1, h2]
theorem splitL_ne (c : UInt8) (s : List UInt8) : splitL c s ≠ [] := by
  cases s with
  | nil => simp [splitL]
  | cons b r => simp only [splitL]; repeat' split; all_goals simp

theorem index_split {s : List UInt8} {c : UInt8} {i : Nat} (h : Lib.index s [c] = i) : c ∉ s.take i ∧ s = s.take i ++ c :: s.drop (i + 1) := by
  rw [Lib.index_one] at h
  obtain ⟨h1, h2⟩ := Lib.indexByte_some h
  have hi := (List.getElem?_eq_some_iff.1 h1).1
  refine ⟨fun hm => ?_, ?_⟩
  · obtain ⟨k, hk, hkc⟩ := List.mem_iff_getElem.1 hm
    rw [List.getElem_take] at hkc
    have hk' : k < i := by simp at hk; omega
    exact h2 k hk' (by rw [List.getElem?_eq_getElem (by omega), hkc])
  · conv => lhs; rw [← List.take_append_drop i s]
    congr 1
    rw [List.drop_eq_getElem_cons hi]
    congr 1
    exact (List.getElem?_eq_some_iff.1 h1).2
theorem index_miss {s : List UInt8} {c : UInt8} (h : Lib.index s [c] = -1) : c ∉ s := by
  rw [Lib.index_one] at h
  intro hm
  obtain ⟨k, hk, hkc⟩ := List.mem_iff_getElem.1 hm
  exact Lib.indexByte_none h k (by rw [List.getElem?_eq_getElem hk, hkc])
theorem index_cases (s : List UInt8) (c : UInt8) : Lib.index s [c] = -1 ∨ ∃ i : Nat, Lib.index s [c] = i := by
  have := Lib.index_ge s [c]
  by_cases h : Lib.index s [c] = -1
  · exact .inl h
  · exact .inr ⟨(Lib.index s [c]).toNat, by omega⟩

theorem splitK_eq (c : UInt8) : ∀ (n : Nat) (s : List UInt8), s.length ≤ n → Lib.splitK [c] 0 (Lib.count s [c]) s = splitL c s
  | 0, s, h => by
    have : s = [] := List.length_eq_zero_iff.1 (by omega)
    subst this
    have hm : Lib.index [] [c] = -1 := rfl
    rw [Lib.count_miss hm]; rfl
  | n + 1, s, h => by
    rcases index_cases s c with hm | ⟨i, hi⟩
    · rw [Lib.count_miss hm, splitL_none (index_miss hm)]; rfl
    · obtain ⟨h1, h2⟩ := index_split hi
      rw [Lib.count_hit (by simp) hi, Nat.add_comm, Lib.splitK]
      rw [if_neg (by rw [hi]; simp), hi]
      have hl : i + 1 ≤ s.length := by
        have := congrArg List.length h2
        simp at this; omega
      have := splitK_eq c n (s.drop (i + 1)) (by simp; omega)
      simp only [Int.toNat_natCast, Nat.add_zero, List.length_cons, List.length_nil, Nat.zero_add]
      rw [this]
      conv => rhs; rw [h2]
      rw [splitL_hit h1]

theorem splitB_eq (s : ByteArray) (c : UInt8) : Lib.splitB (BA [c]) 0 (Lib.countB s (BA [c])) s = (splitL c s.data.toList).map BA := by
  have h := Lib.splitB_data (BA [c]) 0 (Lib.countB s (BA [c])) s
  rw [BA_list] at h
  have e : Lib.countB s (BA [c]) = Lib.count s.data.toList [c] := by
    show Lib.count s.data.toList (BA [c]).data.toList = _
    rw [BA_list]
  rw [e] at h ⊢
  rw [splitK_eq c _ _ (Nat.le_refl _)] at h
  rw [← h, List.map_map]
  conv => lhs; rw [← List.map_id (Lib.splitB _ _ _ _)]
  exact List.map_congr_left fun w _ => (BA_data w).symm

theorem cut_miss {s : List UInt8} {c : UInt8} (h : c ∉ s) : Lib.cut s [c] = (s, [], false) := by
  rcases index_cases s c with hm | ⟨i, hi⟩
  · unfold Lib.cut; rw [if_neg (by rw [hm]; decide)]
  · exact absurd (by rw [(index_split hi).2]; simp) h
theorem cut_hit {a r : List UInt8} {c : UInt8} (h : c ∉ a) : Lib.cut (a ++ c :: r) [c] = (a, r, true) := by
  rcases index_cases (a ++ c :: r) c with hm | ⟨i, hi⟩
  · exact absurd (by simp) (index_miss hm)
  · obtain ⟨h1, h2⟩ := index_split hi
    have e : splitL c (a ++ c :: r) = splitL c ((a ++ c :: r).take i ++ c :: (a ++ c :: r).drop (i + 1)) := congrArg _ h2
    rw [splitL_hit h, splitL_hit h1] at e
    have e1 : a = (a ++ c :: r).take i := (List.cons.inj e).1
    have hl : i = a.length := by
      have := congrArg List.length e1
      have h3 := congrArg List.length h2
      simp at this h3
      omega
    unfold Lib.cut
    rw [if_pos (by rw [hi]; omega), hi]
    simp [hl]

/-! Numbers. -/
theorem splitL_len {c : UInt8} : ∀ {s w : List UInt8}, w ∈ splitL c s → w.length ≤ s.length
  | [], w, h => by simp [splitL] at h; subst h; simp
  | b :: r, w, h => by
    simp only [splitL] at h
    split at h
    · rcases List.mem_cons.1 h with rfl | h
      · simp
      · have := splitL_len h; simp; omega
    · split at h
      · rename_i w' ws e
        rcases List.mem_cons.1 h with rfl | h
        · have := splitL_len (s := r) (c := c) (w := w') (by rw [e]; simp)
          simp; omega
        · have := splitL_len (s := r) (c := c) (w := w) (by rw [e]; exact List.mem_cons_of_mem _ h)
          simp; omega
      · rcases List.mem_cons.1 h with rfl | h
        · simp
        · cases h

def boundV (w : List UInt8) : Option (Int × Bool) := if w = [45] then some (0, false) else (numI w).map fun v => (v, true)
/-- A letter taken off. -/
def offB (c : UInt8) (f : List UInt8) : Bool := match f with
  | b :: _ => b == c
  | [] => false
def offL (c : UInt8) (f : List UInt8) : List UInt8 := match f with
  | b :: r => if b = c then r else f
  | [] => []
def kindV (w : List UInt8) : Int := if w = [99, 111, 105, 108] then 1 else if w = [105, 110, 112, 117, 116] then 2 else if w = [104, 111, 108, 100, 105, 110, 103] then 3 else if w = [114, 101, 103, 105, 115, 116, 101, 114] then 4 else 0
def flagV (w : List UInt8) : Option (Bool × Bool × Bool) :=
  if w = [] then none else
  let f := if w = [45] then [] else w
  if offL 120 (offL 115 (offL 119 f)) = [] then some (offB 119 f, offB 115 (offL 119 f), offB 120 (offL 115 (offL 119 f))) else none
def gwW : List UInt8 := [103, 97, 116, 101, 119, 97, 121]
def tagWd : List UInt8 := [116, 97, 103]
def latchWd : List UInt8 := [108, 97, 116, 99, 104]

def wd (ws : List (List UInt8)) (i : Nat) : List UInt8 := (ws[i]?).getD []
theorem wd_get {ws : List (List UInt8)} {i : Nat} (h : i < ws.length) : ws[i]? = some (wd ws i) := by
  unfold wd; rw [List.getElem?_eq_getElem h]; rfl
def headM (ws : List (List UInt8)) : Option Cfg := if ws.length = 7 ∧ wd ws 0 = gwW then
    (numI (wd ws 1)).bind fun va => (numI (wd ws 2)).bind fun vb => (numI (wd ws 3)).bind fun vc => (numI (wd ws 4)).bind fun vd => (numI (wd ws 5)).bind fun ve => (numI (wd ws 6)).bind fun vf => some ⟨va, vb, vc, vd, ve, vf, []⟩ else none
def tagM (ws : List (List UInt8)) : Option Tag := if ws.length = 16 ∧ wd ws 0 = tagWd ∧ wd ws 1 ≠ [] ∧ kindV (wd ws 3) > 0 ∧ (wd ws 15 = latchWd ∨ wd ws 15 = [45]) then
      (numI (wd ws 2)).bind fun u => (numI (wd ws 4)).bind fun a => (numI (wd ws 5)).bind fun ev => (flagV (wd ws 6)).bind fun fl => (numI (wd ws 7)).bind fun mu => (numI (wd ws 8)).bind fun di => (numI (wd ws 9)).bind fun ad => (numI (wd ws 10)).bind fun de => (numI (wd ws 11)).bind fun qu => (boundV (wd ws 12)).bind fun lo => (boundV (wd ws 13)).bind fun hi => (numI (wd ws 14)).bind fun hy =>
        some ⟨BA (wd ws 1), u, kindV (wd ws 3), a, ev, fl.1, fl.2.1, fl.2.2, mu, di, ad, de, qu, lo.2, hi.2, wd ws 15 == latchWd, lo.1, hi.1, hy⟩ else none
theorem headM_some {ws : List (List UInt8)} {c : Cfg} : headM ws = some c ↔ ws.length = 7 ∧ wd ws 0 = gwW ∧ numI (wd ws 1) = some c.timeout ∧ numI (wd ws 2) = some c.retries ∧ numI (wd ws 3) = some c.window ∧ numI (wd ws 4) = some c.resend ∧ numI (wd ws 5) = some c.span ∧ numI (wd ws 6) = some c.keep ∧ c.tags = [] := by
  unfold headM
  constructor
  · intro h
    split at h
    · rename_i hc
      simp only [Option.bind_eq_some_iff, Option.some.injEq] at h
      obtain ⟨a, ha, b, hb, d, hd, e, he, f, hf, g, hg, rfl⟩ := h
      exact ⟨hc.1, hc.2, ha, hb, hd, he, hf, hg, rfl⟩
    · cases h
  · rintro ⟨h1, h2, h3, h4, h5, h6, h7, h8, h9⟩
    rw [if_pos ⟨h1, h2⟩, h3, h4, h5, h6, h7, h8]
    obtain ⟨_, _, _, _, _, _, _⟩ := c
    simp only at h9
    subst h9; rfl
theorem tagM_some {ws : List (List UInt8)} {t : Tag} : tagM ws = some t ↔ (ws.length = 16 ∧ wd ws 0 = tagWd ∧ wd ws 1 ≠ [] ∧ kindV (wd ws 3) > 0 ∧ (wd ws 15 = latchWd ∨ wd ws 15 = [45])) ∧
    numI (wd ws 2) = some t.unit ∧ numI (wd ws 4) = some t.addr ∧ numI (wd ws 5) = some t.every ∧ flagV (wd ws 6) = some (t.wide, t.sgn, t.swap) ∧ numI (wd ws 7) = some t.mul ∧ numI (wd ws 8) = some t.div ∧ numI (wd ws 9) = some t.add ∧
    numI (wd ws 10) = some t.dead ∧ numI (wd ws 11) = some t.quiet ∧ boundV (wd ws 12) = some (t.low, t.ulow) ∧ boundV (wd ws 13) = some (t.high, t.uhigh) ∧ numI (wd ws 14) = some t.hyst ∧ t.name = BA (wd ws 1) ∧ t.kind = kindV (wd ws 3) ∧ t.latch = (wd ws 15 == latchWd) := by
  unfold tagM
  constructor
  · intro h
    split at h
    · rename_i hc
      simp only [Option.bind_eq_some_iff, Option.some.injEq] at h
      obtain ⟨u, h1, a, h2, ev, h3, fl, h4, mu, h5, di, h6, ad, h7, de, h8, qu, h9, lo, h10, hi, h11, hy, h12, rfl⟩ := h
      exact ⟨hc, h1, h2, h3, h4, h5, h6, h7, h8, h9, h10, h11, h12, rfl, rfl, rfl⟩
    · cases h
  · rintro ⟨hc, h1, h2, h3, h4, h5, h6, h7, h8, h9, h10, h11, h12, h13, h14, h15⟩
    rw [if_pos hc, h1, h2, h3, h4, h5, h6, h7, h8, h9, h10, h11, h12]
    obtain ⟨_, _, _, _, _, _, _, _, _, _, _, _, _, _, _, _, _, _, _⟩ := t
    simp only at h13 h14 h15
    subst h13 h14 h15; rfl

/-! Lines. -/


abbrev cfg0 : Cfg := ⟨0, 0, 0, 0, 0, 0, []⟩
def stepM (no : Nat) (l : List UInt8) (c : Cfg) : Option Cfg := if no = 1 then headM (splitL 32 l) else (tagM (splitL 32 l)).map fun t => { c with tags := c.tags ++ [t] }
/-- The lines gone through: the configuration, or the line that is wrong. -/
def goT : List (List UInt8) → Nat → Cfg → Option Cfg × Nat
  | [], no, c => (none, no)
  | [l], no, c => if no = 1 ∨ l ≠ [] then (none, no) else (some c, 0)
  | l :: l2 :: r, no, c => match stepM no l c with
    | some c' => goT (l2 :: r) (no + 1) c'
    | none => (none, no)
def endM (c : Cfg) : Cfg × Int × Int := if ownB c = false then (cfg0, 1, 32) else if (allE c.tags).1 ≠ 0 then (cfg0, (allE c.tags).2 + 2, (allE c.tags).1) else (c, 0, 0)
def parseM (s : List UInt8) : Cfg × Int × Int := if s.length > 1048576 then (cfg0, 0, 2) else match goT (splitL 10 s) 1 cfg0 with
  | (none, no) => (cfg0, no, 33)
  | (some c, _) => endM c

theorem allGo_bound {ts : List Tag} : ∀ (n i : Nat), 0 ≤ (allGo ts n i).2 ∧ (allGo ts n i).2 ≤ i + n
  | 0, i => by simp [allGo]
  | n + 1, i => by
    unfold allGo
    split
    · simp only; omega
    · have := allGo_bound (ts := ts) n (i + 1); omega
theorem allE_bound (ts : List Tag) : 0 ≤ (allE ts).2 ∧ (allE ts).2 ≤ 64 := by
  unfold allE
  split
  · decide
  · have := allGo_bound (ts := ts) ts.length 0; omega

end Go.Cx
