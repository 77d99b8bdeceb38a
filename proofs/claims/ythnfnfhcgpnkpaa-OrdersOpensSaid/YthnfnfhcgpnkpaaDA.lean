/-
  A device of files, as a law of lists.
-/
import Derived.Test.YthnfnfhcgpnkpaaCfW
import Derived.Laws.Strings
namespace Go.Cx
open Go Go.Cf
set_option linter.unusedVariables false

/-! Names in their order. -/
abbrev Key := List UInt8
abbrev lt (a b : Key) : Bool := Op.bytesLess a b

theorem u8_total (a b : UInt8) (h1 : ¬ a < b) (h2 : ¬ b < a) : a = b := by
  have h1' : ¬ a.toNat < b.toNat := fun h => h1 (UInt8.lt_iff_toNat_lt.2 h)
  have h2' : ¬ b.toNat < a.toNat := fun h => h2 (UInt8.lt_iff_toNat_lt.2 h)
  exact UInt8.toNat_inj.1 (by omega)

theorem lt_irrefl : ∀ a : Key, lt a a = false := by
  intro a
  induction a with
  | nil => rfl
  | cons x a ih =>
    have : ¬ x < x := fun h => by have := UInt8.lt_iff_toNat_lt.1 h; omega
    simp [lt, Op.bytesLess, this, ih]

theorem lt_trans : ∀ {a b c : Key}, lt a b = true → lt b c = true → lt a c = true := by
  intro a
  induction a with
  | nil =>
    intro b c h1 h2
    cases c with
    | nil => cases b <;> simp [lt, Op.bytesLess] at h2
    | cons => rfl
  | cons x a ih =>
    intro b c h1 h2
    cases b with
    | nil => simp [lt, Op.bytesLess] at h1
    | cons y b =>
      cases c with
      | nil => simp [lt, Op.bytesLess] at h2
      | cons z c =>
        simp only [lt, Op.bytesLess, Bool.or_eq_true, decide_eq_true_eq, Bool.and_eq_true, beq_iff_eq] at h1 h2 ⊢
        rcases h1 with h1 | ⟨rfl, h1⟩
        · rcases h2 with h2 | ⟨rfl, h2⟩
          · exact .inl (UInt8.lt_iff_toNat_lt.2 (Nat.lt_trans (UInt8.lt_iff_toNat_lt.1 h1) (UInt8.lt_iff_toNat_lt.1 h2)))
          · exact .inl h1
        · rcases h2 with h2 | ⟨rfl, h2⟩
          · exact .inl h2
          · exact .inr ⟨rfl, ih h1 h2⟩

theorem lt_total : ∀ {a b : Key}, lt a b = false → lt b a = false → a = b := by
  intro a
  induction a with
  | nil => intro b h1 _; cases b with
    | nil => rfl
    | cons => simp [lt, Op.bytesLess] at h1
  | cons x a ih =>
    intro b h1 h2
    cases b with
    | nil => simp [lt, Op.bytesLess] at h2
    | cons y b =>
      simp only [lt, Op.bytesLess, Bool.or_eq_false_iff, decide_eq_false_iff_not, Bool.and_eq_false_iff, beq_eq_false_iff_ne] at h1 h2
      have e := u8_total x y h1.1 h2.1
      subst e
      rcases h1.2 with h | h
      · exact absurd rfl h
      · rcases h2.2 with h' | h'
        · exact absurd rfl h'
        · rw [ih h h']

theorem lt_asymm {a b : Key} (h : lt a b = true) : lt b a = false := by
  cases hb : lt b a with
  | false => rfl
  | true => have := lt_trans h hb; rw [lt_irrefl] at this; cases this

theorem ba_toList_inj {x y : ByteArray} (h : x.toList = y.toList) : x = y := by
  rw [ByteArray.toList_eq, ByteArray.toList_eq] at h
  cases x; cases y
  simpa using h

structure DF where
  nm : ByteArray
  b : List UInt8
  sy : Int

abbrev DF.key (f : DF) : Key := f.nm.toList

structure DM where
  armed : Bool
  down : Bool
  left : Int
  room : Int
  fs : List DF

def usedN (fs : List DF) : Nat := (fs.map fun f => f.b.length).sum
def namedB (s : ByteArray) : Bool := decide ((s.size : Int) ≥ 1) && decide ((s.size : Int) ≤ 16)

def Sorted (fs : List DF) : Prop := fs.Pairwise fun f g => lt f.key g.key = true

/-- Where a name is, or would be. -/
def findL (fs : List DF) (k : Key) : Nat := (fs.takeWhile fun f => lt f.key k).length
def thereL (fs : List DF) (k : Key) : Bool := match fs[findL fs k]? with
  | some f => f.key == k
  | none => false

theorem findL_le (fs : List DF) (k : Key) : findL fs k ≤ fs.length := (List.takeWhile_sublist _).length_le

theorem findL_eq {fs : List DF} {k : Key} {i : Nat} (hi : i ≤ fs.length) (h1 : ∀ t f, t < i → fs[t]? = some f → lt f.key k = true) (h2 : ∀ f, fs[i]? = some f → lt f.key k = false) : findL fs k = i := by
  induction fs generalizing i with
  | nil => simp at hi; subst hi; rfl
  | cons f fs ih =>
    cases i with
    | zero =>
      have := h2 f rfl
      simp [findL, this]
    | succ i =>
      have h := h1 0 f (by omega) rfl
      have := ih (i := i) (by simpa using hi) (fun t g ht hg => h1 (t + 1) g (by omega) (by simpa using hg)) (fun g hg => h2 g (by simpa using hg))
      simp only [findL, List.takeWhile_cons, h, if_true, List.length_cons] at this ⊢
      omega

theorem findL_lt {fs : List DF} {k : Key} : ∀ {t : Nat} {f : DF}, t < findL fs k → fs[t]? = some f → lt f.key k = true := by
  induction fs with
  | nil => intro t f _ h; simp at h
  | cons g fs ih =>
    intro t f ht hf
    cases hg : lt g.key k with
    | false => simp [findL, hg] at ht
    | true =>
      cases t with
      | zero => simp at hf; subst hf; exact hg
      | succ t =>
        refine ih (t := t) ?_ (by simpa using hf)
        simp only [findL, List.takeWhile_cons, hg, if_true, List.length_cons] at ht
        simp only [findL]; omega

theorem findL_at {fs : List DF} {k : Key} {f : DF} (h : fs[findL fs k]? = some f) : lt f.key k = false := by
  induction fs with
  | nil => simp at h
  | cons g fs ih =>
    cases hg : lt g.key k with
    | false => simp [findL, hg] at h; subst h; exact hg
    | true =>
      refine ih ?_
      simpa [findL, hg] using h

theorem Sorted.get {fs : List DF} (hs : Sorted fs) {i j : Nat} {f g : DF} (hij : i < j) (hf : fs[i]? = some f) (hg : fs[j]? = some g) : lt f.key g.key = true := by
  obtain ⟨h1, rfl⟩ := List.getElem?_eq_some_iff.1 hf
  obtain ⟨h2, rfl⟩ := List.getElem?_eq_some_iff.1 hg
  exact List.pairwise_iff_getElem.1 hs i j h1 h2 hij

theorem findL_ge {fs : List DF} (hs : Sorted fs) {k : Key} {t : Nat} {f : DF} (ht : findL fs k ≤ t) (hf : fs[t]? = some f) : lt f.key k = false := by
  have hlt : t < fs.length := (List.getElem?_eq_some_iff.1 hf).1
  have hg := List.getElem?_eq_getElem (l := fs) (i := findL fs k) (by omega)
  have h0 := findL_at hg
  rcases Nat.lt_or_ge (findL fs k) t with h | h
  · have h1 := hs.get h hg hf
    cases hk : lt f.key k with
    | false => rfl
    | true => have := lt_trans h1 hk; rw [h0] at this; cases this
  · obtain rfl : t = findL fs k := by omega
    rw [hg] at hf; cases hf; exact h0

/-- The one place where a name may be. -/
theorem find_unique {fs : List DF} (hs : Sorted fs) {k : Key} {t : Nat} {f : DF} (hf : fs[t]? = some f) (hk : f.key = k) : findL fs k = t ∧ thereL fs k = true := by
  have e : findL fs k = t := by
    refine findL_eq (Nat.le_of_lt (List.getElem?_eq_some_iff.1 hf).1) (fun s g hs' hg => ?_) (fun g hg => ?_)
    · rw [← hk]; exact hs.get hs' hg hf
    · rw [hf] at hg; cases hg; rw [← hk]; exact lt_irrefl _
  refine ⟨e, ?_⟩
  unfold thereL
  rw [e, hf]
  simp [hk]

theorem there_get {fs : List DF} {k : Key} (h : thereL fs k = true) : ∃ f, fs[findL fs k]? = some f ∧ f.key = k := by
  unfold thereL at h
  split at h
  · rename_i f hf; exact ⟨f, hf, by simpa using h⟩
  · cases h

theorem not_there {fs : List DF} (hs : Sorted fs) {k : Key} (h : thereL fs k = false) : ∀ f ∈ fs, f.key ≠ k := by
  intro f hf hk
  obtain ⟨t, ht, rfl⟩ := List.getElem_of_mem hf
  have := (find_unique hs (List.getElem?_eq_getElem ht) hk).2
  rw [h] at this; cases this

/-! The calls. -/
def insL (fs : List DF) (i : Nat) (f : DF) : List DF := fs.take i ++ f :: fs.drop i

def spendM (m : DM) : DM × Bool := if m.armed && m.left == 0 then ({ m with down := true }, false) else if m.armed then ({ m with left := m.left - 1 }, true) else (m, true)

def appendM (m : DM) (nm : ByteArray) (b : List UInt8) : DM × Int :=
  if !(namedB nm) then (m, 8)
  else if m.down then (m, 10)
  else if (!(thereL m.fs nm.toList) && decide ((m.fs.length : Int) ≥ 64)) || decide ((b.length : Int) > m.room - usedN m.fs) then (m, 9)
  else if !(spendM m).2 then ((spendM m).1, 10)
  else
    let i := findL m.fs nm.toList
    let fs := if thereL m.fs nm.toList then m.fs else insL m.fs i ⟨nm, [], 0⟩
    let f := fs.getD i ⟨nm, [], 0⟩
    ({ (spendM m).1 with fs := fs.set i { f with b := f.b ++ b } }, 0)

def onFile (m : DM) (nm : ByteArray) (g : Nat → DF → DM → DM × Int) : DM × Int :=
  if m.down then (m, 10)
  else if !(thereL m.fs nm.toList) then (m, 6)
  else g (findL m.fs nm.toList) (m.fs.getD (findL m.fs nm.toList) ⟨nm, [], 0⟩) m

def spent (m : DM) (g : DM → DM) : DM × Int := if !(spendM m).2 then ((spendM m).1, 10) else (g (spendM m).1, 0)

def syncM (m : DM) (nm : ByteArray) : DM × Int := onFile m nm fun i f m => spent m fun m => { m with fs := m.fs.set i { f with sy := f.b.length } }
def truncM (m : DM) (nm : ByteArray) (n : Int) : DM × Int := onFile m nm fun i f m => if n < 0 ∨ n > f.b.length then (m, 3) else spent m fun m => { m with fs := m.fs.set i { f with b := f.b.take n.toNat, sy := if n < f.sy then n else f.sy } }
def removeM (m : DM) (nm : ByteArray) : DM × Int := onFile m nm fun i f m => spent m fun m => { m with fs := m.fs.eraseIdx i }
def moveL (fs : List DF) (i : Nat) (f : DF) (to : ByteArray) : List DF :=
  let es := fs.eraseIdx i
  let k := findL es to.toList
  if thereL es to.toList then es.set k { f with nm := to } else insL es k { f with nm := to }
def renameM (m : DM) (nm to : ByteArray) : DM × Int := if !(namedB to) then (m, 8) else onFile m nm fun i f m => spent m fun m => { m with fs := moveL m.fs i f to }
def readM (m : DM) (nm : ByteArray) : List UInt8 × Int := if !(thereL m.fs nm.toList) then ([], 6) else ((m.fs.getD (findL m.fs nm.toList) ⟨nm, [], 0⟩).b, 0)
def armM (m : DM) (n : Int) : DM := { m with armed := decide (n ≥ 0), left := n }
def keepN (keep : Int) (f : DF) : Int := f.sy + (if (f.b.length : Int) - f.sy < (if 0 > keep then 0 else keep) then (f.b.length : Int) - f.sy else (if 0 > keep then 0 else keep))
def wakeF (keep : Int) (f : DF) : DF := { f with b := f.b.take (keepN keep f).toNat, sy := keepN keep f }
def wakeM (m : DM) (keep : Int) : DM := { armed := false, down := false, left := 0, room := m.room, fs := m.fs.map (wakeF keep) }

/-- What is so of every device. -/
structure DInv (m : DM) : Prop where
  sorted : Sorted m.fs
  names : ∀ f ∈ m.fs, namedB f.nm = true
  syn : ∀ f ∈ m.fs, 0 ≤ f.sy ∧ f.sy ≤ f.b.length
  used : (usedN m.fs : Int) ≤ m.room
  room : 0 ≤ m.room ∧ m.room ≤ 16777216
  len : m.fs.length ≤ 64
  left : i64 m.left ∧ (m.armed = true → 0 ≤ m.left)

end Go.Cx
