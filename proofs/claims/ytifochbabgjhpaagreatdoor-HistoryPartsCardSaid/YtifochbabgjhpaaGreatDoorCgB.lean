/-
  A device of files, as a law of lists.
-/
import Derived.Test.YtifochbabgjhpaaGreatDoorCgA
import Derived.Laws.Strings
namespace Go.Cx
open Go Go.Cf
set_option linter.unusedVariables false
set_option maxRecDepth 100000

/-! Names in their order. -/
abbrev Key := List UInt8
abbrev lt (a b : Key) : Bool := Op.bytesLess a b

theorem u8_total (a b : UInt8) (h1 : ¬ a < b) (h2 : ¬ b < a) : a = b := by
  have h1' : ¬ a.toNat < b.toNat := fun h => h1 (UInt8.lt_iff_toNat_lt.2 h)
  have h2' : ¬ b.toNat < a.toNat := fun h => h2 (UInt8.lt_iff_toNat_lt.2 h)
  exact UInt8.toNat_inj.1 (by omega)

theorem lt_irrefl : ∀ a : Key, lt a a = false := by
  intro a
  induction a with
  | nil => rfl
  | cons x a ih =>
    have : ¬ x < x := fun h => by have := UInt8.lt_iff_toNat_lt.1 h; omega
    simp [lt, Op.bytesLess, this, ih]

theorem lt_trans : ∀ {a b c : Key}, lt a b = true → lt b c = true → lt a c = true := by
  intro a
  induction a with
  | nil =>
    intro b c h1 h2
    cases c with
    | nil => cases b <;> simp [lt, Op.bytesLess] at h2
    | cons => rfl
  | cons x a ih =>
    intro b c h1 h2
    cases b with
    | nil => simp [lt, Op.bytesLess] at h1
    | cons y b =>
      cases c with
      | nil => simp [lt, Op.bytesLess] at h2
      | cons z c =>
        simp only [lt, Op.bytesLess, Bool.or_eq_true, decide_eq_true_eq, Bool.and_eq_true, beq_iff_eq] at h1 h2 ⊢
        rcases h1 with h1 | ⟨rfl, h1⟩
        · rcases h2 with h2 | ⟨rfl, h2⟩
          · exact .inl (UInt8.lt_iff_toNat_lt.2 (Nat.lt_trans (UInt8.lt_iff_toNat_lt.1 h1) (UInt8.lt_iff_toNat_lt.1 h2)))
          · exact .inl h1
        · rcases h2 with h2 | ⟨rfl, h2⟩
          · exact .inl h2
          · exact .inr ⟨rfl, ih h1 h2⟩

theorem lt_total : ∀ {a b : Key}, lt a b = false → lt b a = false → a = b := by
  intro a
  induction a with
  | nil => intro b h1 _; cases b with
    | nil => rfl
    | cons => simp [lt, Op.bytesLess] at h1
  | cons x a ih =>
    intro b h1 h2
    cases b with
    | nil => simp [lt, Op.bytesLess] at h2
    | cons y b =>
      simp only [lt, Op.bytesLess, Bool.or_eq_false_iff, decide_eq_false_iff_not, Bool.and_eq_false_iff, beq_eq_false_iff_ne] at h1 h2
      have e := u8_total x y h1.1 h2.1
      subst e
      rcases h1.2 with h | h
      · exact absurd rfl h
      · rcases h2.2 with h' | h'
        · exact absurd rfl h'
        · rw [ih h h']

theorem lt_asymm {a b : Key} (h : lt a b = true) : lt b a = false := by
  cases hb : lt b a with
  | false => rfl
  | true => have := lt_trans h hb; rw [lt_irrefl] at this; cases this

theorem ba_toList_inj {x y : ByteArray} (h : x.toList = y.toList) : x = y := by
  rw [ByteArray.toList_eq, ByteArray.toList_eq] at h
  cases x; cases y
  simpa using h

structure DF where
  nm : ByteArray
  b : List UInt8
  sy : Int

abbrev DF.key (f : DF) : Key := f.nm.toList

structure DM where
  armed : Bool
  down : Bool
  left : Int
  room : Int
  fs : List DF

def usedN (fs : List DF) : Nat := (fs.map fun f => f.b.length).sum
def namedB (s : ByteArray) : Bool := decide ((s.size : Int) ≥ 1) && decide ((s.size : Int) ≤ 16)

def Sorted (fs : List DF) : Prop := fs.Pairwise fun f g => lt f.key g.key = true

/-- Where a name is, or would be. -/
def findL (fs : List DF) (k : Key) : Nat := (fs.takeWhile fun f => lt f.key k).length
def thereL (fs : List DF) (k : Key) : Bool := match fs[findL fs k]? with
  | some f => f.key == k
  | none => false

theorem findL_le (fs : List DF) (k : Key) : findL fs k ≤ fs.length := (List.takeWhile_sublist _).length_le

theorem findL_eq {fs : List DF} {k : Key} {i : Nat} (hi : i ≤ fs.length) (h1 : ∀ t f, t < i → fs[t]? = some f → lt f.key k = true) (h2 : ∀ f, fs[i]? = some f → lt f.key k = false) : findL fs k = i := by
  induction fs generalizing i with
  | nil => simp at hi; subst hi; rfl
  | cons f fs ih =>
    cases i with
    | zero =>
      have := h2 f rfl
      simp [findL, this]
    | succ i =>
      have h := h1 0 f (by omega) rfl
      have := ih (i := i) (by simpa using hi) (fun t g ht hg => h1 (t + 1) g (by omega) (by simpa using hg)) (fun g hg => h2 g (by simpa using hg))
      simp only [findL, List.takeWhile_cons, h, if_true, List.length_cons] at this ⊢
      omega

theorem findL_lt {fs : List DF} {k : Key} : ∀ {t : Nat} {f : DF}, t < findL fs k → fs[t]? = some f → lt f.key k = true := by
  induction fs with
  | nil => intro t f _ h; simp at h
  | cons g fs ih =>
    intro t f ht hf
    cases hg : lt g.key k with
    | false => simp [findL, hg] at ht
    | true =>
      cases t with
      | zero => simp at hf; subst hf; exact hg
      | succ t =>
        refine ih (t := t) ?_ (by simpa using hf)
        simp only [findL, List.takeWhile_cons, hg, if_true, List.length_cons] at ht
        simp only [findL]; omega

theorem findL_at {fs : List DF} {k : Key} {f : DF} (h : fs[findL fs k]? = some f) : lt f.key k = false := by
  induction fs with
  | nil => simp at h
  | cons g fs ih =>
    cases hg : lt g.key k with
    | false => simp [findL, hg] at h; subst h; exact hg
    | true =>
      refine ih ?_
      simpa [findL, hg] using h

theorem Sorted.get {fs : List DF} (hs : Sorted fs) {i j : Nat} {f g : DF} (hij : i < j) (hf : fs[i]? = some f) (hg : fs[j]? = some g) : lt f.key g.key = true := by
  obtain ⟨h1, rfl⟩ := List.getElem?_eq_some_iff.1 hf
  obtain ⟨h2, rfl⟩ := List.getElem?_eq_some_iff.1 hg
  exact List.pairwise_iff_getElem.1 hs i j h1 h2 hij

theorem findL_ge {fs : List DF} (hs : Sorted fs) {k : Key} {t : Nat} {f : DF} (ht : findL fs k ≤ t) (hf : fs[t]? = some f) : lt f.key k = false := by
  have hlt : t < fs.length := (List.getElem?_eq_some_iff.1 hf).1
  have hg := List.getElem?_eq_getElem (l := fs) (i := findL fs k) (by omega)
  have h0 := findL_at hg
  rcases Nat.lt_or_ge (findL fs k) t with h | h
  · have h1 := hs.get h hg hf
    cases hk : lt f.key k with
    | false => rfl
    | true => have := lt_trans h1 hk; rw [h0] at this; cases this
  · obtain rfl : t = findL fs k := by omega
    rw [hg] at hf; cases hf; exact h0

/-- The one place where a name may be. -/
theorem find_unique {fs : List DF} (hs : Sorted fs) {k : Key} {t : Nat} {f : DF} (hf : fs[t]? = some f) (hk : f.key = k) : findL fs k = t ∧ thereL fs k = true := by
  have e : findL fs k = t := by
    refine findL_eq (Nat.le_of_lt (List.getElem?_eq_some_iff.1 hf).1) (fun s g hs' hg => ?_) (fun g hg => ?_)
    · rw [← hk]; exact hs.get hs' hg hf
    · rw [hf] at hg; cases hg; rw [← hk]; exact lt_irrefl _
  refine ⟨e, ?_⟩
  unfold thereL
  rw [e, hf]
  simp [hk]

theorem there_get {fs : List DF} {k : Key} (h : thereL fs k = true) : ∃ f, fs[findL fs k]? = some f ∧ f.key = k := by
  unfold thereL at h
  split at h
  · rename_i f hf; exact ⟨f, hf, by simpa using h⟩
  · cases h

theorem not_there {fs : List DF} (hs : Sorted fs) {k : Key} (h : thereL fs k = false) : ∀ f ∈ fs, f.key ≠ k := by
  intro f hf hk
  obtain ⟨t, ht, rfl⟩ := List.getElem_of_mem hf
  have := (find_unique hs (List.getElem?_eq_getElem ht) hk).2
  rw [h] at this; cases this

/-! The calls. -/
def insL (fs : List DF) (i : Nat) (f : DF) : List DF := fs.take i ++ f :: fs.drop i

def spendM (m : DM) : DM × Bool := if m.armed && m.left == 0 then ({ m with down := true }, false) else if m.armed then ({ m with left := m.left - 1 }, true) else (m, true)

def appendM (m : DM) (nm : ByteArray) (b : List UInt8) : DM × Int :=
  if !(namedB nm) then (m, 8)
  else if m.down then (m, 10)
  else if (!(thereL m.fs nm.toList) && decide ((m.fs.length : Int) ≥ 64)) || decide ((b.length : Int) > m.room - usedN m.fs) then (m, 9)
  else if !(spendM m).2 then ((spendM m).1, 10)
  else
    let i := findL m.fs nm.toList
    let fs := if thereL m.fs nm.toList then m.fs else insL m.fs i ⟨nm, [], 0⟩
    let f := fs.getD i ⟨nm, [], 0⟩
    ({ (spendM m).1 with fs := fs.set i { f with b := f.b ++ b } }, 0)

def onFile (m : DM) (nm : ByteArray) (g : Nat → DF → DM → DM × Int) : DM × Int :=
  if m.down then (m, 10)
  else if !(thereL m.fs nm.toList) then (m, 6)
  else g (findL m.fs nm.toList) (m.fs.getD (findL m.fs nm.toList) ⟨nm, [], 0⟩) m

def spent (m : DM) (g : DM → DM) : DM × Int := if !(spendM m).2 then ((spendM m).1, 10) else (g (spendM m).1, 0)

def syncM (m : DM) (nm : ByteArray) : DM × Int := onFile m nm fun i f m => spent m fun m => { m with fs := m.fs.set i { f with sy := f.b.length } }
def truncM (m : DM) (nm : ByteArray) (n : Int) : DM × Int := onFile m nm fun i f m => if n < 0 ∨ n > f.b.length then (m, 3) else spent m fun m => { m with fs := m.fs.set i { f with b := f.b.take n.toNat, sy := if n < f.sy then n else f.sy } }
def removeM (m : DM) (nm : ByteArray) : DM × Int := onFile m nm fun i f m => spent m fun m => { m with fs := m.fs.eraseIdx i }
def moveL (fs : List DF) (i : Nat) (f : DF) (to : ByteArray) : List DF :=
  let es := fs.eraseIdx i
  let k := findL es to.toList
  if thereL es to.toList then es.set k { f with nm := to } else insL es k { f with nm := to }
def renameM (m : DM) (nm to : ByteArray) : DM × Int := if !(namedB to) then (m, 8) else onFile m nm fun i f m => spent m fun m => { m with fs := moveL m.fs i f to }
def readM (m : DM) (nm : ByteArray) : List UInt8 × Int := if !(thereL m.fs nm.toList) then ([], 6) else ((m.fs.getD (findL m.fs nm.toList) ⟨nm, [], 0⟩).b, 0)
def armM (m : DM) (n : Int) : DM := { m with armed := decide (n ≥ 0), left := n }
def keepN (keep : Int) (f : DF) : Int := f.sy + (if (f.b.length : Int) - f.sy < (if 0 > keep then 0 else keep) then (f.b.length : Int) - f.sy else (if 0 > keep then 0 else keep))
def wakeF (keep : Int) (f : DF) : DF := { f with b := f.b.take (keepN keep f).toNat, sy := keepN keep f }
def wakeM (m : DM) (keep : Int) : DM := { armed := false, down := false, left := 0, room := m.room, fs := m.fs.map (wakeF keep) }

/-- What is so of every device. -/
structure DInv (m : DM) : Prop where
  sorted : Sorted m.fs
  names : ∀ f ∈ m.fs, namedB f.nm = true
  syn : ∀ f ∈ m.fs, 0 ≤ f.sy ∧ f.sy ≤ f.b.length
  used : (usedN m.fs : Int) ≤ m.room
  room : 0 ≤ m.room ∧ m.room ≤ 16777216
  len : m.fs.length ≤ 64
  left : i64 m.left ∧ (m.armed = true → 0 ≤ m.left)

end Go.Cx

namespace Go.Cx
open Go Go.Cf
set_option linter.unusedVariables false

theorem usedN_set {fs : List DF} {i : Nat} {f g : DF} (h : fs[i]? = some f) : usedN (fs.set i g) + f.b.length = usedN fs + g.b.length := by
  induction fs generalizing i with
  | nil => simp at h
  | cons x fs ih =>
    cases i with
    | zero => simp at h; subst h; simp [usedN]; omega
    | succ i =>
      have := ih (i := i) (by simpa using h)
      simp [usedN] at this ⊢; omega

theorem usedN_erase {fs : List DF} {i : Nat} {f : DF} (h : fs[i]? = some f) : usedN (fs.eraseIdx i) + f.b.length = usedN fs := by
  induction fs generalizing i with
  | nil => simp at h
  | cons x fs ih =>
    cases i with
    | zero => simp at h; subst h; simp [usedN]; omega
    | succ i =>
      have := ih (i := i) (by simpa using h)
      simp [usedN] at this ⊢; omega

theorem usedN_ins (fs : List DF) (i : Nat) (g : DF) : usedN (insL fs i g) = usedN fs + g.b.length := by
  have e : usedN fs = usedN (fs.take i) + usedN (fs.drop i) := by
    conv => lhs; rw [← List.take_append_drop i fs]
    unfold usedN
    rw [List.map_append, List.sum_append]
  rw [e]
  simp [usedN, insL]; omega

theorem mem_insL {fs : List DF} {i : Nat} {g x : DF} (h : x ∈ insL fs i g) : x = g ∨ x ∈ fs := by
  rcases List.mem_append.1 h with h | h
  · exact .inr (List.mem_of_mem_take h)
  · rcases List.mem_cons.1 h with h | h
    · exact .inl h
    · exact .inr (List.mem_of_mem_drop h)

theorem insL_length (fs : List DF) (i : Nat) (g : DF) (h : i ≤ fs.length) : (insL fs i g).length = fs.length + 1 := by
  simp [insL]; omega

theorem insL_get (fs : List DF) (i : Nat) (g : DF) (h : i ≤ fs.length) : (insL fs i g)[i]? = some g := by
  unfold insL
  rw [List.getElem?_append_right (by simp; omega)]
  simp [Nat.min_eq_left h]

theorem sorted_keys {fs gs : List DF} (h : gs.map DF.key = fs.map DF.key) (hs : Sorted fs) : Sorted gs := by
  unfold Sorted at hs ⊢
  rw [← List.pairwise_map (f := DF.key) (R := fun a b => lt a b = true)] at hs ⊢
  rw [h]; exact hs

theorem sorted_set {fs : List DF} {i : Nat} {f g : DF} (h : fs[i]? = some f) (hk : g.key = f.key) (hs : Sorted fs) : Sorted (fs.set i g) := by
  refine sorted_keys ?_ hs
  rw [List.map_set, hk]
  apply List.ext_getElem?
  intro j
  by_cases e : i = j
  · subst e
    rw [List.getElem?_set_self (by simpa using (List.getElem?_eq_some_iff.1 h).1), List.getElem?_map, h]; rfl
  · rw [List.getElem?_set_ne e]

theorem sorted_erase {fs : List DF} {i : Nat} (hs : Sorted fs) : Sorted (fs.eraseIdx i) := List.Pairwise.sublist (List.eraseIdx_sublist _ _) hs

theorem sorted_ins {fs : List DF} {g : DF} (hs : Sorted fs) (hn : thereL fs g.key = false) : Sorted (insL fs (findL fs g.key) g) := by
  have h0 := not_there hs hn
  have e : fs = fs.take (findL fs g.key) ++ fs.drop (findL fs g.key) := (List.take_append_drop _ _).symm
  have hs' := hs
  unfold Sorted at hs'
  rw [e, List.pairwise_append] at hs'
  have hlo : ∀ x ∈ fs.take (findL fs g.key), lt x.key g.key = true := fun x hx => by
    obtain ⟨j, hj, rfl⟩ := List.getElem_of_mem hx
    have hj' : j < findL fs g.key ∧ j < fs.length := by simp at hj; omega
    rw [List.getElem_take]
    exact findL_lt hj'.1 (List.getElem?_eq_getElem hj'.2)
  have hhi : ∀ x ∈ fs.drop (findL fs g.key), lt g.key x.key = true := fun x hx => by
    have hx' := List.mem_of_mem_drop hx
    obtain ⟨j, hj, rfl⟩ := List.getElem_of_mem hx
    have hj' : findL fs g.key + j < fs.length := by simp at hj; omega
    rw [List.getElem_drop] at hx' ⊢
    have h1 := findL_ge hs (Nat.le_add_right _ j) (List.getElem?_eq_getElem hj')
    cases h2 : lt g.key fs[findL fs g.key + j].key with
    | true => rfl
    | false => exact absurd (lt_total h1 h2) (h0 _ hx')
  unfold Sorted insL
  rw [List.pairwise_append]
  refine ⟨hs'.1, List.pairwise_cons.2 ⟨hhi, hs'.2.1⟩, fun x hx y hy => ?_⟩
  rcases List.mem_cons.1 hy with rfl | hy
  · exact hlo x hx
  · exact hs'.2.2 x hx y hy

theorem spendM_fs (m : DM) : (spendM m).1.fs = m.fs ∧ (spendM m).1.room = m.room := by
  unfold spendM
  split
  · exact ⟨rfl, rfl⟩
  · split <;> exact ⟨rfl, rfl⟩

theorem DInv.spend {m : DM} (h : DInv m) : DInv (spendM m).1 := by
  obtain ⟨h1, h2, h3, h4, h5, h6, h7, h8⟩ := h
  unfold spendM
  split
  · exact ⟨h1, h2, h3, h4, h5, h6, h7, h8⟩
  · rename_i hne
    split
    · rename_i ha
      refine ⟨h1, h2, h3, h4, h5, h6, ?_, fun _ => ?_⟩
      · have := h8 ha
        unfold i64 at h7 ⊢
        simp only; omega
      · have := h8 ha
        have : ¬ m.left = 0 := fun e => hne (by simp [ha, e])
        simp only; omega
    · exact ⟨h1, h2, h3, h4, h5, h6, h7, h8⟩

/-- Other files, and all that is said of files is so of them. -/
theorem DInv.files {m : DM} (h : DInv m) {fs : List DF} (hs : Sorted fs) (hf : ∀ f ∈ fs, f ∈ m.fs ∨ (namedB f.nm = true ∧ 0 ≤ f.sy ∧ f.sy ≤ f.b.length)) (hu : (usedN fs : Int) ≤ m.room) (hl : fs.length ≤ 64) : DInv { m with fs := fs } :=
  ⟨hs, fun f hm => (hf f hm).elim (fun x => h.names f x) (fun x => x.1), fun f hm => (hf f hm).elim (fun x => h.syn f x) (fun x => x.2), hu, h.room, hl, h.left⟩

theorem getD_there {fs : List DF} {k : Key} {d : DF} (h : thereL fs k = true) : fs[findL fs k]? = some (fs.getD (findL fs k) d) ∧ (fs.getD (findL fs k) d).key = k := by
  obtain ⟨f, hf, hk⟩ := there_get h
  have : fs.getD (findL fs k) d = f := by simp [hf]
  rw [this]
  exact ⟨hf, hk⟩

theorem onFile_inv {m : DM} {nm : ByteArray} {g : Nat → DF → DM → DM × Int} (h : DInv m) (hg : ∀ i f, m.fs[i]? = some f → DInv (g i f m).1) : DInv (onFile m nm g).1 := by
  unfold onFile
  split
  · exact h
  split
  · exact h
  · rename_i ht
    exact hg _ _ (getD_there (by simpa using ht)).1

theorem spent_inv {m : DM} {g : DM → DM} (h : DInv m) (hg : ∀ m', DInv m' → m'.fs = m.fs → m'.room = m.room → DInv (g m')) : DInv (spent m g).1 := by
  unfold spent
  split
  · exact h.spend
  · exact hg _ h.spend (spendM_fs m).1 (spendM_fs m).2

theorem sync_inv {m : DM} (h : DInv m) (nm : ByteArray) : DInv (syncM m nm).1 := by
  refine onFile_inv h fun i f hf => spent_inv h fun m' h' e1 e2 => ?_
  rw [← e1] at hf
  have hm := List.mem_of_getElem? hf
  refine h'.files (sorted_set hf rfl h'.sorted) (fun x hx => ?_) ?_ (by rw [List.length_set]; exact h'.len)
  · rcases List.mem_or_eq_of_mem_set hx with hx | rfl
    · exact .inl hx
    · exact .inr ⟨h'.names f hm, by simp, by simp⟩
  · have := usedN_set (g := { f with sy := f.b.length }) hf
    have := h'.used
    simp only at *; omega

theorem trunc_inv {m : DM} (h : DInv m) (nm : ByteArray) (n : Int) : DInv (truncM m nm n).1 := by
  refine onFile_inv h fun i f hf => ?_
  split
  · exact h
  rename_i hn
  refine spent_inv h fun m' h' e1 e2 => ?_
  rw [← e1] at hf
  have hm := List.mem_of_getElem? hf
  have hsy := h'.syn f hm
  refine h'.files (sorted_set hf rfl h'.sorted) (fun x hx => ?_) ?_ (by rw [List.length_set]; exact h'.len)
  · rcases List.mem_or_eq_of_mem_set hx with hx | rfl
    · exact .inl hx
    · refine .inr ⟨h'.names f hm, ?_, ?_⟩ <;> simp only [List.length_take] <;> split <;> omega
  · have h5 := usedN_set (g := { f with b := f.b.take n.toNat, sy := if n < f.sy then n else f.sy }) hf
    have h6 := h'.used
    have h7 : (f.b.take n.toNat).length ≤ f.b.length := by rw [List.length_take]; omega
    simp only at h5 ⊢
    omega

theorem remove_inv {m : DM} (h : DInv m) (nm : ByteArray) : DInv (removeM m nm).1 := by
  refine onFile_inv h fun i f hf => spent_inv h fun m' h' e1 e2 => ?_
  rw [← e1] at hf
  refine h'.files (sorted_erase h'.sorted) (fun x hx => .inl (List.mem_of_mem_eraseIdx hx)) ?_ ?_
  · have := usedN_erase hf
    have := h'.used
    omega
  · rw [List.length_eraseIdx]; have := h'.len; split <;> omega

theorem move_inv {m : DM} (h : DInv m) {i : Nat} {f : DF} {to : ByteArray} (hf : m.fs[i]? = some f) (ht : namedB to = true) : DInv { m with fs := moveL m.fs i f to } := by
  have hm := List.mem_of_getElem? hf
  have hu := usedN_erase hf
  have hused := h.used
  have hlt := (List.getElem?_eq_some_iff.1 hf).1
  have hlen : (m.fs.eraseIdx i).length = m.fs.length - 1 := by rw [List.length_eraseIdx, if_pos hlt]
  have hl := h.len
  unfold moveL
  simp only
  cases hth : thereL (m.fs.eraseIdx i) to.toList with
  | true =>
    obtain ⟨g, hg, hk⟩ := there_get hth
    have hgm := List.mem_of_getElem? hg
    rw [if_pos rfl]
    refine h.files (sorted_set hg (by simp only [DF.key] at hk ⊢; exact hk.symm) (sorted_erase h.sorted)) (fun x hx => ?_) ?_ (by rw [List.length_set, hlen]; omega)
    · rcases List.mem_or_eq_of_mem_set hx with hx | rfl
      · exact .inl (List.mem_of_mem_eraseIdx hx)
      · exact .inr ⟨ht, h.syn f hm⟩
    · have := usedN_set (g := { f with nm := to }) hg
      simp only at this; omega
  | false =>
    rw [if_neg (by simp)]
    refine h.files (sorted_ins (g := { f with nm := to }) (sorted_erase h.sorted) hth) (fun x hx => ?_) ?_ ?_
    · rcases mem_insL hx with rfl | hx
      · exact .inr ⟨ht, h.syn f hm⟩
      · exact .inl (List.mem_of_mem_eraseIdx hx)
    · rw [usedN_ins]; simp only; omega
    · rw [insL_length _ _ _ (findL_le _ _), hlen]; omega

theorem rename_inv {m : DM} (h : DInv m) (nm to : ByteArray) : DInv (renameM m nm to).1 := by
  unfold renameM
  split
  · exact h
  rename_i hn
  refine onFile_inv h fun i f hf => spent_inv h fun m' h' e1 e2 => ?_
  rw [← e1] at hf
  exact move_inv h' hf (by simpa using hn)

/-- What append makes of the files. -/
def appFs (fs : List DF) (nm : ByteArray) (b : List UInt8) : List DF :=
  (if thereL fs nm.toList then fs else insL fs (findL fs nm.toList) ⟨nm, [], 0⟩).set (findL fs nm.toList) { ((if thereL fs nm.toList then fs else insL fs (findL fs nm.toList) ⟨nm, [], 0⟩).getD (findL fs nm.toList) ⟨nm, [], 0⟩) with b := ((if thereL fs nm.toList then fs else insL fs (findL fs nm.toList) ⟨nm, [], 0⟩).getD (findL fs nm.toList) ⟨nm, [], 0⟩).b ++ b }

theorem append_inv {m : DM} (h : DInv m) (nm : ByteArray) (b : List UInt8) : DInv (appendM m nm b).1 := by
  unfold appendM
  split
  · exact h
  rename_i hn
  have hn : namedB nm = true := by simpa using hn
  split
  · exact h
  split
  · exact h
  rename_i hfull
  simp only [Bool.or_eq_true, Bool.and_eq_true, Bool.not_eq_true', decide_eq_true_eq, not_or, not_and] at hfull
  obtain ⟨hf1, hf2⟩ := hfull
  split
  · exact h.spend
  have h' := h.spend
  obtain ⟨e1, e2⟩ := spendM_fs m
  show DInv { (spendM m).1 with fs := appFs m.fs nm b }
  unfold appFs
  rw [← e1]
  rw [← e2] at hf2
  rw [← e1] at hf1 hf2
  generalize (spendM m).1 = m' at *
  cases ht : thereL m'.fs nm.toList with
  | true =>
    obtain ⟨hg, hk⟩ := getD_there (d := ⟨nm, [], 0⟩) ht
    have hgm := List.mem_of_getElem? hg
    simp only [if_true]
    refine h'.files (sorted_set hg rfl h'.sorted) (fun x hx => ?_) ?_ (by rw [List.length_set]; exact h'.len)
    · rcases List.mem_or_eq_of_mem_set hx with hx | rfl
      · exact .inl hx
      · have := h'.syn _ hgm
        exact .inr ⟨(h'.names _ hgm : _), this.1, by simp only [List.length_append]; omega⟩
    · have := usedN_set (g := { (m'.fs.getD (findL m'.fs nm.toList) ⟨nm, [], 0⟩) with b := (m'.fs.getD (findL m'.fs nm.toList) ⟨nm, [], 0⟩).b ++ b }) hg
      simp only [List.length_append] at this; omega
  | false =>
    have hins := insL_get m'.fs (findL m'.fs nm.toList) ⟨nm, [], 0⟩ (findL_le _ _)
    have hgd : (insL m'.fs (findL m'.fs nm.toList) ⟨nm, [], 0⟩).getD (findL m'.fs nm.toList) ⟨nm, [], 0⟩ = ⟨nm, [], 0⟩ := by simp [hins]
    simp only [Bool.false_eq_true, if_false]
    rw [hgd]
    have hlen := insL_length m'.fs (findL m'.fs nm.toList) ⟨nm, [], 0⟩ (findL_le _ _)
    refine h'.files (sorted_set hins rfl (sorted_ins (g := ⟨nm, [], 0⟩) h'.sorted ht)) (fun x hx => ?_) ?_ ?_
    · rcases List.mem_or_eq_of_mem_set hx with hx | rfl
      · rcases mem_insL hx with rfl | hx
        · exact .inr ⟨hn, by simp, by simp⟩
        · exact .inl hx
      · exact .inr ⟨hn, by simp, by simp⟩
    · have := usedN_set (g := { (⟨nm, [], 0⟩ : DF) with b := [] ++ b }) hins
      have := usedN_ins m'.fs (findL m'.fs nm.toList) ⟨nm, [], 0⟩
      simp only [List.length_append, List.length_nil] at *; omega
    · rw [List.length_set, hlen]
      have := hf1 ht
      omega

theorem arm_inv {m : DM} (h : DInv m) {n : Int} (hn : i64 n) : DInv (armM m n) :=
  ⟨h.sorted, h.names, h.syn, h.used, h.room, h.len, hn, fun ha => by simpa [armM] using ha⟩

theorem keepN_le {f : DF} (h : 0 ≤ f.sy ∧ f.sy ≤ f.b.length) (keep : Int) : f.sy ≤ keepN keep f ∧ keepN keep f ≤ f.b.length := by
  unfold keepN
  constructor <;> split <;> split <;> omega

theorem wake_inv {m : DM} (h : DInv m) (keep : Int) : DInv (wakeM m keep) := by
  refine ⟨sorted_keys (fs := m.fs) (by simp [wakeM, wakeF, Function.comp_def]) h.sorted, fun f hf => ?_, fun f hf => ?_, ?_, h.room, by simpa [wakeM] using h.len, ⟨⟨by simp [wakeM], by simp [wakeM]⟩, fun h => by cases h⟩⟩
  · obtain ⟨g, hg, rfl⟩ := List.mem_map.1 hf
    exact h.names g hg
  · obtain ⟨g, hg, rfl⟩ := List.mem_map.1 hf
    have h1 := h.syn g hg
    have := keepN_le h1 keep
    simp only [wakeF, List.length_take]
    omega
  · have : usedN (m.fs.map (wakeF keep)) ≤ usedN m.fs := by
      generalize m.fs = fs
      induction fs with
      | nil => simp
      | cons f fs ih => simp [usedN, wakeF] at ih ⊢; omega
    have := h.used
    simp only [wakeM]; omega


end Go.Cx
