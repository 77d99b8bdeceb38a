/-
  A device of files, as a law of lists.
  What is so of a device stays so.
  The device: files that are found, put in, taken out.
  The device: its calls.
  The device: its calls that change it.
-/
import Derived.Test.YthnfnfhcgpnkpaaCfW
import Derived.Laws.Strings
import Derived.Test.YthnfnfhcgpnkpaaK
namespace Go.Cx
open Go Go.Cf
set_option linter.unusedVariables false

/-! Names in their order. -/
abbrev Key := List UInt8
abbrev lt (a b : Key) : Bool := Op.bytesLess a b

theorem u8_total (a b : UInt8) (h1 : ¬ a < b) (h2 : ¬ b < a) : a = b := by
  have h1' : ¬ a.toNat < b.toNat := fun h => h1 (UInt8.lt_iff_toNat_lt.2 h)
  have h2' : ¬ b.toNat < a.toNat := fun h => h2 (UInt8.lt_iff_toNat_lt.2 h)
  exact UInt8.toNat_inj.1 (by omega)

theorem lt_irrefl : ∀ a : Key, lt a a = false := by
  intro a
  induction a with
  | nil => rfl
  | cons x a ih =>
    have : ¬ x < x := fun h => by have := UInt8.lt_iff_toNat_lt.1 h; omega
    simp [lt, Op.bytesLess, this, ih]

theorem lt_trans : ∀ {a b c : Key}, lt a b = true → lt b c = true → lt a c = true := by
  intro a
  induction a with
  | nil =>
    intro b c h1 h2
    cases c with
    | nil => cases b <;> simp [lt, Op.bytesLess] at h2
    | cons => rfl
  | cons x a ih =>
    intro b c h1 h2
    cases b with
    | nil => simp [lt, Op.bytesLess] at h1
    | cons y b =>
      cases c with
      | nil => simp [lt, Op.bytesLess] at h2
      | cons z c =>
        simp only [lt, Op.bytesLess, Bool.or_eq_true, decide_eq_true_eq, Bool.and_eq_true, beq_iff_eq] at h1 h2 ⊢
        rcases h1 with h1 | ⟨rfl, h1⟩
        · rcases h2 with h2 | ⟨rfl, h2⟩
          · exact .inl (UInt8.lt_iff_toNat_lt.2 (Nat.lt_trans (UInt8.lt_iff_toNat_lt.1 h1) (UInt8.lt_iff_toNat_lt.1 h2)))
          · exact .inl h1
        · rcases h2 with h2 | ⟨rfl, h2⟩
          · exact .inl h2
          · exact .inr ⟨rfl, ih h1 h2⟩

theorem lt_total : ∀ {a b : Key}, lt a b = false → lt b a = false → a = b := by
  intro a
  induction a with
  | nil => intro b h1 _; cases b with
    | nil => rfl
    | cons => simp [lt, Op.bytesLess] at h1
  | cons x a ih =>
    intro b h1 h2
    cases b with
    | nil => simp [lt, Op.bytesLess] at h2
    | cons y b =>
      simp only [lt, Op.bytesLess, Bool.or_eq_false_iff, decide_eq_false_iff_not, Bool.and_eq_false_iff, beq_eq_false_iff_ne] at h1 h2
      have e := u8_total x y h1.1 h2.1
      subst e
      rcases h1.2 with h | h
      · exact absurd rfl h
      · rcases h2.2 with h' | h'
        · exact absurd rfl h'
        · rw [ih h h']

theorem lt_asymm {a b : Key} (h : lt a b = true) : lt b a = false := by
  cases hb : lt b a with
  | false => rfl
  | true => have := lt_trans h hb; rw [lt_irrefl] at this; cases this

theorem ba_toList_inj {x y : ByteArray} (h : x.toList = y.toList) : x = y := by
  rw [ByteArray.toList_eq, ByteArray.toList_eq] at h
  cases x; cases y
  simpa using h

structure DF where
  nm : ByteArray
  b : List UInt8
  sy : Int

abbrev DF.key (f : DF) : Key := f.nm.toList

structure DM where
  armed : Bool
  down : Bool
  left : Int
  room : Int
  fs : List DF

def usedN (fs : List DF) : Nat := (fs.map fun f => f.b.length).sum
def namedB (s : ByteArray) : Bool := decide ((s.size : Int) ≥ 1) && decide ((s.size : Int) ≤ 16)

def Sorted (fs : List DF) : Prop := fs.Pairwise fun f g => lt f.key g.key = true

/-- Where a name is, or would be. -/
def findL (fs : List DF) (k : Key) : Nat := (fs.takeWhile fun f => lt f.key k).length
def thereL (fs : List DF) (k : Key) : Bool := match fs[findL fs k]? with
  | some f => f.key == k
  | none => false

theorem findL_le (fs : List DF) (k : Key) : findL fs k ≤ fs.length := (List.takeWhile_sublist _).length_le

theorem findL_eq {fs : List DF} {k : Key} {i : Nat} (hi : i ≤ fs.length) (h1 : ∀ t f, t < i → fs[t]? = some f → lt f.key k = true) (h2 : ∀ f, fs[i]? = some f → lt f.key k = false) : findL fs k = i := by
  induction fs generalizing i with
  | nil => simp at hi; subst hi; rfl
  | cons f fs ih =>
    cases i with
    | zero =>
      have := h2 f rfl
      simp [findL, this]
    | succ i =>
      have h := h1 0 f (by omega) rfl
      have := ih (i := i) (by simpa using hi) (fun t g ht hg => h1 (t + 1) g (by omega) (by simpa using hg)) (fun g hg => h2 g (by simpa using hg))
      simp only [findL, List.takeWhile_cons, h, if_true, List.length_cons] at this ⊢
      omega

theorem findL_lt {fs : List DF} {k : Key} : ∀ {t : Nat} {f : DF}, t < findL fs k → fs[t]? = some f → lt f.key k = true := by
  induction fs with
  | nil => intro t f _ h; simp at h
  | cons g fs ih =>
    intro t f ht hf
    cases hg : lt g.key k with
    | false => simp [findL, hg] at ht
    | true =>
      cases t with
      | zero => simp at hf; subst hf; exact hg
      | succ t =>
        refine ih (t := t) ?_ (by simpa using hf)
        simp only [findL, List.takeWhile_cons, hg, if_true, List.length_cons] at ht
        simp only [findL]; omega

theorem findL_at {fs : List DF} {k : Key} {f : DF} (h : fs[findL fs k]? = some f) : lt f.key k = false := by
  induction fs with
  | nil => simp at h
  | cons g fs ih =>
    cases hg : lt g.key k with
    | false => simp [findL, hg] at h; subst h; exact hg
    | true =>
      refine ih ?_
      simpa [findL, hg] using h

theorem Sorted.get {fs : List DF} (hs : Sorted fs) {i j : Nat} {f g : DF} (hij : i < j) (hf : fs[i]? = some f) (hg : fs[j]? = some g) : lt f.key g.key = true := by
  obtain ⟨h1, rfl⟩ := List.getElem?_eq_some_iff.1 hf
  obtain ⟨h2, rfl⟩ := List.getElem?_eq_some_iff.1 hg
  exact List.pairwise_iff_getElem.1 hs i j h1 h2 hij

theorem findL_ge {fs : List DF} (hs : Sorted fs) {k : Key} {t : Nat} {f : DF} (ht : findL fs k ≤ t) (hf : fs[t]? = some f) : lt f.key k = false := by
  have hlt : t < fs.length := (List.getElem?_eq_some_iff.1 hf).1
  have hg := List.getElem?_eq_getElem (l := fs) (i := findL fs k) (by omega)
  have h0 := findL_at hg
  rcases Nat.lt_or_ge (findL fs k) t with h | h
  · have h1 := hs.get h hg hf
    cases hk : lt f.key k with
    | false => rfl
    | true => have := lt_trans h1 hk; rw [h0] at this; cases this
  · obtain rfl : t = findL fs k := by omega
    rw [hg] at hf; cases hf; exact h0

/-- The one place where a name may be. -/
theorem find_unique {fs : List DF} (hs : Sorted fs) {k : Key} {t : Nat} {f : DF} (hf : fs[t]? = some f) (hk : f.key = k) : findL fs k = t ∧ thereL fs k = true := by
  have e : findL fs k = t := by
    refine findL_eq (Nat.le_of_lt (List.getElem?_eq_some_iff.1 hf).1) (fun s g hs' hg => ?_) (fun g hg => ?_)
    · rw [← hk]; exact hs.get hs' hg hf
    · rw [hf] at hg; cases hg; rw [← hk]; exact lt_irrefl _
  refine ⟨e, ?_⟩
  unfold thereL
  rw [e, hf]
  simp [hk]

theorem there_get {fs : List DF} {k : Key} (h : thereL fs k = true) : ∃ f, fs[findL fs k]? = some f ∧ f.key = k := by
  unfold thereL at h
  split at h
  · rename_i f hf; exact ⟨f, hf, by simpa using h⟩
  · cases h

theorem not_there {fs : List DF} (hs : Sorted fs) {k : Key} (h : thereL fs k = false) : ∀ f ∈ fs, f.key ≠ k := by
  intro f hf hk
  obtain ⟨t, ht, rfl⟩ := List.getElem_of_mem hf
  have := (find_unique hs (List.getElem?_eq_getElem ht) hk).2
  rw [h] at this; cases this

/-! The calls. -/
def insL (fs : List DF) (i : Nat) (f : DF) : List DF := fs.take i ++ f :: fs.drop i

def spendM (m : DM) : DM × Bool := if m.armed && m.left == 0 then ({ m with down := true }, false) else if m.armed then ({ m with left := m.left - 1 }, true) else (m, true)

def appendM (m : DM) (nm : ByteArray) (b : List UInt8) : DM × Int :=
  if !(namedB nm) then (m, 8)
  else if m.down then (m, 10)
  else if (!(thereL m.fs nm.toList) && decide ((m.fs.length : Int) ≥ 64)) || decide ((b.length : Int) > m.room - usedN m.fs) then (m, 9)
  else if !(spendM m).2 then ((spendM m).1, 10)
  else
    let i := findL m.fs nm.toList
    let fs := if thereL m.fs nm.toList then m.fs else insL m.fs i ⟨nm, [], 0⟩
    let f := fs.getD i ⟨nm, [], 0⟩
    ({ (spendM m).1 with fs := fs.set i { f with b := f.b ++ b } }, 0)

def onFile (m : DM) (nm : ByteArray) (g : Nat → DF → DM → DM × Int) : DM × Int :=
  if m.down then (m, 10)
  else if !(thereL m.fs nm.toList) then (m, 6)
  else g (findL m.fs nm.toList) (m.fs.getD (findL m.fs nm.toList) ⟨nm, [], 0⟩) m

def spent (m : DM) (g : DM → DM) : DM × Int := if !(spendM m).2 then ((spendM m).1, 10) else (g (spendM m).1, 0)

def syncM (m : DM) (nm : ByteArray) : DM × Int := onFile m nm fun i f m => spent m fun m => { m with fs := m.fs.set i { f with sy := f.b.length } }
def truncM (m : DM) (nm : ByteArray) (n : Int) : DM × Int := onFile m nm fun i f m => if n < 0 ∨ n > f.b.length then (m, 3) else spent m fun m => { m with fs := m.fs.set i { f with b := f.b.take n.toNat, sy := if n < f.sy then n else f.sy } }
def removeM (m : DM) (nm : ByteArray) : DM × Int := onFile m nm fun i f m => spent m fun m => { m with fs := m.fs.eraseIdx i }
def moveL (fs : List DF) (i : Nat) (f : DF) (to : ByteArray) : List DF :=
  let es := fs.eraseIdx i
  let k := findL es to.toList
  if thereL es to.toList then es.set k { f with nm := to } else insL es k { f with nm := to }
def renameM (m : DM) (nm to : ByteArray) : DM × Int := if !(namedB to) then (m, 8) else onFile m nm fun i f m => spent m fun m => { m with fs := moveL m.fs i f to }
def readM (m : DM) (nm : ByteArray) : List UInt8 × Int := if !(thereL m.fs nm.toList) then ([], 6) else ((m.fs.getD (findL m.fs nm.toList) ⟨nm, [], 0⟩).b, 0)
def armM (m : DM) (n : Int) : DM := { m with armed := decide (n ≥ 0), left := n }
def keepN (keep : Int) (f : DF) : Int := f.sy + (if (f.b.length : Int) - f.sy < (if 0 > keep then 0 else keep) then (f.b.length : Int) - f.sy else (if 0 > keep then 0 else keep))
def wakeF (keep : Int) (f : DF) : DF := { f with b := f.b.take (keepN keep f).toNat, sy := keepN keep f }
def wakeM (m : DM) (keep : Int) : DM := { armed := false, down := false, left := 0, room := m.room, fs := m.fs.map (wakeF keep) }

/-- What is so of every device. -/
structure DInv (m : DM) : Prop where
  sorted : Sorted m.fs
  names : ∀ f ∈ m.fs, namedB f.nm = true
  syn : ∀ f ∈ m.fs, 0 ≤ f.sy ∧ f.sy ≤ f.b.length
  used : (usedN m.fs : Int) ≤ m.room
  room : 0 ≤ m.room ∧ m.room ≤ 16777216
  len : m.fs.length ≤ 64
  left : i64 m.left ∧ (m.armed = true → 0 ≤ m.left)

end Go.Cx

namespace Go.Cx
open Go Go.Cf
set_option linter.unusedVariables false

theorem usedN_set {fs : List DF} {i : Nat} {f g : DF} (h : fs[i]? = some f) : usedN (fs.set i g) + f.b.length = usedN fs + g.b.length := by
  induction fs generalizing i with
  | nil => simp at h
  | cons x fs ih =>
    cases i with
    | zero => simp at h; subst h; simp [usedN]; omega
    | succ i =>
      have := ih (i := i) (by simpa using h)
      simp [usedN] at this ⊢; omega

theorem usedN_erase {fs : List DF} {i : Nat} {f : DF} (h : fs[i]? = some f) : usedN (fs.eraseIdx i) + f.b.length = usedN fs := by
  induction fs generalizing i with
  | nil => simp at h
  | cons x fs ih =>
    cases i with
    | zero => simp at h; subst h; simp [usedN]; omega
    | succ i =>
      have := ih (i := i) (by simpa using h)
      simp [usedN] at this ⊢; omega

theorem usedN_ins (fs : List DF) (i : Nat) (g : DF) : usedN (insL fs i g) = usedN fs + g.b.length := by
  have e : usedN fs = usedN (fs.take i) + usedN (fs.drop i) := by
    conv => lhs; rw [← List.take_append_drop i fs]
    unfold usedN
    rw [List.map_append, List.sum_append]
  rw [e]
  simp [usedN, insL]; omega

theorem mem_insL {fs : List DF} {i : Nat} {g x : DF} (h : x ∈ insL fs i g) : x = g ∨ x ∈ fs := by
  rcases List.mem_append.1 h with h | h
  · exact .inr (List.mem_of_mem_take h)
  · rcases List.mem_cons.1 h with h | h
    · exact .inl h
    · exact .inr (List.mem_of_mem_drop h)

theorem insL_length (fs : List DF) (i : Nat) (g : DF) (h : i ≤ fs.length) : (insL fs i g).length = fs.length + 1 := by
  simp [insL]; omega

theorem insL_get (fs : List DF) (i : Nat) (g : DF) (h : i ≤ fs.length) : (insL fs i g)[i]? = some g := by
  unfold insL
  rw [List.getElem?_append_right (by simp; omega)]
  simp [Nat.min_eq_left h]

theorem sorted_keys {fs gs : List DF} (h : gs.map DF.key = fs.map DF.key) (hs : Sorted fs) : Sorted gs := by
  unfold Sorted at hs ⊢
  rw [← List.pairwise_map (f := DF.key) (R := fun a b => lt a b = true)] at hs ⊢
  rw [h]; exact hs

theorem sorted_set {fs : List DF} {i : Nat} {f g : DF} (h : fs[i]? = some f) (hk : g.key = f.key) (hs : Sorted fs) : Sorted (fs.set i g) := by
  refine sorted_keys ?_ hs
  rw [List.map_set, hk]
  apply List.ext_getElem?
  intro j
  by_cases e : i = j
  · subst e
    rw [List.getElem?_set_self (by simpa using (List.getElem?_eq_some_iff.1 h).1), List.getElem?_map, h]; rfl
  · rw [List.getElem?_set_ne e]

theorem sorted_erase {fs : List DF} {i : Nat} (hs : Sorted fs) : Sorted (fs.eraseIdx i) := List.Pairwise.sublist (List.eraseIdx_sublist _ _) hs

theorem sorted_ins {fs : List DF} {g : DF} (hs : Sorted fs) (hn : thereL fs g.key = false) : Sorted (insL fs (findL fs g.key) g) := by
  have h0 := not_there hs hn
  have e : fs = fs.take (findL fs g.key) ++ fs.drop (findL fs g.key) := (List.take_append_drop _ _).symm
  have hs' := hs
  unfold Sorted at hs'
  rw [e, List.pairwise_append] at hs'
  have hlo : ∀ x ∈ fs.take (findL fs g.key), lt x.key g.key = true := fun x hx => by
    obtain ⟨j, hj, rfl⟩ := List.getElem_of_mem hx
    have hj' : j < findL fs g.key ∧ j < fs.length := by simp at hj; omega
    rw [List.getElem_take]
    exact findL_lt hj'.1 (List.getElem?_eq_getElem hj'.2)
  have hhi : ∀ x ∈ fs.drop (findL fs g.key), lt g.key x.key = true := fun x hx => by
    have hx' := List.mem_of_mem_drop hx
    obtain ⟨j, hj, rfl⟩ := List.getElem_of_mem hx
    have hj' : findL fs g.key + j < fs.length := by simp at hj; omega
    rw [List.getElem_drop] at hx' ⊢
    have h1 := findL_ge hs (Nat.le_add_right _ j) (List.getElem?_eq_getElem hj')
    cases h2 : lt g.key fs[findL fs g.key + j].key with
    | true => rfl
    | false => exact absurd (lt_total h1 h2) (h0 _ hx')
  unfold Sorted insL
  rw [List.pairwise_append]
  refine ⟨hs'.1, List.pairwise_cons.2 ⟨hhi, hs'.2.1⟩, fun x hx y hy => ?_⟩
  rcases List.mem_cons.1 hy with rfl | hy
  · exact hlo x hx
  · exact hs'.2.2 x hx y hy

theorem spendM_fs (m : DM) : (spendM m).1.fs = m.fs ∧ (spendM m).1.room = m.room := by
  unfold spendM
  split
  · exact ⟨rfl, rfl⟩
  · split <;> exact ⟨rfl, rfl⟩

theorem DInv.spend {m : DM} (h : DInv m) : DInv (spendM m).1 := by
  obtain ⟨h1, h2, h3, h4, h5, h6, h7, h8⟩ := h
  unfold spendM
  split
  · exact ⟨h1, h2, h3, h4, h5, h6, h7, h8⟩
  · rename_i hne
    split
    · rename_i ha
      refine ⟨h1, h2, h3, h4, h5, h6, ?_, fun _ => ?_⟩
      · have := h8 ha
        unfold i64 at h7 ⊢
        simp only; omega
      · have := h8 ha
        have : ¬ m.left = 0 := fun e => hne (by simp [ha, e])
        simp only; omega
    · exact ⟨h1, h2, h3, h4, h5, h6, h7, h8⟩

/-- Other files, and all that is said of files is so of them. -/
theorem DInv.files {m : DM} (h : DInv m) {fs : List DF} (hs : Sorted fs) (hf : ∀ f ∈ fs, f ∈ m.fs ∨ (namedB f.nm = true ∧ 0 ≤ f.sy ∧ f.sy ≤ f.b.length)) (hu : (usedN fs : Int) ≤ m.room) (hl : fs.length ≤ 64) : DInv { m with fs := fs } :=
  ⟨hs, fun f hm => (hf f hm).elim (fun x => h.names f x) (fun x => x.1), fun f hm => (hf f hm).elim (fun x => h.syn f x) (fun x => x.2), hu, h.room, hl, h.left⟩

theorem getD_there {fs : List DF} {k : Key} {d : DF} (h : thereL fs k = true) : fs[findL fs k]? = some (fs.getD (findL fs k) d) ∧ (fs.getD (findL fs k) d).key = k := by
  obtain ⟨f, hf, hk⟩ := there_get h
  have : fs.getD (findL fs k) d = f := by simp [hf]
  rw [this]
  exact ⟨hf, hk⟩

theorem onFile_inv {m : DM} {nm : ByteArray} {g : Nat → DF → DM → DM × Int} (h : DInv m) (hg : ∀ i f, m.fs[i]? = some f → DInv (g i f m).1) : DInv (onFile m nm g).1 := by
  unfold onFile
  split
  · exact h
  split
  · exact h
  · rename_i ht
    exact hg _ _ (getD_there (by simpa using ht)).1

theorem spent_inv {m : DM} {g : DM → DM} (h : DInv m) (hg : ∀ m', DInv m' → m'.fs = m.fs → m'.room = m.room → DInv (g m')) : DInv (spent m g).1 := by
  unfold spent
  split
  · exact h.spend
  · exact hg _ h.spend (spendM_fs m).1 (spendM_fs m).2

theorem sync_inv {m : DM} (h : DInv m) (nm : ByteArray) : DInv (syncM m nm).1 := by
  refine onFile_inv h fun i f hf => spent_inv h fun m' h' e1 e2 => ?_
  rw [← e1] at hf
  have hm := List.mem_of_getElem? hf
  refine h'.files (sorted_set hf rfl h'.sorted) (fun x hx => ?_) ?_ (by rw [List.length_set]; exact h'.len)
  · rcases List.mem_or_eq_of_mem_set hx with hx | rfl
    · exact .inl hx
    · exact .inr ⟨h'.names f hm, by simp, by simp⟩
  · have := usedN_set (g := { f with sy := f.b.length }) hf
    have := h'.used
    simp only at *; omega

theorem trunc_inv {m : DM} (h : DInv m) (nm : ByteArray) (n : Int) : DInv (truncM m nm n).1 := by
  refine onFile_inv h fun i f hf => ?_
  split
  · exact h
  rename_i hn
  refine spent_inv h fun m' h' e1 e2 => ?_
  rw [← e1] at hf
  have hm := List.mem_of_getElem? hf
  have hsy := h'.syn f hm
  refine h'.files (sorted_set hf rfl h'.sorted) (fun x hx => ?_) ?_ (by rw [List.length_set]; exact h'.len)
  · rcases List.mem_or_eq_of_mem_set hx with hx | rfl
    · exact .inl hx
    · refine .inr ⟨h'.names f hm, ?_, ?_⟩ <;> simp only [List.length_take] <;> split <;> omega
  · have h5 := usedN_set (g := { f with b := f.b.take n.toNat, sy := if n < f.sy then n else f.sy }) hf
    have h6 := h'.used
    have h7 : (f.b.take n.toNat).length ≤ f.b.length := by rw [List.length_take]; omega
    simp only at h5 ⊢
    omega

theorem remove_inv {m : DM} (h : DInv m) (nm : ByteArray) : DInv (removeM m nm).1 := by
  refine onFile_inv h fun i f hf => spent_inv h fun m' h' e1 e2 => ?_
  rw [← e1] at hf
  refine h'.files (sorted_erase h'.sorted) (fun x hx => .inl (List.mem_of_mem_eraseIdx hx)) ?_ ?_
  · have := usedN_erase hf
    have := h'.used
    omega
  · rw [List.length_eraseIdx]; have := h'.len; split <;> omega

theorem move_inv {m : DM} (h : DInv m) {i : Nat} {f : DF} {to : ByteArray} (hf : m.fs[i]? = some f) (ht : namedB to = true) : DInv { m with fs := moveL m.fs i f to } := by
  have hm := List.mem_of_getElem? hf
  have hu := usedN_erase hf
  have hused := h.used
  have hlt := (List.getElem?_eq_some_iff.1 hf).1
  have hlen : (m.fs.eraseIdx i).length = m.fs.length - 1 := by rw [List.length_eraseIdx, if_pos hlt]
  have hl := h.len
  unfold moveL
  simp only
  cases hth : thereL (m.fs.eraseIdx i) to.toList with
  | true =>
    obtain ⟨g, hg, hk⟩ := there_get hth
    have hgm := List.mem_of_getElem? hg
    rw [if_pos rfl]
    refine h.files (sorted_set hg (by simp only [DF.key] at hk ⊢; exact hk.symm) (sorted_erase h.sorted)) (fun x hx => ?_) ?_ (by rw [List.length_set, hlen]; omega)
    · rcases List.mem_or_eq_of_mem_set hx with hx | rfl
      · exact .inl (List.mem_of_mem_eraseIdx hx)
      · exact .inr ⟨ht, h.syn f hm⟩
    · have := usedN_set (g := { f with nm := to }) hg
      simp only at this; omega
  | false =>
    rw [if_neg (by simp)]
    refine h.files (sorted_ins (g := { f with nm := to }) (sorted_erase h.sorted) hth) (fun x hx => ?_) ?_ ?_
    · rcases mem_insL hx with rfl | hx
      · exact .inr ⟨ht, h.syn f hm⟩
      · exact .inl (List.mem_of_mem_eraseIdx hx)
    · rw [usedN_ins]; simp only; omega
    · rw [insL_length _ _ _ (findL_le _ _), hlen]; omega

theorem rename_inv {m : DM} (h : DInv m) (nm to : ByteArray) : DInv (renameM m nm to).1 := by
  unfold renameM
  split
  · exact h
  rename_i hn
  refine onFile_inv h fun i f hf => spent_inv h fun m' h' e1 e2 => ?_
  rw [← e1] at hf
  exact move_inv h' hf (by simpa using hn)

/-- What append makes of the files. -/
def appFs (fs : List DF) (nm : ByteArray) (b : List UInt8) : List DF :=
  (if thereL fs nm.toList then fs else insL fs (findL fs nm.toList) ⟨nm, [], 0⟩).set (findL fs nm.toList) { ((if thereL fs nm.toList then fs else insL fs (findL fs nm.toList) ⟨nm, [], 0⟩).getD (findL fs nm.toList) ⟨nm, [], 0⟩) with b := ((if thereL fs nm.toList then fs else insL fs (findL fs nm.toList) ⟨nm, [], 0⟩).getD (findL fs nm.toList) ⟨nm, [], 0⟩).b ++ b }

theorem append_inv {m : DM} (h : DInv m) (nm : ByteArray) (b : List UInt8) : DInv (appendM m nm b).1 := by
  unfold appendM
  split
  · exact h
  rename_i hn
  have hn : namedB nm = true := by simpa using hn
  split
  · exact h
  split
  · exact h
  rename_i hfull
  simp only [Bool.or_eq_true, Bool.and_eq_true, Bool.not_eq_true', decide_eq_true_eq, not_or, not_and] at hfull
  obtain ⟨hf1, hf2⟩ := hfull
  split
  · exact h.spend
  have h' := h.spend
  obtain ⟨e1, e2⟩ := spendM_fs m
  show DInv { (spendM m).1 with fs := appFs m.fs nm b }
  unfold appFs
  rw [← e1]
  rw [← e2] at hf2
  rw [← e1] at hf1 hf2
  generalize (spendM m).1 = m' at *
  cases ht : thereL m'.fs nm.toList with
  | true =>
    obtain ⟨hg, hk⟩ := getD_there (d := ⟨nm, [], 0⟩) ht
    have hgm := List.mem_of_getElem? hg
    simp only [if_true]
    refine h'.files (sorted_set hg rfl h'.sorted) (fun x hx => ?_) ?_ (by rw [List.length_set]; exact h'.len)
    · rcases List.mem_or_eq_of_mem_set hx with hx | rfl
      · exact .inl hx
      · have := h'.syn _ hgm
        exact .inr ⟨(h'.names _ hgm : _), this.1, by simp only [List.length_append]; omega⟩
    · have := usedN_set (g := { (m'.fs.getD (findL m'.fs nm.toList) ⟨nm, [], 0⟩) with b := (m'.fs.getD (findL m'.fs nm.toList) ⟨nm, [], 0⟩).b ++ b }) hg
      simp only [List.length_append] at this; omega
  | false =>
    have hins := insL_get m'.fs (findL m'.fs nm.toList) ⟨nm, [], 0⟩ (findL_le _ _)
    have hgd : (insL m'.fs (findL m'.fs nm.toList) ⟨nm, [], 0⟩).getD (findL m'.fs nm.toList) ⟨nm, [], 0⟩ = ⟨nm, [], 0⟩ := by simp [hins]
    simp only [Bool.false_eq_true, if_false]
    rw [hgd]
    have hlen := insL_length m'.fs (findL m'.fs nm.toList) ⟨nm, [], 0⟩ (findL_le _ _)
    refine h'.files (sorted_set hins rfl (sorted_ins (g := ⟨nm, [], 0⟩) h'.sorted ht)) (fun x hx => ?_) ?_ ?_
    · rcases List.mem_or_eq_of_mem_set hx with hx | rfl
      · rcases mem_insL hx with rfl | hx
        · exact .inr ⟨hn, by simp, by simp⟩
        · exact .inl hx
      · exact .inr ⟨hn, by simp, by simp⟩
    · have := usedN_set (g := { (⟨nm, [], 0⟩ : DF) with b := [] ++ b }) hins
      have := usedN_ins m'.fs (findL m'.fs nm.toList) ⟨nm, [], 0⟩
      simp only [List.length_append, List.length_nil] at *; omega
    · rw [List.length_set, hlen]
      have := hf1 ht
      omega

theorem arm_inv {m : DM} (h : DInv m) {n : Int} (hn : i64 n) : DInv (armM m n) :=
  ⟨h.sorted, h.names, h.syn, h.used, h.room, h.len, hn, fun ha => by simpa [armM] using ha⟩

theorem keepN_le {f : DF} (h : 0 ≤ f.sy ∧ f.sy ≤ f.b.length) (keep : Int) : f.sy ≤ keepN keep f ∧ keepN keep f ≤ f.b.length := by
  unfold keepN
  constructor <;> split <;> split <;> omega

theorem wake_inv {m : DM} (h : DInv m) (keep : Int) : DInv (wakeM m keep) := by
  refine ⟨sorted_keys (fs := m.fs) (by simp [wakeM, wakeF, Function.comp_def]) h.sorted, fun f hf => ?_, fun f hf => ?_, ?_, h.room, by simpa [wakeM] using h.len, ⟨⟨by simp [wakeM], by simp [wakeM]⟩, fun h => by cases h⟩⟩
  · obtain ⟨g, hg, rfl⟩ := List.mem_map.1 hf
    exact h.names g hg
  · obtain ⟨g, hg, rfl⟩ := List.mem_map.1 hf
    have h1 := h.syn g hg
    have := keepN_le h1 keep
    simp only [wakeF, List.length_take]
    omega
  · have : usedN (m.fs.map (wakeF keep)) ≤ usedN m.fs := by
      generalize m.fs = fs
      induction fs with
      | nil => simp
      | cons f fs ih => simp [usedN, wakeF] at ih ⊢; omega
    have := h.used
    simp only [wakeM]; omega

end Go.Cx

namespace Go.Cx
open Go Go.Cf
set_option linter.unusedVariables false
variable {B : Base} {As : List HP}

/-- A file as it lies. -/
abbrev CF := ByteArray × Sl × Int
def FILE : Enc CF := ⟨fun x => [.string x.1, x.2.1.v, .int .i64 x.2.2], 3, fun _ => rfl, fun x v h => by simp at h; rcases h with rfl | rfl | rfl <;> rfl, by decide, (ByteArray.empty, ⟨none, 0, 0⟩, 0)⟩

theorem isNaN_spec (x : ByteArray) : Ct Pr F_cmp_isNaN_string_ [.string x] .one [.bool] [] emp (fun t Bs => t.1 = false ∧ Bs = []) := by
  refine spec1 c_cmp_isNaN_string_ fun B _ => ?_
  unfold cmp_isNaN_string_
  exact xret ⟨by simp, rfl⟩

def cmpL (a b : Key) : Int := if lt a b then -1 else if a = b then 0 else 1

theorem Compare_spec (x y : ByteArray) : Ct Pr F_cmp_Compare_string_ [.string x, .string y] .one [.int .i64] [] emp (fun t Bs => t.1 = cmpL x.toList y.toList ∧ Bs = []) := by
  refine spec1 c_cmp_Compare_string_ fun B _ => ?_
  unfold cmp_Compare_string_
  refine xcl (isNaN_spec x) rdb ?_
  rintro ⟨c, _⟩ _ ⟨hc, rfl⟩
  obtain rfl : c = false := hc
  refine app0 (ca1 ?_)
  refine xcl (isNaN_spec y) rdb ?_
  rintro ⟨c, _⟩ _ ⟨hc, rfl⟩
  obtain rfl : c = false := hc
  refine app0 (ca1 (xiff rfl (xiff rfl (xif (fun h => ?_) (fun h => ?_)))))
  · exact xret ⟨by simp [cmpL, lt, h], rfl⟩
  · refine xif (fun h2 => ?_) (fun h2 => ?_)
    · refine xret ⟨?_, rfl⟩
      have : ¬ x.toList = y.toList := fun e => by rw [e] at h2; simp at h2
      simp [cmpL, lt, h, this]
    · refine xret ⟨?_, rfl⟩
      have : x.toList = y.toList := by simpa [h] using h2
      show (0 : Int) = _
      rw [cmpL, this, lt_irrefl]; simp

theorem find1_spec (c : CF) (nm : ByteArray) : Ct Pr F_device_Device_find_1 [.agg #[.string c.1, c.2.1.v, .int .i64 c.2.2], .string nm] .one [.int .i64] [] emp (fun t Bs => t.1 = cmpL c.1.toList nm.toList ∧ Bs = []) := by
  refine spec1 c_device_Device_find_1 fun B _ => ?_
  unfold device_Device_find_1
  refine xnew fun b => xget (h := ?_)
  refine xcl (Compare_spec c.1 nm) rdb ?_
  rintro ⟨r, _⟩ _ ⟨hr, rfl⟩
  exact app0 (ca1 (xdrop 0 (xret ⟨hr, rfl⟩)))

theorem mid_eq (i j : Nat) (h : i + j ≤ 1000000) : IntKind.i64.wrap (Int.fdiv (IntKind.u64.wrap (IntKind.i64.wrap ((i : Int) + (j : Int)))) (2 ^ (min (Int.toNat 1) 64))) = (((i + j) / 2 : Nat) : Int) := by
  rw [wrap_id ((i : Int) + (j : Int)) (by omega) (by omega)]
  have e1 : (2 ^ IntKind.u64.bits : Int) = 18446744073709551616 := by decide
  have e3 : IntKind.u64.signed = false := rfl
  have e : IntKind.u64.wrap ((i : Int) + (j : Int)) = (i : Int) + j := by
    simp only [IntKind.wrap, e1, e3, Bool.false_and]
    simp; omega
  rw [e]
  have e4 : (2 : Int) ^ (min (Int.toNat 1) 64) = 2 := by decide
  rw [e4, Int.fdiv_eq_ediv_of_nonneg _ (by omega), wrap_id _ (by omega) (by omega)]
  omega

/-- Names of files as they lie. -/
def SameNames (cs : List CF) (fs : List DF) : Prop := cs.length = fs.length ∧ ∀ (i : Nat) (c : CF) (f : DF), cs[i]? = some c → fs[i]? = some f → c.1 = f.nm

theorem Search_spec (s : Sl) (cs : List CF) (fs : List DF) (nm : ByteArray) (hs : Sorted fs) (hn : SameNames cs fs) (hl : fs.length ≤ 64) : Ct Pr F_slices_BinarySearchFunc_L_device_file_device_file_string_ [s.v, .string nm, .func (.func F_device_Device_find_1) #[] #[]] (.tup [none, none]) [.int .i64, .bool] [Ar FILE s cs] emp
    (fun t Bs => t.1 = (findL fs nm.toList : Int) ∧ t.2.1 = thereL fs nm.toList ∧ Bs = [Ar FILE s cs]) := by
  refine spec2 c_slices_BinarySearchFunc_L_device_file_device_file_string_ fun B _ => ?_
  unfold slices_BinarySearchFunc_L_device_file_device_file_string_
  refine xlen s fun hn1 _ => ?_
  obtain ⟨hcl, hnm⟩ := hn
  refine xloop2 (fun n i j As => ∃ a b : Nat, i = (a : Int) ∧ j = (b : Int) ∧ n = b - a ∧ a ≤ b ∧ b ≤ fs.length ∧ (∀ t f, t < a → fs[t]? = some f → lt f.key nm.toList = true) ∧ (∀ t f, b ≤ t → fs[t]? = some f → lt f.key nm.toList = false) ∧ As = [Ar FILE s cs]) fs.length ⟨0, fs.length, rfl, by rw [← hcl, hn1], by omega, by omega, by omega, fun t f h => by omega, fun t f h hf => ?_, rfl⟩ ?_
  · have := (List.getElem?_eq_some_iff.1 hf).1; omega
  rintro n _ _ _ K ⟨a, b, rfl, rfl, rfl, hab, hb, hlo, hhi, rfl⟩ hK
  refine xif_dec (fun h => ?_) (fun h => ?_)
  · rw [mid_eq a b (by omega)]
    have hm1 : (a + b) / 2 < fs.length := by omega
    have hf := List.getElem?_eq_getElem (l := fs) hm1
    have hc := List.getElem?_eq_getElem (l := cs) (i := (a + b) / 2) (by omega)
    have hnm' := hnm _ _ _ hc hf
    refine xasrt (by decide) ?_
    refine xidxn (h1 := by omega) (h := fun _ _ => ?_)
    refine xgetE hc (h := ?_)
    refine xgetEj hc (h := ?_)
    refine xgetEj hc (h := ?_)
    refine xcl (find1_spec cs[(a + b) / 2] nm) rdb ?_
    rintro ⟨r, _⟩ _ ⟨hr, rfl⟩
    simp only at hr
    rw [hnm'] at hr
    subst hr
    refine app0 (ca1 (xjoin (xif_dec (fun g => ?_) (fun g => ?_))))
    · have hlt : lt fs[(a + b) / 2].key nm.toList = true := by
        unfold cmpL at g
        split at g
        · assumption
        · split at g <;> omega
      rw [wrap_succ _ (by omega)]
      refine hK (b - ((a + b) / 2 + 1)) _ _ _ (by omega) ⟨(a + b) / 2 + 1, b, rfl, rfl, rfl, by omega, hb, fun t f ht hft => ?_, hhi, rfl⟩
      rcases Nat.lt_or_ge t ((a + b) / 2) with h' | h'
      · exact lt_trans (hs.get h' hft hf) hlt
      · obtain rfl : t = (a + b) / 2 := by omega
        rw [hf] at hft; cases hft; exact hlt
    · have hge : lt fs[(a + b) / 2].key nm.toList = false := by
        cases hh : lt fs[(a + b) / 2].key nm.toList with
        | false => rfl
        | true => exact absurd (show cmpL _ _ < 0 by simp only [DF.key] at hh; simp [cmpL, hh]) g
      refine hK ((a + b) / 2 - a) _ _ _ (by omega) ⟨a, (a + b) / 2, rfl, rfl, rfl, by omega, by omega, hlo, fun t f ht hft => ?_, rfl⟩
      rcases Nat.lt_or_ge ((a + b) / 2) t with h' | h'
      · cases hh : lt f.key nm.toList with
        | false => rfl
        | true => have := lt_trans (hs.get h' hf hft) hh; rw [hge] at this; cases this
      · obtain rfl : t = (a + b) / 2 := by omega
        rw [hf] at hft; cases hft; exact hge
  · have hab' : a = b := by omega
    subst hab'
    have he : findL fs nm.toList = a := findL_eq hb hlo (fun f hf => hhi a f (Nat.le_refl _) hf)
    refine xjoin (xif_dec (fun g => ?_) (fun g => ?_))
    · have ha : a < fs.length := by omega
      have hf := List.getElem?_eq_getElem (l := fs) ha
      have hc := List.getElem?_eq_getElem (l := cs) (i := a) (by omega)
      have hnm' := hnm _ _ _ hc hf
      refine xidxn (h1 := by omega) (h := fun _ _ => ?_)
      refine xgetE hc (h := ?_)
      refine xgetEj hc (h := ?_)
      refine xgetEj hc (h := ?_)
      refine xcl (find1_spec cs[a] nm) rdb ?_
      rintro ⟨r, _⟩ _ ⟨hr, rfl⟩
      simp only at hr
      rw [hnm'] at hr
      refine app0 (ca1 (xret ⟨by rw [he], ?_, rfl⟩))
      show (r == 0) = _
      have hge := hhi a _ (Nat.le_refl _) hf
      unfold thereL
      rw [he, hf, hr]
      simp only [DF.key] at hge ⊢
      rw [Bool.eq_iff_iff]
      simp only [cmpL, hge, Bool.false_eq_true, if_false, beq_iff_eq]
      constructor
      · intro h; by_cases e : fs[a].nm.toList = nm.toList
        · exact e
        · rw [if_neg e] at h; cases h
      · intro h; rw [if_pos h]
    · refine xret ⟨by rw [he], ?_, rfl⟩
      unfold thereL
      rw [he, List.getElem?_eq_none (by omega)]

theorem overl (args : Array Value) (w : World) : (callFunc F_slices_overlaps_device_file_ args).run Pr w = ((Extern.SlicesOverlaps.overlaps #[T_L_device_file, T_L_device_file] #[T_bool] args).run Pr w).andThen fun v w' => .ok (.value v) w' :=
  run_callFunc_extern (fn := Go.Proofs.Try.f73) (by kernel_rfl) (by kernel_rfl) (by kernel_rfl) (by kernel_rfl) (by kernel_rfl) args w

theorem Insert_spec (s : Sl) (xs : List CF) (k : Nat) (bv : Nat) (x : CF) (hk : k ≤ xs.length) (hl : xs.length ≤ 1000) : Ct Pr F_slices_Insert_L_device_file_device_file_ [s.v, .int .i64 (k : Int), .slice (some ⟨bv, 0, none⟩) 1 1] .one [.slice] [Ar FILE s xs, BlkS bv [.string x.1, x.2.1.v, .int .i64 x.2.2]] emp
    (fun t Bs => Bs = [Ar FILE t.1 (xs.take k ++ x :: xs.drop k)]) := by
  refine spec1 (c_slices_Insert_L_device_file_device_file_ (v := ⟨some ⟨bv, 0, none⟩, 1, 1⟩)) fun B _ => ?_
  unfold slices_Insert_L_device_file_device_file_
  refine xlen s fun hn hc => ?_
  have hv : ∀ {As F : List HP} {φ : WP} [p : Find (BlkS bv [.string x.1, x.2.1.v, .int .i64 x.2.2]) As F], Ent B (Ar FILE ⟨some ⟨bv, 0, none⟩, 1, 1⟩ [x] :: F) φ → Ent B As φ := fun {As F φ p} h =>
    Ent.perm p.perm (xclose (fun _ hg => star_imp (fun g hg => ⟨[], blk_ar [x] 1 rfl (by simp [flat, FILE]) hg.blk⟩) hg) h)
  refine xslc (by omega) (by omega) (by omega) (by omega) (xiff rfl (xif (fun h => ?_) (fun h => ?_)))
  · have hkn : k = xs.length := by have : (k : Int) = (s.n : Int) := by simpa using h
                                   omega
    subst hkn
    refine hv ?_
    refine xapp (y := ⟨some ⟨bv, 0, none⟩, 1, 1⟩) (hb := by simp; omega) (h := fun s' => ?_)
    refine xdrop 0 (xret ?_)
    rw [List.take_length, List.drop_length]
  have hkn : k < xs.length := by have : ¬ (k : Int) = (s.n : Int) := by simpa using h
                                 omega
  have e1 : IntKind.i64.wrap ((s.n : Int) + ((1 : Nat) : Int)) = ((xs.length + 1 : Nat) : Int) := by rw [wrap_id _ (by omega) (by omega)]; omega
  have e2 : IntKind.i64.wrap ((k : Int) + ((1 : Nat) : Int)) = ((k + 1 : Nat) : Int) := by rw [wrap_id _ (by omega) (by omega)]; omega
  rw [e1]
  refine xif_dec (fun h => ?_) (fun h => ?_)
  · -- a new array
    refine xslc0 rfl (by omega) (by omega) ?_
    rw [Int.toNat_natCast]
    have e3 : IntKind.i64.wrap (((xs.length + 1 : Nat) : Int) - (k : Int)) = ((xs.length + 1 - k : Nat) : Int) := by rw [wrap_id _ (by omega) (by omega)]; omega
    rw [e3]
    refine xappz (k0 := .i64) (E := FILE) (s := ⟨s.p, k, s.c⟩) (xs := xs.take k) (by kernel_rfl) (fun w hw => ?_) (by omega) (by simp only; omega) (by simp only; omega) (h := fun s4 h4 h4c => ?_)
    · obtain ⟨g, hg, hs⟩ := hw.head
      have := (hg.read.mono hs).cut 0 k s.c (Nat.zero_le _) (by omega) hk
      rw [cut_zero, List.drop_zero] at this
      exact this
    simp only at h4
    have h4' : s4.n = xs.length + 1 := by omega
    refine xslc (by omega) (by omega) (by omega) (by omega) ?_
    simp only [Int.toNat_natCast]
    refine xfront 2 (hv (xfront 1 (xars 0 fun zs hz1 hz2 => ?_)))
    have hlt : (xs.take k).length = k := by simp; omega
    have hlx : (xs.take k ++ List.replicate (xs.length + 1 - k) FILE.zero).length = xs.length + 1 := by simp; omega
    refine xcopy (y := ⟨some ⟨bv, 0, none⟩, 1, 1⟩) (ys := [x]) (fun w hw => ?_) (xs.take k ++ [x] ++ List.replicate (xs.length - k) FILE.zero) zs (hrm := by omega) (hlk := by simp; omega) (hl := by simp; omega) (he := ?_) (h := fun n => ?_)
    · obtain ⟨g, hg, hs⟩ := hw.tail.head
      exact hg.read.mono hs
    · have hm : min [x].length (s4.n - k) = 1 := by simp; omega
      have e : List.replicate (xs.length + 1 - k) FILE.zero = FILE.zero :: List.replicate (xs.length - k) FILE.zero := by
        rw [show xs.length + 1 - k = (xs.length - k) + 1 by omega]; rfl
      have t1 : (xs.take k ++ List.replicate (xs.length + 1 - k) FILE.zero ++ zs).take k = xs.take k := by rw [List.append_assoc, List.take_left' hlt]
      have t2 : (xs.take k ++ List.replicate (xs.length + 1 - k) FILE.zero ++ zs).drop (k + 1) = List.replicate (xs.length - k) FILE.zero ++ zs := by
        have : xs.take k ++ List.replicate (xs.length + 1 - k) FILE.zero ++ zs = (xs.take k ++ [FILE.zero]) ++ (List.replicate (xs.length - k) FILE.zero ++ zs) := by rw [e]; simp
        rw [this, List.drop_left' (by rw [List.length_append, hlt]; rfl)]
      rw [hm, t1, t2]
      simp
    refine xdraw ?_
    rw [e2]
    refine xslc (by omega) (by omega) (by omega) (by omega) ?_
    refine xslc (by omega) (by omega) (by omega) (by omega) ?_
    simp only [Int.toNat_natCast]
    have hld : (xs.drop k).length = xs.length - k := by simp
    refine xcopy (y := s.cut k s.n s.c 3) (ys := xs.drop k) (fun w hw => ?_) (xs.take k ++ x :: xs.drop k) zs (hrm := by omega) (hlk := by simp only [List.length_append, List.length_take, List.length_drop, List.length_cons, List.length_nil, List.length_replicate]; omega) (hl := by simp only [List.length_append, List.length_take, List.length_drop, List.length_cons, List.length_nil, List.length_replicate]; omega) (he := ?_) (h := fun n => ?_)
    · obtain ⟨g, hg, hs⟩ := hw.tail.tail.head
      have := (hg.read.mono hs).cut k s.n s.c (by omega) hc (by omega)
      rw [← hn, List.take_length] at this
      rw [← hn]
      exact this
    · have hm : min (xs.drop k).length (s4.n - (k + 1)) = xs.length - k := by rw [hld]; omega
      have hl2 : (xs.take k ++ [x]).length = k + 1 := by rw [List.length_append, hlt]; rfl
      have t1 : (xs.take k ++ [x] ++ List.replicate (xs.length - k) FILE.zero ++ zs).take (k + 1) = xs.take k ++ [x] := by rw [List.append_assoc, List.take_left' hl2]
      have t2 : (xs.take k ++ [x] ++ List.replicate (xs.length - k) FILE.zero ++ zs).drop (k + 1 + (xs.length - k)) = zs := by
        rw [List.drop_left' (by rw [List.length_append, hl2, List.length_replicate])]
      rw [hm, t1, t2, List.take_of_length_le (l := xs.drop k) (by omega)]
      simp
    exact xar (xdrop 1 (xdrop 1 (xret rfl)))
  · -- in place
    have hroom : xs.length + 1 ≤ s.c := by omega
    refine xars 0 fun zs hz1 hz2 => ?_
    have hzl : zs ≠ [] := fun e => by subst e; simp at hz2; omega
    obtain ⟨z0, zd, rfl⟩ := List.exists_cons_of_ne_nil hzl
    refine xshift (xs.length + 1) (xs ++ [z0]) zd (by simp) (by simp) ?_
    refine xslc0 rfl (by omega) (by omega) ?_
    simp only [Int.toNat_natCast]
    rw [e2]
    refine xslc (by omega) (by first | omega | (dsimp only; omega)) (by first | omega | (dsimp only; omega)) (by first | omega | (dsimp only; omega)) ?_
    simp only [Int.toNat_natCast]
    refine xovl (e := T_device_file) overl (by kernel_rfl) (by kernel_rfl) (by simp) (by simp; omega) (by omega) (xift rfl (xdraw ?_))
    refine xslc (by omega) (by first | omega | (dsimp only; omega)) (by first | omega | (dsimp only; omega)) (by first | omega | (dsimp only; omega)) ?_
    refine xslc (by omega) (by first | omega | (dsimp only; omega)) (by first | omega | (dsimp only; omega)) (by first | omega | (dsimp only; omega)) ?_
    simp only [Int.toNat_natCast]
    have hU : (xs ++ [z0]).length = xs.length + 1 := by simp
    have hUd : (xs ++ [z0]).drop k = xs.drop k ++ [z0] := by rw [List.drop_append_of_le_length (by omega)]
    have hld : (xs.drop k).length = xs.length - k := by simp
    have hUt : ((xs ++ [z0]).take (k + 1)).length = k + 1 := by simp; omega
    refine xcopy (s := ⟨s.p, xs.length + 1, s.c⟩) (y := (⟨s.p, xs.length + 1, s.c⟩ : Sl).cut k (xs.length + 1) s.c 3) (ys := (xs ++ [z0]).drop k) (fun w hw => ?_) ((xs ++ [z0]).take (k + 1) ++ xs.drop k) zd (hrm := by omega) (hlk := by simp; omega) (hl := by simp; omega) (he := ?_) (h := fun n => ?_)
    · obtain ⟨g, hg, hs⟩ := hw.head
      have := (hg.read.mono hs).cut k (xs.length + 1) s.c (by omega) hroom (by omega)
      rw [List.take_of_length_le (by omega)] at this
      exact this
    · have hm : min ((xs ++ [z0]).drop k).length (xs.length + 1 - (k + 1)) = xs.length - k := by rw [hUd, List.length_append, hld]; simp only [List.length_singleton]; omega
      have t1 : (xs ++ [z0] ++ zd).take (k + 1) = (xs ++ [z0]).take (k + 1) := by rw [List.take_append_of_le_length (by rw [hU]; omega)]
      have t2 : (xs ++ [z0] ++ zd).drop (k + 1 + (xs.length - k)) = zd := by rw [List.drop_left' (by rw [hU]; omega)]
      have t3 : ((xs ++ [z0]).drop k).take (xs.length - k) = xs.drop k := by rw [hUd, List.take_left' hld]
      rw [hm, t1, t2, t3]
    refine xfront 1 (hv (xfront 1 ?_))
    refine xslc (by omega) (by first | omega | (dsimp only; omega)) (by first | omega | (dsimp only; omega)) (by first | omega | (dsimp only; omega)) ?_
    simp only [Int.toNat_natCast]
    refine xcopy (s := ⟨s.p, xs.length + 1, s.c⟩) (y := ⟨some ⟨bv, 0, none⟩, 1, 1⟩) (ys := [x]) (fun w hw => ?_) (xs.take k ++ x :: xs.drop k) zd (hrm := by omega) (hlk := by simp; omega) (hl := by simp; omega) (he := ?_) (h := fun n => ?_)
    · obtain ⟨g, hg, hs⟩ := hw.tail.head
      exact hg.read.mono hs
    · have hm : min [x].length (xs.length + 1 - k) = 1 := by simp; omega
      have t1 : ((xs ++ [z0]).take (k + 1) ++ xs.drop k ++ zd).take k = xs.take k := by
        rw [List.append_assoc, List.take_append_of_le_length (by rw [hUt]; omega), List.take_take, Nat.min_eq_left (by omega), List.take_append_of_le_length (by omega)]
      have t2 : ((xs ++ [z0]).take (k + 1) ++ xs.drop k ++ zd).drop (k + 1) = xs.drop k ++ zd := by rw [List.append_assoc, List.drop_left' hUt]
      rw [hm, t1, t2]
      simp
    exact xar (xdrop 1 (xret rfl))

end Go.Cx

namespace Go.Cx
open Go Go.Cf
set_option linter.unusedVariables false
variable {B : Base} {As : List HP}

def FileR (c : CF) (f : DF) : HP := fun h => c.1 = f.nm ∧ c.2.2 = f.sy ∧ Ar U8 c.2.1 f.b h
abbrev devCells (m : DM) (s : Sl) : List Value := [.bool m.armed, .bool m.down, .int .i64 m.left, .int .i64 m.room, s.v]
def DevObj (p : Option Addr) (m : DM) : HP := fun h => DInv m ∧ ∃ b s cs, p = some ⟨b, 0, none⟩ ∧ star [Blk b (devCells m s), Ar FILE s cs, Each FileR cs m.fs] h

/-- What the files that lie say of the files that are meant. -/
structure SF (cs : List CF) (fs : List DF) : Prop where
  len : cs.length = fs.length
  each : ∀ (i : Nat) (c : CF) (f : DF), cs[i]? = some c → fs[i]? = some f → c.1 = f.nm ∧ c.2.2 = f.sy ∧ c.2.1.n = f.b.length ∧ c.2.1.n ≤ c.2.1.c

theorem SF.names {cs : List CF} {fs : List DF} (h : SF cs fs) : SameNames cs fs := ⟨h.len, fun i c f a b => (h.each i c f a b).1⟩

theorem sf_of {cs : List CF} {fs : List DF} {g : Frag} (h : Each FileR cs fs g) : SF cs fs :=
  ⟨h.length, fun i c f a b => each_read (R := FileR) (S := fun c f _ => c.1 = f.nm ∧ c.2.2 = f.sy ∧ c.2.1.n = f.b.length ∧ c.2.1.n ≤ c.2.1.c) (fun _ _ _ _ h _ => h) (fun x y g ⟨h1, h2, zs, h3⟩ => ⟨h1, h2, h3.1.symm, h3.cap⟩) h a b⟩

theorem xdev (i : Nat) {p : Option Addr} {m : DM} {F : List HP} [q : Pick i As (DevObj p m) F] {φ : WP}
    (k : DInv m → ∀ b s cs, p = some ⟨b, 0, none⟩ → SF cs m.fs → s.n = cs.length → Ent B (Blk b (devCells m s) :: Ar FILE s cs :: Each FileR cs m.fs :: F) φ) : Ent B As φ := by
  refine Ent.perm q.perm ?_
  intro w hw
  obtain ⟨g, ⟨a, c, ⟨hi, b, s, cs, hp, pa⟩, pc, d, sa, sc⟩, hm, hu⟩ := hw
  have hl : SF cs m.fs ∧ s.n = cs.length := by
    obtain ⟨_, _, _, ⟨_, _, ⟨_, par⟩, ⟨_, _, pe, _⟩, _⟩, _⟩ := pa
    exact ⟨sf_of pe, par.1.symm⟩
  exact k hi b s cs hp hl.1 hl.2 w ⟨g, (star_append [_, _, _] F).2 ⟨a, c, pa, pc, d, sa, sc⟩, hm, hu⟩

theorem xdev_back (b : Nat) (s : Sl) (cs : List CF) {m : DM} {G : List HP} [q : Split [Blk b (devCells m s), Ar FILE s cs, Each FileR cs m.fs] As G] {φ : WP}
    (hi : DInv m) (k : Ent B (DevObj (some ⟨b, 0, none⟩) m :: G) φ) : Ent B As φ :=
  xfold [Blk b (devCells m s), Ar FILE s cs, Each FileR cs m.fs] (DevObj (some ⟨b, 0, none⟩) m) (fun g hg => ⟨hi, b, s, cs, rfl, hg⟩) k

/-- .. where its parts are so by reckoning. -/
theorem xdev_put (i j l : Nat) {P1 P2 P3 : HP} {F F' F'' : List HP} [p : Pick i As P1 F] [q : Pick j F P2 F'] [r : Pick l F' P3 F''] {φ : WP} (b : Nat) (s : Sl) (cs : List CF) (m : DM) (hi : DInv m)
    (h : ∀ g, star [P1, P2, P3] g → star [Blk b (devCells m s), Ar FILE s cs, Each FileR cs m.fs] g) (k : Ent B (DevObj (some ⟨b, 0, none⟩) m :: F'') φ) : Ent B As φ :=
  xfold3 i j l (fun g hg => ⟨hi, b, s, cs, rfl, h g hg⟩) k

theorem find_raw (b : Nat) (s : Sl) (cs : List CF) (m : DM) (nm : ByteArray) (hs : Sorted m.fs) (sf : SF cs m.fs) (hl : m.fs.length ≤ 64) :
    Ct Pr F_device_Device_find [.pointer (some ⟨b, 0, none⟩), .string nm] (.tup [none, none]) [.int .i64, .bool] [Blk b (devCells m s), Ar FILE s cs] emp
    (fun t Bs => t.1 = (findL m.fs nm.toList : Int) ∧ t.2.1 = thereL m.fs nm.toList ∧ Bs = [Blk b (devCells m s), Ar FILE s cs]) := by
  refine spec2 c_device_Device_find fun B _ => ?_
  unfold device_Device_find
  refine xnil (xget (h := ?_))
  refine xcl (Search_spec s cs m.fs nm hs sf.names hl) rdb ?_
  rintro ⟨r, c, _⟩ _ ⟨h1, h2, rfl⟩
  exact app1 (ca2 (xfront 1 (xret ⟨h1, h2, rfl⟩)))

theorem named_spec (nm : ByteArray) : Ct Pr F_device_named [.string nm] .one [.bool] [] emp (fun t Bs => t.1 = namedB nm ∧ Bs = []) := by
  refine spec1 c_device_named fun B _ => ?_
  unfold device_named
  exact xret ⟨rfl, rfl⟩

theorem spend_raw (b : Nat) (s : Sl) (m : DM) (hl : i64 m.left) (ha : m.armed = true → 0 ≤ m.left) :
    Ct Pr F_device_power_spend [.pointer (some ⟨b, 0, none⟩)] .one [.bool] [Blk b (devCells m s)] emp (fun t Bs => t.1 = (spendM m).2 ∧ Bs = [Blk b (devCells (spendM m).1 s)]) := by
  refine spec1 c_device_power_spend fun B _ => ?_
  unfold device_power_spend
  refine xnil (xget (h := ?_))
  refine xjoin1 (fun x As' => x = (m.armed && m.left == 0) ∧ As' = [Blk b (devCells m s)]) ?_ ?_
  · intro J hJ
    refine xif (fun h => xnil (xget (h := hJ _ _ ⟨?_, rfl⟩))) (fun h => hJ _ _ ⟨?_, rfl⟩)
    · have h' : m.armed = true := h
      simp [h']
    · have h' : m.armed = false := h
      simp [h']
  · rintro _ _ ⟨rfl, rfl⟩
    refine xif (fun h => ?_) (fun h => ?_)
    · refine xnil (xset (h := xret ⟨?_, ?_⟩))
      · simp [spendM, h]
      · simp [spendM, h, devCells]
    · refine xnil (xget (h := xjoin (xif (fun g => ?_) (fun g => ?_))))
      · have g' : m.armed = true := g
        have h0 := ha g'
        have hne : ¬ m.left = 0 := fun e => by simp [g', e] at h
        refine xnil (xget (h := xnil (xset (h := ?_))))
        have e1 : IntKind.i64.wrap (m.left - 1) = m.left - 1 := by unfold i64 at hl; exact wrap_id _ (by omega) (by omega)
        have hsp : spendM m = ({ m with left := m.left - 1 }, true) := by
          unfold spendM
          rw [h, if_neg (by simp), if_pos g']
        rw [hsp, e1]
        exact xret ⟨rfl, rfl⟩
      · have g' : m.armed = false := g
        refine xret ⟨?_, ?_⟩ <;> simp [spendM, g']

theorem New_spec (room : Int) : Ct Pr F_device_New [.int .i64 room] (.tup [none, none]) [.ptr, .int .i64] [] emp
    (fun t Bs => (((room < 0 ∨ room > 16777216) ∧ t.1 = none ∧ t.2.1 = 3 ∧ Bs = []) ∨ (0 ≤ room ∧ room ≤ 16777216 ∧ t.2.1 = 0 ∧ (∃ b, t.1 = some ⟨b, 0, none⟩) ∧ Bs = [DevObj t.1 ⟨false, false, 0, room, []⟩]))) := by
  refine spec2 c_device_New fun B _ => ?_
  unfold device_New
  refine xif (fun h => ?_) (fun h => ?_)
  · refine xret (.inl ⟨?_, rfl, rfl, rfl⟩)
    simpa using h
  · have h' : 0 ≤ room ∧ room ≤ 16777216 := by simp at h; omega
    refine xnew fun b => xnone FILE (xadd (A := Each FileR [] []) trivial ?_)
    refine xdev_put 2 1 0 b ⟨none, 0, 0⟩ [] ⟨false, false, 0, room, []⟩ ⟨List.Pairwise.nil, by simp, by simp, by simp [usedN]; omega, h', by simp, ⟨by simp, by simp⟩, fun h => by cases h⟩ (fun _ h => h) ?_
    exact xret (.inr ⟨h'.1, h'.2, rfl, ⟨b, rfl⟩, rfl⟩)

theorem usedN_take (fs : List DF) (k : Nat) (h : k < fs.length) : usedN (fs.take (k + 1)) = usedN (fs.take k) + fs[k].b.length := by
  unfold usedN
  rw [List.take_add_one, List.getElem?_eq_getElem h, List.map_append, List.sum_append]
  simp

theorem usedN_take_le (fs : List DF) (k : Nat) : usedN (fs.take k) ≤ usedN fs := by
  conv => rhs; rw [← List.take_append_drop k fs]
  unfold usedN
  rw [List.map_append, List.sum_append]; omega

theorem Used_raw (b : Nat) (s : Sl) (cs : List CF) (m : DM) (hi : DInv m) (sf : SF cs m.fs) :
    Ct Pr F_device_Device_Used [.pointer (some ⟨b, 0, none⟩)] .one [.int .i64] [Blk b (devCells m s), Ar FILE s cs] emp (fun t Bs => t.1 = (usedN m.fs : Int) ∧ Bs = [Blk b (devCells m s), Ar FILE s cs]) := by
  refine spec1 c_device_Device_Used fun B _ => ?_
  unfold device_Device_Used
  have hu := hi.used
  have hroom := hi.room
  have hlen := hi.len
  refine xlen s fun hn _ => xnil (xget (h := ?_))
  refine xloop2 (fun n u i As => ∃ k : Nat, i = (k : Int) ∧ u = (usedN (m.fs.take k) : Int) ∧ n = m.fs.length - k ∧ k ≤ m.fs.length ∧ As = [Blk b (devCells m s), Ar FILE s cs]) m.fs.length ⟨0, rfl, rfl, rfl, by omega, rfl⟩ ?_
  rintro n _ _ _ K ⟨k, rfl, rfl, rfl, hk, rfl⟩ hK
  have hcl := sf.len
  refine xif_dec (fun h => ?_) (fun h => ?_)
  · have hf := List.getElem?_eq_getElem (l := m.fs) (i := k) (by omega)
    have hc := List.getElem?_eq_getElem (l := cs) (i := k) (by omega)
    obtain ⟨_, _, h3, _⟩ := sf.each _ _ _ hc hf
    have e := usedN_take m.fs k (by omega)
    have hle := usedN_take_le m.fs (k + 1)
    refine xidxn (h1 := by omega) (h := fun _ _ => ?_)
    refine xgetE hc (h := ?_)
    refine xgetEj hc (h := ?_)
    refine xgetEj hc (h := xnew fun b1 => xset (h := xset (h := xset (h := xget (h := ?_)))))
    rw [wrap_succ k (by omega), h3, wrap_id _ (by omega) (by omega)]
    refine xdrop 0 (hK (m.fs.length - (k + 1)) _ _ _ (by omega) ⟨k + 1, rfl, ?_, rfl, by omega, rfl⟩)
    rw [e]; show (_ : Int) = _; simp
  · have : k = m.fs.length := by omega
    subst this
    refine xret ⟨?_, rfl⟩
    rw [List.take_length]

theorem Free_raw (b : Nat) (s : Sl) (cs : List CF) (m : DM) (hi : DInv m) (sf : SF cs m.fs) :
    Ct Pr F_device_Device_Free [.pointer (some ⟨b, 0, none⟩)] .one [.int .i64] [Blk b (devCells m s), Ar FILE s cs] emp (fun t Bs => t.1 = m.room - (usedN m.fs : Int) ∧ Bs = [Blk b (devCells m s), Ar FILE s cs]) := by
  refine spec1 c_device_Device_Free fun B _ => ?_
  unfold device_Device_Free
  have hu := hi.used
  have hroom := hi.room
  refine xdraw (xnil (xget (h := ?_)))
  refine xcl (Used_raw b s cs m hi sf) rdb ?_
  rintro ⟨r, _⟩ _ ⟨hr, rfl⟩
  simp only at hr
  subst hr
  refine app2 (ca1 (xchk (h := ?_)))
  rw [wrap_id _ (by omega) (by omega)]
  exact xret ⟨rfl, rfl⟩

theorem Used_spec (p : Option Addr) (m : DM) : Ct Pr F_device_Device_Used [.pointer p] .one [.int .i64] [DevObj p m] emp (fun t Bs => t.1 = (usedN m.fs : Int) ∧ Bs = [DevObj p m]) := by
  refine spec1 (φ := XCall Pr F_device_Device_Used [.pointer p] .one [.int .i64]) id fun B _ => ?_
  refine xdev 0 fun hi b s cs hp sf hn => ?_
  subst hp
  refine xcl (Used_raw b s cs m hi sf) rdb ?_
  rintro ⟨r, _⟩ _ ⟨hr, rfl⟩
  exact app2 (ca1 (xdev_back b s cs hi (xret ⟨hr, rfl⟩)))

theorem Free_spec (p : Option Addr) (m : DM) : Ct Pr F_device_Device_Free [.pointer p] .one [.int .i64] [DevObj p m] emp (fun t Bs => t.1 = m.room - (usedN m.fs : Int) ∧ Bs = [DevObj p m]) := by
  refine spec1 (φ := XCall Pr F_device_Device_Free [.pointer p] .one [.int .i64]) id fun B _ => ?_
  refine xdev 0 fun hi b s cs hp sf hn => ?_
  subst hp
  refine xcl (Free_raw b s cs m hi sf) rdb ?_
  rintro ⟨r, _⟩ _ ⟨hr, rfl⟩
  exact app2 (ca1 (xdev_back b s cs hi (xret ⟨hr, rfl⟩)))

theorem Down_spec (p : Option Addr) (m : DM) : Ct Pr F_device_power_Down [.pointer p] .one [.bool] [DevObj p m] emp (fun t Bs => t.1 = m.down ∧ Bs = [DevObj p m]) := by
  refine spec1 c_device_power_Down fun B _ => ?_
  unfold device_power_Down
  refine xdev 0 fun hi b s cs hp sf hn => ?_
  subst hp
  exact xnil (xget (h := xdev_back b s cs hi (xret ⟨rfl, rfl⟩)))

theorem Arm_spec (p : Option Addr) (m : DM) (n : Int) (hn : i64 n) : Ct Pr F_device_power_Arm [.pointer p, .int .i64 n] (.tup []) [] [DevObj p m] emp (fun t Bs => Bs = [DevObj p (armM m n)]) := by
  refine spec0 c_device_power_Arm fun B _ => ?_
  unfold device_power_Arm
  refine xdev 0 fun hi b s cs hp sf hsn => ?_
  subst hp
  exact xnil (xset (h := xnil (xset (h := xdev_put 0 0 0 b s cs (armM m n) (arm_inv hi hn) (fun _ h => h) (xret rfl)))))

/-- Other files in the place of those. -/
theorem sorted_of {m : DM} (h : DInv m) : Sorted m.fs := h.sorted

theorem Read_spec (p : Option Addr) (m : DM) (nm : ByteArray) : Ct Pr F_device_Device_Read [.pointer p, .string nm] (.tup [none, none]) [.slice, .int .i64] [DevObj p m] emp
    (fun t Bs => t.2.1 = (readM m nm).2 ∧ Bs = [DevObj p m, Ar U8 t.1 (readM m nm).1]) := by
  refine spec2 c_device_Device_Read fun B _ => ?_
  unfold device_Device_Read
  refine xdev 0 fun hi b s cs hp sf hsn => ?_
  subst hp
  refine xcl (find_raw b s cs m nm hi.sorted sf hi.len) rdb ?_
  rintro ⟨r, c, _⟩ _ ⟨h1, h2, rfl⟩
  simp only at h1 h2
  subst h1 h2
  refine app2 (ca2 (xif (fun h => ?_) (fun h => ?_)))
  · have h' : thereL m.fs nm.toList = false := by simpa using h
    refine xnone U8 (xdev_back b s cs hi (xret ?_))
    simp [readM, h']
  · have h' : thereL m.fs nm.toList = true := by simpa using h
    obtain ⟨hf, _⟩ := getD_there (d := ⟨nm, [], 0⟩) h'
    have hlt : findL m.fs nm.toList < cs.length := by rw [sf.len]; exact (List.getElem?_eq_some_iff.1 hf).1
    have hc := List.getElem?_eq_getElem hlt
    have hb : (m.fs.getD (findL m.fs nm.toList) ⟨nm, [], 0⟩).b.length ≤ 16777216 := by
      have h1 := usedN_erase hf
      have h2 := hi.used
      have h3 := hi.room
      omega
    refine xnil (xget (h := ?_))
    refine xidxn (h1 := hlt) (h := fun _ _ => ?_)
    refine xgetEj hc (h := ?_)
    refine xcl (SClone_spec _ (m.fs.getD (findL m.fs nm.toList) ⟨nm, [], 0⟩).b (by omega)) (rds_pick 2 (fun g hg => each_read (R := FileR) (S := fun c f => RAr U8 c.2.1 f.b) (fun _ _ _ _ h s => h.mono s) (fun _ _ _ h => h.2.2.read) hg hc hf) (fun _ _ h s => h.mono s)) ?_
    rintro ⟨r, _⟩ _ rfl
    refine app1 (ca1 (xdev_back b s cs hi (xret ?_)))
    simp [readM, h']

theorem Names_spec (p : Option Addr) (m : DM) : Ct Pr F_device_Device_Names [.pointer p] .one [.slice] [DevObj p m] emp (fun t Bs => Bs = [DevObj p m, Ar ST t.1 (m.fs.map (·.nm))]) := by
  refine spec1 c_device_Device_Names fun B _ => ?_
  unfold device_Device_Names
  refine xdev 0 fun hi b s cs hp sf hsn => ?_
  subst hp
  have hlen := hi.len
  have hcl := sf.len
  refine xnil (xget (h := xnone ST ?_))
  refine xloop2 (fun n o i As => ∃ k : Nat, i = (k : Int) ∧ n = m.fs.length - k ∧ k ≤ m.fs.length ∧ As = [Ar ST o ((m.fs.map fun f : DF => f.nm).take k), Blk b (devCells m s), Ar FILE s cs, Each FileR cs m.fs]) m.fs.length ⟨0, rfl, rfl, by omega, rfl⟩ ?_
  rintro n o _ _ K ⟨k, rfl, rfl, hk, rfl⟩ hK
  refine xif_dec (fun h => ?_) (fun h => ?_)
  · have hf := List.getElem?_eq_getElem (l := m.fs) (i := k) (by omega)
    have hc := List.getElem?_eq_getElem (l := cs) (i := k) (by omega)
    obtain ⟨h1, _⟩ := sf.each _ _ _ hc hf
    refine xidxn (h1 := by omega) (h := fun _ _ => ?_)
    refine xgetE hc (h := ?_)
    refine xgetEj hc (h := ?_)
    refine xgetEj hc (h := xnew fun b1 => xset (h := xset (h := xset (h := xget (h := xnew fun b2 => ?_)))))
    refine xapp1 cs[k].1 (hb := by simp; omega) (h := fun s' => ?_)
    rw [wrap_succ k (by omega)]
    refine xdrop 0 (hK (m.fs.length - (k + 1)) _ _ _ (by omega) ⟨k + 1, rfl, rfl, by omega, ?_⟩)
    rw [List.take_add_one, List.getElem?_map, hf, h1]; rfl
  · have : k = m.fs.length := by omega
    subst this
    rw [List.take_of_length_le (by simp)]
    exact xdev_back b s cs hi (xret rfl)

end Go.Cx

namespace Go.Cx
open Go Go.Cf
set_option linter.unusedVariables false
variable {B : Base} {As : List HP}

theorem onFile_down {m : DM} {nm : ByteArray} {g : Nat → DF → DM → DM × Int} (h : m.down = true) : onFile m nm g = (m, 10) := by simp [onFile, h]
theorem onFile_none {m : DM} {nm : ByteArray} {g : Nat → DF → DM → DM × Int} (h : m.down = false) (ht : thereL m.fs nm.toList = false) : onFile m nm g = (m, 6) := by simp [onFile, h, ht]
theorem onFile_ok {m : DM} {nm : ByteArray} {g : Nat → DF → DM → DM × Int} (h : m.down = false) (ht : thereL m.fs nm.toList = true) : onFile m nm g = g (findL m.fs nm.toList) (m.fs.getD (findL m.fs nm.toList) ⟨nm, [], 0⟩) m := by
  unfold onFile
  rw [h, ht]; rfl
theorem spent_no {m : DM} {g : DM → DM} (h : (spendM m).2 = false) : spent m g = ((spendM m).1, 10) := by simp [spent, h]
theorem spent_ok {m : DM} {g : DM → DM} (h : (spendM m).2 = true) : spent m g = (g (spendM m).1, 0) := by simp [spent, h]

/-- A file is another one now. -/
theorem file_set {cs : List CF} {fs : List DF} {k : Nat} {c c' : CF} {f f' : DF} (hc : cs[k]? = some c) (hf : fs[k]? = some f) (h : ∀ g, FileR c f g → FileR c' f' g) (g : Frag) (hg : Each FileR cs fs g) : Each FileR (cs.set k c') (fs.set k f') g :=
  each_put (List.getElem?_eq_some_iff.1 hc).1 (List.getElem?_eq_some_iff.1 hf).1 (star_imp (h) (each_pick hg hc hf))

/-- What every call on a file begins with. -/
theorem on_file {p : Option Addr} {m : DM} {nm : ByteArray} (hi : DInv m) {cs : List CF} (sf : SF cs m.fs) (ht : thereL m.fs nm.toList = true) :
    ∃ c f, cs[findL m.fs nm.toList]? = some c ∧ m.fs[findL m.fs nm.toList]? = some f ∧ m.fs.getD (findL m.fs nm.toList) ⟨nm, [], 0⟩ = f ∧ c.1 = f.nm ∧ c.2.2 = f.sy ∧ c.2.1.n = f.b.length ∧ c.2.1.n ≤ c.2.1.c ∧ f.b.length ≤ 16777216 ∧ 0 ≤ f.sy ∧ f.sy ≤ f.b.length := by
  obtain ⟨hf, _⟩ := getD_there (d := ⟨nm, [], 0⟩) ht
  have hlt : findL m.fs nm.toList < cs.length := by rw [sf.len]; exact (List.getElem?_eq_some_iff.1 hf).1
  have hc := List.getElem?_eq_getElem hlt
  obtain ⟨h1, h2, h3, h4⟩ := sf.each _ _ _ hc hf
  have h5 := hi.syn _ (List.mem_of_getElem? hf)
  refine ⟨_, _, hc, hf, rfl, h1, h2, h3, h4, ?_, h5.1, h5.2⟩
  have h1 := usedN_erase hf
  have h2 := hi.used
  have h3 := hi.room
  omega

theorem Sync_spec (p : Option Addr) (m : DM) (nm : ByteArray) : Ct Pr F_device_Device_Sync [.pointer p, .string nm] .one [.int .i64] [DevObj p m] emp
    (fun t Bs => t.1 = (syncM m nm).2 ∧ Bs = [DevObj p (syncM m nm).1]) := by
  refine spec1 c_device_Device_Sync fun B _ => ?_
  unfold device_Device_Sync
  refine xdev 0 fun hi b s cs hp sf hsn => ?_
  subst hp
  have hinv := sync_inv hi nm
  unfold syncM at hinv ⊢
  refine xcl (find_raw b s cs m nm hi.sorted sf hi.len) rdb ?_
  rintro ⟨r, c, _⟩ _ ⟨h1, h2, rfl⟩
  simp only at h1 h2
  subst h1 h2
  refine app2 (ca2 (xnil (xget (h := xif (fun hd => ?_) (fun hd => xif (fun ht => ?_) (fun ht => ?_))))))
  · rw [onFile_down hd]
    exact xdev_back b s cs hi (xret ⟨rfl, rfl⟩)
  · rw [onFile_none hd (by simpa using ht)]
    exact xdev_back b s cs hi (xret ⟨rfl, rfl⟩)
  have ht : thereL m.fs nm.toList = true := by simpa using ht
  rw [onFile_ok hd ht] at hinv ⊢
  obtain ⟨c, f, hc, hf, hgd, e1, e2, e3, _, hfb, _⟩ := on_file (p := none) hi sf ht
  rw [hgd] at hinv ⊢
  obtain ⟨q1, q2⟩ := spendM_fs m
  refine xnil ?_
  refine xcl (spend_raw b s m hi.left.1 hi.left.2) rdb ?_
  rintro ⟨r, _⟩ _ ⟨hr, rfl⟩
  simp only at hr
  subst hr
  refine app1 (ca1 (xif (fun hsp => ?_) (fun hsp => ?_)))
  · rw [spent_no (by simpa using hsp)] at hinv ⊢
    exact xdev_put 0 0 0 b s cs (spendM m).1 hinv (fun _ h => by rw [q1]; exact h) (xret ⟨rfl, rfl⟩)
  rw [spent_ok (by simpa using hsp)] at hinv ⊢
  have hlt := (List.getElem?_eq_some_iff.1 hc).1
  refine xdraw (xnil (xget (h := xnil (xget (h := ?_)))))
  refine xidxn (h1 := hlt) (h := fun _ _ => ?_)
  refine xgetEj hc (h := ?_)
  refine xidxn (h1 := hlt) (h := fun _ _ => ?_)
  refine xsetEj (c.1, c.2.1, (f.b.length : Int)) hc (hj := by decide) (hv := by simp [FILE, e3]) (h := ?_)
  refine xfold1 2 (file_set (c' := (c.1, c.2.1, (f.b.length : Int))) (f' := { f with sy := f.b.length }) hc hf (fun g h => ⟨h.1, rfl, h.2.2⟩)) ?_
  exact xdev_put 1 1 0 b s (cs.set (findL m.fs nm.toList) (c.1, c.2.1, (f.b.length : Int))) _ hinv (fun _ h => by simp only [q1]; exact h) (xret ⟨rfl, rfl⟩)


theorem ar_cut {s : Sl} {xs : List UInt8} {k : Nat} (hk : k ≤ xs.length) {g : Frag} (h : Ar U8 s xs g) : Ar U8 ⟨s.p, k, s.c⟩ (xs.take k) g := by
  obtain ⟨zs, h⟩ := h
  obtain ⟨p, n, c⟩ := s
  exact ⟨xs.drop k ++ zs, h.shift (by rw [← List.append_assoc, List.take_append_drop]) (by simp; omega)⟩

theorem Truncate_spec (p : Option Addr) (m : DM) (nm : ByteArray) (n : Int) : Ct Pr F_device_Device_Truncate [.pointer p, .string nm, .int .i64 n] .one [.int .i64] [DevObj p m] emp
    (fun t Bs => t.1 = (truncM m nm n).2 ∧ Bs = [DevObj p (truncM m nm n).1]) := by
  refine spec1 c_device_Device_Truncate fun B _ => ?_
  unfold device_Device_Truncate
  refine xdev 0 fun hi b s cs hp sf hsn => ?_
  subst hp
  have hinv := trunc_inv hi nm n
  unfold truncM at hinv ⊢
  refine xcl (find_raw b s cs m nm hi.sorted sf hi.len) rdb ?_
  rintro ⟨r, c, _⟩ _ ⟨h1, h2, rfl⟩
  simp only at h1 h2
  subst h1 h2
  refine app2 (ca2 (xnil (xget (h := xif (fun hd => ?_) (fun hd => xif (fun ht => ?_) (fun ht => ?_))))))
  · rw [onFile_down hd]
    exact xdev_back b s cs hi (xret ⟨rfl, rfl⟩)
  · rw [onFile_none hd (by simpa using ht)]
    exact xdev_back b s cs hi (xret ⟨rfl, rfl⟩)
  have ht : thereL m.fs nm.toList = true := by simpa using ht
  rw [onFile_ok hd ht] at hinv ⊢
  obtain ⟨c, f, hc, hf, hgd, e1, e2, e3, e4, hfb, _, _⟩ := on_file (p := none) hi sf ht
  rw [hgd] at hinv ⊢
  have hlt := (List.getElem?_eq_some_iff.1 hc).1
  obtain ⟨q1, q2⟩ := spendM_fs m
  refine xjoin1 (fun x As' => x = decide (n < 0 ∨ n > f.b.length) ∧ As' = [Blk b (devCells m s), Ar FILE s cs, Each FileR cs m.fs]) ?_ ?_
  · intro J hJ
    refine xif_dec (fun h => hJ _ _ ⟨by simp [h], rfl⟩) (fun h => ?_)
    refine xnil (xget (h := ?_))
    refine xidxn (h1 := hlt) (h := fun _ _ => ?_)
    refine xgetEj hc (h := hJ _ _ ⟨?_, rfl⟩)
    rw [e3]; simp [h]
  rintro _ _ ⟨rfl, rfl⟩
  refine xif_dec (fun h => ?_) (fun h => ?_)
  · rw [if_pos h]
    exact xdev_back b s cs hi (xret ⟨rfl, rfl⟩)
  rw [if_neg h] at hinv ⊢
  refine xnil ?_
  refine xcl (spend_raw b s m hi.left.1 hi.left.2) rdb ?_
  rintro ⟨r, _⟩ _ ⟨hr, rfl⟩
  simp only at hr
  subst hr
  refine app1 (ca1 (xif (fun hsp => ?_) (fun hsp => ?_)))
  · rw [spent_no (by simpa using hsp)] at hinv ⊢
    exact xdev_put 0 0 0 b s cs (spendM m).1 hinv (fun _ h => by rw [q1]; exact h) (xret ⟨rfl, rfl⟩)
  rw [spent_ok (by simpa using hsp)] at hinv ⊢
  refine xnil (xget (h := ?_))
  refine xidxn (h1 := hlt) (h := fun _ _ => xdraw (xnil ?_))
  refine xgetEj hc (h := ?_)
  refine xslc0 rfl (by omega) (by omega) (xnil ?_)
  refine xgetEj hc (h := xnil ?_)
  refine xsetEj (c.1, ⟨c.2.1.p, n.toNat, c.2.1.c⟩, c.2.2) hc (hj := by decide) (hv := by simp [FILE]) (h := xnil ?_)
  have hc2 : (cs.set (findL m.fs nm.toList) (c.1, ⟨c.2.1.p, n.toNat, c.2.1.c⟩, c.2.2))[findL m.fs nm.toList]? = some (c.1, ⟨c.2.1.p, n.toNat, c.2.1.c⟩, c.2.2) := List.getElem?_set_self hlt
  refine xsetEj (c.1, ⟨c.2.1.p, n.toNat, c.2.1.c⟩, if n < f.sy then n else f.sy) hc2 (hj := by decide) (hv := by simp [FILE, e2]) (h := ?_)
  rw [List.set_set]
  refine xfold1 2 (file_set (c' := (c.1, ⟨c.2.1.p, n.toNat, c.2.1.c⟩, if n < f.sy then n else f.sy)) (f' := { f with b := f.b.take n.toNat, sy := if n < f.sy then n else f.sy }) hc hf (fun g h => ⟨h.1, rfl, ar_cut (by omega) h.2.2⟩)) ?_
  exact xdev_put 1 1 0 b s (cs.set (findL m.fs nm.toList) (c.1, ⟨c.2.1.p, n.toNat, c.2.1.c⟩, if n < f.sy then n else f.sy)) _ hinv (fun _ h => by simp only [q1]; exact h) (xret ⟨rfl, rfl⟩)

theorem each_split {α β : Type} {R : α → β → HP} : ∀ (k : Nat) {xs : List α} {ys : List β} {g : Frag}, Each R xs ys g → star [Each R (xs.take k) (ys.take k), Each R (xs.drop k) (ys.drop k)] g := by
  intro k
  induction k with
  | zero =>
    intro xs ys g h
    exact ⟨fun _ => none, g, (trivial : Each R [] [] _), star_in h, fun _ => .inl rfl, fun _ _ e => (by cases e), Sub.refl _⟩
  | succ k ih =>
    intro xs ys g h
    cases xs with
    | nil =>
      cases ys with
      | cons => exact h.elim
      | nil => exact ⟨fun _ => none, g, (trivial : Each R [] [] _), star_in h, fun _ => .inl rfl, fun _ _ e => (by cases e), Sub.refl _⟩
    | cons x xs =>
      cases ys with
      | nil => exact h.elim
      | cons y ys =>
        have h1 : star [R x y, Each R (xs.take k) (ys.take k), Each R (xs.drop k) (ys.drop k)] g := star_cons (l := [Each R xs ys]) (fun g hg => by
          obtain ⟨a, b, pa, _, _, sa, _⟩ := hg
          exact star_mono _ (ih pa) sa) h
        exact star_fold1 (l := [R x y, Each R (xs.take k) (ys.take k)]) (fun g hg => hg) h1

theorem each_ins {α β : Type} {R : α → β → HP} {x : α} {y : β} (k : Nat) {xs : List α} {ys : List β} {g : Frag} (h : star [R x y, Each R xs ys] g) : Each R (xs.take k ++ x :: xs.drop k) (ys.take k ++ y :: ys.drop k) g := by
  have h1 : star [R x y, Each R (xs.take k) (ys.take k), Each R (xs.drop k) (ys.drop k)] g := star_cons (l := [Each R xs ys]) (fun g hg => by
    obtain ⟨a, b, pa, _, _, sa, _⟩ := hg
    exact star_mono _ (each_split k pa) sa) h
  have h2 : star [Each R (xs.take k) (ys.take k), R x y, Each R (xs.drop k) (ys.drop k)] g := star_swap h1
  refine each_app (star_cons (l' := [Each R (x :: xs.drop k) (y :: ys.drop k)]) (fun g hg => star_in hg) h2)


/-- The files ahead of the bytes: with one of that name. -/
def withF (m : DM) (nm : ByteArray) : List DF := if thereL m.fs nm.toList then m.fs else insL m.fs (findL m.fs nm.toList) ⟨nm, [], 0⟩

theorem withF_get (m : DM) (nm : ByteArray) : ∃ f, (withF m nm)[findL m.fs nm.toList]? = some f ∧ (withF m nm).getD (findL m.fs nm.toList) ⟨nm, [], 0⟩ = f ∧ f.b.length ≤ usedN m.fs := by
  unfold withF
  cases ht : thereL m.fs nm.toList with
  | true =>
    obtain ⟨hf, _⟩ := getD_there (d := ⟨nm, [], 0⟩) ht
    simp only [if_true]
    refine ⟨_, hf, rfl, ?_⟩
    have := usedN_erase hf
    omega
  | false =>
    have h := insL_get m.fs (findL m.fs nm.toList) ⟨nm, [], 0⟩ (findL_le _ _)
    simp only [Bool.false_eq_true, if_false]
    exact ⟨_, h, by simp [h], by simp⟩

theorem appendM_ok {m : DM} {nm : ByteArray} {bs : List UInt8} (h1 : namedB nm = true) (h2 : m.down = false) (h3 : ((!(thereL m.fs nm.toList) && decide ((m.fs.length : Int) ≥ 64)) || decide ((bs.length : Int) > m.room - usedN m.fs)) = false) (h4 : (spendM m).2 = true) :
    appendM m nm bs = ({ (spendM m).1 with fs := (withF m nm).set (findL m.fs nm.toList) { ((withF m nm).getD (findL m.fs nm.toList) ⟨nm, [], 0⟩) with b := ((withF m nm).getD (findL m.fs nm.toList) ⟨nm, [], 0⟩).b ++ bs } }, 0) := by
  unfold appendM
  rw [h1, h2, h3, h4]
  rfl

theorem Append_spec (p : Option Addr) (m : DM) (nm : ByteArray) (d : Sl) (bs : List UInt8) : Ct Pr F_device_Device_Append [.pointer p, .string nm, d.v] .one [.int .i64] [DevObj p m] (RAr U8 d bs)
    (fun t Bs => t.1 = (appendM m nm bs).2 ∧ Bs = [DevObj p (appendM m nm bs).1]) := by
  refine spec1 c_device_Device_Append fun B hr => ?_
  have fd : Fro B d U8 bs := ⟨hr⟩
  have hdn := hr.1
  unfold device_Device_Append
  refine xdev 0 fun hi b s cs hp sf hsn => ?_
  subst hp
  have hinv := append_inv hi nm bs
  have hlen := hi.len
  have hcl := sf.len
  have hu := hi.used
  have hroom := hi.room
  refine xcl (find_raw b s cs m nm hi.sorted sf hi.len) rdb ?_
  rintro ⟨r, c, _⟩ _ ⟨h1, h2, rfl⟩
  simp only at h1 h2
  subst h1 h2
  refine app2 (ca2 ?_)
  refine xcl (named_spec nm) rdb ?_
  rintro ⟨c, _⟩ _ ⟨h1, rfl⟩
  simp only at h1
  subst h1
  refine app0 (ca1 (xif (fun hn => ?_) (fun hn => ?_)))
  · have e : appendM m nm bs = (m, 8) := by unfold appendM; rw [if_pos hn]
    rw [e]
    exact xdev_back b s cs hi (xret ⟨rfl, rfl⟩)
  have hn : namedB nm = true := by simpa using hn
  refine xnil (xget (h := xif (fun hd => ?_) (fun hd => ?_)))
  · have hd : m.down = true := hd
    have e : appendM m nm bs = (m, 10) := by unfold appendM; rw [hn, hd]; rfl
    rw [e]
    exact xdev_back b s cs hi (xret ⟨rfl, rfl⟩)
  have hd : m.down = false := hd
  refine xjoin1 (fun x As' => x = (!(thereL m.fs nm.toList) && decide ((m.fs.length : Int) ≥ 64)) ∧ As' = [Blk b (devCells m s), Ar FILE s cs, Each FileR cs m.fs]) ?_ ?_
  · intro J hJ
    refine xif (fun h => xnil (xget (h := hJ _ _ ⟨?_, rfl⟩))) (fun h => hJ _ _ ⟨by rw [h]; rfl, rfl⟩)
    rw [h, hsn, hcl]; rfl
  rintro _ _ ⟨rfl, rfl⟩
  refine xjoin1 (fun x As' => x = ((!(thereL m.fs nm.toList) && decide ((m.fs.length : Int) ≥ 64)) || decide ((bs.length : Int) > m.room - usedN m.fs)) ∧ As' = [Blk b (devCells m s), Ar FILE s cs, Each FileR cs m.fs]) ?_ ?_
  · intro J hJ
    refine xif (fun h => hJ _ _ ⟨by rw [h]; rfl, rfl⟩) (fun h => ?_)
    refine xcl (Free_raw b s cs m hi sf) rdb ?_
    rintro ⟨r, _⟩ _ ⟨hr, rfl⟩
    simp only at hr
    subst hr
    refine app2 (ca1 (hJ _ _ ⟨?_, rfl⟩))
    rw [h, ← hdn]; rfl
  rintro _ _ ⟨rfl, rfl⟩
  refine xif (fun hfull => ?_) (fun hfull => ?_)
  · have e : appendM m nm bs = (m, 9) := by unfold appendM; rw [hn, hd, hfull]; rfl
    rw [e]
    exact xdev_back b s cs hi (xret ⟨rfl, rfl⟩)
  obtain ⟨q1, q2⟩ := spendM_fs m
  refine xnil ?_
  refine xcl (spend_raw b s m hi.left.1 hi.left.2) rdb ?_
  rintro ⟨r, _⟩ _ ⟨hr, rfl⟩
  simp only at hr
  subst hr
  refine app1 (ca1 (xif (fun hsp => ?_) (fun hsp => ?_)))
  · have hsp : (spendM m).2 = false := by simpa using hsp
    have e : appendM m nm bs = ((spendM m).1, 10) := by unfold appendM; rw [hn, hd, hfull, hsp]; rfl
    rw [e] at hinv ⊢
    exact xdev_put 0 0 0 b s cs (spendM m).1 hinv (fun _ h => by rw [q1]; exact h) (xret ⟨rfl, rfl⟩)
  have hsp : (spendM m).2 = true := by simpa using hsp
  rw [appendM_ok hn hd hfull hsp] at hinv ⊢
  have hbs : (bs.length : Int) ≤ m.room - usedN m.fs := by
    have := (Bool.or_eq_false_iff.1 hfull).2
    simpa using this
  refine xjoin0 (fun As' => ∃ s' cs', As' = [Blk b (devCells (spendM m).1 s'), Ar FILE s' cs', Each FileR cs' (withF m nm)]) ?_ ?_
  · intro J hJ
    refine xif (fun h => ?_) (fun h => ?_)
    · have ht : thereL m.fs nm.toList = false := by simpa using h
      have hle := findL_le m.fs nm.toList
      refine xnil (xget (h := xnewS fun b1 => ?_))
      refine xcl (Insert_spec s cs (findL m.fs nm.toList) b1 (nm, ⟨none, 0, 0⟩, 0) (by omega) (by omega)) rdb ?_
      rintro ⟨s2, _⟩ _ rfl
      refine app1 (ca1 (xnil (xset (h := ?_))))
      refine xadd (A := FileR (nm, ⟨none, 0, 0⟩, 0) ⟨nm, [], 0⟩) ⟨rfl, rfl, [], rfl, rfl, .inl ⟨rfl, rfl⟩⟩ ?_
      refine xfold2 0 2 (Q := Each FileR (cs.take (findL m.fs nm.toList) ++ (nm, ⟨none, 0, 0⟩, 0) :: cs.drop (findL m.fs nm.toList)) (withF m nm)) (fun g hg => ?_) ?_
      · unfold withF
        rw [ht]
        exact each_ins _ hg
      · exact xuse [Blk b (devCells (spendM m).1 s2), Ar FILE s2 (cs.take (findL m.fs nm.toList) ++ (nm, ⟨none, 0, 0⟩, 0) :: cs.drop (findL m.fs nm.toList)), Each FileR (cs.take (findL m.fs nm.toList) ++ (nm, ⟨none, 0, 0⟩, 0) :: cs.drop (findL m.fs nm.toList)) (withF m nm)] (hJ _ ⟨s2, _, rfl⟩)
    · have ht : thereL m.fs nm.toList = true := by simpa using h
      refine hJ _ ⟨s, cs, ?_⟩
      unfold withF
      rw [ht]; rfl
  rintro _ ⟨s', cs', rfl⟩
  obtain ⟨f, hf, hgd, hfu⟩ := withF_get m nm
  rw [hgd] at hinv ⊢
  refine xfact 2 (fun g hg => sf_of hg) fun sf' => ?_
  have hlt : findL m.fs nm.toList < cs'.length := by rw [sf'.len]; exact (List.getElem?_eq_some_iff.1 hf).1
  have hc := List.getElem?_eq_getElem hlt
  generalize cs'[findL m.fs nm.toList] = c at hc
  obtain ⟨e1, e2, e3, e4⟩ := sf'.each _ _ _ hc hf
  generalize findL m.fs nm.toList = i at *
  refine xdraw (xnil (xget (h := xnil (xget (h := ?_)))))
  refine xidxn (h1 := hlt) (h := fun _ _ => ?_)
  refine xgetEj hc (h := ?_)
  refine xunf 2 [FileR c f, Each FileR (cs'.eraseIdx i) ((withF m nm).eraseIdx i)] (fun g hg => each_pick hg hc hf) (app2 ?_)
  refine xfold1 (Q := Ar U8 c.2.1 f.b) 0 (fun g hg => hg.2.2) ?_
  refine xapp (y := d) (hb := by omega) (h := fun s6 => xchk (h := ?_))
  refine xidxn (h1 := hlt) (h := fun _ _ => ?_)
  refine xsetEj (c.1, s6, c.2.2) hc (hj := by decide) (hv := rfl) (h := ?_)
  refine xfold2 0 0 (Q := Each FileR (cs'.set i (c.1, s6, c.2.2)) ((withF m nm).set i { f with b := f.b ++ bs })) (fun g hg => ?_) ?_
  · exact each_put hlt (List.getElem?_eq_some_iff.1 hf).1 (star_imp (P := Ar U8 s6 (f.b ++ bs)) (fun q hq => (⟨e1, e2, hq⟩ : FileR (c.1, s6, c.2.2) { f with b := f.b ++ bs } q)) hg)
  exact xdev_put 1 1 0 b s' (cs'.set i (c.1, s6, c.2.2)) _ hinv (fun _ h => h) (xret ⟨rfl, rfl⟩)

theorem keep_eq {f : DF} (keep : Int) (h : 0 ≤ f.sy ∧ f.sy ≤ f.b.length) (hb : f.b.length ≤ 16777216) :
    IntKind.i64.wrap (f.sy + (if IntKind.i64.wrap ((f.b.length : Int) - f.sy) < if 0 > keep then 0 else keep then IntKind.i64.wrap ((f.b.length : Int) - f.sy) else if 0 > keep then 0 else keep)) = keepN keep f := by
  rw [wrap_id ((f.b.length : Int) - f.sy) (by omega) (by omega)]
  have := keepN_le h keep
  unfold keepN at this ⊢
  rw [wrap_id _ (by omega) (by omega)]

theorem Wake_spec (p : Option Addr) (m : DM) (keep : Int) : Ct Pr F_device_Device_Wake [.pointer p, .int .i64 keep] (.tup []) [] [DevObj p m] emp (fun t Bs => Bs = [DevObj p (wakeM m keep)]) := by
  refine spec0 c_device_Device_Wake fun B _ => ?_
  unfold device_Device_Wake
  refine xdev 0 fun hi b s cs hp sf hsn => ?_
  subst hp
  have hinv := wake_inv hi keep
  have hlen := hi.len
  have hcl := sf.len
  refine xnil (xget (h := ?_))
  refine xloop1 (fun n i As => ∃ (k : Nat) (cs' : List CF), i = (k : Int) ∧ n = m.fs.length - k ∧ k ≤ m.fs.length ∧ cs'.length = m.fs.length ∧ As = [Blk b (devCells m s), Ar FILE s cs', Each FileR cs' ((m.fs.map (wakeF keep)).take k ++ m.fs.drop k)]) m.fs.length ⟨0, cs, rfl, rfl, by omega, hcl, rfl⟩ ?_
  rintro n _ _ K ⟨k, cs', rfl, rfl, hk, hl', rfl⟩ hK
  refine xif_dec (fun h => ?_) (fun h => ?_)
  · refine xfact 2 (fun g hg => sf_of hg) fun sf' => ?_
    have hkl : k < m.fs.length := by omega
    have hf0 := List.getElem?_eq_getElem hkl
    have hsy := hi.syn _ (List.getElem_mem hkl)
    have hfb : m.fs[k].b.length ≤ 16777216 := by
      have h1 := usedN_erase hf0
      have h2 := hi.used
      have h3 := hi.room
      omega
    have hf : ((m.fs.map (wakeF keep)).take k ++ m.fs.drop k)[k]? = some m.fs[k] := by
      rw [List.getElem?_append_right (by simp; omega)]
      simp [Nat.min_eq_left (Nat.le_of_lt hkl), hf0]
    have hset : ((m.fs.map (wakeF keep)).take k ++ m.fs.drop k).set k (wakeF keep m.fs[k]) = (m.fs.map (wakeF keep)).take (k + 1) ++ m.fs.drop (k + 1) := by
      have hlt : ((m.fs.map (wakeF keep)).take k).length = k := by simp; omega
      rw [List.drop_eq_getElem_cons hkl, List.set_append_right _ _ (by omega), hlt, Nat.sub_self, List.set_cons_zero, List.take_add_one, List.getElem?_map, hf0]
      simp only [Option.map_some, Option.toList_some, List.append_assoc, List.singleton_append]
    generalize m.fs[k] = f at *
    have hc := List.getElem?_eq_getElem (l := cs') (i := k) (by omega)
    generalize cs'[k] = c at hc
    obtain ⟨e1, e2, e3, e4⟩ := sf'.each _ _ _ hc hf
    have hkn := keepN_le hsy keep
    refine xnil (xget (h := ?_))
    refine xidxn (h1 := by omega) (h := fun _ _ => xdraw (xnil ?_))
    refine xgetEj hc (h := xnil ?_)
    refine xgetEj hc (h := xnil ?_)
    refine xgetEj hc (h := xnil ?_)
    rw [e2, e3, keep_eq keep hsy hfb]
    refine xsetEj (c.1, c.2.1, keepN keep f) hc (hj := by decide) (hv := rfl) (h := xdraw (xnil ?_))
    have hc2 : (cs'.set k (c.1, c.2.1, keepN keep f))[k]? = some (c.1, c.2.1, keepN keep f) := List.getElem?_set_self (by omega)
    refine xgetEj hc2 (h := xnil ?_)
    refine xgetEj hc2 (h := ?_)
    dsimp only
    refine xslc0 rfl (by omega) (by omega) (xnil ?_)
    refine xsetEj (c.1, ⟨c.2.1.p, (keepN keep f).toNat, c.2.1.c⟩, keepN keep f) hc2 (hj := by decide) (hv := rfl) (h := ?_)
    rw [List.set_set, wrap_succ k (by omega)]
    refine xfold1 2 (file_set (c' := (c.1, ⟨c.2.1.p, (keepN keep f).toNat, c.2.1.c⟩, keepN keep f)) (f' := wakeF keep f) hc hf (fun g h => ⟨h.1, rfl, ar_cut (by omega) h.2.2⟩)) ?_
    rw [hset]
    exact xback 0 (hK (m.fs.length - (k + 1)) _ _ (by omega) ⟨k + 1, _, rfl, rfl, by omega, by simpa using hl', rfl⟩)
  · have hk' : k = m.fs.length := by omega
    subst hk'
    rw [List.take_of_length_le (by simp), List.drop_length, List.append_nil]
    refine xnil (xset (h := xset (h := xset (h := ?_))))
    exact xdev_put 0 0 0 b s cs' (wakeM m keep) hinv (fun _ h => h) (xret rfl)

end Go.Cx
