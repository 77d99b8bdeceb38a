/-
  A device's files by their names: what each call makes of them.
-/
import Derived.Test.YtifochbabgjhpaaGreatDoorCgC
namespace Go.Cx
open Go Go.Cf
set_option linter.unusedVariables false

def getF (fs : List DF) (k : Key) : Option DF := fs.find? fun f => f.key == k

theorem key_uniq {fs : List DF} (hs : Sorted fs) {i j : Nat} {f g : DF} (hf : fs[i]? = some f) (hg : fs[j]? = some g) (hk : f.key = g.key) : i = j := by
  have h1 := (find_unique hs hf rfl).1
  have h2 := (find_unique hs hg rfl).1
  rw [hk] at h1; omega
theorem getF_iff {fs : List DF} (hs : Sorted fs) {k : Key} {f : DF} : getF fs k = some f ↔ f ∈ fs ∧ f.key = k := by
  unfold getF
  constructor
  · intro h
    exact ⟨List.mem_of_find?_eq_some h, by simpa using List.find?_some h⟩
  · rintro ⟨hm, hk⟩
    cases h : fs.find? fun f => f.key == k with
    | none =>
      have := List.find?_eq_none.1 h f hm
      simp [hk] at this
    | some g =>
      have hg := List.mem_of_find?_eq_some h
      have hgk : g.key = k := by simpa using List.find?_some h
      obtain ⟨i, hi⟩ := List.mem_iff_getElem?.1 hm
      obtain ⟨j, hj⟩ := List.mem_iff_getElem?.1 hg
      obtain rfl := key_uniq hs hi hj (hk.trans hgk.symm)
      rw [hi] at hj; exact hj.symm
theorem getF_none {fs : List DF} {k : Key} : getF fs k = none ↔ ∀ f ∈ fs, f.key ≠ k := by
  unfold getF
  rw [List.find?_eq_none]
  simp
theorem getF_key {fs : List DF} {k : Key} {f : DF} (h : getF fs k = some f) : f.key = k := by simpa using List.find?_some h
theorem getF_mem {fs : List DF} {k : Key} {f : DF} (h : getF fs k = some f) : f ∈ fs := List.mem_of_find?_eq_some h
theorem getF_there {fs : List DF} (hs : Sorted fs) (k : Key) : thereL fs k = (getF fs k).isSome := by
  cases h : getF fs k with
  | some f =>
    obtain ⟨i, hi⟩ := List.mem_iff_getElem?.1 (getF_mem h)
    exact (find_unique hs hi (getF_key h)).2
  | none =>
    cases ht : thereL fs k with
    | false => rfl
    | true =>
      obtain ⟨f, hf, hk⟩ := there_get ht
      exact absurd hk (getF_none.1 h f (List.mem_of_getElem? hf))
theorem getF_at {fs : List DF} (hs : Sorted fs) {k : Key} {f : DF} (h : getF fs k = some f) : thereL fs k = true ∧ fs[findL fs k]? = some f := by
  obtain ⟨i, hi⟩ := List.mem_iff_getElem?.1 (getF_mem h)
  obtain ⟨h1, h2⟩ := find_unique hs hi (getF_key h)
  rw [h1]; exact ⟨h2, hi⟩
theorem getF_getD {fs : List DF} (hs : Sorted fs) {k : Key} {f d : DF} (h : getF fs k = some f) : fs.getD (findL fs k) d = f := by
  simp [(getF_at hs h).2]

theorem getF_set {fs : List DF} (hs : Sorted fs) {i : Nat} {f g : DF} (hf : fs[i]? = some f) (hk : g.key = f.key) (k : Key) : getF (fs.set i g) k = if k = f.key then some g else getF fs k := by
  have hs' := sorted_set hf hk hs
  have hi := (List.getElem?_eq_some_iff.1 hf).1
  split
  · rename_i e
    exact (getF_iff hs').2 ⟨List.mem_set hi g, hk.trans e.symm⟩
  · rename_i e
    apply Option.ext
    intro x
    rw [getF_iff hs', getF_iff hs]
    constructor
    · rintro ⟨hm, hx⟩
      rcases List.mem_or_eq_of_mem_set hm with hm | rfl
      · exact ⟨hm, hx⟩
      · exact absurd (hx.symm.trans hk) e
    · rintro ⟨hm, hx⟩
      refine ⟨?_, hx⟩
      obtain ⟨j, hj⟩ := List.mem_iff_getElem?.1 hm
      have : i ≠ j := by
        intro h; subst h
        rw [hf] at hj; cases hj
        exact e hx.symm
      exact List.mem_iff_getElem?.2 ⟨j, by rw [List.getElem?_set_ne this]; exact hj⟩
theorem getF_ins {fs : List DF} (hs : Sorted fs) {g : DF} (hn : thereL fs g.key = false) (k : Key) : getF (insL fs (findL fs g.key) g) k = if k = g.key then some g else getF fs k := by
  have hs' := sorted_ins hs hn
  have memI : ∀ x, x ∈ insL fs (findL fs g.key) g ↔ x = g ∨ x ∈ fs := by
    intro x
    constructor
    · exact mem_insL
    · unfold insL
      rintro (rfl | h)
      · simp
      · have : x ∈ fs.take (findL fs g.key) ++ fs.drop (findL fs g.key) := by rw [List.take_append_drop]; exact h
        rcases List.mem_append.1 this with h | h
        · exact List.mem_append_left _ h
        · exact List.mem_append_right _ (List.mem_cons_of_mem _ h)
  split
  · rename_i e
    exact (getF_iff hs').2 ⟨(memI _).2 (.inl rfl), e.symm⟩
  · rename_i e
    apply Option.ext
    intro x
    rw [getF_iff hs', getF_iff hs, memI]
    constructor
    · rintro ⟨rfl | hm, hx⟩
      · exact absurd hx.symm e
      · exact ⟨hm, hx⟩
    · rintro ⟨hm, hx⟩
      exact ⟨.inr hm, hx⟩
theorem getF_erase {fs : List DF} (hs : Sorted fs) {i : Nat} {f : DF} (hf : fs[i]? = some f) (k : Key) : getF (fs.eraseIdx i) k = if k = f.key then none else getF fs k := by
  have hs' : Sorted (fs.eraseIdx i) := sorted_erase hs
  have memE : ∀ x, x ∈ fs.eraseIdx i ↔ x ∈ fs ∧ x.key ≠ f.key := by
    intro x
    rw [List.mem_eraseIdx_iff_getElem?]
    constructor
    · rintro ⟨j, hj, hx⟩
      exact ⟨List.mem_of_getElem? hx, fun e => hj (key_uniq hs hx hf e)⟩
    · rintro ⟨hm, hk⟩
      obtain ⟨j, hj⟩ := List.mem_iff_getElem?.1 hm
      refine ⟨j, fun e => ?_, hj⟩
      subst e
      rw [hf] at hj; cases hj
      exact hk rfl
  split
  · rename_i e
    rw [getF_none]
    intro x hx hk
    exact ((memE x).1 hx).2 (hk.trans e)
  · rename_i e
    apply Option.ext
    intro x
    rw [getF_iff hs', getF_iff hs, memE]
    constructor
    · rintro ⟨⟨hm, _⟩, hx⟩; exact ⟨hm, hx⟩
    · rintro ⟨hm, hx⟩; exact ⟨⟨hm, fun h => e (hx.symm.trans h)⟩, hx⟩
theorem getF_wake (fs : List DF) (keep : Int) (k : Key) : getF (fs.map (wakeF keep)) k = (getF fs k).map (wakeF keep) := by
  unfold getF
  induction fs with
  | nil => rfl
  | cons f fs ih =>
    simp only [List.map_cons, List.find?_cons]
    have : (wakeF keep f).key = f.key := rfl
    rw [this]
    cases f.key == k
    · exact ih
    · rfl

/-! What the calls come to. -/
structure Done (m : DM) (r : DM × Int) (fs : List DF) : Prop where
  err : r.2 = 0
  files : r.1.fs = fs
  down : r.1.down = m.down
  room : r.1.room = m.room
  armed : m.armed = false → r.1.armed = false
/-- The power fails in its place, and nothing else is changed. -/
def Fails (m : DM) (r : DM × Int) : Prop := m.armed = true ∧ r = ({ m with down := true }, 10)

theorem spent_or (m : DM) (φ : List DF → List DF) : Fails m (spent m fun m => { m with fs := φ m.fs }) ∨ Done m (spent m fun m => { m with fs := φ m.fs }) (φ m.fs) := by
  unfold spent
  have hfs := spendM_fs m
  by_cases h : (m.armed && m.left == 0) = true
  · have : spendM m = ({ m with down := true }, false) := by unfold spendM; rw [if_pos h]
    rw [this]
    refine .inl ⟨?_, rfl⟩
    simp only [Bool.and_eq_true] at h
    exact h.1
  · have hs : (spendM m).2 = true ∧ (spendM m).1.down = m.down ∧ (m.armed = false → (spendM m).1.armed = false) := by
      unfold spendM
      rw [if_neg h]
      split
      · rename_i ha; exact ⟨rfl, rfl, fun e => by rw [ha] at e; cases e⟩
      · exact ⟨rfl, rfl, id⟩
    rw [hs.1]
    refine .inr ⟨rfl, ?_, hs.2.1, hfs.2, hs.2.2⟩
    show φ (spendM m).1.fs = _
    rw [hfs.1]

theorem sync_or {m : DM} (hI : DInv m) {nm : ByteArray} {f : DF} (hd : m.down = false) (hf : getF m.fs nm.toList = some f) :
    Fails m (syncM m nm) ∨ Done m (syncM m nm) (m.fs.set (findL m.fs nm.toList) { f with sy := f.b.length }) := by
  obtain ⟨h1, h2⟩ := getF_at hI.sorted hf
  have h3 := getF_getD (d := ⟨nm, [], 0⟩) hI.sorted hf
  unfold syncM onFile
  rw [if_neg (by rw [hd]; decide), if_neg (by rw [h1]; decide), h3]
  exact spent_or m fun fs => fs.set (findL m.fs nm.toList) { f with sy := f.b.length }
theorem trunc_or {m : DM} (hI : DInv m) {nm : ByteArray} {f : DF} {n : Int} (hd : m.down = false) (hf : getF m.fs nm.toList = some f) (h0 : 0 ≤ n) (hn : n ≤ f.b.length) :
    Fails m (truncM m nm n) ∨ Done m (truncM m nm n) (m.fs.set (findL m.fs nm.toList) { f with b := f.b.take n.toNat, sy := if n < f.sy then n else f.sy }) := by
  obtain ⟨h1, h2⟩ := getF_at hI.sorted hf
  have h3 := getF_getD (d := ⟨nm, [], 0⟩) hI.sorted hf
  unfold truncM onFile
  rw [if_neg (by rw [hd]; decide), if_neg (by rw [h1]; decide), h3]
  have hc : ¬ (n < 0 ∨ n > (f.b.length : Int)) := by omega
  simp only [if_neg hc]
  exact spent_or m fun fs => fs.set (findL m.fs nm.toList) { f with b := f.b.take n.toNat, sy := if n < f.sy then n else f.sy }
theorem remove_or {m : DM} (hI : DInv m) {nm : ByteArray} {f : DF} (hd : m.down = false) (hf : getF m.fs nm.toList = some f) :
    Fails m (removeM m nm) ∨ Done m (removeM m nm) (m.fs.eraseIdx (findL m.fs nm.toList)) := by
  obtain ⟨h1, h2⟩ := getF_at hI.sorted hf
  have h3 := getF_getD (d := ⟨nm, [], 0⟩) hI.sorted hf
  unfold removeM onFile
  rw [if_neg (by rw [hd]; decide), if_neg (by rw [h1]; decide), h3]
  exact spent_or m fun fs => fs.eraseIdx (findL m.fs nm.toList)
theorem gone_none {m : DM} (hI : DInv m) {nm : ByteArray} (hf : getF m.fs nm.toList = none) : thereL m.fs nm.toList = false := by rw [getF_there hI.sorted, hf]; rfl
theorem sync_none {m : DM} (hI : DInv m) {nm : ByteArray} (hd : m.down = false) (hf : getF m.fs nm.toList = none) : syncM m nm = (m, 6) := by
  unfold syncM onFile; rw [if_neg (by rw [hd]; decide), if_pos (by rw [gone_none hI hf]; rfl)]
theorem remove_none {m : DM} (hI : DInv m) {nm : ByteArray} (hd : m.down = false) (hf : getF m.fs nm.toList = none) : removeM m nm = (m, 6) := by
  unfold removeM onFile; rw [if_neg (by rw [hd]; decide), if_pos (by rw [gone_none hI hf]; rfl)]
theorem on_down {m : DM} (hd : m.down = true) (nm : ByteArray) (g : Nat → DF → DM → DM × Int) : onFile m nm g = (m, 10) := by unfold onFile; rw [if_pos hd]
theorem read_some {m : DM} (hI : DInv m) {nm : ByteArray} {f : DF} (hf : getF m.fs nm.toList = some f) : readM m nm = (f.b, 0) := by
  unfold readM
  rw [if_neg (by rw [(getF_at hI.sorted hf).1]; decide), getF_getD hI.sorted hf]
theorem read_none {m : DM} (hI : DInv m) {nm : ByteArray} (hf : getF m.fs nm.toList = none) : readM m nm = ([], 6) := by
  unfold readM; rw [if_pos (by rw [gone_none hI hf]; rfl)]

/-- Append: refused and nothing changed; the power fails; or done. -/
theorem append_or {m : DM} (hI : DInv m) {nm : ByteArray} {b : List UInt8} (hn : namedB nm = true) (hd : m.down = false) :
    (appendM m nm b = (m, 9) ∧ ((getF m.fs nm.toList = none ∧ m.fs.length = 64) ∨ (b.length : Int) > m.room - usedN m.fs)) ∨ Fails m (appendM m nm b) ∨
    (Done m (appendM m nm b) (appFs m.fs nm b) ∧ (b.length : Int) ≤ m.room - usedN m.fs ∧ (getF m.fs nm.toList = none → m.fs.length < 64)) := by
  have ht := getF_there hI.sorted nm.toList
  have hl := hI.len
  by_cases hfull : ((!(thereL m.fs nm.toList) && decide ((m.fs.length : Int) ≥ 64)) || decide ((b.length : Int) > m.room - usedN m.fs)) = true
  · left
    refine ⟨by unfold appendM; rw [if_neg (by rw [hn]; decide), if_neg (by rw [hd]; decide), if_pos hfull], ?_⟩
    simp only [Bool.or_eq_true, Bool.and_eq_true, Bool.not_eq_true', decide_eq_true_eq] at hfull
    rcases hfull with ⟨h1, h2⟩ | h
    · rw [ht] at h1
      exact .inl ⟨by simpa using h1, by omega⟩
    · exact .inr h
  · right
    have hu : appendM m nm b = spent m fun m => { m with fs := appFs m.fs nm b } := by
      unfold appendM spent
      rw [if_neg (by rw [hn]; decide), if_neg (by rw [hd]; decide), if_neg hfull]
      split
      · rfl
      · show (({ (spendM m).1 with fs := appFs m.fs nm b } : DM), (0 : Int)) = ({ (spendM m).1 with fs := appFs (spendM m).1.fs nm b }, 0)
        rw [(spendM_fs m).1]
    rw [hu]
    rcases spent_or m fun fs => appFs fs nm b with h | h
    · exact .inl h
    · refine .inr ⟨h, ?_⟩
      simp only [Bool.or_eq_true, Bool.and_eq_true, Bool.not_eq_true', decide_eq_true_eq, not_or, not_and] at hfull
      refine ⟨by omega, fun hn => ?_⟩
      have := hfull.1 (by rw [ht, hn]; rfl)
      omega
theorem getF_app {fs : List DF} (hs : Sorted fs) (nm : ByteArray) (b : List UInt8) (k : Key) :
    getF (appFs fs nm b) k = if k = nm.toList then some { ((getF fs nm.toList).getD ⟨nm, [], 0⟩) with b := ((getF fs nm.toList).getD ⟨nm, [], 0⟩).b ++ b } else getF fs k := by
  unfold appFs
  cases h : getF fs nm.toList with
  | some f =>
    obtain ⟨h1, h2⟩ := getF_at hs h
    rw [if_pos h1, getF_getD hs h]
    show getF (fs.set (findL fs nm.toList) { f with b := f.b ++ b }) k = _
    rw [getF_set (g := { f with b := f.b ++ b }) hs h2 rfl, getF_key h]; rfl
  | none =>
    have h1 : thereL fs nm.toList = false := by rw [getF_there hs, h]; rfl
    rw [h1]
    simp only [Bool.false_eq_true, if_false, Option.getD_none]
    have hins := insL_get fs (findL fs nm.toList) ⟨nm, [], 0⟩ (findL_le _ _)
    have hgd : (insL fs (findL fs nm.toList) ⟨nm, [], 0⟩).getD (findL fs nm.toList) ⟨nm, [], 0⟩ = ⟨nm, [], 0⟩ := by simp [hins]
    rw [hgd]
    show getF ((insL fs (findL fs nm.toList) ⟨nm, [], 0⟩).set (findL fs nm.toList) (⟨nm, [] ++ b, 0⟩ : DF)) k = _
    rw [getF_set (g := (⟨nm, [] ++ b, 0⟩ : DF)) (sorted_ins (g := ⟨nm, [], 0⟩) hs h1) hins rfl]
    have := getF_ins hs (g := ⟨nm, [], 0⟩) h1 k
    simp only [DF.key] at this ⊢
    rw [this]
    split <;> rfl
theorem used_app {fs : List DF} (hs : Sorted fs) (nm : ByteArray) (b : List UInt8) : usedN (appFs fs nm b) = usedN fs + b.length := by
  unfold appFs
  cases h : getF fs nm.toList with
  | some f =>
    obtain ⟨h1, h2⟩ := getF_at hs h
    rw [if_pos h1, getF_getD hs h]
    have := usedN_set (g := { f with b := f.b ++ b }) h2
    show usedN (fs.set (findL fs nm.toList) { f with b := f.b ++ b }) = _
    simp only [List.length_append] at this; omega
  | none =>
    have h1 : thereL fs nm.toList = false := by rw [getF_there hs, h]; rfl
    rw [h1]
    simp only [Bool.false_eq_true, if_false]
    have hins := insL_get fs (findL fs nm.toList) ⟨nm, [], 0⟩ (findL_le _ _)
    have hgd : (insL fs (findL fs nm.toList) ⟨nm, [], 0⟩).getD (findL fs nm.toList) ⟨nm, [], 0⟩ = ⟨nm, [], 0⟩ := by simp [hins]
    rw [hgd]
    have := usedN_set (g := (⟨nm, [] ++ b, 0⟩ : DF)) hins
    have h2 := usedN_ins fs (findL fs nm.toList) ⟨nm, [], 0⟩
    show usedN ((insL fs (findL fs nm.toList) ⟨nm, [], 0⟩).set (findL fs nm.toList) (⟨nm, [] ++ b, 0⟩ : DF)) = _
    simp only [List.length_append, List.length_nil] at this h2
    omega
theorem len_app {fs : List DF} (hs : Sorted fs) (nm : ByteArray) (b : List UInt8) : (appFs fs nm b).length = if (getF fs nm.toList).isSome then fs.length else fs.length + 1 := by
  unfold appFs
  rw [List.length_set, ← getF_there hs]
  cases h : thereL fs nm.toList with
  | true => rfl
  | false => exact insL_length _ _ _ (findL_le _ _)

theorem Done.inv_set {m : DM} {r : DM × Int} {fs : List DF} (h : Done m r fs) : r.1.fs = fs := h.files

end Go.Cx
