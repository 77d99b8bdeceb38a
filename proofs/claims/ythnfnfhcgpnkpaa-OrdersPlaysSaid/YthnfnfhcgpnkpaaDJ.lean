/-
  DeviceRenamed.
-/
import Derived.Test.YthnfnfhcgpnkpaaDI
namespace Go.Cx
open Go Go.Cf
set_option linter.unusedVariables false
variable {B : Base} {As : List HP}

/-! The law of lists. -/
theorem findL_keys : ∀ {fs gs : List DF} {k : Key}, gs.map DF.key = fs.map DF.key → findL gs k = findL fs k ∧ thereL gs k = thereL fs k := by
  have h1 : ∀ {fs gs : List DF} {k : Key}, gs.map DF.key = fs.map DF.key → findL gs k = findL fs k := by
    intro fs
    induction fs with
    | nil => intro gs k h; cases gs with
      | nil => rfl
      | cons => cases h
    | cons f fs ih =>
      intro gs k h
      cases gs with
      | nil => cases h
      | cons g gs =>
        simp only [List.map_cons, List.cons.injEq] at h
        have := ih (k := k) h.2
        simp only [findL, List.takeWhile_cons, h.1] at this ⊢
        split
        · simp [this]
        · rfl
  intro fs gs k h
  refine ⟨h1 h, ?_⟩
  unfold thereL
  rw [h1 h]
  have h2 := congrArg (fun l => l[findL fs k]?) h
  simp only [List.getElem?_map] at h2
  cases hg : gs[findL fs k]? with
  | none =>
    cases hf : fs[findL fs k]? with
    | none => rfl
    | some f => rw [hg, hf] at h2; cases h2
  | some g =>
    cases hf : fs[findL fs k]? with
    | none => rw [hg, hf] at h2; cases h2
    | some f =>
      rw [hg, hf] at h2
      simp only [Option.map_some, Option.some.injEq] at h2
      simp only [h2]

theorem wake_keys (fs : List DF) (keep : Int) : (fs.map (wakeF keep)).map DF.key = fs.map DF.key := by
  rw [List.map_map]; rfl

/-- Behind a Wake all is synced. -/
theorem wake_wake (fs : List DF) (k k' : Int) (h : ∀ f ∈ fs, 0 ≤ f.sy ∧ f.sy ≤ f.b.length) : (fs.map (wakeF k)).map (wakeF k') = fs.map (wakeF k) := by
  rw [List.map_map]
  refine List.map_congr_left fun f hf => ?_
  have h1 := keepN_le (h f hf) k
  have h0 := h f hf
  have hl : ((f.b.take (keepN k f).toNat).length : Int) = keepN k f := by rw [List.length_take]; omega
  have h2 : keepN k' (wakeF k f) = keepN k f := by
    have := keepN_le (f := wakeF k f) (by simp only [wakeF]; omega) k'
    simp only [wakeF] at this ⊢
    rw [hl] at this
    simp only [keepN] at this ⊢; omega
  simp only [Function.comp]
  have e : wakeF k' (wakeF k f) = { wakeF k f with b := (wakeF k f).b.take (keepN k' (wakeF k f)).toNat, sy := keepN k' (wakeF k f) } := rfl
  rw [e, h2]
  simp only [wakeF]
  rw [List.take_take, Nat.min_self]

theorem read_there {m : DM} (h : DInv m) {nm : ByteArray} (ht : thereL m.fs nm.toList = true) : ∃ f, f ∈ m.fs ∧ m.fs[findL m.fs nm.toList]? = some f ∧ readM m nm = (f.b, 0) := by
  obtain ⟨hf, hk⟩ := getD_there (d := ⟨nm, [], 0⟩) ht
  refine ⟨_, List.mem_of_getElem? hf, hf, ?_⟩
  unfold readM
  rw [ht]; rfl

theorem read_none {m : DM} {nm : ByteArray} (ht : thereL m.fs nm.toList = false) : readM m nm = ([], 6) := by
  unfold readM
  rw [ht]; rfl

theorem erase_other {fs : List DF} (hs : Sorted fs) {i : Nat} {f : DF} (hf : fs[i]? = some f) : ∀ x ∈ fs.eraseIdx i, x.key ≠ f.key := by
  intro x hx
  obtain ⟨j, hj, hji, rfl⟩ := List.mem_eraseIdx_iff_getElem.1 hx
  intro e
  rcases Nat.lt_or_gt_of_ne hji with h | h
  · have := hs.get h (List.getElem?_eq_getElem hj) hf
    rw [e, lt_irrefl] at this; cases this
  · have := hs.get h hf (List.getElem?_eq_getElem hj)
    rw [e, lt_irrefl] at this; cases this

/-- What is at the new name, and that nothing is at the old one. -/
theorem move_law {m : DM} (h : DInv m) {i : Nat} {f : DF} {to : ByteArray} (hf : m.fs[i]? = some f) (ht : namedB to = true) :
    (∃ j : Nat, (moveL m.fs i f to)[j]? = some { f with nm := to }) ∧ (∀ x ∈ moveL m.fs i f to, x = { f with nm := to } ∨ x ∈ m.fs.eraseIdx i) := by
  unfold moveL
  simp only
  cases hth : thereL (m.fs.eraseIdx i) to.toList with
  | true =>
    obtain ⟨g, hg, hk⟩ := there_get hth
    rw [if_pos rfl]
    refine ⟨⟨_, List.getElem?_set_self (List.getElem?_eq_some_iff.1 hg).1⟩, fun x hx => ?_⟩
    rcases List.mem_or_eq_of_mem_set hx with h | h
    · exact .inr h
    · exact .inl h
  | false =>
    rw [if_neg (by simp)]
    exact ⟨⟨_, insL_get _ _ _ (findL_le _ _)⟩, fun x hx => mem_insL hx⟩

structure Renamed (m : DM) (nm to : ByteArray) : Prop where
  no : (renameM m nm to).2 ≠ 0 → ((renameM m nm to).2 = 8 ∨ ((renameM m nm to).2 = 6 ∧ (readM m nm).2 = 6)) ∧ (renameM m nm to).1.fs = m.fs
  yes : (renameM m nm to).2 = 0 → (readM m nm).2 = 0 ∧ readM (renameM m nm to).1 to = readM m nm ∧ (nm ≠ to → (readM (renameM m nm to).1 nm).2 = 6)

theorem renamed {m : DM} (h : DInv m) (hd : m.down = false) (ha : m.armed = false) (nm to : ByteArray) : Renamed m nm to := by
  have hsp : spendM m = (m, true) := by simp [spendM, ha]
  cases hn : namedB to with
  | false =>
    have e : renameM m nm to = (m, 8) := by simp [renameM, hn]
    exact ⟨fun _ => ⟨.inl (by rw [e]), by rw [e]⟩, fun h => by rw [e] at h; simp at h⟩
  | true =>
    cases ht : thereL m.fs nm.toList with
    | false =>
      have e : renameM m nm to = (m, 6) := by simp only [renameM, hn]; rw [onFile_none hd ht]; rfl
      refine ⟨fun _ => ⟨.inr ⟨by rw [e], by rw [read_none ht]⟩, by rw [e]⟩, fun h => by rw [e] at h; simp at h⟩
    | true =>
      obtain ⟨f, hfm, hf, hrd⟩ := read_there h ht
      have hgd : m.fs.getD (findL m.fs nm.toList) ⟨nm, [], 0⟩ = f := by simp [hf]
      have e : renameM m nm to = ({ m with fs := moveL m.fs (findL m.fs nm.toList) f to }, 0) := by
        simp only [renameM, hn]
        rw [onFile_ok hd ht, hgd, spent_ok (by rw [hsp])]
        simp only [hsp]; rfl
      have hinv := move_inv h hf hn
      obtain ⟨⟨j, hj⟩, hmem⟩ := move_law h hf hn
      have hkey : f.key = nm.toList := by
        obtain ⟨g, hg, hk⟩ := there_get ht
        rw [hf] at hg; cases hg; exact hk
      refine ⟨fun h => absurd (by rw [e]) h, fun _ => ⟨by rw [hrd], ?_, fun hne => ?_⟩⟩
      · rw [e, hrd]
        exact read_at hinv.sorted hj
      · rw [e]
        have : thereL (moveL m.fs (findL m.fs nm.toList) f to) nm.toList = false := by
          cases hth : thereL (moveL m.fs (findL m.fs nm.toList) f to) nm.toList with
          | false => rfl
          | true =>
            obtain ⟨g, hg, hk⟩ := there_get hth
            rcases hmem g (List.mem_of_getElem? hg) with h1 | h1
            · rw [h1] at hk
              exact absurd (ba_toList_inj hk.symm) hne
            · exact absurd (hk.trans hkey.symm) (erase_other h.sorted hf g h1)
        rw [read_none this]


theorem read_fs {m m' : DM} (h : m'.fs = m.fs) (nm : ByteArray) : readM m' nm = readM m nm := by
  unfold readM
  rw [h]

theorem wake_same {fs : List DF} (h : ∀ f ∈ fs, f.sy = f.b.length) : fs.map (wakeF 0) = fs := by
  conv => rhs; rw [← List.map_id fs]
  refine List.map_congr_left fun f hf => ?_
  have h0 := h f hf
  have h1 : keepN 0 f = f.sy := by unfold keepN; split <;> split <;> omega
  simp only [wakeF, h1, id]
  rw [List.take_of_length_le (by omega)]

theorem wake_synced {m : DM} (h : DInv m) (keep : Int) : ∀ f ∈ (wakeM m keep).fs, f.sy = f.b.length := by
  intro f hf
  obtain ⟨g, hg, rfl⟩ := List.mem_map.1 hf
  have h1 := keepN_le (h.syn g hg) keep
  have h0 := h.syn g hg
  simp only [wakeF, List.length_take]; omega

theorem renamed_synced {m : DM} (h : DInv m) (hd : m.down = false) (ha : m.armed = false) (hs : ∀ f ∈ m.fs, f.sy = f.b.length) (nm to : ByteArray) : ∀ f ∈ (renameM m nm to).1.fs, f.sy = f.b.length := by
  have hsp : spendM m = (m, true) := by simp [spendM, ha]
  cases hn : namedB to with
  | false =>
    have e : renameM m nm to = (m, 8) := by simp [renameM, hn]
    rw [e]; exact hs
  | true =>
    cases ht : thereL m.fs nm.toList with
    | false =>
      have e : renameM m nm to = (m, 6) := by simp only [renameM, hn]; rw [onFile_none hd ht]; rfl
      rw [e]; exact hs
    | true =>
      obtain ⟨f, hfm, hf, hrd⟩ := read_there h ht
      have hgd : m.fs.getD (findL m.fs nm.toList) ⟨nm, [], 0⟩ = f := by simp [hf]
      have e : renameM m nm to = ({ m with fs := moveL m.fs (findL m.fs nm.toList) f to }, 0) := by
        simp only [renameM, hn]
        rw [onFile_ok hd ht, hgd, spent_ok (by rw [hsp])]
        simp only [hsp]; rfl
      rw [e]
      intro x hx
      rcases (move_law h hf hn).2 x hx with h1 | h1
      · rw [h1]; exact hs f hfm
      · exact hs x (List.mem_of_mem_eraseIdx h1)

end Go.Cx
