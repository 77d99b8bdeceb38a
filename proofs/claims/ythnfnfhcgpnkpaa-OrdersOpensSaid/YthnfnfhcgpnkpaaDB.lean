/-
  What is so of a device stays so.
-/
import Derived.Test.YthnfnfhcgpnkpaaDA
namespace Go.Cx
open Go Go.Cf
set_option linter.unusedVariables false

theorem usedN_set {fs : List DF} {i : Nat} {f g : DF} (h : fs[i]? = some f) : usedN (fs.set i g) + f.b.length = usedN fs + g.b.length := by
  induction fs generalizing i with
  | nil => simp at h
  | cons x fs ih =>
    cases i with
    | zero => simp at h; subst h; simp [usedN]; omega
    | succ i =>
      have := ih (i := i) (by simpa using h)
      simp [usedN] at this ⊢; omega

theorem usedN_erase {fs : List DF} {i : Nat} {f : DF} (h : fs[i]? = some f) : usedN (fs.eraseIdx i) + f.b.length = usedN fs := by
  induction fs generalizing i with
  | nil => simp at h
  | cons x fs ih =>
    cases i with
    | zero => simp at h; subst h; simp [usedN]; omega
    | succ i =>
      have := ih (i := i) (by simpa using h)
      simp [usedN] at this ⊢; omega

theorem usedN_ins (fs : List DF) (i : Nat) (g : DF) : usedN (insL fs i g) = usedN fs + g.b.length := by
  have e : usedN fs = usedN (fs.take i) + usedN (fs.drop i) := by
    conv => lhs; rw [← List.take_append_drop i fs]
    unfold usedN
    rw [List.map_append, List.sum_append]
  rw [e]
  simp [usedN, insL]; omega

theorem mem_insL {fs : List DF} {i : Nat} {g x : DF} (h : x ∈ insL fs i g) : x = g ∨ x ∈ fs := by
  rcases List.mem_append.1 h with h | h
  · exact .inr (List.mem_of_mem_take h)
  · rcases List.mem_cons.1 h with h | h
    · exact .inl h
    · exact .inr (List.mem_of_mem_drop h)

theorem insL_length (fs : List DF) (i : Nat) (g : DF) (h : i ≤ fs.length) : (insL fs i g).length = fs.length + 1 := by
  simp [insL]; omega

theorem insL_get (fs : List DF) (i : Nat) (g : DF) (h : i ≤ fs.length) : (insL fs i g)[i]? = some g := by
  unfold insL
  rw [List.getElem?_append_right (by simp; omega)]
  simp [Nat.min_eq_left h]

theorem sorted_keys {fs gs : List DF} (h : gs.map DF.key = fs.map DF.key) (hs : Sorted fs) : Sorted gs := by
  unfold Sorted at hs ⊢
  rw [← List.pairwise_map (f := DF.key) (R := fun a b => lt a b = true)] at hs ⊢
  rw [h]; exact hs

theorem sorted_set {fs : List DF} {i : Nat} {f g : DF} (h : fs[i]? = some f) (hk : g.key = f.key) (hs : Sorted fs) : Sorted (fs.set i g) := by
  refine sorted_keys ?_ hs
  rw [List.map_set, hk]
  apply List.ext_getElem?
  intro j
  by_cases e : i = j
  · subst e
    rw [List.getElem?_set_self (by simpa using (List.getElem?_eq_some_iff.1 h).1), List.getElem?_map, h]; rfl
  · rw [List.getElem?_set_ne e]

theorem sorted_erase {fs : List DF} {i : Nat} (hs : Sorted fs) : Sorted (fs.eraseIdx i) := List.Pairwise.sublist (List.eraseIdx_sublist _ _) hs

theorem sorted_ins {fs : List DF} {g : DF} (hs : Sorted fs) (hn : thereL fs g.key = false) : Sorted (insL fs (findL fs g.key) g) := by
  have h0 := not_there hs hn
  have e : fs = fs.take (findL fs g.key) ++ fs.drop (findL fs g.key) := (List.take_append_drop _ _).symm
  have hs' := hs
  unfold Sorted at hs'
  rw [e, List.pairwise_append] at hs'
  have hlo : ∀ x ∈ fs.take (findL fs g.key), lt x.key g.key = true := fun x hx => by
    obtain ⟨j, hj, rfl⟩ := List.getElem_of_mem hx
    have hj' : j < findL fs g.key ∧ j < fs.length := by simp at hj; omega
    rw [List.getElem_take]
    exact findL_lt hj'.1 (List.getElem?_eq_getElem hj'.2)
  have hhi : ∀ x ∈ fs.drop (findL fs g.key), lt g.key x.key = true := fun x hx => by
    have hx' := List.mem_of_mem_drop hx
    obtain ⟨j, hj, rfl⟩ := List.getElem_of_mem hx
    have hj' : findL fs g.key + j < fs.length := by simp at hj; omega
    rw [List.getElem_drop] at hx' ⊢
    have h1 := findL_ge hs (Nat.le_add_right _ j) (List.getElem?_eq_getElem hj')
    cases h2 : lt g.key fs[findL fs g.key + j].key with
    | true => rfl
    | false => exact absurd (lt_total h1 h2) (h0 _ hx')
  unfold Sorted insL
  rw [List.pairwise_append]
  refine ⟨hs'.1, List.pairwise_cons.2 ⟨hhi, hs'.2.1⟩, fun x hx y hy => ?_⟩
  rcases List.mem_cons.1 hy with rfl | hy
  · exact hlo x hx
  · exact hs'.2.2 x hx y hy

theorem spendM_fs (m : DM) : (spendM m).1.fs = m.fs ∧ (spendM m).1.room = m.room := by
  unfold spendM
  split
  · exact ⟨rfl, rfl⟩
  · split <;> exact ⟨rfl, rfl⟩

theorem DInv.spend {m : DM} (h : DInv m) : DInv (spendM m).1 := by
  obtain ⟨h1, h2, h3, h4, h5, h6, h7, h8⟩ := h
  unfold spendM
  split
  · exact ⟨h1, h2, h3, h4, h5, h6, h7, h8⟩
  · rename_i hne
    split
    · rename_i ha
      refine ⟨h1, h2, h3, h4, h5, h6, ?_, fun _ => ?_⟩
      · have := h8 ha
        unfold i64 at h7 ⊢
        simp only; omega
      · have := h8 ha
        have : ¬ m.left = 0 := fun e => hne (by simp [ha, e])
        simp only; omega
    · exact ⟨h1, h2, h3, h4, h5, h6, h7, h8⟩

/-- Other files, and all that is said of files is so of them. -/
theorem DInv.files {m : DM} (h : DInv m) {fs : List DF} (hs : Sorted fs) (hf : ∀ f ∈ fs, f ∈ m.fs ∨ (namedB f.nm = true ∧ 0 ≤ f.sy ∧ f.sy ≤ f.b.length)) (hu : (usedN fs : Int) ≤ m.room) (hl : fs.length ≤ 64) : DInv { m with fs := fs } :=
  ⟨hs, fun f hm => (hf f hm).elim (fun x => h.names f x) (fun x => x.1), fun f hm => (hf f hm).elim (fun x => h.syn f x) (fun x => x.2), hu, h.room, hl, h.left⟩

theorem getD_there {fs : List DF} {k : Key} {d : DF} (h : thereL fs k = true) : fs[findL fs k]? = some (fs.getD (findL fs k) d) ∧ (fs.getD (findL fs k) d).key = k := by
  obtain ⟨f, hf, hk⟩ := there_get h
  have : fs.getD (findL fs k) d = f := by simp [hf]
  rw [this]
  exact ⟨hf, hk⟩

theorem onFile_inv {m : DM} {nm : ByteArray} {g : Nat → DF → DM → DM × Int} (h : DInv m) (hg : ∀ i f, m.fs[i]? = some f → DInv (g i f m).1) : DInv (onFile m nm g).1 := by
  unfold onFile
  split
  · exact h
  split
  · exact h
  · rename_i ht
    exact hg _ _ (getD_there (by simpa using ht)).1

theorem spent_inv {m : DM} {g : DM → DM} (h : DInv m) (hg : ∀ m', DInv m' → m'.fs = m.fs → m'.room = m.room → DInv (g m')) : DInv (spent m g).1 := by
  unfold spent
  split
  · exact h.spend
  · exact hg _ h.spend (spendM_fs m).1 (spendM_fs m).2

theorem sync_inv {m : DM} (h : DInv m) (nm : ByteArray) : DInv (syncM m nm).1 := by
  refine onFile_inv h fun i f hf => spent_inv h fun m' h' e1 e2 => ?_
  rw [← e1] at hf
  have hm := List.mem_of_getElem? hf
  refine h'.files (sorted_set hf rfl h'.sorted) (fun x hx => ?_) ?_ (by rw [List.length_set]; exact h'.len)
  · rcases List.mem_or_eq_of_mem_set hx with hx | rfl
    · exact .inl hx
    · exact .inr ⟨h'.names f hm, by simp, by simp⟩
  · have := usedN_set (g := { f with sy := f.b.length }) hf
    have := h'.used
    simp only at *; omega

theorem trunc_inv {m : DM} (h : DInv m) (nm : ByteArray) (n : Int) : DInv (truncM m nm n).1 := by
  refine onFile_inv h fun i f hf => ?_
  split
  · exact h
  rename_i hn
  refine spent_inv h fun m' h' e1 e2 => ?_
  rw [← e1] at hf
  have hm := List.mem_of_getElem? hf
  have hsy := h'.syn f hm
  refine h'.files (sorted_set hf rfl h'.sorted) (fun x hx => ?_) ?_ (by rw [List.length_set]; exact h'.len)
  · rcases List.mem_or_eq_of_mem_set hx with hx | rfl
    · exact .inl hx
    · refine .inr ⟨h'.names f hm, ?_, ?_⟩ <;> simp only [List.length_take] <;> split <;> omega
  · have h5 := usedN_set (g := { f with b := f.b.take n.toNat, sy := if n < f.sy then n else f.sy }) hf
    have h6 := h'.used
    have h7 : (f.b.take n.toNat).length ≤ f.b.length := by rw [List.length_take]; omega
    simp only at h5 ⊢
    omega

theorem remove_inv {m : DM} (h : DInv m) (nm : ByteArray) : DInv (removeM m nm).1 := by
  refine onFile_inv h fun i f hf => spent_inv h fun m' h' e1 e2 => ?_
  rw [← e1] at hf
  refine h'.files (sorted_erase h'.sorted) (fun x hx => .inl (List.mem_of_mem_eraseIdx hx)) ?_ ?_
  · have := usedN_erase hf
    have := h'.used
    omega
  · rw [List.length_eraseIdx]; have := h'.len; split <;> omega

theorem move_inv {m : DM} (h : DInv m) {i : Nat} {f : DF} {to : ByteArray} (hf : m.fs[i]? = some f) (ht : namedB to = true) : DInv { m with fs := moveL m.fs i f to } := by
  have hm := List.mem_of_getElem? hf
  have hu := usedN_erase hf
  have hused := h.used
  have hlt := (List.getElem?_eq_some_iff.1 hf).1
  have hlen : (m.fs.eraseIdx i).length = m.fs.length - 1 := by rw [List.length_eraseIdx, if_pos hlt]
  have hl := h.len
  unfold moveL
  simp only
  cases hth : thereL (m.fs.eraseIdx i) to.toList with
  | true =>
    obtain ⟨g, hg, hk⟩ := there_get hth
    have hgm := List.mem_of_getElem? hg
    rw [if_pos rfl]
    refine h.files (sorted_set hg (by simp only [DF.key] at hk ⊢; exact hk.symm) (sorted_erase h.sorted)) (fun x hx => ?_) ?_ (by rw [List.length_set, hlen]; omega)
    · rcases List.mem_or_eq_of_mem_set hx with hx | rfl
      · exact .inl (List.mem_of_mem_eraseIdx hx)
      · exact .inr ⟨ht, h.syn f hm⟩
    · have := usedN_set (g := { f with nm := to }) hg
      simp only at this; omega
  | false =>
    rw [if_neg (by simp)]
    refine h.files (sorted_ins (g := { f with nm := to }) (sorted_erase h.sorted) hth) (fun x hx => ?_) ?_ ?_
    · rcases mem_insL hx with rfl | hx
      · exact .inr ⟨ht, h.syn f hm⟩
      · exact .inl (List.mem_of_mem_eraseIdx hx)
    · rw [usedN_ins]; simp only; omega
    · rw [insL_length _ _ _ (findL_le _ _), hlen]; omega

theorem rename_inv {m : DM} (h : DInv m) (nm to : ByteArray) : DInv (renameM m nm to).1 := by
  unfold renameM
  split
  · exact h
  rename_i hn
  refine onFile_inv h fun i f hf => spent_inv h fun m' h' e1 e2 => ?_
  rw [← e1] at hf
  exact move_inv h' hf (by simpa using hn)

/-- What append makes of the files. -/
def appFs (fs : List DF) (nm : ByteArray) (b : List UInt8) : List DF :=
  (if thereL fs nm.toList then fs else insL fs (findL fs nm.toList) ⟨nm, [], 0⟩).set (findL fs nm.toList) { ((if thereL fs nm.toList then fs else insL fs (findL fs nm.toList) ⟨nm, [], 0⟩).getD (findL fs nm.toList) ⟨nm, [], 0⟩) with b := ((if thereL fs nm.toList then fs else insL fs (findL fs nm.toList) ⟨nm, [], 0⟩).getD (findL fs nm.toList) ⟨nm, [], 0⟩).b ++ b }

theorem append_inv {m : DM} (h : DInv m) (nm : ByteArray) (b : List UInt8) : DInv (appendM m nm b).1 := by
  unfold appendM
  split
  · exact h
  rename_i hn
  have hn : namedB nm = true := by simpa using hn
  split
  · exact h
  split
  · exact h
  rename_i hfull
  simp only [Bool.or_eq_true, Bool.and_eq_true, Bool.not_eq_true', decide_eq_true_eq, not_or, not_and] at hfull
  obtain ⟨hf1, hf2⟩ := hfull
  split
  · exact h.spend
  have h' := h.spend
  obtain ⟨e1, e2⟩ := spendM_fs m
  show DInv { (spendM m).1 with fs := appFs m.fs nm b }
  unfold appFs
  rw [← e1]
  rw [← e2] at hf2
  rw [← e1] at hf1 hf2
  generalize (spendM m).1 = m' at *
  cases ht : thereL m'.fs nm.toList with
  | true =>
    obtain ⟨hg, hk⟩ := getD_there (d := ⟨nm, [], 0⟩) ht
    have hgm := List.mem_of_getElem? hg
    simp only [if_true]
    refine h'.files (sorted_set hg rfl h'.sorted) (fun x hx => ?_) ?_ (by rw [List.length_set]; exact h'.len)
    · rcases List.mem_or_eq_of_mem_set hx with hx | rfl
      · exact .inl hx
      · have := h'.syn _ hgm
        exact .inr ⟨(h'.names _ hgm : _), this.1, by simp only [List.length_append]; omega⟩
    · have := usedN_set (g := { (m'.fs.getD (findL m'.fs nm.toList) ⟨nm, [], 0⟩) with b := (m'.fs.getD (findL m'.fs nm.toList) ⟨nm, [], 0⟩).b ++ b }) hg
      simp only [List.length_append] at this; omega
  | false =>
    have hins := insL_get m'.fs (findL m'.fs nm.toList) ⟨nm, [], 0⟩ (findL_le _ _)
    have hgd : (insL m'.fs (findL m'.fs nm.toList) ⟨nm, [], 0⟩).getD (findL m'.fs nm.toList) ⟨nm, [], 0⟩ = ⟨nm, [], 0⟩ := by simp [hins]
    simp only [Bool.false_eq_true, if_false]
    rw [hgd]
    have hlen := insL_length m'.fs (findL m'.fs nm.toList) ⟨nm, [], 0⟩ (findL_le _ _)
    refine h'.files (sorted_set hins rfl (sorted_ins (g := ⟨nm, [], 0⟩) h'.sorted ht)) (fun x hx => ?_) ?_ ?_
    · rcases List.mem_or_eq_of_mem_set hx with hx | rfl
      · rcases mem_insL hx with rfl | hx
        · exact .inr ⟨hn, by simp, by simp⟩
        · exact .inl hx
      · exact .inr ⟨hn, by simp, by simp⟩
    · have := usedN_set (g := { (⟨nm, [], 0⟩ : DF) with b := [] ++ b }) hins
      have := usedN_ins m'.fs (findL m'.fs nm.toList) ⟨nm, [], 0⟩
      simp only [List.length_append, List.length_nil] at *; omega
    · rw [List.length_set, hlen]
      have := hf1 ht
      omega

theorem arm_inv {m : DM} (h : DInv m) {n : Int} (hn : i64 n) : DInv (armM m n) :=
  ⟨h.sorted, h.names, h.syn, h.used, h.room, h.len, hn, fun ha => by simpa [armM] using ha⟩

theorem keepN_le {f : DF} (h : 0 ≤ f.sy ∧ f.sy ≤ f.b.length) (keep : Int) : f.sy ≤ keepN keep f ∧ keepN keep f ≤ f.b.length := by
  unfold keepN
  constructor <;> split <;> split <;> omega

theorem wake_inv {m : DM} (h : DInv m) (keep : Int) : DInv (wakeM m keep) := by
  refine ⟨sorted_keys (fs := m.fs) (by simp [wakeM, wakeF, Function.comp_def]) h.sorted, fun f hf => ?_, fun f hf => ?_, ?_, h.room, by simpa [wakeM] using h.len, ⟨⟨by simp [wakeM], by simp [wakeM]⟩, fun h => by cases h⟩⟩
  · obtain ⟨g, hg, rfl⟩ := List.mem_map.1 hf
    exact h.names g hg
  · obtain ⟨g, hg, rfl⟩ := List.mem_map.1 hf
    have h1 := h.syn g hg
    have := keepN_le h1 keep
    simp only [wakeF, List.length_take]
    omega
  · have : usedN (m.fs.map (wakeF keep)) ≤ usedN m.fs := by
      generalize m.fs = fs
      induction fs with
      | nil => simp
      | cons f fs ih => simp [usedN, wakeF] at ih ⊢; omega
    have := h.used
    simp only [wakeM]; omega

end Go.Cx
