/-
  CursorLasts: the plain law.
-/
import Derived.Test.YtbdmjjeigbhidaaCP
namespace Go.Cx
open Go Go.Cf
set_option linter.unusedVariables false

theorem kc : curN.toList = [99, 117, 114] := key_lit [99, 117, 114]
theorem kn : newN.toList = [99, 117, 114, 46, 110, 101, 119] := key_lit [99, 117, 114, 46, 110, 101, 119]
theorem lcn : lt curN.toList newN.toList = true := by rw [kc, kn]; decide
theorem lnc : lt newN.toList curN.toList = false := lt_asymm lcn
theorem ecn : (curN.toList == newN.toList) = false := by rw [kc, kn]; decide
theorem enc' : (newN.toList == curN.toList) = false := by rw [kc, kn]; decide
theorem nmN : namedB newN = true := by decide
theorem nmC : namedB curN = true := by decide

def fC (c : Cu) : DF := ⟨curN, fileC c, 30⟩
def fN (c : Cu) (sy : Int) : DF := ⟨newN, fileC c, sy⟩
def BaseC (fs : List DF) (was : Cu) : Prop := (fs = [] ∧ was = cu0) ∨ (mayC was = true ∧ fs = [fC was])
def Extra (fs : List DF) (was : Cu) : Prop := ∃ base, BaseC base was ∧ (fs = base ∨ ∃ g : DF, g.nm = newN ∧ g.b.length ≤ 30 ∧ fs = base ++ [g])

theorem file_len (c : Cu) : (fileC c).length = 30 := by
  have hl : (cu3 c).length = 24 := preC_len c 3 (by omega)
  unfold fileC frameN
  rw [List.length_append, hl]; rfl

theorem spend_down (m : DM) : ((spendM m).2 = true → (spendM m).1.down = m.down) ∧ ((spendM m).2 = false → (spendM m).1.down = true) := by
  unfold spendM
  split
  · simp
  split
  · simp
  · simp

theorem base_new {fs : List DF} {was : Cu} (h : BaseC fs was) : thereL fs newN.toList = false ∧ findL fs newN.toList = fs.length ∧ fs.length ≤ 1 ∧ usedN fs ≤ 30 := by
  rcases h with ⟨rfl, _⟩ | ⟨_, rfl⟩
  · exact ⟨rfl, rfl, by decide, by decide⟩
  · refine ⟨?_, ?_, by simp, ?_⟩
    · simp [thereL, findL, fC, DF.key, lcn]
    · simp [findL, fC, DF.key, lcn]
    · simp [usedN, fC, file_len]

theorem app_new {m : DM} {was c : Cu} (hd : m.down = false) (hr : m.room = 4096) (h : BaseC m.fs was) : appendM m newN (fileC c) = if (spendM m).2 then ({ (spendM m).1 with fs := m.fs ++ [fN c 0] }, 0) else ((spendM m).1, 10) := by
  obtain ⟨h1, h2, h3, h4⟩ := base_new h
  have hl := file_len c
  unfold appendM
  rw [nmN, hd, h1, hr]
  have e1 : decide ((m.fs.length : Int) ≥ 64) = false := decide_eq_false (by omega)
  have e2 : decide (((fileC c).length : Int) > 4096 - (usedN m.fs : Int)) = false := decide_eq_false (by omega)
  rw [e1, e2]
  cases (spendM m).2 with
  | false => rfl
  | true =>
    rcases h with ⟨hf, _⟩ | ⟨_, hf⟩
    · simp [hf, findL, insL, fN]
    · simp [hf, findL, insL, fN, fC, DF.key, lcn]

theorem sync_new {m : DM} {base : List DF} {was c : Cu} (hd : m.down = false) (h : BaseC base was) (hf : m.fs = base ++ [fN c 0]) : syncM m newN = if (spendM m).2 then ({ (spendM m).1 with fs := base ++ [fN c 30] }, 0) else ((spendM m).1, 10) := by
  have hl := file_len c
  have q1 := (spendM_fs m).1
  have ht : thereL m.fs newN.toList = true ∧ findL m.fs newN.toList = base.length := by
    rcases h with ⟨rfl, _⟩ | ⟨_, rfl⟩ <;> simp [hf, thereL, findL, fN, fC, DF.key, lcn, lt_irrefl]
  unfold syncM
  rw [onFile_ok hd ht.1, ht.2, hf]
  unfold spent
  cases (spendM m).2 with
  | false => rfl
  | true =>
    dsimp only
    rw [q1, hf]
    rcases h with ⟨rfl, _⟩ | ⟨_, rfl⟩ <;> simp [fN, hl]

theorem rename_new {m : DM} {base : List DF} {was c : Cu} (hd : m.down = false) (h : BaseC base was) (hf : m.fs = base ++ [fN c 30]) : renameM m newN curN = if (spendM m).2 then ({ (spendM m).1 with fs := [fC c] }, 0) else ((spendM m).1, 10) := by
  have q1 := (spendM_fs m).1
  have ht : thereL m.fs newN.toList = true ∧ findL m.fs newN.toList = base.length := by
    rcases h with ⟨rfl, _⟩ | ⟨_, rfl⟩ <;> simp [hf, thereL, findL, fN, fC, DF.key, lcn, lt_irrefl]
  unfold renameM
  rw [nmC, onFile_ok hd ht.1, ht.2, hf]
  unfold spent
  cases (spendM m).2 with
  | false => rfl
  | true =>
    dsimp only
    rw [q1, hf]
    rcases h with ⟨rfl, _⟩ | ⟨_, rfl⟩ <;> simp [moveL, thereL, findL, insL, fN, fC, DF.key, lt_irrefl]

/-- A device that is up, with what a cursor's calls leave. -/
def UpC (m : DM) (was : Cu) : Prop := m.down = false ∧ m.room = 4096 ∧ BaseC m.fs was
def DnC (m : DM) (was : Cu) : Prop := m.down = true ∧ m.room = 4096 ∧ Extra m.fs was

theorem save_law {m : DM} {was c : Cu} (h : UpC m was) (hc : mayC c = true) : ((saveM m c).2 = 0 ∧ UpC (saveM m c).1 c) ∨ ((saveM m c).2 = 10 ∧ DnC (saveM m c).1 was) := by
  obtain ⟨hd, hr, hb⟩ := h
  obtain ⟨h1, _⟩ := base_new hb
  have e : removeM m newN = (m, 6) := by unfold removeM; exact onFile_none hd h1
  have e1 : saveM m c = if (appendM m newN (fileC c)).2 ≠ 0 then appendM m newN (fileC c)
      else if (syncM (appendM m newN (fileC c)).1 newN).2 ≠ 0 then syncM (appendM m newN (fileC c)).1 newN
      else renameM (syncM (appendM m newN (fileC c)).1 newN).1 newN curN := by
    unfold saveM
    rw [if_neg (by simpa using hc), e, if_neg (show ¬ (6 : Int) = 10 by decide)]
  rw [e1]
  have eA := app_new (c := c) hd hr hb
  obtain ⟨s1, s2⟩ := spend_down m
  obtain ⟨q1, q2⟩ := spendM_fs m
  rcases Bool.eq_false_or_eq_true (spendM m).2 with o | o
  · rw [if_pos o] at eA
    rw [eA, if_neg (show ¬ (0 : Int) ≠ 0 by decide)]
    have hd1 : ({ (spendM m).1 with fs := m.fs ++ [fN c 0] } : DM).down = false := (s1 o).trans hd
    have hr1 : ({ (spendM m).1 with fs := m.fs ++ [fN c 0] } : DM).room = 4096 := q2.trans hr
    have hf1 : ({ (spendM m).1 with fs := m.fs ++ [fN c 0] } : DM).fs = m.fs ++ [fN c 0] := rfl
    dsimp only
    generalize ({ (spendM m).1 with fs := m.fs ++ [fN c 0] } : DM) = m1 at *
    have eS := sync_new hd1 hb hf1
    obtain ⟨t1, t2⟩ := spend_down m1
    obtain ⟨p1, p2⟩ := spendM_fs m1
    rcases Bool.eq_false_or_eq_true (spendM m1).2 with o2 | o2
    · rw [if_pos o2] at eS
      rw [eS, if_neg (show ¬ (0 : Int) ≠ 0 by decide)]
      have hd2 : ({ (spendM m1).1 with fs := m.fs ++ [fN c 30] } : DM).down = false := (t1 o2).trans hd1
      have hr2 : ({ (spendM m1).1 with fs := m.fs ++ [fN c 30] } : DM).room = 4096 := p2.trans hr1
      have hf2 : ({ (spendM m1).1 with fs := m.fs ++ [fN c 30] } : DM).fs = m.fs ++ [fN c 30] := rfl
      dsimp only
      generalize ({ (spendM m1).1 with fs := m.fs ++ [fN c 30] } : DM) = m2 at *
      have eR := rename_new hd2 hb hf2
      obtain ⟨u1, u2⟩ := spend_down m2
      obtain ⟨v1, v2⟩ := spendM_fs m2
      rcases Bool.eq_false_or_eq_true (spendM m2).2 with o3 | o3
      · rw [if_pos o3] at eR
        rw [eR]
        exact .inl ⟨rfl, (u1 o3).trans hd2, v2.trans hr2, .inr ⟨hc, rfl⟩⟩
      · rw [if_neg (by rw [o3]; simp)] at eR
        rw [eR]
        exact .inr ⟨rfl, u2 o3, v2.trans hr2, m.fs, hb, .inr ⟨fN c 30, rfl, by rw [fN, file_len]; exact Nat.le_refl _, v1.trans hf2⟩⟩
    · rw [if_neg (by rw [o2]; simp)] at eS
      rw [eS, if_pos (show (10 : Int) ≠ 0 by decide)]
      exact .inr ⟨rfl, t2 o2, p2.trans hr1, m.fs, hb, .inr ⟨fN c 0, rfl, by rw [fN, file_len]; exact Nat.le_refl _, p1.trans hf1⟩⟩
  · rw [if_neg (by rw [o]; simp)] at eA
    rw [eA, if_pos (show (10 : Int) ≠ 0 by decide)]
    exact .inr ⟨rfl, s2 o, q2.trans hr, m.fs, hb, .inl q1⟩

theorem load_base {m : DM} {was : Cu} (hd : m.down = false) (h : Extra m.fs was) : loadM m = (was, 0) := by
  obtain ⟨base, hb, h⟩ := h
  unfold loadM
  rw [if_neg (by rw [hd]; simp)]
  have hfs : m.fs = base ∨ ∃ g : DF, g.nm = newN ∧ m.fs = base ++ [g] := by
    rcases h with h | ⟨g, h1, _, h⟩
    · exact .inl h
    · exact .inr ⟨g, h1, h⟩
  rcases hb with ⟨rfl, rfl⟩ | ⟨hw, rfl⟩
  · have : readM m curN = ([], 6) := by
      rcases hfs with h | ⟨g, hg, h⟩
      · simp [readM, thereL, h]
      · simp [readM, thereL, findL, h, DF.key, hg, lnc, enc']
    rw [this, if_pos (show (6 : Int) ≠ 0 by decide)]
  · have : readM m curN = (fileC was, 0) := by
      rcases hfs with h | ⟨g, hg, h⟩ <;> simp [readM, thereL, findL, h, fC, DF.key, lt_irrefl]
    rw [this, if_neg (show ¬ (0 : Int) ≠ 0 by decide)]
    exact decode_file was hw

theorem up_extra {m : DM} {was : Cu} (h : UpC m was) : Extra m.fs was := ⟨m.fs, h.2.2, .inl rfl⟩

theorem wake_cur (keep : Int) (c : Cu) : wakeF keep (fC c) = fC c := by
  have h := keepN_le (f := fC c) ⟨by show (0 : Int) ≤ 30; omega, by show (30 : Int) ≤ ((fileC c).length : Int); rw [file_len]; omega⟩ keep
  have hk : keepN keep (fC c) = 30 := by
    have h1 : (fC c).sy = 30 := rfl
    have h2 : (fC c).b.length = 30 := file_len c
    omega
  unfold wakeF
  rw [hk]
  show (⟨curN, (fileC c).take 30, 30⟩ : DF) = _
  rw [List.take_of_length_le (by rw [file_len]; omega)]; rfl

theorem wake_extra {m : DM} {was : Cu} (keep : Int) (h : Extra m.fs was) : Extra (wakeM m keep).fs was := by
  obtain ⟨base, hb, h⟩ := h
  have hbw : base.map (wakeF keep) = base := by
    rcases hb with ⟨rfl, _⟩ | ⟨_, rfl⟩
    · rfl
    · simp [wake_cur]
  refine ⟨base, hb, ?_⟩
  show m.fs.map (wakeF keep) = base ∨ _
  rcases h with h | ⟨g, h1, h2, h⟩
  · left; rw [h, hbw]
  · refine .inr ⟨wakeF keep g, h1, ?_, ?_⟩
    · show (g.b.take _).length ≤ 30
      rw [List.length_take]; omega
    · show m.fs.map (wakeF keep) = _
      rw [h, List.map_append, hbw]; rfl

/-- A device that is not armed saves. -/
theorem save_free {m : DM} {was c : Cu} (hd : m.down = false) (ha : m.armed = false) (hr : m.room = 4096) (h : Extra m.fs was) (hc : mayC c = true) : (saveM m c).2 = 0 := by
  obtain ⟨base, hb, h⟩ := h
  have key : ∃ m1 e, removeM m newN = (m1, e) ∧ e ≠ 10 ∧ m1.down = false ∧ m1.armed = false ∧ m1.room = 4096 ∧ m1.fs = base := by
    rcases h with h | ⟨g, h1, h2, h⟩
    · have h1 := (base_new hb).1
      rw [← h] at h1
      exact ⟨m, 6, by unfold removeM; exact onFile_none hd h1, by decide, hd, ha, hr, h⟩
    · have ht : thereL m.fs newN.toList = true ∧ findL m.fs newN.toList = base.length := by
        rcases hb with ⟨rfl, _⟩ | ⟨_, rfl⟩ <;> simp [h, thereL, findL, h1, fC, DF.key, lcn, lt_irrefl]
      have hsp : spendM m = (m, true) := by simp [spendM, ha]
      refine ⟨{ m with fs := base }, 0, ?_, by decide, hd, ha, hr, rfl⟩
      unfold removeM
      rw [onFile_ok hd ht.1, ht.2]
      unfold spent
      rw [hsp]
      simp [h]
      rw [List.eraseIdx_append_of_length_le (Nat.le_refl _), Nat.sub_self]
      simp
  obtain ⟨m1, e, e1, e2, hd1, ha1, hr1, hf1⟩ := key
  have hsp : ∀ m : DM, m.armed = false → spendM m = (m, true) := fun m ha => by simp [spendM, ha]
  unfold saveM
  rw [if_neg (by simpa using hc), e1, if_neg e2]
  dsimp only
  have eA := app_new (c := c) hd1 hr1 (by rw [hf1]; exact hb)
  rw [hsp m1 ha1, if_pos rfl, hf1] at eA
  rw [eA, if_neg (show ¬ (0 : Int) ≠ 0 by decide)]
  dsimp only
  have eS := sync_new (m := { m1 with fs := base ++ [fN c 0] }) (c := c) hd1 hb rfl
  rw [hsp _ (by exact ha1), if_pos rfl] at eS
  rw [eS, if_neg (show ¬ (0 : Int) ≠ 0 by decide)]
  dsimp only
  have eR := rename_new (m := { m1 with fs := base ++ [fN c 30] }) (c := c) hd1 hb rfl
  rw [hsp _ (by exact ha1), if_pos rfl] at eR
  rw [eR]

end Go.Cx
