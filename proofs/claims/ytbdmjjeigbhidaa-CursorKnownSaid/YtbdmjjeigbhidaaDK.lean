/-
  DeviceFails.
-/
import Derived.Test.YtbdmjjeigbhidaaDJ
namespace Go.Cx
open Go Go.Cf
set_option linter.unusedVariables false
variable {B : Base} {As : List HP}

/-- What a call comes to: it is done, the power fails in its place, or it is refused. -/
def StepLaw (m : DM) (r : DM × Int) : Prop :=
  (r.2 = 0 ∧ m.down = false ∧ (spendM m).2 = true ∧ r.1.armed = (spendM m).1.armed ∧ r.1.down = (spendM m).1.down ∧ r.1.left = (spendM m).1.left) ∨
  (r.2 = 10 ∧ m.down = false ∧ (spendM m).2 = false ∧ r.1 = (spendM m).1) ∨
  (r.2 ≠ 0 ∧ r.1 = m ∧ (r.2 = 10 → m.down = true) ∧ (m.down = true → r.2 = 10 ∨ r.2 = 8))

theorem spent_law {m : DM} (hd : m.down = false) {g : DM → DM} (hg : ∀ m, (g m).armed = m.armed ∧ (g m).down = m.down ∧ (g m).left = m.left) : StepLaw m (spent m g) := by
  unfold spent
  cases hs : (spendM m).2 with
  | true =>
    obtain ⟨h1, h2, h3⟩ := hg (spendM m).1
    exact .inl ⟨rfl, hd, hs, h1, h2, h3⟩
  | false => exact .inr (.inl ⟨rfl, hd, hs, rfl⟩)

theorem onFile_law {m : DM} {nm : ByteArray} {g : Nat → DF → DM → DM × Int} (hg : m.down = false → ∀ i f, StepLaw m (g i f m)) : StepLaw m (onFile m nm g) := by
  unfold onFile
  cases hd : m.down with
  | true => exact .inr (.inr ⟨by show (10 : Int) ≠ 0; decide, rfl, fun _ => hd, fun _ => .inl rfl⟩)
  | false =>
    simp only [Bool.false_eq_true, if_false]
    split
    · exact .inr (.inr ⟨by show (6 : Int) ≠ 0; decide, rfl, fun h => by simp at h, fun h => by rw [hd] at h; cases h⟩)
    · exact hg hd _ _

theorem step_law (m : DM) (o : DOp) (h0 : 0 ≤ o.kind) (h4 : o.kind ≤ 4) : StepLaw m (runM m o) := by
  have refuse : ∀ e : Int, e ≠ 0 → e ≠ 10 → (m.down = true → e = 8) → StepLaw m (m, e) := fun e h1 h2 h3 => .inr (.inr ⟨h1, rfl, fun h => absurd h h2, fun h => .inr (h3 h)⟩)
  by_cases k0 : o.kind = 0
  · rw [runM0 k0]
    unfold appendM
    split
    · exact refuse 8 (by decide) (by decide) (fun _ => rfl)
    split
    · rename_i hd
      exact .inr (.inr ⟨by show (10 : Int) ≠ 0; decide, rfl, fun _ => hd, fun _ => .inl rfl⟩)
    rename_i hd
    have hd : m.down = false := by simpa using hd
    split
    · exact refuse 9 (by decide) (by decide) (fun h => by rw [hd] at h; cases h)
    split
    · rename_i hs
      exact .inr (.inl ⟨rfl, hd, by simpa using hs, rfl⟩)
    · rename_i hs
      exact .inl ⟨rfl, hd, by simpa using hs, rfl, rfl, rfl⟩
  by_cases k1 : o.kind = 1
  · rw [runM1 k1]
    exact onFile_law fun hd i f => spent_law hd fun _ => ⟨rfl, rfl, rfl⟩
  by_cases k2 : o.kind = 2
  · rw [runM2 k2]
    refine onFile_law fun hd i f => ?_
    split
    · exact refuse 3 (by decide) (by decide) (fun h => by rw [hd] at h; cases h)
    · exact spent_law hd fun _ => ⟨rfl, rfl, rfl⟩
  by_cases k3 : o.kind = 3
  · rw [runM3 k3]
    unfold renameM
    split
    · exact refuse 8 (by decide) (by decide) (fun _ => rfl)
    · exact onFile_law fun hd i f => spent_law hd fun _ => ⟨rfl, rfl, rfl⟩
  · rw [runM4 (show o.kind = 4 by omega)]
    exact onFile_law fun hd i f => spent_law hd fun _ => ⟨rfl, rfl, rfl⟩

theorem pick_use (z n : Int) (h : 1 ≤ n → 0 ≤ z ∧ z < n) (hn : 1 ≤ n) : 0 ≤ z ∧ z < n := h hn

theorem DeviceFails_spec (s : Sl) (ops : List DOp) (n : Int) (hn0 : i64 n) : Ct Pr F_law12_DeviceFails [s.v, .int .i64 n] .one [.bool] [] (ROps s ops) (fun t Bs => t.1 = true ∧ Bs = []) := by
  refine spec1 c_law12_DeviceFails fun B hr => ?_
  have fo : FroP B (ROps s ops) := ⟨hr, fun _ _ h s => h.mono s⟩
  have hr' := hr
  obtain ⟨hsc, os, h1, h2, h3⟩ := hr'
  have fa : Fro B s OP os := ⟨h1⟩
  have hsn := h1.1
  unfold law12_DeviceFails
  refine xcl works_spec rdb ?_
  rintro ⟨c, _⟩ _ ⟨h, rfl⟩
  obtain rfl : c = true := h
  refine app0 (ca1 (xiff rfl ?_))
  refine xcl (long_spec s ops) rdb ?_
  rintro ⟨c, _⟩ _ ⟨hlong, rfl⟩
  simp only at hlong
  refine app0 (ca1 (xif (fun h => xret ⟨rfl, rfl⟩) (fun h => ?_)))
  obtain ⟨hol, hob⟩ := long_false (hlong.symm.trans h)
  refine xcl (New_spec 16384) rdb ?_
  rintro ⟨q, r, _⟩ _ (⟨h, _⟩ | ⟨_, _, h5, ⟨b, h4⟩, rfl⟩)
  · omega
  simp only at h4 h5
  subst h4 h5
  refine app1 (ca2 ?_)
  refine xcl (Pick_spec n 100 hn0 ⟨by decide, by decide⟩) rdb ?_
  rintro ⟨r1, _⟩ _ ⟨hp, rfl⟩
  have hp := pick_use r1 100 hp (by decide)
  refine app0 (ca1 (xnil ?_))
  refine xcl (Arm_spec (some ⟨b, 0, none⟩) ⟨false, false, 0, 16384, []⟩ r1 ⟨by omega, by omega⟩) rdb ?_
  rintro _ _ rfl
  refine app1 (ca0 ?_)
  refine xloop2 (fun (n : Nat) (lf : Int) (i : Int) As => ∃ (k : Nat) (m : DM), i = (k : Int) ∧ n = ops.length - k ∧ k ≤ ops.length ∧ m.armed = true ∧ m.left = lf ∧ 0 ≤ lf ∧ lf ≤ 100 ∧ (m.down = true → lf = 0) ∧ As = [DevObj (some ⟨b, 0, none⟩) m]) ops.length ⟨0, _, rfl, rfl, by omega, by simp [armM]; omega, rfl, by omega, by omega, fun h => by simp [armM] at h, rfl⟩ ?_
  rintro n lf _ _ K ⟨k, m, rfl, rfl, hk, harm, rfl, hl0, hl1, hdn, rfl⟩ hK
  refine xif_dec (fun h => ?_) (fun h => xkeep (l := []) (xret ⟨rfl, rfl⟩))
  have hm := List.getElem?_eq_getElem (l := ops) (i := k) (by omega)
  have ho := List.getElem?_eq_getElem (l := os) (i := k) (by omega)
  obtain ⟨e1, e2, e3, e4, _, hn, hd⟩ := h3 k _ _ ho hm
  generalize ops[k] = x at *
  generalize os[k] = o at *
  obtain ⟨o1, o2, o3, o4, o5⟩ := o
  simp only at e1 e2 e3 e4 hd
  subst e1 e2 e3 e4
  have fd : Fro B o4 U8 x.data := ⟨hd⟩
  refine xjoin1 (fun (y : Int) As' => ∃ m', m'.armed = true ∧ m'.left = y ∧ 0 ≤ y ∧ y ≤ 100 ∧ (m'.down = true → y = 0) ∧ As' = [DevObj (some ⟨b, 0, none⟩) m']) ?_ ?_
  · intro J hJ
    refine xidxn (h1 := by omega) (h := fun _ _ => ?_)
    refine xgetE ho (h := ?_)
    dsimp only
    refine xjoin1 (fun y As' => y = decide (x.kind < 0 ∨ x.kind > 4) ∧ As' = [DevObj (some ⟨b, 0, none⟩) m]) ?_ ?_
    · intro J2 hJ2
      refine xif_dec (fun h => hJ2 _ _ ⟨by simp [h], rfl⟩) (fun h => ?_)
      refine xidxn (h1 := by omega) (h := fun _ _ => ?_)
      refine xgetE ho (h := hJ2 _ _ ⟨?_, rfl⟩)
      simp [h]
    rintro _ _ ⟨rfl, rfl⟩
    refine xif_dec (fun h => hJ _ _ ⟨m, harm, rfl, hl0, hl1, hdn, rfl⟩) (fun hkind => ?_)
    have law := step_law m x (by omega) (by omega)
    refine xfact 0 (fun g hg => hg.1) fun hi => ?_
    have hlen := hi.len
    refine xcl (Used_spec (some ⟨b, 0, none⟩) m) rdb ?_
    rintro ⟨r2, _⟩ _ ⟨hr2, rfl⟩
    simp only at hr2
    subst hr2
    refine app1 (ca1 ?_)
    refine xcl (Names_spec (some ⟨b, 0, none⟩) m) rdb ?_
    rintro ⟨s0, _⟩ _ rfl
    refine app2 (ca1 ?_)
    refine xidxn (h1 := by omega) (h := fun _ _ => ?_)
    refine xgetE ho (h := ?_)
    refine xgetEj ho (h := ?_)
    refine xgetEj ho (h := ?_)
    refine xgetEj ho (h := ?_)
    refine xgetEj ho (h := ?_)
    dsimp only
    refine xcl (run_spec (some ⟨b, 0, none⟩) m o4 x hn) rdb ?_
    rintro ⟨r3, _⟩ _ ⟨hr3, rfl⟩
    simp only at hr3
    subst hr3
    refine app1 (ca1 ?_)
    generalize runM m x = rr at *
    obtain ⟨m', e⟩ := rr
    simp only [StepLaw] at law ⊢
    -- the three ways
    have down : ∀ {K : Bool → WP} {As : List HP}, Ent B (DevObj (some ⟨b, 0, none⟩) m' :: As) (K m'.down) → Ent B (DevObj (some ⟨b, 0, none⟩) m' :: As) (XCall Pr F_device_power_Down [.pointer (some ⟨b, 0, none⟩)] .one [.bool] K) := fun h => by
      refine xcl (Down_spec (some ⟨b, 0, none⟩) m') rdb ?_
      rintro ⟨c, _⟩ _ ⟨hc, rfl⟩
      simp only at hc
      subst hc
      exact app1 (ca1 h)
    have same : m'.fs = m.fs → ∀ {K : Bool → WP}, Ent B [DevObj (some ⟨b, 0, none⟩) m', Ar Cf.ST s0 (m.fs.map fun f : DF => f.nm)] (K false) → Ent B [DevObj (some ⟨b, 0, none⟩) m', Ar Cf.ST s0 (m.fs.map fun f : DF => f.nm)]
        (XCall Pr F_device_Device_Used [.pointer (some ⟨b, 0, none⟩)] .one [.int .i64] fun (r4 : Int) => XJoin [.bool] (fun (K7 : Bool → WP) => XIf (r4 != (usedN m.fs : Int)) (K7 true) (XCall Pr F_device_Device_Names [.pointer (some ⟨b, 0, none⟩)] .one [.slice] fun s2 => XCall Pr F_kit_SameTexts [s2.v, s0.v] .one [.bool] fun (c8 : Bool) => K7 (!c8))) K) := fun hfs {K} h => by
      refine xcl (Used_spec (some ⟨b, 0, none⟩) m') rdb ?_
      rintro ⟨r4, _⟩ _ ⟨hr4, rfl⟩
      simp only at hr4
      rw [hfs] at hr4
      subst hr4
      refine app1 (ca1 (xjoin (xiff (by simp) ?_)))
      refine xcl (Names_spec (some ⟨b, 0, none⟩) m') rdb ?_
      rintro ⟨s2, _⟩ _ rfl
      refine app2 (ca1 ?_)
      rw [hfs]
      refine xcl (SameTexts_spec s2 s0 (m.fs.map fun f : DF => f.nm) (m.fs.map fun f : DF => f.nm) (by rw [List.length_map]; omega)) rdb ?_
      rintro ⟨c, _⟩ _ ⟨hc, rfl⟩
      obtain rfl : c = true := by simpa using hc
      exact app0 (ca1 (xdrop 1 h))
    obtain ⟨q1, q2⟩ := spendM_fs m
    rcases law with ⟨rfl, hd0, hs, ha', hd', hl'⟩ | ⟨rfl, hd0, hs, rfl⟩ | ⟨he, rfl, h10, hdd⟩
    · have hne : ¬ m.left = 0 := fun e => by simp [spendM, harm, e] at hs
      have hsp : spendM m = ({ m with left := m.left - 1 }, true) := by simp [spendM, harm, hne]
      rw [hsp] at ha' hd' hl'
      simp only at ha' hd' hl'
      refine xjoin (xift rfl ?_)
      rw [wrap_id (m.left - 1) (by omega) (by omega)]
      refine xjoin (xif_dec (fun h => absurd h (by omega)) (fun _ => xnil (down ?_)))
      rw [hd', hd0]
      refine xjoin (xiff rfl (xiff rfl (xjoin (xiff rfl (xiff rfl (xdrop 1 ?_))))))
      exact hJ _ _ ⟨m', by rw [ha', harm], hl', by omega, by omega, (fun h => by rw [hd', hd0] at h; cases h), rfl⟩
    · have hz : m.left = 0 := by
        by_cases e : m.left = 0
        · exact e
        · simp [spendM, harm, e] at hs
      have hsp : spendM m = ({ m with down := true }, false) := by simp [spendM, harm, hz]
      refine xjoin (xiff rfl ?_)
      refine xjoin (xif_dec (fun h => absurd h (by omega)) (fun _ => xnil (down ?_)))
      have hdt : (spendM m).1.down = true := by rw [hsp]
      rw [hdt]
      refine xjoin (xiff rfl (xiff (by rw [hz]; rfl) (xjoin (xift rfl (same q1 (xiff rfl (xdrop 1 ?_)))))))
      exact hJ _ _ ⟨(spendM m).1, by rw [hsp]; exact harm, by rw [hsp], by omega, by omega, fun _ => hz, rfl⟩
    · refine xjoin (xiff (by simpa using he) ?_)
      refine xjoin (xif_dec (fun h => absurd h (by omega)) (fun _ => xnil (down ?_)))
      have hc3 : ((!((e == 10) == m'.down)) && (e != 8)) = false := by
        cases hdv : m'.down with
        | true =>
          rcases hdd hdv with h | h <;> simp [h]
        | false =>
          have : ¬ e = 10 := fun h => by have := h10 h; rw [hdv] at this; cases this
          simp [this]
      rw [hc3]
      have hc5 : ((e == 10) && (m'.left != 0)) = false := by
        by_cases h : e = 10
        · have := hdn (h10 h); simp [this]
        · simp [h]
      refine xjoin (xiff rfl (xiff hc5 (xjoin (xift (by simpa using he) (same rfl (xiff rfl (xdrop 1 ?_)))))))
      exact hJ _ _ ⟨m', harm, rfl, hl0, hl1, hdn, rfl⟩
  · rintro y _ ⟨m', ha', rfl, hy0, hy1, hyd, rfl⟩
    rw [wrap_succ k (by omega)]
    exact hK (ops.length - (k + 1)) _ _ _ (by omega) ⟨k + 1, m', rfl, rfl, by omega, ha', rfl, hy0, hy1, hyd, rfl⟩

end Go.Cx
