/-
  The laws of the device: what they share.
  Calls of a device that are done one behind the other.
  DeviceRoom, DeviceRenamed.
  DeviceRenamed.
  DeviceFails.
  DeviceLasts.
  Slices of bool, read out of a form.
  The document's device: what its calls are made of.
  The document's device: its calls.
  The document's device: its longer calls.
  An append that tells what lies behind.
  DeviceRuns: both devices, side by side.
-/
import Derived.Test.YthnfnfhcgpnkpaaD1
namespace Go.Cx
open Go Go.Cf
set_option linter.unusedVariables false
variable {B : Base} {As : List HP}

theorem key_lit (l : List UInt8) : (⟨l.toArray⟩ : ByteArray).toList = l := by rw [ByteArray.toList_eq]

def leftR (m : DM) : Int := if m.armed then m.left else -1
abbrev refCells (m : DM) (s : Sl) : List Value := [.int .i64 m.room, .int .i64 (leftR m), .bool m.down, s.v]
def RefDev (p : Option Addr) (m : DM) : HP := fun h => DInv m ∧ ∃ b s cs, p = some ⟨b, 0, none⟩ ∧ star [Blk b (refCells m s), Ar FILE s cs, Each FileR cs m.fs] h

theorem xrdev (i : Nat) {p : Option Addr} {m : DM} {F : List HP} [q : Pick i As (RefDev p m) F] {φ : WP}
    (k : DInv m → ∀ b s cs, p = some ⟨b, 0, none⟩ → SF cs m.fs → s.n = cs.length → Ent B (Blk b (refCells m s) :: Ar FILE s cs :: Each FileR cs m.fs :: F) φ) : Ent B As φ := by
  refine Ent.perm q.perm ?_
  intro w hw
  obtain ⟨g, ⟨a, c, ⟨hi, b, s, cs, hp, pa⟩, pc, d, sa, sc⟩, hm, hu⟩ := hw
  have hl : SF cs m.fs ∧ s.n = cs.length := by
    obtain ⟨_, _, _, ⟨_, _, ⟨_, par⟩, ⟨_, _, pe, _⟩, _⟩, _⟩ := pa
    exact ⟨sf_of pe, par.1.symm⟩
  exact k hi b s cs hp hl.1 hl.2 w ⟨g, (star_append [_, _, _] F).2 ⟨a, c, pa, pc, d, sa, sc⟩, hm, hu⟩

theorem xrdev_put (i j l : Nat) {P1 P2 P3 : HP} {F F' F'' : List HP} [p : Pick i As P1 F] [q : Pick j F P2 F'] [r : Pick l F' P3 F''] {φ : WP} (b : Nat) (s : Sl) (cs : List CF) (m : DM) (hi : DInv m)
    (h : ∀ g, star [P1, P2, P3] g → star [Blk b (refCells m s), Ar FILE s cs, Each FileR cs m.fs] g) (k : Ent B (RefDev (some ⟨b, 0, none⟩) m :: F'') φ) : Ent B As φ :=
  xfold3 i j l (fun g hg => ⟨hi, b, s, cs, rfl, h g hg⟩) k

theorem rNew_spec (room : Int) : Ct Pr F_ref12_New [.int .i64 room] (.tup [none, none]) [.ptr, .int .i64] [] emp
    (fun t Bs => (((room < 0 ∨ room > 16777216) ∧ t.1 = none ∧ t.2.1 = 3 ∧ Bs = []) ∨ (0 ≤ room ∧ room ≤ 16777216 ∧ t.2.1 = 0 ∧ (∃ b, t.1 = some ⟨b, 0, none⟩) ∧ Bs = [RefDev t.1 ⟨false, false, 0, room, []⟩]))) := by
  refine spec2 c_ref12_New fun B _ => ?_
  unfold ref12_New
  refine xif (fun h => ?_) (fun h => ?_)
  · refine xret (.inl ⟨?_, rfl, rfl, rfl⟩)
    simpa using h
  · have h' : 0 ≤ room ∧ room ≤ 16777216 := by simp at h; omega
    refine xnew fun b => xnone FILE (xadd (A := Each FileR [] []) trivial ?_)
    refine xrdev_put 2 1 0 b ⟨none, 0, 0⟩ [] ⟨false, false, 0, room, []⟩ ⟨List.Pairwise.nil, by simp, by simp, by simp [usedN]; omega, h', by simp, ⟨by simp, by simp⟩, fun h => by cases h⟩ (fun _ h => h) ?_
    exact xret (.inr ⟨h'.1, h'.2, rfl, ⟨b, rfl⟩, rfl⟩)

end Go.Cx

namespace Go.Cx
open Go Go.Cf Go.ChangeShapes Go.WideShapes Go.Deep
set_option linter.unusedVariables false
variable {B : Base} {As : List HP}

structure DOp where
  kind : Int
  name : ByteArray
  to : ByteArray
  data : List UInt8
  n : Int
instance : Inhabited DOp := ⟨⟨0, ByteArray.empty, ByteArray.empty, [], 0⟩⟩

abbrev COp := Int × ByteArray × ByteArray × Sl × Int
def OP : Enc COp := ⟨fun x => [.int .i64 x.1, .string x.2.1, .string x.2.2.1, x.2.2.2.1.v, .int .i64 x.2.2.2.2], 5, fun _ => rfl, fun x v h => by simp at h; rcases h with rfl | rfl | rfl | rfl | rfl <;> rfl, by decide, (0, ByteArray.empty, ByteArray.empty, ⟨none, 0, 0⟩, 0)⟩

def OpOk (o : COp) (m : DOp) (h : Frag) : Prop := o.1 = m.kind ∧ o.2.1 = m.name ∧ o.2.2.1 = m.to ∧ o.2.2.2.2 = m.n ∧ i64 m.kind ∧ i64 m.n ∧ RAr U8 o.2.2.2.1 m.data h
def ROps (s : Sl) (ops : List DOp) : HP := fun h => s.n ≤ s.c ∧ ∃ os : List COp, RAr OP s os h ∧ os.length = ops.length ∧ ∀ (i : Nat) (o : COp) (m : DOp), os[i]? = some o → ops[i]? = some m → OpOk o m h

theorem OpOk.mono {o : COp} {m : DOp} {h g : Frag} (hr : OpOk o m h) (hs : Sub h g) : OpOk o m g :=
  ⟨hr.1, hr.2.1, hr.2.2.1, hr.2.2.2.1, hr.2.2.2.2.1, hr.2.2.2.2.2.1, hr.2.2.2.2.2.2.mono hs⟩
theorem ROps.mono {s : Sl} {ops : List DOp} {h g : Frag} (hr : ROps s ops h) (hs : Sub h g) : ROps s ops g := by
  obtain ⟨h0, os, h1, h2, h3⟩ := hr
  exact ⟨h0, os, h1.mono hs, h2, fun i o m a b => (h3 i o m a b).mono hs⟩

def shortB (m : DOp) : Bool := decide (m.data.length ≤ 4096) && decide (m.name.size ≤ 4096) && decide (m.to.size ≤ 4096)
def longB (ops : List DOp) : Bool := decide (200 < ops.length) || ops.any fun m => !(shortB m)

theorem long_false {ops : List DOp} (h : longB ops = false) : ops.length ≤ 200 ∧ ∀ m ∈ ops, shortB m = true := by
  simp only [longB, Bool.or_eq_false_iff, decide_eq_false_iff_not] at h
  refine ⟨by omega, fun m hm => ?_⟩
  have := List.any_eq_false.1 h.2 m hm
  simpa using this

/-- One call, as a law of lists. -/
def runM (m : DM) (o : DOp) : DM × Int :=
  if o.kind = 0 then appendM m o.name o.data
  else if o.kind = 1 then syncM m o.name
  else if o.kind = 2 then truncM m o.name o.n
  else if o.kind = 3 then renameM m o.name o.to
  else if o.kind = 4 then removeM m o.name
  else if o.kind = 5 then (armM m o.n, 0)
  else if o.kind = 6 then (wakeM m o.n, 0)
  else (m, 0)

theorem runM0 {m : DM} {o : DOp} (h : o.kind = 0) : runM m o = appendM m o.name o.data := by simp [runM, h]
theorem runM1 {m : DM} {o : DOp} (h : o.kind = 1) : runM m o = syncM m o.name := by simp [runM, h]
theorem runM2 {m : DM} {o : DOp} (h : o.kind = 2) : runM m o = truncM m o.name o.n := by simp [runM, h]
theorem runM3 {m : DM} {o : DOp} (h : o.kind = 3) : runM m o = renameM m o.name o.to := by simp [runM, h]
theorem runM4 {m : DM} {o : DOp} (h : o.kind = 4) : runM m o = removeM m o.name := by simp [runM, h]
theorem runM5 {m : DM} {o : DOp} (h : o.kind = 5) : runM m o = (armM m o.n, 0) := by simp [runM, h]
theorem runM6 {m : DM} {o : DOp} (h : o.kind = 6) : runM m o = (wakeM m o.n, 0) := by simp [runM, h]
theorem runM7 {m : DM} {o : DOp} (h0 : ¬ o.kind = 0) (h1 : ¬ o.kind = 1) (h2 : ¬ o.kind = 2) (h3 : ¬ o.kind = 3) (h4 : ¬ o.kind = 4) (h5 : ¬ o.kind = 5) (h6 : ¬ o.kind = 6) : runM m o = (m, 0) := by simp [runM, h0, h1, h2, h3, h4, h5, h6]

theorem run_inv {m : DM} (h : DInv m) {o : DOp} (hn : i64 o.n) : DInv (runM m o).1 := by
  unfold runM
  split
  · exact append_inv h _ _
  split
  · exact sync_inv h _
  split
  · exact trunc_inv h _ _
  split
  · exact rename_inv h _ _
  split
  · exact remove_inv h _
  split
  · exact arm_inv h hn
  split
  · exact wake_inv h _
  · exact h

theorem SameTexts_spec (a b : Sl) (xs ys : List ByteArray) (hm : xs.length ≤ 140737488355328) :
    Ct Pr F_kit_SameTexts [a.v, b.v] .one [.bool] [] ((RAr ST a xs).and (RAr ST b ys)) (fun t Bs => t.1 = decide (xs = ys) ∧ Bs = []) := by
  refine spec1 c_kit_SameTexts fun B hr => ?_
  have fa : Fro B a ST xs := ⟨hr.1⟩
  have fb : Fro B b ST ys := ⟨hr.2⟩
  have ha := hr.1.1
  have hb := hr.2.1
  unfold kit_SameTexts
  refine xif (fun h => ?_) (fun h => ?_)
  · refine xret ⟨?_, rfl⟩
    have : xs ≠ ys := fun e => by subst e; simp [← ha, ← hb] at h
    simp [this]
  · have hl : xs.length = ys.length := by simp at h; omega
    refine xloop1 (fun n i As => ∃ k : Nat, i = (k : Int) ∧ n = xs.length - k ∧ k ≤ xs.length ∧ xs.take k = ys.take k ∧ As = []) xs.length ⟨0, rfl, rfl, by omega, rfl, rfl⟩ ?_
    rintro n _ _ K ⟨k, rfl, rfl, hk, he, rfl⟩ hK
    refine xif_dec (fun h => ?_) (fun h => ?_)
    · refine xdraw (xidxn rfl (by omega) fun x hx => xgetE hx rfl rfl (xidxn rfl (by omega) fun y hy => xgetE hy rfl rfl ?_))
      refine xif (fun h => ?_) (fun h => ?_)
      · refine xret ⟨?_, rfl⟩
        have : xs ≠ ys := fun e => by subst e; rw [hx] at hy; cases hy; simp at h
        simp [this]
      · rw [wrap_succ k (by omega)]
        refine hK (xs.length - (k + 1)) _ _ (by omega) ⟨k + 1, rfl, rfl, by omega, ?_, rfl⟩
        have : x = y := ba_toList_inj (by simpa using h)
        rw [List.take_add_one, List.take_add_one, he, hx, hy, this]
    · refine xret ⟨?_, rfl⟩
      have : k = xs.length := by omega
      subst this
      rw [List.take_length, hl, List.take_length] at he
      simp [he]

end Go.Cx

namespace Go.Cx
open Go Go.Cf Go.ChangeShapes Go.WideShapes Go.Deep
set_option linter.unusedVariables false
set_option maxRecDepth 100000
variable {B : Base} {As : List HP}

section
variable {H : Type} {enc : TypeId × Value → H} {w : World} {base : Nat} {held : Bool}

theorem opens_str {P : Program} {t : TypeId} (ht : P.underlying t = some .string) : Opens enc P w base held t ST (fun a b => a = b) := by
  intro fuel cs x hx
  obtain ⟨s, hcs, _⟩ := DataW.trod_string ht hx
  exact ⟨s, s, hcs, rfl⟩

end

theorem spent_room {m : DM} {g : DM → DM} (hg : ∀ m, (g m).room = m.room) : (spent m g).1.room = m.room := by
  unfold spent
  split
  · exact (spendM_fs m).2
  · simp only [hg]; exact (spendM_fs m).2

theorem onFile_room {m : DM} {nm : ByteArray} {g : Nat → DF → DM → DM × Int} (hg : ∀ i f, (g i f m).1.room = m.room) : (onFile m nm g).1.room = m.room := by
  unfold onFile
  split
  · rfl
  split
  · rfl
  · exact hg _ _

theorem runM_room (m : DM) (o : DOp) : (runM m o).1.room = m.room := by
  unfold runM
  split
  · unfold appendM
    split
    · rfl
    split
    · rfl
    split
    · rfl
    split
    · exact (spendM_fs m).2
    · exact (spendM_fs m).2
  split
  · exact onFile_room fun _ _ => spent_room fun _ => rfl
  split
  · refine onFile_room fun _ _ => ?_
    split
    · rfl
    · exact spent_room fun _ => rfl
  split
  · unfold renameM
    split
    · rfl
    · exact onFile_room fun _ _ => spent_room fun _ => rfl
  split
  · exact onFile_room fun _ _ => spent_room fun _ => rfl
  split
  · rfl
  split
  · rfl
  · rfl

theorem read_at {m : DM} (h : Sorted m.fs) {i : Nat} {f : DF} (hf : m.fs[i]? = some f) : readM m f.nm = (f.b, 0) := by
  obtain ⟨h1, h2⟩ := find_unique h hf rfl
  unfold readM
  simp only [DF.key] at h1 h2
  rw [h1, h2]
  simp [hf]

end Go.Cx

namespace Go.Cx
open Go Go.Cf
set_option linter.unusedVariables false
variable {B : Base} {As : List HP}

/-! The law of lists. -/
theorem findL_keys : ∀ {fs gs : List DF} {k : Key}, gs.map DF.key = fs.map DF.key → findL gs k = findL fs k ∧ thereL gs k = thereL fs k := by
  have h1 : ∀ {fs gs : List DF} {k : Key}, gs.map DF.key = fs.map DF.key → findL gs k = findL fs k := by
    intro fs
    induction fs with
    | nil => intro gs k h; cases gs with
      | nil => rfl
      | cons => cases h
    | cons f fs ih =>
      intro gs k h
      cases gs with
      | nil => cases h
      | cons g gs =>
        simp only [List.map_cons, List.cons.injEq] at h
        have := ih (k := k) h.2
        simp only [findL, List.takeWhile_cons, h.1] at this ⊢
        split
        · simp [this]
        · rfl
  intro fs gs k h
  refine ⟨h1 h, ?_⟩
  unfold thereL
  rw [h1 h]
  have h2 := congrArg (fun l => l[findL fs k]?) h
  simp only [List.getElem?_map] at h2
  cases hg : gs[findL fs k]? with
  | none =>
    cases hf : fs[findL fs k]? with
    | none => rfl
    | some f => rw [hg, hf] at h2; cases h2
  | some g =>
    cases hf : fs[findL fs k]? with
    | none => rw [hg, hf] at h2; cases h2
    | some f =>
      rw [hg, hf] at h2
      simp only [Option.map_some, Option.some.injEq] at h2
      simp only [h2]

theorem wake_keys (fs : List DF) (keep : Int) : (fs.map (wakeF keep)).map DF.key = fs.map DF.key := by
  rw [List.map_map]; rfl

/-- Behind a Wake all is synced. -/
theorem wake_wake (fs : List DF) (k k' : Int) (h : ∀ f ∈ fs, 0 ≤ f.sy ∧ f.sy ≤ f.b.length) : (fs.map (wakeF k)).map (wakeF k') = fs.map (wakeF k) := by
  rw [List.map_map]
  refine List.map_congr_left fun f hf => ?_
  have h1 := keepN_le (h f hf) k
  have h0 := h f hf
  have hl : ((f.b.take (keepN k f).toNat).length : Int) = keepN k f := by rw [List.length_take]; omega
  have h2 : keepN k' (wakeF k f) = keepN k f := by
    have := keepN_le (f := wakeF k f) (by simp only [wakeF]; omega) k'
    simp only [wakeF] at this ⊢
    rw [hl] at this
    simp only [keepN] at this ⊢; omega
  simp only [Function.comp]
  have e : wakeF k' (wakeF k f) = { wakeF k f with b := (wakeF k f).b.take (keepN k' (wakeF k f)).toNat, sy := keepN k' (wakeF k f) } := rfl
  rw [e, h2]
  simp only [wakeF]
  rw [List.take_take, Nat.min_self]

theorem read_there {m : DM} (h : DInv m) {nm : ByteArray} (ht : thereL m.fs nm.toList = true) : ∃ f, f ∈ m.fs ∧ m.fs[findL m.fs nm.toList]? = some f ∧ readM m nm = (f.b, 0) := by
  obtain ⟨hf, hk⟩ := getD_there (d := ⟨nm, [], 0⟩) ht
  refine ⟨_, List.mem_of_getElem? hf, hf, ?_⟩
  unfold readM
  rw [ht]; rfl

theorem read_none {m : DM} {nm : ByteArray} (ht : thereL m.fs nm.toList = false) : readM m nm = ([], 6) := by
  unfold readM
  rw [ht]; rfl

theorem erase_other {fs : List DF} (hs : Sorted fs) {i : Nat} {f : DF} (hf : fs[i]? = some f) : ∀ x ∈ fs.eraseIdx i, x.key ≠ f.key := by
  intro x hx
  obtain ⟨j, hj, hji, rfl⟩ := List.mem_eraseIdx_iff_getElem.1 hx
  intro e
  rcases Nat.lt_or_gt_of_ne hji with h | h
  · have := hs.get h (List.getElem?_eq_getElem hj) hf
    rw [e, lt_irrefl] at this; cases this
  · have := hs.get h hf (List.getElem?_eq_getElem hj)
    rw [e, lt_irrefl] at this; cases this

/-- What is at the new name, and that nothing is at the old one. -/
theorem move_law {m : DM} (h : DInv m) {i : Nat} {f : DF} {to : ByteArray} (hf : m.fs[i]? = some f) (ht : namedB to = true) :
    (∃ j : Nat, (moveL m.fs i f to)[j]? = some { f with nm := to }) ∧ (∀ x ∈ moveL m.fs i f to, x = { f with nm := to } ∨ x ∈ m.fs.eraseIdx i) := by
  unfold moveL
  simp only
  cases hth : thereL (m.fs.eraseIdx i) to.toList with
  | true =>
    obtain ⟨g, hg, hk⟩ := there_get hth
    rw [if_pos rfl]
    refine ⟨⟨_, List.getElem?_set_self (List.getElem?_eq_some_iff.1 hg).1⟩, fun x hx => ?_⟩
    rcases List.mem_or_eq_of_mem_set hx with h | h
    · exact .inr h
    · exact .inl h
  | false =>
    rw [if_neg (by simp)]
    exact ⟨⟨_, insL_get _ _ _ (findL_le _ _)⟩, fun x hx => mem_insL hx⟩

structure Renamed (m : DM) (nm to : ByteArray) : Prop where
  no : (renameM m nm to).2 ≠ 0 → ((renameM m nm to).2 = 8 ∨ ((renameM m nm to).2 = 6 ∧ (readM m nm).2 = 6)) ∧ (renameM m nm to).1.fs = m.fs
  yes : (renameM m nm to).2 = 0 → (readM m nm).2 = 0 ∧ readM (renameM m nm to).1 to = readM m nm ∧ (nm ≠ to → (readM (renameM m nm to).1 nm).2 = 6)

theorem renamed {m : DM} (h : DInv m) (hd : m.down = false) (ha : m.armed = false) (nm to : ByteArray) : Renamed m nm to := by
  have hsp : spendM m = (m, true) := by simp [spendM, ha]
  cases hn : namedB to with
  | false =>
    have e : renameM m nm to = (m, 8) := by simp [renameM, hn]
    exact ⟨fun _ => ⟨.inl (by rw [e]), by rw [e]⟩, fun h => by rw [e] at h; simp at h⟩
  | true =>
    cases ht : thereL m.fs nm.toList with
    | false =>
      have e : renameM m nm to = (m, 6) := by simp only [renameM, hn]; rw [onFile_none hd ht]; rfl
      refine ⟨fun _ => ⟨.inr ⟨by rw [e], by rw [read_none ht]⟩, by rw [e]⟩, fun h => by rw [e] at h; simp at h⟩
    | true =>
      obtain ⟨f, hfm, hf, hrd⟩ := read_there h ht
      have hgd : m.fs.getD (findL m.fs nm.toList) ⟨nm, [], 0⟩ = f := by simp [hf]
      have e : renameM m nm to = ({ m with fs := moveL m.fs (findL m.fs nm.toList) f to }, 0) := by
        simp only [renameM, hn]
        rw [onFile_ok hd ht, hgd, spent_ok (by rw [hsp])]
        simp only [hsp]; rfl
      have hinv := move_inv h hf hn
      obtain ⟨⟨j, hj⟩, hmem⟩ := move_law h hf hn
      have hkey : f.key = nm.toList := by
        obtain ⟨g, hg, hk⟩ := there_get ht
        rw [hf] at hg; cases hg; exact hk
      refine ⟨fun h => absurd (by rw [e]) h, fun _ => ⟨by rw [hrd], ?_, fun hne => ?_⟩⟩
      · rw [e, hrd]
        exact read_at hinv.sorted hj
      · rw [e]
        have : thereL (moveL m.fs (findL m.fs nm.toList) f to) nm.toList = false := by
          cases hth : thereL (moveL m.fs (findL m.fs nm.toList) f to) nm.toList with
          | false => rfl
          | true =>
            obtain ⟨g, hg, hk⟩ := there_get hth
            rcases hmem g (List.mem_of_getElem? hg) with h1 | h1
            · rw [h1] at hk
              exact absurd (ba_toList_inj hk.symm) hne
            · exact absurd (hk.trans hkey.symm) (erase_other h.sorted hf g h1)
        rw [read_none this]


theorem read_fs {m m' : DM} (h : m'.fs = m.fs) (nm : ByteArray) : readM m' nm = readM m nm := by
  unfold readM
  rw [h]

theorem wake_same {fs : List DF} (h : ∀ f ∈ fs, f.sy = f.b.length) : fs.map (wakeF 0) = fs := by
  conv => rhs; rw [← List.map_id fs]
  refine List.map_congr_left fun f hf => ?_
  have h0 := h f hf
  have h1 : keepN 0 f = f.sy := by unfold keepN; split <;> split <;> omega
  simp only [wakeF, h1, id]
  rw [List.take_of_length_le (by omega)]

theorem wake_synced {m : DM} (h : DInv m) (keep : Int) : ∀ f ∈ (wakeM m keep).fs, f.sy = f.b.length := by
  intro f hf
  obtain ⟨g, hg, rfl⟩ := List.mem_map.1 hf
  have h1 := keepN_le (h.syn g hg) keep
  have h0 := h.syn g hg
  simp only [wakeF, List.length_take]; omega

theorem renamed_synced {m : DM} (h : DInv m) (hd : m.down = false) (ha : m.armed = false) (hs : ∀ f ∈ m.fs, f.sy = f.b.length) (nm to : ByteArray) : ∀ f ∈ (renameM m nm to).1.fs, f.sy = f.b.length := by
  have hsp : spendM m = (m, true) := by simp [spendM, ha]
  cases hn : namedB to with
  | false =>
    have e : renameM m nm to = (m, 8) := by simp [renameM, hn]
    rw [e]; exact hs
  | true =>
    cases ht : thereL m.fs nm.toList with
    | false =>
      have e : renameM m nm to = (m, 6) := by simp only [renameM, hn]; rw [onFile_none hd ht]; rfl
      rw [e]; exact hs
    | true =>
      obtain ⟨f, hfm, hf, hrd⟩ := read_there h ht
      have hgd : m.fs.getD (findL m.fs nm.toList) ⟨nm, [], 0⟩ = f := by simp [hf]
      have e : renameM m nm to = ({ m with fs := moveL m.fs (findL m.fs nm.toList) f to }, 0) := by
        simp only [renameM, hn]
        rw [onFile_ok hd ht, hgd, spent_ok (by rw [hsp])]
        simp only [hsp]; rfl
      rw [e]
      intro x hx
      rcases (move_law h hf hn).2 x hx with h1 | h1
      · rw [h1]; exact hs f hfm
      · exact hs x (List.mem_of_mem_eraseIdx h1)

end Go.Cx

namespace Go.Cx
open Go Go.Cf
set_option linter.unusedVariables false
variable {B : Base} {As : List HP}

/-- What a call comes to: it is done, the power fails in its place, or it is refused. -/
def StepLaw (m : DM) (r : DM × Int) : Prop :=
  (r.2 = 0 ∧ m.down = false ∧ (spendM m).2 = true ∧ r.1.armed = (spendM m).1.armed ∧ r.1.down = (spendM m).1.down ∧ r.1.left = (spendM m).1.left) ∨
  (r.2 = 10 ∧ m.down = false ∧ (spendM m).2 = false ∧ r.1 = (spendM m).1) ∨
  (r.2 ≠ 0 ∧ r.1 = m ∧ (r.2 = 10 → m.down = true) ∧ (m.down = true → r.2 = 10 ∨ r.2 = 8))

theorem spent_law {m : DM} (hd : m.down = false) {g : DM → DM} (hg : ∀ m, (g m).armed = m.armed ∧ (g m).down = m.down ∧ (g m).left = m.left) : StepLaw m (spent m g) := by
  unfold spent
  cases hs : (spendM m).2 with
  | true =>
    obtain ⟨h1, h2, h3⟩ := hg (spendM m).1
    exact .inl ⟨rfl, hd, hs, h1, h2, h3⟩
  | false => exact .inr (.inl ⟨rfl, hd, hs, rfl⟩)

theorem onFile_law {m : DM} {nm : ByteArray} {g : Nat → DF → DM → DM × Int} (hg : m.down = false → ∀ i f, StepLaw m (g i f m)) : StepLaw m (onFile m nm g) := by
  unfold onFile
  cases hd : m.down with
  | true => exact .inr (.inr ⟨by show (10 : Int) ≠ 0; decide, rfl, fun _ => hd, fun _ => .inl rfl⟩)
  | false =>
    simp only [Bool.false_eq_true, if_false]
    split
    · exact .inr (.inr ⟨by show (6 : Int) ≠ 0; decide, rfl, fun h => by simp at h, fun h => by rw [hd] at h; cases h⟩)
    · exact hg hd _ _

theorem step_law (m : DM) (o : DOp) (h0 : 0 ≤ o.kind) (h4 : o.kind ≤ 4) : StepLaw m (runM m o) := by
  have refuse : ∀ e : Int, e ≠ 0 → e ≠ 10 → (m.down = true → e = 8) → StepLaw m (m, e) := fun e h1 h2 h3 => .inr (.inr ⟨h1, rfl, fun h => absurd h h2, fun h => .inr (h3 h)⟩)
  by_cases k0 : o.kind = 0
  · rw [runM0 k0]
    unfold appendM
    split
    · exact refuse 8 (by decide) (by decide) (fun _ => rfl)
    split
    · rename_i hd
      exact .inr (.inr ⟨by show (10 : Int) ≠ 0; decide, rfl, fun _ => hd, fun _ => .inl rfl⟩)
    rename_i hd
    have hd : m.down = false := by simpa using hd
    split
    · exact refuse 9 (by decide) (by decide) (fun h => by rw [hd] at h; cases h)
    split
    · rename_i hs
      exact .inr (.inl ⟨rfl, hd, by simpa using hs, rfl⟩)
    · rename_i hs
      exact .inl ⟨rfl, hd, by simpa using hs, rfl, rfl, rfl⟩
  by_cases k1 : o.kind = 1
  · rw [runM1 k1]
    exact onFile_law fun hd i f => spent_law hd fun _ => ⟨rfl, rfl, rfl⟩
  by_cases k2 : o.kind = 2
  · rw [runM2 k2]
    refine onFile_law fun hd i f => ?_
    split
    · exact refuse 3 (by decide) (by decide) (fun h => by rw [hd] at h; cases h)
    · exact spent_law hd fun _ => ⟨rfl, rfl, rfl⟩
  by_cases k3 : o.kind = 3
  · rw [runM3 k3]
    unfold renameM
    split
    · exact refuse 8 (by decide) (by decide) (fun _ => rfl)
    · exact onFile_law fun hd i f => spent_law hd fun _ => ⟨rfl, rfl, rfl⟩
  · rw [runM4 (show o.kind = 4 by omega)]
    exact onFile_law fun hd i f => spent_law hd fun _ => ⟨rfl, rfl, rfl⟩

theorem pick_use (z n : Int) (h : 1 ≤ n → 0 ≤ z ∧ z < n) (hn : 1 ≤ n) : 0 ≤ z ∧ z < n := h hn

end Go.Cx

namespace Go.Cx
open Go Go.Cf
set_option linter.unusedVariables false
variable {B : Base} {As : List HP}

abbrev logN : ByteArray := ⟨#[108, 111, 103]⟩

/-- One file, or none. -/
def LI (m : DM) (all : List UInt8) (sy : Int) : Prop := (m.fs = [] ∧ all = [] ∧ sy = 0) ∨ m.fs = [⟨logN, all, sy⟩]

theorem append_yes {m : DM} {nm : ByteArray} {b : List UInt8} (h : (appendM m nm b).2 = 0) :
    (appendM m nm b).1.fs = (withF m nm).set (findL m.fs nm.toList) { ((withF m nm).getD (findL m.fs nm.toList) ⟨nm, [], 0⟩) with b := ((withF m nm).getD (findL m.fs nm.toList) ⟨nm, [], 0⟩).b ++ b } := by
  revert h
  unfold appendM
  split
  · intro h; simp at h
  split
  · intro h; simp at h
  split
  · intro h; simp at h
  split
  · intro h; simp at h
  · intro _; rfl

theorem append_no {m : DM} {nm : ByteArray} {b : List UInt8} (h : (appendM m nm b).2 ≠ 0) : (appendM m nm b).1.fs = m.fs := by
  revert h
  unfold appendM
  split
  · intro _; rfl
  split
  · intro _; rfl
  split
  · intro _; rfl
  split
  · intro _; exact (spendM_fs m).1
  · intro h; exact absurd rfl h

theorem LI.append {m : DM} {all : List UInt8} {sy : Int} (h : LI m all sy) (row : List UInt8) : ((appendM m logN row).2 = 0 → LI (appendM m logN row).1 (all ++ row) sy) ∧ ((appendM m logN row).2 ≠ 0 → LI (appendM m logN row).1 all sy) := by
  refine ⟨fun h0 => ?_, fun h0 => ?_⟩
  · right
    rw [append_yes h0]
    rcases h with ⟨h1, rfl, rfl⟩ | h1
    · simp [withF, h1, thereL, findL, insL]
    · simp [withF, h1, thereL, findL, lt_irrefl, DF.key]
  · unfold LI
    rw [append_no h0]
    exact h

theorem LI.sync {m : DM} {all : List UInt8} {sy : Int} (h : LI m all sy) : ((syncM m logN).2 = 0 → LI (syncM m logN).1 all all.length) ∧ ((syncM m logN).2 ≠ 0 → LI (syncM m logN).1 all sy) := by
  have hsp := (spendM_fs m).1
  rcases h with ⟨h1, rfl, rfl⟩ | h1
  · have hno : thereL m.fs logN.toList = false := by simp [h1, thereL]
    have e : (syncM m logN).1 = m ∧ (syncM m logN).2 ≠ 0 := by
      unfold syncM onFile
      rw [hno]
      cases m.down <;> simp
    rw [e.1]
    exact ⟨fun h => absurd h e.2, fun _ => .inl ⟨h1, rfl, rfl⟩⟩
  · have hf : findL m.fs logN.toList = 0 := by simp [h1, findL, lt_irrefl, DF.key]
    have ht : thereL m.fs logN.toList = true := by simp [h1, thereL, DF.key, findL, lt_irrefl]
    cases hd : m.down with
    | true =>
      have e : syncM m logN = (m, 10) := by simp [syncM, onFile_down hd]
      rw [e]
      exact ⟨fun h => by simp at h, fun _ => .inr h1⟩
    | false =>
      unfold syncM
      rw [onFile_ok hd ht, hf]
      cases hs : (spendM m).2 with
      | true =>
        rw [spent_ok hs]
        refine ⟨fun _ => .inr ?_, fun h => absurd rfl h⟩
        simp [hsp, h1]
      | false =>
        rw [spent_no hs]
        refine ⟨fun h => by simp at h, fun _ => .inr ?_⟩
        rw [hsp, h1]

theorem LI.read_some {m : DM} {all : List UInt8} {sy : Int} (h : m.fs = [⟨logN, all, sy⟩]) : readM m logN = (all, 0) := by
  simp [readM, thereL, findL, h, lt_irrefl, DF.key]
theorem LI.read_none {m : DM} (h : m.fs = []) : readM m logN = ([], 6) := by
  simp [readM, thereL, h]

theorem LI.short {m : DM} {all : List UInt8} {sy : Int} (hi : DInv m) (h : LI m all sy) : all.length ≤ 16777216 ∧ 0 ≤ sy ∧ sy ≤ all.length := by
  have h2 := hi.used
  have h3 := hi.room
  rcases h with ⟨_, rfl, rfl⟩ | h1
  · simp
  · have h4 := hi.syn ⟨logN, all, sy⟩ (by rw [h1]; simp)
    rw [h1] at h2
    simp [usedN] at h2 h4
    omega

end Go.Cx

namespace Go.Cx
open Go Go.Cf Go.ChangeShapes Go.WideShapes Go.Deep
set_option linter.unusedVariables false
set_option maxRecDepth 100000
section
variable {H : Type} {enc : TypeId × Value → H} {w : World} {base : Nat} {held : Bool}

theorem opens_bool {P : Program} {t : TypeId} (ht : P.underlying t = some .bool) : Opens enc P w base held t BL (fun a b => a = b) := by
  intro fuel cs x hx
  obtain ⟨s, hcs, _⟩ := DataW.trod_bool ht hx
  exact ⟨s, s, hcs, rfl⟩

end
end Go.Cx

namespace Go.Cx
open Go Go.Cf
set_option linter.unusedVariables false
variable {B : Base} {As : List HP}

abbrev rc (rm lf : Int) (dn : Bool) (s : Sl) : List Value := [.int .i64 rm, .int .i64 lf, .bool dn, s.v]

theorem xrdev_back (b : Nat) (s : Sl) (cs : List CF) {m : DM} {G : List HP} [q : Split [Blk b (refCells m s), Ar FILE s cs, Each FileR cs m.fs] As G] {φ : WP}
    (hi : DInv m) (k : Ent B (RefDev (some ⟨b, 0, none⟩) m :: G) φ) : Ent B As φ :=
  xfold [Blk b (refCells m s), Ar FILE s cs, Each FileR cs m.fs] (RefDev (some ⟨b, 0, none⟩) m) (fun g hg => ⟨hi, b, s, cs, rfl, hg⟩) k

theorem xjoin2 {s1 s2 : Sh} {body : (s1.ty → s2.ty → WP) → WP} {rest : s1.ty → s2.ty → WP} (J : s1.ty → s2.ty → List HP → Prop) (h1 : ∀ K : s1.ty → s2.ty → WP, (∀ x y As', J x y As' → Ent B As' (K x y)) → Ent B As (body K)) (h2 : ∀ x y As', J x y As' → Ent B As' (rest x y)) :
    Ent B As (XJoin [s1, s2] body rest) := h1 rest h2

theorem rNamed_spec (nm : ByteArray) : Ct Pr F_ref12_Named [.string nm] .one [.bool] [] emp (fun t Bs => t.1 = namedB nm ∧ Bs = []) := by
  refine spec1 c_ref12_Named fun B _ => ?_
  unfold ref12_Named
  refine xret ⟨?_, rfl⟩
  have e : decide ((nm.size : Int) > 0) = decide ((nm.size : Int) ≥ 1) := decide_eq_decide.2 (by omega)
  show (decide ((nm.size : Int) > 0) && _) = _
  rw [e]; rfl

def fIdx (fs : List DF) (nm : ByteArray) : Int := if thereL fs nm.toList then (findL fs nm.toList : Int) else -1
theorem fIdx_yes {fs : List DF} {nm : ByteArray} (h : thereL fs nm.toList = true) : fIdx fs nm = (findL fs nm.toList : Int) := by simp [fIdx, h]
theorem fIdx_no {fs : List DF} {nm : ByteArray} (h : thereL fs nm.toList = false) : fIdx fs nm = -1 := by simp [fIdx, h]
theorem fIdx_neg (fs : List DF) (nm : ByteArray) : decide (fIdx fs nm < 0) = !(thereL fs nm.toList) := by
  cases h : thereL fs nm.toList with
  | true => rw [fIdx_yes h]; simp
  | false => rw [fIdx_no h]; rfl

theorem rFind_raw (b : Nat) (rm lf : Int) (dn : Bool) (s : Sl) (cs : List CF) (fs : List DF) (nm : ByteArray) (hs : Sorted fs) (hn : SameNames cs fs) (hl : fs.length ≤ 1000) :
    Ct Pr F_ref12_Device_Find [.pointer (some ⟨b, 0, none⟩), .string nm] .one [.int .i64] [Blk b (rc rm lf dn s), Ar FILE s cs] emp (fun t Bs => t.1 = fIdx fs nm ∧ Bs = [Blk b (rc rm lf dn s), Ar FILE s cs]) := by
  refine spec1 c_ref12_Device_Find fun B _ => ?_
  unfold ref12_Device_Find
  obtain ⟨hcl, hnm⟩ := hn
  refine xlen s fun hn1 _ => ?_
  refine xloop1 (fun n i As => ∃ k : Nat, i = (k : Int) ∧ n = fs.length - k ∧ k ≤ fs.length ∧ (∀ t f, t < k → fs[t]? = some f → f.key ≠ nm.toList) ∧ As = [Blk b (rc rm lf dn s), Ar FILE s cs]) fs.length ⟨0, rfl, rfl, by omega, fun t f h => by omega, rfl⟩ ?_
  rintro n _ _ K ⟨k, rfl, rfl, hk, hno, rfl⟩ hK
  refine xnil (xget (h := xif_dec (fun h => ?_) (fun h => ?_)))
  · have hf := List.getElem?_eq_getElem (l := fs) (i := k) (by omega)
    have hc := List.getElem?_eq_getElem (l := cs) (i := k) (by omega)
    have hnm' := hnm _ _ _ hc hf
    refine xnil (xget (h := ?_))
    refine xidxn (h1 := by omega) (h := fun _ _ => ?_)
    refine xgetE hc (h := ?_)
    refine xif (fun g => ?_) (fun g => ?_)
    · have hk' : fs[k].key = nm.toList := by rw [DF.key, ← hnm']; simpa using g
      obtain ⟨h1, h2⟩ := find_unique hs hf hk'
      exact xret ⟨by rw [fIdx_yes h2, h1], rfl⟩
    · rw [wrap_succ k (by omega)]
      refine hK (fs.length - (k + 1)) _ _ (by omega) ⟨k + 1, rfl, rfl, by omega, fun t f ht hft => ?_, rfl⟩
      rcases Nat.lt_or_ge t k with h' | h'
      · exact hno t f h' hft
      · obtain rfl : t = k := by omega
        rw [hf] at hft; cases hft; rw [DF.key, ← hnm']; simpa using g
  · have : k = fs.length := by omega
    subst this
    have ht : thereL fs nm.toList = false := by
      cases ht : thereL fs nm.toList with
      | false => rfl
      | true =>
        obtain ⟨f, h1, h2⟩ := there_get ht
        exact absurd h2 (hno _ f (List.getElem?_eq_some_iff.1 h1).1 h1)
    exact xret ⟨by rw [fIdx_no ht], rfl⟩

theorem rUsed_raw (b : Nat) (lf : Int) (dn : Bool) (s : Sl) (cs : List CF) (m : DM) (hi : DInv m) (sf : SF cs m.fs) :
    Ct Pr F_ref12_Device_Used [.pointer (some ⟨b, 0, none⟩)] .one [.int .i64] [Blk b (rc m.room lf dn s), Ar FILE s cs] emp (fun t Bs => t.1 = (usedN m.fs : Int) ∧ Bs = [Blk b (rc m.room lf dn s), Ar FILE s cs]) := by
  refine spec1 c_ref12_Device_Used fun B _ => ?_
  unfold ref12_Device_Used
  have hu := hi.used
  have hroom := hi.room
  have hlen := hi.len
  refine xlen s fun hn _ => ?_
  refine xloop2 (fun n u i As => ∃ k : Nat, i = (k : Int) ∧ u = (usedN (m.fs.take k) : Int) ∧ n = m.fs.length - k ∧ k ≤ m.fs.length ∧ As = [Blk b (rc m.room lf dn s), Ar FILE s cs]) m.fs.length ⟨0, rfl, rfl, rfl, by omega, rfl⟩ ?_
  rintro n _ _ _ K ⟨k, rfl, rfl, rfl, hk, rfl⟩ hK
  have hcl := sf.len
  refine xnil (xget (h := xif_dec (fun h => ?_) (fun h => ?_)))
  · have hf := List.getElem?_eq_getElem (l := m.fs) (i := k) (by omega)
    have hc := List.getElem?_eq_getElem (l := cs) (i := k) (by omega)
    obtain ⟨_, _, h3, _⟩ := sf.each _ _ _ hc hf
    have e := usedN_take m.fs k (by omega)
    have hle := usedN_take_le m.fs (k + 1)
    refine xnil (xget (h := ?_))
    refine xidxn (h1 := by omega) (h := fun _ _ => ?_)
    refine xgetEj hc (h := ?_)
    rw [wrap_succ k (by omega), h3, wrap_id _ (by omega) (by omega)]
    refine hK (m.fs.length - (k + 1)) _ _ _ (by omega) ⟨k + 1, rfl, ?_, rfl, by omega, rfl⟩
    rw [e]; show (_ : Int) = _; simp
  · have : k = m.fs.length := by omega
    subst this
    refine xret ⟨?_, rfl⟩
    rw [List.take_length]

theorem rFree_raw (b : Nat) (lf : Int) (dn : Bool) (s : Sl) (cs : List CF) (m : DM) (hi : DInv m) (sf : SF cs m.fs) :
    Ct Pr F_ref12_Device_Free [.pointer (some ⟨b, 0, none⟩)] .one [.int .i64] [Blk b (rc m.room lf dn s), Ar FILE s cs] emp (fun t Bs => t.1 = m.room - (usedN m.fs : Int) ∧ Bs = [Blk b (rc m.room lf dn s), Ar FILE s cs]) := by
  refine spec1 c_ref12_Device_Free fun B _ => ?_
  unfold ref12_Device_Free
  have hu := hi.used
  have hroom := hi.room
  refine xdraw (xnil (xget (h := ?_)))
  refine xcl (rUsed_raw b lf dn s cs m hi sf) rdb ?_
  rintro ⟨r, _⟩ _ ⟨hr, rfl⟩
  simp only at hr
  subst hr
  refine app2 (ca1 (xchk (h := ?_)))
  rw [wrap_id _ (by omega) (by omega)]
  exact xret ⟨rfl, rfl⟩

theorem rDone_raw (b : Nat) (s : Sl) (m : DM) (hl : i64 m.left) (ha : m.armed = true → 0 ≤ m.left) :
    Ct Pr F_ref12_Device_Done [.pointer (some ⟨b, 0, none⟩)] .one [.bool] [Blk b (refCells m s)] emp (fun t Bs => t.1 = (spendM m).2 ∧ Bs = [Blk b (refCells (spendM m).1 s)]) := by
  refine spec1 c_ref12_Device_Done fun B _ => ?_
  unfold ref12_Device_Done
  obtain ⟨ar, dn, lf, rm, fs⟩ := m
  cases ar with
  | false => exact xnil (xget (h := xiff rfl (xnil (xget (h := xjoin (xiff rfl (xret ⟨rfl, rfl⟩)))))))
  | true =>
    have h0 := ha rfl
    simp only at h0 hl
    refine xnil (xget (h := xif (fun h => ?_) (fun h => ?_)))
    · have e : spendM ⟨true, dn, lf, rm, fs⟩ = (⟨true, true, lf, rm, fs⟩, false) := by
        have : (lf == 0) = true := h
        simp [spendM, this]
      rw [e]
      exact xnil (xset (h := xret ⟨rfl, rfl⟩))
    · have hne : (lf == 0) = false := h
      have hne' : ¬ lf = 0 := by simpa using hne
      have e : spendM ⟨true, dn, lf, rm, fs⟩ = (⟨true, dn, lf - 1, rm, fs⟩, true) := by simp [spendM, hne]
      rw [e]
      refine xnil (xget (h := xjoin (xift (decide_eq_true (show (if true = true then lf else -1) > 0 by simp; omega)) (xnil (xget (h := xnil (xset (h := ?_))))))))
      have e1 : IntKind.i64.wrap (lf - 1) = lf - 1 := by unfold i64 at hl; exact wrap_id _ (by omega) (by omega)
      refine xret ⟨rfl, ?_⟩
      show [Blk b [_, .int .i64 (IntKind.i64.wrap (lf - 1)), _, _]] = _
      rw [e1]; rfl

def thR (m : DM) (nm : ByteArray) : Int × Int := if m.down then (0, 10) else if thereL m.fs nm.toList then (findL m.fs nm.toList, 0) else (0, 6)

theorem rthere_raw (b : Nat) (s : Sl) (cs : List CF) (m : DM) (nm : ByteArray) (hi : DInv m) (sf : SF cs m.fs) :
    Ct Pr F_ref12_Device_there [.pointer (some ⟨b, 0, none⟩), .string nm] (.tup [none, none]) [.int .i64, .int .i64] [Blk b (refCells m s), Ar FILE s cs] emp
    (fun t Bs => t.1 = (thR m nm).1 ∧ t.2.1 = (thR m nm).2 ∧ Bs = [Blk b (refCells m s), Ar FILE s cs]) := by
  refine spec2 c_ref12_Device_there fun B _ => ?_
  unfold ref12_Device_there
  have hlen := hi.len
  refine xnil (xget (h := xif (fun h => ?_) (fun h => ?_)))
  · have h : m.down = true := h
    exact xret ⟨by simp [thR, h], by simp [thR, h], rfl⟩
  have h : m.down = false := h
  refine xcl (rFind_raw b m.room (leftR m) m.down s cs m.fs nm hi.sorted sf.names (by omega)) rdb ?_
  rintro ⟨r, _⟩ _ ⟨hr, rfl⟩
  simp only at hr
  subst hr
  refine app2 (ca1 ?_)
  rw [fIdx_neg]
  refine xif (fun g => ?_) (fun g => ?_)
  · have g : thereL m.fs nm.toList = false := by simpa using g
    exact xret ⟨by simp [thR, h, g], by simp [thR, h, g], rfl⟩
  · have g : thereL m.fs nm.toList = true := by simpa using g
    rw [fIdx_yes g]
    exact xret ⟨by simp [thR, h, g], by simp [thR, h, g], rfl⟩

theorem erase_take {α : Type} (l : List α) (i k : Nat) (h : i < l.length) : (l.take (i + 1)).eraseIdx k = (l.take i).eraseIdx k ++ (if i = k then [] else [l[i]]) := by
  have hlt : (l.take i).length = i := by simp; omega
  rw [List.take_add_one, List.getElem?_eq_getElem h]
  show (l.take i ++ [l[i]]).eraseIdx k = _
  rcases Nat.lt_or_ge k i with h1 | h1
  · rw [List.eraseIdx_append_of_lt_length (by omega), if_neg (by omega)]
  · rw [List.eraseIdx_append_of_length_le (by omega), List.eraseIdx_of_length_le (l := l.take i) (by omega), hlt]
    by_cases e : i = k
    · subst e; simp
    · rw [if_neg e, List.eraseIdx_of_length_le (by simp; omega)]

def putL {α : Type} (cs : List α) (j : Nat) (c : α) (i : Nat) : List α := if i ≤ j then cs.take i else cs.take j ++ c :: (cs.take i).drop j

theorem putL_succ {α : Type} (cs : List α) (j : Nat) (c : α) (i : Nat) (h : i < cs.length) : putL cs j c (i + 1) = (putL cs j c i ++ if i = j then [c] else []) ++ [cs[i]] := by
  have et : cs.take (i + 1) = cs.take i ++ [cs[i]] := by rw [List.take_add_one, List.getElem?_eq_getElem h]; rfl
  have hlt : (cs.take i).length = i := by simp; omega
  unfold putL
  rcases Nat.lt_trichotomy i j with h1 | h1 | h1
  · rw [if_pos (by omega), if_pos (by omega), if_neg (by omega), et]; simp
  · subst h1
    rw [if_neg (by omega), if_pos (by omega), if_pos rfl, et, List.drop_left' hlt]; simp
  · rw [if_neg (by omega), if_neg (by omega), if_neg (by omega), et, List.drop_append_of_le_length (by omega)]; simp

theorem putL_end {α : Type} (cs : List α) (j : Nat) (c : α) (hj : j ≤ cs.length) : (putL cs j c cs.length ++ if j = cs.length then [c] else []) = cs.take j ++ c :: cs.drop j := by
  unfold putL
  by_cases h : j = cs.length
  · subst h; simp
  · rw [if_neg (by omega), if_neg h]; simp

theorem putL_len {α : Type} (cs : List α) (j : Nat) (c : α) (i : Nat) (h : i ≤ cs.length) : (putL cs j c i).length ≤ cs.length + 1 := by
  unfold putL
  split
  · simp; omega
  · simp; omega

theorem rPut_raw (b : Nat) (rm lf : Int) (dn : Bool) (s : Sl) (cs : List CF) (fs : List DF) (c : CF) (hs : Sorted fs) (hn : SameNames cs fs) (hl : fs.length ≤ 1000) (hno : thereL fs c.1.toList = false) :
    Ct Pr F_ref12_Device_Put [.pointer (some ⟨b, 0, none⟩), .agg #[.string c.1, c.2.1.v, .int .i64 c.2.2]] (.tup []) [] [Blk b (rc rm lf dn s), Ar FILE s cs] emp
    (fun t Bs => ∃ s', Bs = [Blk b (rc rm lf dn s'), Ar FILE s' (cs.take (findL fs c.1.toList) ++ c :: cs.drop (findL fs c.1.toList))]) := by
  refine spec0 c_ref12_Device_Put fun B _ => ?_
  unfold ref12_Device_Put
  obtain ⟨hcl, hnm⟩ := hn
  have hjl := findL_le fs c.1.toList
  have hless : ∀ (i : Nat) (f : DF), fs[i]? = some f → Op.bytesLess c.1.toList f.nm.toList = decide (findL fs c.1.toList ≤ i) := by
    intro i f hf
    rcases Nat.lt_or_ge i (findL fs c.1.toList) with h | h
    · have := lt_asymm (findL_lt h hf)
      rw [show Op.bytesLess c.1.toList f.nm.toList = false from this]
      simp; omega
    · have h1 := findL_ge hs h hf
      have h2 := not_there hs hno f (List.mem_of_getElem? hf)
      have h3 : lt c.1.toList f.key = true := by
        cases h3 : lt c.1.toList f.key with
        | true => rfl
        | false => exact absurd (lt_total h1 h3) h2
      rw [show Op.bytesLess c.1.toList f.nm.toList = true from h3]
      simp; omega
  generalize findL fs c.1.toList = j at *
  refine xlen s fun hn1 _ => xnew fun b1 => xnone FILE ?_
  refine xloop3 (fun (n : Nat) (o : Sl) (laid : Bool) (i : Int) As => ∃ t : Nat, i = (t : Int) ∧ n = cs.length - t ∧ t ≤ cs.length ∧ laid = decide (j < t) ∧ As = [Ar FILE o (putL cs j c t), Blk b1 [.string c.1, c.2.1.v, .int .i64 c.2.2], Blk b (rc rm lf dn s), Ar FILE s cs]) cs.length ⟨0, rfl, rfl, by omega, by simp, by simp [putL]⟩ ?_
  rintro n o _ _ _ K ⟨t, rfl, rfl, ht, rfl, rfl⟩ hK
  have hpl := putL_len cs j c t ht
  refine xnil (xget (h := xif_dec (fun h => ?_) (fun h => ?_)))
  · have htl : t < cs.length := by omega
    have hc := List.getElem?_eq_getElem htl
    have hf := List.getElem?_eq_getElem (l := fs) (i := t) (by omega)
    have hnm' := hnm _ _ _ hc hf
    have hle := hless _ _ hf
    have et := putL_succ cs j c t htl
    generalize cs[t] = c1 at *
    rw [← hnm'] at hle
    refine xdraw ?_
    refine xjoin1 (fun (q : Bool) As' => q = decide (t = j) ∧ As' = [Ar FILE o (putL cs j c t), Blk b1 [.string c.1, c.2.1.v, .int .i64 c.2.2], Blk b (rc rm lf dn s), Ar FILE s cs]) ?_ ?_
    · intro J hJ
      refine xif (fun g => ?_) (fun g => ?_)
      · have g : t ≤ j := by simpa using g
        refine xget (h := xnil (xget (h := ?_)))
        refine xidxn (h1 := by omega) (h := fun _ _ => ?_)
        refine xgetE hc (h := ?_)
        refine hJ _ _ ⟨?_, rfl⟩
        rw [hle]
        exact decide_eq_decide.2 (by omega)
      · have g : j < t := by simpa using g
        refine hJ _ _ ⟨?_, rfl⟩
        rw [decide_eq_false (by omega)]
    rintro _ _ ⟨rfl, rfl⟩
    refine xjoin2 (fun (o1 : Sl) (l1 : Bool) As' => l1 = decide (j < t + 1) ∧ As' = [Ar FILE o1 (putL cs j c t ++ if t = j then [c] else []), Blk b1 [.string c.1, c.2.1.v, .int .i64 c.2.2], Blk b (rc rm lf dn s), Ar FILE s cs]) ?_ ?_
    · intro J hJ
      refine xif_dec (fun g => ?_) (fun g => ?_)
      · rw [if_pos g] at hJ
        refine xget (h := xget (h := xget (h := xnew fun b2 => ?_)))
        refine xapp1 c (hb := by omega) (h := fun s' => ?_)
        exact hJ _ _ _ ⟨by simp; omega, rfl⟩
      · rw [if_neg g, List.append_nil] at hJ
        exact hJ _ _ _ ⟨decide_eq_decide.2 (by omega), rfl⟩
    rintro o1 _ _ ⟨rfl, rfl⟩
    refine xnil (xget (h := ?_))
    refine xidxn (h1 := by omega) (h := fun _ _ => ?_)
    refine xgetE hc (h := ?_)
    refine xgetEj hc (h := ?_)
    refine xgetEj hc (h := xnew fun b2 => ?_)
    refine xapp1 c1 (hb := by rw [List.length_append]; split <;> simp <;> omega) (h := fun s' => ?_)
    rw [wrap_succ t (by omega)]
    exact hK (cs.length - (t + 1)) _ _ _ _ (by omega) ⟨t + 1, rfl, rfl, by omega, rfl, by rw [et]⟩
  · have : t = cs.length := by omega
    subst this
    have ee := putL_end cs j c (by omega)
    refine xjoin1 (fun (o1 : Sl) As' => As' = [Ar FILE o1 (cs.take j ++ c :: cs.drop j), Blk b1 [.string c.1, c.2.1.v, .int .i64 c.2.2], Blk b (rc rm lf dn s), Ar FILE s cs]) ?_ ?_
    · intro J hJ
      refine xif (fun g => ?_) (fun g => ?_)
      · have g : j = cs.length := by simp at g; omega
        rw [if_pos g] at ee
        refine xget (h := xget (h := xget (h := xnew fun b2 => ?_)))
        refine xapp1 c (hb := by omega) (h := fun s' => ?_)
        exact hJ _ _ (by rw [ee])
      · have g : ¬ j = cs.length := by simp at g; omega
        rw [if_neg g, List.append_nil] at ee
        exact hJ _ _ (by rw [ee])
    rintro o1 _ rfl
    exact xnil (xset (h := xdrop 1 (xdrop 2 (xfront 1 (xret ⟨o1, rfl⟩)))))

end Go.Cx

namespace Go.Cx
open Go Go.Cf
set_option linter.unusedVariables false
variable {B : Base} {As : List HP}

theorem rUsed_spec (p : Option Addr) (m : DM) : Ct Pr F_ref12_Device_Used [.pointer p] .one [.int .i64] [RefDev p m] emp (fun t Bs => t.1 = (usedN m.fs : Int) ∧ Bs = [RefDev p m]) := by
  refine spec1 (φ := XCall Pr F_ref12_Device_Used [.pointer p] .one [.int .i64]) id fun B _ => ?_
  refine xrdev 0 fun hi b s cs hp sf hn => ?_
  subst hp
  refine xcl (rUsed_raw b (leftR m) m.down s cs m hi sf) rdb ?_
  rintro ⟨r, _⟩ _ ⟨hr, rfl⟩
  exact app2 (ca1 (xrdev_back b s cs hi (xret ⟨hr, rfl⟩)))

theorem rFree_spec (p : Option Addr) (m : DM) : Ct Pr F_ref12_Device_Free [.pointer p] .one [.int .i64] [RefDev p m] emp (fun t Bs => t.1 = m.room - (usedN m.fs : Int) ∧ Bs = [RefDev p m]) := by
  refine spec1 (φ := XCall Pr F_ref12_Device_Free [.pointer p] .one [.int .i64]) id fun B _ => ?_
  refine xrdev 0 fun hi b s cs hp sf hn => ?_
  subst hp
  refine xcl (rFree_raw b (leftR m) m.down s cs m hi sf) rdb ?_
  rintro ⟨r, _⟩ _ ⟨hr, rfl⟩
  exact app2 (ca1 (xrdev_back b s cs hi (xret ⟨hr, rfl⟩)))

theorem rDown_spec (p : Option Addr) (m : DM) : Ct Pr F_ref12_Device_Down [.pointer p] .one [.bool] [RefDev p m] emp (fun t Bs => t.1 = m.down ∧ Bs = [RefDev p m]) := by
  refine spec1 c_ref12_Device_Down fun B _ => ?_
  unfold ref12_Device_Down
  refine xrdev 0 fun hi b s cs hp sf hn => ?_
  subst hp
  exact xnil (xget (h := xrdev_back b s cs hi (xret ⟨rfl, rfl⟩)))

theorem rArm_spec (p : Option Addr) (m : DM) (n : Int) (hn : i64 n) : Ct Pr F_ref12_Device_Arm [.pointer p, .int .i64 n] (.tup []) [] [RefDev p m] emp (fun t Bs => Bs = [RefDev p (armM m n)]) := by
  refine spec0 c_ref12_Device_Arm fun B _ => ?_
  unfold ref12_Device_Arm
  refine xrdev 0 fun hi b s cs hp sf hsn => ?_
  subst hp
  refine xnil (xset (h := xjoin (xif_dec (fun h => ?_) (fun h => ?_))))
  · have e : leftR (armM m n) = -1 := by simp [leftR, armM]; omega
    refine xnil (xset (h := xrdev_put 0 0 0 b s cs (armM m n) (arm_inv hi hn) (fun _ h => ?_) (xret rfl)))
    unfold refCells
    rw [e]; exact h
  · have e : leftR (armM m n) = n := by simp [leftR, armM]; omega
    refine xrdev_put 0 0 0 b s cs (armM m n) (arm_inv hi hn) (fun _ h => ?_) (xret rfl)
    unfold refCells
    rw [e]; exact h

theorem rNames_spec (p : Option Addr) (m : DM) : Ct Pr F_ref12_Device_Names [.pointer p] .one [.slice] [RefDev p m] emp (fun t Bs => Bs = [RefDev p m, Ar ST t.1 (m.fs.map (·.nm))]) := by
  refine spec1 c_ref12_Device_Names fun B _ => ?_
  unfold ref12_Device_Names
  refine xrdev 0 fun hi b s cs hp sf hsn => ?_
  subst hp
  have hlen := hi.len
  have hcl := sf.len
  refine xnone ST ?_
  refine xloop2 (fun n o i As => ∃ k : Nat, i = (k : Int) ∧ n = m.fs.length - k ∧ k ≤ m.fs.length ∧ As = [Ar ST o ((m.fs.map fun f : DF => f.nm).take k), Blk b (refCells m s), Ar FILE s cs, Each FileR cs m.fs]) m.fs.length ⟨0, rfl, rfl, by omega, rfl⟩ ?_
  rintro n o _ _ K ⟨k, rfl, rfl, hk, rfl⟩ hK
  refine xnil (xget (h := xif_dec (fun h => ?_) (fun h => ?_)))
  · have hf := List.getElem?_eq_getElem (l := m.fs) (i := k) (by omega)
    have hc := List.getElem?_eq_getElem (l := cs) (i := k) (by omega)
    obtain ⟨h1, _⟩ := sf.each _ _ _ hc hf
    refine xnil (xget (h := ?_))
    refine xidxn (h1 := by omega) (h := fun _ _ => ?_)
    refine xgetE hc (h := xnew fun b2 => ?_)
    refine xapp1 cs[k].1 (hb := by simp; omega) (h := fun s' => ?_)
    rw [wrap_succ k (by omega)]
    refine hK (m.fs.length - (k + 1)) _ _ _ (by omega) ⟨k + 1, rfl, rfl, by omega, ?_⟩
    rw [List.take_add_one, List.getElem?_map, hf, h1]; rfl
  · have : k = m.fs.length := by omega
    subst this
    rw [List.take_of_length_le (by simp)]
    exact xrdev_back b s cs hi (xret rfl)

theorem rRead_spec (p : Option Addr) (m : DM) (nm : ByteArray) : Ct Pr F_ref12_Device_Read [.pointer p, .string nm] (.tup [none, none]) [.slice, .int .i64] [RefDev p m] emp
    (fun t Bs => t.2.1 = (readM m nm).2 ∧ Bs = [RefDev p m, Ar U8 t.1 (readM m nm).1]) := by
  refine spec2 c_ref12_Device_Read fun B _ => ?_
  unfold ref12_Device_Read
  refine xrdev 0 fun hi b s cs hp sf hsn => ?_
  subst hp
  have hlen := hi.len
  refine xcl (rFind_raw b m.room (leftR m) m.down s cs m.fs nm hi.sorted sf.names (by omega)) rdb ?_
  rintro ⟨r, _⟩ _ ⟨h1, rfl⟩
  simp only at h1
  subst h1
  refine app2 (ca1 ?_)
  rw [fIdx_neg]
  refine xif (fun h => ?_) (fun h => ?_)
  · have h' : thereL m.fs nm.toList = false := by simpa using h
    refine xnone U8 (xrdev_back b s cs hi (xret ?_))
    simp [readM, h']
  · have h' : thereL m.fs nm.toList = true := by simpa using h
    rw [fIdx_yes h']
    obtain ⟨c, f, hc, hf, hgd, e1, e2, e3, e4, hfb, _⟩ := on_file (p := none) hi sf h'
    have hlt := (List.getElem?_eq_some_iff.1 hc).1
    refine xnil (xget (h := ?_))
    refine xidxn (h1 := hlt) (h := fun _ _ => ?_)
    refine xgetEj hc (h := ?_)
    refine xcl (CopyBytes_spec c.2.1 f.b (by omega)) (rds_pick 2 (fun g hg => each_read (R := FileR) (S := fun c f => RAr U8 c.2.1 f.b) (fun _ _ _ _ h s => h.mono s) (fun _ _ _ h => h.2.2.read) hg hc hf) (fun _ _ h s => h.mono s)) ?_
    rintro ⟨r, _⟩ _ rfl
    refine app1 (ca1 (xrdev_back b s cs hi (xret ?_)))
    unfold readM
    rw [h', hgd]
    exact ⟨rfl, rfl⟩

/-- What every call on a file begins with. -/
theorem th_down {m : DM} {nm : ByteArray} (h : m.down = true) : thR m nm = (0, 10) := by simp [thR, h]
theorem th_none {m : DM} {nm : ByteArray} (h : m.down = false) (ht : thereL m.fs nm.toList = false) : thR m nm = (0, 6) := by simp [thR, h, ht]
theorem th_ok {m : DM} {nm : ByteArray} (h : m.down = false) (ht : thereL m.fs nm.toList = true) : thR m nm = ((findL m.fs nm.toList : Int), 0) := by simp [thR, h, ht]

theorem rSync_spec (p : Option Addr) (m : DM) (nm : ByteArray) : Ct Pr F_ref12_Device_Sync [.pointer p, .string nm] .one [.int .i64] [RefDev p m] emp
    (fun t Bs => t.1 = (syncM m nm).2 ∧ Bs = [RefDev p (syncM m nm).1]) := by
  refine spec1 c_ref12_Device_Sync fun B _ => ?_
  unfold ref12_Device_Sync
  refine xrdev 0 fun hi b s cs hp sf hsn => ?_
  subst hp
  have hinv := sync_inv hi nm
  unfold syncM at hinv ⊢
  refine xcl (rthere_raw b s cs m nm hi sf) rdb ?_
  rintro ⟨r, c, _⟩ _ ⟨h1, h2, rfl⟩
  simp only at h1 h2
  refine app2 (ca2 ?_)
  cases hd : m.down with
  | true =>
    rw [th_down hd] at h1 h2
    subst h1 h2
    rw [onFile_down hd]
    exact xift rfl (xrdev_back b s cs hi (xret ⟨rfl, rfl⟩))
  | false =>
  cases ht : thereL m.fs nm.toList with
  | false =>
    rw [th_none hd ht] at h1 h2
    subst h1 h2
    rw [onFile_none hd ht]
    exact xift rfl (xrdev_back b s cs hi (xret ⟨rfl, rfl⟩))
  | true =>
  rw [th_ok hd ht] at h1 h2
  simp only at h1 h2
  subst h1 h2
  rw [onFile_ok hd ht] at hinv ⊢
  obtain ⟨c, f, hc, hf, hgd, e1, e2, e3, _, hfb, _⟩ := on_file (p := none) hi sf ht
  rw [hgd] at hinv ⊢
  obtain ⟨q1, q2⟩ := spendM_fs m
  refine xiff rfl ?_
  refine xcl (rDone_raw b s m hi.left.1 hi.left.2) rdb ?_
  rintro ⟨r, _⟩ _ ⟨hr, rfl⟩
  simp only at hr
  subst hr
  refine app1 (ca1 (xif (fun hsp => ?_) (fun hsp => ?_)))
  · rw [spent_no (by simpa using hsp)] at hinv ⊢
    exact xrdev_put 0 0 0 b s cs (spendM m).1 hinv (fun _ h => by rw [q1]; exact h) (xret ⟨rfl, rfl⟩)
  rw [spent_ok (by simpa using hsp)] at hinv ⊢
  have hlt := (List.getElem?_eq_some_iff.1 hc).1
  refine xdraw (xnil (xget (h := xnil (xget (h := ?_)))))
  refine xidxn (h1 := hlt) (h := fun _ _ => ?_)
  refine xgetEj hc (h := ?_)
  refine xidxn (h1 := hlt) (h := fun _ _ => ?_)
  refine xsetEj (c.1, c.2.1, (f.b.length : Int)) hc (hj := by decide) (hv := by simp [FILE, e3]) (h := ?_)
  refine xfold1 2 (file_set (c' := (c.1, c.2.1, (f.b.length : Int))) (f' := { f with sy := f.b.length }) hc hf (fun g h => ⟨h.1, rfl, h.2.2⟩)) ?_
  exact xrdev_put 1 1 0 b s (cs.set (findL m.fs nm.toList) (c.1, c.2.1, (f.b.length : Int))) _ hinv (fun _ h => by simp only [q1]; exact h) (xret ⟨rfl, rfl⟩)

/-- One file's bytes lie elsewhere now. -/
theorem file_new {cs : List CF} {fs : List DF} {k : Nat} {c c' : CF} {f f' : DF} (hc : cs[k]? = some c) (hf : fs[k]? = some f) (h1 : c'.1 = f'.nm) (h2 : c'.2.2 = f'.sy) (g : Frag) (hg : star [Ar U8 c'.2.1 f'.b, Each FileR cs fs] g) : Each FileR (cs.set k c') (fs.set k f') g := by
  refine each_put (List.getElem?_eq_some_iff.1 hc).1 (List.getElem?_eq_some_iff.1 hf).1 ?_
  refine star_imp (P := Ar U8 c'.2.1 f'.b) (fun q hq => ⟨h1, h2, hq⟩) ?_
  refine star_cons (l := [Each FileR cs fs]) (fun q hq => ?_) hg
  obtain ⟨a, _, pa, _, _, sa, _⟩ := hq
  obtain ⟨a1, b1, _, pb1, _, _, sb1⟩ := each_pick pa hc hf
  exact star_mono _ pb1 (sb1.trans sa)

theorem rTruncate_spec (p : Option Addr) (m : DM) (nm : ByteArray) (n : Int) : Ct Pr F_ref12_Device_Truncate [.pointer p, .string nm, .int .i64 n] .one [.int .i64] [RefDev p m] emp
    (fun t Bs => t.1 = (truncM m nm n).2 ∧ Bs = [RefDev p (truncM m nm n).1]) := by
  refine spec1 c_ref12_Device_Truncate fun B _ => ?_
  unfold ref12_Device_Truncate
  refine xrdev 0 fun hi b s cs hp sf hsn => ?_
  subst hp
  have hinv := trunc_inv hi nm n
  unfold truncM at hinv ⊢
  refine xcl (rthere_raw b s cs m nm hi sf) rdb ?_
  rintro ⟨r, c, _⟩ _ ⟨h1, h2, rfl⟩
  simp only at h1 h2
  refine app2 (ca2 ?_)
  cases hd : m.down with
  | true =>
    rw [th_down hd] at h1 h2
    subst h1 h2
    rw [onFile_down hd]
    exact xift rfl (xrdev_back b s cs hi (xret ⟨rfl, rfl⟩))
  | false =>
  cases ht : thereL m.fs nm.toList with
  | false =>
    rw [th_none hd ht] at h1 h2
    subst h1 h2
    rw [onFile_none hd ht]
    exact xift rfl (xrdev_back b s cs hi (xret ⟨rfl, rfl⟩))
  | true =>
  rw [th_ok hd ht] at h1 h2
  simp only at h1 h2
  subst h1 h2
  rw [onFile_ok hd ht] at hinv ⊢
  obtain ⟨c, f, hc, hf, hgd, e1, e2, e3, e4, hfb, _, _⟩ := on_file (p := none) hi sf ht
  rw [hgd] at hinv ⊢
  have hlt := (List.getElem?_eq_some_iff.1 hc).1
  obtain ⟨q1, q2⟩ := spendM_fs m
  refine xiff rfl ?_
  refine xjoin1 (fun x As' => x = decide (n < 0 ∨ n > f.b.length) ∧ As' = [Blk b (refCells m s), Ar FILE s cs, Each FileR cs m.fs]) ?_ ?_
  · intro J hJ
    refine xif_dec (fun h => hJ _ _ ⟨by simp [h], rfl⟩) (fun h => ?_)
    refine xnil (xget (h := ?_))
    refine xidxn (h1 := hlt) (h := fun _ _ => ?_)
    refine xgetEj hc (h := hJ _ _ ⟨?_, rfl⟩)
    rw [e3]; simp [h]
  rintro _ _ ⟨rfl, rfl⟩
  refine xif_dec (fun h => ?_) (fun h => ?_)
  · rw [if_pos h]
    exact xrdev_back b s cs hi (xret ⟨rfl, rfl⟩)
  rw [if_neg h] at hinv ⊢
  refine xcl (rDone_raw b s m hi.left.1 hi.left.2) rdb ?_
  rintro ⟨r, _⟩ _ ⟨hr, rfl⟩
  simp only at hr
  subst hr
  refine app1 (ca1 (xif (fun hsp => ?_) (fun hsp => ?_)))
  · rw [spent_no (by simpa using hsp)] at hinv ⊢
    exact xrdev_put 0 0 0 b s cs (spendM m).1 hinv (fun _ h => by rw [q1]; exact h) (xret ⟨rfl, rfl⟩)
  rw [spent_ok (by simpa using hsp)] at hinv ⊢
  simp only [q1] at hinv ⊢
  generalize findL m.fs nm.toList = i at *
  refine xdraw (xnil (xget (h := xnil (xget (h := ?_)))))
  refine xidxn (h1 := hlt) (h := fun _ _ => ?_)
  refine xgetEj hc (h := ?_)
  refine xslc0 rfl (by omega) (by omega) ?_
  refine xcl (CopyBytes_spec ⟨c.2.1.p, n.toNat, c.2.1.c⟩ (f.b.take n.toNat) (by rw [List.length_take]; omega)) (rds_pick 2 (fun g hg => each_read (R := FileR) (S := fun c f g => n.toNat ≤ f.b.length → RAr U8 ⟨c.2.1.p, n.toNat, c.2.1.c⟩ (f.b.take n.toNat) g) (fun _ _ _ _ h s l => (h l).mono s) (fun c' f' g h l => (ar_cut l h.2.2).read) hg hc hf (by omega)) (fun _ _ h s => h.mono s)) ?_
  rintro ⟨s6, _⟩ _ rfl
  refine app1 (ca1 (xchk (h := ?_)))
  refine xidxn (h1 := hlt) (h := fun _ _ => ?_)
  refine xsetEj (c.1, s6, c.2.2) hc (hj := by decide) (hv := rfl) (h := xnil (xget (h := ?_)))
  have hc2 : (cs.set i (c.1, s6, c.2.2))[i]? = some (c.1, s6, c.2.2) := List.getElem?_set_self hlt
  refine xidxn (h1 := by simp; omega) (h := fun _ _ => ?_)
  refine xgetEj hc2 (h := ?_)
  refine xjoin0 (fun As' => As' = [Blk b (refCells (spendM m).1 s), Ar FILE s (cs.set i (c.1, s6, if n < f.sy then n else f.sy)), Each FileR cs m.fs, Ar U8 s6 (f.b.take n.toNat)]) ?_ ?_
  · intro J hJ
    refine xif_dec (fun h => ?_) (fun h => ?_)
    · have h : n < f.sy := by simp only [e2] at h; omega
      rw [if_pos h] at hJ
      refine xnil (xget (h := ?_))
      refine xidxn (h1 := by simp; omega) (h := fun _ _ => ?_)
      refine xsetEj (c.1, s6, n) hc2 (hj := by decide) (hv := rfl) (h := ?_)
      rw [List.set_set]
      exact xuse [Blk b (refCells (spendM m).1 s), Ar FILE s (cs.set i (c.1, s6, n)), Each FileR cs m.fs, Ar U8 s6 (f.b.take n.toNat)] (hJ _ rfl)
    · have h : ¬ n < f.sy := by simp only [e2] at h; omega
      rw [if_neg h, ← e2] at hJ
      exact xuse [Blk b (refCells (spendM m).1 s), Ar FILE s (cs.set i (c.1, s6, c.2.2)), Each FileR cs m.fs, Ar U8 s6 (f.b.take n.toNat)] (hJ _ rfl)
  rintro _ rfl
  refine xfold2 3 2 (Q := Each FileR (cs.set i (c.1, s6, if n < f.sy then n else f.sy)) (m.fs.set i { f with b := f.b.take n.toNat, sy := if n < f.sy then n else f.sy })) (fun g hg => file_new (c' := (c.1, s6, if n < f.sy then n else f.sy)) (f' := { f with b := f.b.take n.toNat, sy := if n < f.sy then n else f.sy }) hc hf e1 rfl g hg) ?_
  exact xrdev_put 1 1 0 b s (cs.set i (c.1, s6, if n < f.sy then n else f.sy)) _ hinv (fun _ h => h) (xret ⟨rfl, rfl⟩)

end Go.Cx

namespace Go.Cx
open Go Go.Cf
set_option linter.unusedVariables false
variable {B : Base} {As : List HP}

theorem find_erase {fs : List DF} (hs : Sorted fs) {k : Key} (ht : thereL fs k = true) : thereL (fs.eraseIdx (findL fs k)) k = false ∧ findL (fs.eraseIdx (findL fs k)) k = findL fs k := by
  obtain ⟨f, hf, hk⟩ := there_get ht
  have hlt := (List.getElem?_eq_some_iff.1 hf).1
  have hle := List.length_eraseIdx_of_lt hlt
  have he : findL (fs.eraseIdx (findL fs k)) k = findL fs k := by
    refine findL_eq (by omega) (fun t g h hg => ?_) (fun g hg => ?_)
    · rw [List.getElem?_eraseIdx, if_pos h] at hg
      exact findL_lt h hg
    · rw [List.getElem?_eraseIdx, if_neg (by omega)] at hg
      exact findL_ge hs (by omega) hg
  refine ⟨?_, he⟩
  unfold thereL
  rw [he, List.getElem?_eraseIdx, if_neg (by omega)]
  cases hg : fs[findL fs k + 1]? with
  | none => rfl
  | some g =>
    have h1 := hs.get (Nat.lt_succ_self _) hf hg
    simp only [beq_eq_false_iff_ne]
    intro e
    rw [hk, e, lt_irrefl] at h1
    cases h1

theorem set_ins {fs : List DF} {i : Nat} {g : DF} (h : i < fs.length) : insL (fs.eraseIdx i) i g = fs.set i g := by
  unfold insL
  rw [List.eraseIdx_eq_take_drop_succ, List.set_eq_take_append_cons_drop, if_pos h]
  have hl : (fs.take i).length = i := by simp; omega
  rw [List.take_append_of_le_length (by omega), List.drop_append_of_le_length (by omega), List.take_of_length_le (by omega), List.drop_of_length_le (by omega)]
  rfl

theorem withF_find (m : DM) (nm : ByteArray) (hs : Sorted m.fs) : Sorted (withF m nm) ∧ fIdx (withF m nm) nm = (findL m.fs nm.toList : Int) := by
  unfold withF
  cases ht : thereL m.fs nm.toList with
  | true => exact ⟨hs, fIdx_yes ht⟩
  | false =>
    have h := insL_get m.fs (findL m.fs nm.toList) ⟨nm, [], 0⟩ (findL_le _ _)
    have h2 := sorted_ins (g := ⟨nm, [], 0⟩) hs ht
    refine ⟨h2, ?_⟩
    obtain ⟨h3, h4⟩ := find_unique h2 h (k := nm.toList) rfl
    show fIdx (insL m.fs (findL m.fs nm.toList) ⟨nm, [], 0⟩) nm = _
    rw [fIdx_yes h4]
    exact congrArg _ h3

theorem rAppend_spec (p : Option Addr) (m : DM) (nm : ByteArray) (d : Sl) (bs : List UInt8) : Ct Pr F_ref12_Device_Append [.pointer p, .string nm, d.v] .one [.int .i64] [RefDev p m] (RAr U8 d bs)
    (fun t Bs => t.1 = (appendM m nm bs).2 ∧ Bs = [RefDev p (appendM m nm bs).1]) := by
  refine spec1 c_ref12_Device_Append fun B hr => ?_
  have fd : Fro B d U8 bs := ⟨hr⟩
  have hdn := hr.1
  unfold ref12_Device_Append
  refine xrdev 0 fun hi b s cs hp sf hsn => ?_
  subst hp
  have hinv := append_inv hi nm bs
  have hlen := hi.len
  have hcl := sf.len
  have hu := hi.used
  have hroom := hi.room
  refine xcl (rNamed_spec nm) rdb ?_
  rintro ⟨c, _⟩ _ ⟨h1, rfl⟩
  simp only at h1
  subst h1
  refine app0 (ca1 (xif (fun hn => ?_) (fun hn => ?_)))
  · have e : appendM m nm bs = (m, 8) := by unfold appendM; rw [if_pos hn]
    rw [e]
    exact xrdev_back b s cs hi (xret ⟨rfl, rfl⟩)
  have hn : namedB nm = true := by simpa using hn
  refine xnil (xget (h := xif (fun hd => ?_) (fun hd => ?_)))
  · have hd : m.down = true := hd
    have e : appendM m nm bs = (m, 10) := by unfold appendM; rw [hn, hd]; rfl
    rw [e]
    exact xrdev_back b s cs hi (xret ⟨rfl, rfl⟩)
  have hd : m.down = false := hd
  refine xcl (rFind_raw b m.room (leftR m) m.down s cs m.fs nm hi.sorted sf.names (by omega)) rdb ?_
  rintro ⟨r, _⟩ _ ⟨h1, rfl⟩
  simp only at h1
  subst h1
  refine app2 (ca1 ?_)
  rw [fIdx_neg]
  refine xjoin1 (fun x As' => x = (!(thereL m.fs nm.toList) && decide ((m.fs.length : Int) ≥ 64)) ∧ As' = [Blk b (refCells m s), Ar FILE s cs, Each FileR cs m.fs]) ?_ ?_
  · intro J hJ
    refine xif (fun h => xnil (xget (h := hJ _ _ ⟨?_, rfl⟩))) (fun h => hJ _ _ ⟨by rw [h]; rfl, rfl⟩)
    rw [h, hsn, hcl]
    show ((m.fs.length : Int) == 64) = (true && _)
    rw [Bool.true_and, Bool.eq_iff_iff, beq_iff_eq, decide_eq_true_iff]
    omega
  rintro _ _ ⟨rfl, rfl⟩
  refine xjoin1 (fun x As' => x = ((!(thereL m.fs nm.toList) && decide ((m.fs.length : Int) ≥ 64)) || decide ((bs.length : Int) > m.room - usedN m.fs)) ∧ As' = [Blk b (refCells m s), Ar FILE s cs, Each FileR cs m.fs]) ?_ ?_
  · intro J hJ
    refine xif (fun h => hJ _ _ ⟨by rw [h]; rfl, rfl⟩) (fun h => ?_)
    refine xcl (rFree_raw b (leftR m) m.down s cs m hi sf) rdb ?_
    rintro ⟨r, _⟩ _ ⟨hr, rfl⟩
    simp only at hr
    subst hr
    refine app2 (ca1 (hJ _ _ ⟨?_, rfl⟩))
    rw [h, ← hdn]; rfl
  rintro _ _ ⟨rfl, rfl⟩
  refine xif (fun hfull => ?_) (fun hfull => ?_)
  · have e : appendM m nm bs = (m, 9) := by unfold appendM; rw [hn, hd, hfull]; rfl
    rw [e]
    exact xrdev_back b s cs hi (xret ⟨rfl, rfl⟩)
  obtain ⟨q1, q2⟩ := spendM_fs m
  refine xcl (rDone_raw b s m hi.left.1 hi.left.2) rdb ?_
  rintro ⟨r, _⟩ _ ⟨hr, rfl⟩
  simp only at hr
  subst hr
  refine app1 (ca1 (xif (fun hsp => ?_) (fun hsp => ?_)))
  · have hsp : (spendM m).2 = false := by simpa using hsp
    have e : appendM m nm bs = ((spendM m).1, 10) := by unfold appendM; rw [hn, hd, hfull, hsp]; rfl
    rw [e] at hinv ⊢
    exact xrdev_put 0 0 0 b s cs (spendM m).1 hinv (fun _ h => by rw [q1]; exact h) (xret ⟨rfl, rfl⟩)
  have hsp : (spendM m).2 = true := by simpa using hsp
  rw [appendM_ok hn hd hfull hsp] at hinv ⊢
  have hbs : (bs.length : Int) ≤ m.room - usedN m.fs := by
    have := (Bool.or_eq_false_iff.1 hfull).2
    simpa using this
  obtain ⟨hws, hwf⟩ := withF_find m nm hi.sorted
  refine xjoin1 (fun (k : Int) As' => k = (findL m.fs nm.toList : Int) ∧ ∃ s' cs', As' = [Blk b (refCells (spendM m).1 s'), Ar FILE s' cs', Each FileR cs' (withF m nm)]) ?_ ?_
  · intro J hJ
    refine xif (fun h => ?_) (fun h => ?_)
    · have ht : thereL m.fs nm.toList = false := by simpa using h
      have hle := findL_le m.fs nm.toList
      refine xcl (rPut_raw b (spendM m).1.room (leftR (spendM m).1) (spendM m).1.down s cs m.fs (nm, ⟨none, 0, 0⟩, 0) hi.sorted sf.names (by omega) ht) rdb ?_
      rintro _ _ ⟨s2, rfl⟩
      refine app2 (ca0 ?_)
      refine xadd (A := FileR (nm, ⟨none, 0, 0⟩, 0) ⟨nm, [], 0⟩) ⟨rfl, rfl, [], rfl, rfl, .inl ⟨rfl, rfl⟩⟩ ?_
      dsimp only
      refine xfold2 0 2 (Q := Each FileR (cs.take (findL m.fs nm.toList) ++ (nm, ⟨none, 0, 0⟩, 0) :: cs.drop (findL m.fs nm.toList)) (withF m nm)) (fun g hg => ?_) ?_
      · unfold withF
        rw [ht]
        exact each_ins _ hg
      generalize cs.take (findL m.fs nm.toList) ++ (nm, ⟨none, 0, 0⟩, 0) :: cs.drop (findL m.fs nm.toList) = cs2
      refine xfact 0 (fun g hg => sf_of hg) fun sf2 => ?_
      have hwl : (withF m nm).length ≤ 1000 := by
        unfold withF
        rw [ht]
        show (insL m.fs _ _).length ≤ 1000
        rw [insL_length _ _ _ hle]; omega
      refine xcl (rFind_raw b (spendM m).1.room (leftR (spendM m).1) (spendM m).1.down s2 cs2 (withF m nm) nm hws sf2.names hwl) rdb ?_
      rintro ⟨r, _⟩ _ ⟨h1, rfl⟩
      simp only at h1
      subst h1
      exact app2 (ca1 (hJ _ _ ⟨hwf, s2, cs2, rfl⟩))
    · have ht : thereL m.fs nm.toList = true := by simpa using h
      refine hJ _ _ ⟨fIdx_yes ht, s, cs, ?_⟩
      unfold withF
      rw [ht]; rfl
  rintro _ _ ⟨rfl, s', cs', rfl⟩
  obtain ⟨f, hf, hgd, hfu⟩ := withF_get m nm
  rw [hgd] at hinv ⊢
  refine xfact 2 (fun g hg => sf_of hg) fun sf' => ?_
  have hlt : findL m.fs nm.toList < cs'.length := by rw [sf'.len]; exact (List.getElem?_eq_some_iff.1 hf).1
  have hc := List.getElem?_eq_getElem hlt
  generalize cs'[findL m.fs nm.toList] = c at hc
  obtain ⟨e1, e2, e3, e4⟩ := sf'.each _ _ _ hc hf
  generalize findL m.fs nm.toList = i at *
  refine xnil (xget (h := ?_))
  refine xidxn (h1 := hlt) (h := fun _ _ => ?_)
  refine xgetEj hc (h := ?_)
  refine xcl (CopyBytes_spec c.2.1 f.b (by omega)) (rds_pick 2 (fun g hg => each_read (R := FileR) (S := fun c f => RAr U8 c.2.1 f.b) (fun _ _ _ _ h s => h.mono s) (fun _ _ _ h => h.2.2.read) hg hc hf) (fun _ _ h s => h.mono s)) ?_
  rintro ⟨s3, _⟩ _ rfl
  refine app1 (ca1 (xdraw (xnil (xget (h := ?_)))))
  refine xapp (y := d) (hb := by omega) (h := fun s6 => xchk (h := ?_))
  refine xidxn (h1 := hlt) (h := fun _ _ => ?_)
  refine xsetEj (c.1, s6, c.2.2) hc (hj := by decide) (hv := rfl) (h := ?_)
  -- Ar FILE, Blk b, ..
  refine xfold [Ar U8 s6 (f.b ++ bs), Each FileR cs' (withF m nm)] (Each FileR (cs'.set i (c.1, s6, c.2.2)) ((withF m nm).set i { f with b := f.b ++ bs })) (fun g hg => file_new (c' := (c.1, s6, c.2.2)) (f' := { f with b := f.b ++ bs }) hc hf e1 e2 g hg) ?_
  exact xrdev_put 1 1 0 b s' (cs'.set i (c.1, s6, c.2.2)) _ hinv (fun _ h => h) (xret ⟨rfl, rfl⟩)

theorem rWake_spec (p : Option Addr) (m : DM) (keep : Int) : Ct Pr F_ref12_Device_Wake [.pointer p, .int .i64 keep] (.tup []) [] [RefDev p m] emp (fun t Bs => Bs = [RefDev p (wakeM m keep)]) := by
  refine spec0 c_ref12_Device_Wake fun B _ => ?_
  unfold ref12_Device_Wake
  refine xrdev 0 fun hi b s cs hp sf hsn => ?_
  subst hp
  have hinv := wake_inv hi keep
  have hlen := hi.len
  have hcl := sf.len
  refine xloop1 (fun n i As => ∃ (k : Nat) (cs' : List CF), i = (k : Int) ∧ n = m.fs.length - k ∧ k ≤ m.fs.length ∧ cs'.length = m.fs.length ∧ As = [Blk b (refCells m s), Ar FILE s cs', Each FileR cs' ((m.fs.map (wakeF keep)).take k ++ m.fs.drop k)]) m.fs.length ⟨0, cs, rfl, rfl, by omega, hcl, rfl⟩ ?_
  rintro n _ _ K ⟨k, cs', rfl, rfl, hk, hl', rfl⟩ hK
  refine xnil (xget (h := xif_dec (fun h => ?_) (fun h => ?_)))
  · refine xfact 2 (fun g hg => sf_of hg) fun sf' => ?_
    have hkl : k < m.fs.length := by omega
    have hf0 := List.getElem?_eq_getElem hkl
    have hsy := hi.syn _ (List.getElem_mem hkl)
    have hfb : m.fs[k].b.length ≤ 16777216 := by
      have h1 := usedN_erase hf0
      have h2 := hi.used
      have h3 := hi.room
      omega
    have hf : ((m.fs.map (wakeF keep)).take k ++ m.fs.drop k)[k]? = some m.fs[k] := by
      rw [List.getElem?_append_right (by simp; omega)]
      simp [Nat.min_eq_left (Nat.le_of_lt hkl), hf0]
    have hset : ((m.fs.map (wakeF keep)).take k ++ m.fs.drop k).set k (wakeF keep m.fs[k]) = (m.fs.map (wakeF keep)).take (k + 1) ++ m.fs.drop (k + 1) := by
      have hlt : ((m.fs.map (wakeF keep)).take k).length = k := by simp; omega
      rw [List.drop_eq_getElem_cons hkl, List.set_append_right _ _ (by omega), hlt, Nat.sub_self, List.set_cons_zero, List.take_add_one, List.getElem?_map, hf0]
      simp only [Option.map_some, Option.toList_some, List.append_assoc, List.singleton_append]
    generalize m.fs[k] = f at *
    have hc := List.getElem?_eq_getElem (l := cs') (i := k) (by omega)
    generalize cs'[k] = c at hc
    obtain ⟨e1, e2, e3, e4⟩ := sf'.each _ _ _ hc hf
    have hkn := keepN_le hsy keep
    generalize (m.fs.map (wakeF keep)).take k ++ m.fs.drop k = gs at *
    refine xnil (xget (h := ?_))
    refine xidxn (h1 := by omega) (h := fun _ _ => ?_)
    refine xgetEj hc (h := ?_)
    rw [e2]
    refine xloop2 (fun (n : Nat) (n1 : Int) (q : Int) As => ∃ t : Nat, q = (t : Int) ∧ n1 = f.sy + (t : Int) ∧ f.sy + (t : Int) ≤ f.b.length ∧ (t = 0 ∨ (t : Int) ≤ keep) ∧ n = (f.b.length - (f.sy + (t : Int))).toNat ∧ As = [Blk b (refCells m s), Ar FILE s cs', Each FileR cs' gs]) (f.b.length - f.sy).toNat ⟨0, rfl, by omega, by omega, .inl rfl, by omega, rfl⟩ ?_
    rintro n _ _ _ K2 ⟨q, rfl, rfl, hnl, hqk, rfl, rfl⟩ hK2
    refine xjoin1 (fun x As' => x = decide ((q : Int) < keep ∧ f.sy + (q : Int) < f.b.length) ∧ As' = [Blk b (refCells m s), Ar FILE s cs', Each FileR cs' gs]) ?_ ?_
    · intro J hJ
      refine xif_dec (fun h => ?_) (fun h => hJ _ _ ⟨by simp [h], rfl⟩)
      refine xnil (xget (h := ?_))
      refine xidxn (h1 := by omega) (h := fun _ _ => ?_)
      refine xgetEj hc (h := hJ _ _ ⟨?_, rfl⟩)
      rw [e3]; simp [h]
    rintro _ _ ⟨rfl, rfl⟩
    refine xif_dec (fun h => ?_) (fun h => ?_)
    · rw [wrap_id (f.sy + (q : Int) + 1) (by omega) (by omega), wrap_succ q (by omega)]
      exact hK2 (f.b.length - (f.sy + ((q + 1 : Nat) : Int))).toNat _ _ _ (by omega) ⟨q + 1, rfl, by omega, by omega, .inr (by omega), rfl, rfl⟩
    have hkeep : f.sy + (q : Int) = keepN keep f := by
      unfold keepN
      split <;> split <;> omega
    rw [hkeep]
    refine xdraw (xnil (xget (h := xnil (xget (h := ?_)))))
    refine xidxn (h1 := by omega) (h := fun _ _ => ?_)
    refine xgetEj hc (h := ?_)
    refine xslc0 rfl (by omega) (by omega) ?_
    refine xcl (CopyBytes_spec ⟨c.2.1.p, (keepN keep f).toNat, c.2.1.c⟩ (f.b.take (keepN keep f).toNat) (by rw [List.length_take]; omega)) (rds_pick 2 (fun g hg => each_read (R := FileR) (S := fun c f' g => (keepN keep f).toNat ≤ f'.b.length → RAr U8 ⟨c.2.1.p, (keepN keep f).toNat, c.2.1.c⟩ (f'.b.take (keepN keep f).toNat) g) (fun _ _ _ _ h s l => (h l).mono s) (fun c' f' g h l => (ar_cut l h.2.2).read) hg hc hf (by omega)) (fun _ _ h s => h.mono s)) ?_
    rintro ⟨s8, _⟩ _ rfl
    refine app1 (ca1 (xchk (h := ?_)))
    refine xidxn (h1 := by omega) (h := fun _ _ => ?_)
    refine xsetEj (c.1, s8, c.2.2) hc (hj := by decide) (hv := rfl) (h := xnil (xget (h := ?_)))
    have hc2 : (cs'.set k (c.1, s8, c.2.2))[k]? = some (c.1, s8, c.2.2) := List.getElem?_set_self (by omega)
    refine xidxn (h1 := by simp; omega) (h := fun _ _ => ?_)
    refine xsetEj (c.1, s8, keepN keep f) hc2 (hj := by decide) (hv := rfl) (h := ?_)
    rw [List.set_set, wrap_succ k (by omega)]
    refine xfold [Ar U8 s8 (f.b.take (keepN keep f).toNat), Each FileR cs' gs] (Each FileR (cs'.set k (c.1, s8, keepN keep f)) (gs.set k (wakeF keep f))) (fun g hg => file_new (c' := (c.1, s8, keepN keep f)) (f' := wakeF keep f) hc hf e1 rfl g hg) ?_
    rw [hset]
    exact xuse [Blk b (refCells m s), Ar FILE s (cs'.set k (c.1, s8, keepN keep f)), Each FileR (cs'.set k (c.1, s8, keepN keep f)) ((m.fs.map (wakeF keep)).take (k + 1) ++ m.fs.drop (k + 1))] (hK (m.fs.length - (k + 1)) _ _ (by omega) ⟨k + 1, _, rfl, rfl, by omega, by simpa using hl', rfl⟩)
  · have hk' : k = m.fs.length := by omega
    subst hk'
    rw [List.take_of_length_le (by simp), List.drop_length, List.append_nil]
    refine xnil (xset (h := xnil (xset (h := ?_))))
    exact xrdev_put 0 0 0 b s cs' (wakeM m keep) hinv (fun _ h => h) (xret rfl)

end Go.Cx

namespace Go.Cf
open Go
set_option linter.unusedVariables false
variable {B : Base} {As : List HP} {α : Type}

theorem append_specP {P : Program} {t ty e : TypeId} {sz by_ : Nat} (hok : appOk P t e sz by_ = true) {E : Enc α} (hsz : E.sz = sz) (hz : zeroOf P e = some (E.f E.zero)) {s y : Sl} {xs zs ys : List α} {F : List HP} {w : World} (hw : Sx B (Ars E s xs zs :: F) w) (hy : RAr E y ys (mem w))
    (hb : (xs.length + ys.length) * by_ ≤ 140737488355328) :
    ∃ s' w' zs', (Builtin.append_ #[t, t] ty #[s.v, y.v]).run P w = .ok (Sl.v s') w' ∧ Sx B (Ars E s' (xs ++ ys) zs' :: F) w' ∧ ∀ z ∈ zs', z ∈ zs ∨ z = E.zero := by
  subst hsz
  obtain ⟨p, sn, sc⟩ := s
  obtain ⟨q, n, c⟩ := y
  obtain ⟨hyn, hyr⟩ := hy
  simp only at hyn
  have hfy := fun (w2 : World) (h : mem w2 = mem w) => RArr.first (P := P) (w := w2) (by rw [h]; exact hyr)
  have hw0 := hw
  obtain ⟨g, ⟨h1, h2, p1, p2, dd, s1, s2⟩, hsub, hupd⟩ := hw
  have hxr : RAr E ⟨p, sn, sc⟩ xs (mem w) := p1.read.mono (s1.trans hsub)
  have hfx := fun (w2 : World) (h : mem w2 = mem w) => RArr.first (P := P) (w := w2) (by rw [h]; exact hxr.2)
  have hxn : xs.length = sn := p1.1
  have hxc : xs.length + zs.length = sc := p1.2.1
  by_cases hroom : sn + n ≤ sc
  · cases p with
    | none =>
      have h0 : sc = 0 := by
        rcases p1.2.2 with ⟨_, h⟩ | ⟨b, o, _, _, _, _, h, _⟩
        · exact h
        · cases h
      have hys : ys = [] := List.eq_nil_of_length_eq_zero (by omega)
      have hn0 : n = 0 := by omega
      subst hys hn0
      refine ⟨⟨none, sn + 0, sc⟩, w, zs, append_none hok (hfy w rfl) hroom, ?_, fun z h => .inl h⟩
      rw [List.append_nil]
      exact hw0
    | some a =>
      rcases p1.2.2 with ⟨h, _⟩ | ⟨b, o, pre, post, e1, fr, hp, hbk, ho, hfr, hM⟩
      · cases h
      · simp only [Option.some.injEq] at hp
        subst hp
        have hwb : w.heap[b]? = some (.cells (pre ++ flat E (xs ++ zs) ++ post).toArray e1 fr) := hsub _ _ (s1 _ _ hbk)
        have hfl := flat_length E xs
        have hfly := flat_length E ys
        have hzl : ys.length ≤ zs.length := by omega
        have hzsplit : flat E (xs ++ zs) = flat E xs ++ flat E (zs.take ys.length) ++ flat E (zs.drop ys.length) := by
          rw [← flat_append, ← flat_append, List.append_assoc, List.take_append_drop]
        obtain ⟨w', r1, r2, r3, r4, r5, r6, r7⟩ := storeCells_blk (P := P) b e1 fr (flat E ys) (o + sn * E.sz) 0 (pre ++ flat E (xs ++ zs) ++ post) w hwb (by
          have : (xs.length + ys.length) * E.sz ≤ (xs.length + zs.length) * E.sz := Nat.mul_le_mul_right _ (by omega)
          rw [Nat.add_mul] at this
          simp only [List.length_append, flat_length, hfly, ho, ← hxn]; omega) hfr (flat_one E ys)
        have hseg : setSeg (flat E ys) (o + sn * E.sz + 0) (pre ++ flat E (xs ++ zs) ++ post) = pre ++ flat E (xs ++ ys ++ zs.drop ys.length) ++ post := by
          have := setSeg_mid (flat E ys) (pre ++ flat E xs) (flat E (zs.take ys.length)) (flat E (zs.drop ys.length) ++ post) (by rw [flat_length, flat_length, List.length_take, Nat.min_eq_left hzl])
          rw [List.length_append, ho, hfl, hxn] at this
          rw [Nat.add_zero, hzsplit, flat_append, flat_append]
          simp only [List.append_assoc] at this ⊢
          exact this
        rw [hseg] at r2
        refine ⟨⟨some ⟨b, o, none⟩, sn + n, sc⟩, w', zs.drop ys.length, append_fits hok (hfy w rfl) hroom (by rw [add_none]; exact r1), ?_, fun z h => .inl (List.mem_of_mem_drop h)⟩
        have hst : Sx B (Blk b (pre ++ flat E (xs ++ zs) ++ post) :: F) w := ⟨g, ⟨h1, h2, ⟨e1, fr, hbk, hfr⟩, p2, dd, s1, s2⟩, hsub, hupd⟩
        have := hst.write (cs' := pre ++ flat E (xs ++ ys ++ zs.drop ys.length) ++ post) hwb r3 r2 (by
          simp only [List.length_append, List.length_drop, flat_length]
          have : xs.length + ys.length + (zs.length - ys.length) = xs.length + zs.length := by omega
          rw [this]) r4 r5 r6 r7
        obtain ⟨g', hg', hm', hu'⟩ := this
        exact ⟨g', star_imp (Q := Ars E ⟨some ⟨b, o, none⟩, sn + n, sc⟩ (xs ++ ys) (zs.drop ys.length)) (fun q hq => Ars.of_blk hq rfl ho (by simp; omega) (by simp; omega) hM) hg', hm', hu'⟩
  · obtain ⟨k, hk, hkM, hrun⟩ := append_grows (ty := ty) hok hfx hfy hroom (by rw [← hxn, ← hyn]; exact hb) hz
    refine ⟨⟨some ⟨w.heap.size, 0, none⟩, sn + n, k⟩, _, List.replicate (k - (sn + n)) E.zero, hrun, ?_, fun z h => .inr (List.eq_of_mem_replicate h)⟩
    have hd : Sx B (Ars E ⟨p, sn, sc⟩ xs zs :: F) w.drew := hw0.drew
    have ha := (hd.tail).alloc (flat E xs ++ flat E ys ++ repL (E.f E.zero) (k - (sn + n))) e
    obtain ⟨g', hg', hm', hu'⟩ := ha
    refine ⟨g', star_imp (Q := Ars E ⟨some ⟨w.heap.size, 0, none⟩, sn + n, k⟩ (xs ++ ys) (List.replicate (k - (sn + n)) E.zero)) (fun q hq => ?_) hg', hm', hu'⟩
    rw [repL_flat, ← flat_append, ← flat_append] at hq
    exact Ars.of_blk (pre := []) (post := []) (by simpa using hq) rfl rfl (by simp; omega) (by simp; omega) hkM


/-- append(s, x), with what lies behind. -/
theorem xapp1P {P : Program} {t ty e : TypeId} {sz by_ : Nat} {z : List Value} [a : AppT P t e sz by_ z] {E : Enc α} {s : Sl} {xs zs : List α} {b : Nat} {cs : List Value} {updb : List Value → List HP} {F F' : List HP} {K : Sl → WP}
    [ob : Own b As cs updb F] [o : Find (Ars E s xs zs) F F'] (x : α) (hx : E.f x = cs := by rfl) (hsz : E.sz = sz := by rfl) (hz : E.f E.zero = z := by rfl) (hb : (xs.length + 1) * by_ ≤ 140737488355328)
    (h : ∀ s' zs', (∀ z ∈ zs', z ∈ zs ∨ z = E.zero) → Ent B (Ars E s' (xs ++ [x]) zs' :: F') (K s')) :
    Ent B As (XApp P t t ty s.v (.slice (some ⟨b, 0, none⟩) 1 1) K) := by
  intro w hw
  have hw1 : Sx B (Blk b cs :: F) w := hw.own
  have hw2 : Sx B (Ars E ⟨some ⟨b, 0, none⟩, 1, 1⟩ [x] [] :: F) w := by
    obtain ⟨g, hg, hm, hu⟩ := hw1
    exact ⟨g, star_imp (fun q hq => blk_ar [x] 1 rfl (by simp [flat, hx]) hq) hg, hm, hu⟩
  obtain ⟨q, hq, hqs⟩ := hw2.head
  obtain ⟨s', w', zs', hr, hx', hzz⟩ := append_specP (ty := ty) a.ok hsz (by rw [hz]; exact a.zero) (hw1.tail.perm o.perm) (hq.read.mono hqs) (by simpa using hb)
  exact ⟨s', w', hr, h s' zs' hzz w' hx'⟩

end Go.Cf

namespace Go.Cx
open Go Go.Cf
set_option linter.unusedVariables false
variable {B : Base} {As : List HP}

theorem Names2_spec (p : Option Addr) (m : DM) : Ct Pr F_device_Device_Names [.pointer p] .one [.slice] [DevObj p m] emp (fun t Bs => ∃ zs : List ByteArray, (∀ z ∈ zs, z = ByteArray.empty) ∧ Bs = [DevObj p m, Ars Cf.ST t.1 (m.fs.map (·.nm)) zs]) := by
  refine spec1 c_device_Device_Names fun B _ => ?_
  unfold device_Device_Names
  refine xdev 0 fun hi b s cs hp sf hsn => ?_
  subst hp
  have hlen := hi.len
  have hcl := sf.len
  refine xnil (xget (h := xadd (A := Ars Cf.ST ⟨none, 0, 0⟩ [] []) ⟨rfl, rfl, .inl ⟨rfl, rfl⟩⟩ ?_))
  refine xloop2 (fun n o i As => ∃ (k : Nat) (zs : List ByteArray), i = (k : Int) ∧ n = m.fs.length - k ∧ k ≤ m.fs.length ∧ (∀ z ∈ zs, z = ByteArray.empty) ∧ As = [Ars Cf.ST o ((m.fs.map fun f : DF => f.nm).take k) zs, Blk b (devCells m s), Ar FILE s cs, Each FileR cs m.fs]) m.fs.length ⟨0, [], rfl, rfl, by omega, by simp, rfl⟩ ?_
  rintro n o _ _ K ⟨k, zs, rfl, rfl, hk, hzs, rfl⟩ hK
  refine xif_dec (fun h => ?_) (fun h => ?_)
  · have hf := List.getElem?_eq_getElem (l := m.fs) (i := k) (by omega)
    have hc := List.getElem?_eq_getElem (l := cs) (i := k) (by omega)
    obtain ⟨h1, _⟩ := sf.each _ _ _ hc hf
    refine xidxn (h1 := by omega) (h := fun _ _ => ?_)
    refine xgetE hc (h := ?_)
    refine xgetEj hc (h := ?_)
    refine xgetEj hc (h := xnew fun b1 => xset (h := xset (h := xset (h := xget (h := xnew fun b2 => ?_)))))
    refine xapp1P (E := Cf.ST) (zs := zs) (xs := (m.fs.map fun f : DF => f.nm).take k) cs[k].1 (hb := by simp; omega) (h := fun s' zs' hz' => ?_)
    rw [wrap_succ k (by omega)]
    refine xdrop 1 (hK (m.fs.length - (k + 1)) _ _ _ (by omega) ⟨k + 1, zs', rfl, rfl, by omega, fun z hz => ?_, ?_⟩)
    · rcases hz' z hz with h | h
      · exact hzs z h
      · exact h
    · rw [List.take_add_one, List.getElem?_map, hf, h1]; rfl
  · have : k = m.fs.length := by omega
    subst this
    rw [List.take_of_length_le (by simp)]
    exact xdev_back b s cs hi (xret ⟨zs, hzs, rfl⟩)

theorem SpoilTexts_spec (l : Sl) (xs zs : List ByteArray) (hx : ∀ x ∈ xs ++ zs, x.size ≤ 4096) : Ct Pr F_kit_SpoilTexts [l.v] (.tup []) [] [Ars Cf.ST l xs zs] emp (fun t Bs => Bs = []) := by
  refine spec0 c_kit_SpoilTexts fun B _ => ?_
  unfold kit_SpoilTexts
  refine xslc0 rfl (by omega) (by omega) ?_
  rw [Int.toNat_natCast]
  refine xfact 0 (fun g hg => (⟨hg.2.1, hg.cap_le⟩ : xs.length + zs.length = l.c ∧ _)) fun hM => ?_
  obtain ⟨h2, hM⟩ := hM
  refine xshift l.c (xs ++ zs) [] (by simp) (by simpa using h2) (xar ?_)
  refine xloop1 (fun n i As => ∃ (k : Nat) (ys : List ByteArray), i = (k : Int) ∧ n = l.c - k ∧ k ≤ l.c ∧ ys.length = l.c ∧ (∀ y ∈ ys.drop k, y.size ≤ 4096) ∧ As = [Ar Cf.ST ⟨l.p, l.c, l.c⟩ ys]) l.c ⟨0, xs ++ zs, rfl, rfl, by omega, by simpa using h2, hx, rfl⟩ ?_
  rintro n _ _ K ⟨k, ys, rfl, rfl, hk, hl, hys, rfl⟩ hK
  refine xif_dec (fun h => ?_) (fun h => ?_)
  · simp only at h
    have hkl : k < ys.length := by omega
    have hy := List.getElem?_eq_getElem hkl
    have hsz : ys[k].size ≤ 4096 := hys _ (by rw [List.drop_eq_getElem_cons hkl]; exact List.mem_cons_self)
    generalize ys[k] = y at *
    refine xidxn (h1 := by omega) (h := fun _ _ => ?_)
    refine xgetE hy (h := ?_)
    have h1 : (⟨#[126]⟩ : ByteArray).size = 1 := rfl
    refine xasrt (by rw [h1]; omega) ?_
    refine xidxn (h1 := by omega) (h := fun _ _ => ?_)
    refine xsetE (y ++ ⟨#[126]⟩) hy (hv := rfl) (h := ?_)
    rw [wrap_succ k (by omega)]
    refine hK (l.c - (k + 1)) _ _ (by omega) ⟨k + 1, _, rfl, rfl, by omega, by simpa using hl, ?_, rfl⟩
    rw [List.drop_set_of_lt (by omega)]
    intro z hz
    refine hys z ?_
    rw [List.drop_eq_getElem_cons hkl]
    exact List.mem_cons_of_mem _ hz
  · exact xdrop 0 (xret rfl)

theorem dev_some {p : Option Addr} {m : DM} {g : Frag} (h : DevObj p m g) : ∃ b, p = some ⟨b, 0, none⟩ := by
  obtain ⟨_, b, _, _, h, _⟩ := h
  exact ⟨b, h⟩

theorem body_le {m : DM} (hi : DInv m) (nm : ByteArray) : (readM m nm).1.length ≤ 16777216 := by
  unfold readM
  cases ht : thereL m.fs nm.toList with
  | false => simp
  | true =>
    obtain ⟨hf, _⟩ := getD_there (d := ⟨nm, [], 0⟩) ht
    have h1 := usedN_erase hf
    have h2 := hi.used
    have h3 := hi.room
    show (m.fs.getD (findL m.fs nm.toList) ⟨nm, [], 0⟩).b.length ≤ _
    omega

theorem Looks_spec (p q : Option Addr) (m : DM) : Ct Pr F_law12_Looks [.pointer p, .pointer q] .one [.bool] [DevObj p m, RefDev q m] emp (fun t Bs => t.1 = true ∧ Bs = [DevObj p m, RefDev q m]) := by
  refine spec1 c_law12_Looks fun B _ => ?_
  unfold law12_Looks
  refine xfact 0 (fun g hg => (⟨hg.1, dev_some hg⟩ : DInv m ∧ ∃ b, p = some ⟨b, 0, none⟩)) fun hi => ?_
  obtain ⟨hi, b, rfl⟩ := hi
  have hlen := hi.len
  refine xcl (Names2_spec (some ⟨b, 0, none⟩) m) rdb ?_
  rintro ⟨s, _⟩ _ ⟨zs, hzs, rfl⟩
  refine app2 (ca1 ?_)
  refine xcl (rNames_spec q m) rdb ?_
  rintro ⟨s1, _⟩ _ rfl
  refine app2 (ca1 ?_)
  refine xlen s1 fun h1n _ => ?_
  simp only [List.length_map] at h1n
  refine xcl (SameTexts_spec s s1 (m.fs.map (·.nm)) (m.fs.map (·.nm)) (by simp; omega)) (rds_and rdb rdb) ?_
  rintro ⟨c, _⟩ _ ⟨hc, rfl⟩
  obtain rfl : c = true := by simpa using hc
  refine app0 (ca1 (xjoin (xiff rfl ?_)))
  refine xcl (Used_spec (some ⟨b, 0, none⟩) m) rdb ?_
  rintro ⟨r, _⟩ _ ⟨hr, rfl⟩
  simp only at hr
  subst hr
  refine app1 (ca1 ?_)
  refine xcl (rUsed_spec q m) rdb ?_
  rintro ⟨r, _⟩ _ ⟨hr, rfl⟩
  simp only at hr
  subst hr
  refine app1 (ca1 (xjoin (xiff (by simp) ?_)))
  refine xcl (Free_spec (some ⟨b, 0, none⟩) m) rdb ?_
  rintro ⟨r, _⟩ _ ⟨hr, rfl⟩
  simp only at hr
  subst hr
  refine app1 (ca1 ?_)
  refine xcl (rFree_spec q m) rdb ?_
  rintro ⟨r, _⟩ _ ⟨hr, rfl⟩
  simp only at hr
  subst hr
  refine app1 (ca1 (xjoin (xiff (by simp) (xnil ?_))))
  refine xcl (Down_spec (some ⟨b, 0, none⟩) m) rdb ?_
  rintro ⟨r, _⟩ _ ⟨hr, rfl⟩
  simp only at hr
  subst hr
  refine app1 (ca1 ?_)
  refine xcl (rDown_spec q m) rdb ?_
  rintro ⟨r, _⟩ _ ⟨hr, rfl⟩
  simp only at hr
  subst hr
  refine app1 (ca1 (xiff (by simp) ?_))
  refine xcl (SpoilTexts_spec s (m.fs.map (·.nm)) zs (fun x hx => ?_)) rdb ?_
  · rcases List.mem_append.1 hx with h | h
    · obtain ⟨f, hf, rfl⟩ := List.mem_map.1 h
      have := hi.names f hf
      simp [namedB] at this
      omega
    · rw [hzs x h]; decide
  rintro _ _ rfl
  refine app0 (ca0 ?_)
  refine xuse [DevObj (some ⟨b, 0, none⟩) m, RefDev q m, Ar Cf.ST s1 (m.fs.map (·.nm))] ?_
  refine xloop1 (fun n i As => ∃ (k : Nat), i = (k : Int) ∧ n = m.fs.length - k ∧ k ≤ m.fs.length ∧ As = [DevObj (some ⟨b, 0, none⟩) m, RefDev q m, Ar Cf.ST s1 (m.fs.map (·.nm))]) m.fs.length ⟨0, rfl, rfl, by omega, rfl⟩ ?_
  rintro n _ _ K ⟨k, rfl, rfl, hk, rfl⟩ hK
  refine xif_dec (fun h => ?_) (fun h => ?_)
  · have hf := List.getElem?_eq_getElem (l := m.fs) (i := k) (by omega)
    have hrd := read_at hi.sorted hf
    have hbl := body_le hi m.fs[k].nm
    have hn : (m.fs.map fun f : DF => f.nm)[k]? = some m.fs[k].nm := by rw [List.getElem?_map, hf]; rfl
    rw [hrd] at hbl
    simp only at hbl
    generalize m.fs[k] = f at *
    refine xidxn (h1 := by simp; omega) (h := fun _ _ => ?_)
    refine xgetE hn (h := ?_)
    refine xcl (Read_spec (some ⟨b, 0, none⟩) m f.nm) rdb ?_
    rw [hrd]
    rintro ⟨s2, r4, _⟩ _ ⟨h4, rfl⟩
    obtain rfl : r4 = 0 := h4
    refine app2 (ca2 ?_)
    refine xidxn (h1 := by simp; omega) (h := fun _ _ => ?_)
    refine xgetE hn (h := ?_)
    refine xcl (Read_spec (some ⟨b, 0, none⟩) m f.nm) rdb ?_
    rw [hrd]
    rintro ⟨s3, r5, _⟩ _ ⟨h5, rfl⟩
    obtain rfl : r5 = 0 := h5
    refine app2 (ca2 ?_)
    refine xidxn (h1 := by simp; omega) (h := fun _ _ => ?_)
    refine xgetE hn (h := ?_)
    refine xcl (rRead_spec q m f.nm) rdb ?_
    rw [hrd]
    rintro ⟨s4, r6, _⟩ _ ⟨h6, rfl⟩
    obtain rfl : r6 = 0 := h6
    refine app2 (ca2 (xjoin (xiff rfl ?_)))
    refine xcl (SameBytes_spec s2 s4 f.b f.b (by omega)) (rds_and rdb rdb) ?_
    rintro ⟨c, _⟩ _ ⟨hc, rfl⟩
    obtain rfl : c = true := by simpa using hc
    refine app0 (ca1 (xjoin (xiff rfl ?_)))
    refine xcl (SameBytes_spec s3 s4 f.b f.b (by omega)) (rds_and rdb rdb) ?_
    rintro ⟨c, _⟩ _ ⟨hc, rfl⟩
    obtain rfl : c = true := by simpa using hc
    refine app0 (ca1 (xiff rfl ?_))
    refine xcl (SpoilBytes_spec s2 f.b) rdb ?_
    rintro _ _ rfl
    refine app0 (ca0 ?_)
    refine xcl (SameBytes_spec s3 s4 f.b f.b (by omega)) (rds_and rdb rdb) ?_
    rintro ⟨c, _⟩ _ ⟨hc, rfl⟩
    obtain rfl : c = true := by simpa using hc
    refine app0 (ca1 (xiff rfl ?_))
    rw [wrap_succ k (by omega)]
    exact xuse [DevObj (some ⟨b, 0, none⟩) m, RefDev q m, Ar Cf.ST s1 (m.fs.map (·.nm))] (hK (m.fs.length - (k + 1)) _ _ (by omega) ⟨k + 1, rfl, rfl, by omega, rfl⟩)
  · exact xuse [DevObj (some ⟨b, 0, none⟩) m, RefDev q m] (xret ⟨rfl, rfl⟩)

end Go.Cx
