/-
  A log in segments, as functions of lists: what its calls come to.
  The plain law of a log in segments: what lies on the device, what is opened.
  The plain law of a log in segments: opened, appended to, synced, the power off.
  The plain law of a log in segments: Sync and Append.
  A log in segments that is opened: what is so of it, whatever lies on the device.
  The plain law of a log in segments: one step; what is got.
  The plain law of a log in segments: files beside it.
-/
import Derived.Test.YtifochbabgjhpaaGreatDoorCgD
namespace Go.Cx
open Go Go.Cf
set_option linter.unusedVariables false
set_option maxRecDepth 100000

/-! Names. -/
def preL : List UInt8 := [108, 111, 103, 45]
def fN (n : Int) : ByteArray := BA (preL ++ Lib.itoa n)
abbrev fK (n : Int) : Key := (fN n).toList
def headN : ByteArray := BA [104, 101, 97, 100]
def newN : ByteArray := BA [104, 101, 97, 100, 46, 110, 101, 119]
def isFileB (l : List UInt8) : Bool := decide (5 ≤ l.length) && decide (l.length ≤ 16) && (l.take 4 == preL) && !(l[4]? == some 48) && (l.drop 4).all isDig
abbrev lastN : Int := 999999999999

structure Sg where
  n : Int
  first : Int
  size : Int
  ps : List (List UInt8)
structure LM where
  n : Int
  first : Int
  segs : List Sg
  safe : Int
def Sg.next (s : Sg) : Int := s.first + s.ps.length
def LM.cur (l : LM) : Option Sg := l.segs.getLast?
def LM.next (l : LM) : Int := match l.cur with
  | some s => s.next
  | none => l.first
def LM.lo (l : LM) : Int := match l.segs with
  | [] => l.first
  | s :: _ => s.first

def dropM (m : DM) (nm : ByteArray) : DM × Int := if (removeM m nm).2 = 6 then ((removeM m nm).1, 0) else removeM m nm
def headM (m : DM) : Int × Int × Int :=
  if (readM m headN).2 ≠ 0 then (1, 0, 0)
  else
    let g := getN (readM m headN).1
    if g.2.2 ≠ 0 ∨ g.2.1 ≠ (readM m headN).1.length ∨ g.1.length ≠ 16 then (0, 0, 30)
    else if beV (cut8 g.1 0) < 1 ∨ beV (cut8 g.1 0) > 999999999999 ∨ beV (cut8 g.1 8) > 1099511627776 then (0, 0, 30)
    else (beV (cut8 g.1 0), beV (cut8 g.1 8), 0)
/-- A segment's file, read and mended. -/
def mendM (m : DM) (n : Int) : DM × Int :=
  let b := (readM m (fN n)).1
  let t := if (scanN b).2 < b.length then truncM m (fN n) (scanN b).2 else (m, 0)
  if t.2 ≠ 0 then t else syncM t.1 (fN n)
def readL : Nat → DM → Int → LM → DM × LM × Int
  | 0, m, _, l => (m, l, 0)
  | k + 1, m, n, l =>
    if (readM m (fN n)).2 ≠ 0 then (m, l, 0)
    else if (mendM m n).2 ≠ 0 then ((mendM m n).1, l, (mendM m n).2)
    else
      let b := (readM m (fN n)).1
      let l' := { l with segs := l.segs ++ [⟨n, l.next, (scanN b).2, (scanN b).1⟩] }
      if (scanN b).2 < b.length then ((mendM m n).1, l', 0) else readL k (mendM m n).1 (n + 1) l'
def keepB (l : LM) (nm : ByteArray) : Bool := !(isFileB nm.data.toList) || l.segs.any fun s => fK s.n == nm.toList
def sweepM (l : LM) : List ByteArray → DM → DM × Int
  | [], m => (m, 0)
  | nm :: r, m => if keepB l nm then sweepM l r m else if (removeM m nm).2 ≠ 0 then removeM m nm else sweepM l r (removeM m nm).1
def openM (m : DM) : DM × Option LM × Int :=
  if (dropM m newN).2 ≠ 0 then ((dropM m newN).1, none, (dropM m newN).2)
  else
    let m1 := (dropM m newN).1
    let h := headM m1
    if h.2.2 ≠ 0 then (m1, none, h.2.2)
    else
      let r := readL 70 m1 h.1 ⟨h.1, h.2.1, [], 0⟩
      if r.2.2 ≠ 0 then (r.1, none, r.2.2)
      else
        let w := sweepM r.2.1 (r.1.fs.map (·.nm)) r.1
        if w.2 ≠ 0 then (w.1, none, w.2) else (w.1, some { r.2.1 with safe := r.2.1.next }, 0)

def syncL (m : DM) (l : LM) : DM × LM × Int :=
  if m.down then (m, l, 10)
  else if l.safe = l.next then (m, l, 0)
  else
    let y := syncM m (fN ((l.cur.map Sg.n).getD 0))
    if y.2 ≠ 0 then (y.1, l, y.2) else (y.1, { l with safe := l.next }, 0)
def LM.full (l : LM) : Bool := match l.cur with
  | some s => decide (s.size ≥ 1024)
  | none => false
def LM.curN (l : LM) : Int := match l.cur with
  | some s => s.n
  | none => l.n
def addL (ss : List Sg) (p : List UInt8) : List Sg := match ss.getLast? with
  | some s => ss.dropLast ++ [{ s with size := s.size + (frameN p).length, ps := s.ps ++ [p] }]
  | none => []
def appendL (m : DM) (l : LM) (p : List UInt8) : DM × LM × Int × Int :=
  if m.down then (m, l, 0, 10)
  else if p.length > 1024 then (m, l, 0, 2)
  else if l.next ≥ 1099511627776 ∨ (l.full = true ∧ l.curN = lastN) then (m, l, 0, 12)
  else
    let y := if l.full then syncL m l else (m, l, 0)
    if y.2.2 ≠ 0 then (y.1, y.2.1, 0, y.2.2)
    else
      let n := if l.full then l.curN + 1 else l.curN
      let a := appendM y.1 (fN n) (frameN p)
      if a.2 ≠ 0 then (a.1, y.2.1, 0, a.2)
      else
        let ss := if l.segs = [] ∨ l.full = true then l.segs ++ [⟨n, l.next, 0, []⟩] else l.segs
        (a.1, { y.2.1 with segs := addL ss p }, l.next, 0)
def dropsL (l : LM) (to keep : Int) : Nat := (l.segs.take (l.segs.length - (max keep 1).toNat)).takeWhile (fun s => decide (s.next ≤ min to l.safe)) |>.length
def layM (m : DM) (s : Sg) : DM × Int :=
  let d := dropM m newN
  if d.2 ≠ 0 then d else
  let a := appendM d.1 newN (frameN (be8 s.n.toNat ++ be8 s.first.toNat))
  if a.2 ≠ 0 then a else
  let y := syncM a.1 newN
  if y.2 ≠ 0 then y else renameM y.1 newN headN
def goneM : List Sg → DM → DM × Int
  | [], m => (m, 0)
  | s :: r, m => if (removeM m (fN s.n)).2 ≠ 0 then removeM m (fN s.n) else goneM r (removeM m (fN s.n)).1
def trimL (m : DM) (l : LM) (to keep : Int) : DM × LM × Int :=
  if m.down then (m, l, 10)
  else if dropsL l to keep = 0 then (m, l, 0)
  else
    let y := layM m ((l.segs[dropsL l to keep]?).getD ⟨0, 0, 0, []⟩)
    if y.2 ≠ 0 then (y.1, l, y.2)
    else
      let g := goneM (l.segs.take (dropsL l to keep)) y.1
      if g.2 ≠ 0 then (g.1, l, g.2) else (g.1, { l with segs := l.segs.drop (dropsL l to keep) }, 0)
def getL (l : LM) (n : Int) : List UInt8 × Int :=
  if n < l.lo then ([], 31)
  else match l.segs.find? fun s => decide (n < s.next) with
    | some s => ((s.ps[(n - s.first).toNat]?).getD [], 0)
    | none => ([], 6)

end Go.Cx

namespace Go.Cx
open Go Go.Cf
set_option linter.unusedVariables false
set_option maxRecDepth 100000

/-! Names. -/
theorem fK_list (n : Int) : fK n = preL ++ Lib.itoa n := by unfold fK fN; rw [BA_toList]
theorem itoa_pos {n : Nat} (h : 1 ≤ n) : Lib.itoa (n : Int) = Lib.decDigits n := by unfold Lib.itoa; rw [if_neg (by omega), Int.toNat_natCast]
theorem itoa_inj {a b : Nat} (ha : 1 ≤ a) (hb : 1 ≤ b) (h : Lib.itoa (a : Int) = Lib.itoa (b : Int)) : a = b := by
  rw [itoa_pos ha, itoa_pos hb] at h
  have h1 := (dec_facts a a (Nat.le_refl _)).2.2.1
  have h2 := (dec_facts b b (Nat.le_refl _)).2.2.1
  rw [h, h2] at h1; exact h1.symm
theorem fK_inj {a b : Nat} (ha : 1 ≤ a) (hb : 1 ≤ b) (h : fK (a : Int) = fK (b : Int)) : a = b := by
  rw [fK_list, fK_list] at h
  exact itoa_inj ha hb (List.append_cancel_left h)
theorem fK_head (n : Int) : fK n ≠ headN.toList := by
  rw [fK_list]; unfold headN; rw [BA_toList]
  intro h
  have := congrArg (fun l => l[0]?) h
  simp [preL] at this
theorem fK_new (n : Int) : fK n ≠ newN.toList := by
  rw [fK_list]; unfold newN; rw [BA_toList]
  intro h
  have := congrArg (fun l => l[0]?) h
  simp [preL] at this
theorem new_head : newN.toList ≠ headN.toList := by
  unfold newN headN; rw [BA_toList, BA_toList]; decide
theorem dec_len_pos (n : Nat) : 1 ≤ (Lib.decDigits n).length := List.length_pos_iff.2 (dec_facts n n (Nat.le_refl _)).1
theorem fN_isFile {n : Nat} (h1 : 1 ≤ n) (h2 : n ≤ 999999999999) : isFileB (fN (n : Int)).data.toList = true := by
  unfold fN
  rw [BA_list, itoa_pos h1]
  obtain ⟨f1, f2, f3, f4, f5⟩ := dec_facts n n (Nat.le_refl _)
  have hl := dec_len 11 n (by omega)
  have hp := dec_len_pos n
  have hne := f5 h1
  unfold isFileB
  simp only [Bool.and_eq_true, decide_eq_true_eq, Bool.not_eq_true', beq_eq_false_iff_ne, ne_eq, beq_iff_eq, List.length_append]
  have e4 : preL.length = 4 := rfl
  refine ⟨⟨⟨⟨by omega, by omega⟩, ?_⟩, ?_⟩, ?_⟩
  · rw [← e4, List.take_left]
  · rw [List.getElem?_append_right (by omega)]
    exact hne
  · rw [← e4, List.drop_left]; exact f2
theorem fN_named {n : Nat} (h1 : 1 ≤ n) (h2 : n ≤ 999999999999) : namedB (fN (n : Int)) = true := by
  have := fN_isFile h1 h2
  unfold isFileB at this
  simp only [Bool.and_eq_true, decide_eq_true_eq] at this
  have e : (fN (n : Int)).data.toList.length = (fN (n : Int)).size := by rw [Array.length_toList]; rfl
  unfold namedB
  simp only [Bool.and_eq_true, decide_eq_true_eq]
  omega
theorem isFile_key {nm : ByteArray} {n : Int} (h : nm.toList = fK n) : nm = fN n := ba_toList_inj h

/-! Segments that hold such rows. -/
def segsFrom : Int → Int → List (List (List UInt8)) → List Sg
  | _, _, [] => []
  | n, f, g :: r => ⟨n, f, ((catF g).length : Int), g⟩ :: segsFrom (n + 1) (f + g.length) r
theorem segsFrom_len : ∀ (gs : List (List (List UInt8))) (n f : Int), (segsFrom n f gs).length = gs.length
  | [], _, _ => rfl
  | g :: r, n, f => by simp [segsFrom, segsFrom_len r]
theorem segsFrom_app : ∀ (gs hs : List (List (List UInt8))) (n f : Int), segsFrom n f (gs ++ hs) = segsFrom n f gs ++ segsFrom (n + gs.length) (f + gs.flatten.length) hs
  | [], hs, n, f => by simp [segsFrom]
  | g :: r, hs, n, f => by
    simp only [List.cons_append, segsFrom, segsFrom_app r hs, List.flatten_cons, List.length_append, List.length_cons]
    rw [show n + 1 + (r.length : Int) = n + ((r.length + 1 : Nat) : Int) by omega, show f + (g.length : Int) + (r.flatten.length : Int) = f + ((g.length + r.flatten.length : Nat) : Int) by omega]
theorem segsFrom_get {gs : List (List (List UInt8))} {n f : Int} {i : Nat} {g : List (List UInt8)} (h : gs[i]? = some g) : (segsFrom n f gs)[i]? = some ⟨n + i, f + (gs.take i).flatten.length, ((catF g).length : Int), g⟩ := by
  have hi := (List.getElem?_eq_some_iff.1 h).1
  have e : gs = gs.take i ++ g :: gs.drop (i + 1) := by
    rw [← (List.getElem?_eq_some_iff.1 h).2, ← List.drop_eq_getElem_cons hi, List.take_append_drop]
  conv => lhs; rw [e, segsFrom_app]
  have hl : (segsFrom n f (gs.take i)).length = i := by rw [segsFrom_len, List.length_take]; omega
  rw [List.getElem?_append_right (by omega), hl, Nat.sub_self]
  simp only [segsFrom, List.getElem?_cons_zero, Option.some.injEq, Sg.mk.injEq, and_true, List.length_take]
  omega
theorem segsFrom_last {gs : List (List (List UInt8))} {n f : Int} {g : List (List UInt8)} : (segsFrom n f (gs ++ [g])).getLast? = some ⟨n + gs.length, f + gs.flatten.length, ((catF g).length : Int), g⟩ := by
  rw [segsFrom_app]
  simp [segsFrom]
abbrev logOf (gs : List (List (List UInt8))) (safe : Int) : LM := ⟨1, 0, segsFrom 1 0 gs, safe⟩
theorem next_of (gs : List (List (List UInt8))) (safe : Int) : (logOf gs safe).next = gs.flatten.length := by
  unfold LM.next LM.cur
  rcases List.eq_nil_or_concat gs with rfl | ⟨hs, g, rfl⟩
  · rfl
  · rw [List.concat_eq_append]
    simp only
    rw [segsFrom_last]
    simp only [Sg.next, List.flatten_append, List.length_append, List.flatten_cons, List.flatten_nil, List.append_nil]
    omega

/-! What is kept of frames that are cut. -/
theorem catF_app (a b : List (List UInt8)) : catF (a ++ b) = catF a ++ catF b := by simp [catF]
theorem take_cat : ∀ (ps : List (List UInt8)) (q : Nat), (∀ p ∈ ps, p.length ≤ 1024) → q ≤ (catF ps).length → ∃ j r, (catF ps).take q = catF (ps.take j) ++ r ∧ scanN r = ([], 0) ∧ j ≤ ps.length ∧ (∀ j0, j0 ≤ ps.length → (catF (ps.take j0)).length ≤ q → j0 ≤ j)
  | [], q, _, h => ⟨0, [], by simp [catF], scan_no (by decide), by simp, fun j0 h _ => by simpa using h⟩
  | p :: ps, q, hs, h => by
    have hp := hs p (by simp)
    have hl := frame_len p
    rw [catF_cons, List.length_append] at h
    by_cases hq : q < 6 + p.length
    · refine ⟨0, (frameN p).take q, ?_, scan_part p q hp hq, by simp, ?_⟩
      · rw [catF_cons, List.take_append_of_le_length (by omega)]; rfl
      · intro j0 h0 h1
        cases j0 with
        | zero => exact Nat.le_refl _
        | succ j0 =>
          rw [List.take_succ_cons, catF_cons, List.length_append] at h1
          omega
    · obtain ⟨j, r, h1, h2, h3, h4⟩ := take_cat ps (q - (6 + p.length)) (fun x hx => hs x (by simp [hx])) (by omega)
      refine ⟨j + 1, r, ?_, h2, by simpa using h3, ?_⟩
      · rw [catF_cons, List.take_append, List.take_of_length_le (by omega), hl, h1]
        simp [catF_cons, List.append_assoc]
      · intro j0 h0 h5
        cases j0 with
        | zero => omega
        | succ j0 =>
          rw [List.take_succ_cons, catF_cons, List.length_append] at h5
          have := h4 j0 (by simpa using h0) (by omega)
          omega

/-! What lies on a device. -/
structure Disk (m : DM) (gs : List (List (List UInt8))) (r : List UInt8) : Prop where
  inv : DInv m
  files : ∀ (i : Nat) (g : List (List UInt8)), gs[i]? = some g → ∃ f, getF m.fs (fK ((i + 1 : Nat) : Int)) = some f ∧ f.b = catF g ++ (if i + 1 = gs.length then r else []) ∧ f.sy = f.b.length
  small : ∀ g ∈ gs, ∀ p ∈ g, p.length ≤ 1024
  rest : scanN r = ([], 0)
  mine : ∀ f ∈ m.fs, isFileB f.nm.data.toList = true → (∃ i : Nat, i < gs.length ∧ f.key = fK ((i + 1 : Nat) : Int)) ∨ f.key = fK 77
  few : gs.length ≤ 64
  head : getF m.fs headN.toList = none

theorem keep_all {f : DF} (h : f.sy = f.b.length) (keep : Int) : wakeF keep f = f := by
  have : keepN keep f = f.b.length := by
    unfold keepN
    rw [h]
    simp only [Int.sub_self]
    split <;> split at * <;> omega
  unfold wakeF
  rw [this]
  cases f
  simp only at h ⊢
  simp [h]
theorem Disk.wake {m : DM} {gs : List (List (List UInt8))} {r : List UInt8} (h : Disk m gs r) (keep : Int) : Disk (wakeM m keep) gs r := by
  refine ⟨wake_inv h.inv keep, fun i g hg => ?_, h.small, h.rest, fun f hf hm => ?_, h.few, ?_⟩
  · obtain ⟨f, h1, h2, h3⟩ := h.files i g hg
    refine ⟨f, ?_, h2, h3⟩
    show getF (m.fs.map (wakeF keep)) _ = _
    rw [getF_wake, h1, Option.map_some, keep_all h3]
  · obtain ⟨g, hg, rfl⟩ := List.mem_map.1 hf
    exact h.mine g hg hm
  · show getF (m.fs.map (wakeF keep)) _ = _
    rw [getF_wake, h.head]; rfl
/-- Other calls that leave the segments be. -/
theorem Disk.other {m m' : DM} {gs : List (List (List UInt8))} {r r' : List UInt8} (h : Disk m gs r) (hi : DInv m') (hr : scanN r' = ([], 0))
    (hf : ∀ (i : Nat) (g : List (List UInt8)), gs[i]? = some g → ∃ f, getF m'.fs (fK ((i + 1 : Nat) : Int)) = some f ∧ f.b = catF g ++ (if i + 1 = gs.length then r' else []) ∧ f.sy = f.b.length)
    (hm : ∀ f ∈ m'.fs, ∃ g ∈ m.fs, g.nm = f.nm) : Disk m' gs r' := by
  refine ⟨hi, hf, h.small, hr, fun f hf' hm' => ?_, h.few, ?_⟩
  · obtain ⟨g, hg, e⟩ := hm f hf'
    have := h.mine g hg (by rw [e]; exact hm')
    simp only [DF.key] at this ⊢
    rw [e] at this; exact this
  · rw [getF_none]
    intro f hf' hk
    obtain ⟨g, hg, e⟩ := hm f hf'
    have := getF_none.1 h.head g hg
    simp only [DF.key] at this hk
    rw [e] at this
    exact this hk
theorem Disk.down {m : DM} {gs : List (List (List UInt8))} {r : List UInt8} (h : Disk m gs r) (b : Bool) : Disk { m with down := b } gs r :=
  ⟨⟨h.inv.sorted, h.inv.names, h.inv.syn, h.inv.used, h.inv.room, h.inv.len, h.inv.left⟩, h.files, h.small, h.rest, h.mine, h.few, h.head⟩
theorem Disk.fails {m : DM} {gs : List (List (List UInt8))} {r : List UInt8} {x : DM × Int} (h : Disk m gs r) (hf : Fails m x) : Disk x.1 gs r := by rw [hf.2]; exact h.down true

theorem Disk.read {m : DM} {gs : List (List (List UInt8))} {r : List UInt8} (h : Disk m gs r) {i : Nat} {g : List (List UInt8)} (hg : gs[i]? = some g) :
    readM m (fN ((i + 1 : Nat) : Int)) = (catF g ++ (if i + 1 = gs.length then r else []), 0) ∧ scanN (catF g ++ (if i + 1 = gs.length then r else [])) = (g, (catF g).length) := by
  obtain ⟨f, h1, h2, h3⟩ := h.files i g hg
  refine ⟨by rw [read_some h.inv h1, h2], ?_⟩
  rw [scan_cat g _ (h.small g (List.mem_of_getElem? hg))]
  split
  · rw [h.rest]; simp
  · rw [scan_no (by decide)]; simp

theorem set_names {fs : List DF} {i : Nat} {f g : DF} (hf : fs[i]? = some f) (e : g.nm = f.nm) : ∀ x ∈ fs.set i g, ∃ y ∈ fs, y.nm = x.nm := by
  intro x hx
  rcases List.mem_or_eq_of_mem_set hx with hx | rfl
  · exact ⟨x, hx, rfl⟩
  · exact ⟨f, List.mem_of_getElem? hf, e.symm⟩
theorem erase_names {fs : List DF} {i : Nat} : ∀ x ∈ fs.eraseIdx i, ∃ y ∈ fs, y.nm = x.nm := fun x hx => ⟨x, List.mem_of_mem_eraseIdx hx, rfl⟩

/-- A segment is mended. -/
theorem Disk.mend {m : DM} {gs : List (List (List UInt8))} {r : List UInt8} (h : Disk m gs r) (hd : m.down = false) {i : Nat} {g : List (List UInt8)} (hg : gs[i]? = some g) :
    ((mendM m ((i + 1 : Nat) : Int)).2 = 10 ∧ m.armed = true ∧ (∃ r', Disk (mendM m ((i + 1 : Nat) : Int)).1 gs r')) ∨
    ((mendM m ((i + 1 : Nat) : Int)).2 = 0 ∧ (mendM m ((i + 1 : Nat) : Int)).1.down = false ∧ (mendM m ((i + 1 : Nat) : Int)).1.room = m.room ∧ (m.armed = false → (mendM m ((i + 1 : Nat) : Int)).1.armed = false) ∧ Disk (mendM m ((i + 1 : Nat) : Int)).1 gs (if i + 1 = gs.length then [] else r)) := by
  obtain ⟨hr, hs⟩ := h.read hg
  obtain ⟨f, h1, h2, h3⟩ := h.files i g hg
  -- the sync of a whole file
  have syn : ∀ (m' : DM) (r' : List UInt8), Disk m' gs r' → m'.down = false → 
      (Fails m' (syncM m' (fN ((i + 1 : Nat) : Int)))) ∨ ((syncM m' (fN ((i + 1 : Nat) : Int))).2 = 0 ∧ (syncM m' (fN ((i + 1 : Nat) : Int))).1.down = false ∧ (syncM m' (fN ((i + 1 : Nat) : Int))).1.room = m'.room ∧ (m'.armed = false → (syncM m' (fN ((i + 1 : Nat) : Int))).1.armed = false) ∧ Disk (syncM m' (fN ((i + 1 : Nat) : Int))).1 gs r') := by
    intro m' r' h' hd'
    obtain ⟨f', k1, k2, k3⟩ := h'.files i g hg
    rcases sync_or h'.inv hd' k1 with hx | hx
    · exact .inl hx
    · right
      refine ⟨hx.err, hx.down.trans hd', hx.room, hx.armed, ?_⟩
      have hat := (getF_at h'.inv.sorted k1).2
      have hsame : m'.fs.set (findL m'.fs (fN ((i + 1 : Nat) : Int)).toList) { f' with sy := f'.b.length } = m'.fs := by
        have : ({ f' with sy := (f'.b.length : Int) } : DF) = f' := by rw [← k3]
        rw [this]
        exact List.ext_getElem? fun j => by
          by_cases e : findL m'.fs (fN ((i + 1 : Nat) : Int)).toList = j
          · subst e
            rw [List.getElem?_set_self (List.getElem?_eq_some_iff.1 hat).1, hat]
          · rw [List.getElem?_set_ne e]
      have hfs := hx.files
      rw [hsame] at hfs
      refine h'.other (sync_inv h'.inv _) h'.rest (fun j g' hg' => by rw [hfs]; exact h'.files j g' hg') (fun x hx' => by rw [hfs] at hx'; exact ⟨x, hx', rfl⟩)
  unfold mendM
  simp only [hr, hs]
  by_cases hlt : (catF g).length < (catF g ++ (if i + 1 = gs.length then r else [])).length
  · rw [if_pos hlt]
    have hlast : i + 1 = gs.length := by
      rw [List.length_append] at hlt
      split at hlt
      · assumption
      · simp at hlt
    rw [if_pos hlast] at h2 ⊢
    have hlen : (f.b.length : Int) = (catF g).length + r.length := by rw [h2, List.length_append]; omega
    rcases trunc_or h.inv hd h1 (n := ((catF g).length : Int)) (by omega) (by omega) with hx | hx
    · left
      have he : (truncM m (fN ((i + 1 : Nat) : Int)) ((catF g).length : Int)).2 = 10 := by rw [hx.2]
      rw [if_pos (by rw [he]; decide)]
      exact ⟨he, hx.1, r, h.fails hx⟩
    · rw [if_neg (by rw [hx.err]; decide)]
      have hat := (getF_at h.inv.sorted h1).2
      have hD : Disk (truncM m (fN ((i + 1 : Nat) : Int)) ((catF g).length : Int)).1 gs [] := by
        refine h.other (trunc_inv h.inv _ _) (scan_no (by decide)) (fun j g' hg' => ?_) (fun x hx' => by
          rw [hx.files] at hx'
          exact set_names hat (g := { f with b := f.b.take ((catF g).length : Int).toNat, sy := if ((catF g).length : Int) < f.sy then ((catF g).length : Int) else f.sy }) rfl x hx')
        rw [hx.files, getF_set h.inv.sorted hat (by rfl), getF_key h1]
        by_cases e : j = i
        · subst e
          rw [hg] at hg'; cases hg'
          refine ⟨_, if_pos rfl, ?_, ?_⟩
          · simp only [Int.toNat_natCast, h2]
            rw [List.take_left]; simp
          · simp only [Int.toNat_natCast, h2, List.take_left]
            rw [h3, hlen]
            split <;> omega
        · rw [if_neg (fun k => e (by have := fK_inj (by omega) (by omega) k; omega))]
          obtain ⟨f', k1, k2, k3⟩ := h.files j g' hg'
          refine ⟨f', k1, ?_, k3⟩
          have hj := (List.getElem?_eq_some_iff.1 hg').1
          rw [k2, if_neg (by omega), if_neg (by omega)]
      rcases syn _ _ hD (hx.down.trans hd) with hy | ⟨y1, y2, y3, y4, y5⟩
      · left
        have ha : m.armed = true := by
          cases ha : m.armed with
          | true => rfl
          | false => have := hx.armed ha; rw [hy.1] at this; cases this
        exact ⟨by rw [hy.2], ha, [], hD.fails hy⟩
      · exact .inr ⟨y1, y2, y3.trans hx.room, fun ha => y4 (hx.armed ha), y5⟩
  · rw [if_neg hlt]
    rw [if_neg (by simp)]
    have hr0 : i + 1 = gs.length → r = [] := by
      intro e
      rw [if_pos e, List.length_append] at hlt
      exact List.eq_nil_of_length_eq_zero (by omega)
    rcases syn m r h hd with hy | ⟨y1, y2, y3, y4, y5⟩
    · exact .inl ⟨by rw [hy.2], hy.1, r, h.fails hy⟩
    · refine .inr ⟨y1, y2, y3, y4, ?_⟩
      split
      · rename_i e
        rw [hr0 e] at y5; exact y5
      · exact y5

theorem Disk.past {m : DM} {gs : List (List (List UInt8))} {r : List UInt8} (h : Disk m gs r) : readM m (fN ((gs.length + 1 : Nat) : Int)) = ([], 6) := by
  refine read_none h.inv (getF_none.2 fun f hf hk => ?_)
  have hfew := h.few
  rcases h.mine f hf (by rw [isFile_key hk]; exact fN_isFile (by omega) (by omega)) with ⟨i, hi, e⟩ | e
  · have := fK_inj (by omega) (by omega) (hk.symm.trans e)
    omega
  · have := fK_inj (a := gs.length + 1) (b := 77) (by omega) (by omega) (hk.symm.trans e)
    omega

theorem Disk.readL {gs : List (List (List UInt8))} : ∀ (k : Nat) (m : DM) (r : List UInt8) (i : Nat), Disk m gs r → m.down = false → i ≤ gs.length → gs.length - i < k →
    ((readL k m ((i + 1 : Nat) : Int) (logOf (gs.take i) 0)).2.2 = 10 ∧ m.armed = true ∧ ∃ r', Disk (readL k m ((i + 1 : Nat) : Int) (logOf (gs.take i) 0)).1 gs r') ∨
    ((readL k m ((i + 1 : Nat) : Int) (logOf (gs.take i) 0)).2.2 = 0 ∧ (readL k m ((i + 1 : Nat) : Int) (logOf (gs.take i) 0)).2.1 = logOf gs 0 ∧ (readL k m ((i + 1 : Nat) : Int) (logOf (gs.take i) 0)).1.down = false ∧ (readL k m ((i + 1 : Nat) : Int) (logOf (gs.take i) 0)).1.room = m.room ∧ (m.armed = false → (readL k m ((i + 1 : Nat) : Int) (logOf (gs.take i) 0)).1.armed = false) ∧ ∃ r', Disk (readL k m ((i + 1 : Nat) : Int) (logOf (gs.take i) 0)).1 gs r')
  | 0, m, r, i, h, hd, hi, hk => by omega
  | k + 1, m, r, i, h, hd, hi, hk => by
    by_cases he : i = gs.length
    · subst he
      have hp := h.past
      unfold Go.Cx.readL
      rw [if_pos (by rw [hp]; decide), List.take_of_length_le (Nat.le_refl _)]
      exact .inr ⟨rfl, rfl, hd, rfl, id, r, h⟩
    · have hg : gs[i]? = some gs[i] := List.getElem?_eq_getElem (by omega)
      obtain ⟨hr, hs⟩ := h.read hg
      have hnext : ({ logOf (gs.take i) 0 with segs := (logOf (gs.take i) 0).segs ++ [⟨((i + 1 : Nat) : Int), (logOf (gs.take i) 0).next, ((catF gs[i]).length : Int), gs[i]⟩] } : LM) = logOf (gs.take (i + 1)) 0 := by
        have e : gs.take (i + 1) = gs.take i ++ [gs[i]] := by rw [List.take_add_one, hg]; rfl
        rw [next_of]
        simp only [logOf, e, segsFrom_app, segsFrom, LM.mk.injEq, true_and, and_true]
        congr 2
        simp only [Sg.mk.injEq, and_true, List.length_take]
        omega
      unfold Go.Cx.readL
      rw [if_neg (by rw [hr]; simp)]
      rcases h.mend hd hg with ⟨h1, h2, h3⟩ | ⟨h1, h2, h3, h4, h5⟩
      · rw [if_pos (by rw [h1]; decide)]
        exact .inl ⟨h1, h2, h3⟩
      · rw [if_neg (by rw [h1]; decide)]
        simp only [hr, hs]
        rw [hnext]
        by_cases hlt : (catF gs[i]).length < (catF gs[i] ++ (if i + 1 = gs.length then r else [])).length
        · rw [if_pos hlt]
          have hlast : i + 1 = gs.length := by
            rw [List.length_append] at hlt
            split at hlt
            · assumption
            · simp at hlt
          rw [hlast, List.take_of_length_le (Nat.le_refl _)]
          rw [hlast] at h1 h2 h3 h4 h5
          exact .inr ⟨rfl, rfl, h2, h3, h4, _, h5⟩
        · rw [if_neg hlt]
          have ih := Disk.readL k (mendM m ((i + 1 : Nat) : Int)).1 _ (i + 1) h5 h2 (by omega) (by omega)
          have e2 : ((i + 1 : Nat) : Int) + 1 = ((i + 1 + 1 : Nat) : Int) := by omega
          rw [e2]
          rcases ih with ⟨a1, a2, a3⟩ | ⟨a1, a2, a3, a4, a5, a6⟩
          · left
            refine ⟨a1, ?_, a3⟩
            cases ha : m.armed with
            | true => rfl
            | false => rw [h4 ha] at a2; cases a2
          · exact .inr ⟨a1, a2, a3, a4.trans h3, fun ha => a5 (h4 ha), a6⟩

end Go.Cx

namespace Go.Cx
open Go Go.Cf
set_option linter.unusedVariables false
set_option maxRecDepth 100000

theorem Disk.drop {m : DM} {gs : List (List (List UInt8))} {r : List UInt8} (h : Disk m gs r) (hd : m.down = false) :
    ((dropM m newN).2 = 10 ∧ m.armed = true ∧ Disk (dropM m newN).1 gs r) ∨ ((dropM m newN).2 = 0 ∧ (dropM m newN).1.down = false ∧ (dropM m newN).1.room = m.room ∧ (m.armed = false → (dropM m newN).1.armed = false) ∧ Disk (dropM m newN).1 gs r) := by
  cases hf : getF m.fs newN.toList with
  | none =>
    have e := remove_none h.inv hd hf
    unfold dropM
    rw [e, if_pos rfl]
    exact .inr ⟨rfl, hd, rfl, id, h⟩
  | some f =>
    rcases remove_or h.inv hd hf with hx | hx
    · left
      unfold dropM
      have e : (removeM m newN).2 = 10 := by rw [hx.2]
      rw [if_neg (by rw [e]; decide)]
      exact ⟨e, hx.1, h.fails hx⟩
    · right
      have hat := (getF_at h.inv.sorted hf).2
      unfold dropM
      rw [if_neg (by rw [hx.err]; decide)]
      refine ⟨hx.err, hx.down.trans hd, hx.room, hx.armed, h.other (remove_inv h.inv _) h.rest (fun i g hg => ?_) (fun x hx' => ?_)⟩
      · rw [hx.files, getF_erase h.inv.sorted hat, getF_key hf, if_neg (fK_new _)]
        exact h.files i g hg
      · rw [hx.files] at hx'; exact erase_names x hx'
theorem Disk.headM {m : DM} {gs : List (List (List UInt8))} {r : List UInt8} (h : Disk m gs r) : headM m = (1, 0, 0) := by
  unfold Go.Cx.headM
  rw [read_none h.inv h.head]; rfl

theorem keep_of {gs : List (List (List UInt8))} {safe : Int} {nm : ByteArray} : keepB (logOf gs safe) nm = false ↔ isFileB nm.data.toList = true ∧ ∀ i : Nat, i < gs.length → nm.toList ≠ fK ((i + 1 : Nat) : Int) := by
  unfold keepB
  simp only [Bool.or_eq_false_iff, Bool.not_eq_false', List.any_eq_false, beq_iff_eq]
  constructor
  · rintro ⟨h1, h2⟩
    refine ⟨h1, fun i hi e => ?_⟩
    have hg : gs[i]? = some gs[i] := List.getElem?_eq_getElem hi
    have := segsFrom_get (n := 1) (f := 0) hg
    refine h2 _ (List.mem_of_getElem? this) ?_
    rw [e]; simp only; congr 2; omega
  · rintro ⟨h1, h2⟩
    refine ⟨h1, fun s hs e => ?_⟩
    obtain ⟨i, hi⟩ := List.mem_iff_getElem?.1 hs
    have hl := (List.getElem?_eq_some_iff.1 hi).1
    rw [segsFrom_len] at hl
    have hg : gs[i]? = some gs[i] := List.getElem?_eq_getElem hl
    rw [segsFrom_get (n := 1) (f := 0) hg] at hi
    cases hi
    refine h2 i hl ?_
    rw [← e]; simp only; congr 2; omega

theorem Disk.sweep {gs : List (List (List UInt8))} {safe : Int} : ∀ (nms : List ByteArray) (m : DM) (r : List UInt8), Disk m gs r → m.down = false → nms.Nodup → (∀ nm ∈ nms, ∃ f ∈ m.fs, f.nm = nm) →
    ((sweepM (logOf gs safe) nms m).2 = 10 ∧ m.armed = true ∧ Disk (sweepM (logOf gs safe) nms m).1 gs r) ∨ ((sweepM (logOf gs safe) nms m).2 = 0 ∧ (sweepM (logOf gs safe) nms m).1.down = false ∧ (sweepM (logOf gs safe) nms m).1.room = m.room ∧ (m.armed = false → (sweepM (logOf gs safe) nms m).1.armed = false) ∧ Disk (sweepM (logOf gs safe) nms m).1 gs r)
  | [], m, r, h, hd, _, _ => .inr ⟨rfl, hd, rfl, id, h⟩
  | nm :: nms, m, r, h, hd, hn, hin => by
    obtain ⟨hn1, hn2⟩ := List.nodup_cons.1 hn
    unfold sweepM
    split
    · exact Disk.sweep nms m r h hd hn2 fun x hx => hin x (by simp [hx])
    rename_i hk
    obtain ⟨k1, k2⟩ := keep_of.1 (by simpa using hk)
    obtain ⟨f, hf, rfl⟩ := hin nm (by simp)
    have hgf : getF m.fs f.nm.toList = some f := (getF_iff h.inv.sorted).2 ⟨hf, rfl⟩
    rcases remove_or h.inv hd hgf with hx | hx
    · have e : (removeM m f.nm).2 = 10 := by rw [hx.2]
      rw [if_pos (by rw [e]; decide)]
      exact .inl ⟨e, hx.1, h.fails hx⟩
    · rw [if_neg (by rw [hx.err]; decide)]
      have hat := (getF_at h.inv.sorted hgf).2
      have hD : Disk (removeM m f.nm).1 gs r := by
        refine h.other (remove_inv h.inv _) h.rest (fun i g hg => ?_) (fun x hx' => ?_)
        · have hi := (List.getElem?_eq_some_iff.1 hg).1
          rw [hx.files, getF_erase h.inv.sorted hat, if_neg (fun e => k2 i hi e.symm)]
          exact h.files i g hg
        · rw [hx.files] at hx'; exact erase_names x hx'
      have ih := Disk.sweep (safe := safe) nms (removeM m f.nm).1 r hD (hx.down.trans hd) hn2 (fun x hx' => by
        obtain ⟨g, hg, rfl⟩ := hin x (by simp [hx'])
        refine ⟨g, ?_, rfl⟩
        rw [hx.files]
        have hne : g.nm ≠ f.nm := fun e => hn1 (by rw [← e]; exact hx')
        have : getF (m.fs.eraseIdx (findL m.fs f.nm.toList)) g.key = some g := by
          rw [getF_erase h.inv.sorted hat, if_neg (fun e => hne (ba_toList_inj e))]
          exact (getF_iff h.inv.sorted).2 ⟨hg, rfl⟩
        exact getF_mem this)
      rcases ih with ⟨a1, a2, a3⟩ | ⟨a1, a2, a3, a4, a5⟩
      · left
        refine ⟨a1, ?_, a3⟩
        cases ha : m.armed with
        | true => rfl
        | false => rw [hx.armed ha] at a2; cases a2
      · exact .inr ⟨a1, a2, a3.trans hx.room, fun ha => a4 (hx.armed ha), a5⟩

theorem names_nodup {fs : List DF} (hs : Sorted fs) : (fs.map (·.nm)).Nodup := by
  refine List.pairwise_map.2 (hs.imp fun {f g} h e => ?_)
  have e : f.key = g.key := congrArg ByteArray.toList e
  rw [e, lt_irrefl] at h
  cases h

/-- A log is opened. -/
theorem Disk.open {m : DM} {gs : List (List (List UInt8))} {r : List UInt8} (h : Disk m gs r) (hd : m.down = false) :
    ((openM m).2.2 = 10 ∧ (openM m).2.1 = none ∧ m.armed = true ∧ ∃ r', Disk (openM m).1 gs r') ∨
    ((openM m).2.2 = 0 ∧ (openM m).2.1 = some (logOf gs gs.flatten.length) ∧ (openM m).1.down = false ∧ (openM m).1.room = m.room ∧ (m.armed = false → (openM m).1.armed = false) ∧ ∃ r', Disk (openM m).1 gs r') := by
  unfold openM
  rcases h.drop hd with ⟨a1, a2, a3⟩ | ⟨a1, a2, a3, a4, a5⟩
  · rw [if_pos (by rw [a1]; decide)]
    exact .inl ⟨a1, rfl, a2, r, a3⟩
  rw [if_neg (by rw [a1]; decide)]
  simp only [a5.headM]
  rw [if_neg (by decide)]
  have hl : (⟨1, 0, [], 0⟩ : LM) = logOf (gs.take 0) 0 := rfl
  have hr := a5.readL 70 _ _ 0 a2 (by omega) (by have := h.few; omega)
  simp only [Nat.zero_add] at hr
  rw [hl]
  have e1 : ((1 : Nat) : Int) = 1 := rfl
  rw [e1] at hr
  rcases hr with ⟨b1, b2, r', b3⟩ | ⟨b1, b2, b3, b4, b5, r', b6⟩
  · rw [if_pos (by rw [b1]; decide)]
    refine .inl ⟨b1, rfl, ?_, r', b3⟩
    cases ha : m.armed with
    | true => rfl
    | false => rw [a4 ha] at b2; cases b2
  rw [if_neg (by rw [b1]; decide), b2]
  rcases b6.sweep (safe := 0) ((Go.Cx.readL 70 (dropM m newN).1 1 (logOf (gs.take 0) 0)).1.fs.map (·.nm)) _ r' b3 (names_nodup b6.inv.sorted) (fun nm hnm => by
    obtain ⟨f, hf, rfl⟩ := List.mem_map.1 hnm
    exact ⟨f, hf, rfl⟩) with ⟨c1, c2, c3⟩ | ⟨c1, c2, c3, c4, c5⟩
  · rw [if_pos (by rw [c1]; decide)]
    refine .inl ⟨c1, rfl, ?_, r', c3⟩
    cases ha : m.armed with
    | true => rfl
    | false => rw [b5 (a4 ha)] at c2; cases c2
  · rw [if_neg (by rw [c1]; decide)]
    refine .inr ⟨rfl, ?_, c2, c3.trans (b4.trans a3), fun ha => c4 (b5 (a4 ha)), r', c5⟩
    rw [next_of]

/-! A log that is open, all from the first on. -/
structure Rel (m : DM) (gs : List (List (List UInt8))) (safe : Nat) : Prop where
  inv : DInv m
  files : ∀ (i : Nat) (g : List (List UInt8)), gs[i]? = some g → ∃ f, getF m.fs (fK ((i + 1 : Nat) : Int)) = some f ∧ f.b = catF g ∧ f.sy = (catF (g.take (safe - (gs.take i).flatten.length))).length
  small : ∀ g ∈ gs, ∀ p ∈ g, p.length ≤ 1024
  mine : ∀ f ∈ m.fs, isFileB f.nm.data.toList = true → ∃ i : Nat, i < gs.length ∧ f.key = fK ((i + 1 : Nat) : Int)
  few : gs.length ≤ 64
  head : getF m.fs headN.toList = none
  new : getF m.fs newN.toList = none
  total : safe ≤ gs.flatten.length
  last : ∀ gs' g, gs = gs' ++ [g] → gs'.flatten.length ≤ safe

theorem take_flat_len (gs : List (List (List UInt8))) (i : Nat) : (gs.take i).flatten.length ≤ gs.flatten.length := by
  have : gs.flatten = (gs.take i).flatten ++ (gs.drop i).flatten := by rw [← List.flatten_append, List.take_append_drop]
  rw [this, List.length_append]; omega
theorem catF_take_le (g : List (List UInt8)) (j : Nat) : (catF (g.take j)).length ≤ (catF g).length := by
  have : catF g = catF (g.take j) ++ catF (g.drop j) := by rw [← catF_app, List.take_append_drop]
  rw [this, List.length_append]; omega

theorem Rel.names {m : DM} {gs : List (List (List UInt8))} {safe : Nat} (h : Rel m gs safe) (k : Key) : True := trivial

/-- The power fails: what is left. -/
theorem Rel.wake {m : DM} {gs : List (List (List UInt8))} {safe : Nat} (h : Rel m gs safe) (keep : Int) : ∃ gs' r, Disk (wakeM m keep) gs' r ∧ gs'.length = gs.length ∧ gs'.flatten <+: gs.flatten ∧ safe ≤ gs'.flatten.length := by
  rcases List.eq_nil_or_concat gs with rfl | ⟨hs, g, rfl⟩
  · refine ⟨[], [], ⟨wake_inv h.inv keep, fun i g hg => by simp at hg, by simp, scan_no (by decide), fun f hf hm => ?_, by simp, ?_⟩, rfl, List.prefix_refl _, by have := h.total; simpa using this⟩
    · obtain ⟨f', hf', rfl⟩ := List.mem_map.1 hf
      obtain ⟨i, hi, _⟩ := h.mine f' hf' hm
      simp at hi
    · show getF (m.fs.map (wakeF keep)) _ = _
      rw [getF_wake, h.head]; rfl
  rw [List.concat_eq_append] at h ⊢
  have hgl : (hs ++ [g])[hs.length]? = some g := by simp
  obtain ⟨f, f1, f2, f3⟩ := h.files hs.length g hgl
  have hsafe := h.total
  have hlast := h.last hs g rfl
  simp only [List.take_left] at f3
  have hsmall : ∀ p ∈ g, p.length ≤ 1024 := h.small g (by simp)
  have hsy := h.inv.syn f (getF_mem f1)
  obtain ⟨k1, k2⟩ := keepN_le hsy keep
  obtain ⟨j, r, q1, q2, q3, q4⟩ := take_cat g (keepN keep f).toNat hsmall (by rw [f2] at k2; omega)
  have hj := q4 (safe - hs.flatten.length) (by simp only [List.flatten_append, List.flatten_cons, List.flatten_nil, List.append_nil, List.length_append] at hsafe; omega) (by omega)
  refine ⟨hs ++ [g.take j], r, ⟨wake_inv h.inv keep, fun i g' hg' => ?_, fun g' hg' => ?_, q2, fun f' hf' hm => ?_, ?_, ?_⟩, by simp, ?_, ?_⟩
  · show ∃ f, getF (m.fs.map (wakeF keep)) _ = some f ∧ _
    by_cases hi : i = hs.length
    · subst hi
      obtain rfl : g' = g.take j := by simpa using hg'.symm
      refine ⟨wakeF keep f, by rw [getF_wake, f1]; rfl, ?_, ?_⟩
      · rw [if_pos (by simp)]
        show f.b.take _ = _
        rw [f2, q1]
      · show keepN keep f = ((f.b.take (keepN keep f).toNat).length : Int)
        rw [List.length_take]; omega
    · have hlt : i < hs.length := by
        have := (List.getElem?_eq_some_iff.1 hg').1
        simp at this; omega
      rw [List.getElem?_append_left hlt] at hg'
      obtain ⟨f', e1, e2, e3⟩ := h.files i g' (by rw [List.getElem?_append_left hlt]; exact hg')
      have hw : f'.sy = f'.b.length := by
        rw [e3, e2, List.take_of_length_le]
        have hle : ((hs ++ [g]).take i).flatten.length + g'.length ≤ hs.flatten.length := by
          rw [List.take_append_of_le_length (by omega)]
          have e : hs = hs.take i ++ g' :: hs.drop (i + 1) := by
            rw [← (List.getElem?_eq_some_iff.1 hg').2, ← List.drop_eq_getElem_cons hlt, List.take_append_drop]
          conv => rhs; rw [e]
          simp only [List.flatten_append, List.flatten_cons, List.length_append]; omega
        omega
      refine ⟨f', by rw [getF_wake, e1, Option.map_some, keep_all hw], ?_, hw⟩
      rw [if_neg (by simp; omega), List.append_nil, e2]
  · rcases List.mem_append.1 hg' with hg' | hg'
    · exact h.small g' (by simp [hg'])
    · obtain rfl : g' = g.take j := by simpa using hg'
      exact fun p hp => hsmall p (List.mem_of_mem_take hp)
  · obtain ⟨f'', hf'', rfl⟩ := List.mem_map.1 hf'
    obtain ⟨i, hi, e⟩ := h.mine f'' hf'' hm
    exact .inl ⟨i, by simpa using hi, e⟩
  · have := h.few; simpa using this
  · show getF (m.fs.map (wakeF keep)) _ = _
    rw [getF_wake, h.head]; rfl
  · simp only [List.flatten_append, List.flatten_cons, List.flatten_nil, List.append_nil]
    exact List.prefix_append_right_inj _ |>.2 (List.take_prefix _ _)
  · simp only [List.flatten_append, List.flatten_cons, List.flatten_nil, List.append_nil, List.length_append, List.length_take]
    omega

end Go.Cx

namespace Go.Cx
open Go Go.Cf
set_option linter.unusedVariables false
set_option maxRecDepth 100000

theorem nodup_sub_len {α : Type} [DecidableEq α] : ∀ {l m : List α}, l.Nodup → (∀ x ∈ l, x ∈ m) → l.length ≤ m.length
  | [], m, _, _ => by simp
  | x :: l, m, hn, hs => by
    obtain ⟨h1, h2⟩ := List.nodup_cons.1 hn
    have hx := hs x (by simp)
    have := nodup_sub_len (l := l) (m := m.erase x) h2 fun y hy => by
      have hne : y ≠ x := fun e => h1 (e ▸ hy)
      exact (List.mem_erase_of_ne hne).2 (hs y (by simp [hy]))
    rw [List.length_erase_of_mem hx] at this
    have := List.length_pos_of_mem hx
    simp; omega
theorem keys_few {fs : List DF} {n : Nat} (h : ∀ i, i < n → (getF fs (fK ((i + 1 : Nat) : Int))).isSome = true) : n ≤ fs.length := by
  have := nodup_sub_len (l := (List.range n).map fun i => fK ((i + 1 : Nat) : Int)) (m := fs.map DF.key) (by
    refine List.pairwise_map.2 ?_
    exact List.nodup_range.imp fun {a b} hab e => hab (by have := fK_inj (by omega) (by omega) e; omega)) (fun x hx => by
    obtain ⟨i, hi, rfl⟩ := List.mem_map.1 hx
    have := h i (List.mem_range.1 hi)
    obtain ⟨f, hf⟩ := Option.isSome_iff_exists.1 this
    exact List.mem_map.2 ⟨f, getF_mem hf, getF_key hf⟩)
  simpa using this

theorem earlier {gs : List (List (List UInt8))} {i : Nat} {g : List (List UInt8)} (hg : gs[i]? = some g) : (gs.take i).flatten.length + g.length ≤ gs.flatten.length := by
  have hlt := (List.getElem?_eq_some_iff.1 hg).1
  have e : gs = gs.take i ++ g :: gs.drop (i + 1) := by
    rw [← (List.getElem?_eq_some_iff.1 hg).2, ← List.drop_eq_getElem_cons hlt, List.take_append_drop]
  conv => rhs; rw [e]
  simp only [List.flatten_append, List.flatten_cons, List.length_append]; omega
theorem earlier2 {gs : List (List (List UInt8))} {i : Nat} {g gl : List (List UInt8)} (hg : gs[i]? = some g) : ((gs ++ [gl]).take i).flatten.length + g.length ≤ gs.flatten.length := by
  rw [List.take_append_of_le_length (by have := (List.getElem?_eq_some_iff.1 hg).1; omega)]
  exact earlier hg

theorem cur_of {hs : List (List (List UInt8))} {g : List (List UInt8)} {safe : Int} : (logOf (hs ++ [g]) safe).cur = some ⟨((hs.length + 1 : Nat) : Int), (hs.flatten.length : Int), ((catF g).length : Int), g⟩ := by
  unfold LM.cur
  simp only [segsFrom_last, Option.some.injEq, Sg.mk.injEq, and_true]
  omega
theorem set_same {fs : List DF} {i : Nat} {f g : DF} (h : fs[i]? = some f) (hb : g.b = f.b) : usedN (fs.set i g) = usedN fs := by
  have := usedN_set (g := g) h
  rw [hb] at this; omega

theorem Rel.down {m : DM} {gs : List (List (List UInt8))} {safe : Nat} (h : Rel m gs safe) (b : Bool) : Rel { m with down := b } gs safe :=
  ⟨⟨h.inv.sorted, h.inv.names, h.inv.syn, h.inv.used, h.inv.room, h.inv.len, h.inv.left⟩, h.files, h.small, h.mine, h.few, h.head, h.new, h.total, h.last⟩
theorem Rel.fails {m : DM} {gs : List (List (List UInt8))} {safe : Nat} {x : DM × Int} (h : Rel m gs safe) (hf : Fails m x) : x.2 = 10 ∧ x.1.down = true ∧ x.1.room = m.room ∧ Rel x.1 gs safe := by rw [hf.2]; exact ⟨rfl, rfl, rfl, h.down true⟩

structure SyncR (m : DM) (gs : List (List (List UInt8))) (safe : Nat) (x : DM × LM × Int) : Prop where
  room : x.1.room = m.room
  used : usedN x.1.fs = usedN m.fs
  len : x.1.fs.length = m.fs.length
  or : (x.2.2 = 10 ∧ m.armed = true ∧ x.1.down = true ∧ x.2.1 = logOf gs safe ∧ Rel x.1 gs safe) ∨
    (x.2.2 = 0 ∧ x.1.down = false ∧ (m.armed = false → x.1.armed = false) ∧ x.2.1 = logOf gs gs.flatten.length ∧ Rel x.1 gs gs.flatten.length)

theorem Rel.sync {m : DM} {gs : List (List (List UInt8))} {safe : Nat} (h : Rel m gs safe) (hd : m.down = false) : SyncR m gs safe (syncL m (logOf gs safe)) := by
  unfold syncL
  rw [if_neg (by rw [hd]; decide), next_of]
  by_cases hs : safe = gs.flatten.length
  · rw [if_pos (by simp only; omega)]
    refine ⟨rfl, rfl, rfl, .inr ⟨rfl, hd, id, by rw [hs], hs ▸ h⟩⟩
  rw [if_neg (by simp only; omega)]
  rcases List.eq_nil_or_concat gs with rfl | ⟨hs', g, rfl⟩
  · have := h.total
    simp at this hs; omega
  rw [List.concat_eq_append] at h hs ⊢
  have hgl : (hs' ++ [g])[hs'.length]? = some g := by simp
  obtain ⟨f, f1, f2, f3⟩ := h.files hs'.length g hgl
  rw [cur_of]
  simp only [Option.map_some, Option.getD_some]
  rcases sync_or h.inv hd f1 with hx | hx
  · obtain ⟨y1, y2, y3, y4⟩ := h.fails hx
    rw [if_pos (by rw [y1]; decide)]
    refine ⟨y3, ?_, ?_, .inl ⟨y1, hx.1, y2, rfl, y4⟩⟩
    · rw [hx.2]
    · rw [hx.2]
  · rw [if_neg (by rw [hx.err]; decide)]
    have hat := (getF_at h.inv.sorted f1).2
    refine ⟨hx.room, ?_, ?_, .inr ⟨rfl, hx.down.trans hd, hx.armed, rfl, ⟨sync_inv h.inv _, fun i g' hg' => ?_, h.small, fun f' hf' hm => ?_, h.few, ?_, ?_, Nat.le_refl _, fun gs' g' e => ?_⟩⟩⟩
    · rw [hx.files]; exact set_same hat rfl
    · rw [hx.files, List.length_set]
    · rw [hx.files, getF_set (g := ⟨f.nm, f.b, (f.b.length : Int)⟩) h.inv.sorted hat rfl, getF_key f1]
      by_cases e : i = hs'.length
      · subst e
        obtain rfl : g' = g := by simpa using hg'.symm
        refine ⟨_, if_pos rfl, f2, ?_⟩
        simp only
        rw [f2, List.take_of_length_le]
        simp only [List.take_left, List.flatten_append, List.flatten_cons, List.flatten_nil, List.append_nil, List.length_append]
        omega
      · rw [if_neg (fun k => e (by have := fK_inj (by omega) (by omega) k; omega))]
        obtain ⟨f', e1, e2, e3⟩ := h.files i g' hg'
        refine ⟨f', e1, e2, ?_⟩
        have hlt : i < hs'.length := by
          have := (List.getElem?_eq_some_iff.1 hg').1
          simp at this; omega
        have he := earlier2 (gl := g) (by rw [List.getElem?_append_left hlt] at hg'; exact hg')
        have hl := h.last hs' g rfl
        rw [e3, List.take_of_length_le (by omega), List.take_of_length_le]
        have := take_flat_len (hs' ++ [g]) hs'.length
        simp only [List.take_left] at this
        omega
    · rw [hx.files] at hf'
      obtain ⟨y, hy, e⟩ := set_names hat (g := { f with sy := (f.b.length : Int) }) rfl f' hf'
      obtain ⟨i, hi, k⟩ := h.mine y hy (by rw [e]; exact hm)
      refine ⟨i, hi, ?_⟩
      simp only [DF.key] at k ⊢
      rw [← e]; exact k
    · rw [hx.files, getF_set (g := ⟨f.nm, f.b, (f.b.length : Int)⟩) h.inv.sorted hat rfl, getF_key f1, if_neg (fun k => fK_head _ k.symm)]; exact h.head
    · rw [hx.files, getF_set (g := ⟨f.nm, f.b, (f.b.length : Int)⟩) h.inv.sorted hat rfl, getF_key f1, if_neg (fun k => fK_new _ k.symm)]; exact h.new
    · rw [e, List.flatten_append, List.length_append]; omega

structure AppR (m : DM) (gs : List (List (List UInt8))) (safe : Nat) (p : List UInt8) (x : DM × LM × Int × Int) : Prop where
  room : x.1.room = m.room
  or : (x.2.2.2 ≠ 0 ∧ x.2.2.1 = 0 ∧ usedN x.1.fs = usedN m.fs ∧ x.1.fs.length = m.fs.length ∧ (∃ safe', safe ≤ safe' ∧ x.2.1 = logOf gs safe' ∧ Rel x.1 gs safe') ∧
      ((x.2.2.2 = 10 ∧ m.armed = true ∧ x.1.down = true) ∨ (x.2.2.2 = 9 ∧ x.1.down = false ∧ (m.armed = false → x.1.armed = false) ∧ (m.fs.length = 64 ∨ (6 + p.length : Int) > m.room - usedN m.fs)))) ∨
    (x.2.2.2 = 0 ∧ x.2.2.1 = gs.flatten.length ∧ x.1.down = false ∧ (m.armed = false → x.1.armed = false) ∧ usedN x.1.fs = usedN m.fs + 6 + p.length ∧
      ∃ gs' safe', safe ≤ safe' ∧ gs'.flatten = gs.flatten ++ [p] ∧ x.2.1 = logOf gs' safe' ∧ Rel x.1 gs' safe')

theorem mine_app {fs : List DF} (hs : Sorted fs) (nm : ByteArray) (b : List UInt8) : Sorted (appFs fs nm b) → ∀ f ∈ appFs fs nm b, (∃ g ∈ fs, g.nm = f.nm) ∨ f.nm = nm := by
  intro hs' f hf
  have h := (getF_iff hs').2 ⟨hf, rfl⟩
  rw [getF_app hs] at h
  split at h
  · rename_i e; exact .inr (ba_toList_inj e)
  · exact .inl ⟨f, getF_mem h, rfl⟩

/-- The bytes are appended to the last segment's file. -/
theorem Rel.append_on {m : DM} {hs : List (List (List UInt8))} {g : List (List UInt8)} {safe : Nat} (h : Rel m (hs ++ [g]) safe) {p : List UInt8} (hp : p.length ≤ 1024) {m' : DM} (hI : DInv m')
    (hfs : m'.fs = appFs m.fs (fN ((hs.length + 1 : Nat) : Int)) (frameN p)) : Rel m' (hs ++ [g ++ [p]]) safe := by
  have hgl : (hs ++ [g])[hs.length]? = some g := by simp
  obtain ⟨f, f1, f2, f3⟩ := h.files hs.length g hgl
  have hsafe := h.total
  have hlast := h.last hs g rfl
  simp only [List.take_left] at f3
  have hg : ∀ k, getF m'.fs k = if k = fK ((hs.length + 1 : Nat) : Int) then some { f with b := f.b ++ frameN p } else getF m.fs k := fun k => by
    rw [hfs, getF_app h.inv.sorted, f1]; rfl
  refine ⟨hI, fun i g' hg' => ?_, fun g' hg' => ?_, fun f' hf' hm => ?_, ?_, ?_, ?_, ?_, fun gs' g' e => ?_⟩
  · rw [hg]
    by_cases e : i = hs.length
    · subst e
      obtain rfl : g' = g ++ [p] := by simpa using hg'.symm
      refine ⟨_, if_pos rfl, by simp only [f2, catF_snoc], ?_⟩
      simp only [List.take_left]
      rw [f3, List.take_append_of_le_length]
      simp only [List.flatten_append, List.flatten_cons, List.flatten_nil, List.append_nil, List.length_append] at hsafe; omega
    · rw [if_neg (fun k => e (by have := fK_inj (by omega) (by omega) k; omega))]
      have hlt : i < hs.length := by
        have := (List.getElem?_eq_some_iff.1 hg').1
        simp at this; omega
      rw [List.getElem?_append_left hlt] at hg'
      obtain ⟨f', e1, e2, e3⟩ := h.files i g' (by rw [List.getElem?_append_left hlt]; exact hg')
      refine ⟨f', e1, e2, ?_⟩
      rw [e3, List.take_append_of_le_length (by omega), List.take_append_of_le_length (by omega)]
  · rcases List.mem_append.1 hg' with hg' | hg'
    · exact h.small g' (by simp [hg'])
    · obtain rfl : g' = g ++ [p] := by simpa using hg'
      intro q hq
      rcases List.mem_append.1 hq with hq | hq
      · exact h.small g (by simp) q hq
      · obtain rfl : q = p := by simpa using hq
        exact hp
  · have hs' := hI.sorted
    rw [hfs] at hf' hs'
    rcases mine_app h.inv.sorted _ _ hs' f' hf' with ⟨y, hy, e⟩ | e
    · obtain ⟨i, hi, k⟩ := h.mine y hy (by rw [e]; exact hm)
      refine ⟨i, by simpa using hi, ?_⟩
      simp only [DF.key] at k ⊢
      rw [← e]; exact k
    · exact ⟨hs.length, by simp, by simp only [DF.key]; rw [e]⟩
  · have := h.few; simpa using this
  · rw [hg, if_neg (fun k => fK_head _ k.symm)]; exact h.head
  · rw [hg, if_neg (fun k => fK_new _ k.symm)]; exact h.new
  · simp only [List.flatten_append, List.flatten_cons, List.flatten_nil, List.append_nil, List.length_append] at hsafe ⊢; simp only [List.length_cons, List.length_nil]; omega
  · have := List.append_inj' e rfl
    rw [← this.1]; exact hlast

/-- .. to a new one's. -/
theorem Rel.append_new {m : DM} {gs : List (List (List UInt8))} (h : Rel m gs gs.flatten.length) {p : List UInt8} (hp : p.length ≤ 1024) {m' : DM} (hI : DInv m')
    (hfs : m'.fs = appFs m.fs (fN ((gs.length + 1 : Nat) : Int)) (frameN p)) : Rel m' (gs ++ [[p]]) gs.flatten.length := by
  have hno : getF m.fs (fK ((gs.length + 1 : Nat) : Int)) = none := by
    refine getF_none.2 fun f hf hk => ?_
    have hfew := h.few
    obtain ⟨i, hi, e⟩ := h.mine f hf (by rw [isFile_key hk]; exact fN_isFile (by omega) (by omega))
    have := fK_inj (by omega) (by omega) (hk.symm.trans e)
    omega
  have hg : ∀ k, getF m'.fs k = if k = fK ((gs.length + 1 : Nat) : Int) then some ⟨fN ((gs.length + 1 : Nat) : Int), frameN p, 0⟩ else getF m.fs k := fun k => by
    rw [hfs, getF_app h.inv.sorted, hno]; rfl
  have hfiles : ∀ (i : Nat) (g' : List (List UInt8)), (gs ++ [[p]])[i]? = some g' → ∃ f, getF m'.fs (fK ((i + 1 : Nat) : Int)) = some f ∧ f.b = catF g' ∧ f.sy = (catF (g'.take (gs.flatten.length - ((gs ++ [[p]]).take i).flatten.length))).length := fun i g' hg' => by
    rw [hg]
    by_cases e : i = gs.length
    · subst e
      obtain rfl : g' = [p] := by simpa using hg'.symm
      refine ⟨_, if_pos rfl, by simp [catF], ?_⟩
      simp [List.take_left, catF]
    · rw [if_neg (fun k => e (by have := fK_inj (by omega) (by omega) k; omega))]
      have hlt : i < gs.length := by
        have := (List.getElem?_eq_some_iff.1 hg').1
        simp at this; omega
      rw [List.getElem?_append_left hlt] at hg'
      obtain ⟨f', e1, e2, e3⟩ := h.files i g' hg'
      refine ⟨f', e1, e2, ?_⟩
      rw [e3, List.take_append_of_le_length (by omega)]
  refine ⟨hI, hfiles, fun g' hg' => ?_, fun f' hf' hm => ?_, ?_, ?_, ?_, ?_, fun gs' g' e => ?_⟩
  · rcases List.mem_append.1 hg' with hg' | hg'
    · exact h.small g' hg'
    · obtain rfl : g' = [p] := by simpa using hg'
      intro q hq
      obtain rfl : q = p := by simpa using hq
      exact hp
  · have hs' := hI.sorted
    rw [hfs] at hf' hs'
    rcases mine_app h.inv.sorted _ _ hs' f' hf' with ⟨y, hy, e⟩ | e
    · obtain ⟨i, hi, k⟩ := h.mine y hy (by rw [e]; exact hm)
      refine ⟨i, by simp; omega, ?_⟩
      simp only [DF.key] at k ⊢
      rw [← e]; exact k
    · exact ⟨gs.length, by simp, by simp only [DF.key]; rw [e]⟩
  · have := keys_few (fs := m'.fs) (n := (gs ++ [[p]]).length) fun i hi => by
      obtain ⟨f, hf, _⟩ := hfiles i _ (List.getElem?_eq_getElem hi)
      rw [hf]; rfl
    have := hI.len
    omega
  · rw [hg, if_neg (fun k => fK_head _ k.symm)]; exact h.head
  · rw [hg, if_neg (fun k => fK_new _ k.symm)]; exact h.new
  · simp
  · have := List.append_inj' e rfl
    rw [← this.1]; exact Nat.le_refl _

theorem full_of {hs : List (List (List UInt8))} {g : List (List UInt8)} {safe : Int} : (logOf (hs ++ [g]) safe).full = decide (((catF g).length : Int) ≥ 1024) ∧ (logOf (hs ++ [g]) safe).curN = ((hs.length + 1 : Nat) : Int) := by
  unfold LM.full LM.curN
  rw [cur_of]
  exact ⟨rfl, rfl⟩
theorem add_new (gs : List (List (List UInt8))) (p : List UInt8) : addL (segsFrom 1 0 gs ++ [⟨((gs.length + 1 : Nat) : Int), (gs.flatten.length : Int), 0, []⟩]) p = segsFrom 1 0 (gs ++ [[p]]) := by
  unfold addL
  rw [List.getLast?_concat, segsFrom_app]
  simp only [List.dropLast_concat, segsFrom, List.append_cancel_left_eq, List.cons.injEq, Sg.mk.injEq, and_true, List.nil_append]
  refine ⟨by omega, by omega, ?_⟩
  simp [catF]
theorem add_on (hs : List (List (List UInt8))) (g : List (List UInt8)) (p : List UInt8) : addL (segsFrom 1 0 (hs ++ [g])) p = segsFrom 1 0 (hs ++ [g ++ [p]]) := by
  unfold addL
  rw [segsFrom_last, segsFrom_app, segsFrom_app]
  simp only [segsFrom, List.dropLast_concat, List.append_cancel_left_eq, List.cons.injEq, Sg.mk.injEq, and_true, true_and]
  rw [catF_snoc, List.length_append]; omega

theorem Rel.append {m : DM} {gs : List (List (List UInt8))} {safe : Nat} (h : Rel m gs safe) (hd : m.down = false) {p : List UInt8} (hp : p.length ≤ 1024) (ht : gs.flatten.length < 1000000) : AppR m gs safe p (appendL m (logOf gs safe) p) := by
  have hfew := h.few
  have hfl := frame_len p
  -- a new segment
  have mk : ∀ (m0 : DM) (safe0 : Nat), safe ≤ safe0 → Rel m0 gs gs.flatten.length → safe0 = gs.flatten.length → m0.down = false → m0.room = m.room → usedN m0.fs = usedN m.fs → m0.fs.length = m.fs.length → (m.armed = false → m0.armed = false) → (m0.armed = true → m.armed = true) →
      AppR m gs safe p (if (appendM m0 (fN ((gs.length + 1 : Nat) : Int)) (frameN p)).2 ≠ 0 then ((appendM m0 (fN ((gs.length + 1 : Nat) : Int)) (frameN p)).1, logOf gs safe0, 0, (appendM m0 (fN ((gs.length + 1 : Nat) : Int)) (frameN p)).2)
        else ((appendM m0 (fN ((gs.length + 1 : Nat) : Int)) (frameN p)).1, { logOf gs safe0 with segs := addL (segsFrom 1 0 gs ++ [⟨((gs.length + 1 : Nat) : Int), (gs.flatten.length : Int), 0, []⟩]) p }, (gs.flatten.length : Int), 0)) := by
    intro m0 safe0 hle hR hsf hd0 hr0 hu0 hl0 ha0 ha1
    subst hsf
    rcases append_or (nm := fN ((gs.length + 1 : Nat) : Int)) (b := frameN p) hR.inv (fN_named (by omega) (by omega)) hd0 with ⟨e, why⟩ | hx | ⟨hx, h1, h2⟩
    · rw [if_pos (by rw [e]; simp), e]
      refine ⟨hr0, .inl ⟨by simp, rfl, hu0, hl0, ⟨_, hle, rfl, hR⟩, .inr ⟨rfl, hd0, ha0, ?_⟩⟩⟩
      rcases why with ⟨_, e⟩ | e
      · exact .inl (by omega)
      · exact .inr (by rw [hr0, hu0] at e; omega)
    · obtain ⟨y1, y2, y3, y4⟩ := hR.fails hx
      rw [if_pos (by rw [y1]; decide)]
      refine ⟨y3.trans hr0, .inl ⟨by rw [y1]; simp, rfl, ?_, ?_, ⟨_, hle, rfl, y4⟩, .inl ⟨y1, ha1 hx.1, y2⟩⟩⟩
      · rw [hx.2]; exact hu0
      · rw [hx.2]; exact hl0
    · rw [if_neg (by rw [hx.err]; decide), add_new]
      refine ⟨hx.room.trans hr0, .inr ⟨rfl, rfl, hx.down.trans hd0, fun ha => hx.armed (ha0 ha), ?_, gs ++ [[p]], gs.flatten.length, hle, by simp, rfl, hR.append_new hp (append_inv hR.inv _ _) hx.files⟩⟩
      simp only
      rw [hx.files, used_app hR.inv.sorted, hu0]; omega
  unfold appendL
  rw [if_neg (by rw [hd]; decide), if_neg (by omega), next_of]
  rcases List.eq_nil_or_concat gs with rfl | ⟨hs, g, rfl⟩
  · have h0 : safe = 0 := by have := h.total; simpa using this
    subst h0
    rw [if_neg (by simp [LM.full, LM.cur, segsFrom])]
    have e1 : (logOf [] ((0 : Nat) : Int)).full = false := rfl
    have e2 : (logOf [] ((0 : Nat) : Int)).curN = 1 := rfl
    rw [e1, e2]
    simp only [Bool.false_eq_true, if_false, segsFrom, true_or, if_true, ne_eq, not_true_eq_false]
    exact mk m 0 (Nat.le_refl _) h rfl hd rfl rfl rfl id id
  rw [List.concat_eq_append] at h mk hfew ht ⊢
  obtain ⟨e1, e2⟩ := full_of (hs := hs) (g := g) (safe := safe)
  rw [e1, e2]
  have hne : ¬ (segsFrom 1 0 (hs ++ [g]) = []) := by
    intro e
    have := congrArg List.length e
    rw [segsFrom_len] at this
    simp at this
  rw [if_neg (by simp only [List.length_append, List.length_singleton] at hfew; simp only [lastN]; rintro (h | ⟨_, h⟩) <;> omega)]
  by_cases hf : ((catF g).length : Int) ≥ 1024
  · rw [decide_eq_true hf]
    simp only [if_true, or_true]
    have hsy := h.sync hd
    rcases hsy.or with ⟨a1, a2, a3, a4, a5⟩ | ⟨a1, a2, a3, a4, a5⟩
    · rw [if_pos (by rw [a1]; decide)]
      exact ⟨hsy.room, .inl ⟨by rw [a1]; simp, rfl, hsy.used, hsy.len, ⟨safe, Nat.le_refl _, a4, a5⟩, .inl ⟨a1, a2, a3⟩⟩⟩
    · rw [if_neg (by rw [a1]; decide), a4]
      have := mk _ (hs ++ [g]).flatten.length h.total a5 rfl a2 hsy.room hsy.used hsy.len a3 (fun ha => by
        cases hm : m.armed with
        | true => rfl
        | false => rw [a3 hm] at ha; cases ha)
      have e3 : (((hs ++ [g]).length + 1 : Nat) : Int) = ((hs.length + 1 : Nat) : Int) + 1 := by simp
      rw [e3] at this
      exact this
  · rw [decide_eq_false hf]
    simp only [Bool.false_eq_true, if_false, or_false, hne, ne_eq, not_true_eq_false]
    simp at hfew
    rcases append_or (nm := fN ((hs.length + 1 : Nat) : Int)) (b := frameN p) h.inv (fN_named (by omega) (by omega)) hd with ⟨e, why⟩ | hx | ⟨hx, h1, h2⟩
    · rw [e]
      refine ⟨rfl, .inl ⟨by simp, rfl, rfl, rfl, ⟨_, Nat.le_refl _, rfl, h⟩, .inr ⟨rfl, hd, id, ?_⟩⟩⟩
      rcases why with ⟨_, e⟩ | e
      · exact .inl e
      · exact .inr (by omega)
    · obtain ⟨y1, y2, y3, y4⟩ := h.fails hx
      rw [if_pos (by rw [y1]; decide)]
      refine ⟨y3, .inl ⟨by rw [y1]; simp, rfl, ?_, ?_, ⟨_, Nat.le_refl _, rfl, y4⟩, .inl ⟨y1, hx.1, y2⟩⟩⟩
      · rw [hx.2]
      · rw [hx.2]
    · rw [if_neg (by rw [hx.err]; decide), add_on]
      refine ⟨hx.room, .inr ⟨rfl, rfl, hx.down.trans hd, hx.armed, ?_, hs ++ [g ++ [p]], safe, Nat.le_refl _, by simp, rfl, h.append_on hp (append_inv h.inv _ _) hx.files⟩⟩
      simp only
      rw [hx.files, used_app h.inv.sorted]; omega

end Go.Cx

namespace Go.Cx
open Go Go.Cf
set_option linter.unusedVariables false
set_option maxRecDepth 100000

/-- What is so of every log. -/
structure LInv (l : LM) : Prop where
  n : 1 ≤ l.n ∧ l.n ≤ 2000000000000
  first : 0 ≤ l.first ∧ l.first ≤ 2199023255552
  segs : ∀ s ∈ l.segs, (1 ≤ s.n ∧ s.n ≤ 2000000000000) ∧ (0 ≤ s.first ∧ s.first ≤ 2199023255552) ∧ (0 ≤ s.size ∧ s.size ≤ 16777216) ∧ (s.ps.length : Int) ≤ s.size ∧ ∀ p ∈ s.ps, p.length ≤ 1024
  few : l.segs.length ≤ 64
  safe : 0 ≤ l.safe ∧ l.safe ≤ 4398046511104
  chain : ∀ (k : Nat) s s', l.segs[k]? = some s → l.segs[k + 1]? = some s' → s'.first = s.next

theorem LInv.next {l : LM} (h : LInv l) : 0 ≤ l.next ∧ l.next ≤ 4000000000000 := by
  unfold LM.next LM.cur
  cases e : l.segs.getLast? with
  | none => have := h.first; simp only; omega
  | some s =>
    obtain ⟨h1, h2, h3, h4, _⟩ := h.segs s (List.mem_of_getLast? e)
    simp only [Sg.next]; omega

/-! Which files there are. -/
theorem set_some {fs : List DF} (hs : Sorted fs) {i : Nat} {f g : DF} (hf : fs[i]? = some f) (hk : g.key = f.key) (k : Key) : (getF (fs.set i g) k).isSome = (getF fs k).isSome := by
  rw [getF_set hs hf hk]
  split
  · rename_i e
    rw [e, (getF_iff hs).2 ⟨List.mem_of_getElem? hf, rfl⟩]; rfl
  · rfl
theorem on_some {m : DM} {nm : ByteArray} {g : Nat → DF → DM → DM × Int} (hI : DInv m) (h : ∀ i f, m.fs[i]? = some f → ∀ k, (getF (g i f m).1.fs k).isSome = (getF m.fs k).isSome) (k : Key) : (getF (onFile m nm g).1.fs k).isSome = (getF m.fs k).isSome := by
  unfold onFile
  split
  · rfl
  split
  · rfl
  · rename_i ht
    exact h _ _ (getD_there (by simpa using ht)).1 k
theorem spent_some {m : DM} {φ : List DF → List DF} (h : ∀ k, (getF (φ m.fs) k).isSome = (getF m.fs k).isSome) (k : Key) : (getF (spent m fun m => { m with fs := φ m.fs }).1.fs k).isSome = (getF m.fs k).isSome := by
  rcases spent_or m φ with hx | hx
  · rw [hx.2]
  · rw [hx.files]; exact h k
theorem sync_some {m : DM} (hI : DInv m) (nm : ByteArray) (k : Key) : (getF (syncM m nm).1.fs k).isSome = (getF m.fs k).isSome :=
  on_some hI (fun i f hf k => spent_some (φ := fun fs => fs.set i { f with sy := f.b.length }) (fun k => set_some (g := ⟨f.nm, f.b, (f.b.length : Int)⟩) hI.sorted hf rfl k) k) k
theorem trunc_some {m : DM} (hI : DInv m) (nm : ByteArray) (n : Int) (k : Key) : (getF (truncM m nm n).1.fs k).isSome = (getF m.fs k).isSome := by
  refine on_some hI (fun i f hf k => ?_) k
  split
  · rfl
  · exact spent_some (φ := fun fs => fs.set i { f with b := f.b.take n.toNat, sy := if n < f.sy then n else f.sy }) (fun k => set_some (g := ⟨f.nm, f.b.take n.toNat, if n < f.sy then n else f.sy⟩) hI.sorted hf rfl k) k
theorem mend_inv {m : DM} (hI : DInv m) (n : Int) : DInv (mendM m n).1 := by
  unfold mendM
  simp only
  generalize ht : (if (scanN (readM m (fN n)).1).2 < (readM m (fN n)).1.length then truncM m (fN n) (scanN (readM m (fN n)).1).2 else (m, 0)) = t
  have hT : DInv t.1 := by
    rw [← ht]
    split
    · exact trunc_inv hI _ _
    · exact hI
  split
  · exact hT
  · exact sync_inv hT _
theorem mend_some {m : DM} (hI : DInv m) (n : Int) (k : Key) : (getF (mendM m n).1.fs k).isSome = (getF m.fs k).isSome := by
  unfold mendM
  simp only
  generalize ht : (if (scanN (readM m (fN n)).1).2 < (readM m (fN n)).1.length then truncM m (fN n) (scanN (readM m (fN n)).1).2 else (m, 0)) = t
  have hT : DInv t.1 ∧ (getF t.1.fs k).isSome = (getF m.fs k).isSome := by
    rw [← ht]
    split
    · exact ⟨trunc_inv hI _ _, trunc_some hI _ _ k⟩
    · exact ⟨hI, rfl⟩
  split
  · exact hT.2
  · rw [sync_some hT.1]; exact hT.2

theorem used_ge {fs : List DF} {f : DF} (h : f ∈ fs) : f.b.length ≤ usedN fs := by
  obtain ⟨i, hi⟩ := List.mem_iff_getElem?.1 h
  have := usedN_erase hi
  omega
theorem read_len {m : DM} (hI : DInv m) (nm : ByteArray) : (readM m nm).1.length ≤ 16777216 := by
  cases h : getF m.fs nm.toList with
  | none => rw [read_none hI h]; simp
  | some f =>
    rw [read_some hI h]
    have := used_ge (getF_mem h)
    have := hI.used
    have := hI.room
    simp only; omega
theorem read_some' {m : DM} (hI : DInv m) {nm : ByteArray} (h : (readM m nm).2 = 0) : (getF m.fs nm.toList).isSome = true := by
  cases e : getF m.fs nm.toList with
  | none => rw [read_none hI e] at h; cases h
  | some f => rfl
theorem scan_count : ∀ (n : Nat) (b : List UInt8), b.length ≤ n → (scanN b).1.length ≤ (scanN b).2
  | 0, b, h => by
    have hb : b = [] := List.eq_nil_of_length_eq_zero (by omega)
    subst hb
    rw [scan_no (by decide)]; simp
  | n + 1, b, h => by
    by_cases hg : (getN b).2.2 = 0
    · obtain ⟨a1, a2, a3, a4, _⟩ := getN_ok hg
      have hd : (b.drop (getN b).2.1).length = b.length - (getN b).2.1 := List.length_drop
      have := scan_count n (b.drop (getN b).2.1) (by omega)
      rw [scan_ok hg]
      simp only [List.length_cons]; omega
    · rw [scan_no hg]; simp

/-- A log that is being read. -/
structure ReadI (n0 f0 : Int) (m : DM) (l : LM) : Prop where
  inv : DInv m
  n : l.n = n0
  first : l.first = f0
  safe : l.safe = 0
  segs : ∀ (j : Nat) s, l.segs[j]? = some s → s.n = n0 + j ∧ (getF m.fs (fK s.n)).isSome = true ∧ (0 ≤ s.first ∧ s.first ≤ 1099511627776 + 16777216 * (j : Int)) ∧ (0 ≤ s.size ∧ s.size ≤ 16777216) ∧ (s.ps.length : Int) ≤ s.size ∧ ∀ p ∈ s.ps, p.length ≤ 1024
  next : 0 ≤ l.next ∧ l.next ≤ 1099511627776 + 16777216 * (l.segs.length : Int)
  chain : ∀ (k : Nat) s s', l.segs[k]? = some s → l.segs[k + 1]? = some s' → s'.first = s.next

theorem next_snoc (l : LM) (s : Sg) : ({ l with segs := l.segs ++ [s] } : LM).next = s.next := by
  unfold LM.next LM.cur
  simp
theorem getLast_get {α : Type} {l : List α} {x : α} (h : l.getLast? = some x) : l[l.length - 1]? = some x := by
  rw [List.getLast?_eq_getElem?] at h; exact h

theorem next_of_last {l : LM} {s : Sg} (h : l.segs[l.segs.length - 1]? = some s) : l.next = s.next := by
  unfold LM.next LM.cur
  rw [List.getLast?_eq_getElem?, h]
theorem chain_snoc {l : LM} {x : Sg} (h : ∀ (k : Nat) s s', l.segs[k]? = some s → l.segs[k + 1]? = some s' → s'.first = s.next) (hx : x.first = l.next) :
    ∀ (k : Nat) s s', (l.segs ++ [x])[k]? = some s → (l.segs ++ [x])[k + 1]? = some s' → s'.first = s.next := by
  intro k s s' h1 h2
  have hk := (List.getElem?_eq_some_iff.1 h2).1
  simp at hk
  rw [List.getElem?_append_left hk] at h1
  by_cases e : k + 1 < l.segs.length
  · rw [List.getElem?_append_left e] at h2
    exact h k s s' h1 h2
  · have : k + 1 = l.segs.length := by omega
    rw [List.getElem?_append_right (by omega), this, Nat.sub_self] at h2
    have h2 := Option.some.inj h2
    subst h2
    rw [hx, next_of_last (by rw [← this]; exact h1)]

theorem ReadI.start {n0 f0 : Int} {m : DM} (hI : DInv m) (hf : 0 ≤ f0 ∧ f0 ≤ 1099511627776) : ReadI n0 f0 m ⟨n0, f0, [], 0⟩ :=
  ⟨hI, rfl, rfl, rfl, fun j s h => by simp at h, by show 0 ≤ f0 ∧ f0 ≤ _; simp; omega, fun k s s' h => by simp at h⟩
theorem keys_few' {fs : List DF} {n0 : Nat} (h0 : 1 ≤ n0) {n : Nat} (h : ∀ i, i < n → (getF fs (fK ((n0 + i : Nat) : Int))).isSome = true) : n ≤ fs.length := by
  have := nodup_sub_len (l := (List.range n).map fun i => fK ((n0 + i : Nat) : Int)) (m := fs.map DF.key) (by
    refine List.pairwise_map.2 ?_
    exact List.nodup_range.imp fun {a b} hab e => hab (by have := fK_inj (by omega) (by omega) e; omega)) (fun x hx => by
    obtain ⟨i, hi, rfl⟩ := List.mem_map.1 hx
    have := h i (List.mem_range.1 hi)
    obtain ⟨f, hf⟩ := Option.isSome_iff_exists.1 this
    exact List.mem_map.2 ⟨f, getF_mem hf, getF_key hf⟩)
  simpa using this
theorem ReadI.few {n0 f0 : Int} {m : DM} {l : LM} (h : ReadI n0 f0 m l) (h0 : 1 ≤ n0) : l.segs.length ≤ 64 := by
  obtain ⟨k, hk⟩ := Int.eq_ofNat_of_zero_le (show 0 ≤ n0 by omega)
  subst hk
  have := keys_few' (fs := m.fs) (n0 := k) (by omega) (n := l.segs.length) fun i hi => by
    obtain ⟨e, h2, _⟩ := h.segs i _ (List.getElem?_eq_getElem hi)
    rw [e] at h2
    exact h2
  have := h.inv.len
  omega
theorem ReadI.more {n0 f0 : Int} {m : DM} {l : LM} (h : ReadI n0 f0 m l) (h0 : 1 ≤ n0) (hr : (readM m (fN (n0 + l.segs.length))).2 = 0) :
    ReadI n0 f0 (mendM m (n0 + l.segs.length)).1 { l with segs := l.segs ++ [⟨n0 + l.segs.length, l.next, (scanN (readM m (fN (n0 + l.segs.length))).1).2, (scanN (readM m (fN (n0 + l.segs.length))).1).1⟩] } := by
  have hlen := read_len h.inv (fN (n0 + l.segs.length))
  obtain ⟨u1, u2, u3⟩ := scan_used _ (readM m (fN (n0 + l.segs.length))).1 (Nat.le_refl _)
  have u4 := scan_count _ (readM m (fN (n0 + l.segs.length))).1 (Nat.le_refl _)
  refine ⟨mend_inv h.inv _, h.n, h.first, h.safe, fun j s hs => ?_, ?_, chain_snoc h.chain rfl⟩
  · by_cases hj : j < l.segs.length
    · rw [List.getElem?_append_left hj] at hs
      obtain ⟨a1, a2, a3⟩ := h.segs j s hs
      exact ⟨a1, by rw [mend_some h.inv]; exact a2, a3⟩
    · have hl := (List.getElem?_eq_some_iff.1 hs).1
      simp at hl
      obtain rfl : j = l.segs.length := by omega
      rw [List.getElem?_append_right (Nat.le_refl _), Nat.sub_self] at hs
      have hs := Option.some.inj hs
      subst hs
      have := h.next
      refine ⟨rfl, by rw [mend_some h.inv]; exact read_some' h.inv hr, by simp only; omega, by simp only; omega, by simp only; omega, fun p hp => u3 p hp⟩
  · rw [next_snoc]
    have := h.next
    simp only [Sg.next, List.length_append, List.length_singleton]
    omega
theorem ReadI.linv {n0 f0 : Int} {m : DM} {l : LM} (h : ReadI n0 f0 m l) (h0 : 1 ≤ n0 ∧ n0 ≤ 999999999999) (hf : 0 ≤ f0 ∧ f0 ≤ 1099511627776) : LInv l := by
  have hfew := h.few h0.1
  refine ⟨by rw [h.n]; omega, by rw [h.first]; omega, fun s hs => ?_, hfew, by rw [h.safe]; omega, h.chain⟩
  obtain ⟨j, hj⟩ := List.mem_iff_getElem?.1 hs
  obtain ⟨a1, a2, a3, a4, a5, a6⟩ := h.segs j s hj
  have := (List.getElem?_eq_some_iff.1 hj).1
  exact ⟨by omega, by omega, a4, a5, a6⟩
theorem head_bounds (m : DM) (h : (headM m).2.2 = 0) : (1 ≤ (headM m).1 ∧ (headM m).1 ≤ 999999999999) ∧ (0 ≤ (headM m).2.1 ∧ (headM m).2.1 ≤ 1099511627776) := by
  unfold headM at h ⊢
  split
  · exact ⟨by decide, by decide⟩
  rename_i h1
  rw [if_neg h1] at h
  simp only at h ⊢
  split
  · rename_i h2; rw [if_pos h2] at h; cases h
  rename_i h2
  rw [if_neg h2] at h
  split
  · rename_i h3; rw [if_pos h3] at h; cases h
  · rename_i h3
    simp only
    omega

end Go.Cx

namespace Go.Cx
open Go Go.Cf
set_option linter.unusedVariables false
set_option maxRecDepth 100000

theorem catF_count : ∀ H : List (List UInt8), H.length ≤ (catF H).length
  | [] => by simp [catF]
  | p :: H => by
    have := catF_count H
    rw [catF_cons, List.length_append, frame_len, List.length_cons]; omega
theorem Rel.linv {m : DM} {gs : List (List (List UInt8))} {safe : Nat} (h : Rel m gs safe) (hl : gs.flatten.length ≤ 1000000) : LInv (logOf gs safe) := by
  have hfew := h.few
  have htot := h.total
  refine ⟨by simp, by simp, fun s hs => ?_, by rw [segsFrom_len]; exact hfew, by simp only; omega, fun k s s' h1 h2 => ?_⟩
  · obtain ⟨i, hi⟩ := List.mem_iff_getElem?.1 hs
    have hlt := (List.getElem?_eq_some_iff.1 hi).1
    rw [segsFrom_len] at hlt
    have hg : gs[i]? = some gs[i] := List.getElem?_eq_getElem hlt
    rw [segsFrom_get (n := 1) (f := 0) hg] at hi
    obtain rfl := Option.some.inj hi
    obtain ⟨f, h1, h2, h3⟩ := h.files i _ hg
    have hu := used_ge (getF_mem h1)
    have hus := h.inv.used
    have hr := h.inv.room
    have hc := catF_count gs[i]
    have htk := take_flat_len gs i
    rw [h2] at hu
    exact ⟨by simp only; omega, by simp only; omega, by simp only; omega, by simp only; omega, h.small _ (List.mem_of_getElem? hg)⟩
  · have hlt := (List.getElem?_eq_some_iff.1 h2).1
    rw [segsFrom_len] at hlt
    have hg : gs[k]? = some gs[k] := List.getElem?_eq_getElem (by omega)
    have hg' : gs[k + 1]? = some gs[k + 1] := List.getElem?_eq_getElem hlt
    rw [segsFrom_get (n := 1) (f := 0) hg] at h1
    rw [segsFrom_get (n := 1) (f := 0) hg'] at h2
    obtain rfl := Option.some.inj h1
    obtain rfl := Option.some.inj h2
    simp only [Sg.next]
    rw [List.take_add_one, hg]
    simp only [Option.toList_some, List.flatten_append, List.flatten_cons, List.flatten_nil, List.append_nil, List.length_append]
    omega
theorem Rel.calm {m : DM} {gs : List (List (List UInt8))} {safe : Nat} (h : Rel m gs safe) : (logOf gs safe).segs = [] → (logOf gs safe).safe = (logOf gs safe).next := by
  intro e
  rw [next_of]
  have : gs = [] := List.eq_nil_of_length_eq_zero (by rw [← segsFrom_len gs 1 0]; rw [show segsFrom 1 0 gs = [] from e]; rfl)
  subst this
  have := h.total
  simp at this ⊢
  exact this

/-! A step. -/
theorem Rel.step {m : DM} {gs : List (List (List UInt8))} {safe : Nat} (h : Rel m gs safe) (p : List UInt8) (ht : gs.flatten.length < 1000000) :
    ∃ (gs' : List (List (List UInt8))) (safe' : Nat), (appendL m (logOf gs safe) p).2.1 = logOf gs' safe' ∧ Rel (appendL m (logOf gs safe) p).1 gs' safe' ∧ safe ≤ safe' ∧ (appendL m (logOf gs safe) p).1.room = m.room ∧
      (m.armed = false → m.down = false → (appendL m (logOf gs safe) p).1.armed = false ∧ (appendL m (logOf gs safe) p).1.down = false) ∧
      (((appendL m (logOf gs safe) p).2.2.2 = 0 ∧ (appendL m (logOf gs safe) p).2.2.1 = gs.flatten.length ∧ gs'.flatten = gs.flatten ++ [p]) ∨ ((appendL m (logOf gs safe) p).2.2.2 ≠ 0 ∧ (appendL m (logOf gs safe) p).2.2.1 = 0 ∧ gs' = gs)) := by
  by_cases hd : m.down = true
  · have e : appendL m (logOf gs safe) p = (m, logOf gs safe, 0, 10) := by unfold appendL; rw [if_pos hd]
    rw [e]
    exact ⟨gs, safe, rfl, h, Nat.le_refl _, rfl, fun _ h2 => (by rw [hd] at h2; cases h2), .inr ⟨by simp, rfl, rfl⟩⟩
  have hd : m.down = false := by simpa using hd
  by_cases hp : p.length > 1024
  · have e : appendL m (logOf gs safe) p = (m, logOf gs safe, 0, 2) := by unfold appendL; rw [if_neg (by rw [hd]; decide), if_pos hp]
    rw [e]
    exact ⟨gs, safe, rfl, h, Nat.le_refl _, rfl, fun h1 h2 => ⟨h1, h2⟩, .inr ⟨by simp, rfl, rfl⟩⟩
  have ha := h.append hd (p := p) (by omega) ht
  rcases ha.or with ⟨a1, a2, a3, a4, ⟨safe', b1, b2, b3⟩, a5⟩ | ⟨a1, a2, a3, a4, a5, gs', safe', b1, b2, b3, b4⟩
  · refine ⟨gs, safe', b2, b3, b1, ha.room, fun h1 h2 => ?_, .inr ⟨a1, a2, rfl⟩⟩
    rcases a5 with ⟨_, c2, _⟩ | ⟨_, c2, c3, _⟩
    · rw [h1] at c2; cases c2
    · exact ⟨c3 h1, c2⟩
  · exact ⟨gs', safe', b3, b4, b1, ha.room, fun h1 h2 => ⟨a4 h1, a3⟩, .inl ⟨a1, a2, b2⟩⟩
theorem Rel.sstep {m : DM} {gs : List (List (List UInt8))} {safe : Nat} (h : Rel m gs safe) :
    ∃ safe' : Nat, (syncL m (logOf gs safe)).2.1 = logOf gs safe' ∧ Rel (syncL m (logOf gs safe)).1 gs safe' ∧ safe ≤ safe' ∧ (syncL m (logOf gs safe)).1.room = m.room ∧
      (m.armed = false → m.down = false → (syncL m (logOf gs safe)).1.armed = false ∧ (syncL m (logOf gs safe)).1.down = false) ∧ ((syncL m (logOf gs safe)).2.2 = 0 → safe' = gs.flatten.length) := by
  by_cases hd : m.down = true
  · have e : syncL m (logOf gs safe) = (m, logOf gs safe, 10) := by unfold syncL; rw [if_pos hd]
    rw [e]
    exact ⟨safe, rfl, h, Nat.le_refl _, rfl, fun _ h2 => (by rw [hd] at h2; cases h2), fun h => by cases h⟩
  have hd : m.down = false := by simpa using hd
  have hs := h.sync hd
  rcases hs.or with ⟨a1, a2, a3, a4, a5⟩ | ⟨a1, a2, a3, a4, a5⟩
  · exact ⟨safe, a4, a5, Nat.le_refl _, hs.room, fun h1 _ => (by rw [h1] at a2; cases a2), fun h => by rw [a1] at h; cases h⟩
  · exact ⟨_, a4, a5, h.total, hs.room, fun h1 _ => ⟨a3 h1, a2⟩, fun _ => rfl⟩

/-! What is got. -/
theorem lo_of (gs : List (List (List UInt8))) (safe : Int) : (logOf gs safe).lo = 0 := by
  unfold LM.lo
  cases gs <;> rfl
theorem find_of : ∀ (gs : List (List (List UInt8))) (k f n : Int), f ≤ n → n < f + gs.flatten.length → ∃ s, ((segsFrom k f gs).find? fun s => decide (n < s.next)) = some s ∧ s.ps[(n - s.first).toNat]? = gs.flatten[(n - f).toNat]?
  | [], k, f, n, h1, h2 => by simp at h2; omega
  | g :: r, k, f, n, h1, h2 => by
    by_cases h : n < f + g.length
    · refine ⟨⟨k, f, ((catF g).length : Int), g⟩, ?_, ?_⟩
      · unfold segsFrom
        have hp : (fun s : Sg => decide (n < s.next)) ⟨k, f, ((catF g).length : Int), g⟩ = true := decide_eq_true h
        rw [List.find?_cons_of_pos (p := fun s : Sg => decide (n < s.next)) hp]
      · simp only [List.flatten_cons]
        rw [List.getElem?_append_left (by omega)]
    · simp only [List.flatten_cons, List.length_append] at h2
      obtain ⟨s, e1, e2⟩ := find_of r (k + 1) (f + g.length) n (by omega) (by omega)
      refine ⟨s, ?_, ?_⟩
      · unfold segsFrom
        have hp : ¬ (fun s : Sg => decide (n < s.next)) ⟨k, f, ((catF g).length : Int), g⟩ = true := by show ¬ decide (n < f + (g.length : Int)) = true; rw [decide_eq_true_eq]; exact h
        rw [List.find?_cons_of_neg (p := fun s : Sg => decide (n < s.next)) hp]
        exact e1
      · rw [e2, List.flatten_cons, List.getElem?_append_right (by omega)]
        congr 1; omega
theorem get_of {gs : List (List (List UInt8))} {safe : Int} {k : Nat} {p : List UInt8} (h : gs.flatten[k]? = some p) : getL (logOf gs safe) (k : Int) = (p, 0) := by
  have hk := (List.getElem?_eq_some_iff.1 h).1
  unfold getL
  rw [if_neg (by rw [lo_of]; omega)]
  obtain ⟨s, e1, e2⟩ := find_of gs 1 0 (k : Int) (by omega) (by omega)
  rw [e1]
  simp only
  rw [e2, show ((k : Int) - 0).toNat = k by omega, h]; rfl

theorem Disk.rel {m : DM} {gs : List (List (List UInt8))} {r : List UInt8} (h : Disk m gs r) (n : Int) : LInv (logOf gs gs.flatten.length) → True := fun _ => trivial

/-- Nothing lies on the device. -/
theorem disk_empty {m : DM} (hI : DInv m) (h : m.fs = []) : Disk m [] [] :=
  ⟨hI, fun i g hg => by simp at hg, by simp, scan_no (by decide), fun f hf => by rw [h] at hf; simp at hf, by simp, by rw [h]; rfl⟩
theorem rel_empty {m : DM} (hI : DInv m) (h : m.fs = []) : Rel m [] 0 :=
  ⟨hI, fun i g hg => by simp at hg, by simp, fun f hf => by rw [h] at hf; simp at hf, by simp, by rw [h]; rfl, by rw [h]; rfl, by simp, fun gs' g e => by simp at e⟩
theorem open_empty {m : DM} (hI : DInv m) (h : m.fs = []) (hd : m.down = false) : openM m = (m, some (logOf [] 0), 0) := by
  have hn : ∀ nm : ByteArray, getF m.fs nm.toList = none := fun nm => by rw [h]; rfl
  have e1 : dropM m newN = (m, 0) := by unfold dropM; rw [remove_none hI hd (hn _)]; rfl
  have e2 : headM m = (1, 0, 0) := by unfold headM; rw [read_none hI (hn _)]; rfl
  have e3 : readL 70 m 1 ⟨1, 0, [], 0⟩ = (m, ⟨1, 0, [], 0⟩, 0) := by
    rw [readL, if_pos (by rw [read_none hI (hn _)]; simp)]
  unfold openM
  rw [e1]
  simp only [e2, e3, h]
  rfl
theorem arm_rel {m : DM} {gs : List (List (List UInt8))} {safe : Nat} (h : Rel m gs safe) {n : Int} (hn : i64 n) : Rel (armM m n) gs safe :=
  ⟨arm_inv h.inv hn, h.files, h.small, h.mine, h.few, h.head, h.new, h.total, h.last⟩
theorem arm_disk {m : DM} {gs : List (List (List UInt8))} {r : List UInt8} (h : Disk m gs r) {n : Int} (hn : i64 n) : Disk (armM m n) gs r :=
  ⟨arm_inv h.inv hn, h.files, h.small, h.rest, h.mine, h.few, h.head⟩

end Go.Cx

namespace Go.Cx
open Go Go.Cf
set_option linter.unusedVariables false
set_option maxRecDepth 100000

/-- As a log lies that is open, files beside it. -/
structure Lay (m : DM) (gs : List (List (List UInt8))) (safe : Nat) : Prop where
  inv : DInv m
  files : ∀ (i : Nat) (g : List (List UInt8)), gs[i]? = some g → ∃ f, getF m.fs (fK ((i + 1 : Nat) : Int)) = some f ∧ f.b = catF g ∧ f.sy = (catF (g.take (safe - (gs.take i).flatten.length))).length
  small : ∀ g ∈ gs, ∀ p ∈ g, p.length ≤ 1024
  mine : ∀ f ∈ m.fs, isFileB f.nm.data.toList = true → (∃ i : Nat, i < gs.length ∧ f.key = fK ((i + 1 : Nat) : Int)) ∨ f.key = fK 77
  few : gs.length ≤ 64
  head : getF m.fs headN.toList = none
  total : safe ≤ gs.flatten.length
  last : ∀ gs' g, gs = gs' ++ [g] → gs'.flatten.length ≤ safe
theorem Rel.lay {m : DM} {gs : List (List (List UInt8))} {safe : Nat} (h : Rel m gs safe) : Lay m gs safe :=
  ⟨h.inv, h.files, h.small, fun f hf hm => .inl (h.mine f hf hm), h.few, h.head, h.total, h.last⟩

/-- The power fails: what is left. -/
theorem Lay.wake {m : DM} {gs : List (List (List UInt8))} {safe : Nat} (h : Lay m gs safe) (keep : Int) : ∃ gs' r, Disk (wakeM m keep) gs' r ∧ gs'.length = gs.length ∧ gs'.flatten <+: gs.flatten ∧ safe ≤ gs'.flatten.length := by
  rcases List.eq_nil_or_concat gs with rfl | ⟨hs, g, rfl⟩
  · refine ⟨[], [], ⟨wake_inv h.inv keep, fun i g hg => by simp at hg, by simp, scan_no (by decide), fun f hf hm => ?_, by simp, ?_⟩, rfl, List.prefix_refl _, by have := h.total; simpa using this⟩
    · obtain ⟨f', hf', rfl⟩ := List.mem_map.1 hf
      rcases h.mine f' hf' hm with ⟨i, hi, _⟩ | e
      · simp at hi
      · exact .inr e
    · show getF (m.fs.map (wakeF keep)) _ = _
      rw [getF_wake, h.head]; rfl
  rw [List.concat_eq_append] at h ⊢
  have hgl : (hs ++ [g])[hs.length]? = some g := by simp
  obtain ⟨f, f1, f2, f3⟩ := h.files hs.length g hgl
  have hsafe := h.total
  have hlast := h.last hs g rfl
  simp only [List.take_left] at f3
  have hsmall : ∀ p ∈ g, p.length ≤ 1024 := h.small g (by simp)
  have hsy := h.inv.syn f (getF_mem f1)
  obtain ⟨k1, k2⟩ := keepN_le hsy keep
  obtain ⟨j, r, q1, q2, q3, q4⟩ := take_cat g (keepN keep f).toNat hsmall (by rw [f2] at k2; omega)
  have hj := q4 (safe - hs.flatten.length) (by simp only [List.flatten_append, List.flatten_cons, List.flatten_nil, List.append_nil, List.length_append] at hsafe; omega) (by omega)
  refine ⟨hs ++ [g.take j], r, ⟨wake_inv h.inv keep, fun i g' hg' => ?_, fun g' hg' => ?_, q2, fun f' hf' hm => ?_, ?_, ?_⟩, by simp, ?_, ?_⟩
  · show ∃ f, getF (m.fs.map (wakeF keep)) _ = some f ∧ _
    by_cases hi : i = hs.length
    · subst hi
      obtain rfl : g' = g.take j := by simpa using hg'.symm
      refine ⟨wakeF keep f, by rw [getF_wake, f1]; rfl, ?_, ?_⟩
      · rw [if_pos (by simp)]
        show f.b.take _ = _
        rw [f2, q1]
      · show keepN keep f = ((f.b.take (keepN keep f).toNat).length : Int)
        rw [List.length_take]; omega
    · have hlt : i < hs.length := by
        have := (List.getElem?_eq_some_iff.1 hg').1
        simp at this; omega
      rw [List.getElem?_append_left hlt] at hg'
      obtain ⟨f', e1, e2, e3⟩ := h.files i g' (by rw [List.getElem?_append_left hlt]; exact hg')
      have hw : f'.sy = f'.b.length := by
        rw [e3, e2, List.take_of_length_le]
        have hle : ((hs ++ [g]).take i).flatten.length + g'.length ≤ hs.flatten.length := by
          rw [List.take_append_of_le_length (by omega)]
          have e : hs = hs.take i ++ g' :: hs.drop (i + 1) := by
            rw [← (List.getElem?_eq_some_iff.1 hg').2, ← List.drop_eq_getElem_cons hlt, List.take_append_drop]
          conv => rhs; rw [e]
          simp only [List.flatten_append, List.flatten_cons, List.length_append]; omega
        omega
      refine ⟨f', by rw [getF_wake, e1, Option.map_some, keep_all hw], ?_, hw⟩
      rw [if_neg (by simp; omega), List.append_nil, e2]
  · rcases List.mem_append.1 hg' with hg' | hg'
    · exact h.small g' (by simp [hg'])
    · obtain rfl : g' = g.take j := by simpa using hg'
      exact fun p hp => hsmall p (List.mem_of_mem_take hp)
  · obtain ⟨f'', hf'', rfl⟩ := List.mem_map.1 hf'
    rcases h.mine f'' hf'' hm with ⟨i, hi, e⟩ | e
    · exact .inl ⟨i, by simpa using hi, e⟩
    · exact .inr e
  · have := h.few; simpa using this
  · show getF (m.fs.map (wakeF keep)) _ = _
    rw [getF_wake, h.head]; rfl
  · simp only [List.flatten_append, List.flatten_cons, List.flatten_nil, List.append_nil]
    exact List.prefix_append_right_inj _ |>.2 (List.take_prefix _ _)
  · simp only [List.flatten_append, List.flatten_cons, List.flatten_nil, List.append_nil, List.length_append, List.length_take]
    omega


theorem isFile_new : isFileB newN.data.toList = false := by unfold newN; rw [BA_list]; decide
/-- A file that is none of its own is appended to. -/
theorem Lay.beside {m : DM} {gs : List (List (List UInt8))} {safe : Nat} (h : Lay m gs safe) (nm : ByteArray) (b : List UInt8) (h1 : ∀ i : Nat, i < gs.length → nm.toList ≠ fK ((i + 1 : Nat) : Int)) (h2 : nm.toList ≠ headN.toList) (h3 : isFileB nm.data.toList = true → nm.toList = fK 77) (hn : namedB nm = true) : Lay (appendM m nm b).1 gs safe := by
  cases hd : m.down with
  | true =>
    have e : (appendM m nm b).1 = m := by unfold appendM; rw [if_neg (by rw [hn]; decide), if_pos hd]
    rw [e]; exact h
  | false =>
    rcases append_or (b := b) h.inv hn hd with ⟨e, _⟩ | hx | ⟨hx, _⟩
    · rw [e]; exact h
    · rw [hx.2]
      exact ⟨⟨h.inv.sorted, h.inv.names, h.inv.syn, h.inv.used, h.inv.room, h.inv.len, h.inv.left⟩, h.files, h.small, h.mine, h.few, h.head, h.total, h.last⟩
    · have hI := append_inv h.inv nm b
      refine ⟨hI, fun i g hg => ?_, h.small, fun f hf hm => ?_, h.few, ?_, h.total, h.last⟩
      · have hi := (List.getElem?_eq_some_iff.1 hg).1
        rw [hx.files, getF_app h.inv.sorted, if_neg (fun e => h1 i hi e.symm)]
        exact h.files i g hg
      · have hs := hI.sorted
        rw [hx.files] at hf hs
        rcases mine_app h.inv.sorted _ _ hs f hf with ⟨y, hy, e⟩ | e
        · have := h.mine y hy (by rw [e]; exact hm)
          simp only [DF.key] at this ⊢
          rw [e] at this; exact this
        · right
          simp only [DF.key]
          rw [e]; exact h3 (by rw [← e]; exact hm)
      · rw [hx.files, getF_app h.inv.sorted, if_neg (fun e => h2 e.symm)]; exact h.head
theorem Lay.beside2 {m : DM} {gs : List (List (List UInt8))} {safe : Nat} (h : Lay m gs safe) (b c : List UInt8) : Lay (appendM (appendM m newN b).1 (fN 77) c).1 gs safe := by
  have h1 := h.beside newN b (fun i _ e => fK_new _ e.symm) new_head (fun e => by rw [isFile_new] at e; cases e) (by unfold newN; decide)
  have hfew := h.few
  exact h1.beside (fN 77) c (fun i hi e => by
    have := fK_inj (a := 77) (b := i + 1) (by omega) (by omega) e
    omega) (fK_head 77) (fun _ => rfl) (fN_named (n := 77) (by decide) (by decide))

end Go.Cx
