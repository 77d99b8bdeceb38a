/-
  The journal is opened; the document's journal.
-/
import Derived.Test.YthnfnfhcgpnkpaaOC
namespace Go.Cx
open Go Go.Cf
set_option linter.unusedVariables false
variable {B : Base} {As : List HP}

theorem takes_app : ∀ (xs ys : List (List UInt8)) (L : JL), takesJ L (xs ++ ys) = match takesJ L xs with | some L' => takesJ L' ys | none => none
  | [], _, _ => rfl
  | b :: xs, ys, L => by
    show (match takeJ L b with | some L' => takesJ L' (xs ++ ys) | none => none) = _
    show _ = (match (match takeJ L b with | some L' => takesJ L' xs | none => none) with | some L' => takesJ L' ys | none => none)
    cases takeJ L b with
    | none => rfl
    | some L' => exact takes_app xs ys L'
theorem takes_step {rows : List (List UInt8)} {k : Nat} {L L' : JL} {b : List UInt8} (h1 : takesJ [] (rows.take k) = some L) (h2 : rows[k]? = some b) (h3 : takeJ L b = some L') : takesJ [] (rows.take (k + 1)) = some L' := by
  rw [List.take_add_one, h2, takes_app, h1]
  show (match takeJ L b with | some L' => some L' | none => none) = _
  rw [h3]
theorem takes_fail {rows : List (List UInt8)} {k : Nat} {L : JL} {b : List UInt8} (h1 : takesJ [] (rows.take k) = some L) (h2 : rows[k]? = some b) (h3 : takeJ L b = none) : takesJ [] rows = none := by
  rw [← List.take_append_drop k rows, takes_app, h1]
  have hk := (List.getElem?_eq_some_iff.1 h2).1
  have e : rows.drop k = b :: rows.drop (k + 1) := by
    rw [List.drop_eq_getElem_cons hk]
    rw [List.getElem?_eq_getElem hk] at h2
    cases h2; rfl
  rw [e]
  show (match takeJ L b with | some L' => takesJ L' (rows.drop (k + 1)) | none => none) = _
  rw [h3]

theorem open_down {m : DM} (h : m.down = true) : openJ m = (m, 10, none) := by unfold openJ; rw [if_pos h]
theorem open_none {m : DM} (h : m.down = false) (h2 : (readM m cmdN).2 ≠ 0) : openJ m = (m, 0, some []) := by unfold openJ; rw [if_neg (by rw [h]; simp), if_pos h2]
theorem open_bad {m : DM} (h : m.down = false) (h2 : (readM m cmdN).2 = 0) (h3 : takesJ [] (scanN (readM m cmdN).1).1 = none) : openJ m = (m, 30, none) := by
  unfold openJ; rw [if_neg (by rw [h]; simp), if_neg (by rw [h2]; simp)]; simp only [h3]
theorem open_go {m : DM} (h : m.down = false) (h2 : (readM m cmdN).2 = 0) {L : JL} (h3 : takesJ [] (scanN (readM m cmdN).1).1 = some L) :
    openJ m = if (mendJ m (scanN (readM m cmdN).1).2 (readM m cmdN).1.length).2 = 0 then ((mendJ m (scanN (readM m cmdN).1).2 (readM m cmdN).1.length).1, 0, some L)
      else ((mendJ m (scanN (readM m cmdN).1).2 (readM m cmdN).1.length).1, (mendJ m (scanN (readM m cmdN).1).2 (readM m cmdN).1.length).2, none) := by
  unfold openJ; rw [if_neg (by rw [h]; simp), if_neg (by rw [h2]; simp)]; simp only [h3]
theorem open_err {m : DM} : ((openJ m).2.2 = none → (openJ m).2.1 ≠ 0) ∧ (∀ L, (openJ m).2.2 = some L → (openJ m).2.1 = 0) := by
  rcases Bool.eq_false_or_eq_true m.down with h | h
  · rw [open_down h]; simp
  by_cases h2 : (readM m cmdN).2 = 0
  · cases h3 : takesJ [] (scanN (readM m cmdN).1).1 with
    | none => rw [open_bad h h2 h3]; simp
    | some L =>
      rw [open_go h h2 h3]
      split
      · simp
      · rename_i h4; simp [h4]
  · rw [open_none h h2]; simp

def openPost (p : Option Addr) (m : DM) : Tup [.ptr, .int .i64] → List HP → Prop := fun t Bs =>
  (∃ L, (openJ m).2.2 = some L ∧ t.2.1 = 0 ∧ Bs = [DevObj p (openJ m).1, JObj p t.1 ⟨false, L⟩]) ∨ ((openJ m).2.2 = none ∧ t.1 = none ∧ t.2.1 = (openJ m).2.1 ∧ Bs = [DevObj p (openJ m).1])

theorem Open_spec (p : Option Addr) (m : DM) : Ct Pr F_orders_Open [.pointer p] (.tup [none, none]) [.ptr, .int .i64] [DevObj p m] emp (openPost p m) := by
  refine spec2 c_orders_Open fun B _ => ?_
  unfold orders_Open
  refine xfact 0 (fun g hg => (⟨hg.1, dev_some hg⟩ : DInv m ∧ ∃ b, p = some ⟨b, 0, none⟩)) fun hi => ?_
  obtain ⟨hi, bd, rfl⟩ := hi
  have hbl := body_le hi cmdN
  refine xnil ?_
  refine xcl (Down_spec (some ⟨bd, 0, none⟩) m) rdb ?_
  rintro ⟨c, _⟩ _ ⟨hc, rfl⟩
  simp only at hc
  subst hc
  refine app1 (ca1 (xif (fun hd => ?_) (fun hd => ?_)))
  · have e := open_down hd
    exact xret (.inr ⟨by rw [e], rfl, by rw [e], by rw [e]⟩)
  refine xmap (.int .i64) fun mb => ?_
  refine xnew fun b => ?_
  refine xnone I64 ?_
  refine xfold [Blk b [.pointer (some ⟨bd, 0, none⟩), .map (some mb), .slice none 0 0, .bool false], MapO (.int .i64) (some mb) [], Ar I64 ⟨none, 0, 0⟩ []] (JObj (some ⟨bd, 0, none⟩) (some ⟨b, 0, none⟩) ⟨false, []⟩) (fun g hg => ⟨jinv_nil, b, some mb, ⟨none, 0, 0⟩, rfl, hg⟩) ?_
  refine xcl (Read_spec (some ⟨bd, 0, none⟩) m cmdN) rdb ?_
  rintro ⟨s, r, _⟩ _ ⟨hr, rfl⟩
  simp only at hr
  subst hr
  refine app2 (ca2 (xif (fun h2 => ?_) (fun h2 => ?_)))
  · have h2 : (readM m cmdN).2 ≠ 0 := by simpa using h2
    have e := open_none hd h2
    refine xuse [DevObj (some ⟨bd, 0, none⟩) m, JObj (some ⟨bd, 0, none⟩) (some ⟨b, 0, none⟩) ⟨false, []⟩] (xret (.inl ⟨[], by rw [e], rfl, by rw [e]⟩))
  have h2 : (readM m cmdN).2 = 0 := by simpa using h2
  refine xlen s fun hsl hsc => ?_
  replace hsl : (readM m cmdN).1.length = s.n := hsl
  refine xcl (Scan_spec s (readM m cmdN).1 hbl hsc) rdb ?_
  rintro ⟨s1, r1, _⟩ _ ⟨h3, rs, rfl⟩
  simp only at h3
  subst h3
  refine app2 (ca2 ?_)
  have hbad := open_bad hd h2
  have hgo := fun {L} (h : takesJ [] (scanN (readM m cmdN).1).1 = some L) => open_go hd h2 h
  have hmax := (scan_used _ (readM m cmdN).1 (Nat.le_refl _)).2.1
  have hle := scan_len (readM m cmdN).1
  generalize hbs : (readM m cmdN).1 = bs at *
  generalize hrows : (scanN bs).1 = rows at *
  generalize (scanN bs).2 = u at *
  refine xlen s1 fun hrl _ => ?_
  refine xfact 1 (fun g hg => Each.length hg) fun hrr => ?_
  refine xuse [DevObj (some ⟨bd, 0, none⟩) m, JObj (some ⟨bd, 0, none⟩) (some ⟨b, 0, none⟩) ⟨false, []⟩, Ar SL s1 rs, Each (Ar U8) rs rows] ?_
  refine xloop1 (fun n i As => ∃ (k : Nat) (L : JL), i = (k : Int) ∧ n = rows.length - k ∧ k ≤ rows.length ∧ takesJ [] (rows.take k) = some L ∧ As = [DevObj (some ⟨bd, 0, none⟩) m, JObj (some ⟨bd, 0, none⟩) (some ⟨b, 0, none⟩) ⟨false, L⟩, Ar SL s1 rs, Each (Ar U8) rs rows]) rows.length ⟨0, [], rfl, rfl, by omega, rfl, ?_⟩ ?_
  · exact rfl
  rintro n _ _ K ⟨k, L, rfl, rfl, hk, htk, rfl⟩ hK
  refine xif_dec (fun h => ?_) (fun h => ?_)
  · have hx := List.getElem?_eq_getElem (l := rs) (i := k) (by omega)
    have hy := List.getElem?_eq_getElem (l := rows) (i := k) (by omega)
    generalize rs[k] = sl at hx
    generalize rows[k] = row at hy
    refine xidxn (h1 := by omega) (h := fun _ _ => ?_)
    refine xgetE hx (h := ?_)
    refine xfact 3 (fun g hg => each_read (R := Ar U8) (S := fun sl row (_ : Frag) => sl.n ≤ sl.c) (fun _ _ _ _ h _ => h) (fun _ _ _ h => by obtain ⟨_, h⟩ := h; exact h.cap) hg hx hy) fun hcap => ?_
    refine xcl (take_spec (some ⟨bd, 0, none⟩) (some ⟨b, 0, none⟩) false L sl row hcap) (rds_pick 2 (fun g hg => each_read (R := Ar U8) (S := fun sl row => RAr U8 sl row) (fun _ _ _ _ h s => h.mono s) (fun _ _ _ h => h.read) hg hx hy) (fun _ _ h s => h.mono s)) ?_
    rintro ⟨c, _⟩ _ (⟨hc, L', hL, rfl⟩ | ⟨hc, hL, rfl⟩)
    · obtain rfl : c = true := hc
      refine app1 (ca1 (xiff rfl ?_))
      rw [wrap_succ k (by omega)]
      exact xuse [DevObj (some ⟨bd, 0, none⟩) m, JObj (some ⟨bd, 0, none⟩) (some ⟨b, 0, none⟩) ⟨false, L'⟩, Ar SL s1 rs, Each (Ar U8) rs rows] (hK (rows.length - (k + 1)) _ _ (by omega) ⟨k + 1, L', rfl, rfl, by omega, takes_step htk hy hL, rfl⟩)
    · obtain rfl : c = false := hc
      have e := hbad (takes_fail htk hy hL)
      exact app0 (ca1 (xift rfl (xuse [DevObj (some ⟨bd, 0, none⟩) m] (xret (.inr ⟨by rw [e], rfl, by rw [e], by rw [e]⟩)))))
  have hkl : k = rows.length := by omega
  subst hkl
  rw [List.take_of_length_le (Nat.le_refl _)] at htk
  have e := hgo htk
  refine xuse [DevObj (some ⟨bd, 0, none⟩) m, JObj (some ⟨bd, 0, none⟩) (some ⟨b, 0, none⟩) ⟨false, L⟩] ?_
  have fin : ∀ m' : DM, (mendJ m u bs.length = syncM m' cmdN) → Ent B [DevObj (some ⟨bd, 0, none⟩) m', JObj (some ⟨bd, 0, none⟩) (some ⟨b, 0, none⟩) ⟨false, L⟩] (XCall Pr F_device_Device_Sync [.pointer (some ⟨bd, 0, none⟩), .string cmdN] .one [.int .i64] fun r3 => XIf (r3 != 0) (Ret B (openPost (some ⟨bd, 0, none⟩) m) (none, r3, ())) (Ret B (openPost (some ⟨bd, 0, none⟩) m) (some ⟨b, 0, none⟩, 0, ()))) := by
    intro m' hm
    rw [hm] at e
    refine xcl (Sync_spec (some ⟨bd, 0, none⟩) m' cmdN) rdb ?_
    rintro ⟨r3, _⟩ _ ⟨h3, rfl⟩
    simp only at h3
    subst h3
    refine app1 (ca1 (xif (fun h => ?_) (fun h => ?_)))
    · have h : ¬ (syncM m' cmdN).2 = 0 := by simpa using h
      rw [if_neg h] at e
      exact xuse [DevObj (some ⟨bd, 0, none⟩) (syncM m' cmdN).1] (xret (.inr ⟨by rw [e], rfl, by rw [e], by rw [e]⟩))
    · have h : (syncM m' cmdN).2 = 0 := by simpa using h
      rw [if_pos h] at e
      exact xret (.inl ⟨L, by rw [e], rfl, by rw [e]⟩)
  refine xjoin (xif_dec (fun hlt => ?_) (fun hlt => ?_))
  · have hlt : u < bs.length := by omega
    refine xcl (Truncate_spec (some ⟨bd, 0, none⟩) m cmdN (u : Int)) rdb ?_
    rintro ⟨r2, _⟩ _ ⟨h2, rfl⟩
    simp only at h2
    subst h2
    refine app1 (ca1 (xif (fun h => ?_) (fun h => ?_)))
    · have h : (truncM m cmdN u).2 ≠ 0 := by simpa using h
      have em : mendJ m u bs.length = truncM m cmdN u := by unfold mendJ; rw [if_pos hlt, if_pos h]
      rw [em, if_neg h] at e
      exact xuse [DevObj (some ⟨bd, 0, none⟩) (truncM m cmdN u).1] (xret (.inr ⟨by rw [e], rfl, by rw [e], by rw [e]⟩))
    · have h : ¬ (truncM m cmdN u).2 ≠ 0 := by simpa using h
      exact fin _ (by unfold mendJ; rw [if_pos hlt, if_neg h])
  · exact fin _ (by unfold mendJ; rw [if_neg (by omega)])

end Go.Cx
