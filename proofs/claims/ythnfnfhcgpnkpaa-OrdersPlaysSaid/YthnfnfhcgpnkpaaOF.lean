/-
  The document's journal is opened; both journals.
-/
import Derived.Test.YthnfnfhcgpnkpaaOE
namespace Go.Cx
open Go Go.Cf
set_option linter.unusedVariables false
variable {B : Base} {As : List HP}

theorem rdev_some {p : Option Addr} {m : DM} {g : Frag} (h : RefDev p m g) : ∃ b, p = some ⟨b, 0, none⟩ := by
  obtain ⟨_, b, _, _, h, _⟩ := h
  exact ⟨b, h⟩

theorem rOpen_spec (p : Option Addr) (m : DM) : Ct Pr F_ref25_Open [.pointer p] (.tup [none, none]) [.ptr, .int .i64] [RefDev p m] emp (ropenPost p m) := by
  refine spec2 c_ref25_Open fun B _ => ?_
  unfold ref25_Open
  refine xfact 0 (fun g hg => (⟨hg.1, rdev_some hg⟩ : DInv m ∧ ∃ b, p = some ⟨b, 0, none⟩)) fun hi => ?_
  obtain ⟨hi, bd, rfl⟩ := hi
  have hbl := body_le hi cmdN
  refine xcl (rDown_spec (some ⟨bd, 0, none⟩) m) rdb ?_
  rintro ⟨c, _⟩ _ ⟨hc, rfl⟩
  simp only at hc
  subst hc
  refine app1 (ca1 (xif (fun hd => ?_) (fun hd => ?_)))
  · have e := open_down hd
    exact xret (.inr ⟨by rw [e], rfl, by rw [e], by rw [e]⟩)
  refine xnew fun b => ?_
  refine xnone ENT ?_
  refine xfold [Blk b [.pointer (some ⟨bd, 0, none⟩), .slice none 0 0, .bool false], Ar ENT ⟨none, 0, 0⟩ []] (RefJ (some ⟨bd, 0, none⟩) (some ⟨b, 0, none⟩) ⟨false, []⟩) (fun g hg => ⟨jinv_nil, b, ⟨none, 0, 0⟩, rfl, hg⟩) ?_
  refine xcl (rRead_spec (some ⟨bd, 0, none⟩) m cmdN) rdb ?_
  rintro ⟨s, r, _⟩ _ ⟨hr, rfl⟩
  simp only at hr
  subst hr
  refine app2 (ca2 (xif (fun h2 => ?_) (fun h2 => ?_)))
  · have h2 : (readM m cmdN).2 ≠ 0 := by simpa using h2
    have e := open_none hd h2
    refine xuse [RefDev (some ⟨bd, 0, none⟩) m, RefJ (some ⟨bd, 0, none⟩) (some ⟨b, 0, none⟩) ⟨false, []⟩] (xret (.inl ⟨[], by rw [e], rfl, by rw [e]⟩))
  have h2 : (readM m cmdN).2 = 0 := by simpa using h2
  refine xlen s fun hsl hsc => ?_
  replace hsl : (readM m cmdN).1.length = s.n := hsl
  refine xcl (rScan_spec s (readM m cmdN).1 hbl hsc) rdb ?_
  rintro ⟨s1, r1, _⟩ _ ⟨h3, rs, rfl⟩
  simp only at h3
  subst h3
  refine app2 (ca2 ?_)
  have hbad := open_bad hd h2
  have hgo := fun {L} (h : takesJ [] (scanN (readM m cmdN).1).1 = some L) => open_go hd h2 h
  have hmax := (scan_used _ (readM m cmdN).1 (Nat.le_refl _)).2.1
  have hmax2 := (scan_used _ (readM m cmdN).1 (Nat.le_refl _)).2.2
  have hle := scan_len (readM m cmdN).1
  generalize hbs : (readM m cmdN).1 = bs at *
  generalize hrows : (scanN bs).1 = rows at *
  generalize (scanN bs).2 = u at *
  refine xlen s1 fun hrl _ => ?_
  refine xfact 1 (fun g hg => Each.length hg) fun hrr => ?_
  refine xuse [RefDev (some ⟨bd, 0, none⟩) m, RefJ (some ⟨bd, 0, none⟩) (some ⟨b, 0, none⟩) ⟨false, []⟩, Ar SL s1 rs, Each (Ar U8) rs rows] ?_
  refine xloop1 (fun n i As => ∃ (k : Nat) (L : JL), i = (k : Int) ∧ n = rows.length - k ∧ k ≤ rows.length ∧ takesJ [] (rows.take k) = some L ∧ As = [RefDev (some ⟨bd, 0, none⟩) m, RefJ (some ⟨bd, 0, none⟩) (some ⟨b, 0, none⟩) ⟨false, L⟩, Ar SL s1 rs, Each (Ar U8) rs rows]) rows.length ⟨0, [], rfl, rfl, by omega, rfl, ?_⟩ ?_
  · exact rfl
  rintro n _ _ K ⟨k, L, rfl, rfl, hk, htk, rfl⟩ hK
  refine xif_dec (fun h => ?_) (fun h => ?_)
  · have hx := List.getElem?_eq_getElem (l := rs) (i := k) (by omega)
    have hy := List.getElem?_eq_getElem (l := rows) (i := k) (by omega)
    generalize rs[k] = sl at hx
    generalize rows[k] = row at hy
    refine xidxn (h1 := by omega) (h := fun _ _ => ?_)
    refine xgetE hx (h := ?_)
    have hrow : row.length ≤ 1000000 := by have := hmax2 row (List.mem_of_getElem? hy); omega
    refine xcl (rtake_spec (some ⟨bd, 0, none⟩) (some ⟨b, 0, none⟩) false L sl row hrow) (rds_pick 2 (fun g hg => each_read (R := Ar U8) (S := fun sl row => RAr U8 sl row) (fun _ _ _ _ h s => h.mono s) (fun _ _ _ h => h.read) hg hx hy) (fun _ _ h s => h.mono s)) ?_
    rintro ⟨c, _⟩ _ (⟨hc, L', hL, rfl⟩ | ⟨hc, hL, rfl⟩)
    · obtain rfl : c = true := hc
      refine app1 (ca1 (xiff rfl ?_))
      rw [wrap_succ k (by omega)]
      exact xuse [RefDev (some ⟨bd, 0, none⟩) m, RefJ (some ⟨bd, 0, none⟩) (some ⟨b, 0, none⟩) ⟨false, L'⟩, Ar SL s1 rs, Each (Ar U8) rs rows] (hK (rows.length - (k + 1)) _ _ (by omega) ⟨k + 1, L', rfl, rfl, by omega, takes_step htk hy hL, rfl⟩)
    · obtain rfl : c = false := hc
      have e := hbad (takes_fail htk hy hL)
      exact app0 (ca1 (xift rfl (xuse [RefDev (some ⟨bd, 0, none⟩) m] (xret (.inr ⟨by rw [e], rfl, by rw [e], by rw [e]⟩)))))
  have hkl : k = rows.length := by omega
  subst hkl
  rw [List.take_of_length_le (Nat.le_refl _)] at htk
  have e := hgo htk
  refine xuse [RefDev (some ⟨bd, 0, none⟩) m, RefJ (some ⟨bd, 0, none⟩) (some ⟨b, 0, none⟩) ⟨false, L⟩] ?_
  have fin : ∀ m' : DM, (mendJ m u bs.length = syncM m' cmdN) → Ent B [RefDev (some ⟨bd, 0, none⟩) m', RefJ (some ⟨bd, 0, none⟩) (some ⟨b, 0, none⟩) ⟨false, L⟩] (XCall Pr F_ref12_Device_Sync [.pointer (some ⟨bd, 0, none⟩), .string cmdN] .one [.int .i64] fun r3 => XIf (r3 != 0) (Ret B (ropenPost (some ⟨bd, 0, none⟩) m) (none, r3, ())) (Ret B (ropenPost (some ⟨bd, 0, none⟩) m) (some ⟨b, 0, none⟩, 0, ()))) := by
    intro m' hm
    rw [hm] at e
    refine xcl (rSync_spec (some ⟨bd, 0, none⟩) m' cmdN) rdb ?_
    rintro ⟨r3, _⟩ _ ⟨h3, rfl⟩
    simp only at h3
    subst h3
    refine app1 (ca1 (xif (fun h => ?_) (fun h => ?_)))
    · have h : ¬ (syncM m' cmdN).2 = 0 := by simpa using h
      rw [if_neg h] at e
      exact xuse [RefDev (some ⟨bd, 0, none⟩) (syncM m' cmdN).1] (xret (.inr ⟨by rw [e], rfl, by rw [e], by rw [e]⟩))
    · have h : (syncM m' cmdN).2 = 0 := by simpa using h
      rw [if_pos h] at e
      exact xret (.inl ⟨L, by rw [e], rfl, by rw [e]⟩)
  refine xjoin (xif_dec (fun hlt => ?_) (fun hlt => ?_))
  · have hlt : u < bs.length := by omega
    refine xcl (rTruncate_spec (some ⟨bd, 0, none⟩) m cmdN (u : Int)) rdb ?_
    rintro ⟨r2, _⟩ _ ⟨h2, rfl⟩
    simp only at h2
    subst h2
    refine app1 (ca1 (xif (fun h => ?_) (fun h => ?_)))
    · have h : (truncM m cmdN u).2 ≠ 0 := by simpa using h
      have em : mendJ m u bs.length = truncM m cmdN u := by unfold mendJ; rw [if_pos hlt, if_pos h]
      rw [em, if_neg h] at e
      exact xuse [RefDev (some ⟨bd, 0, none⟩) (truncM m cmdN u).1] (xret (.inr ⟨by rw [e], rfl, by rw [e], by rw [e]⟩))
    · have h : ¬ (truncM m cmdN u).2 ≠ 0 := by simpa using h
      exact fin _ (by unfold mendJ; rw [if_pos hlt, if_neg h])
  · exact fin _ (by unfold mendJ; rw [if_neg (by omega)])


end Go.Cx
