/-
  CursorSpoilt: the walk.
-/
import Derived.Test.YtbdmjjeigbhidaaCU
namespace Go.Cx
open Go Go.Cf
set_option linter.unusedVariables false
variable {B : Base} {As : List HP}

theorem xslc0n {s : Sl} {r : Nat} {m : Nat} {sz : Nat} {K : Sl → WP} (hm : m = s.c) (h1 : r ≤ s.c) (h : Ent B As (K ⟨s.p, r, s.c⟩)) : Ent B As (XSlc s 0 (r : Int) (m : Int) sz K) := xslc0 hm (by omega) (by omega) h

theorem turned (y : UInt8) (j : Nat) (hj : j < 8) : ∃ z : UInt8, z ≠ y ∧ bits .xor .u8 (y.toNat : Int) (IntKind.u8.wrap (1 * 2 ^ (min j 8))) = (z.toNat : Int) := by
  have h : ∀ n : Fin 256, ∀ j : Fin 8, (bits .xor .u8 (n.val : Int) (IntKind.u8.wrap (1 * 2 ^ (min j.val 8)))).toNat ≠ n.val := by decide +kernel
  have h1 := h ⟨y.toNat, u8_lt y⟩ ⟨j, hj⟩
  have h2 := bits_u8 .xor (y.toNat : Int) (IntKind.u8.wrap (1 * 2 ^ (min j 8)))
  refine ⟨UInt8.ofNat (bits .xor .u8 (y.toNat : Int) (IntKind.u8.wrap (1 * 2 ^ (min j 8)))).toNat, ?_, ?_⟩
  · intro e
    apply h1
    have := congrArg UInt8.toNat e
    rw [UInt8.toNat_ofNat'] at this
    dsimp only
    omega
  · rw [UInt8.toNat_ofNat']; omega

/-- A device that is up and not armed, with this one file. -/
def OneC (m : DM) (b : List UInt8) (sy : Int) : Prop := m.down = false ∧ m.armed = false ∧ m.room = 4096 ∧ m.fs = [⟨curN, b, sy⟩]

theorem spend_free {m : DM} (h : m.armed = false) : spendM m = (m, true) := by simp [spendM, h]

theorem one_find (b : List UInt8) (sy : Int) : thereL [⟨curN, b, sy⟩] curN.toList = true ∧ findL [⟨curN, b, sy⟩] curN.toList = 0 := by
  simp [thereL, findL, DF.key, lt_irrefl]
theorem one_new (b : List UInt8) (sy : Int) : thereL [⟨curN, b, sy⟩] newN.toList = false ∧ findL [⟨curN, b, sy⟩] newN.toList = 1 := by
  simp [thereL, findL, DF.key, lcn]

theorem one_read {m : DM} {b : List UInt8} {sy : Int} (h : OneC m b sy) : readM m curN = (b, 0) := by
  obtain ⟨_, _, _, hf⟩ := h
  obtain ⟨h1, h2⟩ := one_find b sy
  unfold readM
  rw [hf, h1, h2]; rfl

theorem one_load {m : DM} {b : List UInt8} {sy : Int} (h : OneC m b sy) : loadM m = decodeC b := by
  unfold loadM
  rw [if_neg (by rw [h.1]; simp), one_read h, if_neg (show ¬ (0 : Int) ≠ 0 by decide)]

theorem one_remove {m : DM} {b : List UInt8} {sy : Int} (h : OneC m b sy) : removeM m curN = ({ m with fs := [] }, 0) := by
  obtain ⟨hd, ha, hr, hf⟩ := h
  obtain ⟨h1, h2⟩ := one_find b sy
  unfold removeM
  rw [onFile_ok hd (by rw [hf]; exact h1), hf, h2]
  unfold spent
  rw [spend_free ha]
  simp [hf]

theorem none_append {m : DM} (hd : m.down = false) (ha : m.armed = false) (hr : m.room = 4096) (hf : m.fs = []) (b : List UInt8) (hb : b.length ≤ 4096) : appendM m curN b = ({ m with fs := [⟨curN, b, 0⟩] }, 0) := by
  have ht : thereL [] curN.toList = false := rfl
  have hi : findL [] curN.toList = 0 := rfl
  unfold appendM
  rw [nmC, hd, hf, ht, hr, spend_free ha]
  have e2 : decide ((b.length : Int) > 4096 - (usedN [] : Int)) = false := decide_eq_false (by simp [usedN]; omega)
  rw [e2, hi]
  simp [insL, hd, hr]

theorem one_put {m : DM} {b b' : List UInt8} {sy : Int} (h : OneC m b sy) (hb : b'.length ≤ 4096) : ∃ m', appendM (removeM m curN).1 curN b' = (m', 0) ∧ OneC m' b' 0 := by
  rw [one_remove h]
  exact ⟨_, none_append (m := { m with fs := [] }) h.1 h.2.1 h.2.2.1 rfl b' hb, h.1, h.2.1, h.2.2.1, rfl⟩

theorem one_save {m : DM} {b : List UInt8} {sy : Int} {c : Cu} (h : OneC m b sy) (hb : b.length ≤ 31) (hc : mayC c = true) : ∃ m', saveM m c = (m', 0) ∧ OneC m' (fileC c) 30 := by
  obtain ⟨hd, ha, hr, hf⟩ := h
  obtain ⟨t1, t2⟩ := one_new b sy
  have hl := file_len c
  have e : removeM m newN = (m, 6) := by unfold removeM; exact onFile_none hd (by rw [hf]; exact t1)
  have eA : appendM m newN (fileC c) = ({ m with fs := [⟨curN, b, sy⟩, ⟨newN, fileC c, 0⟩] }, 0) := by
    unfold appendM
    rw [nmN, hd, hf, t1, hr, spend_free ha]
    have e2 : decide (((fileC c).length : Int) > 4096 - (usedN [(⟨curN, b, sy⟩ : DF)] : Int)) = false := decide_eq_false (by simp [usedN]; omega)
    rw [e2, t2]
    simp [insL, hd, hr]
  have n1 : ∀ s : Int, thereL [⟨curN, b, sy⟩, ⟨newN, fileC c, s⟩] newN.toList = true ∧ findL [⟨curN, b, sy⟩, ⟨newN, fileC c, s⟩] newN.toList = 1 := fun s => by
    simp [thereL, findL, DF.key, lcn, lt_irrefl]
  have eS : syncM { m with fs := [⟨curN, b, sy⟩, ⟨newN, fileC c, 0⟩] } newN = ({ m with fs := [⟨curN, b, sy⟩, ⟨newN, fileC c, 30⟩] }, 0) := by
    unfold syncM
    rw [onFile_ok (m := { m with fs := [⟨curN, b, sy⟩, ⟨newN, fileC c, 0⟩] }) hd (n1 0).1, (n1 0).2]
    unfold spent
    rw [spend_free (by exact ha)]
    simp [hl]
  have eR : renameM { m with fs := [⟨curN, b, sy⟩, ⟨newN, fileC c, 30⟩] } newN curN = ({ m with fs := [⟨curN, fileC c, 30⟩] }, 0) := by
    unfold renameM
    rw [nmC, onFile_ok (m := { m with fs := [⟨curN, b, sy⟩, ⟨newN, fileC c, 30⟩] }) hd (n1 30).1, (n1 30).2]
    unfold spent
    rw [spend_free (by exact ha)]
    simp [moveL, thereL, findL, DF.key, lt_irrefl]
  unfold saveM
  rw [if_neg (by simpa using hc), e, if_neg (show ¬ (6 : Int) = 10 by decide)]
  dsimp only
  rw [eA, if_neg (show ¬ (0 : Int) ≠ 0 by decide)]
  dsimp only
  rw [eS, if_neg (show ¬ (0 : Int) ≠ 0 by decide)]
  dsimp only
  rw [eR]
  exact ⟨_, rfl, hd, ha, hr, rfl⟩

theorem empty_save {c : Cu} (hc : mayC c = true) : ∃ m', saveM ⟨false, false, 0, 4096, []⟩ c = (m', 0) ∧ OneC m' (fileC c) 30 := by
  have hl := file_len c
  have e : removeM ⟨false, false, 0, 4096, []⟩ newN = (⟨false, false, 0, 4096, []⟩, 6) := by unfold removeM; exact onFile_none rfl rfl
  have t1 : thereL [] newN.toList = false := rfl
  have t2 : findL [] newN.toList = 0 := rfl
  have eA : appendM ⟨false, false, 0, 4096, []⟩ newN (fileC c) = (⟨false, false, 0, 4096, [⟨newN, fileC c, 0⟩]⟩, 0) := by
    unfold appendM
    rw [nmN, t1, spend_free rfl]
    have e2 : decide (((fileC c).length : Int) > 4096 - (usedN [] : Int)) = false := decide_eq_false (by simp [usedN]; omega)
    rw [e2, t2]
    simp [insL]
  have n1 : ∀ s : Int, thereL [⟨newN, fileC c, s⟩] newN.toList = true ∧ findL [⟨newN, fileC c, s⟩] newN.toList = 0 := fun s => by
    simp [thereL, findL, DF.key, lt_irrefl]
  have eS : syncM ⟨false, false, 0, 4096, [⟨newN, fileC c, 0⟩]⟩ newN = (⟨false, false, 0, 4096, [⟨newN, fileC c, 30⟩]⟩, 0) := by
    unfold syncM
    rw [onFile_ok rfl (n1 0).1, (n1 0).2]
    unfold spent
    rw [spend_free rfl]
    simp [hl]
  have eR : renameM ⟨false, false, 0, 4096, [⟨newN, fileC c, 30⟩]⟩ newN curN = (⟨false, false, 0, 4096, [⟨curN, fileC c, 30⟩]⟩, 0) := by
    unfold renameM
    rw [nmC, onFile_ok rfl (n1 30).1, (n1 30).2]
    unfold spent
    rw [spend_free rfl]
    simp [moveL, thereL, findL, insL]
  unfold saveM
  rw [if_neg (by simpa using hc), e, if_neg (show ¬ (6 : Int) = 10 by decide)]
  dsimp only
  rw [eA, if_neg (show ¬ (0 : Int) ≠ 0 by decide)]
  dsimp only
  rw [eS, if_neg (show ¬ (0 : Int) ≠ 0 by decide)]
  dsimp only
  rw [eR]
  exact ⟨_, rfl, rfl, rfl, rfl, rfl⟩

theorem CursorSpoilt_spec (c : Cu) (bit cut : Int) (mo : UInt8) (hb0 : i64 bit) (hc0 : i64 cut) : Ct Pr F_law24_CursorSpoilt [c.v, .int .i64 bit, .int .i64 cut, .int .u8 (mo.toNat : Int)] .one [.bool] [] emp (fun t Bs => t.1 = true ∧ Bs = []) := by
  refine spec1 c_law24_CursorSpoilt fun B _ => ?_
  unfold law24_CursorSpoilt
  refine xnew fun b => ?_
  refine xcl works24_spec rdb ?_
  rintro ⟨c1, _⟩ _ ⟨h, rfl⟩
  obtain rfl : c1 = true := h
  refine app0 (ca1 (xiff rfl ?_))
  refine xcl (New_spec 4096) rdb ?_
  rintro ⟨q, r, _⟩ _ (⟨h, _⟩ | ⟨_, _, h5, ⟨b0, h4⟩, rfl⟩)
  · omega
  simp only at h4 h5
  subst h4 h5
  refine app1 (ca2 (xget (h := xget (h := xget (h := ?_)))))
  refine xcl (Save_spec (some ⟨b0, 0, none⟩) ⟨false, false, 0, 4096, []⟩ c) rdb ?_
  rintro ⟨r2, _⟩ _ ⟨hr2, rfl⟩
  simp only at hr2
  rcases Bool.eq_false_or_eq_true (mayC c) with hm | hm
  case inr =>
    have e : saveM ⟨false, false, 0, 4096, []⟩ c = (⟨false, false, 0, 4096, []⟩, 3) := by unfold saveM; rw [hm]; rfl
    rw [e] at hr2 ⊢
    simp only at hr2
    subst hr2
    refine app1 (ca1 (xift rfl (xget (h := xget (h := xget (h := ?_))))))
    refine xcl (lmay_spec c) rdb ?_
    rintro ⟨c1, _⟩ _ ⟨hc, rfl⟩
    simp only at hc
    rw [hm] at hc
    subst hc
    exact app0 (ca1 (xkeep (l := []) (xret ⟨rfl, rfl⟩)))
  obtain ⟨m1, e1, h1⟩ := empty_save hm
  rw [e1] at hr2 ⊢
  simp only at hr2
  subst hr2
  refine app1 (ca1 (xiff rfl ?_))
  refine xcl (Read_spec (some ⟨b0, 0, none⟩) m1 curN) rdb ?_
  rw [one_read h1]
  have hl := file_len c
  rintro ⟨s, r2, _⟩ _ ⟨hr2, rfl⟩
  simp only at hr2
  refine app2 (ca2 ?_)
  refine xlen s fun hn hcap => ?_
  replace hn : (fileC c).length = s.n := hn
  refine xif (fun h => ?_) (fun _ => ?_)
  · simp at h; omega
  have hsn : s.n = 30 := by omega
  refine xcl (CopyBytes_spec s (fileC c) (by omega)) rdb ?_
  rintro ⟨s1, _⟩ _ rfl
  refine app1 (ca1 ?_)
  have e8 : IntKind.i64.wrap (8 * ((s.n : Nat) : Int)) = 240 := by rw [hsn]; rfl
  rw [e8, hsn]
  refine xcl (Pick_spec bit 240 hb0 ⟨by decide, by decide⟩) rdb ?_
  rintro ⟨r3, _⟩ _ ⟨hp, rfl⟩
  have hp := pick_use r3 240 hp (by decide)
  obtain ⟨k, hk⟩ := Int.eq_ofNat_of_zero_le hp.1
  obtain rfl : r3 = (k : Int) := hk
  have hk : k < 240 := by omega
  have ed : IntKind.i64.wrap ((k : Int).tdiv 8) = ((k / 8 : Nat) : Int) := by
    rw [show (k : Int).tdiv 8 = ((k / 8 : Nat) : Int) from rfl, wrap_id _ (by omega) (by omega)]
  have em : IntKind.u64.wrap ((k : Int).tmod 8) = ((k % 8 : Nat) : Int) := by
    rw [show (k : Int).tmod 8 = ((k % 8 : Nat) : Int) from rfl]
    exact wrap_u64 _ (by omega)
  refine app0 (ca1 ?_)
  rw [ed, em]
  refine xasrt (by decide) (xasrt (by decide) ?_)
  have hy := List.getElem?_eq_getElem (l := fileC c) (i := k / 8) (by omega)
  generalize (fileC c)[k / 8] = y at hy
  refine xidxn (h1 := by omega) (h := fun _ _ => ?_)
  refine xgetE hy (h := ?_)
  refine xasrt (by decide) (xasrt (by omega) ?_)
  refine xidxn (h1 := by omega) (h := fun _ _ => ?_)
  obtain ⟨z, hz, ez⟩ := turned y (k % 8) (by omega)
  rw [Int.toNat_natCast, ez]
  refine xsetE z hy (hv := rfl) (h := ?_)
  have hbad := decode_one c (k / 8) z (by omega) (by rw [hy]; simpa using fun e => hz e.symm)
  have hxl : ((fileC c).set (k / 8) z).length = 30 := by simp [hl]
  generalize (fileC c).set (k / 8) z = x at hbad hxl
  have wk : ∀ {K : Int → WP} {As : List HP}, (∀ rr : Nat, rr < 30 → Ent B As (K (rr : Int))) → Ent B As (XCall Pr F_kit_Pick [.int .i64 cut, .int .i64 30] .one [.int .i64] K) := by
    intro K As h
    refine xcl (pre := []) (G := As) (Pick_spec cut 30 hc0 ⟨by decide, by decide⟩) rdb ?_
    rintro ⟨r4, _⟩ _ ⟨hp, rfl⟩
    have hp := pick_use r4 30 hp (by decide)
    obtain ⟨rr, hrr⟩ := Int.eq_ofNat_of_zero_le hp.1
    obtain rfl : r4 = (rr : Int) := hrr
    exact app0 (ca1 (h rr (by omega)))
  refine xdraw (xjoin1 (fun rows As' => ∃ (rr : Nat) (s4 : Sl), rr < 30 ∧ As' = [DevObj (some ⟨b0, 0, none⟩) m1, Blk b [.int .i64 c.a, .int .i64 c.b, .int .i64 c.c], Ar SL rows [s1, ⟨s.p, rr, s.c⟩, s4], Ar U8 s (fileC c), Ar U8 s1 x, Ar U8 s4 (fileC c ++ [mo])]) ?_ ?_)
  · intro J hJ
    have fin : ∀ (rr : Nat) (s4 : Sl) (b2 : Nat), rr < 30 → Ent B [DevObj (some ⟨b0, 0, none⟩) m1, Blk b [.int .i64 c.a, .int .i64 c.b, .int .i64 c.c], Blk b2 [s1.v, (⟨s.p, rr, s.c⟩ : Sl).v, s4.v], Ar U8 s (fileC c), Ar U8 s1 x, Ar U8 s4 (fileC c ++ [mo])] (J ⟨some ⟨b2, 0, none⟩, 3, 3⟩) := by
      intro rr s4 b2 hrr
      refine xfold1 (Q := Ar SL ⟨some ⟨b2, 0, none⟩, 3, 3⟩ [s1, ⟨s.p, rr, s.c⟩, s4]) 2 (fun g hg => ⟨[], blk_ar [s1, ⟨s.p, rr, s.c⟩, s4] 3 rfl rfl hg⟩) ?_
      exact xuse' (hJ _ _ ⟨rr, s4, hrr, rfl⟩)
    refine xand (wk fun rr hrr => xslc0n rfl (by omega) (xand ?_ (xnew fun b1 => ?_))) (xnew fun b1 => wk fun rr hrr => xslc0n rfl (by omega) ?_)
    · refine xcl (CopyBytes_spec s (fileC c) (by omega)) rdb ?_
      rintro ⟨s3, _⟩ _ rfl
      refine app1 (ca1 (xnew fun b1 => ?_))
      refine xapp1 mo (hb := by omega) (h := fun s4 => ?_)
      refine xnew fun b2 => ?_
      exact xuse' (fin rr s4 b2 hrr)
    · refine xcl (CopyBytes_spec s (fileC c) (by omega)) rdb ?_
      rintro ⟨s3, _⟩ _ rfl
      refine app1 (ca1 ?_)
      refine xapp1 mo (hb := by omega) (h := fun s4 => ?_)
      refine xnew fun b2 => ?_
      exact xuse' (fin rr s4 b2 hrr)
    · refine xcl (CopyBytes_spec s (fileC c) (by omega)) rdb ?_
      rintro ⟨s3, _⟩ _ rfl
      refine app1 (ca1 ?_)
      refine xapp1 mo (hb := by omega) (h := fun s4 => ?_)
      refine xnew fun b2 => ?_
      exact xuse' (fin rr s4 b2 hrr)
  rintro rows _ ⟨rr, s4, hrr, rfl⟩
  refine xlen rows fun hrn _ => ?_
  have hrn3 : rows.n = 3 := hrn.symm
  refine xloop1 (fun n i As => ∃ (k : Nat) (m : DM) (d : List UInt8) (sy : Int), i = (k : Int) ∧ n = 3 - k ∧ k ≤ 3 ∧ OneC m d sy ∧ d.length ≤ 31 ∧ As = [DevObj (some ⟨b0, 0, none⟩) m, Blk b [.int .i64 c.a, .int .i64 c.b, .int .i64 c.c], Ar SL rows [s1, ⟨s.p, rr, s.c⟩, s4], Ar U8 s (fileC c), Ar U8 s1 x, Ar U8 s4 (fileC c ++ [mo])]) 3 ⟨0, m1, _, _, rfl, rfl, by omega, h1, by omega, rfl⟩ ?_
  clear h1 e1
  rintro n _ _ K ⟨k, m, d, sy, rfl, rfl, hk3, hone, hdl, rfl⟩ hK
  refine xif_dec (fun h => ?_) (fun h => ?_)
  · have hrow : ∃ (sl : Sl) (row : List UInt8), [s1, ⟨s.p, rr, s.c⟩, s4][k]? = some sl ∧ row.length ≤ 31 ∧ decodeC row = (cu0, 30) ∧ Rds B [Blk b [.int .i64 c.a, .int .i64 c.b, .int .i64 c.c], Ar SL rows [s1, ⟨s.p, rr, s.c⟩, s4], Ar U8 s (fileC c), Ar U8 s1 x, Ar U8 s4 (fileC c ++ [mo])] (RAr U8 sl row) := by
      have : k = 0 ∨ k = 1 ∨ k = 2 := by omega
      rcases this with rfl | rfl | rfl
      · exact ⟨s1, x, rfl, by omega, hbad, rdb⟩
      · refine ⟨_, (fileC c).take rr, rfl, by rw [List.length_take]; omega, decode_cut c rr hrr, ?_⟩
        refine rds_pick 2 (fun g hg => ?_) (fun _ _ h s => h.mono s)
        have := hg.read.cut 0 rr s.c (by omega) (by omega) (by omega)
        rw [cut_zero] at this
        simpa using this
      · exact ⟨s4, fileC c ++ [mo], rfl, by simp [hl], decode_more c mo, rdb⟩
    obtain ⟨sl, row, hsl, hrl, hdec, hrd⟩ := hrow
    refine xcl (Remove_spec (some ⟨b0, 0, none⟩) m curN) rdb ?_
    rintro ⟨r6, _⟩ _ ⟨_, rfl⟩
    refine app1 (ca1 ?_)
    refine xidxn (h1 := by simp; omega) (h := fun _ _ => ?_)
    refine xgetE hsl (h := ?_)
    obtain ⟨m2, e2, h2⟩ := one_put hone (b' := row) (by omega)
    refine xcl (Append_spec (some ⟨b0, 0, none⟩) (removeM m curN).1 curN sl row) hrd ?_
    rw [e2]
    rintro ⟨r7, _⟩ _ ⟨_, rfl⟩
    refine app1 (ca1 ?_)
    refine xcl (Load_spec (some ⟨b0, 0, none⟩) m2) rdb ?_
    rw [one_load h2, hdec]
    rintro ⟨q1, q2, q3, q4, _⟩ _ ⟨g1, g2, g3, g4, rfl⟩
    simp only at g1 g2 g3 g4
    subst g1 g2 g3 g4
    refine app1 (ca4 (xnew fun b7 => xset (h := xset (h := xset (h := xjoin (xiff rfl ?_))))))
    refine xget (h := xget (h := xget (h := xiff rfl ?_)))
    rw [wrap_succ k (by omega)]
    refine xdrop 0 ?_
    exact hK (3 - (k + 1)) _ _ (by omega) ⟨k + 1, m2, row, 0, rfl, rfl, by omega, h2, hrl, rfl⟩
  · obtain ⟨m2, e2, h2⟩ := one_save hone hdl hm
    refine xget (h := xget (h := xget (h := ?_)))
    refine xcl (Save_spec (some ⟨b0, 0, none⟩) m c) rdb ?_
    rw [e2]
    rintro ⟨r2, _⟩ _ ⟨hr2, rfl⟩
    simp only at hr2
    subst hr2
    refine app1 (ca1 ?_)
    refine xcl (Load_spec (some ⟨b0, 0, none⟩) m2) rdb ?_
    rw [one_load h2, decode_file c hm]
    rintro ⟨q1, q2, q3, q4, _⟩ _ ⟨g1, g2, g3, g4, rfl⟩
    simp only at g1 g2 g3 g4
    subst g1 g2 g3 g4
    refine app1 (ca4 (xnew fun b8 => xset (h := xset (h := xset (h := xjoin (xift rfl ?_))))))
    refine xget (h := xget (h := xget (h := xget (h := xget (h := xget (h := ?_))))))
    exact xkeep (l := []) (xret ⟨by simp, rfl⟩)

end Go.Cx
