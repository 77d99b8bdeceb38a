/-
  The document's cursor.
-/
import Derived.Test.YtbdmjjeigbhidaaCK
namespace Go.Cx
open Go Go.Cf
set_option linter.unusedVariables false
variable {B : Base} {As : List HP}

theorem ok_pos {x : Int} (h : x ≥ 0) : decide (x ≤ 1099511627776) = okN x := by
  show _ = (decide (0 ≤ x) && decide (x ≤ 1099511627776))
  rw [decide_eq_true (show 0 ≤ x from h), Bool.true_and]
theorem ok_neg {x : Int} (h : ¬ x ≥ 0) : okN x = false := by
  show (decide (0 ≤ x) && decide (x ≤ 1099511627776)) = false
  rw [decide_eq_false (show ¬ 0 ≤ x from h), Bool.false_and]

theorem rMay_spec (c : Cu) : Ct Pr F_ref24_May [c.v] .one [.bool] [] emp (fun t Bs => t.1 = mayC c ∧ Bs = []) := by
  refine spec1 c_ref24_May fun B _ => ?_
  unfold ref24_May
  refine xnew fun b => xget (h := ?_)
  have fin : ∀ {x : Bool} {As : List HP}, x = mayC c → Ent B As (Ret B (ss := [.bool]) (fun t Bs => t.1 = mayC c ∧ Bs = []) (x, ())) := fun h => xkeep (l := []) (xret ⟨h, rfl⟩)
  by_cases ha : c.a ≥ 0
  · refine xjoin (xift (decide_eq_true ha) (xget (h := ?_)))
    rw [ok_pos ha]
    refine xjoin (xif (fun oa => ?_) (fun oa => ?_))
    · by_cases hb : c.b ≥ 0
      · refine xget (h := xjoin (xift (decide_eq_true hb) (xget (h := ?_))))
        rw [ok_pos hb]
        refine xjoin (xif (fun ob => ?_) (fun ob => ?_))
        · by_cases hc : c.c ≥ 0
          · refine xget (h := xjoin (xift (decide_eq_true hc) (xget (h := ?_))))
            rw [ok_pos hc]
            exact fin (by simp [mayC, oa, ob])
          · refine xget (h := xjoin (xiff (decide_eq_false hc) ?_))
            exact fin (x := false) (by simp [mayC, ok_neg hc])
        · exact xjoin (xiff rfl (fin (x := false) (by simp [mayC, ob])))
      · refine xget (h := xjoin (xiff (decide_eq_false hb) (xjoin (xiff rfl (xjoin (xiff rfl ?_))))))
        exact fin (x := false) (by simp [mayC, ok_neg hb])
    · refine xjoin (xiff rfl (xjoin (xiff rfl (xjoin (xiff rfl ?_)))))
      exact fin (x := false) (by simp [mayC, oa])
  · refine xjoin (xiff (decide_eq_false ha) (xjoin (xiff rfl (xjoin (xiff rfl (xjoin (xiff rfl (xjoin (xiff rfl ?_)))))))))
    exact fin (x := false) (by simp [mayC, ok_neg ha])

theorem rFile_spec (c : Cu) (hm : mayC c = true) : Ct Pr F_ref24_File [c.v] .one [.slice] [] emp (fun t Bs => Bs = [Ar U8 t.1 (fileC c)]) := by
  refine spec1 c_ref24_File fun B _ => ?_
  unfold ref24_File
  obtain ⟨ha, hb, hc⟩ := may_of hm
  obtain ⟨a1, a2, _⟩ := ok_nat ha
  obtain ⟨b1, b2, _⟩ := ok_nat hb
  obtain ⟨c1, c2, _⟩ := ok_nat hc
  refine xnew fun b => xget (h := ?_)
  rw [a1]
  refine xcl (rPut02_spec ⟨none, 0, 0⟩ [] c.a.toNat a2 (by simp)) (fun _ _ _ _ _ _ _ _ => (⟨rfl, rfl, fun h => absurd h (Nat.lt_irrefl 0)⟩ : RAr U8 ⟨none, 0, 0⟩ [] _)) ?_
  rintro ⟨s, r, _⟩ _ ⟨_, rfl⟩
  refine app1 (ca2 (xget (h := ?_)))
  rw [b1]
  refine xcl (rPut02_spec s ([] ++ be8 c.a.toNat) c.b.toNat b2 (by simp [be8_len])) rdb ?_
  rintro ⟨s1, r1, _⟩ _ ⟨_, rfl⟩
  refine app1 (ca2 (xget (h := ?_)))
  rw [c1]
  refine xcl (rPut02_spec s1 ([] ++ be8 c.a.toNat ++ be8 c.b.toNat) c.c.toNat c2 (by simp [be8_len])) rdb ?_
  rintro ⟨s2, r2, _⟩ _ ⟨_, rfl⟩
  refine app1 (ca2 ?_)
  refine xcl (rPut13_spec s2 ([] ++ be8 c.a.toNat ++ be8 c.b.toNat ++ be8 c.c.toNat) (by simp [be8_len])) rdb ?_
  rintro ⟨s3, r3, _⟩ _ ⟨_, rfl⟩
  refine app1 (ca2 ?_)
  rw [show frameN ([] ++ be8 c.a.toNat ++ be8 c.b.toNat ++ be8 c.c.toNat) = fileC c from rfl]
  exact xuse [Ar U8 s3 (fileC c)] (xret rfl)

theorem rdev_some {p : Option Addr} {m : DM} {g : Frag} (h : RefDev p m g) : ∃ b, p = some ⟨b, 0, none⟩ := by
  obtain ⟨_, b, _, _, h, _⟩ := h
  exact ⟨b, h⟩

theorem rFind_spec (p : Option Addr) (m : DM) (nm : ByteArray) : Ct Pr F_ref12_Device_Find [.pointer p, .string nm] .one [.int .i64] [RefDev p m] emp (fun t Bs => t.1 = fIdx m.fs nm ∧ Bs = [RefDev p m]) := by
  refine spec1 (φ := XCall Pr F_ref12_Device_Find [.pointer p, .string nm] .one [.int .i64]) id fun B _ => ?_
  refine xrdev 0 fun hi b s cs hp sf hn => ?_
  subst hp
  have hlen := hi.len
  refine xcl (rFind_raw b m.room (leftR m) m.down s cs m.fs nm hi.sorted sf.names (by omega)) rdb ?_
  rintro ⟨r, _⟩ _ ⟨hr, rfl⟩
  exact app2 (ca1 (xrdev_back b s cs hi (xret ⟨hr, rfl⟩)))

/-- Whether the device is down, looked at from outside. -/
theorem xdown {b : Nat} {m : DM} {F : List HP} {K : Bool → WP} [f : Find (RefDev (some ⟨b, 0, none⟩) m) As F] (h : Ent B (RefDev (some ⟨b, 0, none⟩) m :: F) (K m.down)) : Ent B As (XGet .bool (Addr.add ⟨b, 0, none⟩ 2) K) := by
  refine Ent.perm f.perm ?_
  refine xrdev 0 fun hi b' s cs hp sf hn => ?_
  cases hp
  exact xget (h := xrdev_back b s cs hi h)

theorem remove_two {m : DM} {nm : ByteArray} (hd : m.down = false) (ht : thereL m.fs nm.toList = true) : (removeM m nm).2 = 0 ∨ (removeM m nm).2 = 10 := by
  unfold removeM
  rw [onFile_ok hd ht]
  unfold spent
  split
  · exact .inr rfl
  · exact .inl rfl

theorem rSave_spec (p : Option Addr) (m : DM) (c : Cu) : Ct Pr F_ref24_Save [.pointer p, c.v] .one [.int .i64] [RefDev p m] emp (fun t Bs => t.1 = (saveM m c).2 ∧ Bs = [RefDev p (saveM m c).1]) := by
  refine spec1 c_ref24_Save fun B _ => ?_
  unfold ref24_Save
  refine xfact 0 (fun g hg => rdev_some hg) fun hp => ?_
  obtain ⟨b0, rfl⟩ := hp
  refine xnew fun b => xget (h := xget (h := xget (h := ?_)))
  refine xcl (rMay_spec c) rdb ?_
  rintro ⟨g, _⟩ _ ⟨hg, rfl⟩
  simp only at hg
  subst hg
  refine app0 (ca1 (xif (fun hm => ?_) (fun hm => ?_)))
  · have e : saveM m c = (m, 3) := by unfold saveM; rw [if_pos hm]
    rw [e]
    exact xuse [RefDev (some ⟨b0, 0, none⟩) m] (xret ⟨rfl, rfl⟩)
  have hmay : mayC c = true := by simpa using hm
  refine xnil (xdown (m := m) ?_)
  refine xjoin1 (fun x As' => x = ((removeM m newN).2 == 10) ∧ As' = [RefDev (some ⟨b0, 0, none⟩) (removeM m newN).1, Blk b [.int .i64 c.a, .int .i64 c.b, .int .i64 c.c]]) ?_ ?_
  · intro J hJ
    refine xif (fun hd => ?_) (fun hd => ?_)
    · have e : removeM m newN = (m, 10) := by unfold removeM; exact onFile_down hd
      rw [e] at hJ
      exact xuse [RefDev (some ⟨b0, 0, none⟩) m, Blk b [.int .i64 c.a, .int .i64 c.b, .int .i64 c.c]] (hJ _ _ ⟨rfl, rfl⟩)
    refine xcl (rFind_spec (some ⟨b0, 0, none⟩) m newN) rdb ?_
    rintro ⟨r, _⟩ _ ⟨hr, rfl⟩
    simp only at hr
    subst hr
    refine app1 (ca1 (xjoin ?_))
    rcases Bool.eq_false_or_eq_true (thereL m.fs newN.toList) with ht | ht
    · refine xift (by rw [fIdx_yes ht]; simp) ?_
      refine xcl (rRemove_spec (some ⟨b0, 0, none⟩) m newN) rdb ?_
      rintro ⟨r, _⟩ _ ⟨hr, rfl⟩
      simp only at hr
      subst hr
      refine app1 (ca1 (xuse [RefDev (some ⟨b0, 0, none⟩) (removeM m newN).1, Blk b [.int .i64 c.a, .int .i64 c.b, .int .i64 c.c]] (hJ _ _ ⟨?_, rfl⟩)))
      rcases remove_two hd ht with h | h <;> rw [h] <;> rfl
    · have e : removeM m newN = (m, 6) := by unfold removeM; exact onFile_none hd ht
      rw [e] at hJ
      refine xiff (by rw [fIdx_no ht]; rfl) ?_
      exact xuse [RefDev (some ⟨b0, 0, none⟩) m, Blk b [.int .i64 c.a, .int .i64 c.b, .int .i64 c.c]] (hJ _ _ ⟨rfl, rfl⟩)
  rintro _ _ ⟨rfl, rfl⟩
  refine xif (fun h10 => ?_) (fun h10 => ?_)
  · have h10 : (removeM m newN).2 = 10 := by simpa using h10
    have e : saveM m c = ((removeM m newN).1, 10) := by unfold saveM; rw [if_neg (by simpa using hmay), if_pos h10]
    rw [e]
    exact xuse [RefDev (some ⟨b0, 0, none⟩) (removeM m newN).1] (xret ⟨rfl, rfl⟩)
  have h10 : ¬ (removeM m newN).2 = 10 := by simpa using h10
  have e : saveM m c = if (appendM (removeM m newN).1 newN (fileC c)).2 ≠ 0 then appendM (removeM m newN).1 newN (fileC c)
      else if (syncM (appendM (removeM m newN).1 newN (fileC c)).1 newN).2 ≠ 0 then syncM (appendM (removeM m newN).1 newN (fileC c)).1 newN
      else renameM (syncM (appendM (removeM m newN).1 newN (fileC c)).1 newN).1 newN curN := by
    unfold saveM; rw [if_neg (by simpa using hmay), if_neg h10]
  rw [e]
  generalize (removeM m newN).1 = m1
  refine xget (h := xget (h := xget (h := ?_)))
  refine xcl (rFile_spec c hmay) rdb ?_
  rintro ⟨s, _⟩ _ rfl
  refine app1 (ca1 ?_)
  refine xcl (rAppend_spec (some ⟨b0, 0, none⟩) m1 newN s (fileC c)) rdb ?_
  rintro ⟨r, _⟩ _ ⟨hr, rfl⟩
  simp only at hr
  subst hr
  refine app1 (ca1 (xjoin (xif (fun h2 => ?_) (fun h2 => ?_))))
  · have h2 : (appendM m1 newN (fileC c)).2 = 0 := by simpa using h2
    rw [if_neg (by simpa using h2)]
    refine xcl (rSync_spec (some ⟨b0, 0, none⟩) (appendM m1 newN (fileC c)).1 newN) rdb ?_
    rintro ⟨r, _⟩ _ ⟨hr, rfl⟩
    simp only at hr
    subst hr
    refine app1 (ca1 (xjoin (xif (fun h3 => ?_) (fun h3 => ?_))))
    · have h3 : (syncM (appendM m1 newN (fileC c)).1 newN).2 = 0 := by simpa using h3
      rw [if_neg (by simpa using h3)]
      refine xcl (rRename_spec (some ⟨b0, 0, none⟩) (syncM (appendM m1 newN (fileC c)).1 newN).1 newN curN) rdb ?_
      rintro ⟨r, _⟩ _ ⟨hr, rfl⟩
      exact app1 (ca1 (xuse [RefDev (some ⟨b0, 0, none⟩) (renameM (syncM (appendM m1 newN (fileC c)).1 newN).1 newN curN).1] (xret ⟨hr, rfl⟩)))
    · have h3 : ¬ (syncM (appendM m1 newN (fileC c)).1 newN).2 = 0 := by simpa using h3
      rw [if_pos h3]
      exact xuse [RefDev (some ⟨b0, 0, none⟩) (syncM (appendM m1 newN (fileC c)).1 newN).1] (xret ⟨rfl, rfl⟩)
  · have h2' : ¬ (appendM m1 newN (fileC c)).2 = 0 := by simpa using h2
    rw [if_pos h2']
    refine xjoin (xiff h2 ?_)
    exact xuse [RefDev (some ⟨b0, 0, none⟩) (appendM m1 newN (fileC c)).1] (xret ⟨rfl, rfl⟩)

theorem read_iff (m : DM) (nm : ByteArray) : ((readM m nm).2 = 0 ↔ thereL m.fs nm.toList = true) := by
  unfold readM
  cases thereL m.fs nm.toList <;> simp

theorem rLoad_spec (p : Option Addr) (m : DM) : Ct Pr F_ref24_Load [.pointer p] (.tup [some 3, none]) [.int .i64, .int .i64, .int .i64, .int .i64] [RefDev p m] emp
    (fun t Bs => t.1 = (loadM m).1.a ∧ t.2.1 = (loadM m).1.b ∧ t.2.2.1 = (loadM m).1.c ∧ t.2.2.2.1 = (loadM m).2 ∧ Bs = [RefDev p m]) := by
  refine spec4 c_ref24_Load fun B _ => ?_
  unfold ref24_Load
  refine xfact 0 (fun g hg => (⟨hg.1, rdev_some hg⟩ : DInv m ∧ ∃ b, p = some ⟨b, 0, none⟩)) fun hi => ?_
  obtain ⟨hi, b0, rfl⟩ := hi
  have hbl := body_le hi curN
  refine xnew fun b => xnil (xdown (m := m) (xif (fun hd => ?_) (fun hd => ?_)))
  · have e : loadM m = (cu0, 10) := by unfold loadM; rw [if_pos hd]
    rw [e]
    refine xset (h := xset (h := xset (h := xget (h := xget (h := xget (h := ?_))))))
    exact xuse [RefDev (some ⟨b0, 0, none⟩) m] (xret ⟨rfl, rfl, rfl, rfl, rfl⟩)
  refine xcl (rFind_spec (some ⟨b0, 0, none⟩) m curN) rdb ?_
  rintro ⟨r, _⟩ _ ⟨hr, rfl⟩
  simp only at hr
  subst hr
  refine app1 (ca1 ?_)
  rw [fIdx_neg]
  refine xif (fun h0 => ?_) (fun h0 => ?_)
  · have h0 : (readM m curN).2 ≠ 0 := fun h => by rw [(read_iff m curN).1 h] at h0; cases h0
    have e : loadM m = (cu0, 0) := by unfold loadM; rw [if_neg (by rw [hd]; simp), if_pos h0]
    rw [e]
    refine xset (h := xset (h := xset (h := xget (h := xget (h := xget (h := ?_))))))
    exact xuse [RefDev (some ⟨b0, 0, none⟩) m] (xret ⟨rfl, rfl, rfl, rfl, rfl⟩)
  have h0 : ¬ (readM m curN).2 ≠ 0 := fun h => h ((read_iff m curN).2 (by simpa using h0))
  have e : loadM m = decodeC (readM m curN).1 := by unfold loadM; rw [if_neg (by rw [hd]; simp), if_neg h0]
  rw [e]
  refine xcl (rRead_spec (some ⟨b0, 0, none⟩) m curN) rdb ?_
  rintro ⟨s, r, _⟩ _ ⟨_, rfl⟩
  refine app2 (ca2 ?_)
  generalize (readM m curN).1 = f at *
  refine xlen s fun hsn hsc => ?_
  refine xcl (rGet13_spec s f (by omega) hsc) rdb ?_
  rintro ⟨s1, r1, r2, _⟩ _ ⟨hr1, hr2, rfl⟩
  simp only at hr1 hr2
  subst hr1 hr2
  refine app1 (ca3 ?_)
  have hql := getN_len f
  refine xlen s1 fun hs1n hs1c => ?_
  refine xif (fun hbad => ?_) (fun hbad => ?_)
  · have hbad : (getN f).2.2 ≠ 0 ∨ (getN f).2.1 ≠ f.length ∨ (getN f).1.length ≠ 24 := by
      simp only [Bool.or_eq_true, bne_iff_ne, ne_eq] at hbad
      rcases hbad with (h | h) | h
      · exact .inl h
      · exact .inr (.inl (by omega))
      · exact .inr (.inr (by omega))
    have e : decodeC f = (cu0, 30) := by unfold decodeC; rw [if_pos hbad]
    rw [e]
    refine xset (h := xset (h := xset (h := xget (h := xget (h := xget (h := ?_))))))
    exact xuse [RefDev (some ⟨b0, 0, none⟩) m] (xret ⟨rfl, rfl, rfl, rfl, rfl⟩)
  have hbad : ¬ ((getN f).2.2 ≠ 0 ∨ (getN f).2.1 ≠ f.length ∨ (getN f).1.length ≠ 24) := by
    simp only [Bool.or_eq_false_iff, bne_eq_false_iff_eq] at hbad
    obtain ⟨⟨h1, h2⟩, h3⟩ := hbad
    intro h
    rcases h with h | h | h
    · exact h h1
    · exact h (by omega)
    · exact h (by omega)
  have e : decodeC f = if numC (getN f).1 0 > 1099511627776 ∨ numC (getN f).1 1 > 1099511627776 ∨ numC (getN f).1 2 > 1099511627776 then (cu0, 30) else (⟨numC (getN f).1 0, numC (getN f).1 1, numC (getN f).1 2⟩, 0) := by unfold decodeC; rw [if_neg hbad]
  rw [e]
  have hq24 : (getN f).1.length = 24 := Classical.byContradiction fun h => hbad (.inr (.inr h))
  generalize (getN f).1 = q at *
  refine xcl (rGet02_spec s1 q 0 (by omega) (by omega)) rdb ?_
  rintro ⟨v0, _, _⟩ _ ⟨h1, _, rfl⟩
  simp only at h1
  rw [show beV (cut8 q 0) = numC q 0 from rfl] at h1
  subst h1
  refine app0 (ca2 ?_)
  refine xcl (rGet02_spec s1 q 8 (by omega) (by omega)) rdb ?_
  rintro ⟨v1, _, _⟩ _ ⟨h1, _, rfl⟩
  simp only at h1
  rw [show beV (cut8 q 8) = numC q 1 from rfl] at h1
  subst h1
  refine app0 (ca2 ?_)
  refine xcl (rGet02_spec s1 q 16 (by omega) (by omega)) rdb ?_
  rintro ⟨v2, _, _⟩ _ ⟨h1, _, rfl⟩
  simp only at h1
  rw [show beV (cut8 q 16) = numC q 2 from rfl] at h1
  subst h1
  refine app0 (ca2 (xif (fun hb => ?_) (fun hb => ?_)))
  · have hb : numC q 0 > 1099511627776 ∨ numC q 1 > 1099511627776 ∨ numC q 2 > 1099511627776 := by
      simp only [Bool.or_eq_true, decide_eq_true_iff] at hb
      omega
    rw [if_pos hb]
    refine xset (h := xset (h := xset (h := xget (h := xget (h := xget (h := ?_))))))
    exact xuse [RefDev (some ⟨b0, 0, none⟩) m] (xret ⟨rfl, rfl, rfl, rfl, rfl⟩)
  · have hb : ¬ (numC q 0 > 1099511627776 ∨ numC q 1 > 1099511627776 ∨ numC q 2 > 1099511627776) := by
      simp only [Bool.or_eq_false_iff, decide_eq_false_iff_not] at hb
      omega
    rw [if_neg hb, wrap_id ((numC q 0 : Nat) : Int) (by omega) (by omega), wrap_id ((numC q 1 : Nat) : Int) (by omega) (by omega), wrap_id ((numC q 2 : Nat) : Int) (by omega) (by omega)]
    refine xset (h := xset (h := xset (h := xget (h := xget (h := xget (h := ?_))))))
    exact xuse [RefDev (some ⟨b0, 0, none⟩) m] (xret ⟨rfl, rfl, rfl, rfl, rfl⟩)

end Go.Cx
