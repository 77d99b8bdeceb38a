/-
  The document's device: its longer calls.
-/
import Derived.Test.YthnfnfhcgpnkpaaDP
namespace Go.Cx
open Go Go.Cf
set_option linter.unusedVariables false
variable {B : Base} {As : List HP}

theorem find_erase {fs : List DF} (hs : Sorted fs) {k : Key} (ht : thereL fs k = true) : thereL (fs.eraseIdx (findL fs k)) k = false ∧ findL (fs.eraseIdx (findL fs k)) k = findL fs k := by
  obtain ⟨f, hf, hk⟩ := there_get ht
  have hlt := (List.getElem?_eq_some_iff.1 hf).1
  have hle := List.length_eraseIdx_of_lt hlt
  have he : findL (fs.eraseIdx (findL fs k)) k = findL fs k := by
    refine findL_eq (by omega) (fun t g h hg => ?_) (fun g hg => ?_)
    · rw [List.getElem?_eraseIdx, if_pos h] at hg
      exact findL_lt h hg
    · rw [List.getElem?_eraseIdx, if_neg (by omega)] at hg
      exact findL_ge hs (by omega) hg
  refine ⟨?_, he⟩
  unfold thereL
  rw [he, List.getElem?_eraseIdx, if_neg (by omega)]
  cases hg : fs[findL fs k + 1]? with
  | none => rfl
  | some g =>
    have h1 := hs.get (Nat.lt_succ_self _) hf hg
    simp only [beq_eq_false_iff_ne]
    intro e
    rw [hk, e, lt_irrefl] at h1
    cases h1

theorem set_ins {fs : List DF} {i : Nat} {g : DF} (h : i < fs.length) : insL (fs.eraseIdx i) i g = fs.set i g := by
  unfold insL
  rw [List.eraseIdx_eq_take_drop_succ, List.set_eq_take_append_cons_drop, if_pos h]
  have hl : (fs.take i).length = i := by simp; omega
  rw [List.take_append_of_le_length (by omega), List.drop_append_of_le_length (by omega), List.take_of_length_le (by omega), List.drop_of_length_le (by omega)]
  rfl

theorem withF_find (m : DM) (nm : ByteArray) (hs : Sorted m.fs) : Sorted (withF m nm) ∧ fIdx (withF m nm) nm = (findL m.fs nm.toList : Int) := by
  unfold withF
  cases ht : thereL m.fs nm.toList with
  | true => exact ⟨hs, fIdx_yes ht⟩
  | false =>
    have h := insL_get m.fs (findL m.fs nm.toList) ⟨nm, [], 0⟩ (findL_le _ _)
    have h2 := sorted_ins (g := ⟨nm, [], 0⟩) hs ht
    refine ⟨h2, ?_⟩
    obtain ⟨h3, h4⟩ := find_unique h2 h (k := nm.toList) rfl
    show fIdx (insL m.fs (findL m.fs nm.toList) ⟨nm, [], 0⟩) nm = _
    rw [fIdx_yes h4]
    exact congrArg _ h3

theorem rAppend_spec (p : Option Addr) (m : DM) (nm : ByteArray) (d : Sl) (bs : List UInt8) : Ct Pr F_ref12_Device_Append [.pointer p, .string nm, d.v] .one [.int .i64] [RefDev p m] (RAr U8 d bs)
    (fun t Bs => t.1 = (appendM m nm bs).2 ∧ Bs = [RefDev p (appendM m nm bs).1]) := by
  refine spec1 c_ref12_Device_Append fun B hr => ?_
  have fd : Fro B d U8 bs := ⟨hr⟩
  have hdn := hr.1
  unfold ref12_Device_Append
  refine xrdev 0 fun hi b s cs hp sf hsn => ?_
  subst hp
  have hinv := append_inv hi nm bs
  have hlen := hi.len
  have hcl := sf.len
  have hu := hi.used
  have hroom := hi.room
  refine xcl (rNamed_spec nm) rdb ?_
  rintro ⟨c, _⟩ _ ⟨h1, rfl⟩
  simp only at h1
  subst h1
  refine app0 (ca1 (xif (fun hn => ?_) (fun hn => ?_)))
  · have e : appendM m nm bs = (m, 8) := by unfold appendM; rw [if_pos hn]
    rw [e]
    exact xrdev_back b s cs hi (xret ⟨rfl, rfl⟩)
  have hn : namedB nm = true := by simpa using hn
  refine xnil (xget (h := xif (fun hd => ?_) (fun hd => ?_)))
  · have hd : m.down = true := hd
    have e : appendM m nm bs = (m, 10) := by unfold appendM; rw [hn, hd]; rfl
    rw [e]
    exact xrdev_back b s cs hi (xret ⟨rfl, rfl⟩)
  have hd : m.down = false := hd
  refine xcl (rFind_raw b m.room (leftR m) m.down s cs m.fs nm hi.sorted sf.names (by omega)) rdb ?_
  rintro ⟨r, _⟩ _ ⟨h1, rfl⟩
  simp only at h1
  subst h1
  refine app2 (ca1 ?_)
  rw [fIdx_neg]
  refine xjoin1 (fun x As' => x = (!(thereL m.fs nm.toList) && decide ((m.fs.length : Int) ≥ 64)) ∧ As' = [Blk b (refCells m s), Ar FILE s cs, Each FileR cs m.fs]) ?_ ?_
  · intro J hJ
    refine xif (fun h => xnil (xget (h := hJ _ _ ⟨?_, rfl⟩))) (fun h => hJ _ _ ⟨by rw [h]; rfl, rfl⟩)
    rw [h, hsn, hcl]
    show ((m.fs.length : Int) == 64) = (true && _)
    rw [Bool.true_and, Bool.eq_iff_iff, beq_iff_eq, decide_eq_true_iff]
    omega
  rintro _ _ ⟨rfl, rfl⟩
  refine xjoin1 (fun x As' => x = ((!(thereL m.fs nm.toList) && decide ((m.fs.length : Int) ≥ 64)) || decide ((bs.length : Int) > m.room - usedN m.fs)) ∧ As' = [Blk b (refCells m s), Ar FILE s cs, Each FileR cs m.fs]) ?_ ?_
  · intro J hJ
    refine xif (fun h => hJ _ _ ⟨by rw [h]; rfl, rfl⟩) (fun h => ?_)
    refine xcl (rFree_raw b (leftR m) m.down s cs m hi sf) rdb ?_
    rintro ⟨r, _⟩ _ ⟨hr, rfl⟩
    simp only at hr
    subst hr
    refine app2 (ca1 (hJ _ _ ⟨?_, rfl⟩))
    rw [h, ← hdn]; rfl
  rintro _ _ ⟨rfl, rfl⟩
  refine xif (fun hfull => ?_) (fun hfull => ?_)
  · have e : appendM m nm bs = (m, 9) := by unfold appendM; rw [hn, hd, hfull]; rfl
    rw [e]
    exact xrdev_back b s cs hi (xret ⟨rfl, rfl⟩)
  obtain ⟨q1, q2⟩ := spendM_fs m
  refine xcl (rDone_raw b s m hi.left.1 hi.left.2) rdb ?_
  rintro ⟨r, _⟩ _ ⟨hr, rfl⟩
  simp only at hr
  subst hr
  refine app1 (ca1 (xif (fun hsp => ?_) (fun hsp => ?_)))
  · have hsp : (spendM m).2 = false := by simpa using hsp
    have e : appendM m nm bs = ((spendM m).1, 10) := by unfold appendM; rw [hn, hd, hfull, hsp]; rfl
    rw [e] at hinv ⊢
    exact xrdev_put 0 0 0 b s cs (spendM m).1 hinv (fun _ h => by rw [q1]; exact h) (xret ⟨rfl, rfl⟩)
  have hsp : (spendM m).2 = true := by simpa using hsp
  rw [appendM_ok hn hd hfull hsp] at hinv ⊢
  have hbs : (bs.length : Int) ≤ m.room - usedN m.fs := by
    have := (Bool.or_eq_false_iff.1 hfull).2
    simpa using this
  obtain ⟨hws, hwf⟩ := withF_find m nm hi.sorted
  refine xjoin1 (fun (k : Int) As' => k = (findL m.fs nm.toList : Int) ∧ ∃ s' cs', As' = [Blk b (refCells (spendM m).1 s'), Ar FILE s' cs', Each FileR cs' (withF m nm)]) ?_ ?_
  · intro J hJ
    refine xif (fun h => ?_) (fun h => ?_)
    · have ht : thereL m.fs nm.toList = false := by simpa using h
      have hle := findL_le m.fs nm.toList
      refine xcl (rPut_raw b (spendM m).1.room (leftR (spendM m).1) (spendM m).1.down s cs m.fs (nm, ⟨none, 0, 0⟩, 0) hi.sorted sf.names (by omega) ht) rdb ?_
      rintro _ _ ⟨s2, rfl⟩
      refine app2 (ca0 ?_)
      refine xadd (A := FileR (nm, ⟨none, 0, 0⟩, 0) ⟨nm, [], 0⟩) ⟨rfl, rfl, [], rfl, rfl, .inl ⟨rfl, rfl⟩⟩ ?_
      dsimp only
      refine xfold2 0 2 (Q := Each FileR (cs.take (findL m.fs nm.toList) ++ (nm, ⟨none, 0, 0⟩, 0) :: cs.drop (findL m.fs nm.toList)) (withF m nm)) (fun g hg => ?_) ?_
      · unfold withF
        rw [ht]
        exact each_ins _ hg
      generalize cs.take (findL m.fs nm.toList) ++ (nm, ⟨none, 0, 0⟩, 0) :: cs.drop (findL m.fs nm.toList) = cs2
      refine xfact 0 (fun g hg => sf_of hg) fun sf2 => ?_
      have hwl : (withF m nm).length ≤ 1000 := by
        unfold withF
        rw [ht]
        show (insL m.fs _ _).length ≤ 1000
        rw [insL_length _ _ _ hle]; omega
      refine xcl (rFind_raw b (spendM m).1.room (leftR (spendM m).1) (spendM m).1.down s2 cs2 (withF m nm) nm hws sf2.names hwl) rdb ?_
      rintro ⟨r, _⟩ _ ⟨h1, rfl⟩
      simp only at h1
      subst h1
      exact app2 (ca1 (hJ _ _ ⟨hwf, s2, cs2, rfl⟩))
    · have ht : thereL m.fs nm.toList = true := by simpa using h
      refine hJ _ _ ⟨fIdx_yes ht, s, cs, ?_⟩
      unfold withF
      rw [ht]; rfl
  rintro _ _ ⟨rfl, s', cs', rfl⟩
  obtain ⟨f, hf, hgd, hfu⟩ := withF_get m nm
  rw [hgd] at hinv ⊢
  refine xfact 2 (fun g hg => sf_of hg) fun sf' => ?_
  have hlt : findL m.fs nm.toList < cs'.length := by rw [sf'.len]; exact (List.getElem?_eq_some_iff.1 hf).1
  have hc := List.getElem?_eq_getElem hlt
  generalize cs'[findL m.fs nm.toList] = c at hc
  obtain ⟨e1, e2, e3, e4⟩ := sf'.each _ _ _ hc hf
  generalize findL m.fs nm.toList = i at *
  refine xnil (xget (h := ?_))
  refine xidxn (h1 := hlt) (h := fun _ _ => ?_)
  refine xgetEj hc (h := ?_)
  refine xcl (CopyBytes_spec c.2.1 f.b (by omega)) (rds_pick 2 (fun g hg => each_read (R := FileR) (S := fun c f => RAr U8 c.2.1 f.b) (fun _ _ _ _ h s => h.mono s) (fun _ _ _ h => h.2.2.read) hg hc hf) (fun _ _ h s => h.mono s)) ?_
  rintro ⟨s3, _⟩ _ rfl
  refine app1 (ca1 (xdraw (xnil (xget (h := ?_)))))
  refine xapp (y := d) (hb := by omega) (h := fun s6 => xchk (h := ?_))
  refine xidxn (h1 := hlt) (h := fun _ _ => ?_)
  refine xsetEj (c.1, s6, c.2.2) hc (hj := by decide) (hv := rfl) (h := ?_)
  -- Ar FILE, Blk b, ..
  refine xfold [Ar U8 s6 (f.b ++ bs), Each FileR cs' (withF m nm)] (Each FileR (cs'.set i (c.1, s6, c.2.2)) ((withF m nm).set i { f with b := f.b ++ bs })) (fun g hg => file_new (c' := (c.1, s6, c.2.2)) (f' := { f with b := f.b ++ bs }) hc hf e1 e2 g hg) ?_
  exact xrdev_put 1 1 0 b s' (cs'.set i (c.1, s6, c.2.2)) _ hinv (fun _ h => h) (xret ⟨rfl, rfl⟩)

theorem rWake_spec (p : Option Addr) (m : DM) (keep : Int) : Ct Pr F_ref12_Device_Wake [.pointer p, .int .i64 keep] (.tup []) [] [RefDev p m] emp (fun t Bs => Bs = [RefDev p (wakeM m keep)]) := by
  refine spec0 c_ref12_Device_Wake fun B _ => ?_
  unfold ref12_Device_Wake
  refine xrdev 0 fun hi b s cs hp sf hsn => ?_
  subst hp
  have hinv := wake_inv hi keep
  have hlen := hi.len
  have hcl := sf.len
  refine xloop1 (fun n i As => ∃ (k : Nat) (cs' : List CF), i = (k : Int) ∧ n = m.fs.length - k ∧ k ≤ m.fs.length ∧ cs'.length = m.fs.length ∧ As = [Blk b (refCells m s), Ar FILE s cs', Each FileR cs' ((m.fs.map (wakeF keep)).take k ++ m.fs.drop k)]) m.fs.length ⟨0, cs, rfl, rfl, by omega, hcl, rfl⟩ ?_
  rintro n _ _ K ⟨k, cs', rfl, rfl, hk, hl', rfl⟩ hK
  refine xnil (xget (h := xif_dec (fun h => ?_) (fun h => ?_)))
  · refine xfact 2 (fun g hg => sf_of hg) fun sf' => ?_
    have hkl : k < m.fs.length := by omega
    have hf0 := List.getElem?_eq_getElem hkl
    have hsy := hi.syn _ (List.getElem_mem hkl)
    have hfb : m.fs[k].b.length ≤ 16777216 := by
      have h1 := usedN_erase hf0
      have h2 := hi.used
      have h3 := hi.room
      omega
    have hf : ((m.fs.map (wakeF keep)).take k ++ m.fs.drop k)[k]? = some m.fs[k] := by
      rw [List.getElem?_append_right (by simp; omega)]
      simp [Nat.min_eq_left (Nat.le_of_lt hkl), hf0]
    have hset : ((m.fs.map (wakeF keep)).take k ++ m.fs.drop k).set k (wakeF keep m.fs[k]) = (m.fs.map (wakeF keep)).take (k + 1) ++ m.fs.drop (k + 1) := by
      have hlt : ((m.fs.map (wakeF keep)).take k).length = k := by simp; omega
      rw [List.drop_eq_getElem_cons hkl, List.set_append_right _ _ (by omega), hlt, Nat.sub_self, List.set_cons_zero, List.take_add_one, List.getElem?_map, hf0]
      simp only [Option.map_some, Option.toList_some, List.append_assoc, List.singleton_append]
    generalize m.fs[k] = f at *
    have hc := List.getElem?_eq_getElem (l := cs') (i := k) (by omega)
    generalize cs'[k] = c at hc
    obtain ⟨e1, e2, e3, e4⟩ := sf'.each _ _ _ hc hf
    have hkn := keepN_le hsy keep
    generalize (m.fs.map (wakeF keep)).take k ++ m.fs.drop k = gs at *
    refine xnil (xget (h := ?_))
    refine xidxn (h1 := by omega) (h := fun _ _ => ?_)
    refine xgetEj hc (h := ?_)
    rw [e2]
    refine xloop2 (fun (n : Nat) (n1 : Int) (q : Int) As => ∃ t : Nat, q = (t : Int) ∧ n1 = f.sy + (t : Int) ∧ f.sy + (t : Int) ≤ f.b.length ∧ (t = 0 ∨ (t : Int) ≤ keep) ∧ n = (f.b.length - (f.sy + (t : Int))).toNat ∧ As = [Blk b (refCells m s), Ar FILE s cs', Each FileR cs' gs]) (f.b.length - f.sy).toNat ⟨0, rfl, by omega, by omega, .inl rfl, by omega, rfl⟩ ?_
    rintro n _ _ _ K2 ⟨q, rfl, rfl, hnl, hqk, rfl, rfl⟩ hK2
    refine xjoin1 (fun x As' => x = decide ((q : Int) < keep ∧ f.sy + (q : Int) < f.b.length) ∧ As' = [Blk b (refCells m s), Ar FILE s cs', Each FileR cs' gs]) ?_ ?_
    · intro J hJ
      refine xif_dec (fun h => ?_) (fun h => hJ _ _ ⟨by simp [h], rfl⟩)
      refine xnil (xget (h := ?_))
      refine xidxn (h1 := by omega) (h := fun _ _ => ?_)
      refine xgetEj hc (h := hJ _ _ ⟨?_, rfl⟩)
      rw [e3]; simp [h]
    rintro _ _ ⟨rfl, rfl⟩
    refine xif_dec (fun h => ?_) (fun h => ?_)
    · rw [wrap_id (f.sy + (q : Int) + 1) (by omega) (by omega), wrap_succ q (by omega)]
      exact hK2 (f.b.length - (f.sy + ((q + 1 : Nat) : Int))).toNat _ _ _ (by omega) ⟨q + 1, rfl, by omega, by omega, .inr (by omega), rfl, rfl⟩
    have hkeep : f.sy + (q : Int) = keepN keep f := by
      unfold keepN
      split <;> split <;> omega
    rw [hkeep]
    refine xdraw (xnil (xget (h := xnil (xget (h := ?_)))))
    refine xidxn (h1 := by omega) (h := fun _ _ => ?_)
    refine xgetEj hc (h := ?_)
    refine xslc0 rfl (by omega) (by omega) ?_
    refine xcl (CopyBytes_spec ⟨c.2.1.p, (keepN keep f).toNat, c.2.1.c⟩ (f.b.take (keepN keep f).toNat) (by rw [List.length_take]; omega)) (rds_pick 2 (fun g hg => each_read (R := FileR) (S := fun c f' g => (keepN keep f).toNat ≤ f'.b.length → RAr U8 ⟨c.2.1.p, (keepN keep f).toNat, c.2.1.c⟩ (f'.b.take (keepN keep f).toNat) g) (fun _ _ _ _ h s l => (h l).mono s) (fun c' f' g h l => (ar_cut l h.2.2).read) hg hc hf (by omega)) (fun _ _ h s => h.mono s)) ?_
    rintro ⟨s8, _⟩ _ rfl
    refine app1 (ca1 (xchk (h := ?_)))
    refine xidxn (h1 := by omega) (h := fun _ _ => ?_)
    refine xsetEj (c.1, s8, c.2.2) hc (hj := by decide) (hv := rfl) (h := xnil (xget (h := ?_)))
    have hc2 : (cs'.set k (c.1, s8, c.2.2))[k]? = some (c.1, s8, c.2.2) := List.getElem?_set_self (by omega)
    refine xidxn (h1 := by simp; omega) (h := fun _ _ => ?_)
    refine xsetEj (c.1, s8, keepN keep f) hc2 (hj := by decide) (hv := rfl) (h := ?_)
    rw [List.set_set, wrap_succ k (by omega)]
    refine xfold [Ar U8 s8 (f.b.take (keepN keep f).toNat), Each FileR cs' gs] (Each FileR (cs'.set k (c.1, s8, keepN keep f)) (gs.set k (wakeF keep f))) (fun g hg => file_new (c' := (c.1, s8, keepN keep f)) (f' := wakeF keep f) hc hf e1 rfl g hg) ?_
    rw [hset]
    exact xuse [Blk b (refCells m s), Ar FILE s (cs'.set k (c.1, s8, keepN keep f)), Each FileR (cs'.set k (c.1, s8, keepN keep f)) ((m.fs.map (wakeF keep)).take (k + 1) ++ m.fs.drop (k + 1))] (hK (m.fs.length - (k + 1)) _ _ (by omega) ⟨k + 1, _, rfl, rfl, by omega, by simpa using hl', rfl⟩)
  · have hk' : k = m.fs.length := by omega
    subst hk'
    rw [List.take_of_length_le (by simp), List.drop_length, List.append_nil]
    refine xnil (xset (h := xnil (xset (h := ?_))))
    exact xrdev_put 0 0 0 b s cs' (wakeM m keep) hinv (fun _ h => h) (xret rfl)

end Go.Cx
