/-
  The document's device: what its calls are made of.
-/
import Derived.Test.YthnfnfhcgpnkpaaDL
namespace Go.Cx
open Go Go.Cf
set_option linter.unusedVariables false
variable {B : Base} {As : List HP}

abbrev rc (rm lf : Int) (dn : Bool) (s : Sl) : List Value := [.int .i64 rm, .int .i64 lf, .bool dn, s.v]

theorem xrdev_back (b : Nat) (s : Sl) (cs : List CF) {m : DM} {G : List HP} [q : Split [Blk b (refCells m s), Ar FILE s cs, Each FileR cs m.fs] As G] {φ : WP}
    (hi : DInv m) (k : Ent B (RefDev (some ⟨b, 0, none⟩) m :: G) φ) : Ent B As φ :=
  xfold [Blk b (refCells m s), Ar FILE s cs, Each FileR cs m.fs] (RefDev (some ⟨b, 0, none⟩) m) (fun g hg => ⟨hi, b, s, cs, rfl, hg⟩) k

theorem xjoin2 {s1 s2 : Sh} {body : (s1.ty → s2.ty → WP) → WP} {rest : s1.ty → s2.ty → WP} (J : s1.ty → s2.ty → List HP → Prop) (h1 : ∀ K : s1.ty → s2.ty → WP, (∀ x y As', J x y As' → Ent B As' (K x y)) → Ent B As (body K)) (h2 : ∀ x y As', J x y As' → Ent B As' (rest x y)) :
    Ent B As (XJoin [s1, s2] body rest) := h1 rest h2

theorem rNamed_spec (nm : ByteArray) : Ct Pr F_ref12_Named [.string nm] .one [.bool] [] emp (fun t Bs => t.1 = namedB nm ∧ Bs = []) := by
  refine spec1 c_ref12_Named fun B _ => ?_
  unfold ref12_Named
  refine xret ⟨?_, rfl⟩
  have e : decide ((nm.size : Int) > 0) = decide ((nm.size : Int) ≥ 1) := decide_eq_decide.2 (by omega)
  show (decide ((nm.size : Int) > 0) && _) = _
  rw [e]; rfl

def fIdx (fs : List DF) (nm : ByteArray) : Int := if thereL fs nm.toList then (findL fs nm.toList : Int) else -1
theorem fIdx_yes {fs : List DF} {nm : ByteArray} (h : thereL fs nm.toList = true) : fIdx fs nm = (findL fs nm.toList : Int) := by simp [fIdx, h]
theorem fIdx_no {fs : List DF} {nm : ByteArray} (h : thereL fs nm.toList = false) : fIdx fs nm = -1 := by simp [fIdx, h]
theorem fIdx_neg (fs : List DF) (nm : ByteArray) : decide (fIdx fs nm < 0) = !(thereL fs nm.toList) := by
  cases h : thereL fs nm.toList with
  | true => rw [fIdx_yes h]; simp
  | false => rw [fIdx_no h]; rfl

theorem rFind_raw (b : Nat) (rm lf : Int) (dn : Bool) (s : Sl) (cs : List CF) (fs : List DF) (nm : ByteArray) (hs : Sorted fs) (hn : SameNames cs fs) (hl : fs.length ≤ 1000) :
    Ct Pr F_ref12_Device_Find [.pointer (some ⟨b, 0, none⟩), .string nm] .one [.int .i64] [Blk b (rc rm lf dn s), Ar FILE s cs] emp (fun t Bs => t.1 = fIdx fs nm ∧ Bs = [Blk b (rc rm lf dn s), Ar FILE s cs]) := by
  refine spec1 c_ref12_Device_Find fun B _ => ?_
  unfold ref12_Device_Find
  obtain ⟨hcl, hnm⟩ := hn
  refine xlen s fun hn1 _ => ?_
  refine xloop1 (fun n i As => ∃ k : Nat, i = (k : Int) ∧ n = fs.length - k ∧ k ≤ fs.length ∧ (∀ t f, t < k → fs[t]? = some f → f.key ≠ nm.toList) ∧ As = [Blk b (rc rm lf dn s), Ar FILE s cs]) fs.length ⟨0, rfl, rfl, by omega, fun t f h => by omega, rfl⟩ ?_
  rintro n _ _ K ⟨k, rfl, rfl, hk, hno, rfl⟩ hK
  refine xnil (xget (h := xif_dec (fun h => ?_) (fun h => ?_)))
  · have hf := List.getElem?_eq_getElem (l := fs) (i := k) (by omega)
    have hc := List.getElem?_eq_getElem (l := cs) (i := k) (by omega)
    have hnm' := hnm _ _ _ hc hf
    refine xnil (xget (h := ?_))
    refine xidxn (h1 := by omega) (h := fun _ _ => ?_)
    refine xgetE hc (h := ?_)
    refine xif (fun g => ?_) (fun g => ?_)
    · have hk' : fs[k].key = nm.toList := by rw [DF.key, ← hnm']; simpa using g
      obtain ⟨h1, h2⟩ := find_unique hs hf hk'
      exact xret ⟨by rw [fIdx_yes h2, h1], rfl⟩
    · rw [wrap_succ k (by omega)]
      refine hK (fs.length - (k + 1)) _ _ (by omega) ⟨k + 1, rfl, rfl, by omega, fun t f ht hft => ?_, rfl⟩
      rcases Nat.lt_or_ge t k with h' | h'
      · exact hno t f h' hft
      · obtain rfl : t = k := by omega
        rw [hf] at hft; cases hft; rw [DF.key, ← hnm']; simpa using g
  · have : k = fs.length := by omega
    subst this
    have ht : thereL fs nm.toList = false := by
      cases ht : thereL fs nm.toList with
      | false => rfl
      | true =>
        obtain ⟨f, h1, h2⟩ := there_get ht
        exact absurd h2 (hno _ f (List.getElem?_eq_some_iff.1 h1).1 h1)
    exact xret ⟨by rw [fIdx_no ht], rfl⟩

theorem rUsed_raw (b : Nat) (lf : Int) (dn : Bool) (s : Sl) (cs : List CF) (m : DM) (hi : DInv m) (sf : SF cs m.fs) :
    Ct Pr F_ref12_Device_Used [.pointer (some ⟨b, 0, none⟩)] .one [.int .i64] [Blk b (rc m.room lf dn s), Ar FILE s cs] emp (fun t Bs => t.1 = (usedN m.fs : Int) ∧ Bs = [Blk b (rc m.room lf dn s), Ar FILE s cs]) := by
  refine spec1 c_ref12_Device_Used fun B _ => ?_
  unfold ref12_Device_Used
  have hu := hi.used
  have hroom := hi.room
  have hlen := hi.len
  refine xlen s fun hn _ => ?_
  refine xloop2 (fun n u i As => ∃ k : Nat, i = (k : Int) ∧ u = (usedN (m.fs.take k) : Int) ∧ n = m.fs.length - k ∧ k ≤ m.fs.length ∧ As = [Blk b (rc m.room lf dn s), Ar FILE s cs]) m.fs.length ⟨0, rfl, rfl, rfl, by omega, rfl⟩ ?_
  rintro n _ _ _ K ⟨k, rfl, rfl, rfl, hk, rfl⟩ hK
  have hcl := sf.len
  refine xnil (xget (h := xif_dec (fun h => ?_) (fun h => ?_)))
  · have hf := List.getElem?_eq_getElem (l := m.fs) (i := k) (by omega)
    have hc := List.getElem?_eq_getElem (l := cs) (i := k) (by omega)
    obtain ⟨_, _, h3, _⟩ := sf.each _ _ _ hc hf
    have e := usedN_take m.fs k (by omega)
    have hle := usedN_take_le m.fs (k + 1)
    refine xnil (xget (h := ?_))
    refine xidxn (h1 := by omega) (h := fun _ _ => ?_)
    refine xgetEj hc (h := ?_)
    rw [wrap_succ k (by omega), h3, wrap_id _ (by omega) (by omega)]
    refine hK (m.fs.length - (k + 1)) _ _ _ (by omega) ⟨k + 1, rfl, ?_, rfl, by omega, rfl⟩
    rw [e]; show (_ : Int) = _; simp
  · have : k = m.fs.length := by omega
    subst this
    refine xret ⟨?_, rfl⟩
    rw [List.take_length]

theorem rFree_raw (b : Nat) (lf : Int) (dn : Bool) (s : Sl) (cs : List CF) (m : DM) (hi : DInv m) (sf : SF cs m.fs) :
    Ct Pr F_ref12_Device_Free [.pointer (some ⟨b, 0, none⟩)] .one [.int .i64] [Blk b (rc m.room lf dn s), Ar FILE s cs] emp (fun t Bs => t.1 = m.room - (usedN m.fs : Int) ∧ Bs = [Blk b (rc m.room lf dn s), Ar FILE s cs]) := by
  refine spec1 c_ref12_Device_Free fun B _ => ?_
  unfold ref12_Device_Free
  have hu := hi.used
  have hroom := hi.room
  refine xdraw (xnil (xget (h := ?_)))
  refine xcl (rUsed_raw b lf dn s cs m hi sf) rdb ?_
  rintro ⟨r, _⟩ _ ⟨hr, rfl⟩
  simp only at hr
  subst hr
  refine app2 (ca1 (xchk (h := ?_)))
  rw [wrap_id _ (by omega) (by omega)]
  exact xret ⟨rfl, rfl⟩

theorem rDone_raw (b : Nat) (s : Sl) (m : DM) (hl : i64 m.left) (ha : m.armed = true → 0 ≤ m.left) :
    Ct Pr F_ref12_Device_Done [.pointer (some ⟨b, 0, none⟩)] .one [.bool] [Blk b (refCells m s)] emp (fun t Bs => t.1 = (spendM m).2 ∧ Bs = [Blk b (refCells (spendM m).1 s)]) := by
  refine spec1 c_ref12_Device_Done fun B _ => ?_
  unfold ref12_Device_Done
  obtain ⟨ar, dn, lf, rm, fs⟩ := m
  cases ar with
  | false => exact xnil (xget (h := xiff rfl (xnil (xget (h := xjoin (xiff rfl (xret ⟨rfl, rfl⟩)))))))
  | true =>
    have h0 := ha rfl
    simp only at h0 hl
    refine xnil (xget (h := xif (fun h => ?_) (fun h => ?_)))
    · have e : spendM ⟨true, dn, lf, rm, fs⟩ = (⟨true, true, lf, rm, fs⟩, false) := by
        have : (lf == 0) = true := h
        simp [spendM, this]
      rw [e]
      exact xnil (xset (h := xret ⟨rfl, rfl⟩))
    · have hne : (lf == 0) = false := h
      have hne' : ¬ lf = 0 := by simpa using hne
      have e : spendM ⟨true, dn, lf, rm, fs⟩ = (⟨true, dn, lf - 1, rm, fs⟩, true) := by simp [spendM, hne]
      rw [e]
      refine xnil (xget (h := xjoin (xift (decide_eq_true (show (if true = true then lf else -1) > 0 by simp; omega)) (xnil (xget (h := xnil (xset (h := ?_))))))))
      have e1 : IntKind.i64.wrap (lf - 1) = lf - 1 := by unfold i64 at hl; exact wrap_id _ (by omega) (by omega)
      refine xret ⟨rfl, ?_⟩
      show [Blk b [_, .int .i64 (IntKind.i64.wrap (lf - 1)), _, _]] = _
      rw [e1]; rfl

def thR (m : DM) (nm : ByteArray) : Int × Int := if m.down then (0, 10) else if thereL m.fs nm.toList then (findL m.fs nm.toList, 0) else (0, 6)

theorem rthere_raw (b : Nat) (s : Sl) (cs : List CF) (m : DM) (nm : ByteArray) (hi : DInv m) (sf : SF cs m.fs) :
    Ct Pr F_ref12_Device_there [.pointer (some ⟨b, 0, none⟩), .string nm] (.tup [none, none]) [.int .i64, .int .i64] [Blk b (refCells m s), Ar FILE s cs] emp
    (fun t Bs => t.1 = (thR m nm).1 ∧ t.2.1 = (thR m nm).2 ∧ Bs = [Blk b (refCells m s), Ar FILE s cs]) := by
  refine spec2 c_ref12_Device_there fun B _ => ?_
  unfold ref12_Device_there
  have hlen := hi.len
  refine xnil (xget (h := xif (fun h => ?_) (fun h => ?_)))
  · have h : m.down = true := h
    exact xret ⟨by simp [thR, h], by simp [thR, h], rfl⟩
  have h : m.down = false := h
  refine xcl (rFind_raw b m.room (leftR m) m.down s cs m.fs nm hi.sorted sf.names (by omega)) rdb ?_
  rintro ⟨r, _⟩ _ ⟨hr, rfl⟩
  simp only at hr
  subst hr
  refine app2 (ca1 ?_)
  rw [fIdx_neg]
  refine xif (fun g => ?_) (fun g => ?_)
  · have g : thereL m.fs nm.toList = false := by simpa using g
    exact xret ⟨by simp [thR, h, g], by simp [thR, h, g], rfl⟩
  · have g : thereL m.fs nm.toList = true := by simpa using g
    rw [fIdx_yes g]
    exact xret ⟨by simp [thR, h, g], by simp [thR, h, g], rfl⟩

theorem erase_take {α : Type} (l : List α) (i k : Nat) (h : i < l.length) : (l.take (i + 1)).eraseIdx k = (l.take i).eraseIdx k ++ (if i = k then [] else [l[i]]) := by
  have hlt : (l.take i).length = i := by simp; omega
  rw [List.take_add_one, List.getElem?_eq_getElem h]
  show (l.take i ++ [l[i]]).eraseIdx k = _
  rcases Nat.lt_or_ge k i with h1 | h1
  · rw [List.eraseIdx_append_of_lt_length (by omega), if_neg (by omega)]
  · rw [List.eraseIdx_append_of_length_le (by omega), List.eraseIdx_of_length_le (l := l.take i) (by omega), hlt]
    by_cases e : i = k
    · subst e; simp
    · rw [if_neg e, List.eraseIdx_of_length_le (by simp; omega)]

def putL {α : Type} (cs : List α) (j : Nat) (c : α) (i : Nat) : List α := if i ≤ j then cs.take i else cs.take j ++ c :: (cs.take i).drop j

theorem putL_succ {α : Type} (cs : List α) (j : Nat) (c : α) (i : Nat) (h : i < cs.length) : putL cs j c (i + 1) = (putL cs j c i ++ if i = j then [c] else []) ++ [cs[i]] := by
  have et : cs.take (i + 1) = cs.take i ++ [cs[i]] := by rw [List.take_add_one, List.getElem?_eq_getElem h]; rfl
  have hlt : (cs.take i).length = i := by simp; omega
  unfold putL
  rcases Nat.lt_trichotomy i j with h1 | h1 | h1
  · rw [if_pos (by omega), if_pos (by omega), if_neg (by omega), et]; simp
  · subst h1
    rw [if_neg (by omega), if_pos (by omega), if_pos rfl, et, List.drop_left' hlt]; simp
  · rw [if_neg (by omega), if_neg (by omega), if_neg (by omega), et, List.drop_append_of_le_length (by omega)]; simp

theorem putL_end {α : Type} (cs : List α) (j : Nat) (c : α) (hj : j ≤ cs.length) : (putL cs j c cs.length ++ if j = cs.length then [c] else []) = cs.take j ++ c :: cs.drop j := by
  unfold putL
  by_cases h : j = cs.length
  · subst h; simp
  · rw [if_neg (by omega), if_neg h]; simp

theorem putL_len {α : Type} (cs : List α) (j : Nat) (c : α) (i : Nat) (h : i ≤ cs.length) : (putL cs j c i).length ≤ cs.length + 1 := by
  unfold putL
  split
  · simp; omega
  · simp; omega

theorem rPut_raw (b : Nat) (rm lf : Int) (dn : Bool) (s : Sl) (cs : List CF) (fs : List DF) (c : CF) (hs : Sorted fs) (hn : SameNames cs fs) (hl : fs.length ≤ 1000) (hno : thereL fs c.1.toList = false) :
    Ct Pr F_ref12_Device_Put [.pointer (some ⟨b, 0, none⟩), .agg #[.string c.1, c.2.1.v, .int .i64 c.2.2]] (.tup []) [] [Blk b (rc rm lf dn s), Ar FILE s cs] emp
    (fun t Bs => ∃ s', Bs = [Blk b (rc rm lf dn s'), Ar FILE s' (cs.take (findL fs c.1.toList) ++ c :: cs.drop (findL fs c.1.toList))]) := by
  refine spec0 c_ref12_Device_Put fun B _ => ?_
  unfold ref12_Device_Put
  obtain ⟨hcl, hnm⟩ := hn
  have hjl := findL_le fs c.1.toList
  have hless : ∀ (i : Nat) (f : DF), fs[i]? = some f → Op.bytesLess c.1.toList f.nm.toList = decide (findL fs c.1.toList ≤ i) := by
    intro i f hf
    rcases Nat.lt_or_ge i (findL fs c.1.toList) with h | h
    · have := lt_asymm (findL_lt h hf)
      rw [show Op.bytesLess c.1.toList f.nm.toList = false from this]
      simp; omega
    · have h1 := findL_ge hs h hf
      have h2 := not_there hs hno f (List.mem_of_getElem? hf)
      have h3 : lt c.1.toList f.key = true := by
        cases h3 : lt c.1.toList f.key with
        | true => rfl
        | false => exact absurd (lt_total h1 h3) h2
      rw [show Op.bytesLess c.1.toList f.nm.toList = true from h3]
      simp; omega
  generalize findL fs c.1.toList = j at *
  refine xlen s fun hn1 _ => xnew fun b1 => xnone FILE ?_
  refine xloop3 (fun (n : Nat) (o : Sl) (laid : Bool) (i : Int) As => ∃ t : Nat, i = (t : Int) ∧ n = cs.length - t ∧ t ≤ cs.length ∧ laid = decide (j < t) ∧ As = [Ar FILE o (putL cs j c t), Blk b1 [.string c.1, c.2.1.v, .int .i64 c.2.2], Blk b (rc rm lf dn s), Ar FILE s cs]) cs.length ⟨0, rfl, rfl, by omega, by simp, by simp [putL]⟩ ?_
  rintro n o _ _ _ K ⟨t, rfl, rfl, ht, rfl, rfl⟩ hK
  have hpl := putL_len cs j c t ht
  refine xnil (xget (h := xif_dec (fun h => ?_) (fun h => ?_)))
  · have htl : t < cs.length := by omega
    have hc := List.getElem?_eq_getElem htl
    have hf := List.getElem?_eq_getElem (l := fs) (i := t) (by omega)
    have hnm' := hnm _ _ _ hc hf
    have hle := hless _ _ hf
    have et := putL_succ cs j c t htl
    generalize cs[t] = c1 at *
    rw [← hnm'] at hle
    refine xdraw ?_
    refine xjoin1 (fun (q : Bool) As' => q = decide (t = j) ∧ As' = [Ar FILE o (putL cs j c t), Blk b1 [.string c.1, c.2.1.v, .int .i64 c.2.2], Blk b (rc rm lf dn s), Ar FILE s cs]) ?_ ?_
    · intro J hJ
      refine xif (fun g => ?_) (fun g => ?_)
      · have g : t ≤ j := by simpa using g
        refine xget (h := xnil (xget (h := ?_)))
        refine xidxn (h1 := by omega) (h := fun _ _ => ?_)
        refine xgetE hc (h := ?_)
        refine hJ _ _ ⟨?_, rfl⟩
        rw [hle]
        exact decide_eq_decide.2 (by omega)
      · have g : j < t := by simpa using g
        refine hJ _ _ ⟨?_, rfl⟩
        rw [decide_eq_false (by omega)]
    rintro _ _ ⟨rfl, rfl⟩
    refine xjoin2 (fun (o1 : Sl) (l1 : Bool) As' => l1 = decide (j < t + 1) ∧ As' = [Ar FILE o1 (putL cs j c t ++ if t = j then [c] else []), Blk b1 [.string c.1, c.2.1.v, .int .i64 c.2.2], Blk b (rc rm lf dn s), Ar FILE s cs]) ?_ ?_
    · intro J hJ
      refine xif_dec (fun g => ?_) (fun g => ?_)
      · rw [if_pos g] at hJ
        refine xget (h := xget (h := xget (h := xnew fun b2 => ?_)))
        refine xapp1 c (hb := by omega) (h := fun s' => ?_)
        exact hJ _ _ _ ⟨by simp; omega, rfl⟩
      · rw [if_neg g, List.append_nil] at hJ
        exact hJ _ _ _ ⟨decide_eq_decide.2 (by omega), rfl⟩
    rintro o1 _ _ ⟨rfl, rfl⟩
    refine xnil (xget (h := ?_))
    refine xidxn (h1 := by omega) (h := fun _ _ => ?_)
    refine xgetE hc (h := ?_)
    refine xgetEj hc (h := ?_)
    refine xgetEj hc (h := xnew fun b2 => ?_)
    refine xapp1 c1 (hb := by rw [List.length_append]; split <;> simp <;> omega) (h := fun s' => ?_)
    rw [wrap_succ t (by omega)]
    exact hK (cs.length - (t + 1)) _ _ _ _ (by omega) ⟨t + 1, rfl, rfl, by omega, rfl, by rw [et]⟩
  · have : t = cs.length := by omega
    subst this
    have ee := putL_end cs j c (by omega)
    refine xjoin1 (fun (o1 : Sl) As' => As' = [Ar FILE o1 (cs.take j ++ c :: cs.drop j), Blk b1 [.string c.1, c.2.1.v, .int .i64 c.2.2], Blk b (rc rm lf dn s), Ar FILE s cs]) ?_ ?_
    · intro J hJ
      refine xif (fun g => ?_) (fun g => ?_)
      · have g : j = cs.length := by simp at g; omega
        rw [if_pos g] at ee
        refine xget (h := xget (h := xget (h := xnew fun b2 => ?_)))
        refine xapp1 c (hb := by omega) (h := fun s' => ?_)
        exact hJ _ _ (by rw [ee])
      · have g : ¬ j = cs.length := by simp at g; omega
        rw [if_neg g, List.append_nil] at ee
        exact hJ _ _ (by rw [ee])
    rintro o1 _ rfl
    exact xnil (xset (h := xdrop 1 (xdrop 2 (xfront 1 (xret ⟨o1, rfl⟩)))))

end Go.Cx
