/-
  The plain law of a configuration's text: words, numbers, lines.
-/
import Derived.Test.YtncgenibaclejaaDoorCB
import Derived.Lib.IndexLaws
import Derived.Lib.IndexBytes
import Derived.Lib.CountLaws
import Derived.Lib.SplitLaws
import Derived.Lib.Split
import Derived.Lib.Atoi
namespace Go.Cx
open Go Go.Cf
set_option linter.unusedVariables false
set_option maxRecDepth 100000

/-! Words. -/
def splitL (c : UInt8) : List UInt8 → List (List UInt8)
  | [] => [[]]
  | b :: r => if b = c then [] :: splitL c r else match splitL c r with
    | w :: ws => (b :: w) :: ws
    | [] => [[b]]
theorem splitL_none {c : UInt8} : ∀ {s : List UInt8}, c ∉ s → splitL c s = [s]
  | [], _ => rfl
  | b :: r, h => by
    have h1 : ¬ b = c := fun e => h (by simp [e])
    have h2 := splitL_none (s := r) (c := c) (fun e => h (by simp [e]))
    simp only [splitL, if_neg h1, h2]
theorem splitL_hit {c : UInt8} : ∀ {a r : List UInt8}, c ∉ a → splitL c (a ++ c :: r) = a :: splitL c r
  | [], r, _ => by simp [splitL]
  | b :: a, r, h => by
    have h1 : ¬ b = c := fun e => h (by simp [e])
    have h2 := splitL_hit (a := a) (r := r) (c := c) (fun e => h (by simp [e]))
    simp only [List.cons_append, splitL, if_neg h1, h2]
theorem splitL_ne (c : UInt8) (s : List UInt8) : splitL c s ≠ [] := by
  cases s with
  | nil => simp [splitL]
  | cons b r => simp only [splitL]; repeat' split; all_goals simp

theorem index_split {s : List UInt8} {c : UInt8} {i : Nat} (h : Lib.index s [c] = i) : c ∉ s.take i ∧ s = s.take i ++ c :: s.drop (i + 1) := by
  rw [Lib.index_one] at h
  obtain ⟨h1, h2⟩ := Lib.indexByte_some h
  have hi := (List.getElem?_eq_some_iff.1 h1).1
  refine ⟨fun hm => ?_, ?_⟩
  · obtain ⟨k, hk, hkc⟩ := List.mem_iff_getElem.1 hm
    rw [List.getElem_take] at hkc
    have hk' : k < i := by simp at hk; omega
    exact h2 k hk' (by rw [List.getElem?_eq_getElem (by omega), hkc])
  · conv => lhs; rw [← List.take_append_drop i s]
    congr 1
    rw [List.drop_eq_getElem_cons hi]
    congr 1
    exact (List.getElem?_eq_some_iff.1 h1).2
theorem index_miss {s : List UInt8} {c : UInt8} (h : Lib.index s [c] = -1) : c ∉ s := by
  rw [Lib.index_one] at h
  intro hm
  obtain ⟨k, hk, hkc⟩ := List.mem_iff_getElem.1 hm
  exact Lib.indexByte_none h k (by rw [List.getElem?_eq_getElem hk, hkc])
theorem index_cases (s : List UInt8) (c : UInt8) : Lib.index s [c] = -1 ∨ ∃ i : Nat, Lib.index s [c] = i := by
  have := Lib.index_ge s [c]
  by_cases h : Lib.index s [c] = -1
  · exact .inl h
  · exact .inr ⟨(Lib.index s [c]).toNat, by omega⟩

theorem splitK_eq (c : UInt8) : ∀ (n : Nat) (s : List UInt8), s.length ≤ n → Lib.splitK [c] 0 (Lib.count s [c]) s = splitL c s
  | 0, s, h => by
    have : s = [] := List.length_eq_zero_iff.1 (by omega)
    subst this
    have hm : Lib.index [] [c] = -1 := rfl
    rw [Lib.count_miss hm]; rfl
  | n + 1, s, h => by
    rcases index_cases s c with hm | ⟨i, hi⟩
    · rw [Lib.count_miss hm, splitL_none (index_miss hm)]; rfl
    · obtain ⟨h1, h2⟩ := index_split hi
      rw [Lib.count_hit (by simp) hi, Nat.add_comm, Lib.splitK]
      rw [if_neg (by rw [hi]; simp), hi]
      have hl : i + 1 ≤ s.length := by
        have := congrArg List.length h2
        simp at this; omega
      have := splitK_eq c n (s.drop (i + 1)) (by simp; omega)
      simp only [Int.toNat_natCast, Nat.add_zero, List.length_cons, List.length_nil, Nat.zero_add]
      rw [this]
      conv => rhs; rw [h2]
      rw [splitL_hit h1]

theorem splitB_eq (s : ByteArray) (c : UInt8) : Lib.splitB (BA [c]) 0 (Lib.countB s (BA [c])) s = (splitL c s.data.toList).map BA := by
  have h := Lib.splitB_data (BA [c]) 0 (Lib.countB s (BA [c])) s
  rw [BA_list] at h
  have e : Lib.countB s (BA [c]) = Lib.count s.data.toList [c] := by
    show Lib.count s.data.toList (BA [c]).data.toList = _
    rw [BA_list]
  rw [e] at h ⊢
  rw [splitK_eq c _ _ (Nat.le_refl _)] at h
  rw [← h, List.map_map]
  conv => lhs; rw [← List.map_id (Lib.splitB _ _ _ _)]
  exact List.map_congr_left fun w _ => (BA_data w).symm

theorem cut_miss {s : List UInt8} {c : UInt8} (h : c ∉ s) : Lib.cut s [c] = (s, [], false) := by
  rcases index_cases s c with hm | ⟨i, hi⟩
  · unfold Lib.cut; rw [if_neg (by rw [hm]; decide)]
  · exact absurd (by rw [(index_split hi).2]; simp) h
theorem cut_hit {a r : List UInt8} {c : UInt8} (h : c ∉ a) : Lib.cut (a ++ c :: r) [c] = (a, r, true) := by
  rcases index_cases (a ++ c :: r) c with hm | ⟨i, hi⟩
  · exact absurd (by simp) (index_miss hm)
  · obtain ⟨h1, h2⟩ := index_split hi
    have e : splitL c (a ++ c :: r) = splitL c ((a ++ c :: r).take i ++ c :: (a ++ c :: r).drop (i + 1)) := congrArg _ h2
    rw [splitL_hit h, splitL_hit h1] at e
    have e1 : a = (a ++ c :: r).take i := (List.cons.inj e).1
    have hl : i = a.length := by
      have := congrArg List.length e1
      have h3 := congrArg List.length h2
      simp at this h3
      omega
    unfold Lib.cut
    rw [if_pos (by rw [hi]; omega), hi]
    simp [hl]

/-! Numbers. -/
def isDig (b : UInt8) : Bool := decide (48 ≤ b.toNat) && decide (b.toNat ≤ 57)
def decV (l : List UInt8) : Nat := l.foldl (fun a b => a * 10 + (b.toNat - 48)) 0
def bare (w : List UInt8) : List UInt8 := match w with
  | b :: r => if b = 45 then r else w
  | [] => []
def isNeg (w : List UInt8) : Bool := match w with
  | b :: _ => b == 45
  | [] => false
def numOk (w : List UInt8) : Bool := decide (1 ≤ (bare w).length) && decide ((bare w).length ≤ 13) && !(decide ((bare w).length > 1) && ((bare w)[0]? == some 48)) && !(w == [45, 48]) && (bare w).all isDig
def numI (w : List UInt8) : Option Int := if numOk w = true then some (if isNeg w = true then -(decV (bare w) : Int) else decV (bare w)) else none

theorem decFrom_dig : ∀ (l : List UInt8) (a : Nat), l.all isDig = true → Lib.decFrom a l = some (l.foldl (fun a b => a * 10 + (b.toNat - 48)) a)
  | [], _, _ => rfl
  | b :: r, a, h => by
    simp only [List.all_cons, Bool.and_eq_true] at h
    have hb : Lib.digitVal b = some (b.toNat - 48) := by
      unfold Lib.digitVal
      have := h.1
      simp only [isDig, Bool.and_eq_true, decide_eq_true_eq] at this
      rw [if_pos this]
    simp only [Lib.decFrom, hb, List.foldl_cons]
    exact decFrom_dig r _ h.2

theorem numOk_parts {w : List UInt8} (h : numOk w = true) : 1 ≤ (bare w).length ∧ (bare w).length ≤ 13 ∧ ((bare w).length > 1 → (bare w)[0]? ≠ some 48) ∧ w ≠ [45, 48] ∧ (bare w).all isDig = true := by
  unfold numOk at h
  simp only [Bool.and_eq_true, decide_eq_true_eq, Bool.not_eq_true', Bool.and_eq_false_iff, decide_eq_false_iff_not, beq_eq_false_iff_ne, ne_eq] at h
  obtain ⟨⟨⟨⟨h1, h2⟩, h3⟩, h4⟩, h5⟩ := h
  exact ⟨h1, h2, fun h => h3.resolve_left (by omega), h4, h5⟩

theorem atoi_of {w : List UInt8} (h : numOk w = true) : Lib.atoi w = numI w := by
  obtain ⟨h1, h2, h3, h4, h5⟩ := numOk_parts h
  unfold numI
  rw [if_pos h]
  cases w with
  | nil => simp [bare] at h1
  | cons b r =>
    unfold Lib.atoi
    by_cases hb : b = 45
    · subst hb
      have hr : bare (45 :: r) = r := by simp [bare]
      rw [hr] at h1 h5 ⊢
      have hn : r.isEmpty = false := by cases r with
        | nil => simp at h1
        | cons _ _ => rfl
      simp only [beq_self_eq_true, if_true, Lib.decNat, hn, isNeg]
      rw [show Lib.decFrom 0 r = _ from decFrom_dig r 0 h5]
      simp [decV]
    · have hr : bare (b :: r) = b :: r := by simp [bare, hb]
      rw [hr] at h5 ⊢
      have hd : isDig b = true := by simp only [List.all_cons, Bool.and_eq_true] at h5; exact h5.1
      have h43 : (b == 43) = false := by
        simp only [isDig, Bool.and_eq_true, decide_eq_true_eq] at hd
        rw [beq_eq_false_iff_ne]
        intro e; subst e; simp at hd
      have h45 : (b == 45) = false := by simpa using hb
      simp only [h45, h43, Lib.decNat, List.isEmpty_cons, isNeg]
      simp only [Bool.false_eq_true, if_false]
      rw [show Lib.decFrom 0 (b :: r) = _ from decFrom_dig (b :: r) 0 h5]
      simp [decV]

theorem decV_snoc (l : List UInt8) (b : UInt8) : decV (l ++ [b]) = decV l * 10 + (b.toNat - 48) := by
  unfold decV; rw [List.foldl_append]; rfl
theorem decV_fold (l : List UInt8) : ∀ a : Nat, a ≤ l.foldl (fun a b => a * 10 + (b.toNat - 48)) a := by
  induction l with
  | nil => intro a; exact Nat.le_refl _
  | cons b r ih =>
    intro a
    have := ih (a * 10 + (b.toNat - 48))
    simp only [List.foldl_cons]
    omega
theorem decV_pos {l : List UInt8} {b : UInt8} (h : l[0]? = some b) (hd : isDig b = true) (h0 : b ≠ 48) : 1 ≤ decV l := by
  cases l with
  | nil => simp at h
  | cons x r =>
    obtain rfl : x = b := by simpa using h
    unfold decV
    simp only [List.foldl_cons]
    have := decV_fold r (0 * 10 + (x.toNat - 48))
    simp only [isDig, Bool.and_eq_true, decide_eq_true_eq] at hd
    have : x.toNat ≠ 48 := fun e => h0 (UInt8.toNat_inj.1 (by rw [e]; rfl))
    omega

theorem dig_of {b : UInt8} (h : isDig b = true) : UInt8.ofNat (48 + (b.toNat - 48)) = b := by
  simp only [isDig, Bool.and_eq_true, decide_eq_true_eq] at h
  rw [show 48 + (b.toNat - 48) = b.toNat by omega]
  simp

theorem dec_of_list : ∀ (n : Nat) (l : List UInt8), l.length = n → l ≠ [] → l.all isDig = true → (l.length > 1 → l[0]? ≠ some 48) → Lib.decDigits (decV l) = l
  | 0, l, hn, h0, _, _ => absurd (List.length_eq_zero_iff.1 hn) h0
  | n + 1, l, hn, h0, hd, hz => by
    obtain ⟨p, b, rfl⟩ : ∃ p b, l = p ++ [b] := ⟨l.dropLast, l.getLast h0, (List.dropLast_concat_getLast h0).symm⟩
    rw [decV_snoc]
    have hb : isDig b = true := by rw [List.all_append, Bool.and_eq_true] at hd; simpa using hd.2
    have hp : p.all isDig = true := by rw [List.all_append, Bool.and_eq_true] at hd; exact hd.1
    have hb9 : b.toNat - 48 < 10 := by
      simp only [isDig, Bool.and_eq_true, decide_eq_true_eq] at hb; omega
    cases hpe : p with
    | nil =>
      simp only [decV, List.foldl_nil, Nat.zero_mul, Nat.zero_add, List.nil_append]
      rw [dec_small hb9, dig_of hb]
    | cons x r =>
      have h1 : p[0]? = some x := by rw [hpe]; rfl
      have hx : isDig x = true := by rw [hpe] at hp; simp only [List.all_cons, Bool.and_eq_true] at hp; exact hp.1
      have hxz : x ≠ 48 := fun e => hz (by rw [hpe]; simp) (by rw [hpe, e]; rfl)
      have hpos := decV_pos h1 hx hxz
      rw [← hpe]
      have ih := dec_of_list n p (by simpa using hn) (by rw [hpe]; simp) hp (fun _ => by rw [h1]; simpa using hxz)
      rw [dec_big (by omega)]
      have e1 : (decV p * 10 + (b.toNat - 48)) / 10 = decV p := by omega
      have e2 : (decV p * 10 + (b.toNat - 48)) % 10 = b.toNat - 48 := by omega
      rw [e1, e2, ih, dig_of hb]

theorem dec_facts : ∀ (n u : Nat), u ≤ n → Lib.decDigits u ≠ [] ∧ (Lib.decDigits u).all isDig = true ∧ decV (Lib.decDigits u) = u ∧ ((Lib.decDigits u).length > 1 → (Lib.decDigits u)[0]? ≠ some 48) ∧ (1 ≤ u → (Lib.decDigits u)[0]? ≠ some 48)
  | n, u, hu => by
    have hdig : ∀ k, k < 10 → isDig (UInt8.ofNat (48 + k)) = true ∧ (UInt8.ofNat (48 + k)).toNat = 48 + k := by
      intro k hk
      have : (UInt8.ofNat (48 + k)).toNat = 48 + k := by rw [UInt8.toNat_ofNat']; omega
      exact ⟨by simp only [isDig, this, Bool.and_eq_true, decide_eq_true_eq]; omega, this⟩
    by_cases h : u < 10
    · rw [dec_small h]
      obtain ⟨h1, h2⟩ := hdig u h
      refine ⟨by simp, by simp only [List.all_cons, List.all_nil, Bool.and_true]; exact h1, by simp only [decV, List.foldl_cons, List.foldl_nil, h2]; omega, by simp, fun h0 e => ?_⟩
      have e := Option.some.inj e
      have := congrArg UInt8.toNat e
      rw [h2] at this
      simp at this; omega
    · match n with
      | 0 => omega
      | n + 1 =>
        obtain ⟨i1, i2, i3, i4, i5⟩ := dec_facts n (u / 10) (by omega)
        obtain ⟨h1, h2⟩ := hdig (u % 10) (by omega)
        rw [dec_big h]
        refine ⟨by simp, by rw [List.all_append, i2]; simp only [List.all_cons, List.all_nil, Bool.and_true, Bool.true_and]; exact h1, by rw [decV_snoc, i3, h2]; omega, fun _ => ?_, fun _ => ?_⟩
        all_goals
          have hlen : 0 < (Lib.decDigits (u / 10)).length := List.length_pos_iff.2 i1
          rw [List.getElem?_append_left hlen]
          exact i5 (by omega)

theorem decV_lt : ∀ (l : List UInt8) (a n : Nat), l.all isDig = true → a < 10 ^ n → l.foldl (fun a b => a * 10 + (b.toNat - 48)) a < 10 ^ (n + l.length)
  | [], a, n, _, h => by simpa using h
  | b :: r, a, n, hh, h => by
    simp only [List.all_cons, Bool.and_eq_true] at hh
    have hb := hh.1
    simp only [isDig, Bool.and_eq_true, decide_eq_true_eq] at hb
    have := decV_lt r (a * 10 + (b.toNat - 48)) (n + 1) hh.2 (by rw [Nat.pow_succ]; omega)
    simp only [List.foldl_cons, List.length_cons]
    rw [show n + (r.length + 1) = n + 1 + r.length by omega]
    exact this

theorem itoa_of_num {w : List UInt8} {v : Int} (h : numI w = some v) : Lib.itoa v = w ∧ -10000000000000 < v ∧ v < 10000000000000 := by
  unfold numI at h
  split at h
  · rename_i hok
    obtain ⟨h1, h2, h3, h4, h5⟩ := numOk_parts hok
    have hd := dec_of_list _ (bare w) rfl (fun e => by rw [e] at h1; simp at h1) h5 h3
    have hlt : ∀ l : List UInt8, l.all isDig = true → decV l < 10 ^ l.length := fun l hh => by
      have := decV_lt l 0 0 hh (by decide)
      rw [Nat.zero_add] at this
      exact this
    have hl := hlt _ h5
    have hp : 10 ^ (bare w).length ≤ 10 ^ 13 := Nat.pow_le_pow_right (by decide) h2
    have hp13 : (10 : Nat) ^ 13 = 10000000000000 := by decide
    have hv := Option.some.inj h
    cases w with
    | nil => simp [bare] at h1
    | cons b r =>
      by_cases hb : b = 45
      · subst hb
        have hr : bare (45 :: r) = r := by simp [bare]
        rw [hr] at hd hl hp hv h1
        simp only [isNeg, beq_self_eq_true, if_true] at hv
        subst hv
        have hne : decV r ≠ 0 := by
          intro e
          rw [e, dec_small (by decide)] at hd
          exact h4 (by rw [← hd]; rfl)
        refine ⟨?_, by omega, by omega⟩
        unfold Lib.itoa
        rw [if_pos (by omega)]
        have : (-(decV r : Int)).natAbs = decV r := by omega
        rw [this, hd]
      · have hr : bare (b :: r) = b :: r := by simp [bare, hb]
        rw [hr] at hd hl hp hv
        have hnb : isNeg (b :: r) = false := by simp [isNeg, hb]
        rw [hnb] at hv
        simp only [Bool.false_eq_true, if_false] at hv
        subst hv
        refine ⟨?_, by omega, by omega⟩
        unfold Lib.itoa
        rw [if_neg (by omega)]
        rw [Int.toNat_natCast, hd]
  · cases h

theorem num_of_itoa {v : Int} (h0 : -10000000000000 < v) (h1 : v < 10000000000000) : numI (Lib.itoa v) = some v := by
  have hlen : ∀ u : Nat, u < 10000000000000 → (Lib.decDigits u).length ≤ 13 := fun u hu => dec_len 12 u (by simpa using hu)
  unfold Lib.itoa
  split
  · rename_i hv
    obtain ⟨f1, f2, f3, f4, f5⟩ := dec_facts v.natAbs v.natAbs (Nat.le_refl _)
    have hl := hlen v.natAbs (by omega)
    have hb : bare (45 :: Lib.decDigits v.natAbs) = Lib.decDigits v.natAbs := by simp [bare]
    have hok : numOk (45 :: Lib.decDigits v.natAbs) = true := by
      unfold numOk
      rw [hb]
      simp only [Bool.and_eq_true, decide_eq_true_eq, Bool.not_eq_true', Bool.and_eq_false_iff, decide_eq_false_iff_not, beq_eq_false_iff_ne, ne_eq]
      refine ⟨⟨⟨⟨List.length_pos_iff.2 f1, hl⟩, .inr (f5 (by omega))⟩, ?_⟩, f2⟩
      intro e
      have := (List.cons.inj e).2
      rw [this] at f3
      simp [decV] at f3; omega
    unfold numI
    rw [if_pos hok, hb, f3]
    simp only [isNeg, beq_self_eq_true, if_true]
    congr 1; omega
  · rename_i hv
    obtain ⟨f1, f2, f3, f4, f5⟩ := dec_facts v.toNat v.toNat (Nat.le_refl _)
    have hl := hlen v.toNat (by omega)
    obtain ⟨b, r, hbr⟩ : ∃ b r, Lib.decDigits v.toNat = b :: r := by
      cases e : Lib.decDigits v.toNat with
      | nil => exact absurd e f1
      | cons b r => exact ⟨b, r, rfl⟩
    have hbd : isDig b = true := by rw [hbr] at f2; simp only [List.all_cons, Bool.and_eq_true] at f2; exact f2.1
    have hb45 : ¬ b = 45 := by
      intro e; subst e; simp [isDig] at hbd
    have hb : bare (Lib.decDigits v.toNat) = Lib.decDigits v.toNat := by rw [hbr]; simp [bare, hb45]
    have hn : isNeg (Lib.decDigits v.toNat) = false := by rw [hbr]; simp [isNeg, hb45]
    have hok : numOk (Lib.decDigits v.toNat) = true := by
      unfold numOk
      rw [hb]
      simp only [Bool.and_eq_true, decide_eq_true_eq, Bool.not_eq_true', Bool.and_eq_false_iff, decide_eq_false_iff_not, beq_eq_false_iff_ne, ne_eq]
      refine ⟨⟨⟨⟨List.length_pos_iff.2 f1, hl⟩, ?_⟩, ?_⟩, f2⟩
      · by_cases h1 : (Lib.decDigits v.toNat).length > 1
        · exact .inr (f4 h1)
        · exact .inl h1
      · intro e
        rw [hbr] at e
        exact hb45 (List.cons.inj e).1
    unfold numI
    rw [if_pos hok, hb, hn, f3]
    simp only [Bool.false_eq_true, if_false]
    congr 1; omega

theorem splitL_len {c : UInt8} : ∀ {s w : List UInt8}, w ∈ splitL c s → w.length ≤ s.length
  | [], w, h => by simp [splitL] at h; subst h; simp
  | b :: r, w, h => by
    simp only [splitL] at h
    split at h
    · rcases List.mem_cons.1 h with rfl | h
      · simp
      · have := splitL_len h; simp; omega
    · split at h
      · rename_i w' ws e
        rcases List.mem_cons.1 h with rfl | h
        · have := splitL_len (s := r) (c := c) (w := w') (by rw [e]; simp)
          simp; omega
        · have := splitL_len (s := r) (c := c) (w := w) (by rw [e]; exact List.mem_cons_of_mem _ h)
          simp; omega
      · rcases List.mem_cons.1 h with rfl | h
        · simp
        · cases h

def boundV (w : List UInt8) : Option (Int × Bool) := if w = [45] then some (0, false) else (numI w).map fun v => (v, true)
/-- A letter taken off. -/
def offB (c : UInt8) (f : List UInt8) : Bool := match f with
  | b :: _ => b == c
  | [] => false
def offL (c : UInt8) (f : List UInt8) : List UInt8 := match f with
  | b :: r => if b = c then r else f
  | [] => []
def kindV (w : List UInt8) : Int := if w = [99, 111, 105, 108] then 1 else if w = [105, 110, 112, 117, 116] then 2 else if w = [104, 111, 108, 100, 105, 110, 103] then 3 else if w = [114, 101, 103, 105, 115, 116, 101, 114] then 4 else 0
def flagV (w : List UInt8) : Option (Bool × Bool × Bool) :=
  if w = [] then none else
  let f := if w = [45] then [] else w
  if offL 120 (offL 115 (offL 119 f)) = [] then some (offB 119 f, offB 115 (offL 119 f), offB 120 (offL 115 (offL 119 f))) else none
def gwW : List UInt8 := [103, 97, 116, 101, 119, 97, 121]
def tagWd : List UInt8 := [116, 97, 103]
def latchWd : List UInt8 := [108, 97, 116, 99, 104]

def wd (ws : List (List UInt8)) (i : Nat) : List UInt8 := (ws[i]?).getD []
theorem wd_get {ws : List (List UInt8)} {i : Nat} (h : i < ws.length) : ws[i]? = some (wd ws i) := by
  unfold wd; rw [List.getElem?_eq_getElem h]; rfl
def headM (ws : List (List UInt8)) : Option Cfg := if ws.length = 7 ∧ wd ws 0 = gwW then
    (numI (wd ws 1)).bind fun va => (numI (wd ws 2)).bind fun vb => (numI (wd ws 3)).bind fun vc => (numI (wd ws 4)).bind fun vd => (numI (wd ws 5)).bind fun ve => (numI (wd ws 6)).bind fun vf => some ⟨va, vb, vc, vd, ve, vf, []⟩ else none
def tagM (ws : List (List UInt8)) : Option Tag := if ws.length = 16 ∧ wd ws 0 = tagWd ∧ wd ws 1 ≠ [] ∧ kindV (wd ws 3) > 0 ∧ (wd ws 15 = latchWd ∨ wd ws 15 = [45]) then
      (numI (wd ws 2)).bind fun u => (numI (wd ws 4)).bind fun a => (numI (wd ws 5)).bind fun ev => (flagV (wd ws 6)).bind fun fl => (numI (wd ws 7)).bind fun mu => (numI (wd ws 8)).bind fun di => (numI (wd ws 9)).bind fun ad => (numI (wd ws 10)).bind fun de => (numI (wd ws 11)).bind fun qu => (boundV (wd ws 12)).bind fun lo => (boundV (wd ws 13)).bind fun hi => (numI (wd ws 14)).bind fun hy =>
        some ⟨BA (wd ws 1), u, kindV (wd ws 3), a, ev, fl.1, fl.2.1, fl.2.2, mu, di, ad, de, qu, lo.2, hi.2, wd ws 15 == latchWd, lo.1, hi.1, hy⟩ else none
theorem headM_some {ws : List (List UInt8)} {c : Cfg} : headM ws = some c ↔ ws.length = 7 ∧ wd ws 0 = gwW ∧ numI (wd ws 1) = some c.timeout ∧ numI (wd ws 2) = some c.retries ∧ numI (wd ws 3) = some c.window ∧ numI (wd ws 4) = some c.resend ∧ numI (wd ws 5) = some c.span ∧ numI (wd ws 6) = some c.keep ∧ c.tags = [] := by
  unfold headM
  constructor
  · intro h
    split at h
    · rename_i hc
      simp only [Option.bind_eq_some_iff, Option.some.injEq] at h
      obtain ⟨a, ha, b, hb, d, hd, e, he, f, hf, g, hg, rfl⟩ := h
      exact ⟨hc.1, hc.2, ha, hb, hd, he, hf, hg, rfl⟩
    · cases h
  · rintro ⟨h1, h2, h3, h4, h5, h6, h7, h8, h9⟩
    rw [if_pos ⟨h1, h2⟩, h3, h4, h5, h6, h7, h8]
    obtain ⟨_, _, _, _, _, _, _⟩ := c
    simp only at h9
    subst h9; rfl
theorem tagM_some {ws : List (List UInt8)} {t : Tag} : tagM ws = some t ↔ (ws.length = 16 ∧ wd ws 0 = tagWd ∧ wd ws 1 ≠ [] ∧ kindV (wd ws 3) > 0 ∧ (wd ws 15 = latchWd ∨ wd ws 15 = [45])) ∧
    numI (wd ws 2) = some t.unit ∧ numI (wd ws 4) = some t.addr ∧ numI (wd ws 5) = some t.every ∧ flagV (wd ws 6) = some (t.wide, t.sgn, t.swap) ∧ numI (wd ws 7) = some t.mul ∧ numI (wd ws 8) = some t.div ∧ numI (wd ws 9) = some t.add ∧
    numI (wd ws 10) = some t.dead ∧ numI (wd ws 11) = some t.quiet ∧ boundV (wd ws 12) = some (t.low, t.ulow) ∧ boundV (wd ws 13) = some (t.high, t.uhigh) ∧ numI (wd ws 14) = some t.hyst ∧ t.name = BA (wd ws 1) ∧ t.kind = kindV (wd ws 3) ∧ t.latch = (wd ws 15 == latchWd) := by
  unfold tagM
  constructor
  · intro h
    split at h
    · rename_i hc
      simp only [Option.bind_eq_some_iff, Option.some.injEq] at h
      obtain ⟨u, h1, a, h2, ev, h3, fl, h4, mu, h5, di, h6, ad, h7, de, h8, qu, h9, lo, h10, hi, h11, hy, h12, rfl⟩ := h
      exact ⟨hc, h1, h2, h3, h4, h5, h6, h7, h8, h9, h10, h11, h12, rfl, rfl, rfl⟩
    · cases h
  · rintro ⟨hc, h1, h2, h3, h4, h5, h6, h7, h8, h9, h10, h11, h12, h13, h14, h15⟩
    rw [if_pos hc, h1, h2, h3, h4, h5, h6, h7, h8, h9, h10, h11, h12]
    obtain ⟨_, _, _, _, _, _, _, _, _, _, _, _, _, _, _, _, _, _, _⟩ := t
    simp only at h13 h14 h15
    subst h13 h14 h15; rfl

/-! Lines. -/


abbrev cfg0 : Cfg := ⟨0, 0, 0, 0, 0, 0, []⟩
def stepM (no : Nat) (l : List UInt8) (c : Cfg) : Option Cfg := if no = 1 then headM (splitL 32 l) else (tagM (splitL 32 l)).map fun t => { c with tags := c.tags ++ [t] }
/-- The lines gone through: the configuration, or the line that is wrong. -/
def goT : List (List UInt8) → Nat → Cfg → Option Cfg × Nat
  | [], no, c => (none, no)
  | [l], no, c => if no = 1 ∨ l ≠ [] then (none, no) else (some c, 0)
  | l :: l2 :: r, no, c => match stepM no l c with
    | some c' => goT (l2 :: r) (no + 1) c'
    | none => (none, no)
def endM (c : Cfg) : Cfg × Int × Int := if ownB c = false then (cfg0, 1, 32) else if (allE c.tags).1 ≠ 0 then (cfg0, (allE c.tags).2 + 2, (allE c.tags).1) else (c, 0, 0)
def parseM (s : List UInt8) : Cfg × Int × Int := if s.length > 1048576 then (cfg0, 0, 2) else match goT (splitL 10 s) 1 cfg0 with
  | (none, no) => (cfg0, no, 33)
  | (some c, _) => endM c

theorem allGo_bound {ts : List Tag} : ∀ (n i : Nat), 0 ≤ (allGo ts n i).2 ∧ (allGo ts n i).2 ≤ i + n
  | 0, i => by simp [allGo]
  | n + 1, i => by
    unfold allGo
    split
    · simp only; omega
    · have := allGo_bound (ts := ts) n (i + 1); omega
theorem allE_bound (ts : List Tag) : 0 ≤ (allE ts).2 ∧ (allE ts).2 ≤ 64 := by
  unfold allE
  split
  · decide
  · have := allGo_bound (ts := ts) ts.length 0; omega

end Go.Cx
