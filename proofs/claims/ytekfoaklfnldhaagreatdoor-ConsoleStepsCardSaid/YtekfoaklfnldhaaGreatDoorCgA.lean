/-
  Bytes and numbers as words.
-/
import Derived.Test.YtekfoaklfnldhaaGreatDoorCfW
import Derived.Laws.Strings
import Derived.Lib.Atoi
import Derived.Lib.ItoaNum
import Derived.Test.YtekfoaklfnldhaaGreatDoorCfO
namespace Go.Cx
open Go Go.Cf
set_option linter.unusedVariables false
set_option maxRecDepth 100000

/-! Bytes. -/
def BA (l : List UInt8) : ByteArray := ⟨l.toArray⟩
theorem BA_app (a b : List UInt8) : BA a ++ BA b = BA (a ++ b) := by
  apply ByteArray.ext; simp [BA]
theorem BA_size (a : List UInt8) : (BA a).size = a.length := by simp [BA, ByteArray.size]
theorem BA_data (s : ByteArray) : BA s.data.toList = s := by cases s; simp [BA]
theorem BA_list (l : List UInt8) : (BA l).data.toList = l := by simp [BA]
theorem app_size (a b : ByteArray) : (a ++ b).size = a.size + b.size := by simp
theorem BA_toList (l : List UInt8) : (BA l).toList = l := by rw [ByteArray.toList_eq, BA_list]
theorem empty_list : ByteArray.empty.toList = [] := by decide +kernel

/-! Numbers. -/
theorem dec_small {u : Nat} (h : u < 10) : Lib.decDigits u = [UInt8.ofNat (48 + u)] := by rw [Lib.decDigits, dif_pos h]
theorem dec_big {u : Nat} (h : ¬ u < 10) : Lib.decDigits u = Lib.decDigits (u / 10) ++ [UInt8.ofNat (48 + u % 10)] := by rw [Lib.decDigits, dif_neg h]
theorem dec_len : ∀ (k u : Nat), u < 10 ^ (k + 1) → (Lib.decDigits u).length ≤ k + 1
  | k, u, h => by
    by_cases hu : u < 10
    · rw [dec_small hu]; simp
    · cases k with
      | zero => simp at h; omega
      | succ k =>
        rw [dec_big hu, List.length_append, List.length_singleton]
        have := dec_len k (u / 10) (by rw [Nat.pow_succ] at h; omega)
        omega
theorem itoa_len {n : Int} (h0 : -9223372036854775808 ≤ n) (h1 : n ≤ 9223372036854775807) : (Lib.itoa n).length ≤ 21 := by
  unfold Lib.itoa
  split
  · have := dec_len 19 n.natAbs (by simp; omega)
    simp; omega
  · have := dec_len 19 n.toNat (by simp; omega)
    omega

def isDig (b : UInt8) : Bool := decide (48 ≤ b.toNat) && decide (b.toNat ≤ 57)
def decV (l : List UInt8) : Nat := l.foldl (fun a b => a * 10 + (b.toNat - 48)) 0
def bare (w : List UInt8) : List UInt8 := match w with
  | b :: r => if b = 45 then r else w
  | [] => []
def isNeg (w : List UInt8) : Bool := match w with
  | b :: _ => b == 45
  | [] => false
def numOk (w : List UInt8) : Bool := decide (1 ≤ (bare w).length) && decide ((bare w).length ≤ 13) && !(decide ((bare w).length > 1) && ((bare w)[0]? == some 48)) && !(w == [45, 48]) && (bare w).all isDig
def numI (w : List UInt8) : Option Int := if numOk w = true then some (if isNeg w = true then -(decV (bare w) : Int) else decV (bare w)) else none

theorem decFrom_dig : ∀ (l : List UInt8) (a : Nat), l.all isDig = true → Lib.decFrom a l = some (l.foldl (fun a b => a * 10 + (b.toNat - 48)) a)
  | [], _, _ => rfl
  | b :: r, a, h => by
    simp only [List.all_cons, Bool.and_eq_true] at h
    have hb : Lib.digitVal b = some (b.toNat - 48) := by
      unfold Lib.digitVal
      have := h.1
      simp only [isDig, Bool.and_eq_true, decide_eq_true_eq] at this
      rw [if_pos this]
    simp only [Lib.decFrom, hb, List.foldl_cons]
    exact decFrom_dig r _ h.2

theorem numOk_parts {w : List UInt8} (h : numOk w = true) : 1 ≤ (bare w).length ∧ (bare w).length ≤ 13 ∧ ((bare w).length > 1 → (bare w)[0]? ≠ some 48) ∧ w ≠ [45, 48] ∧ (bare w).all isDig = true := by
  unfold numOk at h
  simp only [Bool.and_eq_true, decide_eq_true_eq, Bool.not_eq_true', Bool.and_eq_false_iff, decide_eq_false_iff_not, beq_eq_false_iff_ne, ne_eq] at h
  obtain ⟨⟨⟨⟨h1, h2⟩, h3⟩, h4⟩, h5⟩ := h
  exact ⟨h1, h2, fun h => h3.resolve_left (by omega), h4, h5⟩

theorem atoi_of {w : List UInt8} (h : numOk w = true) : Lib.atoi w = numI w := by
  obtain ⟨h1, h2, h3, h4, h5⟩ := numOk_parts h
  unfold numI
  rw [if_pos h]
  cases w with
  | nil => simp [bare] at h1
  | cons b r =>
    unfold Lib.atoi
    by_cases hb : b = 45
    · subst hb
      have hr : bare (45 :: r) = r := by simp [bare]
      rw [hr] at h1 h5 ⊢
      have hn : r.isEmpty = false := by cases r with
        | nil => simp at h1
        | cons _ _ => rfl
      simp only [beq_self_eq_true, if_true, Lib.decNat, hn, isNeg]
      rw [show Lib.decFrom 0 r = _ from decFrom_dig r 0 h5]
      simp [decV]
    · have hr : bare (b :: r) = b :: r := by simp [bare, hb]
      rw [hr] at h5 ⊢
      have hd : isDig b = true := by simp only [List.all_cons, Bool.and_eq_true] at h5; exact h5.1
      have h43 : (b == 43) = false := by
        simp only [isDig, Bool.and_eq_true, decide_eq_true_eq] at hd
        rw [beq_eq_false_iff_ne]
        intro e; subst e; simp at hd
      have h45 : (b == 45) = false := by simpa using hb
      simp only [h45, h43, Lib.decNat, List.isEmpty_cons, isNeg]
      simp only [Bool.false_eq_true, if_false]
      rw [show Lib.decFrom 0 (b :: r) = _ from decFrom_dig (b :: r) 0 h5]
      simp [decV]

theorem decV_snoc (l : List UInt8) (b : UInt8) : decV (l ++ [b]) = decV l * 10 + (b.toNat - 48) := by
  unfold decV; rw [List.foldl_append]; rfl
theorem decV_fold (l : List UInt8) : ∀ a : Nat, a ≤ l.foldl (fun a b => a * 10 + (b.toNat - 48)) a := by
  induction l with
  | nil => intro a; exact Nat.le_refl _
  | cons b r ih =>
    intro a
    have := ih (a * 10 + (b.toNat - 48))
    simp only [List.foldl_cons]
    omega
theorem decV_pos {l : List UInt8} {b : UInt8} (h : l[0]? = some b) (hd : isDig b = true) (h0 : b ≠ 48) : 1 ≤ decV l := by
  cases l with
  | nil => simp at h
  | cons x r =>
    obtain rfl : x = b := by simpa using h
    unfold decV
    simp only [List.foldl_cons]
    have := decV_fold r (0 * 10 + (x.toNat - 48))
    simp only [isDig, Bool.and_eq_true, decide_eq_true_eq] at hd
    have : x.toNat ≠ 48 := fun e => h0 (UInt8.toNat_inj.1 (by rw [e]; rfl))
    omega

theorem dig_of {b : UInt8} (h : isDig b = true) : UInt8.ofNat (48 + (b.toNat - 48)) = b := by
  simp only [isDig, Bool.and_eq_true, decide_eq_true_eq] at h
  rw [show 48 + (b.toNat - 48) = b.toNat by omega]
  simp

theorem dec_of_list : ∀ (n : Nat) (l : List UInt8), l.length = n → l ≠ [] → l.all isDig = true → (l.length > 1 → l[0]? ≠ some 48) → Lib.decDigits (decV l) = l
  | 0, l, hn, h0, _, _ => absurd (List.length_eq_zero_iff.1 hn) h0
  | n + 1, l, hn, h0, hd, hz => by
    obtain ⟨p, b, rfl⟩ : ∃ p b, l = p ++ [b] := ⟨l.dropLast, l.getLast h0, (List.dropLast_concat_getLast h0).symm⟩
    rw [decV_snoc]
    have hb : isDig b = true := by rw [List.all_append, Bool.and_eq_true] at hd; simpa using hd.2
    have hp : p.all isDig = true := by rw [List.all_append, Bool.and_eq_true] at hd; exact hd.1
    have hb9 : b.toNat - 48 < 10 := by
      simp only [isDig, Bool.and_eq_true, decide_eq_true_eq] at hb; omega
    cases hpe : p with
    | nil =>
      simp only [decV, List.foldl_nil, Nat.zero_mul, Nat.zero_add, List.nil_append]
      rw [dec_small hb9, dig_of hb]
    | cons x r =>
      have h1 : p[0]? = some x := by rw [hpe]; rfl
      have hx : isDig x = true := by rw [hpe] at hp; simp only [List.all_cons, Bool.and_eq_true] at hp; exact hp.1
      have hxz : x ≠ 48 := fun e => hz (by rw [hpe]; simp) (by rw [hpe, e]; rfl)
      have hpos := decV_pos h1 hx hxz
      rw [← hpe]
      have ih := dec_of_list n p (by simpa using hn) (by rw [hpe]; simp) hp (fun _ => by rw [h1]; simpa using hxz)
      rw [dec_big (by omega)]
      have e1 : (decV p * 10 + (b.toNat - 48)) / 10 = decV p := by omega
      have e2 : (decV p * 10 + (b.toNat - 48)) % 10 = b.toNat - 48 := by omega
      rw [e1, e2, ih, dig_of hb]

theorem dec_facts : ∀ (n u : Nat), u ≤ n → Lib.decDigits u ≠ [] ∧ (Lib.decDigits u).all isDig = true ∧ decV (Lib.decDigits u) = u ∧ ((Lib.decDigits u).length > 1 → (Lib.decDigits u)[0]? ≠ some 48) ∧ (1 ≤ u → (Lib.decDigits u)[0]? ≠ some 48)
  | n, u, hu => by
    have hdig : ∀ k, k < 10 → isDig (UInt8.ofNat (48 + k)) = true ∧ (UInt8.ofNat (48 + k)).toNat = 48 + k := by
      intro k hk
      have : (UInt8.ofNat (48 + k)).toNat = 48 + k := by rw [UInt8.toNat_ofNat']; omega
      exact ⟨by simp only [isDig, this, Bool.and_eq_true, decide_eq_true_eq]; omega, this⟩
    by_cases h : u < 10
    · rw [dec_small h]
      obtain ⟨h1, h2⟩ := hdig u h
      refine ⟨by simp, by simp only [List.all_cons, List.all_nil, Bool.and_true]; exact h1, by simp only [decV, List.foldl_cons, List.foldl_nil, h2]; omega, by simp, fun h0 e => ?_⟩
      have e := Option.some.inj e
      have := congrArg UInt8.toNat e
      rw [h2] at this
      simp at this; omega
    · match n with
      | 0 => omega
      | n + 1 =>
        obtain ⟨i1, i2, i3, i4, i5⟩ := dec_facts n (u / 10) (by omega)
        obtain ⟨h1, h2⟩ := hdig (u % 10) (by omega)
        rw [dec_big h]
        refine ⟨by simp, by rw [List.all_append, i2]; simp only [List.all_cons, List.all_nil, Bool.and_true, Bool.true_and]; exact h1, by rw [decV_snoc, i3, h2]; omega, fun _ => ?_, fun _ => ?_⟩
        all_goals
          have hlen : 0 < (Lib.decDigits (u / 10)).length := List.length_pos_iff.2 i1
          rw [List.getElem?_append_left hlen]
          exact i5 (by omega)

theorem decV_lt : ∀ (l : List UInt8) (a n : Nat), l.all isDig = true → a < 10 ^ n → l.foldl (fun a b => a * 10 + (b.toNat - 48)) a < 10 ^ (n + l.length)
  | [], a, n, _, h => by simpa using h
  | b :: r, a, n, hh, h => by
    simp only [List.all_cons, Bool.and_eq_true] at hh
    have hb := hh.1
    simp only [isDig, Bool.and_eq_true, decide_eq_true_eq] at hb
    have := decV_lt r (a * 10 + (b.toNat - 48)) (n + 1) hh.2 (by rw [Nat.pow_succ]; omega)
    simp only [List.foldl_cons, List.length_cons]
    rw [show n + (r.length + 1) = n + 1 + r.length by omega]
    exact this

theorem itoa_of_num {w : List UInt8} {v : Int} (h : numI w = some v) : Lib.itoa v = w ∧ -10000000000000 < v ∧ v < 10000000000000 := by
  unfold numI at h
  split at h
  · rename_i hok
    obtain ⟨h1, h2, h3, h4, h5⟩ := numOk_parts hok
    have hd := dec_of_list _ (bare w) rfl (fun e => by rw [e] at h1; simp at h1) h5 h3
    have hlt : ∀ l : List UInt8, l.all isDig = true → decV l < 10 ^ l.length := fun l hh => by
      have := decV_lt l 0 0 hh (by decide)
      rw [Nat.zero_add] at this
      exact this
    have hl := hlt _ h5
    have hp : 10 ^ (bare w).length ≤ 10 ^ 13 := Nat.pow_le_pow_right (by decide) h2
    have hp13 : (10 : Nat) ^ 13 = 10000000000000 := by decide
    have hv := Option.some.inj h
    cases w with
    | nil => simp [bare] at h1
    | cons b r =>
      by_cases hb : b = 45
      · subst hb
        have hr : bare (45 :: r) = r := by simp [bare]
        rw [hr] at hd hl hp hv h1
        simp only [isNeg, beq_self_eq_true, if_true] at hv
        subst hv
        have hne : decV r ≠ 0 := by
          intro e
          rw [e, dec_small (by decide)] at hd
          exact h4 (by rw [← hd]; rfl)
        refine ⟨?_, by omega, by omega⟩
        unfold Lib.itoa
        rw [if_pos (by omega)]
        have : (-(decV r : Int)).natAbs = decV r := by omega
        rw [this, hd]
      · have hr : bare (b :: r) = b :: r := by simp [bare, hb]
        rw [hr] at hd hl hp hv
        have hnb : isNeg (b :: r) = false := by simp [isNeg, hb]
        rw [hnb] at hv
        simp only [Bool.false_eq_true, if_false] at hv
        subst hv
        refine ⟨?_, by omega, by omega⟩
        unfold Lib.itoa
        rw [if_neg (by omega)]
        rw [Int.toNat_natCast, hd]
  · cases h

theorem num_of_itoa {v : Int} (h0 : -10000000000000 < v) (h1 : v < 10000000000000) : numI (Lib.itoa v) = some v := by
  have hlen : ∀ u : Nat, u < 10000000000000 → (Lib.decDigits u).length ≤ 13 := fun u hu => dec_len 12 u (by simpa using hu)
  unfold Lib.itoa
  split
  · rename_i hv
    obtain ⟨f1, f2, f3, f4, f5⟩ := dec_facts v.natAbs v.natAbs (Nat.le_refl _)
    have hl := hlen v.natAbs (by omega)
    have hb : bare (45 :: Lib.decDigits v.natAbs) = Lib.decDigits v.natAbs := by simp [bare]
    have hok : numOk (45 :: Lib.decDigits v.natAbs) = true := by
      unfold numOk
      rw [hb]
      simp only [Bool.and_eq_true, decide_eq_true_eq, Bool.not_eq_true', Bool.and_eq_false_iff, decide_eq_false_iff_not, beq_eq_false_iff_ne, ne_eq]
      refine ⟨⟨⟨⟨List.length_pos_iff.2 f1, hl⟩, .inr (f5 (by omega))⟩, ?_⟩, f2⟩
      intro e
      have := (List.cons.inj e).2
      rw [this] at f3
      simp [decV] at f3; omega
    unfold numI
    rw [if_pos hok, hb, f3]
    simp only [isNeg, beq_self_eq_true, if_true]
    congr 1; omega
  · rename_i hv
    obtain ⟨f1, f2, f3, f4, f5⟩ := dec_facts v.toNat v.toNat (Nat.le_refl _)
    have hl := hlen v.toNat (by omega)
    obtain ⟨b, r, hbr⟩ : ∃ b r, Lib.decDigits v.toNat = b :: r := by
      cases e : Lib.decDigits v.toNat with
      | nil => exact absurd e f1
      | cons b r => exact ⟨b, r, rfl⟩
    have hbd : isDig b = true := by rw [hbr] at f2; simp only [List.all_cons, Bool.and_eq_true] at f2; exact f2.1
    have hb45 : ¬ b = 45 := by
      intro e; subst e; simp [isDig] at hbd
    have hb : bare (Lib.decDigits v.toNat) = Lib.decDigits v.toNat := by rw [hbr]; simp [bare, hb45]
    have hn : isNeg (Lib.decDigits v.toNat) = false := by rw [hbr]; simp [isNeg, hb45]
    have hok : numOk (Lib.decDigits v.toNat) = true := by
      unfold numOk
      rw [hb]
      simp only [Bool.and_eq_true, decide_eq_true_eq, Bool.not_eq_true', Bool.and_eq_false_iff, decide_eq_false_iff_not, beq_eq_false_iff_ne, ne_eq]
      refine ⟨⟨⟨⟨List.length_pos_iff.2 f1, hl⟩, ?_⟩, ?_⟩, f2⟩
      · by_cases h1 : (Lib.decDigits v.toNat).length > 1
        · exact .inr (f4 h1)
        · exact .inl h1
      · intro e
        rw [hbr] at e
        exact hb45 (List.cons.inj e).1
    unfold numI
    rw [if_pos hok, hb, hn, f3]
    simp only [Bool.false_eq_true, if_false]
    congr 1; omega

end Go.Cx
