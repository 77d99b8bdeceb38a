/-
  The document's rows of words.
  The law HistoryWords.
-/
import Derived.Test.YtifochbabgjhpaaGreatDoorHC
namespace Go.Cx
open Go Go.Cf
set_option linter.unusedVariables false
set_option maxRecDepth 100000
variable {B : Base} {As F : List HP}

theorem letter_spec (b : UInt8) : Ct Pr F_ref09_letter [.int .u8 b.toNat] .one [.bool] [] emp (fun r Bs => r.1 = letterB b ∧ Bs = []) := by
  refine spec1 c_ref09_letter fun B _ => ?_
  unfold ref09_letter
  refine xjoin (xif (fun h => xret ⟨?_, rfl⟩) (fun h => xret ⟨?_, rfl⟩))
  · symm; simp [letterB] at *; omega
  · rw [Bool.eq_iff_iff]; simp [letterB] at *; omega

theorem NameRef_spec (s : ByteArray) : Ct Pr F_ref09_Name [.string s] .one [.bool] [] emp (fun r Bs => r.1 = nameOk s ∧ Bs = []) := by
  refine spec1 c_ref09_Name fun B _ => ?_
  have fin : ∀ {x : Bool} {As : List HP}, x = nameOk s → Ent B As (Ret B (ss := [.bool]) (fun r Bs => r.1 = nameOk s ∧ Bs = []) (x, ())) := fun h => xkeep (l := []) (xret ⟨h, rfl⟩)
  unfold ref09_Name
  refine xjoin (xif (fun h0 => xift rfl (fin ?_)) (fun h0 => ?_))
  · symm; unfold nameOk; simp at *; omega
  have hs : 1 ≤ s.size ∧ s.size ≤ 16 := by simp at h0; omega
  obtain ⟨b, hb⟩ := byte_at (k := 0) (show 0 < s.size by omega)
  refine xbyte (k := 0) rfl hb ?_
  refine xcall0 (letter_spec b) rdb ?_
  rintro ⟨x, _⟩ _ ⟨hx, rfl⟩
  simp only at hx; subst hx
  refine app0 (ca1 (xif (fun h1 => fin ?_) (fun h1 => ?_)))
  · symm; refine nameOk_false (k := 0) (by omega) ?_
    simp only [okAt, hb]; simpa using h1
  have h1 : letterB b = true := by simpa using h1
  refine xloop1 (fun n (x : Int) As' => ∃ k : Nat, x = (k : Int) ∧ n = s.size - k ∧ k ≤ s.size ∧ As' = [] ∧ ∀ i, i < k → okAt s i = true) s.size ⟨0, rfl, by omega, by omega, rfl, fun i hi => by omega⟩ ?_
  rintro n x As' K ⟨k, rfl, rfl, hk, rfl, hall⟩ hK
  refine xif_dec (fun hp => ?_) (fun hp => fin ?_)
  · have hp : k < s.size := by omega
    obtain ⟨c, hc⟩ := byte_at hp
    have next : okAt s k = true → Ent B [] (K (IntKind.i64.wrap ((k : Int) + 1))) := fun h => by
      rw [wrap_succ k (by omega)]
      exact hK (s.size - (k + 1)) _ _ (by omega) ⟨k + 1, rfl, rfl, by omega, rfl, fun i hi => by
        by_cases e : i = k
        · subst e; exact h
        · exact hall i (by omega)⟩
    have hok : okAt s k = (letterB c || (decide (0 < k) && moreB c)) := by simp only [okAt, hc]
    refine xbyte (k := k) rfl hc ?_
    refine xcall0 (letter_spec c) rdb ?_
    rintro ⟨x, _⟩ _ ⟨hx, rfl⟩
    simp only at hx; subst hx
    have h0k : letterB c = false → 0 < k := fun e => by
      rcases Nat.eq_zero_or_pos k with e0 | e0
      · subst e0; rw [hb] at hc; cases hc; rw [h1] at e; cases e
      · exact e0
    refine app0 (ca1 (xjoin (xif (fun h2 => xif (fun h3 => fin ?_) (fun h3 => next ?_)) (fun h2 => xiff rfl (next ?_)))))
    · have h2 : letterB c = false := by simpa using h2
      symm; refine nameOk_false hp ?_
      rw [hok, h2]; simp [moreB] at *; omega
    · have h2 : letterB c = false := by simpa using h2
      have := h0k h2
      rw [hok, h2]; simp [moreB] at *; omega
    · rw [hok]; have h2 : letterB c = true := by simpa using h2
      rw [h2]; rfl
  · rw [nameOk_all (fun i hi => hall i (by omega))]; simp; omega


/-! What is wrong with a record. -/
def loK (k : Int) : Int := if k = 1 then -1099511627776 else if k = 6 then 0 else 1
def hiK (k : Int) : Int := if k = 2 then 4 else if k = 6 then 255 else 1099511627776
theorem kindR_in {k : Int} (h1 : 1 ≤ k) (h2 : k ≤ 6) : kindR k = some ((k == 1 || k == 2), (k != 5), (k == 5 || k == 6), loK k, hiK k) := by
  have : k = 1 ∨ k = 2 ∨ k = 3 ∨ k = 4 ∨ k = 5 ∨ k = 6 := by omega
  rcases this with rfl | rfl | rfl | rfl | rfl | rfl <;> decide
theorem kindR_out {k : Int} (h : k < 1 ∨ k > 6) : kindR k = none := by
  unfold kindR
  rw [if_neg (by omega), if_neg (by omega), if_neg (by omega), if_neg (by omega), if_neg (by omega)]
theorem empty_size (s : ByteArray) : (!(s.toList == ByteArray.empty.toList)) = decide ((s.size : Int) > 0) := by
  rw [ByteArray.toList_eq, empty_list]
  have : s.data.toList.length = s.size := by simp
  cases h : s.data.toList with
  | nil => rw [h] at this; rw [← this]; rfl
  | cons x l => rw [h] at this; rw [← this]; symm; simp
theorem valueIn (k v : Int) (h1 : 1 ≤ k) (h2 : k ≤ 6) : (if k = 1 then (decide (v ≥ (-1099511627776)) && decide (v ≤ 1099511627776)) else if k = 2 then (decide (v ≥ 1) && decide (v ≤ 4)) else if k = 6 then (decide (v ≥ 0) && decide (v ≤ 255)) else (decide (v ≥ 1) && decide (v ≤ 1099511627776))) = withinB v (loK k) (hiK k) := by
  have : k = 1 ∨ k = 2 ∨ k = 3 ∨ k = 4 ∨ k = 5 ∨ k = 6 := by omega
  rcases this with rfl | rfl | rfl | rfl | rfl | rfl <;> rfl

theorem tagged_spec (k : Int) : Ct Pr F_ref11_tagged [.int .i64 k] .one [.bool] [] emp (fun t Bs => t.1 = (k == 1 || k == 2) ∧ Bs = []) := by
  refine spec1 c_ref11_tagged fun B _ => ?_
  unfold ref11_tagged
  exact xret ⟨rfl, rfl⟩
theorem valued_spec (k : Int) : Ct Pr F_ref11_valued [.int .i64 k] .one [.bool] [] emp (fun t Bs => t.1 = (k != 5) ∧ Bs = []) := by
  refine spec1 c_ref11_valued fun B _ => ?_
  unfold ref11_valued
  exact xret ⟨rfl, rfl⟩
theorem named_spec11 (k : Int) : Ct Pr F_ref11_named [.int .i64 k] .one [.bool] [] emp (fun t Bs => t.1 = (k == 5 || k == 6) ∧ Bs = []) := by
  refine spec1 c_ref11_named fun B _ => ?_
  unfold ref11_named
  exact xret ⟨rfl, rfl⟩
theorem value_spec (k v : Int) (h1 : 1 ≤ k) (h2 : k ≤ 6) : Ct Pr F_ref11_value [.int .i64 k, .int .i64 v] .one [.bool] [] emp (fun t Bs => t.1 = withinB v (loK k) (hiK k) ∧ Bs = []) := by
  refine spec1 c_ref11_value fun B _ => ?_
  rw [← valueIn k v h1 h2]
  unfold ref11_value
  refine xif (fun h => xret ⟨?_, rfl⟩) (fun h => xif (fun h3 => xret ⟨?_, rfl⟩) (fun h3 => xif (fun h4 => xret ⟨?_, rfl⟩) (fun h4 => xret ⟨?_, rfl⟩)))
  · rw [if_pos (eq_of_beq h)]
  · rw [if_neg (by simpa using h), if_pos (eq_of_beq h3)]
  · rw [if_neg (by simpa using h), if_neg (by simpa using h3), if_pos (eq_of_beq h4)]
  · rw [if_neg (by simpa using h), if_neg (by simpa using h3), if_neg (by simpa using h4)]

theorem rCheck_spec (r : RE) : Ct Pr F_ref11_Check [r.v] .one [.int .i64] [] emp (fun t Bs => t.1 = checkR r ∧ Bs = []) := by
  refine spec1 c_ref11_Check fun B _ => ?_
  have fin : ∀ {x : Int} {As : List HP}, x = checkR r → Ent B As (Ret B (ss := [.int .i64]) (fun t Bs => t.1 = checkR r ∧ Bs = []) (x, ())) := fun h => xkeep (l := []) (xret ⟨h, rfl⟩)
  unfold ref11_Check
  refine xnew fun b => xget (h := ?_)
  refine xjoin1 (fun (x : Bool) As' => x = decide (r.kind < 1 ∨ r.kind > 6) ∧ As' = [Blk b r.cells]) (fun K hK => xif_dec (fun h => hK _ _ ⟨?_, rfl⟩) (fun h => xget (h := hK _ _ ⟨?_, rfl⟩))) ?_
  · symm; rw [decide_eq_true_eq]; exact .inl h
  · have : decide (r.kind > 6) = decide (r.kind < 1 ∨ r.kind > 6) := by congr 1; apply propext; constructor <;> intro h2 <;> omega
    exact this
  rintro _ _ ⟨rfl, rfl⟩
  refine xif_dec (fun h => fin ?_) (fun h => ?_)
  · unfold checkR; rw [kindR_out h]
  have k1 : 1 ≤ r.kind := by omega
  have k2 : r.kind ≤ 6 := by omega
  have hc : checkR r = if ((!(r.kind == 1 || r.kind == 2) && !(r.tag.toList == ByteArray.empty.toList)) || ((!(r.kind != 5) && r.val != 0) || (!(r.kind == 5 || r.kind == 6) && r.id != 0))) = true then 23
    else if (!withinB r.time 0 1099511627776) = true then 3
    else if ((r.kind == 1 || r.kind == 2) && !nameOk r.tag) = true then 8
    else if (((r.kind != 5) && !withinB r.val (loK r.kind) (hiK r.kind)) || ((r.kind == 5 || r.kind == 6) && !withinB r.id 1 1099511627776)) = true then 3
    else 0 := by unfold checkR; rw [kindR_in k1 k2]
  rw [empty_size] at hc
  have tg : ∀ {As : List HP} {K : Bool → WP}, Ent B As (K (r.kind == 1 || r.kind == 2)) → Ent B As (XCall Pr F_ref11_tagged [.int .i64 r.kind] .one [.bool] K) := by
    intro As K hK
    refine xcall0 (tagged_spec _) rdb ?_
    rintro ⟨x, _⟩ _ ⟨hx, rfl⟩
    simp only at hx; subst hx
    exact app0 (ca1 hK)
  have vl : ∀ {As : List HP} {K : Bool → WP}, Ent B As (K (r.kind != 5)) → Ent B As (XCall Pr F_ref11_valued [.int .i64 r.kind] .one [.bool] K) := by
    intro As K hK
    refine xcall0 (valued_spec _) rdb ?_
    rintro ⟨x, _⟩ _ ⟨hx, rfl⟩
    simp only at hx; subst hx
    exact app0 (ca1 hK)
  have nm : ∀ {As : List HP} {K : Bool → WP}, Ent B As (K (r.kind == 5 || r.kind == 6)) → Ent B As (XCall Pr F_ref11_named [.int .i64 r.kind] .one [.bool] K) := by
    intro As K hK
    refine xcall0 (named_spec11 _) rdb ?_
    rintro ⟨x, _⟩ _ ⟨hx, rfl⟩
    simp only at hx; subst hx
    exact app0 (ca1 hK)
  generalize hT : (r.kind == 1 || r.kind == 2) = T at *
  generalize hV : (r.kind != 5) = V at *
  generalize hN : (r.kind == 5 || r.kind == 6) = N at *
  refine xget (h := tg ?_)
  refine xjoin1 (fun (x : Bool) As' => x = (!T && decide ((r.tag.size : Int) > 0)) ∧ As' = [Blk b r.cells]) (fun K hK => xif (fun h => xget (h := hK _ _ ⟨by rw [h]; rfl, rfl⟩)) (fun h => hK _ _ ⟨by rw [h]; rfl, rfl⟩)) ?_
  rintro _ _ ⟨rfl, rfl⟩
  refine xjoin1 (fun (x : Bool) As' => x = ((!T && decide ((r.tag.size : Int) > 0)) || (!V && r.val != 0)) ∧ As' = [Blk b r.cells]) (fun K hK => xif (fun h => hK _ _ ⟨by rw [h]; rfl, rfl⟩) (fun h => xget (h := vl (xjoin (xif (fun h2 => xget (h := hK _ _ ⟨by rw [h, h2]; rfl, rfl⟩)) (fun h2 => hK _ _ ⟨by rw [h, h2]; rfl, rfl⟩)))))) ?_
  rintro _ _ ⟨rfl, rfl⟩
  refine xjoin1 (fun (x : Bool) As' => x = (((!T && decide ((r.tag.size : Int) > 0)) || (!V && r.val != 0)) || (!N && r.id != 0)) ∧ As' = [Blk b r.cells]) (fun K hK => xif (fun h => hK _ _ ⟨by rw [h]; rfl, rfl⟩) (fun h => xget (h := nm (xjoin (xif (fun h2 => xget (h := hK _ _ ⟨by rw [h, h2]; rfl, rfl⟩)) (fun h2 => hK _ _ ⟨by rw [h, h2]; rfl, rfl⟩)))))) ?_
  rintro _ _ ⟨rfl, rfl⟩
  rw [← Bool.or_assoc] at hc
  refine xif (fun h => fin (by rw [hc, if_pos h])) (fun h1 => xget (h := ?_))
  rw [if_neg (by rw [h1]; simp)] at hc
  refine xjoin1 (fun (x : Bool) As' => x = (!withinB r.time 0 1099511627776) ∧ As' = [Blk b r.cells]) (fun K hK => xif_dec (fun h => hK _ _ ⟨?_, rfl⟩) (fun h => xget (h := hK _ _ ⟨?_, rfl⟩))) ?_
  · symm; simp only [withinB, Bool.not_eq_true', Bool.and_eq_false_imp, decide_eq_true_eq, decide_eq_false_iff_not]; omega
  · rw [Bool.eq_iff_iff]; simp only [withinB, Bool.not_eq_true', Bool.and_eq_false_imp, decide_eq_true_eq, decide_eq_false_iff_not]; omega
  rintro _ _ ⟨rfl, rfl⟩
  refine xif (fun h => fin (by rw [hc, if_pos h])) (fun h2 => xget (h := tg ?_))
  rw [if_neg (by rw [h2]; simp)] at hc
  refine xjoin1 (fun (x : Bool) As' => x = (T && !nameOk r.tag) ∧ As' = [Blk b r.cells]) (fun K hK => xif (fun h => xget (h := ?_)) (fun h => hK _ _ ⟨by rw [h]; rfl, rfl⟩)) ?_
  · refine xcall0 (NameRef_spec _) rdb ?_
    rintro ⟨x, _⟩ _ ⟨hx, rfl⟩
    simp only at hx; subst hx
    exact app0 (ca1 (hK _ _ ⟨by rw [h]; rfl, rfl⟩))
  rintro _ _ ⟨rfl, rfl⟩
  refine xif (fun h => fin (by rw [hc, if_pos h])) (fun h3 => xget (h := vl ?_))
  rw [if_neg (by rw [h3]; simp)] at hc
  refine xjoin1 (fun (x : Bool) As' => x = (V && !withinB r.val (loK r.kind) (hiK r.kind)) ∧ As' = [Blk b r.cells]) (fun K hK => xif (fun h => xget (h := xget (h := ?_))) (fun h => hK _ _ ⟨by rw [h]; rfl, rfl⟩)) ?_
  · refine xcall0 (value_spec _ _ k1 k2) rdb ?_
    rintro ⟨x, _⟩ _ ⟨hx, rfl⟩
    simp only at hx; subst hx
    exact app0 (ca1 (hK _ _ ⟨by rw [h]; rfl, rfl⟩))
  rintro _ _ ⟨rfl, rfl⟩
  refine xjoin1 (fun (x : Bool) As' => x = ((V && !withinB r.val (loK r.kind) (hiK r.kind)) || (N && !withinB r.id 1 1099511627776)) ∧ As' = [Blk b r.cells]) (fun K hK => xif (fun h => hK _ _ ⟨by rw [h]; rfl, rfl⟩) (fun h => xget (h := nm (xjoin (xif (fun h4 => xget (h := xjoin (xif_dec (fun h5 => hK _ _ ⟨?_, rfl⟩) (fun h5 => xget (h := hK _ _ ⟨?_, rfl⟩))))) (fun h4 => hK _ _ ⟨by rw [h, h4]; rfl, rfl⟩)))))) ?_
  · rw [h, h4]; symm
    simp only [withinB, Bool.false_or, Bool.true_and, Bool.not_eq_true', Bool.and_eq_false_imp, decide_eq_true_eq, decide_eq_false_iff_not]; omega
  · rw [h, h4, Bool.eq_iff_iff]
    simp only [withinB, Bool.false_or, Bool.true_and, Bool.not_eq_true', Bool.and_eq_false_imp, decide_eq_true_eq, decide_eq_false_iff_not]; omega
  rintro _ _ ⟨rfl, rfl⟩
  exact xif (fun h => fin (by rw [hc, if_pos h])) (fun h => fin (by rw [hc, if_neg (by rw [h]; simp)]))
end Go.Cx

namespace Go.Cx
open Go Go.Cf
set_option linter.unusedVariables false
set_option maxRecDepth 100000
variable {B : Base} {As F : List HP}

theorem w16_wrap (n : Nat) : IntKind.u16.wrap (n : Int) = ((n % 65536 : Nat) : Int) := by
  have q1 : (2 ^ IntKind.u16.bits : Int) = 65536 := by decide
  have q3 : IntKind.u16.signed = false := rfl
  simp only [IntKind.wrap, q1, q3, Bool.false_and]
  simp
theorem wide_get (N : Nat) {k j : Nat} (hk : k ≤ 4) (hj : j < k) : ((pairW (be8 N)).drop (4 - k))[j]? = some ((N / 65536 ^ (k - 1 - j) % 65536 : Nat) : Int) := by
  rw [pairW4, List.getElem?_drop]
  have hk' : k = 1 ∨ k = 2 ∨ k = 3 ∨ k = 4 := by omega
  rcases hk' with rfl | rfl | rfl | rfl
  · obtain rfl : j = 0 := by omega
    simp
  · have : j = 0 ∨ j = 1 := by omega
    rcases this with rfl | rfl <;> simp
  · have : j = 0 ∨ j = 1 ∨ j = 2 := by omega
    rcases this with rfl | rfl | rfl <;> simp
  · have : j = 0 ∨ j = 1 ∨ j = 2 ∨ j = 3 := by omega
    rcases this with rfl | rfl | rfl | rfl <;> simp

theorem rwords_spec (v : Int) (k : Nat) (hk : k ≤ 4) : Ct Pr F_ref26_words [.int .u64 (IntKind.u64.wrap v), .int .i64 (k : Int)] .one [.slice] [] emp (fun t Bs => Bs = [Ar W16 t.1 (wideM v k)]) := by
  refine spec1 c_ref26_words fun B _ => ?_
  obtain ⟨h1, h2⟩ := u64N_lt v
  unfold ref26_words
  rw [h2, wrap_id ((k : Int) - 1) (by omega) (by omega)]
  generalize hN : u64N v = N at *
  have hwl : (wideM v k).length = k := wideM_len v k hk
  have hw : wideM v k = (pairW (be8 N)).drop (4 - k) := by unfold wideM; rw [hN]
  refine xnone W16 ?_
  refine xloop2 (fun n (s : Sl) (i : Int) As' => ∃ j : Nat, i = (k : Int) - 1 - j ∧ n = k - j ∧ j ≤ k ∧ As' = [Ar W16 s ((wideM v k).take j)]) k ⟨0, by omega, rfl, by omega, by simp⟩ ?_
  rintro n s _ _ K ⟨j, rfl, rfl, hj, rfl⟩ hK
  refine xif_dec (fun h => ?_) (fun h => ?_)
  · have hjk : j < k := by omega
    refine xloop2 (fun n (x : Int) (m : Int) As' => ∃ q : Nat, m = (q : Int) ∧ x = ((N / 65536 ^ q : Nat) : Int) ∧ n = k - 1 - j - q ∧ q ≤ k - 1 - j ∧ As' = [Ar W16 s ((wideM v k).take j)]) (k - 1 - j) ⟨0, rfl, by simp, rfl, by omega, rfl⟩ ?_
    rintro n _ _ _ K2 ⟨q, rfl, rfl, rfl, hq, rfl⟩ hK2
    refine xif_dec (fun h3 => ?_) (fun h3 => ?_)
    · have e : IntKind.u64.wrap (((N / 65536 ^ q : Nat) : Int).tdiv 65536) = ((N / 65536 ^ (q + 1) : Nat) : Int) := by
        rw [Int.tdiv_eq_ediv_of_nonneg (Int.natCast_nonneg _), show ((N / 65536 ^ q : Nat) : Int) / 65536 = ((N / 65536 ^ q / 65536 : Nat) : Int) from rfl, Nat.div_div_eq_div_mul, ← Nat.pow_succ]
        refine wrap_u64 _ (Nat.lt_of_le_of_lt (Nat.div_le_self _ _) h1)
      refine xasrt (by decide) ?_
      rw [e, wrap_succ q (by omega)]
      exact hK2 (k - 1 - j - (q + 1)) _ _ _ (by omega) ⟨q + 1, rfl, rfl, rfl, by omega, rfl⟩
    · have hqe : q = k - 1 - j := by omega
      subst hqe
      have e : IntKind.u16.wrap (((N / 65536 ^ (k - 1 - j) : Nat) : Int).tmod 65536) = ((N / 65536 ^ (k - 1 - j) % 65536 : Nat) : Int) := by
        rw [Int.tmod_eq_emod_of_nonneg (Int.natCast_nonneg _), show ((N / 65536 ^ (k - 1 - j) : Nat) : Int) % 65536 = ((N / 65536 ^ (k - 1 - j) % 65536 : Nat) : Int) from rfl, w16_wrap, Nat.mod_mod]
      refine xasrt (by decide) ?_
      rw [e]
      refine xnew fun b => ?_
      refine xapp1 (E := W16) ((N / 65536 ^ (k - 1 - j) % 65536 : Nat) : Int) (hb := by simp; omega) (h := fun s' => ?_)
      rw [wrap_id _ (by omega) (by omega)]
      refine hK (k - (j + 1)) _ _ _ (by omega) ⟨j + 1, by omega, rfl, by omega, ?_⟩
      rw [List.take_add_one, hw, wide_get N hk hjk]; rfl
  · have hje : j = k := by omega
    rw [List.take_of_length_le (by omega)]
    exact xret rfl

theorem textB_get (s : ByteArray) {j : Nat} (hj : j < 16) : (textB s)[j]? = some (if j < s.size then s.data.toList.getD j 0 else 0) := by
  have hl : s.data.toList.length = s.size := by simp
  unfold textB
  by_cases h : j < s.size
  · rw [if_pos h, List.getElem?_append_left (by rw [List.length_take, hl]; omega), List.getElem?_take_of_lt (by omega), List.getD_eq_getElem?_getD]
    obtain ⟨x, hx⟩ : ∃ x, s.data.toList[j]? = some x := ⟨_, List.getElem?_eq_getElem (by omega)⟩
    rw [hx]; rfl
  · rw [if_neg h, List.getElem?_append_right (by rw [List.length_take, hl]; omega), List.length_take, hl, List.getElem?_drop, List.getElem?_replicate, if_pos (by omega)]

theorem rRow_spec (seq : Int) (r : RE) : Ct Pr F_ref26_Row [.int .i64 seq, r.v] .one [.slice] [] emp (fun t Bs => Bs = [Ar W16 t.1 (rowM seq r)]) := by
  refine spec1 c_ref26_Row fun B _ => ?_
  unfold ref26_Row
  refine xnew fun b => xget (h := ?_)
  have step : ∀ {As : List HP} (v : Int) (k : Nat) (s : Sl) (ws : List Int) (_ : k ≤ 4) (_ : ws.length ≤ 100) {G : List HP} [q : Find (Ar W16 s ws) As G] {K : Sl → WP}, (∀ s', Ent B (Ar W16 s' (ws ++ wideM v k) :: G) (K s')) →
      Ent B As (XCall Pr F_ref26_words [.int .u64 (IntKind.u64.wrap v), .int .i64 (k : Int)] .one [.slice] fun s1 => XApp Pr T_L_uint16 T_L_uint16 T_L_uint16 s.v s1.v fun s2 => K s2) := by
    intro As v k s ws hk hws G q K hK
    refine Ent.perm q.perm ?_
    refine xcall0 (rwords_spec v k hk) rdb ?_
    rintro ⟨s1, _⟩ _ rfl
    refine app1 (ca1 ?_)
    have hl := wideM_len v k hk
    refine xapp (E := W16) (s := s) (y := s1) (xs := ws) (ys := wideM v k) (hb := by omega) (h := fun s2 => ?_)
    exact xdrop 0 (hK s2)
  have l3 := fun v => wideM_len v 3 (by decide)
  have l1 := fun v => wideM_len v 1 (by decide)
  have l4 := fun v => wideM_len v 4 (by decide)
  refine xnone W16 ?_
  refine step r.time 3 ⟨none, 0, 0⟩ [] (by decide) (by simp) fun s1 => ?_
  refine step seq 3 s1 ([] ++ wideM r.time 3) (by decide) (by simp [l3]) fun s2 => xget (h := ?_)
  refine step r.kind 1 s2 ([] ++ wideM r.time 3 ++ wideM seq 3) (by decide) (by simp [l3]) fun s3 => xget (h := ?_)
  refine step r.val 4 s3 ([] ++ wideM r.time 3 ++ wideM seq 3 ++ wideM r.kind 1) (by decide) (by simp [l3, l1]) fun s4 => xget (h := ?_)
  refine step r.id 3 s4 ([] ++ wideM r.time 3 ++ wideM seq 3 ++ wideM r.kind 1 ++ wideM r.val 4) (by decide) (by simp [l3, l1, l4]) fun s5 => ?_
  have hpre : ([] ++ wideM r.time 3 ++ wideM seq 3 ++ wideM r.kind 1 ++ wideM r.val 4 ++ wideM r.id 3).length = 14 := by simp [l3, l1, l4]
  have hrow : rowM seq r = ([] ++ wideM r.time 3 ++ wideM seq 3 ++ wideM r.kind 1 ++ wideM r.val 4 ++ wideM r.id 3) ++ pairW (textB r.tag) := by unfold rowM; simp
  rw [hrow]
  generalize [] ++ wideM r.time 3 ++ wideM seq 3 ++ wideM r.kind 1 ++ wideM r.val 4 ++ wideM r.id 3 = pre at *
  have hpl : (pairW (textB r.tag)).length = 8 := by rw [pairW_len, textB_len]
  refine xloop2 (fun n (s : Sl) (i : Int) As' => ∃ k : Nat, i = (k : Int) ∧ n = 8 - k ∧ k ≤ 8 ∧ As' = [Ar W16 s (pre ++ (pairW (textB r.tag)).take k), Blk b r.cells]) 8 ⟨0, rfl, rfl, by omega, by simp⟩ ?_
  rintro n s _ _ K ⟨k, rfl, rfl, hk, rfl⟩ hK
  refine xif_dec (fun h => ?_) (fun h => ?_)
  · have hk8 : k < 8 := by omega
    have hsz : r.tag.data.toList.length = r.tag.size := by simp
    have i1 : IntKind.i64.wrap (2 * (k : Int)) = ((2 * k : Nat) : Int) := by rw [wrap_id _ (by omega) (by omega)]; omega
    rw [i1, wrap_succ (2 * k) (by omega)]
    refine xget (h := ?_)
    refine xjoin1 (fun (x : Int) As' => x = ((if 2 * k < r.tag.size then r.tag.data.toList.getD (2 * k) 0 else 0 : UInt8).toNat : Int) ∧ As' = [Ar W16 s (pre ++ (pairW (textB r.tag)).take k), Blk b r.cells]) (fun K1 hK1 => ?_) ?_
    · refine xif_dec (fun h1 => ?_) (fun h1 => ?_)
      · obtain ⟨y, hy⟩ : ∃ y, r.tag.data.toList[2 * k]? = some y := ⟨_, List.getElem?_eq_getElem (by omega)⟩
        have hy8 := u8_lt y
        refine xget (h := xbyte (k := 2 * k) rfl hy ?_)
        rw [wrap_id _ (by omega) (by omega)]
        refine hK1 _ _ ⟨?_, rfl⟩
        rw [if_pos (by omega), List.getD_eq_getElem?_getD, hy]; rfl
      · refine hK1 _ _ ⟨?_, rfl⟩
        rw [if_neg (by omega)]; rfl
    rintro _ _ ⟨rfl, rfl⟩
    refine xget (h := ?_)
    refine xjoin1 (fun (x : Int) As' => x = ((if 2 * k + 1 < r.tag.size then r.tag.data.toList.getD (2 * k + 1) 0 else 0 : UInt8).toNat : Int) ∧ As' = [Ar W16 s (pre ++ (pairW (textB r.tag)).take k), Blk b r.cells]) (fun K1 hK1 => ?_) ?_
    · refine xif_dec (fun h1 => ?_) (fun h1 => ?_)
      · obtain ⟨y, hy⟩ : ∃ y, r.tag.data.toList[2 * k + 1]? = some y := ⟨_, List.getElem?_eq_getElem (by omega)⟩
        have hy8 := u8_lt y
        refine xget (h := xbyte (k := 2 * k + 1) rfl hy ?_)
        rw [wrap_id _ (by omega) (by omega)]
        refine hK1 _ _ ⟨?_, rfl⟩
        rw [if_pos (by omega), List.getD_eq_getElem?_getD, hy]; rfl
      · refine hK1 _ _ ⟨?_, rfl⟩
        rw [if_neg (by omega)]; rfl
    rintro _ _ ⟨rfl, rfl⟩
    have ga := textB_get r.tag (j := 2 * k) (by omega)
    have gb := textB_get r.tag (j := 2 * k + 1) (by omega)
    have gw := pairW_get ga gb
    generalize (if 2 * k < r.tag.size then r.tag.data.toList.getD (2 * k) 0 else 0 : UInt8) = ya at *
    generalize (if 2 * k + 1 < r.tag.size then r.tag.data.toList.getD (2 * k + 1) 0 else 0 : UInt8) = yb at *
    have h1 := u8_lt ya
    have h2 := u8_lt yb
    have e : IntKind.u16.wrap (IntKind.i64.wrap (IntKind.i64.wrap (256 * (ya.toNat : Int)) + (yb.toNat : Int))) = ((ya.toNat * 256 + yb.toNat : Nat) : Int) := by
      rw [wrap_id (256 * (ya.toNat : Int)) (by omega) (by omega), wrap_id _ (by omega) (by omega), show 256 * (ya.toNat : Int) + (yb.toNat : Int) = ((ya.toNat * 256 + yb.toNat : Nat) : Int) by omega, w16_wrap, Nat.mod_eq_of_lt (by omega)]
    rw [e]
    refine xnew fun b2 => ?_
    refine xapp1 (E := W16) ((ya.toNat * 256 + yb.toNat : Nat) : Int) (hb := by rw [List.length_append, List.length_take, hpre]; omega) (h := fun s' => ?_)
    rw [wrap_succ k (by omega)]
    refine hK (8 - (k + 1)) _ _ _ (by omega) ⟨k + 1, rfl, rfl, by omega, ?_⟩
    rw [List.take_add_one, gw, List.append_assoc]; rfl
  · rw [List.take_of_length_le (l := pairW (textB r.tag)) (by omega)]
    exact xdrop 1 (xret rfl)

theorem rWords_spec (seq : Int) (r : RE) : Ct Pr F_ref26_Words [.int .i64 seq, r.v] (.tup [none, none]) [.slice, .int .i64] [] emp (fun t Bs => t.2.1 = (wordsM seq r).2 ∧ Bs = [Ar W16 t.1 (wordsM seq r).1]) := by
  refine spec2 c_ref26_Words fun B _ => ?_
  unfold ref26_Words
  refine xnew fun b => ?_
  iterate 5 (refine xget (h := ?_))
  refine xcall0 (rCheck_spec r) rdb ?_
  rintro ⟨x, _⟩ _ ⟨hx, rfl⟩
  simp only at hx; subst hx
  refine app0 (ca1 (xif (fun h => ?_) (fun h => ?_)))
  · have e : wordsM seq r = ([], checkR r) := by unfold wordsM; rw [if_pos (by simpa using h)]
    refine xnone W16 (xuse [Ar W16 ⟨none, 0, 0⟩ []] (xret ⟨by rw [e], by rw [e]⟩))
  have h0 : ¬ checkR r ≠ 0 := by simpa using h
  refine xif (fun h1 => ?_) (fun h1 => ?_)
  · have e : wordsM seq r = ([], 3) := by unfold wordsM; rw [if_neg h0, if_pos (by simpa using h1)]
    refine xnone W16 (xuse [Ar W16 ⟨none, 0, 0⟩ []] (xret ⟨by rw [e], by rw [e]⟩))
  have e : wordsM seq r = (rowM seq r, 0) := by unfold wordsM; rw [if_neg h0, if_neg (by simpa using h1)]
  iterate 5 (refine xget (h := ?_))
  refine xcall0 (rRow_spec seq r) rdb ?_
  rintro ⟨s, _⟩ _ rfl
  exact app1 (ca1 (xkeep (l := [_]) (xret ⟨by rw [e], by rw [e]⟩)))

/-! New memory. -/
theorem CopyW_spec (s : Sl) (ws : List Int) (hb : ws.length ≤ 1000000) : Ct Pr F_kit_CopyWords [s.v] .one [.slice] [] (RAr W16 s ws) (fun t Bs => Bs = [Ar W16 t.1 ws]) := by
  refine spec1 c_kit_CopyWords fun B hr => ?_
  haveI : Fro B s W16 ws := ⟨hr⟩
  have hn := hr.1
  unfold kit_CopyWords
  refine xnone W16 ?_
  refine xloop2 (fun n (o : Sl) (i : Int) As' => ∃ k : Nat, i = (k : Int) ∧ n = ws.length - k ∧ k ≤ ws.length ∧ As' = [Ar W16 o (ws.take k)]) ws.length ⟨0, rfl, rfl, by omega, by simp⟩ ?_
  rintro n o _ _ K ⟨k, rfl, rfl, hk, rfl⟩ hK
  refine xif_dec (fun h => ?_) (fun h => ?_)
  · have hlt : k < ws.length := by omega
    have hy := List.getElem?_eq_getElem hlt
    refine xidxn (E := W16) (xs := ws) (s := s) (h1 := hlt) (h := fun _ _ => ?_)
    refine xgetE (E := W16) (xs := ws) hy (h := xnew fun b => ?_)
    refine xapp1 (E := W16) ws[k] (hb := by simp; omega) (h := fun s' => ?_)
    rw [wrap_succ k (by omega)]
    refine hK (ws.length - (k + 1)) _ _ _ (by omega) ⟨k + 1, rfl, rfl, by omega, ?_⟩
    rw [List.take_add_one, hy]; rfl
  · rw [List.take_of_length_le (by omega)]
    exact xret rfl
theorem SpoilW_spec (s : Sl) (ws : List Int) : Ct Pr F_kit_SpoilWords [s.v] (.tup []) [] [Ar W16 s ws] emp (fun _ Bs => ∃ ws' : List Int, ws'.length = ws.length ∧ Bs = [Ar W16 s ws']) := by
  refine spec0 c_kit_SpoilWords fun B _ => ?_
  unfold kit_SpoilWords
  refine xars 0 fun zs hn hc => ?_
  refine xslc0 rfl (by omega) (by omega) ?_
  rw [show ((s.c : Int)).toNat = s.c by omega]
  refine xshift s.c (ws ++ zs) [] (by simp) (by rw [List.length_append]; exact hc) (xar ?_)
  refine xloop1 (fun n (i : Int) As' => ∃ (k : Nat) (us : List Int), i = (k : Int) ∧ n = s.c - k ∧ k ≤ s.c ∧ us.length = s.c ∧ As' = [Ar W16 ⟨s.p, s.c, s.c⟩ us]) s.c ⟨0, ws ++ zs, rfl, rfl, by omega, by rw [List.length_append]; exact hc, rfl⟩ ?_
  rintro n _ _ K ⟨k, us, rfl, rfl, hk, hl, rfl⟩ hK
  refine xif_dec (fun h => ?_) (fun h => ?_)
  · have hlt : k < us.length := by
      have h : (k : Int) < (s.c : Int) := h
      omega
    have hy := List.getElem?_eq_getElem hlt
    refine xidxn (E := W16) (xs := us) (s := ⟨s.p, s.c, s.c⟩) (h1 := hlt) (h := fun _ _ => ?_)
    refine xgetE (E := W16) (xs := us) hy (h := ?_)
    refine xidxn (E := W16) (xs := us) (s := ⟨s.p, s.c, s.c⟩) (h1 := hlt) (h := fun _ _ => ?_)
    refine xsetE (E := W16) (xs := us) (bits .xor .u16 us[k] 23205) hy (hv := rfl) (h := ?_)
    have hM : s.c ≤ 9223372036854775807 → Ent B [Ar W16 ⟨s.p, s.c, s.c⟩ (us.set k (bits .xor .u16 us[k] 23205))] (K (IntKind.i64.wrap ((k : Int) + 1))) := fun hM => by
      rw [wrap_succ k (by omega)]
      exact hK (s.c - (k + 1)) _ _ (by omega) ⟨k + 1, _, rfl, rfl, by omega, by simpa using hl, rfl⟩
    refine xfact 0 (P1 := Ar W16 ⟨s.p, s.c, s.c⟩ (us.set k (bits .xor .u16 us[k] 23205))) (fun g hg => ?_) hM
    obtain ⟨z, hz⟩ := hg
    exact hz.cap_le
  · refine xars 0 fun zs2 h5 h6 => ?_
    refine xshift s.n (us.take s.n) (us.drop s.n ++ zs2) (by rw [← List.append_assoc, List.take_append_drop]) (by rw [List.length_take]; omega) (xar ?_)
    obtain ⟨p, n, c⟩ := s
    exact xret ⟨us.take n, by rw [List.length_take]; simp only at hl hn hc; omega, rfl⟩

theorem Apart2_spec (l s0 s1 : Sl) (xs ys : List Int) (hx : xs.length ≤ 1000000) (hy : ys.length ≤ 1000000) : Ct Pr F_kit_ApartWords [l.v] .one [.bool] [Ar W16 s0 xs, Ar W16 s1 ys] (RAr SL l [s0, s1]) (fun t Bs => t.1 = true) := by
  refine spec1 c_kit_ApartWords fun B hr => ?_
  haveI : Fro B l SL [s0, s1] := ⟨hr⟩
  have hn : (2 : Nat) = l.n := hr.1
  unfold kit_ApartWords
  refine xloop1 (fun n (i : Int) As' => ∃ (k : Nat) (xs' ys' : List Int), i = (k : Int) ∧ n = 2 - k ∧ k ≤ 2 ∧ xs'.length = xs.length ∧ ys'.length = ys.length ∧ As' = [Ar W16 s0 xs', Ar W16 s1 ys']) 2 ⟨0, xs, ys, rfl, rfl, by omega, rfl, rfl, rfl⟩ ?_
  rintro n _ _ K ⟨i, xs1, ys1, rfl, rfl, hi, e1, e2, rfl⟩ hK
  refine xif_dec (fun h => ?_) (fun h => xkeep (l := []) (xret rfl))
  refine xloop1 (fun n (k : Int) As' => ∃ (k' : Nat) (xs' ys' : List Int), k = (k' : Int) ∧ n = 2 - k' ∧ k' ≤ 2 ∧ xs'.length = xs.length ∧ ys'.length = ys.length ∧ As' = [Ar W16 s0 xs', Ar W16 s1 ys']) 2 ⟨0, xs1, ys1, rfl, rfl, by omega, e1, e2, rfl⟩ ?_
  rintro n _ _ K2 ⟨k, xs2, ys2, rfl, rfl, hk, e3, e4, rfl⟩ hK2
  refine xif_dec (fun h2 => ?_) (fun h2 => ?_)
  rotate_left
  · rw [wrap_succ i (by omega)]
    exact hK (2 - (i + 1)) _ _ (by omega) ⟨i + 1, xs2, ys2, rfl, rfl, by omega, e3, e4, rfl⟩
  have hi2 : i < 2 := by omega
  have hk2 : k < 2 := by omega
  refine xjoin0 (fun As' => ∃ (xs' ys' : List Int), xs'.length = xs.length ∧ ys'.length = ys.length ∧ As' = [Ar W16 s0 xs', Ar W16 s1 ys']) (fun K3 hK3 => ?_) ?_
  · refine xif (fun h3 => hK3 _ ⟨xs2, ys2, e3, e4, rfl⟩) (fun h3 => ?_)
    have hik : i ≠ k := fun e => by subst e; simp at h3
    have two : (i = 0 ∧ k = 1) ∨ (i = 1 ∧ k = 0) := by omega
    rcases two with ⟨rfl, rfl⟩ | ⟨rfl, rfl⟩
    · refine xidxn (E := SL) (xs := [s0, s1]) (s := l) (k := 1) (h1 := by simp) (h := fun _ _ => ?_)
      refine xgetE (E := SL) (xs := [s0, s1]) (x := s1) rfl (h := ?_)
      refine xcl (pre := []) (CopyW_spec s1 ys2 (by omega)) rdb ?_
      rintro ⟨c, _⟩ _ rfl
      refine app1 (ca1 ?_)
      refine xidxn (E := SL) (xs := [s0, s1]) (s := l) (k := 0) (h1 := by simp) (h := fun _ _ => ?_)
      refine xgetE (E := SL) (xs := [s0, s1]) (x := s0) rfl (h := ?_)
      refine xcl (SpoilW_spec s0 xs2) rdb ?_
      rintro _ _ ⟨xs3, e5, rfl⟩
      refine app1 (ca0 ?_)
      refine xidxn (E := SL) (xs := [s0, s1]) (s := l) (k := 1) (h1 := by simp) (h := fun _ _ => ?_)
      refine xgetE (E := SL) (xs := [s0, s1]) (x := s1) rfl (h := ?_)
      refine xcl (pre := []) (SameWords_spec c s1 ys2 ys2 (by omega)) (rds_and rdb rdb) ?_
      rintro ⟨x, _⟩ _ ⟨hx, rfl⟩
      obtain rfl : x = true := by rw [show x = _ from hx]; simp
      refine app0 (ca1 (xiff rfl ?_))
      exact xuse' (hK3 _ ⟨xs3, ys2, by omega, e4, rfl⟩)
    · refine xidxn (E := SL) (xs := [s0, s1]) (s := l) (k := 0) (h1 := by simp) (h := fun _ _ => ?_)
      refine xgetE (E := SL) (xs := [s0, s1]) (x := s0) rfl (h := ?_)
      refine xcl (pre := []) (CopyW_spec s0 xs2 (by omega)) rdb ?_
      rintro ⟨c, _⟩ _ rfl
      refine app1 (ca1 ?_)
      refine xidxn (E := SL) (xs := [s0, s1]) (s := l) (k := 1) (h1 := by simp) (h := fun _ _ => ?_)
      refine xgetE (E := SL) (xs := [s0, s1]) (x := s1) rfl (h := ?_)
      refine xcl (SpoilW_spec s1 ys2) rdb ?_
      rintro _ _ ⟨ys3, e5, rfl⟩
      refine app1 (ca0 ?_)
      refine xidxn (E := SL) (xs := [s0, s1]) (s := l) (k := 0) (h1 := by simp) (h := fun _ _ => ?_)
      refine xgetE (E := SL) (xs := [s0, s1]) (x := s0) rfl (h := ?_)
      refine xcl (pre := []) (SameWords_spec c s0 xs2 xs2 (by omega)) (rds_and rdb rdb) ?_
      rintro ⟨x, _⟩ _ ⟨hx, rfl⟩
      obtain rfl : x = true := by rw [show x = _ from hx]; simp
      refine app0 (ca1 (xiff rfl ?_))
      exact xuse' (hK3 _ ⟨xs2, ys3, e3, by omega, rfl⟩)
  · rintro _ ⟨xs3, ys3, e5, e6, rfl⟩
    rw [wrap_succ k (by omega)]
    exact hK2 (2 - (k + 1)) _ _ (by omega) ⟨k + 1, xs3, ys3, rfl, rfl, by omega, e5, e6, rfl⟩

theorem hwords_law (seq : Int) (r : RE) : Ct Pr F_law26_HistoryWords [.int .i64 seq, r.v] .one [.bool] [] GTab (fun t Bs => t.1 = true ∧ Bs = []) := by
  refine spec1 c_law26_HistoryWords fun B hr => ?_
  haveI : FroP B GTab := ⟨hr, fun _ _ h s => GTab.mono _ _ h s⟩
  have fin : ∀ {As : List HP}, Ent B As (Ret B (ss := [.bool]) (fun t Bs => t.1 = true ∧ Bs = []) (true, ())) := xkeep (l := []) (xret ⟨rfl, rfl⟩)
  have works : ∀ {As : List HP} {K : Bool → WP}, Ent B As (K true) → Ent B As (XCall Pr F_law26_works [] .one [.bool] K) := by
    intro As K hK
    refine xcall0 works26_spec rdb ?_
    rintro ⟨c, _⟩ _ ⟨hc, rfl⟩
    simp only at hc; subst hc
    exact app0 (ca1 hK)
  unfold law26_HistoryWords
  refine xnew fun b => xget (h := xif_dec (fun h => works fin) (fun h => ?_))
  iterate 5 (refine xget (h := ?_))
  refine xcall0 (hWords_spec seq r) rdb ?_
  rintro ⟨s, e, _⟩ _ ⟨he, rfl⟩
  simp only at he; subst he
  refine app1 (ca2 ?_)
  iterate 5 (refine xget (h := ?_))
  refine xcall0 (hWords_spec seq r) rdb ?_
  rintro ⟨s1, e, _⟩ _ ⟨he, rfl⟩
  simp only at he; subst he
  refine app1 (ca2 ?_)
  iterate 5 (refine xget (h := ?_))
  refine xcall0 (rWords_spec seq r) rdb ?_
  rintro ⟨s2, e, _⟩ _ ⟨he, rfl⟩
  simp only at he; subst he
  refine app1 (ca2 ?_)
  simp only
  have hl := wordsM_len seq r
  generalize hws : (wordsM seq r).1 = ws at *
  refine xjoin (xift (by simp) ?_)
  refine xcl (pre := []) (SameWords_spec s s2 ws ws (by omega)) (rds_and rdb rdb) ?_
  rintro ⟨x, _⟩ _ ⟨hx, rfl⟩
  obtain rfl : x = true := by rw [show x = _ from hx]; simp
  refine app0 (ca1 (xjoin (xift rfl ?_)))
  refine xcl (pre := []) (SameWords_spec s1 s2 ws ws (by omega)) (rds_and rdb rdb) ?_
  rintro ⟨x, _⟩ _ ⟨hx, rfl⟩
  obtain rfl : x = true := by rw [show x = _ from hx]; simp
  refine app0 (ca1 (xjoin (xift rfl (xnew fun b1 => ?_))))
  refine xfold1 0 (Q := Ar SL ⟨some ⟨b1, 0, none⟩, 2, 2⟩ [s, s1]) (fun g hg => ⟨[], blk_ar [s, s1] 2 rfl rfl hg⟩) ?_
  refine xcl (pre := [Ar W16 s ws, Ar W16 s1 ws]) (Apart2_spec ⟨some ⟨b1, 0, none⟩, 2, 2⟩ s s1 ws ws (by omega) (by omega)) rdb ?_
  rintro ⟨x, _⟩ Bs hx
  obtain rfl : x = true := hx
  exact ca1 (xjoin (xift rfl (works fin)))
end Go.Cx
