/-
  The document's own reader of numbers, bounds, words and places.
-/
import Derived.Test.YtncgenibaclejaaGreatDoorPH
namespace Go.Cx
open Go Go.Cf
set_option linter.unusedVariables false
set_option maxRecDepth 100000
variable {B : Base} {As F : List HP} {α : Type}

theorem xsub {l : List UInt8} {a b : Int} {i j : Nat} {K : ByteArray → WP} (ha : a = (i : Int)) (hb : b = (j : Int)) (hij : i ≤ j) (hj : j ≤ l.length) (h : Ent B As (K (BA ((l.take j).drop i)))) : Ent B As (XSub (BA l) a b K) := fun w hw => by
  subst ha hb
  refine ⟨by omega, by omega, by rw [BA_size]; omega, ?_⟩
  have e : (BA l).extract ((i : Int)).toNat ((j : Int)).toNat = BA ((l.take j).drop i) := by
    rw [Int.toNat_natCast, Int.toNat_natCast]
    apply ByteArray.ext
    simp [BA, List.drop_take]
  rw [e]
  exact h w hw

theorem wrap_dig {b : UInt8} (h : isDig b = true) : IntKind.u8.wrap ((b.toNat : Int) - 48) = ((b.toNat - 48 : Nat) : Int) := by
  simp only [isDig, Bool.and_eq_true, decide_eq_true_eq] at h
  unfold IntKind.wrap; simp [IntKind.bits, IntKind.signed] <;> omega

theorem frm_len {w : List UInt8} : (bare w).length = w.length - frm w ∧ frm w ≤ w.length := by
  rw [bare_drop]
  unfold frm
  refine ⟨by simp, ?_⟩
  unfold isNeg
  cases w with
  | nil => simp
  | cons b r => simp only [List.length_cons]; split <;> omega
theorem frm_get (w : List UInt8) (k : Nat) : w[frm w + k]? = (bare w)[k]? := by
  rw [bare_drop, List.getElem?_drop]; rfl

theorem number27_spec (w : List UInt8) (hl : w.length ≤ 4611686018427387904) : Ct Pr F_ref27_number [.string (BA w)] (.tup [none, none]) [.int .i64, .bool] [] emp (fun t Bs => t.2.1 = (numI w).isSome ∧ (∀ v, numI w = some v → t.1 = v) ∧ Bs = []) := by
  refine spec2 c_ref27_number fun B hr => ?_
  unfold ref27_number
  rw [BA_size]
  refine xjoin1 (fun (c : Bool) As' => As' = [] ∧ c = isNeg w) (fun K hK => ?_) ?_
  · refine xif_dec (fun h => ?_) (fun h => hK _ _ ⟨rfl, ?_⟩)
    · obtain ⟨b, hb⟩ : ∃ b, w[0]? = some b := ⟨_, List.getElem?_eq_getElem (by omega)⟩
      refine xbyte (k := 0) rfl (BA_at hb) (hK _ _ ⟨rfl, ?_⟩)
      cases w with
      | nil => cases hb
      | cons x r =>
        obtain rfl : x = b := by simpa using hb
        unfold isNeg
        rw [Bool.eq_iff_iff]
        simp only [beq_iff_eq]
        constructor
        · intro e; exact UInt8.toNat_inj.1 (by have : x.toNat = 45 := by omega
                                               rw [this]; rfl)
        · intro e; subst e; rfl
    · have : w = [] := List.length_eq_zero_iff.1 (by omega)
      subst this; rfl
  rintro c As2 ⟨rfl, rfl⟩
  refine xjoin1 (fun (x : Int) As' => As' = [] ∧ x = (frm w : Int)) (fun K hK => ?_) ?_
  · refine xif (fun h => hK _ _ ⟨rfl, by unfold frm; rw [if_pos h]; rfl⟩) (fun h => hK _ _ ⟨rfl, by unfold frm; rw [if_neg (by rw [h]; decide)]; rfl⟩)
  rintro x As2 ⟨rfl, rfl⟩
  obtain ⟨hbl, hfl⟩ := frm_len (w := w)
  have hw1 : IntKind.i64.wrap ((w.length : Int) - (frm w : Int)) = ((bare w).length : Int) := by rw [wrap_id _ (by omega) (by omega)]; omega
  rw [hw1]
  refine xif (fun h => xret ⟨?_, fun v hv => ?_, rfl⟩) (fun h => ?_)
  · rw [numI_len (by simp only [Bool.or_eq_true, decide_eq_true_eq] at h; omega)]; rfl
  · rw [numI_len (by simp only [Bool.or_eq_true, decide_eq_true_eq] at h; omega)] at hv; cases hv
  simp only [Bool.or_eq_false_iff, decide_eq_false_iff_not] at h
  refine xloop2 (fun m (v : Int) (i : Int) As' => ∃ k : Nat, i = ((frm w + k : Nat) : Int) ∧ v = (decV ((bare w).take k) : Int) ∧ m = (bare w).length - k ∧ k ≤ (bare w).length ∧ ((bare w).take k).all isDig = true ∧ As' = []) (bare w).length ⟨0, rfl, rfl, by omega, by omega, rfl, rfl⟩ ?_
  rintro m v i As' K ⟨k, rfl, rfl, rfl, hk, hall, rfl⟩ hK
  have hlt := decV_lt13 hall (by rw [List.length_take]; omega)
  refine xif_dec (fun hp => ?_) (fun hp => ?_)
  · have hp : k < (bare w).length := by omega
    obtain ⟨b, hb⟩ : ∃ b, (bare w)[k]? = some b := ⟨_, List.getElem?_eq_getElem hp⟩
    have hb' : w[frm w + k]? = some b := by rw [frm_get]; exact hb
    refine xbyte (k := frm w + k) rfl (BA_at hb') ?_
    refine xjoin1 (fun (c : Bool) As' => As' = [] ∧ c = !(isDig b)) (fun K2 hK2 => ?_) ?_
    · refine xif_dec (fun h1 => hK2 _ _ ⟨rfl, ?_⟩) (fun h1 => xbyte (k := frm w + k) rfl (BA_at hb') (hK2 _ _ ⟨rfl, ?_⟩))
      · have : isDig b = false := by
          unfold isDig
          have : decide (48 ≤ b.toNat) = false := by rw [decide_eq_false_iff_not]; omega
          rw [this]; rfl
        rw [this]; rfl
      · unfold isDig
        have e : decide (48 ≤ b.toNat) = true := by rw [decide_eq_true_eq]; omega
        rw [e, Bool.true_and, Bool.eq_iff_iff]
        simp only [decide_eq_true_eq, Bool.not_eq_true', decide_eq_false_iff_not]
        omega
    rintro c As2 ⟨rfl, rfl⟩
    refine xif (fun h1 => xret ⟨?_, fun v hv => ?_, rfl⟩) (fun h1 => ?_)
    · rw [numI_dig hb (by simpa using h1)]; rfl
    · rw [numI_dig hb (by simpa using h1)] at hv; cases hv
    have hd : isDig b = true := by simpa using h1
    refine xbyte (k := frm w + k) rfl (BA_at hb') ?_
    rw [wrap_dig hd]
    have hb9 : b.toNat ≤ 57 := by simp only [isDig, Bool.and_eq_true, decide_eq_true_eq] at hd; exact hd.2
    have e1 : decV ((bare w).take (k + 1)) = decV ((bare w).take k) * 10 + (b.toNat - 48) := by rw [← take_snoc27 hb, decV_snoc]
    have e2 : IntKind.i64.wrap (IntKind.i64.wrap (10 * (decV ((bare w).take k) : Int)) + IntKind.i64.wrap ((b.toNat - 48 : Nat) : Int)) = (decV ((bare w).take (k + 1)) : Int) := by
      rw [wrap_id (10 * (decV ((bare w).take k) : Int)) (by omega) (by omega), wrap_id ((b.toNat - 48 : Nat) : Int) (by omega) (by omega), wrap_id _ (by omega) (by omega), e1]
      omega
    rw [e2, wrap_succ _ (by omega)]
    refine hK ((bare w).length - (k + 1)) _ _ _ (by omega) ⟨k + 1, rfl, rfl, rfl, by omega, ?_, rfl⟩
    rw [← take_snoc27 hb, List.all_append, hall]
    simpa using h1
  · rw [List.take_of_length_le (by omega)] at hall hlt ⊢
    obtain ⟨n1, n2⟩ := numI_raw (w := w) (by omega) (by omega) hall
    obtain ⟨l1, l2⟩ := rawV_lt (w := w) (by omega) hall
    refine xjoin1 (fun (x : Int) As' => As' = [] ∧ x = rawV w) (fun K2 hK2 => ?_) ?_
    · have hf : ((frm w : Int) == 1) = isNeg w := by unfold frm; cases isNeg w <;> rfl
      rw [hf]
      refine xif (fun h1 => hK2 _ _ ⟨rfl, ?_⟩) (fun h1 => hK2 _ _ ⟨rfl, ?_⟩)
      · rw [wrap_id _ (by omega) (by omega)]; unfold rawV; rw [if_pos h1]; omega
      · unfold rawV; rw [if_neg (by rw [h1]; decide)]
    rintro x As2 ⟨rfl, rfl⟩
    refine xcall0 (Number_spec (rawV w) (by omega) (by omega)) rdb ?_
    rintro ⟨t, _⟩ _ ⟨ht, rfl⟩
    obtain rfl : t = BA (Lib.itoa (rawV w)) := ht
    refine app0 (ca1 (xret ⟨?_, fun v hv => (n2 v hv).symm, rfl⟩))
    show ((BA (Lib.itoa (rawV w))).toList == (BA w).toList) = _
    rw [BA_eqv, n1]

theorem bound27_spec (w : List UInt8) (hl : w.length ≤ 4611686018427387904) : Ct Pr F_ref27_bound [.string (BA w)] (.tup [none, none, none]) [.int .i64, .bool, .bool] [] emp (fun t Bs => t.2.2.1 = (boundV w).isSome ∧ (∀ v, boundV w = some v → t.1 = v.1 ∧ t.2.1 = v.2) ∧ Bs = []) := by
  refine spec3 c_ref27_bound fun B hr => ?_
  unfold ref27_bound
  have e := BA_eqv w [45]
  refine xif (fun h => xret ?_) (fun h => ?_)
  · have h := eq_of_beq (e.symm.trans h)
    subst h
    exact ⟨rfl, fun v hv => by obtain rfl := Option.some.inj hv; exact ⟨rfl, rfl⟩, rfl⟩
  · have h := beq_eq_false_iff_ne.1 (e.symm.trans h)
    refine xcall0 (number27_spec w hl) rdb ?_
    rintro ⟨r, c, _⟩ _ ⟨h1, h2, rfl⟩
    have hb : boundV w = (numI w).map fun v => (v, true) := by unfold boundV; rw [if_neg h]
    refine app0 (ca2 (xret ⟨?_, fun v hv => ?_, rfl⟩))
    · rw [hb]
      obtain rfl : c = (numI w).isSome := h1
      show (numI w).isSome = _
      cases numI w <;> rfl
    · rw [hb] at hv
      obtain ⟨x, hx, rfl⟩ := Option.map_eq_some_iff.1 hv
      exact ⟨h2 x hx, rfl⟩

theorem numbers_spec (s : Sl) (ws : List (List UInt8)) (hm : ∀ w ∈ ws, w.length ≤ 4611686018427387904) (hn : ws.length ≤ 1000) : Ct Pr F_ref27_numbers [s.v] (.tup [none, none]) [.slice, .bool] [] (RAr Cf.ST s (ws.map BA)) (fun t Bs => (numsI ws = none ∧ t.2.1 = false ∧ Bs = []) ∨ (∃ vs, numsI ws = some vs ∧ t.2.1 = true ∧ Bs = [Ar I64 t.1 vs])) := by
  refine spec2 c_ref27_numbers fun B hr => ?_
  haveI : Fro B s Cf.ST (ws.map BA) := ⟨hr⟩
  have hl : (ws.map BA).length = s.n := hr.1
  rw [List.length_map] at hl
  unfold ref27_numbers
  refine xnone I64 ?_
  refine xuse [Ar I64 ⟨none, 0, 0⟩ []] ?_
  refine xloop2 (fun m (out : Sl) (i : Int) As' => ∃ (k : Nat) (vs : List Int), i = (k : Int) ∧ m = ws.length - k ∧ k ≤ ws.length ∧ numsI (ws.take k) = some vs ∧ vs.length = k ∧ As' = [Ar I64 out vs]) ws.length ⟨0, [], rfl, rfl, by omega, rfl, rfl, rfl⟩ ?_
  rintro m out i As' K ⟨k, vs, rfl, rfl, hk, hvs, hvl, rfl⟩ hK
  refine xif_dec (fun hp => ?_) (fun hp => ?_)
  · have hp : k < ws.length := by omega
    obtain ⟨w, hw⟩ : ∃ w, ws[k]? = some w := ⟨_, List.getElem?_eq_getElem hp⟩
    have hwx : (ws.map BA)[k]? = some (BA w) := by rw [List.getElem?_map, hw]; rfl
    refine xidxn (E := Cf.ST) (xs := ws.map BA) (s := s) (h1 := by rw [List.length_map]; exact hp) (h := fun x hx => ?_)
    obtain rfl : x = BA w := by rw [hwx] at hx; exact (Option.some.inj hx).symm
    refine xgetE (E := Cf.ST) (xs := ws.map BA) hx (h := ?_)
    refine xcall0 (number27_spec w (hm w (List.mem_of_getElem? hw))) rdb ?_
    rintro ⟨r, c, _⟩ _ ⟨h1, h2, rfl⟩
    obtain rfl : c = (numI w).isSome := h1
    refine app0 (ca2 (xif (fun h => ?_) (fun h => ?_)))
    · have hn : numI w = none := by
        cases e : numI w with
        | none => rfl
        | some v => rw [e] at h; cases h
      refine xkeep (l := []) (xret (.inl ⟨numsI_bad (List.mem_of_getElem? hw) hn, rfl, rfl⟩))
    · obtain ⟨v, hv⟩ : ∃ v, numI w = some v := by
        cases e : numI w with
        | none => rw [e] at h; cases h
        | some v => exact ⟨v, rfl⟩
      obtain rfl : r = v := h2 v hv
      refine xnew fun b => ?_
      refine xapp1 (E := I64) r (hb := by rw [hvl]; omega) (h := fun s2 => ?_)
      rw [wrap_succ k (by omega)]
      refine xuse [Ar I64 s2 (vs ++ [r])] (hK (ws.length - (k + 1)) _ _ _ (by omega) ⟨k + 1, vs ++ [r], rfl, rfl, by omega, ?_, by simp [hvl], rfl⟩)
      rw [numsI_take hvs hw, hv]; rfl
  · have hk' : k = ws.length := by omega
    rw [hk', List.take_of_length_le (Nat.le_refl _)] at hvs
    exact xret (.inr ⟨vs, hvs, rfl, rfl⟩)

theorem place_get {w : List UInt8} : ∀ {l : List (List UInt8)} {k i : Nat}, (∀ j, j < k → l[j]? ≠ some w) → l[k]? = some w → placeFrom i w l = ((i + k : Nat) : Int)
  | [], k, i, _, h => by cases h
  | x :: r, 0, i, _, h => by
    obtain rfl : x = w := by simpa using h
    simp [placeFrom]
  | x :: r, k + 1, i, hn, h => by
    have hx : ¬ x = w := fun e => hn 0 (by omega) (by simp [e])
    unfold placeFrom
    rw [if_neg hx, place_get (k := k) (fun j hj => by have := hn (j + 1) (by omega); simpa using this) (by simpa using h)]
    omega
theorem place_none {w : List UInt8} : ∀ {l : List (List UInt8)} {i : Nat}, w ∉ l → placeFrom i w l = -1
  | [], i, _ => rfl
  | x :: r, i, h => by
    unfold placeFrom
    rw [if_neg (fun e => h (by simp [e])), place_none (fun e => h (by simp [e]))]

theorem place_spec (s : Sl) (l : List (List UInt8)) (w : List UInt8) (hl : l.length ≤ 1000) : Ct Pr F_ref27_place [s.v, .string (BA w)] .one [.int .i64] [] (RAr Cf.ST s (l.map BA)) (fun t Bs => t.1 = placeI l w ∧ Bs = []) := by
  refine spec1 c_ref27_place fun B hr => ?_
  haveI : Fro B s Cf.ST (l.map BA) := ⟨hr⟩
  have hs : (l.map BA).length = s.n := hr.1
  rw [List.length_map] at hs
  unfold ref27_place
  refine xloop1 (fun m (i : Int) As' => ∃ k : Nat, i = (k : Int) ∧ m = l.length - k ∧ k ≤ l.length ∧ (∀ j, j < k → l[j]? ≠ some w) ∧ As' = []) l.length ⟨0, rfl, rfl, by omega, fun j hj => absurd hj (by omega), rfl⟩ ?_
  rintro m i As' K ⟨k, rfl, rfl, hk, hno, rfl⟩ hK
  refine xif_dec (fun hp => ?_) (fun hp => ?_)
  · have hp : k < l.length := by omega
    obtain ⟨y, hy⟩ : ∃ w, l[k]? = some w := ⟨_, List.getElem?_eq_getElem hp⟩
    have hwx : (l.map BA)[k]? = some (BA y) := by rw [List.getElem?_map, hy]; rfl
    refine xidxn (E := Cf.ST) (xs := l.map BA) (s := s) (h1 := by rw [List.length_map]; exact hp) (h := fun x hx => ?_)
    obtain rfl : x = BA y := by rw [hwx] at hx; exact (Option.some.inj hx).symm
    refine xgetE (E := Cf.ST) (xs := l.map BA) hx (h := ?_)
    have e := BA_eqv y w
    refine xif (fun h => xret ⟨?_, rfl⟩) (fun h => ?_)
    · have h := eq_of_beq (e.symm.trans h)
      subst h
      have := place_get (i := 0) hno hy
      rw [Nat.zero_add] at this
      exact this.symm
    · have h := beq_eq_false_iff_ne.1 (e.symm.trans h)
      rw [wrap_succ k (by omega)]
      refine hK (l.length - (k + 1)) _ _ (by omega) ⟨k + 1, rfl, rfl, by omega, fun j hj => ?_, rfl⟩
      by_cases hjk : j = k
      · subst hjk; rw [hy]; simpa using h
      · exact hno j (by omega)
  · refine xret ⟨?_, rfl⟩
    refine (place_none fun hm => ?_).symm
    obtain ⟨j, hj⟩ := List.getElem?_of_mem hm
    have := (List.getElem?_eq_some_iff.1 hj).1
    exact hno j (by omega) hj

/-! Words. -/
theorem words_step {s : List UInt8} {f k : Nat} (hf : f ≤ k) (hk : s[k]? = some 32) (hn : (32 : UInt8) ∉ (s.take k).drop f) : splitL 32 (s.drop f) = (s.take k).drop f :: splitL 32 (s.drop (k + 1)) := by
  have hlt := (List.getElem?_eq_some_iff.1 hk).1
  have e : s.drop f = (s.take k).drop f ++ 32 :: s.drop (k + 1) := by
    conv => lhs; rw [← List.take_append_drop k s]
    rw [List.drop_append_of_le_length (by rw [List.length_take]; omega), List.drop_eq_getElem_cons hlt, (List.getElem?_eq_some_iff.1 hk).2]
  rw [e, splitL_hit hn]
theorem notin_step {s : List UInt8} {c b : UInt8} {f k : Nat} (hf : f ≤ k) (hk : s[k]? = some b) (hb : b ≠ c) (hn : c ∉ (s.take k).drop f) : c ∉ (s.take (k + 1)).drop f := by
  have hlt := (List.getElem?_eq_some_iff.1 hk).1
  rw [← take_snoc27 hk, List.drop_append_of_le_length (by rw [List.length_take]; omega)]
  simp only [List.mem_append, List.mem_singleton, not_or]
  exact ⟨hn, fun e => hb e.symm⟩
theorem notin_nil {s : List UInt8} {c : UInt8} (k : Nat) : c ∉ (s.take k).drop k := by
  rw [List.drop_of_length_le (by rw [List.length_take]; omega)]; simp

theorem words_spec (s : List UInt8) (hs : s.length ≤ 1048576) : Ct Pr F_ref27_words [.string (BA s)] .one [.slice] [] emp (fun t Bs => Bs = [Ar Cf.ST t.1 ((splitL 32 s).map BA)]) := by
  refine spec1 c_ref27_words fun B hr => ?_
  unfold ref27_words
  rw [BA_size]
  refine xnone Cf.ST ?_
  refine xuse [Ar Cf.ST ⟨none, 0, 0⟩ []] ?_
  refine xloop3 (fun m (l : Sl) (fr : Int) (i : Int) As' => ∃ (k f : Nat) (ws : List (List UInt8)), i = (k : Int) ∧ fr = (f : Int) ∧ m = s.length - k ∧ f ≤ k ∧ k ≤ s.length ∧ ws.length ≤ k ∧ splitL 32 s = ws ++ splitL 32 (s.drop f) ∧ (32 : UInt8) ∉ (s.take k).drop f ∧ As' = [Ar Cf.ST l (ws.map BA)]) s.length ⟨0, 0, [], rfl, rfl, rfl, by omega, by omega, by simp, rfl, by simp, rfl⟩ ?_
  rintro m l fr i As' K ⟨k, f, ws, rfl, rfl, rfl, hfk, hk, hwl, hsp, hno, rfl⟩ hK
  refine xif_dec (fun hp => ?_) (fun hp => ?_)
  · have hp : k < s.length := by omega
    obtain ⟨b, hb⟩ : ∃ b, s[k]? = some b := ⟨_, List.getElem?_eq_getElem hp⟩
    refine xbyte (k := k) rfl (BA_at hb) ?_
    refine xjoin (xif (fun h => ?_) (fun h => ?_))
    · have hb32 : b = 32 := by
        have h : (b.toNat : Int) = 32 := by simpa using h
        exact UInt8.toNat_inj.1 (by have : b.toNat = 32 := by omega
                                    rw [this]; rfl)
      subst hb32
      refine xsub rfl rfl hfk (by omega) ?_
      refine xnew fun b => ?_
      refine xapp1 (E := Cf.ST) (BA ((s.take k).drop f)) (hb := by simp; omega) (h := fun s2 => ?_)
      rw [wrap_succ k (by omega)]
      have e : ws.map BA ++ [BA ((s.take k).drop f)] = (ws ++ [(s.take k).drop f]).map BA := by simp
      rw [e]
      refine xuse [Ar Cf.ST s2 ((ws ++ [(s.take k).drop f]).map BA)] (hK (s.length - (k + 1)) _ _ _ _ (by omega) ⟨k + 1, k + 1, ws ++ [(s.take k).drop f], rfl, rfl, rfl, by omega, by omega, by simp; omega, ?_, notin_nil _, rfl⟩)
      rw [hsp, words_step hfk hb hno, List.append_assoc]; rfl
    · have hb32 : b ≠ 32 := by
        intro e; subst e; simp at h
      rw [wrap_succ k (by omega)]
      exact hK (s.length - (k + 1)) _ _ _ _ (by omega) ⟨k + 1, f, ws, rfl, rfl, rfl, by omega, by omega, by omega, hsp, notin_step hfk hb hb32 hno, rfl⟩
  · have hk' : k = s.length := by omega
    subst hk'
    refine xsub rfl rfl hfk (by omega) ?_
    refine xnew fun b => ?_
    refine xapp1 (E := Cf.ST) (BA ((s.take s.length).drop f)) (hb := by simp; omega) (h := fun s2 => ?_)
    have e : ws.map BA ++ [BA ((s.take s.length).drop f)] = (splitL 32 s).map BA := by
      rw [hsp]
      rw [List.take_of_length_le (Nat.le_refl _)] at hno ⊢
      rw [splitL_none hno]; simp
    rw [e]
    exact xuse [Ar Cf.ST s2 ((splitL 32 s).map BA)] (xret rfl)

end Go.Cx
