/-
  The reader of a line: what its calls come to.
-/
import Derived.Test.YtncgenibaclejaaGreatDoorPA
import Derived.Test.YtncgenibaclejaaGreatDoorCC
namespace Go.Cx
open Go Go.Cf
set_option linter.unusedVariables false
set_option maxRecDepth 100000
variable {B : Base} {As F : List HP} {α : Type}

instance (priority := high) RdA.rhead (B : Base) (As : List HP) (s : Sl) (E : Enc α) (xs : List α) : RdA B (RAr E s xs :: As) s E xs := ⟨fun w h => by
  obtain ⟨g, hg, hs⟩ := h.head
  exact hg.mono hs⟩
instance (priority := high) Rdb.rhead (s : Sl) (E : Enc α) (xs : List α) : Rdb B (RAr E s xs :: F) (RAr E s xs) := ⟨fun g _ hF ⟨_, _, pa, _, _, sa, _⟩ c => pa.mono (sa.trans c)⟩

theorem trim_bare (w : List UInt8) : Lib.trimPrefix w [45] = bare w := by
  unfold Lib.trimPrefix Lib.hasPrefix bare
  cases w with
  | nil => rfl
  | cons b r =>
    by_cases hb : b = 45
    · subst hb; simp
    · have h' : ¬ 45 = b := fun e => hb e.symm
      simp [hb, h']

theorem BA_at {l : List UInt8} {k : Nat} {b : UInt8} (h : l[k]? = some b) : (BA l).data.toList[k]? = some b := by rw [BA_list]; exact h
theorem BA_eqv (l : List UInt8) (m : List UInt8) : ((BA l).toList == (BA m).toList) = (l == m) := by rw [BA_toList, BA_toList]

theorem digits_spec (w : List UInt8) (hl : w.length ≤ 4611686018427387904) : Ct Pr F_config_digits [.string (BA w)] .one [.bool] [] emp (fun t Bs => t.1 = numOk w ∧ Bs = []) := by
  refine spec1 c_config_digits fun B hr => ?_
  unfold config_digits
  refine xcall0 (TrimPrefix_spec (BA w) _) rdb ?_
  rintro ⟨t, _⟩ _ ⟨ht, rfl⟩
  have ht : t = BA (bare w) := by
    rw [show t = _ from ht, BA_list, show (⟨#[45]⟩ : ByteArray).data.toList = [45] from rfl, trim_bare]; rfl
  subst ht
  have hsz := BA_size (bare w)
  have hbl : (bare w).length ≤ w.length := by
    unfold bare
    split
    · split <;> simp
    · simp
  refine app0 (ca1 ?_)
  have fin : ∀ {As : List HP} {c : Bool}, c = numOk w → Ent B As (Ret B (ss := [.bool]) (fun t Bs => t.1 = numOk w ∧ Bs = []) (c, ())) := fun {As} {c} h => xkeep (l := []) (xret ⟨h, rfl⟩)
  refine xjoin1 (fun (c : Bool) As' => As' = [] ∧ c = (decide ((bare w).length < 1) || decide ((bare w).length > 13) || (decide ((bare w).length > 1) && ((bare w)[0]? == some 48)))) (fun K hK => ?_) ?_
  · rw [hsz]
    refine xif (fun h => hK _ _ ⟨rfl, ?_⟩) (fun h => ?_)
    · simp only [Bool.or_eq_true, decide_eq_true_eq] at h
      have : (decide ((bare w).length < 1) || decide ((bare w).length > 13)) = true := by
        simp only [Bool.or_eq_true, decide_eq_true_eq]; omega
      rw [this]; rfl
    · simp only [Bool.or_eq_false_iff, decide_eq_false_iff_not] at h
      have h' : (decide ((bare w).length < 1) || decide ((bare w).length > 13)) = false := by
        simp only [Bool.or_eq_false_iff, decide_eq_false_iff_not]; omega
      rw [h', Bool.false_or] at hK
      refine xjoin (xif_dec (fun h1 => ?_) (fun h1 => hK _ _ ⟨rfl, ?_⟩))
      · obtain ⟨b, hb⟩ : ∃ b, (bare w)[0]? = some b := ⟨_, List.getElem?_eq_getElem (by omega)⟩
        refine xbyte (k := 0) rfl (BA_at hb) (hK _ _ ⟨rfl, ?_⟩)
        have : decide ((bare w).length > 1) = true := by rw [decide_eq_true_eq]; omega
        rw [this, Bool.true_and, hb]
        rw [Bool.eq_iff_iff]
        simp only [beq_iff_eq, Option.some.injEq]
        constructor
        · intro e; exact UInt8.toNat_inj.1 (by have : b.toNat = 48 := by omega
                                               rw [this]; rfl)
        · intro e; subst e; rfl
      · have : decide ((bare w).length > 1) = false := by rw [decide_eq_false_iff_not]; omega
        rw [this]; rfl
  rintro c As2 ⟨rfl, rfl⟩
  generalize hC : (decide ((bare w).length < 1) || decide ((bare w).length > 13) || (decide ((bare w).length > 1) && ((bare w)[0]? == some 48))) = C
  refine xjoin1 (fun (c : Bool) As' => As' = [] ∧ c = (C || (w == [45, 48]))) (fun K hK => ?_) ?_
  · refine xif (fun h => hK _ _ ⟨rfl, by rw [h]; rfl⟩) (fun h => hK _ _ ⟨rfl, ?_⟩)
    rw [h, Bool.false_or]
    exact BA_eqv w [45, 48]
  rintro c As2 ⟨rfl, rfl⟩
  refine xif (fun h => fin ?_) (fun h => ?_)
  · refine (Bool.eq_false_iff.2 fun hk => ?_).symm
    obtain ⟨h1, h2, h3, h4, h5⟩ := numOk_parts hk
    rw [← hC] at h
    simp only [Bool.or_eq_true, Bool.and_eq_true, decide_eq_true_eq, beq_iff_eq] at h
    rcases h with ((h | h) | h) | h
    · omega
    · omega
    · exact h3 h.1 h.2
    · exact h4 h
  have hrest : numOk w = (bare w).all isDig := by
    rw [← hC] at h
    simp only [Bool.or_eq_false_iff, Bool.and_eq_false_iff, decide_eq_false_iff_not, beq_eq_false_iff_ne, ne_eq] at h
    obtain ⟨⟨⟨h1, h2⟩, h3⟩, h4⟩ := h
    unfold numOk
    have e1 : decide (1 ≤ (bare w).length) = true := by rw [decide_eq_true_eq]; omega
    have e2 : decide ((bare w).length ≤ 13) = true := by rw [decide_eq_true_eq]; omega
    have e3 : (decide ((bare w).length > 1) && ((bare w)[0]? == some 48)) = false := by
      rcases h3 with h3 | h3
      · rw [decide_eq_false h3]; rfl
      · rw [beq_eq_false_iff_ne.2 h3, Bool.and_false]
    have e4 : (w == [45, 48]) = false := beq_eq_false_iff_ne.2 h4
    rw [e1, e2, e3, e4]; rfl
  rw [hsz]
  refine xloop1 (fun m (x : Int) As' => ∃ k : Nat, x = (k : Int) ∧ m = (bare w).length - k ∧ k ≤ (bare w).length ∧ ((bare w).take k).all isDig = true ∧ As' = []) (bare w).length ⟨0, rfl, by omega, by omega, rfl, rfl⟩ ?_
  rintro m x As' K ⟨k, rfl, rfl, hk, hall, rfl⟩ hK
  refine xif_dec (fun hp => ?_) (fun hp => fin ?_)
  · have hp : k < (bare w).length := by omega
    obtain ⟨b, hb⟩ : ∃ b, (bare w)[k]? = some b := ⟨_, List.getElem?_eq_getElem hp⟩
    refine xbyte (k := k) rfl (BA_at hb) ?_
    refine xjoin1 (fun (c : Bool) As' => As' = [] ∧ c = !(isDig b)) (fun K2 hK2 => ?_) ?_
    · refine xif_dec (fun h1 => hK2 _ _ ⟨rfl, ?_⟩) (fun h1 => xbyte (k := k) rfl (BA_at hb) (hK2 _ _ ⟨rfl, ?_⟩))
      · have : isDig b = false := by
          unfold isDig
          have : decide (48 ≤ b.toNat) = false := by rw [decide_eq_false_iff_not]; omega
          rw [this]; rfl
        rw [this]; rfl
      · unfold isDig
        have e : decide (48 ≤ b.toNat) = true := by rw [decide_eq_true_eq]; omega
        rw [e, Bool.true_and, Bool.eq_iff_iff]
        simp only [decide_eq_true_eq, Bool.not_eq_true', decide_eq_false_iff_not]
        omega
    rintro c As2 ⟨rfl, rfl⟩
    refine xif (fun h1 => fin ?_) (fun h1 => ?_)
    · rw [hrest]
      refine (Bool.eq_false_iff.2 fun hk => ?_).symm
      have := List.all_eq_true.1 hk b (List.mem_of_getElem? hb)
      rw [this] at h1; cases h1
    · rw [wrap_succ k (by omega)]
      refine hK _ _ _ (by omega) ⟨k + 1, rfl, rfl, by omega, ?_, rfl⟩
      rw [← take_snoc27 hb, List.all_append, hall]
      simpa using h1
  · rw [hrest]
    rw [List.take_of_length_le (by omega)] at hall
    exact hall.symm

theorem kindOf_spec (w : List UInt8) : Ct Pr F_config_kindOf [.string (BA w)] .one [.int .i64] [] emp (fun t Bs => t.1 = kindV w ∧ Bs = []) := by
  refine spec1 c_config_kindOf fun B hr => ?_
  unfold config_kindOf
  have e1 := BA_eqv w [99, 111, 105, 108]
  have e2 := BA_eqv w [105, 110, 112, 117, 116]
  have e3 := BA_eqv w [104, 111, 108, 100, 105, 110, 103]
  have e4 := BA_eqv w [114, 101, 103, 105, 115, 116, 101, 114]
  refine xif (fun h => xret ⟨?_, rfl⟩) (fun h => xif (fun h1 => xret ⟨?_, rfl⟩) (fun h1 => xif (fun h2 => xret ⟨?_, rfl⟩) (fun h2 => xif (fun h3 => xret ⟨?_, rfl⟩) (fun h3 => xret ⟨?_, rfl⟩))))
  · have h := eq_of_beq (e1.symm.trans h)
    subst h; rfl
  · have h := beq_eq_false_iff_ne.1 (e1.symm.trans h)
    have h1 := eq_of_beq (e2.symm.trans h1)
    subst h1; rfl
  · have h2 := eq_of_beq (e3.symm.trans h2)
    subst h2; rfl
  · have h3 := eq_of_beq (e4.symm.trans h3)
    subst h3; rfl
  · have h := beq_eq_false_iff_ne.1 (e1.symm.trans h)
    have h1 := beq_eq_false_iff_ne.1 (e2.symm.trans h1)
    have h2 := beq_eq_false_iff_ne.1 (e3.symm.trans h2)
    have h3 := beq_eq_false_iff_ne.1 (e4.symm.trans h3)
    unfold kindV
    rw [if_neg h, if_neg h1, if_neg h2, if_neg h3]

theorem flag_spec (b : Nat) (f : List UInt8) (c : UInt8) : Ct Pr F_config_flag [.pointer (some ⟨b, 0, none⟩), .string (BA [c])] .one [.bool] [Blk b [.string (BA f)]] emp (fun t Bs => t.1 = offB c f ∧ Bs = [Blk b [.string (BA (offL c f))]]) := by
  refine spec1 c_config_flag fun B hr => ?_
  unfold config_flag
  refine xnil (xget (h := ?_))
  refine xcall0 (CutPrefix_spec (BA f) (BA [c])) rdb ?_
  rintro ⟨t, k, _⟩ _ ⟨ht, hk, rfl⟩
  simp only [BA_list] at ht hk
  have h1 : Lib.trimPrefix f [c] = offL c f := by
    unfold Lib.trimPrefix Lib.hasPrefix offL
    cases f with
    | nil => rfl
    | cons x r =>
      by_cases hx : x = c
      · subst hx; simp
      · have h' : ¬ c = x := fun e => hx e.symm
        simp [hx, h']
  have h2 : Lib.hasPrefix f [c] = offB c f := by
    unfold Lib.hasPrefix offB
    cases f with
    | nil => rfl
    | cons x r =>
      by_cases hx : x = c
      · subst hx; simp
      · have h' : (c == x) = false := beq_eq_false_iff_ne.2 fun e => hx e.symm
        have h'' : (x == c) = false := beq_eq_false_iff_ne.2 hx
        simp only [List.isPrefixOf, h', h'', Bool.false_and]
  rw [h1] at ht
  rw [h2] at hk
  obtain rfl : t = BA (offL c f) := ht
  subst hk
  refine app0 (ca2 (xnil (xset (h := xret ⟨rfl, rfl⟩))))

/-! The reader. -/
def RdrI (b : Nat) (ws : List (List UInt8)) (i : Nat) (bad : Bool) : HP := fun h => ∃ (sl : Sl) (rest : List (List UInt8)), (bad = false → rest = ws.drop i) ∧ sl.n ≤ sl.c ∧ star [Blk b [sl.v, .bool bad], RAr Cf.ST sl (rest.map BA)] h

theorem xrdr {b : Nat} {ws : List (List UInt8)} {i : Nat} {bad : Bool} {φ : WP} (j : Nat) [p : Pick j As (RdrI b ws i bad) F]
    (h : ∀ (sl : Sl) (rest : List (List UInt8)), (bad = false → rest = ws.drop i) → sl.n ≤ sl.c → Ent B (Blk b [sl.v, .bool bad] :: RAr Cf.ST sl (rest.map BA) :: F) φ) : Ent B As φ := by
  refine xopen j (fun Bs => ∃ (sl : Sl) (rest : List (List UInt8)), (bad = false → rest = ws.drop i) ∧ sl.n ≤ sl.c ∧ Bs = [Blk b [sl.v, .bool bad], RAr Cf.ST sl (rest.map BA)]) (fun g hg => ?_) ?_
  · obtain ⟨sl, rest, h1, h2, h3⟩ := hg
    exact ⟨_, ⟨sl, rest, h1, h2, rfl⟩, h3⟩
  · rintro _ ⟨sl, rest, h1, h2, rfl⟩
    exact app2 (h sl rest h1 h2)

theorem readerOf_spec (line : ByteArray) (n : Nat) (hs : line.size ≤ 1048576) (ws : List (List UInt8)) (hws : ws = splitL 32 line.data.toList) : Ct Pr F_config_readerOf [.string line, .int .i64 (n : Int)] .one [.ptr] [] GMax (fun t Bs => ∃ b : Nat, t.1 = some ⟨b, 0, none⟩ ∧ Bs = [RdrI b ws 0 (!(ws.length == n))]) := by
  refine spec1 c_config_readerOf fun B hr => ?_
  haveI : FroP B GMax := ⟨hr, fun _ _ h s => GMax.mono _ _ h s⟩
  unfold config_readerOf
  refine xcall0 (Split_spec line _ (by omega) (by decide)) rdb ?_
  rintro ⟨sl, _⟩ _ ⟨rfl, hnc⟩
  simp only at hnc
  have e := splitB_eq line 32
  rw [← hws] at e
  have e' : Lib.splitB (⟨#[32]⟩ : ByteArray) 0 (Lib.countB line ⟨#[32]⟩) line = ws.map BA := e
  refine app1 (ca1 ?_)
  dsimp only
  rw [e']
  refine xlen sl (fun hl _ => ?_)
  rw [List.length_map] at hl
  refine xnew fun b => ?_
  have hb : (((sl.n : Int)) != (n : Int)) = !(ws.length == n) := by
    rw [← hl, Bool.eq_iff_iff]; simp; omega
  rw [hb]
  refine xfold [Blk b [sl.v, .bool (!(ws.length == n))], Ar Cf.ST sl (ws.map BA)] (RdrI b ws 0 (!(ws.length == n))) (fun g hg => ⟨sl, ws, fun _ => rfl, by omega, star_cons (fun h hh => star_imp (fun g hg => hg.read) hh) hg⟩) (xret ⟨b, rfl, rfl⟩)

theorem next_spec (b : Nat) (ws : List (List UInt8)) (i : Nat) (bad : Bool) (w : List UInt8) (hw : bad = false → ws[i]? = some w) :
    Ct Pr F_config_reader_next [.pointer (some ⟨b, 0, none⟩)] .one [.str] [RdrI b ws i bad] emp (fun t Bs => t.1 = BA (if bad = true then [] else w) ∧ Bs = [RdrI b ws (i + 1) (bad || (w == []))]) := by
  refine spec1 c_config_reader_next fun B hr => ?_
  unfold config_reader_next
  refine xrdr 0 fun sl rest hrest hc => ?_
  refine xnil (xget (h := ?_))
  refine xif (fun h => ?_) (fun h => ?_)
  · subst h
    refine xfold [Blk b [sl.v, .bool true], RAr Cf.ST sl (rest.map BA)] (RdrI b ws (i + 1) (true || (w == []))) (fun g hg => ⟨sl, rest, fun e => (by cases e), hc, hg⟩) (xret ⟨rfl, rfl⟩)
  subst h
  have hw := hw rfl
  have hr0 := hrest rfl
  have hil := (List.getElem?_eq_some_iff.1 hw).1
  have hd : rest = w :: ws.drop (i + 1) := by
    rw [hr0, List.drop_eq_getElem_cons hil, (List.getElem?_eq_some_iff.1 hw).2]
  have h0 : (rest.map BA)[0]? = some (BA w) := by rw [hd]; rfl
  refine xnil (xget (h := ?_))
  refine xidx (E := Cf.ST) (xs := rest.map BA) (s := sl) (h0 := by decide) (h1 := by rw [hd]; simp) (h := fun x hx => ?_)
  obtain rfl : x = BA w := by rw [show (0 : Int).toNat = 0 from rfl, h0] at hx; cases hx; rfl
  refine xgetE (E := Cf.ST) (xs := rest.map BA) hx (h := xnil (xget (h := ?_)))
  refine xfact 1 (fun g hg => hg.1) fun hsl => ?_
  have hn : 1 ≤ sl.n := by rw [← hsl, hd]; simp
  refine xslc (by decide) (by omega) (by omega) (Int.le_refl _) ?_
  rw [show (1 : Int).toNat = 1 from rfl, Int.toNat_natCast, Int.toNat_natCast]
  refine xnil (xset (h := xnil (xset (h := ?_))))
  have he : ((BA w).toList == ByteArray.empty.toList) = (w == []) := by rw [BA_toList, empty_list]
  rw [he]
  dsimp only
  refine xfold [Blk b [(sl.cut 1 sl.n sl.c 1).v, .bool (w == [])], RAr Cf.ST sl (rest.map BA)] (RdrI b ws (i + 1) (false || (w == []))) (fun g hg => ⟨sl.cut 1 sl.n sl.c 1, ws.drop (i + 1), fun _ => rfl, ?_, star_cons (fun h hh => star_imp (fun g hg => ?_) hh) hg⟩) (xret ⟨rfl, rfl⟩)
  · show sl.n - 1 ≤ sl.c - 1
    omega
  · have := hg.cut 1 sl.n sl.c hn hc (by rw [hg.1]; exact Nat.le_refl _)
    rw [hd] at this
    have e : ((List.map BA (w :: ws.drop (i + 1))).take sl.n).drop 1 = (ws.drop (i + 1)).map BA := by
      have hl := hg.1
      rw [hd] at hl
      rw [List.take_of_length_le (by omega)]; rfl
    rw [e] at this
    exact this

theorem number_spec (b : Nat) (ws : List (List UInt8)) (i : Nat) (bad : Bool) (w : List UInt8) (hw : bad = false → ws[i]? = some w) (hl : w.length ≤ 1048576) :
    Ct Pr F_config_reader_number [.pointer (some ⟨b, 0, none⟩)] .one [.int .i64] [RdrI b ws i bad] emp (fun t Bs => (bad = false → ∀ v, numI w = some v → t.1 = v) ∧ Bs = [RdrI b ws (i + 1) (bad || (numI w).isNone)]) := by
  refine spec1 c_config_reader_number fun B hr => ?_
  unfold config_reader_number
  refine xcl (next_spec b ws i bad w hw) rdb ?_
  rintro ⟨t, _⟩ _ ⟨ht, rfl⟩
  obtain rfl : t = BA (if bad = true then [] else w) := ht
  refine app1 (ca1 ?_)
  have hl2 : (if bad = true then [] else w).length ≤ 4611686018427387904 := by
    cases bad
    · simp; omega
    · simp
  refine xcall0 (digits_spec (if bad = true then [] else w) hl2) rdb ?_
  rintro ⟨k, _⟩ _ ⟨hk, rfl⟩
  obtain rfl : k = numOk (if bad = true then [] else w) := hk
  have hno : ∀ {w : List UInt8}, numOk w = false → (numI w).isNone = true := fun {w} h => by unfold numI; rw [if_neg (by rw [h]; decide)]; rfl
  have hyes : ∀ {w : List UInt8}, numOk w = true → (numI w).isNone = false := fun {w} h => by unfold numI; rw [if_pos h]; rfl
  have hemp : numOk [] = false := rfl
  have hne : numOk w = true → (w == []) = false := fun h => by
    cases w with
    | nil => cases h
    | cons _ _ => rfl
  refine app0 (ca1 (xif (fun h => ?_) (fun h => ?_)))
  · have hbad : (bad || (numI w).isNone) = true := by
      cases bad with
      | true => rfl
      | false => exact hno (by simpa using h)
    refine xrdr 0 fun sl rest hrest hc => ?_
    refine xnil (xset (h := ?_))
    rw [hbad]
    refine xfold [Blk b [sl.v, .bool true], RAr Cf.ST sl (rest.map BA)] (RdrI b ws (i + 1) true) (fun g hg => ⟨sl, rest, fun e => (by cases e), hc, hg⟩) (xret ⟨fun hb v hv => ?_, rfl⟩)
    rw [hb, hv] at hbad
    cases hbad
  · cases bad with
    | true => rw [if_pos rfl, hemp] at h; cases h
    | false =>
      simp only [Bool.false_eq_true, if_false, Bool.not_eq_false'] at h
      simp only [Bool.false_eq_true, if_false]
      obtain ⟨v, hv⟩ : ∃ v, numI w = some v := by
        unfold numI; rw [if_pos h]; exact ⟨_, rfl⟩
      have hat := atoi_of h
      have h13 := (numOk_parts h).2.1
      have hw18 : w.length ≤ 18 := by
        have : w.length ≤ (bare w).length + 1 := by
          unfold bare
          split
          · split <;> simp
          · simp
        omega
      refine xcall0 (Atoi_spec (BA w) v (by rw [BA_size]; exact hw18) (by rw [BA_list, hat, hv])) rdb ?_
      rintro ⟨r, x, _⟩ _ ⟨hr1, rfl⟩
      obtain rfl : r = v := hr1
      rw [hne h]
      refine app0 (ca2 (xret ⟨fun _ v' hv' => by rw [hv] at hv'; exact Option.some.inj hv', by rw [hv]; rfl⟩))

theorem rbound_spec (b : Nat) (ws : List (List UInt8)) (i : Nat) (bad : Bool) (w : List UInt8) (hw : bad = false → ws[i]? = some w) (hl : w.length ≤ 1048576) :
    Ct Pr F_config_reader_bound [.pointer (some ⟨b, 0, none⟩)] (.tup [none, none]) [.int .i64, .bool] [RdrI b ws i bad] emp (fun t Bs => (bad = false → ∀ v, boundV w = some v → t.1 = v.1 ∧ t.2.1 = v.2) ∧ Bs = [RdrI b ws (i + 1) (bad || (boundV w).isNone)]) := by
  refine spec2 c_config_reader_bound fun B hr => ?_
  unfold config_reader_bound
  have hnum : ∀ {w : List UInt8}, ¬ w = [45] → (boundV w).isNone = (numI w).isNone := fun {w} h => by unfold boundV; rw [if_neg h]; cases numI w <;> rfl
  refine xrdr 0 fun sl rest hrest hc => ?_
  refine xnil (xget (h := ?_))
  refine xjoin1 (fun (c : Bool) As' => As' = [RdrI b ws i bad] ∧ c = (!bad && (w == [45]))) (fun K hK => ?_) ?_
  · refine xif (fun h => ?_) (fun h => ?_)
    · have h : bad = false := by simpa using h
      subst h
      have hw := hw rfl
      have hr0 := hrest rfl
      have hil := (List.getElem?_eq_some_iff.1 hw).1
      have hd : rest = w :: ws.drop (i + 1) := by
        rw [hr0, List.drop_eq_getElem_cons hil, (List.getElem?_eq_some_iff.1 hw).2]
      have h0 : (rest.map BA)[0]? = some (BA w) := by rw [hd]; rfl
      refine xnil (xget (h := ?_))
      refine xidx (E := Cf.ST) (xs := rest.map BA) (s := sl) (h0 := by decide) (h1 := by rw [hd]; simp) (h := fun x hx => ?_)
      obtain rfl : x = BA w := by rw [show (0 : Int).toNat = 0 from rfl, h0] at hx; cases hx; rfl
      refine xgetE (E := Cf.ST) (xs := rest.map BA) hx (h := ?_)
      refine xfold [Blk b [sl.v, .bool false], RAr Cf.ST sl (rest.map BA)] (RdrI b ws i false) (fun g hg => ⟨sl, rest, hrest, hc, hg⟩) ?_
      exact hK _ _ ⟨rfl, BA_eqv w [45]⟩
    · have h : bad = true := by simpa using h
      subst h
      refine xfold [Blk b [sl.v, .bool true], RAr Cf.ST sl (rest.map BA)] (RdrI b ws i true) (fun g hg => ⟨sl, rest, hrest, hc, hg⟩) ?_
      exact hK _ _ ⟨rfl, rfl⟩
  rintro c As2 ⟨rfl, rfl⟩
  refine xif (fun h => ?_) (fun h => ?_)
  · have h1 : bad = false ∧ w = [45] := by simpa using h
    obtain ⟨rfl, rfl⟩ := h1
    refine xcl (next_spec b ws i false [45] hw) rdb ?_
    rintro ⟨t, _⟩ _ ⟨ht, rfl⟩
    refine app1 (ca1 (xret ⟨fun _ v hv => ?_, rfl⟩))
    obtain rfl := Option.some.inj hv
    exact ⟨rfl, rfl⟩
  · refine xcl (number_spec b ws i bad w hw hl) rdb ?_
    rintro ⟨t, _⟩ _ ⟨ht, rfl⟩
    have hbb : (bad || (numI w).isNone) = (bad || (boundV w).isNone) := by
      cases bad with
      | true => rfl
      | false =>
        have hne : ¬ w = [45] := by simpa using h
        rw [hnum hne]
    rw [hbb]
    refine app1 (ca1 (xret ⟨fun hb v hv => ?_, rfl⟩))
    have hne : ¬ w = [45] := by rw [hb] at h; simpa using h
    unfold boundV at hv
    rw [if_neg hne] at hv
    obtain ⟨x, hx, rfl⟩ := Option.map_eq_some_iff.1 hv
    exact ⟨ht hb x hx, rfl⟩

end Go.Cx
