/-
  Tags: what a tag is, what is wrong with one: by both programs.
  Tables of tags: what is wrong with a name, a tag, a table: by both programs.
  Whole tables: what is wrong, and where: by both programs.
  The order of polling: the comparison, and the library's sort by its contract.
  The library's sort by its contract, in the words of the pieces of memory; the closure that it calls.
  The polls of a table: the model, and the program's Plan.
-/
import Derived.Test.YtcddiaiemlkmaaaGreatG
import Derived.Test.YtcddiaiemlkmaaaGreatSL
namespace Go.Cx
open Go Go.Cf
set_option linter.unusedVariables false
variable {B : Base} {As : List HP}

theorem xloop0 {body : WP → WP} (I : Nat → List HP → Prop) (n0 : Nat) (h0 : I n0 As)
    (round : ∀ n As' (K : WP), I n As' → (∀ m As'', m < n → I m As'' → Ent B As'' K) → Ent B As' (body K)) : Ent B As (XLoop [] body) := by
  intro w hw
  refine ⟨n0 + 1, ?_⟩
  have key : ∀ n As', I n As' → ∀ k, n < k → Ent B As' (Cur.app [] (rounds [] body k) ()) := by
    intro n
    induction n using Nat.strongRecOn with
    | _ n ih =>
      intro As' hI k hk
      cases k with
      | zero => omega
      | succ k => exact round n As' (rounds [] body k) hI fun m As'' hm hI' => ih m hm As'' hI' k (by omega)
  exact key n0 As h0 (n0 + 1) (by omega) w hw

theorem xbyte {s : ByteArray} {i : Int} {k : Nat} {b : UInt8} {K : Int → WP} (hi : i = (k : Int)) (hb : s.data.toList[k]? = some b) (h : Ent B As (K b.toNat)) : Ent B As (XByte s i K) := fun w hw => by
  subst hi
  refine ⟨b, by omega, ?_, h w hw⟩
  rw [Int.toNat_natCast]
  obtain ⟨h1, h2⟩ := List.getElem?_eq_some_iff.1 hb
  have h1' : k < s.data.size := by simpa using h1
  show s.data[k]? = some b
  rw [Array.getElem?_eq_getElem h1']
  simpa using h2

structure Tag where
  name : ByteArray
  unit : Int
  kind : Int
  addr : Int
  every : Int
  wide : Bool
  sgn : Bool
  swap : Bool
  mul : Int
  div : Int
  add : Int
  dead : Int
  quiet : Int
  ulow : Bool
  uhigh : Bool
  latch : Bool
  low : Int
  high : Int
  hyst : Int

def Tag.cells (t : Tag) : List Value := [.string t.name, .int .i64 t.unit, .int .i64 t.kind, .int .i64 t.addr, .int .i64 t.every, .bool t.wide, .bool t.sgn, .bool t.swap, .int .i64 t.mul, .int .i64 t.div, .int .i64 t.add, .int .i64 t.dead, .int .i64 t.quiet, .bool t.ulow, .bool t.uhigh, .bool t.latch, .int .i64 t.low, .int .i64 t.high, .int .i64 t.hyst]
abbrev Tag.v (t : Tag) : Value := .agg #[.string t.name, .int .i64 t.unit, .int .i64 t.kind, .int .i64 t.addr, .int .i64 t.every, .bool t.wide, .bool t.sgn, .bool t.swap, .int .i64 t.mul, .int .i64 t.div, .int .i64 t.add, .int .i64 t.dead, .int .i64 t.quiet, .bool t.ulow, .bool t.uhigh, .bool t.latch, .int .i64 t.low, .int .i64 t.high, .int .i64 t.hyst]
abbrev tag0 : Tag := ⟨ByteArray.empty, 0, 0, 0, 0, false, false, false, 0, 0, 0, 0, 0, false, false, false, 0, 0, 0⟩
def TG : Enc Tag := ⟨Tag.cells, 19, fun _ => rfl, fun t v h => by
  simp only [Tag.cells, List.mem_cons, List.not_mem_nil, or_false] at h
  rcases h with h|h|h|h|h|h|h|h|h|h|h|h|h|h|h|h|h|h|h <;> (subst h; rfl), by decide, tag0⟩

/-! What is wrong. -/
def letterB (b : UInt8) : Bool := (decide (97 ≤ b.toNat) && decide (b.toNat ≤ 122)) || (decide (65 ≤ b.toNat) && decide (b.toNat ≤ 90))
def moreB (b : UInt8) : Bool := (decide (48 ≤ b.toNat) && decide (b.toNat ≤ 57)) || b.toNat == 95 || b.toNat == 46 || b.toNat == 45
def okAt (s : ByteArray) (i : Nat) : Bool := match s.data.toList[i]? with
  | none => true
  | some b => letterB b || (decide (0 < i) && moreB b)
def nameOk (s : ByteArray) : Bool := decide (1 ≤ s.size) && decide (s.size ≤ 16) && (List.range s.size).all (okAt s)
def scaleE (wide swap : Bool) (mul div add : Int) : Int := if mul = 0 ∨ mul < -1000000 ∨ mul > 1000000 ∨ div < 1 ∨ div > 1000000 ∨ add < -1099511627776 ∨ add > 1099511627776 ∨ (swap = true ∧ wide = false) then 25 else 0
def bandE (dead quiet : Int) : Int := if dead < 0 ∨ dead > 1099511627776 ∨ quiet < 0 ∨ quiet > 1099511627776 then 26 else 0
def boundOk (used : Bool) (v : Int) : Bool := v == 0 || (used && decide (-1099511627776 ≤ v) && decide (v ≤ 1099511627776))
def limE (ulow uhigh : Bool) (low high hyst : Int) : Int :=
  if hyst < 0 ∨ hyst > 1099511627776 ∨ boundOk ulow low = false ∨ boundOk uhigh high = false ∨ (ulow = true ∧ uhigh = true ∧ hyst ≥ high - low) then 27 else 0
def Tag.width (t : Tag) : Int := if t.wide = true ∧ (t.kind = 3 ∨ t.kind = 4) then 2 else 1
def tagE (t : Tag) : Int :=
  if nameOk t.name = false then 8
  else if t.unit < 1 ∨ t.unit > 247 then 24
  else if t.kind < 1 ∨ t.kind > 4 then 28
  else if t.addr < 0 ∨ t.addr > 65536 - t.width then 21
  else if t.every < 1 ∨ t.every > 1048576 then 3
  else if scaleE t.wide t.swap t.mul t.div t.add ≠ 0 then scaleE t.wide t.swap t.mul t.div t.add
  else if t.kind ≤ 2 ∧ ¬ (t.wide = false ∧ t.sgn = false ∧ t.swap = false ∧ t.mul = 1 ∧ t.div = 1 ∧ t.add = 0) then 25
  else if bandE t.dead t.quiet ≠ 0 then bandE t.dead t.quiet
  else limE t.ulow t.uhigh t.low t.high t.hyst

theorem width_or (t : Tag) : t.width = 1 ∨ t.width = 2 := by unfold Tag.width; split <;> simp

/-! The program's own. -/
theorem within_spec (x lo hi : Int) (h : lo ≤ hi) : Ct Pr F_scale_within_int_ [.int .i64 x, .int .i64 lo, .int .i64 hi] .one [.int .i64] [] emp (fun t Bs => ((x != t.1) = (decide (x < lo) || decide (x > hi))) ∧ (t.1 = if x < lo then lo else if x > hi then hi else x) ∧ Bs = []) := by
  refine spec1 c_scale_within_int_ fun B _ => ?_
  unfold scale_within_int_
  have e : (if hi < if lo > x then lo else x then hi else if lo > x then lo else x) = (if x < lo then lo else if x > hi then hi else x) := by (repeat' split) <;> omega
  rw [e]
  refine xret ⟨?_, rfl, rfl⟩
  show (x != _) = _
  by_cases h1 : x < lo
  · have h3 : x ≠ lo := by omega
    simp [h1, h3]
  · by_cases h2 : x > hi
    · have h3 : x ≠ hi := by omega
      simp [h1, h2, h3]
    · simp [h1, h2]

theorem scaleCheck_spec (wide sgn swap : Bool) (mul div add : Int) : Ct Pr F_scale_Check [.agg #[.bool wide, .bool sgn, .bool swap, .int .i64 mul, .int .i64 div, .int .i64 add]] .one [.int .i64] [] emp (fun t Bs => t.1 = scaleE wide swap mul div add ∧ Bs = []) := by
  refine spec1 c_scale_Check fun B _ => ?_
  have fin : ∀ {x : Int} {As : List HP}, x = scaleE wide swap mul div add → Ent B As (Ret B (ss := [.int .i64]) (fun t Bs => t.1 = scaleE wide swap mul div add ∧ Bs = []) (x, ())) := fun h => xkeep (l := []) (xret ⟨h, rfl⟩)
  unfold scale_Check
  refine xnew fun b => xdraw (xjoin (xget (h := xif (fun h0 => ?_) (fun h0 => ?_))))
  · refine xift rfl (fin ?_)
    unfold scaleE; rw [if_pos (by simp at h0; omega)]
  refine xget (h := xget (h := ?_))
  refine xcall0 (within_spec _ _ _ (by decide)) rdb ?_
  rintro ⟨x, _⟩ _ ⟨hx, _, rfl⟩
  refine app0 (ca1 (xchk (h := ?_)))
  simp only at hx
  rw [hx]
  refine xif (fun h1 => fin ?_) (fun h1 => ?_)
  · unfold scaleE; simp at h1; rw [if_pos (by omega)]
  refine xdraw (xget (h := xget (h := ?_)))
  refine xcall0 (within_spec _ _ _ (by decide)) rdb ?_
  rintro ⟨y, _⟩ _ ⟨hy, _, rfl⟩
  refine app0 (ca1 (xchk (h := ?_)))
  simp only at hy
  rw [hy]
  refine xif (fun h2 => fin ?_) (fun h2 => ?_)
  · unfold scaleE; simp at h2; rw [if_pos (by omega)]
  refine xdraw (xget (h := xget (h := ?_)))
  refine xcall0 (within_spec _ _ _ (by decide)) rdb ?_
  rintro ⟨z, _⟩ _ ⟨hz, _, rfl⟩
  refine app0 (ca1 (xchk (h := ?_)))
  simp only at hz
  rw [hz]
  refine xif (fun h3 => fin ?_) (fun h3 => ?_)
  · unfold scaleE; simp at h3; rw [if_pos (by omega)]
  simp at h0 h1 h2 h3
  refine xget (h := xjoin (xif (fun h4 => xget (h := ?_)) (fun h4 => xiff rfl (fin ?_))))
  · refine xif (fun h5 => fin ?_) (fun h5 => fin ?_)
    · simp at h5; unfold scaleE; rw [if_pos (by simp [h4, h5])]
    · simp at h5; unfold scaleE; rw [if_neg (by simp [h4, h5]; omega)]
  · unfold scaleE; rw [if_neg (by simp [h4]; omega)]

theorem bandCheck_spec (d q : Int) : Ct Pr F_band_Check [.agg #[.int .i64 d, .int .i64 q]] .one [.int .i64] [] emp (fun t Bs => t.1 = bandE d q ∧ Bs = []) := by
  refine spec1 c_band_Check fun B _ => ?_
  have fin : ∀ {x : Int} {As : List HP}, x = bandE d q → Ent B As (Ret B (ss := [.int .i64]) (fun t Bs => t.1 = bandE d q ∧ Bs = []) (x, ())) := fun h => xkeep (l := []) (xret ⟨h, rfl⟩)
  unfold band_Check
  refine xnew fun b => xget (h := ?_)
  repeat' (first | refine xjoin ?_ | refine xift rfl ?_ | refine xiff rfl ?_ | refine xget (h := ?_) | refine xif (fun h0 => ?_) (fun h0 => ?_))
  all_goals
    refine fin ?_
    simp only [decide_eq_true_eq, decide_eq_false_iff_not] at *
    unfold bandE
    first | rw [if_pos (by omega)] | rw [if_neg (by omega)]

theorem bandRef_spec (d q : Int) : Ct Pr F_ref07_Check [.agg #[.int .i64 d, .int .i64 q]] .one [.int .i64] [] emp (fun t Bs => t.1 = bandE d q ∧ Bs = []) := by
  refine spec1 c_ref07_Check fun B _ => ?_
  have fin : ∀ {x : Int} {As : List HP}, x = bandE d q → Ent B As (Ret B (ss := [.int .i64]) (fun t Bs => t.1 = bandE d q ∧ Bs = []) (x, ())) := fun h => xkeep (l := []) (xret ⟨h, rfl⟩)
  unfold ref07_Check
  refine xnew fun b => xget (h := ?_)
  repeat' (first | refine xjoin ?_ | refine xift rfl ?_ | refine xiff rfl ?_ | refine xget (h := ?_) | refine xif (fun h0 => ?_) (fun h0 => ?_))
  all_goals
    refine fin ?_
    simp only [decide_eq_true_eq, decide_eq_false_iff_not] at *
    unfold bandE
    first | rw [if_pos (by omega)] | rw [if_neg (by omega)]

theorem bound_spec (u : Bool) (v : Int) : Ct Pr F_alarm_bound [.bool u, .int .i64 v] .one [.bool] [] emp (fun t Bs => t.1 = boundOk u v ∧ Bs = []) := by
  refine spec1 c_alarm_bound fun B _ => ?_
  unfold alarm_bound
  refine xjoin (xif (fun h => xret ⟨?_, rfl⟩) (fun h => xret ⟨?_, rfl⟩))
  · simp only [boundOk, h, Bool.true_or]
  · simp only [boundOk, h, Bool.false_or, ge_iff_le]

theorem limCheck_spec (ulow uhigh latch : Bool) (low high hyst : Int) : Ct Pr F_alarm_Check [.agg #[.bool ulow, .bool uhigh, .bool latch, .int .i64 low, .int .i64 high, .int .i64 hyst]] .one [.int .i64] [] emp (fun t Bs => t.1 = limE ulow uhigh low high hyst ∧ Bs = []) := by
  refine spec1 c_alarm_Check fun B _ => ?_
  have fin : ∀ {x : Int} {As : List HP}, x = limE ulow uhigh low high hyst → Ent B As (Ret B (ss := [.int .i64]) (fun t Bs => t.1 = limE ulow uhigh low high hyst ∧ Bs = []) (x, ())) := fun h => xkeep (l := []) (xret ⟨h, rfl⟩)
  have hW : IntKind.i64.wrap (high - low) = high - low ∨ low < -1099511627776 ∨ low > 1099511627776 ∨ high < -1099511627776 ∨ high > 1099511627776 := by
    by_cases h : low < -1099511627776 ∨ low > 1099511627776 ∨ high < -1099511627776 ∨ high > 1099511627776
    · exact .inr h
    · exact .inl (wrap_id _ (by omega) (by omega))
  unfold alarm_Check
  cases ulow <;> cases uhigh
  all_goals
    refine xnew fun b => ?_
    repeat' (first | refine xjoin ?_ | refine xift rfl ?_ | refine xiff rfl ?_ | refine xget (h := ?_) | (refine xcall0 (bound_spec _ _) rdb ?_; rintro ⟨x, _⟩ _ ⟨hx, rfl⟩; simp only at hx; subst hx; refine app0 (ca1 ?_)) | refine xif (fun h0 => ?_) (fun h0 => ?_))
    all_goals
      refine fin ?_
      simp only [boundOk, Bool.or_eq_true, Bool.or_eq_false_iff, decide_eq_true_eq, decide_eq_false_iff_not, bne_iff_ne, ne_eq, bne_eq_false_iff_eq, Bool.not_eq_true', Bool.not_eq_false', Bool.false_and, Bool.true_and, Bool.or_false, beq_eq_false_iff_ne, beq_iff_eq, Bool.and_eq_true, Bool.and_eq_false_iff, true_and, false_and, Bool.false_eq_true, and_false, or_false] at *
      simp only [limE, boundOk, Bool.false_and, Bool.true_and, Bool.or_false, Bool.or_eq_false_iff, beq_eq_false_iff_ne, ne_eq, Bool.and_eq_false_iff, decide_eq_false_iff_not, true_and, false_and, Bool.false_eq_true, and_false, or_false]
      first | rw [if_pos (by omega)] | rw [if_neg (by omega)]

theorem Width_spec (t : Tag) : Ct Pr F_tags_Width [t.v] .one [.int .i64] [] emp (fun r Bs => r.1 = t.width ∧ Bs = []) := by
  refine spec1 c_tags_Width fun B _ => ?_
  have fin : ∀ {x : Int} {As : List HP}, x = t.width → Ent B As (Ret B (ss := [.int .i64]) (fun r Bs => r.1 = t.width ∧ Bs = []) (x, ())) := fun h => xkeep (l := []) (xret ⟨h, rfl⟩)
  unfold tags_Width
  refine xnew fun b => xget (h := xjoin (xif (fun h => xget (h := xjoin (xif (fun h1 => xift rfl (fin ?_)) (fun h1 => xget (h := xif (fun h2 => fin ?_) (fun h2 => fin ?_)))))) (fun h => xiff rfl (fin ?_))))
  all_goals
    unfold Tag.width
    split <;> simp_all

theorem WidthRef_spec (t : Tag) : Ct Pr F_ref09_Width [t.v] .one [.int .i64] [] emp (fun r Bs => r.1 = t.width ∧ Bs = []) := by
  refine spec1 c_ref09_Width fun B _ => ?_
  have fin : ∀ {x : Int} {As : List HP}, x = t.width → Ent B As (Ret B (ss := [.int .i64]) (fun r Bs => r.1 = t.width ∧ Bs = []) (x, ())) := fun h => xkeep (l := []) (xret ⟨h, rfl⟩)
  unfold ref09_Width
  refine xnew fun b => xget (h := xjoin (xif (fun h1 => xjoin (xift rfl (xget (h := xif (fun h2 => fin ?_) (fun h2 => fin ?_))))) (fun h1 => xget (h := xjoin (xif (fun h3 => xget (h := xif (fun h2 => fin ?_) (fun h2 => fin ?_))) (fun h3 => xiff rfl (fin ?_)))))))
  all_goals
    unfold Tag.width
    split <;> simp_all
end Go.Cx

namespace Go.Cx
open Go Go.Cf
set_option linter.unusedVariables false
variable {B : Base} {As : List HP}

theorem nameOk_false {s : ByteArray} {k : Nat} (hk : k < s.size) (h : okAt s k = false) : nameOk s = false := by
  unfold nameOk
  have : (List.range s.size).all (okAt s) = false := by
    rw [Bool.eq_false_iff]
    intro e
    have := List.all_eq_true.1 e k (List.mem_range.2 hk)
    rw [h] at this; cases this
  rw [this]; simp

theorem nameOk_all {s : ByteArray} (h : ∀ i, i < s.size → okAt s i = true) : nameOk s = (decide (1 ≤ s.size) && decide (s.size ≤ 16)) := by
  unfold nameOk
  have : (List.range s.size).all (okAt s) = true := List.all_eq_true.2 fun i hi => h i (List.mem_range.1 hi)
  rw [this]; simp

theorem byte_at {s : ByteArray} {k : Nat} (hk : k < s.size) : ∃ b, s.data.toList[k]? = some b := ⟨_, List.getElem?_eq_getElem (by simpa using hk)⟩

theorem Name_spec (s : ByteArray) : Ct Pr F_tags_Name [.string s] .one [.bool] [] emp (fun r Bs => r.1 = nameOk s ∧ Bs = []) := by
  refine spec1 c_tags_Name fun B _ => ?_
  have fin : ∀ {x : Bool} {As : List HP}, x = nameOk s → Ent B As (Ret B (ss := [.bool]) (fun r Bs => r.1 = nameOk s ∧ Bs = []) (x, ())) := fun h => xkeep (l := []) (xret ⟨h, rfl⟩)
  unfold tags_Name
  refine xrange (by kernel_rfl) fun r => ?_
  refine xloop0 (fun n As' => ∃ k, n = s.size - k ∧ k ≤ s.size ∧ As' = [IterO r s k] ∧ ∀ i, i < k → okAt s i = true) s.size ⟨0, by omega, by omega, rfl, fun i hi => by omega⟩ ?_
  rintro n As' K ⟨k, rfl, hk, rfl, hall⟩ hK
  refine xnext (fun hp => ?_) (fun hp => ?_)
  · refine xiff rfl (fin ?_)
    rw [nameOk_all (fun i hi => hall i (by omega)), Bool.eq_iff_iff]
    simp only [Bool.and_eq_true, decide_eq_true_eq]
    omega
  obtain ⟨b, hb⟩ := byte_at hp
  have hok : okAt s k = (letterB b || (decide (0 < k) && moreB b)) := by simp only [okAt, hb]
  refine xift rfl ?_
  by_cases ha : b.toNat < 128
  · rw [Go.Cf.decode_ascii hb ha]
    dsimp only
    have next : okAt s k = true → Ent B [IterO r s (k + 1)] K := fun h => hK (s.size - (k + 1)) _ (by omega) ⟨k + 1, rfl, by omega, rfl, fun i hi => by
      by_cases e : i = k
      · subst e; exact h
      · exact hall i (by omega)⟩
    refine xjoin1 (fun (x : Bool) As' => As' = [IterO r s (k + 1)] ∧ x = letterB b) (fun K1 h1 => xif (fun e => h1 _ _ ⟨rfl, ?_⟩) (fun e => h1 _ _ ⟨rfl, ?_⟩)) ?_
    · rw [e]; symm; simp [letterB] at *; omega
    · rw [Bool.eq_iff_iff]; simp [letterB] at *; omega
    rintro x As2 ⟨rfl, rfl⟩
    refine xjoin (xif (fun e => next (by rw [hok, e]; rfl)) (fun e => xjoin (xif (fun e0 => ?_) (fun e0 => ?_))))
    · refine xif (fun e1 => next ?_) (fun e1 => fin ?_)
      · rw [hok]; simp [moreB] at *; omega
      · symm; refine nameOk_false hp ?_
        rw [hok, e]; simp [moreB] at *; omega
    · refine xiff rfl (fin ?_)
      symm; refine nameOk_false hp ?_
      rw [hok, e]; simp at *; omega
  · have h128 := Go.Cf.decode_other hb ha
    have hbad : nameOk s = false := nameOk_false hp (by rw [hok]; simp [letterB, moreB] at *; omega)
    refine xjoin1 (fun (x : Bool) As' => x = false) (fun K1 h1 => xif (fun e => h1 _ _ ?_) (fun e => h1 _ _ ?_)) ?_
    · simp at e; omega
    · simp; omega
    rintro x As2 rfl
    refine xjoin (xiff rfl (xjoin (xif (fun e0 => xif (fun e1 => ?_) (fun e1 => fin hbad.symm)) (fun e0 => xiff rfl (fin hbad.symm)))))
    simp at e1; omega

theorem letter_spec (b : UInt8) : Ct Pr F_ref09_letter [.int .u8 b.toNat] .one [.bool] [] emp (fun r Bs => r.1 = letterB b ∧ Bs = []) := by
  refine spec1 c_ref09_letter fun B _ => ?_
  unfold ref09_letter
  refine xjoin (xif (fun h => xret ⟨?_, rfl⟩) (fun h => xret ⟨?_, rfl⟩))
  · symm; simp [letterB] at *; omega
  · rw [Bool.eq_iff_iff]; simp [letterB] at *; omega

theorem NameRef_spec (s : ByteArray) : Ct Pr F_ref09_Name [.string s] .one [.bool] [] emp (fun r Bs => r.1 = nameOk s ∧ Bs = []) := by
  refine spec1 c_ref09_Name fun B _ => ?_
  have fin : ∀ {x : Bool} {As : List HP}, x = nameOk s → Ent B As (Ret B (ss := [.bool]) (fun r Bs => r.1 = nameOk s ∧ Bs = []) (x, ())) := fun h => xkeep (l := []) (xret ⟨h, rfl⟩)
  unfold ref09_Name
  refine xjoin (xif (fun h0 => xift rfl (fin ?_)) (fun h0 => ?_))
  · symm; unfold nameOk; simp at *; omega
  have hs : 1 ≤ s.size ∧ s.size ≤ 16 := by simp at h0; omega
  obtain ⟨b, hb⟩ := byte_at (k := 0) (show 0 < s.size by omega)
  refine xbyte (k := 0) rfl hb ?_
  refine xcall0 (letter_spec b) rdb ?_
  rintro ⟨x, _⟩ _ ⟨hx, rfl⟩
  simp only at hx; subst hx
  refine app0 (ca1 (xif (fun h1 => fin ?_) (fun h1 => ?_)))
  · symm; refine nameOk_false (k := 0) (by omega) ?_
    simp only [okAt, hb]; simpa using h1
  have h1 : letterB b = true := by simpa using h1
  refine xloop1 (fun n (x : Int) As' => ∃ k : Nat, x = (k : Int) ∧ n = s.size - k ∧ k ≤ s.size ∧ As' = [] ∧ ∀ i, i < k → okAt s i = true) s.size ⟨0, rfl, by omega, by omega, rfl, fun i hi => by omega⟩ ?_
  rintro n x As' K ⟨k, rfl, rfl, hk, rfl, hall⟩ hK
  refine xif_dec (fun hp => ?_) (fun hp => fin ?_)
  · have hp : k < s.size := by omega
    obtain ⟨c, hc⟩ := byte_at hp
    have next : okAt s k = true → Ent B [] (K (IntKind.i64.wrap ((k : Int) + 1))) := fun h => by
      rw [wrap_succ k (by omega)]
      exact hK (s.size - (k + 1)) _ _ (by omega) ⟨k + 1, rfl, rfl, by omega, rfl, fun i hi => by
        by_cases e : i = k
        · subst e; exact h
        · exact hall i (by omega)⟩
    have hok : okAt s k = (letterB c || (decide (0 < k) && moreB c)) := by simp only [okAt, hc]
    refine xbyte (k := k) rfl hc ?_
    refine xcall0 (letter_spec c) rdb ?_
    rintro ⟨x, _⟩ _ ⟨hx, rfl⟩
    simp only at hx; subst hx
    have h0k : letterB c = false → 0 < k := fun e => by
      rcases Nat.eq_zero_or_pos k with e0 | e0
      · subst e0; rw [hb] at hc; cases hc; rw [h1] at e; cases e
      · exact e0
    refine app0 (ca1 (xjoin (xif (fun h2 => xif (fun h3 => fin ?_) (fun h3 => next ?_)) (fun h2 => xiff rfl (next ?_)))))
    · have h2 : letterB c = false := by simpa using h2
      symm; refine nameOk_false hp ?_
      rw [hok, h2]; simp [moreB] at *; omega
    · have h2 : letterB c = false := by simpa using h2
      have := h0k h2
      rw [hok, h2]; simp [moreB] at *; omega
    · rw [hok]; have h2 : letterB c = true := by simpa using h2
      rw [h2]; rfl
  · rw [nameOk_all (fun i hi => hall i (by omega))]; simp; omega

theorem beyond_spec (v : Int) : Ct Pr F_ref08_beyond [.int .i64 v] .one [.bool] [] emp (fun r Bs => r.1 = (decide (v < -1099511627776) || decide (v > 1099511627776)) ∧ Bs = []) := by
  refine spec1 c_ref08_beyond fun B _ => ?_
  unfold ref08_beyond
  exact xret ⟨rfl, rfl⟩

theorem limRef_spec (ulow uhigh latch : Bool) (low high hyst : Int) : Ct Pr F_ref08_Check [.agg #[.bool ulow, .bool uhigh, .bool latch, .int .i64 low, .int .i64 high, .int .i64 hyst]] .one [.int .i64] [] emp (fun t Bs => t.1 = limE ulow uhigh low high hyst ∧ Bs = []) := by
  refine spec1 c_ref08_Check fun B _ => ?_
  have fin : ∀ {x : Int} {As : List HP}, x = limE ulow uhigh low high hyst → Ent B As (Ret B (ss := [.int .i64]) (fun t Bs => t.1 = limE ulow uhigh low high hyst ∧ Bs = []) (x, ())) := fun h => xkeep (l := []) (xret ⟨h, rfl⟩)
  have hW : IntKind.i64.wrap (high - low) = high - low ∨ low < -1099511627776 ∨ low > 1099511627776 ∨ high < -1099511627776 ∨ high > 1099511627776 := by
    by_cases h : low < -1099511627776 ∨ low > 1099511627776 ∨ high < -1099511627776 ∨ high > 1099511627776
    · exact .inr h
    · exact .inl (wrap_id _ (by omega) (by omega))
  unfold ref08_Check
  cases ulow <;> cases uhigh
  all_goals
    refine xnew fun b => ?_
    repeat' (first | refine xjoin ?_ | refine xift rfl ?_ | refine xiff rfl ?_ | refine xget (h := ?_) | (refine xcall0 (beyond_spec _) rdb ?_; rintro ⟨x, _⟩ _ ⟨hx, rfl⟩; simp only at hx; subst hx; refine app0 (ca1 ?_)) | refine xif (fun h0 => ?_) (fun h0 => ?_))
    all_goals
      refine fin ?_
      simp only [Bool.or_eq_true, Bool.or_eq_false_iff, decide_eq_true_eq, decide_eq_false_iff_not, bne_iff_ne, ne_eq, bne_eq_false_iff_eq] at *
      simp only [limE, boundOk, Bool.false_and, Bool.true_and, Bool.or_false, Bool.or_eq_false_iff, beq_eq_false_iff_ne, ne_eq, Bool.and_eq_false_iff, decide_eq_false_iff_not, true_and, false_and, Bool.false_eq_true, and_false, or_false]
      first | rw [if_pos (by omega)] | rw [if_neg (by omega)]

theorem scaleRef_spec (wide sgn swap : Bool) (mul div add : Int) : Ct Pr F_ref06_Check [.agg #[.bool wide, .bool sgn, .bool swap, .int .i64 mul, .int .i64 div, .int .i64 add]] .one [.int .i64] [] emp (fun t Bs => t.1 = scaleE wide swap mul div add ∧ Bs = []) := by
  refine spec1 c_ref06_Check fun B _ => ?_
  have fin : ∀ {x : Int} {As : List HP}, x = scaleE wide swap mul div add → Ent B As (Ret B (ss := [.int .i64]) (fun t Bs => t.1 = scaleE wide swap mul div add ∧ Bs = []) (x, ())) := fun h => xkeep (l := []) (xret ⟨h, rfl⟩)
  unfold ref06_Check
  cases wide <;> cases swap
  all_goals
    refine xnew fun b => ?_
    repeat' (first | refine xjoin ?_ | refine xift rfl ?_ | refine xiff rfl ?_ | refine xget (h := ?_) | refine xif (fun h0 => ?_) (fun h0 => ?_))
    all_goals
      refine fin ?_
      simp only [decide_eq_true_eq, decide_eq_false_iff_not, beq_iff_eq, beq_eq_false_iff_ne, ne_eq] at *
      simp only [scaleE, true_and, false_and, and_false, and_true, or_false, or_true, Bool.false_eq_true, Bool.true_eq_false, reduceCtorEq, if_true]
      first | done | rw [if_pos (by omega)] | rw [if_neg (by omega)]

/-- The block of a tag that was handed over. -/
def OwnT (b : Nat) (t : Tag) (As : List HP) : Prop := As = [Blk b t.cells]

theorem Check_spec (t : Tag) : Ct Pr F_tags_Check [t.v] .one [.int .i64] [] emp (fun r Bs => r.1 = tagE t ∧ Bs = []) := by
  refine spec1 c_tags_Check fun B _ => ?_
  have fin : ∀ {x : Int} {As : List HP}, x = tagE t → Ent B As (Ret B (ss := [.int .i64]) (fun r Bs => r.1 = tagE t ∧ Bs = []) (x, ())) := fun h => xkeep (l := []) (xret ⟨h, rfl⟩)
  have hw := width_or t
  unfold tags_Check
  refine xnew fun b => xget (h := ?_)
  refine xcall0 (Name_spec _) rdb ?_
  rintro ⟨x, _⟩ _ ⟨hx, rfl⟩
  simp only at hx; subst hx
  refine app0 (ca1 (xif (fun h1 => fin ?_) (fun h1 => xget (h := xjoin ?_))))
  · unfold tagE; rw [if_pos (by simpa using h1)]
  have e1 : ¬ nameOk t.name = false := by simpa using h1
  have bad24 : (t.unit < 1 ∨ t.unit > 247) → 24 = tagE t := fun h => by unfold tagE; rw [if_neg e1, if_pos h]
  refine xif (fun h2 => xift rfl (fin (bad24 (.inl (by simpa using h2))))) (fun h2 => xget (h := xif (fun h2' => fin (bad24 (.inr (by simpa using h2')))) (fun h2' => xget (h := xjoin ?_))))
  have e2 : ¬ (t.unit < 1 ∨ t.unit > 247) := by simp at h2 h2'; omega
  have bad28 : (t.kind < 1 ∨ t.kind > 4) → 28 = tagE t := fun h => by unfold tagE; rw [if_neg e1, if_neg e2, if_pos h]
  refine xif (fun h3 => xift rfl (fin (bad28 (.inl (by simpa using h3))))) (fun h3 => xget (h := xif (fun h3' => fin (bad28 (.inr (by simpa using h3')))) (fun h3' => xdraw (xjoin (xget (h := ?_))))))
  have e3 : ¬ (t.kind < 1 ∨ t.kind > 4) := by simp at h3 h3'; omega
  have bad21 : (t.addr < 0 ∨ t.addr > 65536 - t.width) → 21 = tagE t := fun h => by unfold tagE; rw [if_neg e1, if_neg e2, if_neg e3, if_pos h]
  refine xif (fun h4 => xift rfl (fin (bad21 (.inl (by simpa using h4))))) (fun h4 => ?_)
  iterate 20 (refine xget (h := ?_))
  refine xcall0 (Width_spec t) rdb ?_
  rintro ⟨x, _⟩ _ ⟨hx, rfl⟩
  simp only at hx; subst hx
  refine app0 (ca1 (xchk (h := ?_)))
  rw [wrap_id _ (by omega) (by omega)]
  refine xif (fun h4' => fin (bad21 (.inr (by simpa using h4')))) (fun h4' => xget (h := xjoin ?_))
  have e4 : ¬ (t.addr < 0 ∨ t.addr > 65536 - t.width) := by simp at h4 h4'; omega
  have bad3 : (t.every < 1 ∨ t.every > 1048576) → 3 = tagE t := fun h => by unfold tagE; rw [if_neg e1, if_neg e2, if_neg e3, if_neg e4, if_pos h]
  refine xif (fun h5 => xift rfl (fin (bad3 (.inl (by simpa using h5))))) (fun h5 => xget (h := xif (fun h5' => fin (bad3 (.inr (by simpa using h5')))) (fun h5' => ?_)))
  have e5 : ¬ (t.every < 1 ∨ t.every > 1048576) := by simp at h5 h5'; omega
  iterate 6 (refine xget (h := ?_))
  refine xcall0 (scaleCheck_spec _ _ _ _ _ _) rdb ?_
  rintro ⟨x, _⟩ _ ⟨hx, rfl⟩
  simp only at hx; subst hx
  refine app0 (ca1 (xif (fun h6 => fin ?_) (fun h6 => ?_)))
  · have h6 : scaleE t.wide t.swap t.mul t.div t.add ≠ 0 := by simpa using h6
    unfold tagE; rw [if_neg e1, if_neg e2, if_neg e3, if_neg e4, if_neg e5, if_pos h6]
  have e6 : ¬ scaleE t.wide t.swap t.mul t.div t.add ≠ 0 := by simpa using h6
  have rest : ∀ {As : List HP}, OwnT b t As → ¬ (t.kind ≤ 2 ∧ ¬ (t.wide = false ∧ t.sgn = false ∧ t.swap = false ∧ t.mul = 1 ∧ t.div = 1 ∧ t.add = 0)) → Ent B As
      (XGet (.int .i64) ⟨b, 11, none⟩ fun (n27 : Int) => XGet (.int .i64) ⟨b, 12, none⟩ fun (n28 : Int) => XCall Pr F_band_Check [.agg #[.int .i64 n27, .int .i64 n28]] .one [.int .i64] <| fun (r2 : Int) => XIf (r2 != 0) (Ret B (ss := [.int .i64]) (fun r Bs => r.1 = tagE t ∧ Bs = []) (r2, ())) (XGet .bool ⟨b, 13, none⟩ fun (c18 : Bool) => XGet .bool ⟨b, 14, none⟩ fun (c19 : Bool) => XGet .bool ⟨b, 15, none⟩ fun (c20 : Bool) => XGet (.int .i64) ⟨b, 16, none⟩ fun (n29 : Int) => XGet (.int .i64) ⟨b, 17, none⟩ fun (n30 : Int) => XGet (.int .i64) ⟨b, 18, none⟩ fun (n31 : Int) => XCall Pr F_alarm_Check [.agg #[.bool c18, .bool c19, .bool c20, .int .i64 n29, .int .i64 n30, .int .i64 n31]] .one [.int .i64] <| fun (r3 : Int) => (Ret B (ss := [.int .i64]) (fun r Bs => r.1 = tagE t ∧ Bs = []) (r3, ())))) := by
    rintro As rfl e7
    iterate 2 (refine xget (h := ?_))
    refine xcall0 (bandCheck_spec _ _) rdb ?_
    rintro ⟨x, _⟩ _ ⟨hx, rfl⟩
    simp only at hx; subst hx
    refine app0 (ca1 (xif (fun h8 => fin ?_) (fun h8 => ?_)))
    · have h8 : bandE t.dead t.quiet ≠ 0 := by simpa using h8
      unfold tagE; rw [if_neg e1, if_neg e2, if_neg e3, if_neg e4, if_neg e5, if_neg e6, if_neg e7, if_pos h8]
    have e8 : ¬ bandE t.dead t.quiet ≠ 0 := by simpa using h8
    iterate 6 (refine xget (h := ?_))
    refine xcall0 (limCheck_spec _ _ _ _ _ _) rdb ?_
    rintro ⟨x, _⟩ _ ⟨hx, rfl⟩
    simp only at hx; subst hx
    refine app0 (ca1 (fin ?_))
    unfold tagE; rw [if_neg e1, if_neg e2, if_neg e3, if_neg e4, if_neg e5, if_neg e6, if_neg e7, if_neg e8]
  refine xget (h := xjoin (xif (fun h7 => ?_) (fun h7 => xiff rfl (rest rfl fun h => ?_))))
  · iterate 6 (refine xget (h := ?_))
    refine xif (fun h7' => fin ?_) (fun h7' => rest rfl fun h => ?_)
    · have e7 : t.kind ≤ 2 ∧ ¬ (t.wide = false ∧ t.sgn = false ∧ t.swap = false ∧ t.mul = 1 ∧ t.div = 1 ∧ t.add = 0) := by
        refine ⟨by simpa using h7, ?_⟩
        rintro ⟨q1, q2, q3, q4, q5, q6⟩
        rw [q1, q2, q3, q4, q5, q6] at h7'
        cases h7'
      unfold tagE; rw [if_neg e1, if_neg e2, if_neg e3, if_neg e4, if_neg e5, if_neg e6, if_pos e7]
    · refine h.2 ?_
      simpa [Bool.and_eq_true, beq_iff_eq] using h7'
  · simp at h7; omega

theorem CheckRef_spec (t : Tag) : Ct Pr F_ref09_Check [t.v] .one [.int .i64] [] emp (fun r Bs => r.1 = tagE t ∧ Bs = []) := by
  refine spec1 c_ref09_Check fun B _ => ?_
  have fin : ∀ {x : Int} {As : List HP}, x = tagE t → Ent B As (Ret B (ss := [.int .i64]) (fun r Bs => r.1 = tagE t ∧ Bs = []) (x, ())) := fun h => xkeep (l := []) (xret ⟨h, rfl⟩)
  have hw := width_or t
  unfold ref09_Check
  refine xnew fun b => xget (h := ?_)
  refine xcall0 (NameRef_spec _) rdb ?_
  rintro ⟨x, _⟩ _ ⟨hx, rfl⟩
  simp only at hx; subst hx
  refine app0 (ca1 (xif (fun h1 => fin ?_) (fun h1 => xget (h := xjoin ?_))))
  · unfold tagE; rw [if_pos (by simpa using h1)]
  have e1 : ¬ nameOk t.name = false := by simpa using h1
  have bad24 : (t.unit < 1 ∨ t.unit > 247) → 24 = tagE t := fun h => by unfold tagE; rw [if_neg e1, if_pos h]
  refine xif (fun h2 => xift rfl (fin (bad24 (.inl (by simpa using h2))))) (fun h2 => xget (h := xif (fun h2' => fin (bad24 (.inr (by simpa using h2')))) (fun h2' => xget (h := xjoin ?_))))
  have e2 : ¬ (t.unit < 1 ∨ t.unit > 247) := by simp at h2 h2'; omega
  have bad28 : (t.kind < 1 ∨ t.kind > 4) → 28 = tagE t := fun h => by unfold tagE; rw [if_neg e1, if_neg e2, if_pos h]
  refine xif (fun h3 => xift rfl (fin (bad28 (.inl (by simpa using h3))))) (fun h3 => xget (h := xif (fun h3' => fin (bad28 (.inr (by simpa using h3')))) (fun h3' => xdraw (xjoin (xget (h := ?_))))))
  have e3 : ¬ (t.kind < 1 ∨ t.kind > 4) := by simp at h3 h3'; omega
  have bad21 : (t.addr < 0 ∨ t.addr > 65536 - t.width) → 21 = tagE t := fun h => by unfold tagE; rw [if_neg e1, if_neg e2, if_neg e3, if_pos h]
  refine xif (fun h4 => xift rfl (fin (bad21 (.inl (by simpa using h4))))) (fun h4 => ?_)
  iterate 20 (refine xget (h := ?_))
  refine xcall0 (WidthRef_spec t) rdb ?_
  rintro ⟨x, _⟩ _ ⟨hx, rfl⟩
  simp only at hx; subst hx
  refine app0 (ca1 (xchk (h := ?_)))
  rw [wrap_id _ (by omega) (by omega)]
  refine xif (fun h4' => fin (bad21 (.inr (by simpa using h4')))) (fun h4' => xget (h := xjoin ?_))
  have e4 : ¬ (t.addr < 0 ∨ t.addr > 65536 - t.width) := by simp at h4 h4'; omega
  have bad3 : (t.every < 1 ∨ t.every > 1048576) → 3 = tagE t := fun h => by unfold tagE; rw [if_neg e1, if_neg e2, if_neg e3, if_neg e4, if_pos h]
  refine xif (fun h5 => xift rfl (fin (bad3 (.inl (by simpa using h5))))) (fun h5 => xget (h := xif (fun h5' => fin (bad3 (.inr (by simpa using h5')))) (fun h5' => ?_)))
  have e5 : ¬ (t.every < 1 ∨ t.every > 1048576) := by simp at h5 h5'; omega
  iterate 6 (refine xget (h := ?_))
  refine xcall0 (scaleRef_spec _ _ _ _ _ _) rdb ?_
  rintro ⟨x, _⟩ _ ⟨hx, rfl⟩
  simp only at hx; subst hx
  refine app0 (ca1 (xif (fun h6 => fin ?_) (fun h6 => ?_)))
  · have h6 : scaleE t.wide t.swap t.mul t.div t.add ≠ 0 := by simpa using h6
    unfold tagE; rw [if_neg e1, if_neg e2, if_neg e3, if_neg e4, if_neg e5, if_pos h6]
  have e6 : ¬ scaleE t.wide t.swap t.mul t.div t.add ≠ 0 := by simpa using h6
  have rest : ∀ {As : List HP}, OwnT b t As → ¬ (t.kind ≤ 2 ∧ ¬ (t.wide = false ∧ t.sgn = false ∧ t.swap = false ∧ t.mul = 1 ∧ t.div = 1 ∧ t.add = 0)) → Ent B As
      (XGet (.int .i64) ⟨b, 11, none⟩ fun (n27 : Int) => XGet (.int .i64) ⟨b, 12, none⟩ fun (n28 : Int) => XCall Pr F_ref07_Check [.agg #[.int .i64 n27, .int .i64 n28]] .one [.int .i64] <| fun (r2 : Int) => XIf (r2 != 0) (Ret B (ss := [.int .i64]) (fun r Bs => r.1 = tagE t ∧ Bs = []) (r2, ())) (XGet .bool ⟨b, 13, none⟩ fun (c18 : Bool) => XGet .bool ⟨b, 14, none⟩ fun (c19 : Bool) => XGet .bool ⟨b, 15, none⟩ fun (c20 : Bool) => XGet (.int .i64) ⟨b, 16, none⟩ fun (n29 : Int) => XGet (.int .i64) ⟨b, 17, none⟩ fun (n30 : Int) => XGet (.int .i64) ⟨b, 18, none⟩ fun (n31 : Int) => XCall Pr F_ref08_Check [.agg #[.bool c18, .bool c19, .bool c20, .int .i64 n29, .int .i64 n30, .int .i64 n31]] .one [.int .i64] <| fun (r3 : Int) => (Ret B (ss := [.int .i64]) (fun r Bs => r.1 = tagE t ∧ Bs = []) (r3, ())))) := by
    rintro As rfl e7
    iterate 2 (refine xget (h := ?_))
    refine xcall0 (bandRef_spec _ _) rdb ?_
    rintro ⟨x, _⟩ _ ⟨hx, rfl⟩
    simp only at hx; subst hx
    refine app0 (ca1 (xif (fun h8 => fin ?_) (fun h8 => ?_)))
    · have h8 : bandE t.dead t.quiet ≠ 0 := by simpa using h8
      unfold tagE; rw [if_neg e1, if_neg e2, if_neg e3, if_neg e4, if_neg e5, if_neg e6, if_neg e7, if_pos h8]
    have e8 : ¬ bandE t.dead t.quiet ≠ 0 := by simpa using h8
    iterate 6 (refine xget (h := ?_))
    refine xcall0 (limRef_spec _ _ _ _ _ _) rdb ?_
    rintro ⟨x, _⟩ _ ⟨hx, rfl⟩
    simp only at hx; subst hx
    refine app0 (ca1 (fin ?_))
    unfold tagE; rw [if_neg e1, if_neg e2, if_neg e3, if_neg e4, if_neg e5, if_neg e6, if_neg e7, if_neg e8]
  refine xget (h := xjoin (xif (fun h7 => ?_) (fun h7 => xiff rfl (rest rfl fun h => ?_))))
  · iterate 6 (refine xget (h := ?_))
    refine xif (fun h7' => fin ?_) (fun h7' => rest rfl fun h => ?_)
    · have e7 : t.kind ≤ 2 ∧ ¬ (t.wide = false ∧ t.sgn = false ∧ t.swap = false ∧ t.mul = 1 ∧ t.div = 1 ∧ t.add = 0) := by
        refine ⟨by simpa using h7, ?_⟩
        rintro ⟨q1, q2, q3, q4, q5, q6⟩
        rw [q1, q2, q3, q4, q5, q6] at h7'
        cases h7'
      unfold tagE; rw [if_neg e1, if_neg e2, if_neg e3, if_neg e4, if_neg e5, if_neg e6, if_pos e7]
    · refine h.2 ?_
      simpa [Bool.and_eq_true, beq_iff_eq] using h7'
  · simp at h7; omega
end Go.Cx

namespace Go.Cx
open Go Go.Cf
set_option linter.unusedVariables false
variable {B : Base} {As : List HP}

def badAt (ts : List Tag) (i : Nat) : Int := match ts[i]? with
  | none => 0
  | some t => if tagE t ≠ 0 then tagE t else match i with
    | 0 => 0
    | k + 1 => match ts[k]? with
      | none => 0
      | some u => if (t.name.toList == u.name.toList) = true then 7 else if Op.bytesLess t.name.toList u.name.toList = true then 29 else 0
def allGo (ts : List Tag) : Nat → Nat → Int × Int
  | 0, _ => (0, 0)
  | n + 1, i => if badAt ts i ≠ 0 then (badAt ts i, (i : Int)) else allGo ts n (i + 1)
def allE (ts : List Tag) : Int × Int := if ts.length > 64 then (34, 0) else allGo ts ts.length 0

theorem allGo_ok {ts : List Tag} : ∀ (n i : Nat), (allGo ts n i).1 = 0 → ∀ k, i ≤ k → k < i + n → badAt ts k = 0 := by
  intro n
  induction n with
  | zero => intro i _ k h1 h2; omega
  | succ n ih =>
    intro i h k h1 h2
    unfold allGo at h
    split at h
    · rename_i hb; exact absurd h hb
    · rename_i hb
      by_cases e : k = i
      · subst e; simpa using hb
      · exact ih (i + 1) h k (by omega) (by omega)

theorem allE_len {ts : List Tag} (h : (allE ts).1 = 0) : ts.length ≤ 64 := by
  unfold allE at h
  split at h
  · cases h
  · omega

theorem allE_tag {ts : List Tag} (h : (allE ts).1 = 0) {k : Nat} {t : Tag} (ht : ts[k]? = some t) : tagE t = 0 := by
  have hl := allE_len h
  unfold allE at h
  rw [if_neg (by omega)] at h
  have := allGo_ok _ _ h k (by omega) (by have := (List.getElem?_eq_some_iff.1 ht).1; omega)
  unfold badAt at this
  rw [ht] at this
  simp only at this
  split at this
  · rename_i h0; exact absurd this h0
  · rename_i h0; simpa using h0

theorem allGo_snd {ts : List Tag} : ∀ (n i : Nat), (allGo ts n i).1 = 0 → (allGo ts n i).2 = 0 := by
  intro n
  induction n with
  | zero => intro i _; rfl
  | succ n ih =>
    intro i h
    unfold allGo at h ⊢
    split at h
    · rename_i hb; exact absurd h hb
    · rename_i hb; rw [if_neg hb]; exact ih _ h

theorem less_nil (x : List UInt8) : Op.bytesLess x [] = false := by cases x <;> rfl
theorem empty_list : ByteArray.empty.toList = [] := by decide +kernel

def lastN (ts : List Tag) (k : Nat) : ByteArray := match k with
  | 0 => ByteArray.empty
  | j + 1 => match ts[j]? with
    | some u => u.name
    | none => ByteArray.empty

theorem CheckAll_spec (l : Sl) (ts : List Tag) : Ct Pr F_tags_CheckAll [l.v] (.tup [none, none]) [.int .i64, .int .i64] [] (RAr TG l ts) (fun r Bs => r.1 = (allE ts).1 ∧ r.2.1 = (allE ts).2 ∧ Bs = []) := by
  refine spec2 c_tags_CheckAll fun B hr => ?_
  haveI : Fro B l TG ts := ⟨hr⟩
  have hn := hr.1
  have fin : ∀ {x y : Int} {As : List HP}, (x, y) = allE ts → Ent B As (Ret B (ss := [.int .i64, .int .i64]) (fun r Bs => r.1 = (allE ts).1 ∧ r.2.1 = (allE ts).2 ∧ Bs = []) (x, y, ())) := fun h => xkeep (l := []) (xret ⟨by rw [← h], by rw [← h], rfl⟩)
  unfold tags_CheckAll
  refine xif_dec (fun h64 => fin ?_) (fun h64 => ?_)
  · unfold allE; rw [if_pos (by omega)]
  have hl : ts.length ≤ 64 := by omega
  have he : allE ts = allGo ts ts.length 0 := by unfold allE; rw [if_neg (by omega)]
  refine xloop2 (fun n (last : ByteArray) (x : Int) As' => ∃ k : Nat, x = (k : Int) ∧ n = ts.length - k ∧ k ≤ ts.length ∧ last = lastN ts k ∧ allE ts = allGo ts (ts.length - k) k) ts.length ⟨0, rfl, by omega, by omega, rfl, he⟩ ?_
  rintro n last x As' K ⟨k, rfl, rfl, hk, rfl, hg⟩ hK
  refine xif_dec (fun hp => ?_) (fun hp => fin ?_)
  · have hp : k < ts.length := by omega
    refine xidxn (h1 := hp) (h := fun t ht => ?_)
    refine xgetE ht (h := ?_)
    iterate 18 (refine xgetEj ht (h := ?_))
    refine xnew fun b => ?_
    iterate 19 (refine xset (h := ?_))
    iterate 19 (refine xget (h := ?_))
    refine xcall0 (Check_spec t) rdb ?_
    rintro ⟨x, _⟩ _ ⟨hx, rfl⟩
    simp only at hx; subst hx
    have hg' : allE ts = if badAt ts k ≠ 0 then (badAt ts k, (k : Int)) else allGo ts (ts.length - (k + 1)) (k + 1) := by
      rw [hg, show ts.length - k = (ts.length - (k + 1)) + 1 by omega]; rfl
    refine app0 (ca1 (xif (fun h0 => fin ?_) (fun h0 => ?_)))
    · have h0 : tagE t ≠ 0 := by simpa using h0
      have hb : badAt ts k = tagE t := by unfold badAt; rw [ht]; simp only; rw [if_pos h0]
      rw [hg', hb, if_pos h0]
    have h0 : tagE t = 0 := by simpa using h0
    have next : badAt ts k = 0 → ∀ As'', Ent B As'' (K t.name (IntKind.i64.wrap ((k : Int) + 1))) := fun hb As'' => by
      rw [wrap_succ k (by omega)]
      refine hK (ts.length - (k + 1)) _ _ _ (by omega) ⟨k + 1, rfl, rfl, by omega, ?_, ?_⟩
      · simp only [lastN, ht]
      · rw [hg', if_neg (by simp [hb])]
    refine xjoin (xif (fun h1 => xget (h := xif (fun h2 => fin ?_) (fun h2 => xget (h := xif (fun h3 => fin ?_) (fun h3 => xget (h := next ?_ _)))))) (fun h1 => xiff rfl (xget (h := xif (fun h3 => ?_) (fun h3 => xget (h := next ?_ _))))))
    · cases k with
      | zero => simp at h1
      | succ j =>
        obtain ⟨u, hu⟩ : ∃ u, ts[j]? = some u := ⟨_, List.getElem?_eq_getElem (by omega)⟩
        simp only [lastN, hu] at h2
        have hb : badAt ts (j + 1) = 7 := by simp only [badAt, ht, hu, h0, h2, ne_eq, not_true_eq_false, if_true, if_false]
        rw [hg', hb]; rfl
    · cases k with
      | zero => simp at h1
      | succ j =>
        obtain ⟨u, hu⟩ : ∃ u, ts[j]? = some u := ⟨_, List.getElem?_eq_getElem (by omega)⟩
        simp only [lastN, hu] at h2 h3
        have hb : badAt ts (j + 1) = 29 := by simp only [badAt, ht, hu, h0, h2, h3, ne_eq, not_true_eq_false, if_true, if_false, Bool.false_eq_true]
        rw [hg', hb]; rfl
    · cases k with
      | zero => simp at h1
      | succ j =>
        obtain ⟨u, hu⟩ : ∃ u, ts[j]? = some u := ⟨_, List.getElem?_eq_getElem (by omega)⟩
        simp only [lastN, hu] at h2 h3
        simp only [badAt, ht, hu, h0, h2, h3, ne_eq, not_true_eq_false, if_false, Bool.false_eq_true]
    · obtain rfl : k = 0 := by simp at h1; omega
      simp only [lastN, empty_list, less_nil] at h3
      cases h3
    · obtain rfl : k = 0 := by simp at h1; omega
      simp only [badAt, ht, h0, ne_eq, not_true_eq_false, if_false]
  · have : k = ts.length := by omega
    subst this
    rw [hg, Nat.sub_self]; rfl

theorem CheckAllRef_spec (l : Sl) (ts : List Tag) : Ct Pr F_ref09_CheckAll [l.v] (.tup [none, none]) [.int .i64, .int .i64] [] (RAr TG l ts) (fun r Bs => r.1 = (allE ts).1 ∧ r.2.1 = (allE ts).2 ∧ Bs = []) := by
  refine spec2 c_ref09_CheckAll fun B hr => ?_
  haveI : Fro B l TG ts := ⟨hr⟩
  have hn := hr.1
  have fin : ∀ {x y : Int} {As : List HP}, (x, y) = allE ts → Ent B As (Ret B (ss := [.int .i64, .int .i64]) (fun r Bs => r.1 = (allE ts).1 ∧ r.2.1 = (allE ts).2 ∧ Bs = []) (x, y, ())) := fun h => xkeep (l := []) (xret ⟨by rw [← h], by rw [← h], rfl⟩)
  unfold ref09_CheckAll
  refine xif_dec (fun h64 => fin ?_) (fun h64 => ?_)
  · unfold allE; rw [if_pos (by omega)]
  have hl : ts.length ≤ 64 := by omega
  have he : allE ts = allGo ts ts.length 0 := by unfold allE; rw [if_neg (by omega)]
  refine xloop1 (fun n (x : Int) As' => ∃ k : Nat, x = (k : Int) ∧ n = ts.length - k ∧ k ≤ ts.length ∧ As' = [] ∧ allE ts = allGo ts (ts.length - k) k) ts.length ⟨0, rfl, by omega, by omega, rfl, he⟩ ?_
  rintro n x As' K ⟨k, rfl, rfl, hk, rfl, hg⟩ hK
  refine xif_dec (fun hp => ?_) (fun hp => fin ?_)
  · have hp : k < ts.length := by omega
    refine xidxn (h1 := hp) (h := fun t ht => ?_)
    refine xgetE ht (h := ?_)
    iterate 18 (refine xgetEj ht (h := ?_))
    refine xcall0 (CheckRef_spec t) rdb ?_
    rintro ⟨x, _⟩ _ ⟨hx, rfl⟩
    simp only at hx; subst hx
    have hg' : allE ts = if badAt ts k ≠ 0 then (badAt ts k, (k : Int)) else allGo ts (ts.length - (k + 1)) (k + 1) := by
      rw [hg, show ts.length - k = (ts.length - (k + 1)) + 1 by omega]; rfl
    refine app0 (ca1 (xif (fun h0 => fin ?_) (fun h0 => ?_)))
    · have h0 : tagE t ≠ 0 := by simpa using h0
      have hb : badAt ts k = tagE t := by unfold badAt; rw [ht]; simp only; rw [if_pos h0]
      rw [hg', hb, if_pos h0]
    have h0 : tagE t = 0 := by simpa using h0
    have next : badAt ts k = 0 → Ent B [] (K (IntKind.i64.wrap ((k : Int) + 1))) := fun hb => by
      rw [wrap_succ k (by omega)]
      refine hK (ts.length - (k + 1)) _ _ (by omega) ⟨k + 1, rfl, rfl, by omega, rfl, ?_⟩
      rw [hg', if_neg (by simp [hb])]
    cases k with
    | zero =>
      refine xdraw (xjoin (xiff (by simp) (xiff rfl (xdraw (xjoin (xiff (by simp) (xiff rfl (next ?_))))))))
      simp only [badAt, ht, h0, ne_eq, not_true_eq_false, if_false]
    | succ j =>
      obtain ⟨u, hu⟩ : ∃ u, ts[j]? = some u := ⟨_, List.getElem?_eq_getElem (by omega)⟩
      have hj : IntKind.i64.wrap (((j + 1 : Nat) : Int) - 1) = ((j : Nat) : Int) := by rw [wrap_id _ (by omega) (by omega)]; omega
      refine xdraw (xjoin (xift (by simp) ?_))
      refine xidxn (h1 := hp) (h := fun t' ht' => ?_)
      obtain rfl : t = t' := by rw [ht] at ht'; cases ht'; rfl
      refine xgetE ht (h := ?_)
      rw [hj]
      refine xidxn (h1 := by omega) (h := fun u' hu' => ?_)
      obtain rfl : u = u' := by rw [hu] at hu'; cases hu'; rfl
      refine xgetE hu (h := xif (fun h2 => fin ?_) (fun h2 => xdraw (xjoin (xift (by simp) ?_))))
      · have hb : badAt ts (j + 1) = 7 := by simp only [badAt, ht, hu, h0, h2, ne_eq, not_true_eq_false, if_true, if_false]
        rw [hg', hb]; rfl
      refine xidxn (h1 := hp) (h := fun t' ht' => ?_)
      obtain rfl : t = t' := by rw [ht] at ht'; cases ht'; rfl
      refine xgetE ht (h := ?_)
      refine xidxn (h1 := by omega) (h := fun u' hu' => ?_)
      obtain rfl : u = u' := by rw [hu] at hu'; cases hu'; rfl
      refine xgetE hu (h := xif (fun h3 => fin ?_) (fun h3 => next ?_))
      · have hb : badAt ts (j + 1) = 29 := by simp only [badAt, ht, hu, h0, h2, h3, ne_eq, not_true_eq_false, if_true, if_false, Bool.false_eq_true]
        rw [hg', hb]; rfl
      · simp only [badAt, ht, hu, h0, h2, h3, ne_eq, not_true_eq_false, if_false, Bool.false_eq_true]
  · have : k = ts.length := by omega
    subst this
    rw [hg, Nat.sub_self]; rfl

end Go.Cx

namespace Go.Cx
open Go Go.Cf
set_option linter.unusedVariables false
variable {B : Base} {As : List HP}

def cmpI (x y : Int) : Int := if x < y then -1 else if x > y then 1 else 0
def orL : List Int → Int
  | [] => 0
  | x :: xs => if x ≠ 0 then x else orL xs
def cmpK (a b : Tag) (i k : Int) : Int := orL [cmpI a.unit b.unit, cmpI a.every b.every, cmpI a.kind b.kind, cmpI a.addr b.addr, cmpI i k]

theorem isNaN_spec (x : Int) : Ct Pr F_cmp_isNaN_int_ [.int .i64 x] .one [.bool] [] emp (fun t Bs => t.1 = false ∧ Bs = []) := by
  refine spec1 c_cmp_isNaN_int_ fun B _ => ?_
  unfold cmp_isNaN_int_
  exact xret ⟨by simp, rfl⟩

theorem Compare_spec (x y : Int) : Ct Pr F_cmp_Compare_int_ [.int .i64 x, .int .i64 y] .one [.int .i64] [] emp (fun t Bs => t.1 = cmpI x y ∧ Bs = []) := by
  refine spec1 c_cmp_Compare_int_ fun B _ => ?_
  unfold cmp_Compare_int_
  refine xcall0 (isNaN_spec _) rdb ?_
  rintro ⟨c, _⟩ _ ⟨hc, rfl⟩
  simp only at hc; subst hc
  refine app0 (ca1 ?_)
  refine xcall0 (isNaN_spec _) rdb ?_
  rintro ⟨c, _⟩ _ ⟨hc, rfl⟩
  simp only at hc; subst hc
  refine app0 (ca1 (xiff rfl (xiff rfl (xif_dec (fun h => xret ⟨?_, rfl⟩) (fun h => xif_dec (fun h' => xret ⟨?_, rfl⟩) (fun h' => xret ⟨?_, rfl⟩))))))
  · unfold cmpI; rw [if_pos h]
  · unfold cmpI; rw [if_neg h, if_pos h']
  · unfold cmpI; rw [if_neg h, if_neg h']

theorem orL_drop (xs : List Int) (k : Nat) (x : Int) (h : xs[k]? = some x) (h0 : x = 0) : orL (xs.drop k) = orL (xs.drop (k + 1)) := by
  obtain ⟨h1, h2⟩ := List.getElem?_eq_some_iff.1 h
  rw [List.drop_eq_getElem_cons h1, h2, h0]
  rfl

theorem Or_spec (s : Sl) (xs : List Int) (hb : xs.length < 4611686018427387904) : Ct Pr F_cmp_Or_int_ [s.v] .one [.int .i64] [] (RAr I64 s xs) (fun t Bs => t.1 = orL xs ∧ Bs = []) := by
  refine spec1 c_cmp_Or_int_ fun B hr => ?_
  haveI : Fro B s I64 xs := ⟨hr⟩
  have hn := hr.1
  unfold cmp_Or_int_
  refine xloop1 (fun n (x : Int) As' => ∃ k : Nat, x = (k : Int) ∧ n = xs.length - k ∧ k ≤ xs.length ∧ As' = [] ∧ orL xs = orL (xs.drop k)) xs.length ⟨0, rfl, by omega, by omega, rfl, rfl⟩ ?_
  rintro n x As' K ⟨k, rfl, rfl, hk, rfl, he⟩ hK
  refine xif_dec (fun hp => ?_) (fun hp => ?_)
  · refine xidxn (h1 := by omega) (h := fun x hx => ?_)
    refine xgetE hx (h := xif (fun h0 => xret ⟨?_, rfl⟩) (fun h0 => ?_))
    · rw [he, List.drop_eq_getElem_cons (by omega : k < xs.length)]
      obtain ⟨h1, h2⟩ := List.getElem?_eq_some_iff.1 hx
      rw [h2]
      have : x ≠ 0 := by simpa using h0
      simp [orL, this]
    · rw [wrap_succ k (by omega)]
      exact hK _ _ _ (by omega) ⟨k + 1, rfl, rfl, by omega, rfl, by rw [he]; exact orL_drop xs k x hx (by simpa using h0)⟩
  · refine xret ⟨?_, rfl⟩
    rw [he, List.drop_eq_nil_of_le (by omega)]; rfl

end Go.Cx

namespace Go.Cx
open Go Go.Cf Go.Sort Go.Proofs
set_option linter.unusedVariables false
variable {B : Base} {As F : List HP} {α : Type}

theorem xget0 {E : Enc α} {b n c : Nat} {xs : List α} {x : α} {sh : Sh} {v : sh.ty} {K : sh.ty → WP} [r : RdA B As ⟨some ⟨b, 0, none⟩, n, c⟩ E xs] (hx : xs[0]? = some x) (hv : (E.f x)[0]? = some (sh.mk v) := by rfl) (h : Ent B As (K v)) : Ent B As (XGet sh ⟨b, 0, none⟩ K) := by
  have := xgetE (B := B) (As := As) (s := ⟨some ⟨b, 0, none⟩, n, c⟩) (E := E) (i := 0) (sz := E.sz) (K := K) hx rfl hv h
  simpa [Sl.at, Addr.add] using this
theorem xchk0 {E : Enc α} {b n c : Nat} {xs : List α} {x : α} {v : Value} {K : WP} [r : RdA B As ⟨some ⟨b, 0, none⟩, n, c⟩ E xs] (hx : xs[0]? = some x) (hv : (E.f x)[0]? = some v := by rfl) (h : Ent B As K) : Ent B As (XChk ⟨b, 0, none⟩ v K) := by
  have := xchkE (B := B) (As := As) (s := ⟨some ⟨b, 0, none⟩, n, c⟩) (E := E) (i := 0) (sz := E.sz) (K := K) hx rfl hv h
  simpa [Sl.at, Addr.add] using this

abbrev capR (bc : Nat) (l : Sl) (ts : List Tag) : HP := (RAr SL ⟨some ⟨bc, 0, none⟩, 1, 1⟩ [l]).and (RAr TG l ts)

theorem order1_spec (bc : Nat) (l : Sl) (ts : List Tag) (i k : Nat) (ti tk : Tag) (hi : ts[i]? = some ti) (hk : ts[k]? = some tk) : Ct Pr F_plan_order_1 [.int .i64 (i : Int), .int .i64 (k : Int), .pointer (some ⟨bc, 0, none⟩)] .one [.int .i64] [] (capR bc l ts)
    (fun t Bs => t.1 = cmpK ti tk i k ∧ Bs = []) := by
  refine spec1 c_plan_order_1 fun B hr => ?_
  haveI : Fro B ⟨some ⟨bc, 0, none⟩, 1, 1⟩ SL [l] := ⟨hr.1⟩
  haveI : Fro B l TG ts := ⟨hr.2⟩
  have hn := hr.2.1
  have hi' := (List.getElem?_eq_some_iff.1 hi).1
  have hk' := (List.getElem?_eq_some_iff.1 hk).1
  unfold plan_order_1
  refine xdraw ?_
  refine xget0 (n := 1) (c := 1) (x := l) rfl (h := ?_)
  refine xidxn (h1 := hi') (h := fun t ht => ?_)
  obtain rfl : ti = t := by rw [hi] at ht; cases ht; rfl
  refine xgetE hi (h := ?_)
  iterate 18 (refine xgetEj hi (h := ?_))
  refine xget0 (n := 1) (c := 1) (x := l) rfl (h := ?_)
  refine xidxn (h1 := hk') (h := fun t ht => ?_)
  obtain rfl : tk = t := by rw [hk] at ht; cases ht; rfl
  refine xgetE hk (h := ?_)
  iterate 18 (refine xgetEj hk (h := ?_))
  refine xand ?_ ?_
  all_goals
    refine xnew fun b => xnew fun b1 => ?_
    iterate 19 (refine xset (h := ?_))
    refine xchkE hk (h := ?_)
    iterate 18 (refine xchkEj hk (h := ?_))
    refine xchk0 (n := 1) (c := 1) (x := l) rfl (h := ?_)
    iterate 19 (refine xset (h := ?_))
    refine xdraw ?_
    iterate 8 (refine xget (h := ?_))
    refine xcall0 (Compare_spec _ _) rdb ?_
    rintro ⟨x, _⟩ _ ⟨hx, rfl⟩
    simp only at hx; subst hx
    refine app0 (ca1 ?_)
    iterate 6 (refine xchk (h := ?_))
    refine xcall0 (Compare_spec _ _) rdb ?_
    rintro ⟨x, _⟩ _ ⟨hx, rfl⟩
    simp only at hx; subst hx
    refine app0 (ca1 ?_)
    iterate 4 (refine xchk (h := ?_))
    refine xcall0 (Compare_spec _ _) rdb ?_
    rintro ⟨x, _⟩ _ ⟨hx, rfl⟩
    simp only at hx; subst hx
    refine app0 (ca1 ?_)
    iterate 2 (refine xchk (h := ?_))
    refine xcall0 (Compare_spec _ _) rdb ?_
    rintro ⟨x, _⟩ _ ⟨hx, rfl⟩
    simp only at hx; subst hx
    refine app0 (ca1 ?_)
    refine xcall0 (Compare_spec _ _) rdb ?_
    rintro ⟨x, _⟩ _ ⟨hx, rfl⟩
    simp only at hx; subst hx
    refine app0 (ca1 ?_)
    refine xnew fun b2 => ?_
    refine xfold1 (Q := Ar I64 ⟨some ⟨b2, 0, none⟩, 5, 5⟩ [cmpI ti.unit tk.unit, cmpI ti.every tk.every, cmpI ti.kind tk.kind, cmpI ti.addr tk.addr, cmpI (i : Int) (k : Int)]) 0 (fun g hg => ⟨[], blk_ar _ 5 rfl rfl hg⟩) ?_
    refine xcall0 (Or_spec ⟨some ⟨b2, 0, none⟩, 5, 5⟩ [cmpI ti.unit tk.unit, cmpI ti.every tk.every, cmpI ti.kind tk.kind, cmpI ti.addr tk.addr, cmpI (i : Int) (k : Int)] (by simp)) rdb ?_
    rintro ⟨x, _⟩ _ ⟨hx, rfl⟩
    simp only at hx; subst hx
    exact app0 (ca1 (xkeep (l := []) (xret ⟨rfl, rfl⟩)))

/-! The comparison as an order. -/
def lexLt (a b : Tag) (i k : Int) : Prop := a.unit < b.unit ∨ (a.unit = b.unit ∧ (a.every < b.every ∨ (a.every = b.every ∧ (a.kind < b.kind ∨ (a.kind = b.kind ∧ (a.addr < b.addr ∨ (a.addr = b.addr ∧ i < k)))))))

theorem cmpI_cases (x y : Int) : (x < y ∧ cmpI x y = -1) ∨ (x = y ∧ cmpI x y = 0) ∨ (y < x ∧ cmpI x y = 1) := by
  unfold cmpI
  by_cases h : x < y
  · exact .inl ⟨h, if_pos h⟩
  · rw [if_neg h]
    by_cases h' : x > y
    · exact .inr (.inr ⟨h', if_pos h'⟩)
    · exact .inr (.inl ⟨by omega, if_neg h'⟩)

theorem cmpK_neg (a b : Tag) (i k : Int) : cmpK a b i k < 0 ↔ lexLt a b i k := by
  unfold cmpK lexLt
  rcases cmpI_cases a.unit b.unit with ⟨h, e⟩ | ⟨h, e⟩ | ⟨h, e⟩
  · simp [orL, e, h]
  · simp only [orL, e, ne_eq, not_true_eq_false, if_false]
    rcases cmpI_cases a.every b.every with ⟨h1, e1⟩ | ⟨h1, e1⟩ | ⟨h1, e1⟩
    · simp [e1, h1, h]
    · simp only [e1, ne_eq, not_true_eq_false, if_false]
      rcases cmpI_cases a.kind b.kind with ⟨h2, e2⟩ | ⟨h2, e2⟩ | ⟨h2, e2⟩
      · simp [e2, h2, h1, h]
      · simp only [e2, ne_eq, not_true_eq_false, if_false]
        rcases cmpI_cases a.addr b.addr with ⟨h3, e3⟩ | ⟨h3, e3⟩ | ⟨h3, e3⟩
        · simp [e3, h3, h2, h1, h]
        · simp only [e3, ne_eq, not_true_eq_false, if_false]
          rcases cmpI_cases i k with ⟨h4, e4⟩ | ⟨h4, e4⟩ | ⟨h4, e4⟩
          · simp [e4, h4, h3, h2, h1, h]
          · rw [e4]; simp; omega
          · simp [e4, h3, h2, h1, h]; omega
        · simp [e3, h2, h1, h]; omega
      · simp [e2, h1, h]; omega
    · simp [e1, h]; omega
  · simp [orL, e]; omega

def cfT (ts : List Tag) (i k : Fin ts.length) : Int := cmpK ts[i] ts[k] (i.val : Int) (k.val : Int)
def ltT (ts : List Tag) (i k : Fin ts.length) : Bool := ltOf (cfT ts) i k
theorem ltT_iff (ts : List Tag) (i k : Fin ts.length) : ltT ts i k = true ↔ lexLt ts[i] ts[k] (i.val : Int) (k.val : Int) := by
  unfold ltT ltOf cfT
  rw [decide_eq_true_eq, cmpK_neg]
theorem ltT_false (ts : List Tag) (i k : Fin ts.length) : ltT ts i k = false ↔ ¬ lexLt ts[i] ts[k] (i.val : Int) (k.val : Int) := by
  rw [← ltT_iff, Bool.not_eq_true]
theorem swoT (ts : List Tag) : SWO (ltOf (cfT ts)) where
  irrefl x := by
    show ltT ts x x = false
    rw [ltT_false]; unfold lexLt; omega
  trans x y z h1 h2 := by
    have h1 := (ltT_iff ts _ _).1 h1
    have h2 := (ltT_iff ts _ _).1 h2
    refine (ltT_iff ts _ _).2 ?_
    unfold lexLt at *; omega
  ntrans x y z h1 h2 := by
    have h1 := (ltT_false ts _ _).1 h1
    have h2 := (ltT_false ts _ _).1 h2
    refine (ltT_false ts _ _).2 ?_
    unfold lexLt at *; omega
theorem totT (ts : List Tag) (x y : Fin ts.length) (h1 : ltOf (cfT ts) x y = false) (h2 : ltOf (cfT ts) y x = false) : x = y := by
  have h1 := (ltT_false ts _ _).1 h1
  have h2 := (ltT_false ts _ _).1 h2
  apply Fin.ext
  unfold lexLt at *; omega

/-- The places in the order of polling. -/
def ordF (ts : List Tag) : List (Fin ts.length) := (List.finRange ts.length).mergeSort fun x y => !(ltT ts y x)
def ordL (ts : List Tag) : List Int := (ordF ts).map fun i => (i.val : Int)
def idxL (n : Nat) : List Int := (List.range n).map fun (i : Nat) => (i : Int)

/-! The sort. -/
theorem Sx.grow {w : World} (h : Sx B As w) (os : Array Obj) : Sx B As (Go.Sort.grow w os) := by
  obtain ⟨g, hs, hm, hu⟩ := h
  have key : ∀ k o, w.heap[k]? = some o → (w.heap ++ os)[k]? = some o := fun k o e => by
    rw [Array.getElem?_append_left (Array.getElem?_eq_some_iff.1 e).1, e]
  refine ⟨g, hs, fun k o e => key k o (hm k o e), hu.os, hu.tape, hu.output, hu.drawn, by have := hu.size; simp [Go.Sort.grow]; omega, fun k hk h0 => ⟨?_, (hu.old k hk h0).2⟩⟩
  show (w.heap ++ os)[k]? = _
  rw [Array.getElem?_append_left (Nat.lt_of_lt_of_le hk hu.size)]
  exact (hu.old k hk h0).1

theorem Sx.ahead {w : World} (h : Sx B As w) (n : Nat) : Sx B As (Go.Sort.ahead w n) := by
  obtain ⟨g, hs, hm, hu⟩ := h
  exact ⟨g, hs, hm, hu.os, hu.tape, hu.output, Nat.le_trans hu.drawn (Nat.le_add_right _ _), hu.size, hu.old⟩

theorem grown_of {W w' : World} {Bs : List HP} (h : Sx ⟨W, fun _ => none⟩ Bs w') : ∃ q os, w' = Go.Sort.grow (W.drewN q) os := by
  obtain ⟨g, _, _, hu⟩ := h
  refine ⟨w'.drawn - W.drawn, w'.heap.extract W.heap.size w'.heap.size, ?_⟩
  have h1 := hu.os; have h2 := hu.tape; have h3 := hu.output; have h4 := hu.drawn; have h5 := hu.size; have h6 := hu.old
  obtain ⟨heap, tape, drawn, os, output⟩ := w'
  obtain ⟨heap0, tape0, drawn0, os0, output0⟩ := W
  simp only at h1 h2 h3 h4 h5 h6
  subst h1 h2 h3
  simp only [Go.Sort.grow, World.drewN, World.mk.injEq, and_true, true_and]
  refine ⟨?_, by omega⟩
  apply Array.ext'
  apply List.ext_getElem?
  intro i
  simp only [Array.getElem?_toList]
  by_cases hi : i < heap0.size
  · rw [Array.getElem?_append_left hi]
    exact (h6 i hi (by trivial)).1
  · rw [Array.getElem?_append_right (by omega), Array.getElem?_extract]
    by_cases hj : i < heap.size
    · rw [if_pos (by omega)]; congr 1; omega
    · rw [if_neg (by omega)]; simp; omega

theorem flat_i64 (xs : List Int) : flat I64 xs = xs.map (Value.int .i64) := by
  induction xs with
  | nil => rfl
  | cons x xs ih => show _ ++ flat I64 xs = _; rw [ih]; rfl

theorem heap_sort {α : Type} [Inhabited α] (enc : α → Value) (w : World) (blk off m : Nat) (d : Array α) (os : Array Obj) (k : Nat) (hk : k < w.heap.size) (hne : k ≠ blk) : (sortWorld enc w blk off m d os).heap[k]? = w.heap[k]? := by
  unfold sortWorld Go.Sort.grow
  show ((putRow enc (Go.Sort.ahead w m) blk off d).heap ++ os)[k]? = _
  rw [Array.getElem?_append_left (by simp [putRow, mapBlock, Go.Sort.ahead]; exact hk)]
  simp [putRow, mapBlock, Go.Sort.ahead, Array.getElem?_modify, Ne.symm hne]

def encF (n : Nat) (i : Fin n) : Value := .int .i64 (i.val : Int)

theorem xsort {bc bs n : Nat} {l : Sl} {ts : List Tag} {K : WP} (hn : n = ts.length) (hl : ts.length ≤ 64) [r : Rdb B F (capR bc l ts)]
    (h : Ent B (Ar I64 ⟨some ⟨bs, 0, none⟩, n, n⟩ (ordL ts) :: F) K) :
    Ent B (Ar I64 ⟨some ⟨bs, 0, none⟩, n, n⟩ (idxL n) :: F) (XCall Pr F_slices_SortFunc_L_int_int_ [.slice (some ⟨bs, 0, none⟩) n n, .func (.func 53) #[] #[.pointer (some ⟨bc, 0, none⟩)]] (.tup []) [] K) := by
  intro w hw
  subst hn
  by_cases h0 : ts.length = 0
  · have hS := AnyF.slices_SortFunc_none (P := Pr) (ρ := Go.Proofs.Tryz.sortL_ren) { Go.Proofs.Tryz.sortL with } (some ⟨bs, 0, none⟩) 0 (.func (.func 53) #[] #[.pointer (some ⟨bc, 0, none⟩)]) w
    rw [h0]
    refine hS.mono ?_
    rintro e w' ⟨rfl, rfl⟩
    refine ⟨(), rfl, h _ ?_⟩
    have e1 : ordL ts = idxL ts.length := by
      have : ts = [] := List.length_eq_zero_iff.1 h0
      subst this
      simp [ordL, ordF, idxL]
    rw [e1]; exact hw
  haveI : Inhabited (Fin ts.length) := ⟨⟨0, by omega⟩⟩
  obtain ⟨g, ⟨g1, g2, ⟨zs, p1⟩, p2, dd, s1, s2⟩, hm, hu⟩ := hw
  have hz : zs = [] := by
    have h1 := p1.2.1
    have h2 := p1.1
    simp only at h1 h2
    rw [h2] at h1
    exact List.length_eq_zero_iff.1 (by omega)
  subst hz
  obtain ⟨pre, post, hblk, hpre⟩ := p1.blk rfl
  obtain rfl : pre = [] := List.length_eq_zero_iff.1 hpre
  rw [List.append_nil, List.nil_append] at hblk
  obtain ⟨e0, fr0, hb1, hfr⟩ := hblk
  have hb : w.heap[bs]? = some (.cells (flat I64 (idxL ts.length) ++ post).toArray e0 fr0) := hm _ _ (s1 _ _ hb1)
  have hbs : bs < w.heap.size := (Array.getElem?_eq_some_iff.1 hb).1
  -- what the closure reads
  let rf : Frag := fun k => if k = bs then none else w.heap[k]?
  have hrf : capR bc l ts rf := by
    refine r.go rf ?_ g2 p2 ?_
    · intro k o hk
      unfold frz at hk
      cases hB : B.h0 k with
      | some x => rw [hB] at hk; cases hk
      | none =>
        rw [hB] at hk
        have hlt : k < B.W.heap.size := (Array.getElem?_eq_some_iff.1 hk).1
        have := hu.old k hlt hB
        have hne : k ≠ bs := fun e => by
          subst e
          rw [s1 _ _ hb1] at this
          cases this.2
        show (if k = bs then none else w.heap[k]?) = some o
        rw [if_neg hne, this.1]; exact hk
    · intro k o hk
      have hne : k ≠ bs := fun e => by
        subst e
        rcases dd k with e | e
        · rw [hb1] at e; cases e
        · rw [hk] at e; cases e
      show (if k = bs then none else w.heap[k]?) = some o
      rw [if_neg hne]
      exact hm _ _ (s2 _ _ hk)
  let d : Array (Fin ts.length) := (List.finRange ts.length).toArray
  have hd : d.size = ts.length := by simp [d]
  have hdj : ∀ j (hj : j < ts.length), d[j]! = ⟨j, hj⟩ := fun j hj => by
    rw [getElem!_pos d j (by rw [hd]; exact hj)]
    simp [d]
  have hcell : ∀ j, j < ts.length → (flat I64 (idxL ts.length) ++ post)[j]? = some (.int .i64 (j : Int)) := fun j hj => by
    rw [flat_i64, List.getElem?_append_left (by simp [idxL]; exact hj)]
    simp [idxL, hj]
  have hH : Holds (encF ts.length) w bs 0 d := fun j hj => by
    rw [hd] at hj
    refine ⟨?_, ?_⟩
    · simp only [World.cell?, hb, Nat.zero_add]
      simp only [Option.isSome_none, Bool.false_eq_true, if_false, List.getElem?_toArray]
      rw [hcell j hj, hdj j hj]; rfl
    · simp only [World.frozen?, hb, Bool.and_eq_false_iff, decide_eq_false_iff_not]
      have hlt : 0 + j < (flat I64 (idxL ts.length) ++ post).length := by
        have := hcell j hj
        rw [Nat.zero_add]
        exact (List.getElem?_eq_some_iff.1 this).1
      have := hfr (0 + j) hlt
      omega
  have hcmp : CmpLays1 Pr 53 #[.pointer (some ⟨bc, 0, none⟩)] (encF ts.length) (cfT ts) bs 0 d.size w := by
    intro m os dk hdk x y
    have hx : ts[x.val]? = some ts[x] := List.getElem?_eq_getElem x.isLt
    have hy : ts[y.val]? = some ts[y] := List.getElem?_eq_getElem y.isLt
    have hsub : Sub rf (mem (sortWorld (encF ts.length) w bs 0 m dk os)) := fun k o hk => by
      have hk' : (if k = bs then none else w.heap[k]?) = some o := hk
      by_cases e : k = bs
      · rw [if_pos e] at hk'; cases hk'
      · rw [if_neg e] at hk'
        show (sortWorld (encF ts.length) w bs 0 m dk os).heap[k]? = some o
        rw [heap_sort _ _ _ _ _ _ _ _ (Array.getElem?_eq_some_iff.1 hk').1 e]; exact hk'
    have := order1_spec bc l ts x.val y.val _ _ hx hy (sortWorld (encF ts.length) w bs 0 m dk os) (fun _ => none) trivial (fun _ _ e => by cases e) (by rw [frz_none]; exact ⟨hrf.1.mono hsub, hrf.2.mono hsub⟩)
    refine this.mono ?_
    rintro e w' ⟨t, Bs, he, ⟨ht, _⟩, hs⟩
    refine ⟨?_, grown_of hs⟩
    rw [he]
    obtain ⟨t1, u⟩ := t
    simp only at ht
    subst ht
    rfl
  have hS := Any.slices_SortFunc_total (P := Pr) Go.Proofs.Tryz.sortL (encF ts.length) (fun _ => rfl) (cfT ts) (swoT ts) 53 #[.pointer (some ⟨bc, 0, none⟩)] bs 0 ts.length d w
    (enters_of Go.Proofs.Tryz.func53 (by kernel_rfl) rfl) hcmp hH hbs (by rw [hd]; omega) (totT ts)
  rw [hd] at hS
  refine hS.mono ?_
  rintro e w' ⟨rfl, m, os, rfl⟩
  refine ⟨(), rfl, h _ ?_⟩
  have hsort : (d.toList.mergeSort fun x y => !(ltOf (cfT ts)) y x) = ordF ts := by simp [d, ordF, ltT]
  rw [hsort]
  unfold sortWorld
  have hlen : (ordF ts).length = ts.length := by simp [ordF]
  have hw1 : Sx B (Blk bs (flat I64 (idxL ts.length) ++ post) :: F) (Go.Sort.ahead w m) := by
    have hw0 : Sx B (Blk bs (flat I64 (idxL ts.length) ++ post) :: F) w := ⟨g, ⟨g1, g2, ⟨e0, fr0, hb1, hfr⟩, p2, dd, s1, s2⟩, hm, hu⟩
    exact Go.Cx.Sx.ahead hw0 m
  have hw2 : Sx B (Blk bs (flat I64 (ordL ts) ++ post) :: F) (putRow (encF ts.length) (Go.Sort.ahead w m) bs 0 (ordF ts).toArray) := by
    refine hw1.write (e := e0) (fr := fr0) hb (fun k hk => ?_) ?_ ?_ rfl rfl rfl ⟨by simp [putRow, mapBlock], Nat.le_refl _⟩
    · simp [putRow, mapBlock, Array.getElem?_modify, Ne.symm hk]
    · have hb' : (Go.Sort.ahead w m).heap[bs]? = some (.cells (flat I64 (idxL ts.length) ++ post).toArray e0 fr0) := hb
      simp only [putRow, mapBlock, Array.getElem?_modify, if_true, hb', Option.map_some, onCells]
      congr 2
      apply Array.ext'
      apply List.ext_getElem?
      intro j
      simp only [Array.getElem?_toList, putCells, Array.getElem?_mapIdx, List.getElem?_toArray, Nat.zero_le, true_and, Nat.zero_add, List.size_toArray, hlen, Nat.sub_zero]
      by_cases hj : j < ts.length
      · rw [hcell j hj]
        simp only [Option.map_some, if_pos hj]
        rw [flat_i64, List.getElem?_append_left (by simp [ordL, hlen]; exact hj)]
        have hj' : j < (ordF ts).length := by rw [hlen]; exact hj
        simp [ordL, encF, hj', hlen, List.getElem?_eq_getElem hj']
      · simp only [if_neg hj]
        rw [List.getElem?_append_right (by rw [flat_i64]; simp [idxL]; omega), List.getElem?_append_right (by rw [flat_i64]; simp [ordL, hlen]; omega)]
        simp [flat_i64, idxL, ordL, hlen]
    · rw [List.length_append, List.length_append, flat_i64, flat_i64]; simp [idxL, ordL, hlen]
  obtain ⟨g', hg', hm', hu'⟩ := Sx.grow hw2 os
  refine ⟨g', star_imp (fun q hq => ⟨[], Ars.of_blk (b := bs) (o := 0) (pre := []) (post := post) (by simpa using hq) rfl rfl ?_ ?_ ?_⟩) hg', hm', hu'⟩
  · simp [ordL, hlen]
  · simp [ordL, hlen]
  · show ts.length ≤ _; omega

theorem order_spec (l : Sl) (ts : List Tag) (hl : ts.length ≤ 64) : Ct Pr F_plan_order [l.v] .one [.slice] [] (RAr TG l ts) (fun t Bs => Bs = [Ar I64 t.1 (ordL ts)]) := by
  refine spec1 c_plan_order fun B hr => ?_
  haveI : Fro B l TG ts := ⟨hr⟩
  have hn := hr.1
  unfold plan_order
  refine xnew fun bc => xget (h := ?_)
  refine xmake I64 (by omega) (by omega) (h := fun bs => ?_)
  rw [Int.toNat_natCast, ← hn]
  refine xloop1 (fun m (x : Int) As' => ∃ k : Nat, x = (k : Int) ∧ m = ts.length - k ∧ k ≤ ts.length ∧ ∃ ys : List Int, ys.length = ts.length ∧ (∀ j, j < k → ys[j]? = (idxL ts.length)[j]?) ∧ As' = [Ar I64 ⟨some ⟨bs, 0, none⟩, ts.length, ts.length⟩ ys, Blk bc [l.v]]) ts.length ⟨0, rfl, by omega, by omega, _, by simp, fun j hj => by omega, rfl⟩ ?_
  rintro m x As' K ⟨k, rfl, rfl, hk, ys, hys, hyk, rfl⟩ hK
  refine xif_dec (fun hp => ?_) (fun hp => ?_)
  · have hp : k < ts.length := by simpa using hp
    refine xidxn (E := I64) (xs := ys) (s := ⟨some ⟨bs, 0, none⟩, ts.length, ts.length⟩) (h1 := by omega) (h := fun y hy => ?_)
    refine xsetE (k : Int) hy rfl rfl (h := ?_)
    rw [wrap_succ k (by omega)]
    exact hK _ _ _ (by omega) ⟨k + 1, rfl, rfl, by omega, _, by simpa using hys, set_upto hyk (by omega) (by simp [idxL, hp]), rfl⟩
  · have hp : ¬ k < ts.length := by simpa using hp
    obtain rfl : ys = idxL ts.length := eq_upto (by simp [idxL, hys]) (fun j hj => hyk j (by simp [idxL] at hj; omega))
    refine xfront 1 (xfold1 (Q := Ar SL ⟨some ⟨bc, 0, none⟩, 1, 1⟩ [l]) 0 (fun g hg => ⟨[], blk_ar [l] 1 rfl rfl hg⟩) ?_)
    refine xfront 1 (xsort (bc := bc) (l := l) rfl hl ?_)
    exact xdrop 1 (xret rfl)

end Go.Cx

namespace Go.Cx
open Go Go.Cf
set_option linter.unusedVariables false
variable {B : Base} {As F : List HP} {α : Type}

structure Poll where
  unit : Int
  kind : Int
  addr : Int
  count : Int
  every : Int
  tags : List Int

abbrev poll0 : Poll := ⟨0, 0, 0, 0, 0, []⟩
/-- A poll as it lies: its list of tags lies elsewhere. -/
def PR : Enc (Poll × Sl) := ⟨fun q => [.int .i64 q.1.unit, .int .i64 q.1.kind, .int .i64 q.1.addr, .int .i64 q.1.count, .int .i64 q.1.every, q.2.v], 6, fun _ => rfl, fun t v h => by
  simp only [List.mem_cons, List.not_mem_nil, or_false] at h
  rcases h with h|h|h|h|h|h <;> (subst h; rfl), by decide, (poll0, ⟨none, 0, 0⟩)⟩
abbrev EP : Poll × Sl → Poll × Sl → HP := fun q _ => Ar I64 q.2 q.1.tags
def OPolls (s : Sl) (ps : List Poll) : HP := fun h => ∃ rows : List (Poll × Sl), rows.map Prod.fst = ps ∧ star [Ar PR s rows, Each EP rows rows] h

def limitK (k : Int) : Int := if k ≤ 2 then 2000 else 125
def joinC (p : Poll) (t : Tag) : Int := if t.addr + t.width - p.addr > p.count then t.addr + t.width - p.addr else p.count
def joins (p : Poll) (t : Tag) : Bool := decide (p.unit = t.unit ∧ p.every = t.every ∧ p.kind = t.kind ∧ t.addr ≤ p.addr + p.count + 8 ∧ joinC p t ≤ limitK p.kind)
def joinP (p : Poll) (t : Tag) (i : Int) : Poll := { p with count := joinC p t, tags := p.tags ++ [i] }
def newP (t : Tag) (i : Int) : Poll := ⟨t.unit, t.kind, t.addr, t.width, t.every, [i]⟩
def stepP (ps : List Poll) (t : Tag) (i : Int) : List Poll := match ps[ps.length - 1]? with
  | some p => if joins p t = true then ps.set (ps.length - 1) (joinP p t i) else ps ++ [newP t i]
  | none => ps ++ [newP t i]
def planK (ts : List Tag) (k : Nat) : List Poll := ((ordF ts).take k).foldl (fun ps i => stepP ps ts[i] (i.val : Int)) []
def planL (ts : List Tag) : List Poll := planK ts ts.length
def planM (ts : List Tag) : List Poll := if (allE ts).1 = 0 then planL ts else []

theorem ordF_len (ts : List Tag) : (ordF ts).length = ts.length := by simp [ordF]

theorem planK_succ {ts : List Tag} {k : Nat} {i : Fin ts.length} (h : (ordF ts)[k]? = some i) : planK ts (k + 1) = stepP (planK ts k) ts[i] (i.val : Int) := by
  unfold planK
  rw [List.take_add_one, h]
  simp

theorem tag_ok {t : Tag} (h : tagE t = 0) : 1 ≤ t.unit ∧ t.unit ≤ 247 ∧ 1 ≤ t.kind ∧ t.kind ≤ 4 ∧ 0 ≤ t.addr ∧ t.addr ≤ 65536 - t.width ∧ 1 ≤ t.every ∧ t.every ≤ 1048576 ∧ scaleE t.wide t.swap t.mul t.div t.add = 0 := by
  unfold tagE at h
  split at h
  · cases h
  split at h
  · cases h
  split at h
  · cases h
  split at h
  · cases h
  split at h
  · cases h
  split at h
  · rename_i h0; exact absurd h h0
  rename_i h1 h2 h3 h4 h5
  refine ⟨by omega, by omega, by omega, by omega, by omega, by omega, by omega, by omega, ?_⟩
  rename_i h6
  simpa using h5

def PollOK (n : Nat) (p : Poll) : Prop := 0 ≤ p.addr ∧ p.addr ≤ 65535 ∧ 1 ≤ p.count ∧ p.count ≤ 2000 ∧ p.tags.length ≤ n

theorem stepP_ok {n : Nat} {ps : List Poll} {t : Tag} {i : Int} (h : ∀ p ∈ ps, PollOK n p) (ht : tagE t = 0) : ∀ p ∈ stepP ps t i, PollOK (n + 1) p := by
  have hw := width_or t
  obtain ⟨_, _, _, _, a1, a2, _⟩ := tag_ok ht
  have hnew : PollOK (n + 1) (newP t i) := ⟨a1, by simp [newP]; omega, by simp [newP]; omega, by simp [newP]; omega, by simp [newP]⟩
  have hold : ∀ p ∈ ps, PollOK (n + 1) p := fun p hp => by obtain ⟨b1, b2, b3, b4, b5⟩ := h p hp; exact ⟨b1, b2, b3, b4, by omega⟩
  have happ : ∀ p ∈ ps ++ [newP t i], PollOK (n + 1) p := fun p hp => by
    rcases List.mem_append.1 hp with hp | hp
    · exact hold p hp
    · rw [List.mem_singleton.1 hp]; exact hnew
  intro p hp
  unfold stepP at hp
  split at hp
  · rename_i q hq
    split at hp
    · rename_i hj
      simp only [joins, decide_eq_true_eq] at hj
      obtain ⟨c1, c2, c3, c4, c5⟩ := h q (List.mem_of_getElem? hq)
      rcases List.mem_or_eq_of_mem_set hp with hp | rfl
      · exact hold p hp
      · refine ⟨c1, c2, ?_, ?_, by simp [joinP]; omega⟩
        · show 1 ≤ joinC q t; unfold joinC; split <;> omega
        · show joinC q t ≤ 2000
          have h5 := hj.2.2.2.2
          unfold limitK at h5; split at h5 <;> omega
    · exact happ p hp
  · exact happ p hp

theorem stepP_len {ps : List Poll} {t : Tag} {i : Int} : (stepP ps t i).length ≤ ps.length + 1 := by
  unfold stepP
  split
  · split <;> simp
  · simp

theorem planK_ok {ts : List Tag} (h : (allE ts).1 = 0) : ∀ k, k ≤ ts.length → (planK ts k).length ≤ k ∧ ∀ p ∈ planK ts k, PollOK k p := by
  intro k
  induction k with
  | zero => intro _; exact ⟨by simp [planK], fun p hp => by simp [planK] at hp⟩
  | succ k ih =>
    intro hk
    obtain ⟨h1, h2⟩ := ih (by omega)
    have hi : (ordF ts)[k]? = some ((ordF ts)[k]'(by rw [ordF_len]; omega)) := List.getElem?_eq_getElem _
    rw [planK_succ hi]
    refine ⟨by have := stepP_len (ps := planK ts k) (t := ts[(ordF ts)[k]'(by rw [ordF_len]; omega)]) (i := (((ordF ts)[k]'(by rw [ordF_len]; omega)).val : Int)); omega, stepP_ok h2 ?_⟩
    exact allE_tag h (List.getElem?_eq_getElem _)

theorem limit_spec (k : Int) : Ct Pr F_plan_limit [.int .i64 k] .one [.int .i64] [] emp (fun t Bs => t.1 = limitK k ∧ Bs = []) := by
  refine spec1 c_plan_limit fun B _ => ?_
  unfold plan_limit
  refine xif_dec (fun h => xret ⟨?_, rfl⟩) (fun h => xret ⟨?_, rfl⟩)
  · unfold limitK; rw [if_pos h]
  · unfold limitK; rw [if_neg h]

theorem groupOf_spec (t : Tag) : Ct Pr F_plan_groupOf [t.v] .agg [.int .i64, .int .i64, .int .i64] [] emp (fun r Bs => r.1 = t.unit ∧ r.2.1 = t.every ∧ r.2.2.1 = t.kind ∧ Bs = []) := by
  refine spec3 c_plan_groupOf fun B _ => ?_
  unfold plan_groupOf
  refine xnew fun b => xnew fun b1 => ?_
  iterate 3 (refine xget (h := ?_))
  iterate 3 (refine xset (h := ?_))
  iterate 3 (refine xget (h := ?_))
  exact xkeep (l := []) (xret ⟨rfl, rfl, rfl, rfl⟩)

theorem OPolls.nil : OPolls ⟨none, 0, 0⟩ [] (fun _ => none) := ⟨[], rfl, fun _ => none, fun _ => none, ⟨[], rfl, rfl, .inl ⟨rfl, rfl⟩⟩, ⟨fun _ => none, fun _ => none, trivial, trivial, fun _ => .inl rfl, Sub.refl _, Sub.refl _⟩, fun _ => .inl rfl, Sub.refl _, Sub.refl _⟩

theorem Plan_spec (l : Sl) (ts : List Tag) : Ct Pr F_plan_Plan [l.v] (.tup [none, none]) [.slice, .int .i64] [] (RAr TG l ts) (fun r Bs => r.2.1 = (allE ts).1 ∧ Bs = [OPolls r.1 (planM ts)]) := by
  refine spec2 c_plan_Plan fun B hr => ?_
  haveI : Fro B l TG ts := ⟨hr⟩
  have hn := hr.1
  unfold plan_Plan
  refine xcall0 (CheckAll_spec l ts) rdb ?_
  rintro ⟨e, at_, _⟩ _ ⟨he, hat, rfl⟩
  simp only at he hat; subst he hat
  refine app0 (ca2 (xif (fun h => ?_) (fun h => ?_)))
  · have h : (allE ts).1 ≠ 0 := by simpa using h
    have e : planM ts = [] := by unfold planM; rw [if_neg h]
    rw [e]
    exact xadd OPolls.nil (xret ⟨rfl, rfl⟩)
  have h0 : (allE ts).1 = 0 := by simpa using h
  have hl := allE_len h0
  have em : planM ts = planL ts := by unfold planM; rw [if_pos h0]
  rw [em, h0]
  refine xcall0 (order_spec l ts hl) rdb ?_
  rintro ⟨s, _⟩ _ rfl
  refine app1 (ca1 ?_)
  refine xlen s (fun hsn hsc => ?_)
  have hsn : s.n = ts.length := by rw [← hsn]; simp [ordL, ordF_len]
  refine xnone PR ?_
  refine xadd (A := Each EP [] []) trivial ?_
  refine xloop2 (fun m (out : Sl) (x : Int) As' => ∃ (k : Nat) (rows : List (Poll × Sl)), x = (k : Int) ∧ m = ts.length - k ∧ k ≤ ts.length ∧ rows.map Prod.fst = planK ts k ∧ As' = [Each EP rows rows, Ar PR out rows, Ar I64 s (ordL ts)]) ts.length ⟨0, [], rfl, by omega, by omega, rfl, rfl⟩ ?_
  rintro m out x As' K ⟨k, rows, rfl, rfl, hk, hrows, rfl⟩ hK
  refine xif_dec (fun hp => ?_) (fun hp => ?_)
  rotate_left
  · obtain rfl : k = ts.length := by omega
    refine xdrop 2 (xfold2 (Q := OPolls out (planL ts)) 1 0 (fun g hg => ⟨rows, hrows, hg⟩) (xret ⟨rfl, rfl⟩))
  have hp : k < ts.length := by omega
  obtain ⟨i, hi⟩ : ∃ i, (ordF ts)[k]? = some i := ⟨_, List.getElem?_eq_getElem (by rw [ordF_len]; exact hp)⟩
  have hoi : (ordL ts)[k]? = some (i.val : Int) := by simp [ordL, hi]
  have ht : ts[i.val]? = some ts[i] := List.getElem?_eq_getElem i.isLt
  have hstep := planK_succ hi
  obtain ⟨hlen, hoks⟩ := planK_ok h0 k (by omega)
  have htag := allE_tag h0 ht
  have hrl : rows.length = (planK ts k).length := by rw [← hrows]; simp
  generalize htt : ts[i] = t at ht hstep htag
  have hwd := width_or t
  obtain ⟨_, _, _, _, ha1, ha2, _⟩ := tag_ok htag
  have next : ∀ (out' : Sl) (rows' : List (Poll × Sl)), rows'.map Prod.fst = stepP (planK ts k) t (i.val : Int) → Ent B [Each EP rows' rows', Ar PR out' rows', Ar I64 s (ordL ts)] (K out' (IntKind.i64.wrap ((k : Int) + 1))) := fun out' rows' h => by
    rw [wrap_succ k (by omega)]
    exact hK _ _ _ _ (by omega) ⟨k + 1, rows', rfl, rfl, by omega, by rw [hstep]; exact h, rfl⟩
  refine xjoin ?_
  refine xidxn (h1 := by simp [ordL, ordF_len]; exact hp) (h := fun v hv => ?_)
  obtain rfl : v = (i.val : Int) := by rw [hoi] at hv; cases hv; rfl
  refine xgetE hv (h := ?_)
  refine xidxn (h1 := i.isLt) (h := fun t' ht' => ?_)
  obtain rfl : t' = t := by rw [ht] at ht'; cases ht'; rfl
  refine xgetE ht' (h := ?_)
  iterate 18 (refine xgetEj ht' (h := ?_))
  refine xnew fun b => ?_
  iterate 19 (refine xset (h := ?_))
  refine xdraw ?_
  iterate 20 (refine xget (h := ?_))
  refine xcall0 (Width_spec t') rdb ?_
  rintro ⟨x, _⟩ _ ⟨hx, rfl⟩
  simp only at hx; subst hx
  refine app0 (ca1 (xchk (h := ?_)))
  have w1 : IntKind.i64.wrap (t'.addr + t'.width) = t'.addr + t'.width := wrap_id _ (by omega) (by omega)
  rw [w1]
  refine xlen out (fun hon hoc => ?_)
  refine xjoin0 (fun As' => As' = [Blk b t'.cells, Each EP rows rows, Ar PR out rows, Ar I64 s (ordL ts)] ∧ ∀ p, (planK ts k)[(planK ts k).length - 1]? = some p → joins p t' = false) (fun K2 hK2 => ?_) ?_
  rotate_left
  · rintro As2 ⟨rfl, hno⟩
    iterate 5 (refine xget (h := ?_))
    have w2 : IntKind.i64.wrap (t'.addr + t'.width - t'.addr) = t'.width := by rw [wrap_id _ (by omega) (by omega)]; omega
    rw [w2]
    refine xnew fun b2 => ?_
    refine xfold1 (Q := Ar I64 ⟨some ⟨b2, 0, none⟩, 1, 1⟩ [(i.val : Int)]) 0 (fun g hg => ⟨[], blk_ar [(i.val : Int)] 1 rfl rfl hg⟩) ?_
    refine xnew fun b3 => ?_
    refine xapp1 (E := PR) (newP t' (i.val : Int), ⟨some ⟨b2, 0, none⟩, 1, 1⟩) (hb := by omega) (h := fun s3 => ?_)
    refine xfold [Each EP rows rows, Ar I64 ⟨some ⟨b2, 0, none⟩, 1, 1⟩ [(i.val : Int)]] (Each EP (rows ++ [(newP t' (i.val : Int), ⟨some ⟨b2, 0, none⟩, 1, 1⟩)]) (rows ++ [(newP t' (i.val : Int), ⟨some ⟨b2, 0, none⟩, 1, 1⟩)])) (fun g hg => each_snoc (R := EP) hg) ?_
    refine xuse [Each EP (rows ++ [(newP t' (i.val : Int), ⟨some ⟨b2, 0, none⟩, 1, 1⟩)]) (rows ++ [(newP t' (i.val : Int), ⟨some ⟨b2, 0, none⟩, 1, 1⟩)]), Ar PR s3 (rows ++ [(newP t' (i.val : Int), ⟨some ⟨b2, 0, none⟩, 1, 1⟩)]), Ar I64 s (ordL ts)] (next _ _ ?_)
    rw [List.map_append, hrows]
    unfold stepP
    split
    · rename_i p hp'
      rw [hno p hp']; simp
    · simp
  · cases hm : rows.length with
    | zero =>
      have hz : planK ts k = [] := List.length_eq_zero_iff.1 (by omega)
      refine xiff (by rw [← hon, hm]; decide) (hK2 _ ⟨rfl, fun p hp' => by rw [hz] at hp'; simp at hp'⟩)
    | succ m =>
      have wn : IntKind.i64.wrap ((out.n : Int) - 1) = (m : Int) := by rw [wrap_id _ (by omega) (by omega)]; omega
      rw [wn]
      refine xift (by simp) ?_
      refine xidxn (h1 := by omega) (h := fun q hq => ?_)
      obtain ⟨p, sp⟩ := q
      have hpk : (planK ts k)[(planK ts k).length - 1]? = some p := by
        rw [← hrows, List.length_map, hm, Nat.add_sub_cancel, List.getElem?_map, hq]; rfl
      obtain ⟨o1, o2, o3, o4, o5⟩ := hoks p (List.mem_of_getElem? hpk)
      refine xdraw (xnil ?_)
      refine xgetEj hq (h := xnil ?_)
      refine xgetEj hq (h := xdraw (xjoin (xnil ?_)))
      refine xgetE hq (h := xnil ?_)
      refine xgetEj hq (h := xnil ?_)
      refine xgetEj hq (h := ?_)
      iterate 19 (refine xget (h := ?_))
      refine xcall0 (groupOf_spec t') rdb ?_
      rintro ⟨x1, x2, x3, _⟩ _ ⟨hx1, hx2, hx3, rfl⟩
      simp only at hx1 hx2 hx3; subst hx1 hx2 hx3
      refine app0 (ca3 ?_)
      refine xchkEj hq (h := ?_)
      refine xchkEj hq (h := ?_)
      refine xchkE hq (h := ?_)
      dsimp only
      have w2 : IntKind.i64.wrap (t'.addr + t'.width - p.addr) = t'.addr + t'.width - p.addr := wrap_id _ (by omega) (by omega)
      have w3 : IntKind.i64.wrap (p.addr + p.count) = p.addr + p.count := wrap_id _ (by omega) (by omega)
      have w4 : IntKind.i64.wrap (p.addr + p.count + 8) = p.addr + p.count + 8 := wrap_id _ (by omega) (by omega)
      rw [w2]
      have hno : ∀ {As' : List HP}, As' = [Blk b t'.cells, Each EP rows rows, Ar PR out rows, Ar I64 s (ordL ts)] → joins p t' = false → Ent B As' K2 := fun e hj => hK2 _ ⟨e, fun p' hp' => by rw [hpk] at hp'; cases hp'; exact hj⟩
      refine xif (fun hg => xget (h := xnil ?_)) (fun hg => xiff rfl (xiff rfl (hno rfl ?_)))
      rotate_left
      · unfold joins
        rw [decide_eq_false_iff_not]
        rintro ⟨q1, q2, q3, _⟩
        rw [q1, q2, q3] at hg
        simp at hg
      have hg' : p.unit = t'.unit ∧ p.every = t'.every ∧ p.kind = t'.kind := by simpa using hg
      refine xgetEj hq (h := xnil ?_)
      refine xgetEj hq (h := ?_)
      dsimp only
      rw [w3, w4]
      refine xif (fun hgap => xnil ?_) (fun hgap => xiff rfl (hno rfl ?_))
      rotate_left
      · unfold joins
        rw [decide_eq_false_iff_not]
        rintro ⟨_, _, _, q4, _⟩
        simp at hgap; omega
      refine xgetEj hq (h := ?_)
      refine xcall0 (limit_spec _) rdb ?_
      rintro ⟨x1, _⟩ _ ⟨hx1, rfl⟩
      simp only at hx1; subst hx1
      refine app0 (ca1 ?_)
      try dsimp only
      refine xif (fun hlim => xnil ?_) (fun hlim => hno rfl ?_)
      rotate_left
      · unfold joins
        rw [decide_eq_false_iff_not]
        rintro ⟨_, _, _, _, q5⟩
        unfold joinC at q5
        simp only [decide_eq_false_iff_not] at hlim
        exact hlim q5
      have hj : joins p t' = true := by
        unfold joins
        rw [decide_eq_true_eq]
        exact ⟨hg'.1, hg'.2.1, hg'.2.2, by simpa using hgap, by unfold joinC; simpa using hlim⟩
      refine xgetEj hq (h := ?_)
      dsimp only
      refine xnew fun b1 => ?_
      refine xunf 2 [Ar I64 sp p.tags, Each EP (rows.eraseIdx m) (rows.eraseIdx m)] (fun g hg => each_pick (R := EP) hg hq hq) (app2 ?_)
      refine xapp1 (E := I64) (i.val : Int) (hb := by omega) (h := fun s2 => xnil ?_)
      refine xsetEj (({ p with count := joinC p t' } : Poll), sp) hq rfl (by decide) rfl (h := xnil ?_)
      have hm' : m < rows.length := by omega
      refine xsetEj (E := PR) (joinP p t' (i.val : Int), s2) (x := (({ p with count := joinC p t' } : Poll), sp)) (by simp [hm']) rfl (by decide) rfl (h := ?_)
      rw [List.set_set]
      refine xfold [Ar I64 s2 (p.tags ++ [(i.val : Int)]), Each EP (rows.eraseIdx m) (rows.eraseIdx m)] (Each EP (rows.set m (joinP p t' (i.val : Int), s2)) (rows.set m (joinP p t' (i.val : Int), s2))) (fun g hg => each_put (R := EP) hm' hm' hg) ?_
      refine xuse [Each EP (rows.set m (joinP p t' (i.val : Int), s2)) (rows.set m (joinP p t' (i.val : Int), s2)), Ar PR out (rows.set m (joinP p t' (i.val : Int), s2)), Ar I64 s (ordL ts)] (next _ _ ?_)
      unfold stepP
      rw [hpk]
      simp only
      rw [if_pos hj, List.map_set, hrows, ← hrl, hm, Nat.add_sub_cancel]

end Go.Cx
