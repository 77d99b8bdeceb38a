/-
  Tags: what is right of one, of all; lent and kept.
-/
import Derived.Test.YtncgenibaclejaaGreatDoorF
import Derived.Test.YtncgenibaclejaaGreatDoorFB
import Derived.Test.YtncgenibaclejaaGreatDoorCfN
import Derived.Test.YtncgenibaclejaaGreatDoorCgA
namespace Go.Cx
open Go Go.Cf
set_option linter.unusedVariables false
variable {B : Base} {As : List HP}

structure Tag where
  name : ByteArray
  unit : Int
  kind : Int
  addr : Int
  every : Int
  wide : Bool
  sgn : Bool
  swap : Bool
  mul : Int
  div : Int
  add : Int
  dead : Int
  quiet : Int
  ulow : Bool
  uhigh : Bool
  latch : Bool
  low : Int
  high : Int
  hyst : Int

def Tag.cells (t : Tag) : List Value := [.string t.name, .int .i64 t.unit, .int .i64 t.kind, .int .i64 t.addr, .int .i64 t.every, .bool t.wide, .bool t.sgn, .bool t.swap, .int .i64 t.mul, .int .i64 t.div, .int .i64 t.add, .int .i64 t.dead, .int .i64 t.quiet, .bool t.ulow, .bool t.uhigh, .bool t.latch, .int .i64 t.low, .int .i64 t.high, .int .i64 t.hyst]
abbrev Tag.v (t : Tag) : Value := .agg #[.string t.name, .int .i64 t.unit, .int .i64 t.kind, .int .i64 t.addr, .int .i64 t.every, .bool t.wide, .bool t.sgn, .bool t.swap, .int .i64 t.mul, .int .i64 t.div, .int .i64 t.add, .int .i64 t.dead, .int .i64 t.quiet, .bool t.ulow, .bool t.uhigh, .bool t.latch, .int .i64 t.low, .int .i64 t.high, .int .i64 t.hyst]
abbrev tag0 : Tag := ⟨ByteArray.empty, 0, 0, 0, 0, false, false, false, 0, 0, 0, 0, 0, false, false, false, 0, 0, 0⟩
def TG : Enc Tag := ⟨Tag.cells, 19, fun _ => rfl, fun t v h => by
  simp only [Tag.cells, List.mem_cons, List.not_mem_nil, or_false] at h
  rcases h with h|h|h|h|h|h|h|h|h|h|h|h|h|h|h|h|h|h|h <;> (subst h; rfl), by decide, tag0⟩

/-! What is wrong. -/
def letterB (b : UInt8) : Bool := (decide (97 ≤ b.toNat) && decide (b.toNat ≤ 122)) || (decide (65 ≤ b.toNat) && decide (b.toNat ≤ 90))
def moreB (b : UInt8) : Bool := (decide (48 ≤ b.toNat) && decide (b.toNat ≤ 57)) || b.toNat == 95 || b.toNat == 46 || b.toNat == 45
def okAt (s : ByteArray) (i : Nat) : Bool := match s.data.toList[i]? with
  | none => true
  | some b => letterB b || (decide (0 < i) && moreB b)
def nameOk (s : ByteArray) : Bool := decide (1 ≤ s.size) && decide (s.size ≤ 16) && (List.range s.size).all (okAt s)
def scaleE (wide swap : Bool) (mul div add : Int) : Int := if mul = 0 ∨ mul < -1000000 ∨ mul > 1000000 ∨ div < 1 ∨ div > 1000000 ∨ add < -1099511627776 ∨ add > 1099511627776 ∨ (swap = true ∧ wide = false) then 25 else 0
def bandE (dead quiet : Int) : Int := if dead < 0 ∨ dead > 1099511627776 ∨ quiet < 0 ∨ quiet > 1099511627776 then 26 else 0
def boundOk (used : Bool) (v : Int) : Bool := v == 0 || (used && decide (-1099511627776 ≤ v) && decide (v ≤ 1099511627776))
def limE (ulow uhigh : Bool) (low high hyst : Int) : Int :=
  if hyst < 0 ∨ hyst > 1099511627776 ∨ boundOk ulow low = false ∨ boundOk uhigh high = false ∨ (ulow = true ∧ uhigh = true ∧ hyst ≥ high - low) then 27 else 0
def Tag.width (t : Tag) : Int := if t.wide = true ∧ (t.kind = 3 ∨ t.kind = 4) then 2 else 1
def tagE (t : Tag) : Int :=
  if nameOk t.name = false then 8
  else if t.unit < 1 ∨ t.unit > 247 then 24
  else if t.kind < 1 ∨ t.kind > 4 then 28
  else if t.addr < 0 ∨ t.addr > 65536 - t.width then 21
  else if t.every < 1 ∨ t.every > 1048576 then 3
  else if scaleE t.wide t.swap t.mul t.div t.add ≠ 0 then scaleE t.wide t.swap t.mul t.div t.add
  else if t.kind ≤ 2 ∧ ¬ (t.wide = false ∧ t.sgn = false ∧ t.swap = false ∧ t.mul = 1 ∧ t.div = 1 ∧ t.add = 0) then 25
  else if bandE t.dead t.quiet ≠ 0 then bandE t.dead t.quiet
  else limE t.ulow t.uhigh t.low t.high t.hyst

theorem width_or (t : Tag) : t.width = 1 ∨ t.width = 2 := by unfold Tag.width; split <;> simp

/-! The program's own. -/
theorem within_spec (x lo hi : Int) (h : lo ≤ hi) : Ct Pr F_scale_within_int_ [.int .i64 x, .int .i64 lo, .int .i64 hi] .one [.int .i64] [] emp (fun t Bs => ((x != t.1) = (decide (x < lo) || decide (x > hi))) ∧ (t.1 = if x < lo then lo else if x > hi then hi else x) ∧ Bs = []) := by
  refine spec1 c_scale_within_int_ fun B _ => ?_
  unfold scale_within_int_
  have e : (if hi < if lo > x then lo else x then hi else if lo > x then lo else x) = (if x < lo then lo else if x > hi then hi else x) := by (repeat' split) <;> omega
  rw [e]
  refine xret ⟨?_, rfl, rfl⟩
  show (x != _) = _
  by_cases h1 : x < lo
  · have h3 : x ≠ lo := by omega
    simp [h1, h3]
  · by_cases h2 : x > hi
    · have h3 : x ≠ hi := by omega
      simp [h1, h2, h3]
    · simp [h1, h2]

theorem scaleCheck_spec (wide sgn swap : Bool) (mul div add : Int) : Ct Pr F_scale_Check [.agg #[.bool wide, .bool sgn, .bool swap, .int .i64 mul, .int .i64 div, .int .i64 add]] .one [.int .i64] [] emp (fun t Bs => t.1 = scaleE wide swap mul div add ∧ Bs = []) := by
  refine spec1 c_scale_Check fun B _ => ?_
  have fin : ∀ {x : Int} {As : List HP}, x = scaleE wide swap mul div add → Ent B As (Ret B (ss := [.int .i64]) (fun t Bs => t.1 = scaleE wide swap mul div add ∧ Bs = []) (x, ())) := fun h => xkeep (l := []) (xret ⟨h, rfl⟩)
  unfold scale_Check
  refine xnew fun b => xdraw (xjoin (xget (h := xif (fun h0 => ?_) (fun h0 => ?_))))
  · refine xift rfl (fin ?_)
    unfold scaleE; rw [if_pos (by simp at h0; omega)]
  refine xget (h := xget (h := ?_))
  refine xcall0 (within_spec _ _ _ (by decide)) rdb ?_
  rintro ⟨x, _⟩ _ ⟨hx, _, rfl⟩
  refine app0 (ca1 (xchk (h := ?_)))
  simp only at hx
  rw [hx]
  refine xif (fun h1 => fin ?_) (fun h1 => ?_)
  · unfold scaleE; simp at h1; rw [if_pos (by omega)]
  refine xdraw (xget (h := xget (h := ?_)))
  refine xcall0 (within_spec _ _ _ (by decide)) rdb ?_
  rintro ⟨y, _⟩ _ ⟨hy, _, rfl⟩
  refine app0 (ca1 (xchk (h := ?_)))
  simp only at hy
  rw [hy]
  refine xif (fun h2 => fin ?_) (fun h2 => ?_)
  · unfold scaleE; simp at h2; rw [if_pos (by omega)]
  refine xdraw (xget (h := xget (h := ?_)))
  refine xcall0 (within_spec _ _ _ (by decide)) rdb ?_
  rintro ⟨z, _⟩ _ ⟨hz, _, rfl⟩
  refine app0 (ca1 (xchk (h := ?_)))
  simp only at hz
  rw [hz]
  refine xif (fun h3 => fin ?_) (fun h3 => ?_)
  · unfold scaleE; simp at h3; rw [if_pos (by omega)]
  simp at h0 h1 h2 h3
  refine xget (h := xjoin (xif (fun h4 => xget (h := ?_)) (fun h4 => xiff rfl (fin ?_))))
  · refine xif (fun h5 => fin ?_) (fun h5 => fin ?_)
    · simp at h5; unfold scaleE; rw [if_pos (by simp [h4, h5])]
    · simp at h5; unfold scaleE; rw [if_neg (by simp [h4, h5]; omega)]
  · unfold scaleE; rw [if_neg (by simp [h4]; omega)]

theorem bandCheck_spec (d q : Int) : Ct Pr F_band_Check [.agg #[.int .i64 d, .int .i64 q]] .one [.int .i64] [] emp (fun t Bs => t.1 = bandE d q ∧ Bs = []) := by
  refine spec1 c_band_Check fun B _ => ?_
  have fin : ∀ {x : Int} {As : List HP}, x = bandE d q → Ent B As (Ret B (ss := [.int .i64]) (fun t Bs => t.1 = bandE d q ∧ Bs = []) (x, ())) := fun h => xkeep (l := []) (xret ⟨h, rfl⟩)
  unfold band_Check
  refine xnew fun b => xget (h := ?_)
  repeat' (first | refine xjoin ?_ | refine xift rfl ?_ | refine xiff rfl ?_ | refine xget (h := ?_) | refine xif (fun h0 => ?_) (fun h0 => ?_))
  all_goals
    refine fin ?_
    simp only [decide_eq_true_eq, decide_eq_false_iff_not] at *
    unfold bandE
    first | rw [if_pos (by omega)] | rw [if_neg (by omega)]

theorem bandRef_spec (d q : Int) : Ct Pr F_ref07_Check [.agg #[.int .i64 d, .int .i64 q]] .one [.int .i64] [] emp (fun t Bs => t.1 = bandE d q ∧ Bs = []) := by
  refine spec1 c_ref07_Check fun B _ => ?_
  have fin : ∀ {x : Int} {As : List HP}, x = bandE d q → Ent B As (Ret B (ss := [.int .i64]) (fun t Bs => t.1 = bandE d q ∧ Bs = []) (x, ())) := fun h => xkeep (l := []) (xret ⟨h, rfl⟩)
  unfold ref07_Check
  refine xnew fun b => xget (h := ?_)
  repeat' (first | refine xjoin ?_ | refine xift rfl ?_ | refine xiff rfl ?_ | refine xget (h := ?_) | refine xif (fun h0 => ?_) (fun h0 => ?_))
  all_goals
    refine fin ?_
    simp only [decide_eq_true_eq, decide_eq_false_iff_not] at *
    unfold bandE
    first | rw [if_pos (by omega)] | rw [if_neg (by omega)]

theorem bound_spec (u : Bool) (v : Int) : Ct Pr F_alarm_bound [.bool u, .int .i64 v] .one [.bool] [] emp (fun t Bs => t.1 = boundOk u v ∧ Bs = []) := by
  refine spec1 c_alarm_bound fun B _ => ?_
  unfold alarm_bound
  refine xjoin (xif (fun h => xret ⟨?_, rfl⟩) (fun h => xret ⟨?_, rfl⟩))
  · simp only [boundOk, h, Bool.true_or]
  · simp only [boundOk, h, Bool.false_or, ge_iff_le]

theorem limCheck_spec (ulow uhigh latch : Bool) (low high hyst : Int) : Ct Pr F_alarm_Check [.agg #[.bool ulow, .bool uhigh, .bool latch, .int .i64 low, .int .i64 high, .int .i64 hyst]] .one [.int .i64] [] emp (fun t Bs => t.1 = limE ulow uhigh low high hyst ∧ Bs = []) := by
  refine spec1 c_alarm_Check fun B _ => ?_
  have fin : ∀ {x : Int} {As : List HP}, x = limE ulow uhigh low high hyst → Ent B As (Ret B (ss := [.int .i64]) (fun t Bs => t.1 = limE ulow uhigh low high hyst ∧ Bs = []) (x, ())) := fun h => xkeep (l := []) (xret ⟨h, rfl⟩)
  have hW : IntKind.i64.wrap (high - low) = high - low ∨ low < -1099511627776 ∨ low > 1099511627776 ∨ high < -1099511627776 ∨ high > 1099511627776 := by
    by_cases h : low < -1099511627776 ∨ low > 1099511627776 ∨ high < -1099511627776 ∨ high > 1099511627776
    · exact .inr h
    · exact .inl (wrap_id _ (by omega) (by omega))
  unfold alarm_Check
  cases ulow <;> cases uhigh
  all_goals
    refine xnew fun b => ?_
    repeat' (first | refine xjoin ?_ | refine xift rfl ?_ | refine xiff rfl ?_ | refine xget (h := ?_) | (refine xcall0 (bound_spec _ _) rdb ?_; rintro ⟨x, _⟩ _ ⟨hx, rfl⟩; simp only at hx; subst hx; refine app0 (ca1 ?_)) | refine xif (fun h0 => ?_) (fun h0 => ?_))
    all_goals
      refine fin ?_
      simp only [boundOk, Bool.or_eq_true, Bool.or_eq_false_iff, decide_eq_true_eq, decide_eq_false_iff_not, bne_iff_ne, ne_eq, bne_eq_false_iff_eq, Bool.not_eq_true', Bool.not_eq_false', Bool.false_and, Bool.true_and, Bool.or_false, beq_eq_false_iff_ne, beq_iff_eq, Bool.and_eq_true, Bool.and_eq_false_iff, true_and, false_and, Bool.false_eq_true, and_false, or_false] at *
      simp only [limE, boundOk, Bool.false_and, Bool.true_and, Bool.or_false, Bool.or_eq_false_iff, beq_eq_false_iff_ne, ne_eq, Bool.and_eq_false_iff, decide_eq_false_iff_not, true_and, false_and, Bool.false_eq_true, and_false, or_false]
      first | rw [if_pos (by omega)] | rw [if_neg (by omega)]

theorem Width_spec (t : Tag) : Ct Pr F_tags_Width [t.v] .one [.int .i64] [] emp (fun r Bs => r.1 = t.width ∧ Bs = []) := by
  refine spec1 c_tags_Width fun B _ => ?_
  have fin : ∀ {x : Int} {As : List HP}, x = t.width → Ent B As (Ret B (ss := [.int .i64]) (fun r Bs => r.1 = t.width ∧ Bs = []) (x, ())) := fun h => xkeep (l := []) (xret ⟨h, rfl⟩)
  unfold tags_Width
  refine xnew fun b => xget (h := xjoin (xif (fun h => xget (h := xjoin (xif (fun h1 => xift rfl (fin ?_)) (fun h1 => xget (h := xif (fun h2 => fin ?_) (fun h2 => fin ?_)))))) (fun h => xiff rfl (fin ?_))))
  all_goals
    unfold Tag.width
    split <;> simp_all

theorem WidthRef_spec (t : Tag) : Ct Pr F_ref09_Width [t.v] .one [.int .i64] [] emp (fun r Bs => r.1 = t.width ∧ Bs = []) := by
  refine spec1 c_ref09_Width fun B _ => ?_
  have fin : ∀ {x : Int} {As : List HP}, x = t.width → Ent B As (Ret B (ss := [.int .i64]) (fun r Bs => r.1 = t.width ∧ Bs = []) (x, ())) := fun h => xkeep (l := []) (xret ⟨h, rfl⟩)
  unfold ref09_Width
  refine xnew fun b => xget (h := xjoin (xif (fun h1 => xjoin (xift rfl (xget (h := xif (fun h2 => fin ?_) (fun h2 => fin ?_))))) (fun h1 => xget (h := xjoin (xif (fun h3 => xget (h := xif (fun h2 => fin ?_) (fun h2 => fin ?_))) (fun h3 => xiff rfl (fin ?_)))))))
  all_goals
    unfold Tag.width
    split <;> simp_all
end Go.Cx

namespace Go.Cx
open Go Go.Cf
set_option linter.unusedVariables false
variable {B : Base} {As : List HP}

theorem nameOk_false {s : ByteArray} {k : Nat} (hk : k < s.size) (h : okAt s k = false) : nameOk s = false := by
  unfold nameOk
  have : (List.range s.size).all (okAt s) = false := by
    rw [Bool.eq_false_iff]
    intro e
    have := List.all_eq_true.1 e k (List.mem_range.2 hk)
    rw [h] at this; cases this
  rw [this]; simp

theorem nameOk_all {s : ByteArray} (h : ∀ i, i < s.size → okAt s i = true) : nameOk s = (decide (1 ≤ s.size) && decide (s.size ≤ 16)) := by
  unfold nameOk
  have : (List.range s.size).all (okAt s) = true := List.all_eq_true.2 fun i hi => h i (List.mem_range.1 hi)
  rw [this]; simp

theorem byte_at {s : ByteArray} {k : Nat} (hk : k < s.size) : ∃ b, s.data.toList[k]? = some b := ⟨_, List.getElem?_eq_getElem (by simpa using hk)⟩

theorem Name_spec (s : ByteArray) : Ct Pr F_tags_Name [.string s] .one [.bool] [] emp (fun r Bs => r.1 = nameOk s ∧ Bs = []) := by
  refine spec1 c_tags_Name fun B _ => ?_
  have fin : ∀ {x : Bool} {As : List HP}, x = nameOk s → Ent B As (Ret B (ss := [.bool]) (fun r Bs => r.1 = nameOk s ∧ Bs = []) (x, ())) := fun h => xkeep (l := []) (xret ⟨h, rfl⟩)
  unfold tags_Name
  refine xrange (by kernel_rfl) fun r => ?_
  refine xloop0 (fun n As' => ∃ k, n = s.size - k ∧ k ≤ s.size ∧ As' = [IterO r s k] ∧ ∀ i, i < k → okAt s i = true) s.size ⟨0, by omega, by omega, rfl, fun i hi => by omega⟩ ?_
  rintro n As' K ⟨k, rfl, hk, rfl, hall⟩ hK
  refine xnext (fun hp => ?_) (fun hp => ?_)
  · refine xiff rfl (fin ?_)
    rw [nameOk_all (fun i hi => hall i (by omega)), Bool.eq_iff_iff]
    simp only [Bool.and_eq_true, decide_eq_true_eq]
    omega
  obtain ⟨b, hb⟩ := byte_at hp
  have hok : okAt s k = (letterB b || (decide (0 < k) && moreB b)) := by simp only [okAt, hb]
  refine xift rfl ?_
  by_cases ha : b.toNat < 128
  · rw [Go.Cf.decode_ascii hb ha]
    dsimp only
    have next : okAt s k = true → Ent B [IterO r s (k + 1)] K := fun h => hK (s.size - (k + 1)) _ (by omega) ⟨k + 1, rfl, by omega, rfl, fun i hi => by
      by_cases e : i = k
      · subst e; exact h
      · exact hall i (by omega)⟩
    refine xjoin1 (fun (x : Bool) As' => As' = [IterO r s (k + 1)] ∧ x = letterB b) (fun K1 h1 => xif (fun e => h1 _ _ ⟨rfl, ?_⟩) (fun e => h1 _ _ ⟨rfl, ?_⟩)) ?_
    · rw [e]; symm; simp [letterB] at *; omega
    · rw [Bool.eq_iff_iff]; simp [letterB] at *; omega
    rintro x As2 ⟨rfl, rfl⟩
    refine xjoin (xif (fun e => next (by rw [hok, e]; rfl)) (fun e => xjoin (xif (fun e0 => ?_) (fun e0 => ?_))))
    · refine xif (fun e1 => next ?_) (fun e1 => fin ?_)
      · rw [hok]; simp [moreB] at *; omega
      · symm; refine nameOk_false hp ?_
        rw [hok, e]; simp [moreB] at *; omega
    · refine xiff rfl (fin ?_)
      symm; refine nameOk_false hp ?_
      rw [hok, e]; simp at *; omega
  · have h128 := Go.Cf.decode_other hb ha
    have hbad : nameOk s = false := nameOk_false hp (by rw [hok]; simp [letterB, moreB] at *; omega)
    refine xjoin1 (fun (x : Bool) As' => x = false) (fun K1 h1 => xif (fun e => h1 _ _ ?_) (fun e => h1 _ _ ?_)) ?_
    · simp at e; omega
    · simp; omega
    rintro x As2 rfl
    refine xjoin (xiff rfl (xjoin (xif (fun e0 => xif (fun e1 => ?_) (fun e1 => fin hbad.symm)) (fun e0 => xiff rfl (fin hbad.symm)))))
    simp at e1; omega

theorem letter_spec (b : UInt8) : Ct Pr F_ref09_letter [.int .u8 b.toNat] .one [.bool] [] emp (fun r Bs => r.1 = letterB b ∧ Bs = []) := by
  refine spec1 c_ref09_letter fun B _ => ?_
  unfold ref09_letter
  refine xjoin (xif (fun h => xret ⟨?_, rfl⟩) (fun h => xret ⟨?_, rfl⟩))
  · symm; simp [letterB] at *; omega
  · rw [Bool.eq_iff_iff]; simp [letterB] at *; omega

theorem NameRef_spec (s : ByteArray) : Ct Pr F_ref09_Name [.string s] .one [.bool] [] emp (fun r Bs => r.1 = nameOk s ∧ Bs = []) := by
  refine spec1 c_ref09_Name fun B _ => ?_
  have fin : ∀ {x : Bool} {As : List HP}, x = nameOk s → Ent B As (Ret B (ss := [.bool]) (fun r Bs => r.1 = nameOk s ∧ Bs = []) (x, ())) := fun h => xkeep (l := []) (xret ⟨h, rfl⟩)
  unfold ref09_Name
  refine xjoin (xif (fun h0 => xift rfl (fin ?_)) (fun h0 => ?_))
  · symm; unfold nameOk; simp at *; omega
  have hs : 1 ≤ s.size ∧ s.size ≤ 16 := by simp at h0; omega
  obtain ⟨b, hb⟩ := byte_at (k := 0) (show 0 < s.size by omega)
  refine xbyte (k := 0) rfl hb ?_
  refine xcall0 (letter_spec b) rdb ?_
  rintro ⟨x, _⟩ _ ⟨hx, rfl⟩
  simp only at hx; subst hx
  refine app0 (ca1 (xif (fun h1 => fin ?_) (fun h1 => ?_)))
  · symm; refine nameOk_false (k := 0) (by omega) ?_
    simp only [okAt, hb]; simpa using h1
  have h1 : letterB b = true := by simpa using h1
  refine xloop1 (fun n (x : Int) As' => ∃ k : Nat, x = (k : Int) ∧ n = s.size - k ∧ k ≤ s.size ∧ As' = [] ∧ ∀ i, i < k → okAt s i = true) s.size ⟨0, rfl, by omega, by omega, rfl, fun i hi => by omega⟩ ?_
  rintro n x As' K ⟨k, rfl, rfl, hk, rfl, hall⟩ hK
  refine xif_dec (fun hp => ?_) (fun hp => fin ?_)
  · have hp : k < s.size := by omega
    obtain ⟨c, hc⟩ := byte_at hp
    have next : okAt s k = true → Ent B [] (K (IntKind.i64.wrap ((k : Int) + 1))) := fun h => by
      rw [wrap_succ k (by omega)]
      exact hK (s.size - (k + 1)) _ _ (by omega) ⟨k + 1, rfl, rfl, by omega, rfl, fun i hi => by
        by_cases e : i = k
        · subst e; exact h
        · exact hall i (by omega)⟩
    have hok : okAt s k = (letterB c || (decide (0 < k) && moreB c)) := by simp only [okAt, hc]
    refine xbyte (k := k) rfl hc ?_
    refine xcall0 (letter_spec c) rdb ?_
    rintro ⟨x, _⟩ _ ⟨hx, rfl⟩
    simp only at hx; subst hx
    have h0k : letterB c = false → 0 < k := fun e => by
      rcases Nat.eq_zero_or_pos k with e0 | e0
      · subst e0; rw [hb] at hc; cases hc; rw [h1] at e; cases e
      · exact e0
    refine app0 (ca1 (xjoin (xif (fun h2 => xif (fun h3 => fin ?_) (fun h3 => next ?_)) (fun h2 => xiff rfl (next ?_)))))
    · have h2 : letterB c = false := by simpa using h2
      symm; refine nameOk_false hp ?_
      rw [hok, h2]; simp [moreB] at *; omega
    · have h2 : letterB c = false := by simpa using h2
      have := h0k h2
      rw [hok, h2]; simp [moreB] at *; omega
    · rw [hok]; have h2 : letterB c = true := by simpa using h2
      rw [h2]; rfl
  · rw [nameOk_all (fun i hi => hall i (by omega))]; simp; omega

theorem beyond_spec (v : Int) : Ct Pr F_ref08_beyond [.int .i64 v] .one [.bool] [] emp (fun r Bs => r.1 = (decide (v < -1099511627776) || decide (v > 1099511627776)) ∧ Bs = []) := by
  refine spec1 c_ref08_beyond fun B _ => ?_
  unfold ref08_beyond
  exact xret ⟨rfl, rfl⟩

theorem limRef_spec (ulow uhigh latch : Bool) (low high hyst : Int) : Ct Pr F_ref08_Check [.agg #[.bool ulow, .bool uhigh, .bool latch, .int .i64 low, .int .i64 high, .int .i64 hyst]] .one [.int .i64] [] emp (fun t Bs => t.1 = limE ulow uhigh low high hyst ∧ Bs = []) := by
  refine spec1 c_ref08_Check fun B _ => ?_
  have fin : ∀ {x : Int} {As : List HP}, x = limE ulow uhigh low high hyst → Ent B As (Ret B (ss := [.int .i64]) (fun t Bs => t.1 = limE ulow uhigh low high hyst ∧ Bs = []) (x, ())) := fun h => xkeep (l := []) (xret ⟨h, rfl⟩)
  have hW : IntKind.i64.wrap (high - low) = high - low ∨ low < -1099511627776 ∨ low > 1099511627776 ∨ high < -1099511627776 ∨ high > 1099511627776 := by
    by_cases h : low < -1099511627776 ∨ low > 1099511627776 ∨ high < -1099511627776 ∨ high > 1099511627776
    · exact .inr h
    · exact .inl (wrap_id _ (by omega) (by omega))
  unfold ref08_Check
  cases ulow <;> cases uhigh
  all_goals
    refine xnew fun b => ?_
    repeat' (first | refine xjoin ?_ | refine xift rfl ?_ | refine xiff rfl ?_ | refine xget (h := ?_) | (refine xcall0 (beyond_spec _) rdb ?_; rintro ⟨x, _⟩ _ ⟨hx, rfl⟩; simp only at hx; subst hx; refine app0 (ca1 ?_)) | refine xif (fun h0 => ?_) (fun h0 => ?_))
    all_goals
      refine fin ?_
      simp only [Bool.or_eq_true, Bool.or_eq_false_iff, decide_eq_true_eq, decide_eq_false_iff_not, bne_iff_ne, ne_eq, bne_eq_false_iff_eq] at *
      simp only [limE, boundOk, Bool.false_and, Bool.true_and, Bool.or_false, Bool.or_eq_false_iff, beq_eq_false_iff_ne, ne_eq, Bool.and_eq_false_iff, decide_eq_false_iff_not, true_and, false_and, Bool.false_eq_true, and_false, or_false]
      first | rw [if_pos (by omega)] | rw [if_neg (by omega)]

theorem scaleRef_spec (wide sgn swap : Bool) (mul div add : Int) : Ct Pr F_ref06_Check [.agg #[.bool wide, .bool sgn, .bool swap, .int .i64 mul, .int .i64 div, .int .i64 add]] .one [.int .i64] [] emp (fun t Bs => t.1 = scaleE wide swap mul div add ∧ Bs = []) := by
  refine spec1 c_ref06_Check fun B _ => ?_
  have fin : ∀ {x : Int} {As : List HP}, x = scaleE wide swap mul div add → Ent B As (Ret B (ss := [.int .i64]) (fun t Bs => t.1 = scaleE wide swap mul div add ∧ Bs = []) (x, ())) := fun h => xkeep (l := []) (xret ⟨h, rfl⟩)
  unfold ref06_Check
  cases wide <;> cases swap
  all_goals
    refine xnew fun b => ?_
    repeat' (first | refine xjoin ?_ | refine xift rfl ?_ | refine xiff rfl ?_ | refine xget (h := ?_) | refine xif (fun h0 => ?_) (fun h0 => ?_))
    all_goals
      refine fin ?_
      simp only [decide_eq_true_eq, decide_eq_false_iff_not, beq_iff_eq, beq_eq_false_iff_ne, ne_eq] at *
      simp only [scaleE, true_and, false_and, and_false, and_true, or_false, or_true, Bool.false_eq_true, Bool.true_eq_false, reduceCtorEq, if_true]
      first | done | rw [if_pos (by omega)] | rw [if_neg (by omega)]

/-- The block of a tag that was handed over. -/
def OwnT (b : Nat) (t : Tag) (As : List HP) : Prop := As = [Blk b t.cells]

theorem Check_spec (t : Tag) : Ct Pr F_tags_Check [t.v] .one [.int .i64] [] emp (fun r Bs => r.1 = tagE t ∧ Bs = []) := by
  refine spec1 c_tags_Check fun B _ => ?_
  have fin : ∀ {x : Int} {As : List HP}, x = tagE t → Ent B As (Ret B (ss := [.int .i64]) (fun r Bs => r.1 = tagE t ∧ Bs = []) (x, ())) := fun h => xkeep (l := []) (xret ⟨h, rfl⟩)
  have hw := width_or t
  unfold tags_Check
  refine xnew fun b => xget (h := ?_)
  refine xcall0 (Name_spec _) rdb ?_
  rintro ⟨x, _⟩ _ ⟨hx, rfl⟩
  simp only at hx; subst hx
  refine app0 (ca1 (xif (fun h1 => fin ?_) (fun h1 => xget (h := xjoin ?_))))
  · unfold tagE; rw [if_pos (by simpa using h1)]
  have e1 : ¬ nameOk t.name = false := by simpa using h1
  have bad24 : (t.unit < 1 ∨ t.unit > 247) → 24 = tagE t := fun h => by unfold tagE; rw [if_neg e1, if_pos h]
  refine xif (fun h2 => xift rfl (fin (bad24 (.inl (by simpa using h2))))) (fun h2 => xget (h := xif (fun h2' => fin (bad24 (.inr (by simpa using h2')))) (fun h2' => xget (h := xjoin ?_))))
  have e2 : ¬ (t.unit < 1 ∨ t.unit > 247) := by simp at h2 h2'; omega
  have bad28 : (t.kind < 1 ∨ t.kind > 4) → 28 = tagE t := fun h => by unfold tagE; rw [if_neg e1, if_neg e2, if_pos h]
  refine xif (fun h3 => xift rfl (fin (bad28 (.inl (by simpa using h3))))) (fun h3 => xget (h := xif (fun h3' => fin (bad28 (.inr (by simpa using h3')))) (fun h3' => xdraw (xjoin (xget (h := ?_))))))
  have e3 : ¬ (t.kind < 1 ∨ t.kind > 4) := by simp at h3 h3'; omega
  have bad21 : (t.addr < 0 ∨ t.addr > 65536 - t.width) → 21 = tagE t := fun h => by unfold tagE; rw [if_neg e1, if_neg e2, if_neg e3, if_pos h]
  refine xif (fun h4 => xift rfl (fin (bad21 (.inl (by simpa using h4))))) (fun h4 => ?_)
  iterate 20 (refine xget (h := ?_))
  refine xcall0 (Width_spec t) rdb ?_
  rintro ⟨x, _⟩ _ ⟨hx, rfl⟩
  simp only at hx; subst hx
  refine app0 (ca1 (xchk (h := ?_)))
  rw [wrap_id _ (by omega) (by omega)]
  refine xif (fun h4' => fin (bad21 (.inr (by simpa using h4')))) (fun h4' => xget (h := xjoin ?_))
  have e4 : ¬ (t.addr < 0 ∨ t.addr > 65536 - t.width) := by simp at h4 h4'; omega
  have bad3 : (t.every < 1 ∨ t.every > 1048576) → 3 = tagE t := fun h => by unfold tagE; rw [if_neg e1, if_neg e2, if_neg e3, if_neg e4, if_pos h]
  refine xif (fun h5 => xift rfl (fin (bad3 (.inl (by simpa using h5))))) (fun h5 => xget (h := xif (fun h5' => fin (bad3 (.inr (by simpa using h5')))) (fun h5' => ?_)))
  have e5 : ¬ (t.every < 1 ∨ t.every > 1048576) := by simp at h5 h5'; omega
  iterate 6 (refine xget (h := ?_))
  refine xcall0 (scaleCheck_spec _ _ _ _ _ _) rdb ?_
  rintro ⟨x, _⟩ _ ⟨hx, rfl⟩
  simp only at hx; subst hx
  refine app0 (ca1 (xif (fun h6 => fin ?_) (fun h6 => ?_)))
  · have h6 : scaleE t.wide t.swap t.mul t.div t.add ≠ 0 := by simpa using h6
    unfold tagE; rw [if_neg e1, if_neg e2, if_neg e3, if_neg e4, if_neg e5, if_pos h6]
  have e6 : ¬ scaleE t.wide t.swap t.mul t.div t.add ≠ 0 := by simpa using h6
  have rest : ∀ {As : List HP}, OwnT b t As → ¬ (t.kind ≤ 2 ∧ ¬ (t.wide = false ∧ t.sgn = false ∧ t.swap = false ∧ t.mul = 1 ∧ t.div = 1 ∧ t.add = 0)) → Ent B As
      (XGet (.int .i64) ⟨b, 11, none⟩ fun (n27 : Int) => XGet (.int .i64) ⟨b, 12, none⟩ fun (n28 : Int) => XCall Pr F_band_Check [.agg #[.int .i64 n27, .int .i64 n28]] .one [.int .i64] <| fun (r2 : Int) => XIf (r2 != 0) (Ret B (ss := [.int .i64]) (fun r Bs => r.1 = tagE t ∧ Bs = []) (r2, ())) (XGet .bool ⟨b, 13, none⟩ fun (c18 : Bool) => XGet .bool ⟨b, 14, none⟩ fun (c19 : Bool) => XGet .bool ⟨b, 15, none⟩ fun (c20 : Bool) => XGet (.int .i64) ⟨b, 16, none⟩ fun (n29 : Int) => XGet (.int .i64) ⟨b, 17, none⟩ fun (n30 : Int) => XGet (.int .i64) ⟨b, 18, none⟩ fun (n31 : Int) => XCall Pr F_alarm_Check [.agg #[.bool c18, .bool c19, .bool c20, .int .i64 n29, .int .i64 n30, .int .i64 n31]] .one [.int .i64] <| fun (r3 : Int) => (Ret B (ss := [.int .i64]) (fun r Bs => r.1 = tagE t ∧ Bs = []) (r3, ())))) := by
    rintro As rfl e7
    iterate 2 (refine xget (h := ?_))
    refine xcall0 (bandCheck_spec _ _) rdb ?_
    rintro ⟨x, _⟩ _ ⟨hx, rfl⟩
    simp only at hx; subst hx
    refine app0 (ca1 (xif (fun h8 => fin ?_) (fun h8 => ?_)))
    · have h8 : bandE t.dead t.quiet ≠ 0 := by simpa using h8
      unfold tagE; rw [if_neg e1, if_neg e2, if_neg e3, if_neg e4, if_neg e5, if_neg e6, if_neg e7, if_pos h8]
    have e8 : ¬ bandE t.dead t.quiet ≠ 0 := by simpa using h8
    iterate 6 (refine xget (h := ?_))
    refine xcall0 (limCheck_spec _ _ _ _ _ _) rdb ?_
    rintro ⟨x, _⟩ _ ⟨hx, rfl⟩
    simp only at hx; subst hx
    refine app0 (ca1 (fin ?_))
    unfold tagE; rw [if_neg e1, if_neg e2, if_neg e3, if_neg e4, if_neg e5, if_neg e6, if_neg e7, if_neg e8]
  refine xget (h := xjoin (xif (fun h7 => ?_) (fun h7 => xiff rfl (rest rfl fun h => ?_))))
  · iterate 6 (refine xget (h := ?_))
    refine xif (fun h7' => fin ?_) (fun h7' => rest rfl fun h => ?_)
    · have e7 : t.kind ≤ 2 ∧ ¬ (t.wide = false ∧ t.sgn = false ∧ t.swap = false ∧ t.mul = 1 ∧ t.div = 1 ∧ t.add = 0) := by
        refine ⟨by simpa using h7, ?_⟩
        rintro ⟨q1, q2, q3, q4, q5, q6⟩
        rw [q1, q2, q3, q4, q5, q6] at h7'
        cases h7'
      unfold tagE; rw [if_neg e1, if_neg e2, if_neg e3, if_neg e4, if_neg e5, if_neg e6, if_pos e7]
    · refine h.2 ?_
      simpa [Bool.and_eq_true, beq_iff_eq] using h7'
  · simp at h7; omega

theorem CheckRef_spec (t : Tag) : Ct Pr F_ref09_Check [t.v] .one [.int .i64] [] emp (fun r Bs => r.1 = tagE t ∧ Bs = []) := by
  refine spec1 c_ref09_Check fun B _ => ?_
  have fin : ∀ {x : Int} {As : List HP}, x = tagE t → Ent B As (Ret B (ss := [.int .i64]) (fun r Bs => r.1 = tagE t ∧ Bs = []) (x, ())) := fun h => xkeep (l := []) (xret ⟨h, rfl⟩)
  have hw := width_or t
  unfold ref09_Check
  refine xnew fun b => xget (h := ?_)
  refine xcall0 (NameRef_spec _) rdb ?_
  rintro ⟨x, _⟩ _ ⟨hx, rfl⟩
  simp only at hx; subst hx
  refine app0 (ca1 (xif (fun h1 => fin ?_) (fun h1 => xget (h := xjoin ?_))))
  · unfold tagE; rw [if_pos (by simpa using h1)]
  have e1 : ¬ nameOk t.name = false := by simpa using h1
  have bad24 : (t.unit < 1 ∨ t.unit > 247) → 24 = tagE t := fun h => by unfold tagE; rw [if_neg e1, if_pos h]
  refine xif (fun h2 => xift rfl (fin (bad24 (.inl (by simpa using h2))))) (fun h2 => xget (h := xif (fun h2' => fin (bad24 (.inr (by simpa using h2')))) (fun h2' => xget (h := xjoin ?_))))
  have e2 : ¬ (t.unit < 1 ∨ t.unit > 247) := by simp at h2 h2'; omega
  have bad28 : (t.kind < 1 ∨ t.kind > 4) → 28 = tagE t := fun h => by unfold tagE; rw [if_neg e1, if_neg e2, if_pos h]
  refine xif (fun h3 => xift rfl (fin (bad28 (.inl (by simpa using h3))))) (fun h3 => xget (h := xif (fun h3' => fin (bad28 (.inr (by simpa using h3')))) (fun h3' => xdraw (xjoin (xget (h := ?_))))))
  have e3 : ¬ (t.kind < 1 ∨ t.kind > 4) := by simp at h3 h3'; omega
  have bad21 : (t.addr < 0 ∨ t.addr > 65536 - t.width) → 21 = tagE t := fun h => by unfold tagE; rw [if_neg e1, if_neg e2, if_neg e3, if_pos h]
  refine xif (fun h4 => xift rfl (fin (bad21 (.inl (by simpa using h4))))) (fun h4 => ?_)
  iterate 20 (refine xget (h := ?_))
  refine xcall0 (WidthRef_spec t) rdb ?_
  rintro ⟨x, _⟩ _ ⟨hx, rfl⟩
  simp only at hx; subst hx
  refine app0 (ca1 (xchk (h := ?_)))
  rw [wrap_id _ (by omega) (by omega)]
  refine xif (fun h4' => fin (bad21 (.inr (by simpa using h4')))) (fun h4' => xget (h := xjoin ?_))
  have e4 : ¬ (t.addr < 0 ∨ t.addr > 65536 - t.width) := by simp at h4 h4'; omega
  have bad3 : (t.every < 1 ∨ t.every > 1048576) → 3 = tagE t := fun h => by unfold tagE; rw [if_neg e1, if_neg e2, if_neg e3, if_neg e4, if_pos h]
  refine xif (fun h5 => xift rfl (fin (bad3 (.inl (by simpa using h5))))) (fun h5 => xget (h := xif (fun h5' => fin (bad3 (.inr (by simpa using h5')))) (fun h5' => ?_)))
  have e5 : ¬ (t.every < 1 ∨ t.every > 1048576) := by simp at h5 h5'; omega
  iterate 6 (refine xget (h := ?_))
  refine xcall0 (scaleRef_spec _ _ _ _ _ _) rdb ?_
  rintro ⟨x, _⟩ _ ⟨hx, rfl⟩
  simp only at hx; subst hx
  refine app0 (ca1 (xif (fun h6 => fin ?_) (fun h6 => ?_)))
  · have h6 : scaleE t.wide t.swap t.mul t.div t.add ≠ 0 := by simpa using h6
    unfold tagE; rw [if_neg e1, if_neg e2, if_neg e3, if_neg e4, if_neg e5, if_pos h6]
  have e6 : ¬ scaleE t.wide t.swap t.mul t.div t.add ≠ 0 := by simpa using h6
  have rest : ∀ {As : List HP}, OwnT b t As → ¬ (t.kind ≤ 2 ∧ ¬ (t.wide = false ∧ t.sgn = false ∧ t.swap = false ∧ t.mul = 1 ∧ t.div = 1 ∧ t.add = 0)) → Ent B As
      (XGet (.int .i64) ⟨b, 11, none⟩ fun (n27 : Int) => XGet (.int .i64) ⟨b, 12, none⟩ fun (n28 : Int) => XCall Pr F_ref07_Check [.agg #[.int .i64 n27, .int .i64 n28]] .one [.int .i64] <| fun (r2 : Int) => XIf (r2 != 0) (Ret B (ss := [.int .i64]) (fun r Bs => r.1 = tagE t ∧ Bs = []) (r2, ())) (XGet .bool ⟨b, 13, none⟩ fun (c18 : Bool) => XGet .bool ⟨b, 14, none⟩ fun (c19 : Bool) => XGet .bool ⟨b, 15, none⟩ fun (c20 : Bool) => XGet (.int .i64) ⟨b, 16, none⟩ fun (n29 : Int) => XGet (.int .i64) ⟨b, 17, none⟩ fun (n30 : Int) => XGet (.int .i64) ⟨b, 18, none⟩ fun (n31 : Int) => XCall Pr F_ref08_Check [.agg #[.bool c18, .bool c19, .bool c20, .int .i64 n29, .int .i64 n30, .int .i64 n31]] .one [.int .i64] <| fun (r3 : Int) => (Ret B (ss := [.int .i64]) (fun r Bs => r.1 = tagE t ∧ Bs = []) (r3, ())))) := by
    rintro As rfl e7
    iterate 2 (refine xget (h := ?_))
    refine xcall0 (bandRef_spec _ _) rdb ?_
    rintro ⟨x, _⟩ _ ⟨hx, rfl⟩
    simp only at hx; subst hx
    refine app0 (ca1 (xif (fun h8 => fin ?_) (fun h8 => ?_)))
    · have h8 : bandE t.dead t.quiet ≠ 0 := by simpa using h8
      unfold tagE; rw [if_neg e1, if_neg e2, if_neg e3, if_neg e4, if_neg e5, if_neg e6, if_neg e7, if_pos h8]
    have e8 : ¬ bandE t.dead t.quiet ≠ 0 := by simpa using h8
    iterate 6 (refine xget (h := ?_))
    refine xcall0 (limRef_spec _ _ _ _ _ _) rdb ?_
    rintro ⟨x, _⟩ _ ⟨hx, rfl⟩
    simp only at hx; subst hx
    refine app0 (ca1 (fin ?_))
    unfold tagE; rw [if_neg e1, if_neg e2, if_neg e3, if_neg e4, if_neg e5, if_neg e6, if_neg e7, if_neg e8]
  refine xget (h := xjoin (xif (fun h7 => ?_) (fun h7 => xiff rfl (rest rfl fun h => ?_))))
  · iterate 6 (refine xget (h := ?_))
    refine xif (fun h7' => fin ?_) (fun h7' => rest rfl fun h => ?_)
    · have e7 : t.kind ≤ 2 ∧ ¬ (t.wide = false ∧ t.sgn = false ∧ t.swap = false ∧ t.mul = 1 ∧ t.div = 1 ∧ t.add = 0) := by
        refine ⟨by simpa using h7, ?_⟩
        rintro ⟨q1, q2, q3, q4, q5, q6⟩
        rw [q1, q2, q3, q4, q5, q6] at h7'
        cases h7'
      unfold tagE; rw [if_neg e1, if_neg e2, if_neg e3, if_neg e4, if_neg e5, if_neg e6, if_pos e7]
    · refine h.2 ?_
      simpa [Bool.and_eq_true, beq_iff_eq] using h7'
  · simp at h7; omega
end Go.Cx

namespace Go.Cx
open Go Go.Cf
set_option linter.unusedVariables false
variable {B : Base} {As : List HP}

def badAt (ts : List Tag) (i : Nat) : Int := match ts[i]? with
  | none => 0
  | some t => if tagE t ≠ 0 then tagE t else match i with
    | 0 => 0
    | k + 1 => match ts[k]? with
      | none => 0
      | some u => if (t.name.toList == u.name.toList) = true then 7 else if Op.bytesLess t.name.toList u.name.toList = true then 29 else 0
def allGo (ts : List Tag) : Nat → Nat → Int × Int
  | 0, _ => (0, 0)
  | n + 1, i => if badAt ts i ≠ 0 then (badAt ts i, (i : Int)) else allGo ts n (i + 1)
def allE (ts : List Tag) : Int × Int := if ts.length > 64 then (34, 0) else allGo ts ts.length 0

theorem allGo_ok {ts : List Tag} : ∀ (n i : Nat), (allGo ts n i).1 = 0 → ∀ k, i ≤ k → k < i + n → badAt ts k = 0 := by
  intro n
  induction n with
  | zero => intro i _ k h1 h2; omega
  | succ n ih =>
    intro i h k h1 h2
    unfold allGo at h
    split at h
    · rename_i hb; exact absurd h hb
    · rename_i hb
      by_cases e : k = i
      · subst e; simpa using hb
      · exact ih (i + 1) h k (by omega) (by omega)

theorem allE_len {ts : List Tag} (h : (allE ts).1 = 0) : ts.length ≤ 64 := by
  unfold allE at h
  split at h
  · cases h
  · omega

theorem allE_tag {ts : List Tag} (h : (allE ts).1 = 0) {k : Nat} {t : Tag} (ht : ts[k]? = some t) : tagE t = 0 := by
  have hl := allE_len h
  unfold allE at h
  rw [if_neg (by omega)] at h
  have := allGo_ok _ _ h k (by omega) (by have := (List.getElem?_eq_some_iff.1 ht).1; omega)
  unfold badAt at this
  rw [ht] at this
  simp only at this
  split at this
  · rename_i h0; exact absurd this h0
  · rename_i h0; simpa using h0

theorem allGo_snd {ts : List Tag} : ∀ (n i : Nat), (allGo ts n i).1 = 0 → (allGo ts n i).2 = 0 := by
  intro n
  induction n with
  | zero => intro i _; rfl
  | succ n ih =>
    intro i h
    unfold allGo at h ⊢
    split at h
    · rename_i hb; exact absurd h hb
    · rename_i hb; rw [if_neg hb]; exact ih _ h

theorem less_nil (x : List UInt8) : Op.bytesLess x [] = false := by cases x <;> rfl
def lastN (ts : List Tag) (k : Nat) : ByteArray := match k with
  | 0 => ByteArray.empty
  | j + 1 => match ts[j]? with
    | some u => u.name
    | none => ByteArray.empty

theorem CheckAll_spec (l : Sl) (ts : List Tag) : Ct Pr F_tags_CheckAll [l.v] (.tup [none, none]) [.int .i64, .int .i64] [] (RAr TG l ts) (fun r Bs => r.1 = (allE ts).1 ∧ r.2.1 = (allE ts).2 ∧ Bs = []) := by
  refine spec2 c_tags_CheckAll fun B hr => ?_
  haveI : Fro B l TG ts := ⟨hr⟩
  have hn := hr.1
  have fin : ∀ {x y : Int} {As : List HP}, (x, y) = allE ts → Ent B As (Ret B (ss := [.int .i64, .int .i64]) (fun r Bs => r.1 = (allE ts).1 ∧ r.2.1 = (allE ts).2 ∧ Bs = []) (x, y, ())) := fun h => xkeep (l := []) (xret ⟨by rw [← h], by rw [← h], rfl⟩)
  unfold tags_CheckAll
  refine xif_dec (fun h64 => fin ?_) (fun h64 => ?_)
  · unfold allE; rw [if_pos (by omega)]
  have hl : ts.length ≤ 64 := by omega
  have he : allE ts = allGo ts ts.length 0 := by unfold allE; rw [if_neg (by omega)]
  refine xloop2 (fun n (last : ByteArray) (x : Int) As' => ∃ k : Nat, x = (k : Int) ∧ n = ts.length - k ∧ k ≤ ts.length ∧ last = lastN ts k ∧ allE ts = allGo ts (ts.length - k) k) ts.length ⟨0, rfl, by omega, by omega, rfl, he⟩ ?_
  rintro n last x As' K ⟨k, rfl, rfl, hk, rfl, hg⟩ hK
  refine xif_dec (fun hp => ?_) (fun hp => fin ?_)
  · have hp : k < ts.length := by omega
    refine xidxn (h1 := hp) (h := fun t ht => ?_)
    refine xgetE ht (h := ?_)
    iterate 18 (refine xgetEj ht (h := ?_))
    refine xnew fun b => ?_
    iterate 19 (refine xset (h := ?_))
    iterate 19 (refine xget (h := ?_))
    refine xcall0 (Check_spec t) rdb ?_
    rintro ⟨x, _⟩ _ ⟨hx, rfl⟩
    simp only at hx; subst hx
    have hg' : allE ts = if badAt ts k ≠ 0 then (badAt ts k, (k : Int)) else allGo ts (ts.length - (k + 1)) (k + 1) := by
      rw [hg, show ts.length - k = (ts.length - (k + 1)) + 1 by omega]; rfl
    refine app0 (ca1 (xif (fun h0 => fin ?_) (fun h0 => ?_)))
    · have h0 : tagE t ≠ 0 := by simpa using h0
      have hb : badAt ts k = tagE t := by unfold badAt; rw [ht]; simp only; rw [if_pos h0]
      rw [hg', hb, if_pos h0]
    have h0 : tagE t = 0 := by simpa using h0
    have next : badAt ts k = 0 → ∀ As'', Ent B As'' (K t.name (IntKind.i64.wrap ((k : Int) + 1))) := fun hb As'' => by
      rw [wrap_succ k (by omega)]
      refine hK (ts.length - (k + 1)) _ _ _ (by omega) ⟨k + 1, rfl, rfl, by omega, ?_, ?_⟩
      · simp only [lastN, ht]
      · rw [hg', if_neg (by simp [hb])]
    refine xjoin (xif (fun h1 => xget (h := xif (fun h2 => fin ?_) (fun h2 => xget (h := xif (fun h3 => fin ?_) (fun h3 => xget (h := next ?_ _)))))) (fun h1 => xiff rfl (xget (h := xif (fun h3 => ?_) (fun h3 => xget (h := next ?_ _))))))
    · cases k with
      | zero => simp at h1
      | succ j =>
        obtain ⟨u, hu⟩ : ∃ u, ts[j]? = some u := ⟨_, List.getElem?_eq_getElem (by omega)⟩
        simp only [lastN, hu] at h2
        have hb : badAt ts (j + 1) = 7 := by simp only [badAt, ht, hu, h0, h2, ne_eq, not_true_eq_false, if_true, if_false]
        rw [hg', hb]; rfl
    · cases k with
      | zero => simp at h1
      | succ j =>
        obtain ⟨u, hu⟩ : ∃ u, ts[j]? = some u := ⟨_, List.getElem?_eq_getElem (by omega)⟩
        simp only [lastN, hu] at h2 h3
        have hb : badAt ts (j + 1) = 29 := by simp only [badAt, ht, hu, h0, h2, h3, ne_eq, not_true_eq_false, if_true, if_false, Bool.false_eq_true]
        rw [hg', hb]; rfl
    · cases k with
      | zero => simp at h1
      | succ j =>
        obtain ⟨u, hu⟩ : ∃ u, ts[j]? = some u := ⟨_, List.getElem?_eq_getElem (by omega)⟩
        simp only [lastN, hu] at h2 h3
        simp only [badAt, ht, hu, h0, h2, h3, ne_eq, not_true_eq_false, if_false, Bool.false_eq_true]
    · obtain rfl : k = 0 := by simp at h1; omega
      simp only [lastN, empty_list, less_nil] at h3
      cases h3
    · obtain rfl : k = 0 := by simp at h1; omega
      simp only [badAt, ht, h0, ne_eq, not_true_eq_false, if_false]
  · have : k = ts.length := by omega
    subst this
    rw [hg, Nat.sub_self]; rfl

theorem CheckAllRef_spec (l : Sl) (ts : List Tag) : Ct Pr F_ref09_CheckAll [l.v] (.tup [none, none]) [.int .i64, .int .i64] [] (RAr TG l ts) (fun r Bs => r.1 = (allE ts).1 ∧ r.2.1 = (allE ts).2 ∧ Bs = []) := by
  refine spec2 c_ref09_CheckAll fun B hr => ?_
  haveI : Fro B l TG ts := ⟨hr⟩
  have hn := hr.1
  have fin : ∀ {x y : Int} {As : List HP}, (x, y) = allE ts → Ent B As (Ret B (ss := [.int .i64, .int .i64]) (fun r Bs => r.1 = (allE ts).1 ∧ r.2.1 = (allE ts).2 ∧ Bs = []) (x, y, ())) := fun h => xkeep (l := []) (xret ⟨by rw [← h], by rw [← h], rfl⟩)
  unfold ref09_CheckAll
  refine xif_dec (fun h64 => fin ?_) (fun h64 => ?_)
  · unfold allE; rw [if_pos (by omega)]
  have hl : ts.length ≤ 64 := by omega
  have he : allE ts = allGo ts ts.length 0 := by unfold allE; rw [if_neg (by omega)]
  refine xloop1 (fun n (x : Int) As' => ∃ k : Nat, x = (k : Int) ∧ n = ts.length - k ∧ k ≤ ts.length ∧ As' = [] ∧ allE ts = allGo ts (ts.length - k) k) ts.length ⟨0, rfl, by omega, by omega, rfl, he⟩ ?_
  rintro n x As' K ⟨k, rfl, rfl, hk, rfl, hg⟩ hK
  refine xif_dec (fun hp => ?_) (fun hp => fin ?_)
  · have hp : k < ts.length := by omega
    refine xidxn (h1 := hp) (h := fun t ht => ?_)
    refine xgetE ht (h := ?_)
    iterate 18 (refine xgetEj ht (h := ?_))
    refine xcall0 (CheckRef_spec t) rdb ?_
    rintro ⟨x, _⟩ _ ⟨hx, rfl⟩
    simp only at hx; subst hx
    have hg' : allE ts = if badAt ts k ≠ 0 then (badAt ts k, (k : Int)) else allGo ts (ts.length - (k + 1)) (k + 1) := by
      rw [hg, show ts.length - k = (ts.length - (k + 1)) + 1 by omega]; rfl
    refine app0 (ca1 (xif (fun h0 => fin ?_) (fun h0 => ?_)))
    · have h0 : tagE t ≠ 0 := by simpa using h0
      have hb : badAt ts k = tagE t := by unfold badAt; rw [ht]; simp only; rw [if_pos h0]
      rw [hg', hb, if_pos h0]
    have h0 : tagE t = 0 := by simpa using h0
    have next : badAt ts k = 0 → Ent B [] (K (IntKind.i64.wrap ((k : Int) + 1))) := fun hb => by
      rw [wrap_succ k (by omega)]
      refine hK (ts.length - (k + 1)) _ _ (by omega) ⟨k + 1, rfl, rfl, by omega, rfl, ?_⟩
      rw [hg', if_neg (by simp [hb])]
    cases k with
    | zero =>
      refine xdraw (xjoin (xiff (by simp) (xiff rfl (xdraw (xjoin (xiff (by simp) (xiff rfl (next ?_))))))))
      simp only [badAt, ht, h0, ne_eq, not_true_eq_false, if_false]
    | succ j =>
      obtain ⟨u, hu⟩ : ∃ u, ts[j]? = some u := ⟨_, List.getElem?_eq_getElem (by omega)⟩
      have hj : IntKind.i64.wrap (((j + 1 : Nat) : Int) - 1) = ((j : Nat) : Int) := by rw [wrap_id _ (by omega) (by omega)]; omega
      refine xdraw (xjoin (xift (by simp) ?_))
      refine xidxn (h1 := hp) (h := fun t' ht' => ?_)
      obtain rfl : t = t' := by rw [ht] at ht'; cases ht'; rfl
      refine xgetE ht (h := ?_)
      rw [hj]
      refine xidxn (h1 := by omega) (h := fun u' hu' => ?_)
      obtain rfl : u = u' := by rw [hu] at hu'; cases hu'; rfl
      refine xgetE hu (h := xif (fun h2 => fin ?_) (fun h2 => xdraw (xjoin (xift (by simp) ?_))))
      · have hb : badAt ts (j + 1) = 7 := by simp only [badAt, ht, hu, h0, h2, ne_eq, not_true_eq_false, if_true, if_false]
        rw [hg', hb]; rfl
      refine xidxn (h1 := hp) (h := fun t' ht' => ?_)
      obtain rfl : t = t' := by rw [ht] at ht'; cases ht'; rfl
      refine xgetE ht (h := ?_)
      refine xidxn (h1 := by omega) (h := fun u' hu' => ?_)
      obtain rfl : u = u' := by rw [hu] at hu'; cases hu'; rfl
      refine xgetE hu (h := xif (fun h3 => fin ?_) (fun h3 => next ?_))
      · have hb : badAt ts (j + 1) = 29 := by simp only [badAt, ht, hu, h0, h2, h3, ne_eq, not_true_eq_false, if_true, if_false, Bool.false_eq_true]
        rw [hg', hb]; rfl
      · simp only [badAt, ht, hu, h0, h2, h3, ne_eq, not_true_eq_false, if_false, Bool.false_eq_true]
  · have : k = ts.length := by omega
    subst this
    rw [hg, Nat.sub_self]; rfl

end Go.Cx

namespace Go.Cx
open Go Go.Cf
set_option linter.unusedVariables false
variable {B : Base} {As : List HP}

theorem ba_beq (x : ByteArray) : (x == x) = true := by
  obtain ⟨d⟩ := x
  exact beq_self_eq_true d
theorem set_self {α : Type} {xs : List α} {k : Nat} {x : α} (h : xs[k]? = some x) : xs.set k x = xs := by
  obtain ⟨h1, h2⟩ := List.getElem?_eq_some_iff.1 h
  rw [← h2]; exact List.set_getElem_self h1
abbrev markT : Tag := ⟨⟨#[97, 32, 109, 97, 114, 107]⟩, 0, 0, 0, 0, false, false, false, 0, 0, 0, 0, 0, false, false, false, 0, 0, 0⟩

theorem SameTags_spec (a b : Sl) (xs : List Tag) (hb : xs.length ≤ 1099511627776) : Ct Pr F_kit_SameTags [a.v, b.v] .one [.bool] [] ((RAr TG a xs).and (RAr TG b xs)) (fun t Bs => t.1 = true ∧ Bs = []) := by
  refine spec1 c_kit_SameTags fun B hr => ?_
  haveI : Fro B a TG xs := ⟨hr.1⟩
  have h1 := hr.1.1
  have h2 := hr.2.1
  unfold kit_SameTags
  refine xiff (by rw [← h1, ← h2]; simp) ?_
  refine xloop1 (fun n (x : Int) As' => ∃ k : Nat, x = (k : Int) ∧ n = xs.length - k ∧ k ≤ xs.length ∧ As' = []) xs.length ⟨0, rfl, by omega, by omega, rfl⟩ ?_
  rintro n x As' K ⟨k, rfl, rfl, hk, rfl⟩ hK
  refine xif_dec (fun hp => xdraw ?_) (fun hp => xret ⟨rfl, rfl⟩)
  refine xidxn (h1 := by omega) (h := fun x hx => ?_)
  refine xgetE hx (h := ?_)
  iterate 18 (refine xgetEj hx (h := ?_))
  haveI : Fro B b TG xs := ⟨hr.2⟩
  refine xidxn (h1 := by omega) (h := fun y hy => ?_)
  obtain rfl : x = y := by rw [hx] at hy; cases hy; rfl
  refine xgetE hx (h := ?_)
  iterate 18 (refine xgetEj hx (h := ?_))
  refine xiff (by simp [ba_beq]) ?_
  rw [wrap_succ k (by omega)]
  exact hK _ _ _ (by omega) ⟨k + 1, rfl, rfl, by omega, rfl⟩

end Go.Cx
