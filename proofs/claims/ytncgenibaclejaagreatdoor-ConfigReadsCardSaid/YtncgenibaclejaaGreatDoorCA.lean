/-
  Configurations: the model of the text; numbers; what is wrong with one: by both programs.
-/
import Derived.Test.YtncgenibaclejaaGreatDoorTA
import Derived.Test.YtncgenibaclejaaGreatDoorSM
import Derived.Test.YtncgenibaclejaaGreatDoorCgA
import Derived.Test.YtncgenibaclejaaGreatDoorCfY
namespace Go.Cf
open Go
variable {B : Base} {As : List HP}

end Go.Cf

namespace Go.Cx
open Go Go.Cf
set_option linter.unusedVariables false
set_option maxRecDepth 100000
variable {B : Base} {As F : List HP}

/-! Bytes. -/
/-! Numbers. -/
theorem Number_spec (v : Int) (h0 : -9223372036854775808 ≤ v) (h1 : v ≤ 9223372036854775807) : Ct Pr F_ref27_Number [.int .i64 v] .one [.str] [] emp (fun t Bs => t.1 = BA (Lib.itoa v) ∧ Bs = []) := by
  refine spec1 c_ref27_Number fun B hr => ?_
  unfold ref27_Number
  refine xif (fun h => ?_) (fun h => ?_)
  · have h : v = 0 := by simpa using h
    subst h
    exact xret ⟨by rw [show Lib.itoa 0 = Lib.decDigits 0 from rfl, dec_small (by decide)]; rfl, rfl⟩
  have hv : v ≠ 0 := by simpa using h
  obtain ⟨u, hu⟩ : ∃ u : Nat, u = v.natAbs := ⟨_, rfl⟩
  have hl := dec_len 19 u (by rw [hu]; simp; omega)
  refine xjoin1 (fun (r : Int) As' => As' = [] ∧ r = (u : Int)) (fun K hK => ?_) ?_
  · have w1 : IntKind.u64.wrap v = if v < 0 then 18446744073709551616 + v else v := by
      unfold IntKind.wrap
      simp [IntKind.bits, IntKind.signed]
      split <;> omega
    refine xif_dec (fun h => hK _ _ ⟨rfl, ?_⟩) (fun h => hK _ _ ⟨rfl, ?_⟩)
    · rw [w1, if_pos h]
      unfold IntKind.wrap
      simp [IntKind.bits, IntKind.signed]
      omega
    · rw [w1, if_neg h]; omega
  rintro r As2 ⟨rfl, rfl⟩
  refine xloop2 (fun m (s : ByteArray) (x : Int) As' => ∃ (k : Nat) (l : List UInt8), x = (k : Int) ∧ m = k ∧ s = BA l ∧ k ≤ u ∧ ((k = 0 ∧ l = Lib.decDigits u) ∨ (0 < k ∧ Lib.decDigits u = Lib.decDigits k ++ l)) ∧ As' = []) u ⟨u, [], rfl, rfl, rfl, Nat.le_refl _, .inr ⟨by omega, by simp⟩, rfl⟩ ?_
  rintro m s x As' K ⟨k, l, rfl, rfl, rfl, hk, hor, rfl⟩ hK
  have hll : l.length ≤ 20 := by
    rcases hor with ⟨_, h⟩ | ⟨_, h⟩
    · rw [h]; omega
    · have := congrArg List.length h
      rw [List.length_append] at this; omega
  refine xif_dec (fun hp => ?_) (fun hp => ?_)
  · have hp : 0 < m := by omega
    have ht : ((m : Int)).tmod 10 = ((m % 10 : Nat) : Int) := by simp [Int.tmod_eq_emod_of_nonneg]
    have hd : ((m : Int)).tdiv 10 = ((m / 10 : Nat) : Int) := by simp [Int.tdiv_eq_ediv_of_nonneg]
    rw [ht, hd]
    have w1 : IntKind.u64.wrap (48 + ((m % 10 : Nat) : Int)) = ((48 + m % 10 : Nat) : Int) := by
      unfold IntKind.wrap; simp [IntKind.bits, IntKind.signed] <;> omega
    have w2 : IntKind.u8.wrap ((48 + m % 10 : Nat) : Int) = ((UInt8.ofNat (48 + m % 10)).toNat : Int) := by
      unfold IntKind.wrap; simp [IntKind.bits, IntKind.signed] <;> omega
    have w3 : IntKind.u64.wrap ((m / 10 : Nat) : Int) = ((m / 10 : Nat) : Int) := by
      unfold IntKind.wrap; simp [IntKind.bits, IntKind.signed]
      have : u < 10 ^ 20 := by rw [hu]; simp; omega
      omega
    rw [w1, w2, w3]
    refine xasrt (by decide) (xnew fun b => ?_)
    refine xfold1 (Q := Ar U8 ⟨some ⟨b, 0, none⟩, 1, 1⟩ [UInt8.ofNat (48 + m % 10)]) 0 (fun g hg => ⟨[], blk_ar [UInt8.ofNat (48 + m % 10)] 1 rfl rfl hg⟩) ?_
    refine xstr (e := T_uint8) (s := ⟨some ⟨b, 0, none⟩, 1, 1⟩) (xs := [UInt8.ofNat (48 + m % 10)]) (by simp) (by kernel_rfl) (by kernel_rfl) (by kernel_rfl) ?_
    have e : (⟨[UInt8.ofNat (48 + m % 10)].toArray⟩ : ByteArray) = BA [UInt8.ofNat (48 + m % 10)] := rfl
    rw [e]
    refine xasrt (by rw [BA_size, BA_size]; simp; omega) (xasrt (by decide) ?_)
    rw [BA_app]
    refine xkeep (l := []) (hK (m / 10) _ _ _ (by omega) ⟨m / 10, _, rfl, rfl, rfl, by omega, ?_, rfl⟩)
    have hor : Lib.decDigits u = Lib.decDigits m ++ l := by
      rcases hor with ⟨h, _⟩ | ⟨_, h⟩
      · omega
      · exact h
    by_cases h10 : m < 10
    · refine .inl ⟨by omega, ?_⟩
      rw [hor, dec_small h10, Nat.mod_eq_of_lt h10]
    · refine .inr ⟨by omega, ?_⟩
      rw [hor, dec_big h10]; simp
  · have hm : m = 0 := by omega
    have hlu : l = Lib.decDigits u := by
      rcases hor with ⟨_, h⟩ | ⟨h, _⟩
      · exact h
      · omega
    refine xif_dec (fun h => xasrt (by rw [BA_size]; simp [ByteArray.size]; omega) (xret ⟨?_, rfl⟩)) (fun h => xret ⟨?_, rfl⟩)
    · rw [show (⟨#[45]⟩ : ByteArray) = BA [45] from rfl, BA_app]
      unfold Lib.itoa
      rw [if_pos h, hlu, hu]; rfl
    · unfold Lib.itoa
      rw [if_neg h, hlu, hu]
      have e : v.natAbs = v.toNat := by omega
      rw [e]

/-! Configurations. -/
structure Cfg where
  timeout : Int
  retries : Int
  window : Int
  resend : Int
  span : Int
  keep : Int
  tags : List Tag
abbrev Cfg.v (c : Cfg) (s : Sl) : Value := .agg #[.int .i64 c.timeout, .int .i64 c.retries, .int .i64 c.window, .int .i64 c.resend, .int .i64 c.span, .int .i64 c.keep, s.v]
abbrev Cfg.cs (c : Cfg) (s : Sl) : List Value := [.int .i64 c.timeout, .int .i64 c.retries, .int .i64 c.window, .int .i64 c.resend, .int .i64 c.span, .int .i64 c.keep, s.v]
def ownB (c : Cfg) : Bool := decide (1 ≤ c.timeout ∧ c.timeout ≤ 1048576 ∧ 0 ≤ c.retries ∧ c.retries ≤ 5 ∧ 1 ≤ c.window ∧ c.window ≤ 16 ∧ 1 ≤ c.resend ∧ c.resend ≤ 1048576 ∧ 1 ≤ c.span ∧ c.span ≤ 1048576 ∧ 1 ≤ c.keep ∧ c.keep ≤ 16)
def cfgE (c : Cfg) : Int := if ownB c = true then (allE c.tags).1 else 32

theorem in_spec (v a b : Int) : Ct Pr F_config_own_1 [.int .i64 v, .int .i64 a, .int .i64 b] .one [.bool] [] emp (fun t Bs => t.1 = (decide (a ≤ v) && decide (v ≤ b)) ∧ Bs = []) := by
  refine spec1 c_config_own_1 fun B hr => ?_
  unfold config_own_1
  exact xret ⟨rfl, rfl⟩
theorem between_spec (v a b : Int) : Ct Pr F_ref27_between [.int .i64 v, .int .i64 a, .int .i64 b] .one [.bool] [] emp (fun t Bs => t.1 = (decide (a ≤ v) && decide (v ≤ b)) ∧ Bs = []) := by
  refine spec1 c_ref27_between fun B hr => ?_
  unfold ref27_between
  repeat' (first | refine xjoin ?_ | refine xif_dec (fun h0 => ?_) (fun h0 => ?_))
  all_goals
    refine xret ⟨?_, rfl⟩
    simp_all

theorem own_spec (c : Cfg) (s : Sl) : Ct Pr F_config_own [c.v s] .one [.bool] [] emp (fun t Bs => t.1 = ownB c ∧ Bs = []) := by
  refine spec1 c_config_own fun B hr => ?_
  unfold config_own
  have call : ∀ {As : List HP} {K : Bool → WP} (v a b : Int), (∀ x : Bool, x = (decide (a ≤ v) && decide (v ≤ b)) → Ent B As (K x)) → Ent B As (XCall Pr F_config_own_1 [.int .i64 v, .int .i64 a, .int .i64 b] .one [.bool] K) := by
    intro As K v a b h
    refine xcall0 (in_spec v a b) rdb ?_
    rintro ⟨x, _⟩ _ ⟨hx, rfl⟩
    exact app0 (ca1 (h x hx))
  refine xnew fun b => ?_
  repeat' (first | refine xjoin ?_ | refine xget (h := ?_) | refine call _ _ _ fun x hx => ?_ | refine xift rfl ?_ | refine xiff rfl ?_ | refine xif (fun h0 => ?_) (fun h0 => ?_))
  all_goals
    refine xkeep (l := []) (xret ⟨?_, rfl⟩)
    unfold ownB
    rw [Bool.eq_iff_iff]
    simp_all <;> omega

theorem ownRef_spec (c : Cfg) (s : Sl) : Ct Pr F_ref27_own [c.v s] .one [.bool] [] emp (fun t Bs => t.1 = ownB c ∧ Bs = []) := by
  refine spec1 c_ref27_own fun B hr => ?_
  unfold ref27_own
  have call : ∀ {As : List HP} {K : Bool → WP} (v a b : Int), (∀ x : Bool, x = (decide (a ≤ v) && decide (v ≤ b)) → Ent B As (K x)) → Ent B As (XCall Pr F_ref27_between [.int .i64 v, .int .i64 a, .int .i64 b] .one [.bool] K) := by
    intro As K v a b h
    refine xcall0 (between_spec v a b) rdb ?_
    rintro ⟨x, _⟩ _ ⟨hx, rfl⟩
    exact app0 (ca1 (h x hx))
  refine xnew fun b => ?_
  repeat' (first | refine xjoin ?_ | refine xget (h := ?_) | refine call _ _ _ fun x hx => ?_ | refine xift rfl ?_ | refine xiff rfl ?_ | refine xif (fun h0 => ?_) (fun h0 => ?_))
  all_goals
    refine xkeep (l := []) (xret ⟨?_, rfl⟩)
    unfold ownB
    rw [Bool.eq_iff_iff]
    simp_all <;> omega

theorem Check27_spec (c : Cfg) (s : Sl) : Ct Pr F_config_Check [c.v s] .one [.int .i64] [] (RAr TG s c.tags) (fun t Bs => t.1 = cfgE c ∧ Bs = []) := by
  refine spec1 c_config_Check fun B hr => ?_
  haveI : Fro B s TG c.tags := ⟨hr⟩
  unfold config_Check
  refine xnew fun b => ?_
  iterate 7 (refine xget (h := ?_))
  refine xcall0 (own_spec c s) rdb ?_
  rintro ⟨x, _⟩ _ ⟨hx, rfl⟩
  obtain rfl : x = ownB c := hx
  refine app0 (ca1 (xif (fun h => xkeep (l := []) (xret ⟨?_, rfl⟩)) (fun h => xget (h := ?_))))
  · unfold cfgE; rw [if_neg (by simpa using h)]
  refine xcall0 (CheckAll_spec s c.tags) rdb ?_
  rintro ⟨e, at_, _⟩ _ ⟨he, hat, rfl⟩
  refine app0 (ca2 (xkeep (l := []) (xret ⟨?_, rfl⟩)))
  unfold cfgE; rw [if_pos (by simpa using h)]; exact he

end Go.Cx
