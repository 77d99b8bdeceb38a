/-
  Numbers of eight bytes, in both writings.
-/
import Derived.Test.YtbdmjjeigbhidaaCC
namespace Go.Cf
open Go
set_option linter.unusedVariables false
variable {B : Base} {As : List HP} {α : Type}
/-- A whole slice's head is written over. -/
theorem xcopyW {P : Program} {t u ty e : TypeId} {sz by_ : Nat} {z : List Value} [a : AppT P t e sz by_ z] {E : Enc α} {s y : Sl} {xs zs ys : List α} {F : List HP} {K : Int → WP}
    (hy : ∀ w, Sx B (Ars E s xs zs :: F) w → RAr E y ys (mem w)) (hsz : E.sz = sz := by rfl) (hl : ys.length ≤ xs.length) (hn : xs.length = s.n) (hc : s.n ≤ s.c)
    (h : ∀ n, Ent B (Ars E s (ys ++ xs.drop ys.length) zs :: F) (K n)) : Ent B (Ars E s xs zs :: F) (XCopy P t u ty s.v y.v K) := by
  have e : s.cut 0 s.n s.c sz = s := cut_zero s s.n sz
  have := xcopy (P := P) (t := t) (u := u) (ty := ty) (K := K) (s := s) (y := y) (l := 0) (r := s.n) (m := s.c) (sz := sz) (xs := xs) (zs := zs) (ys := ys) (F := F) (B := B) hy (ys ++ xs.drop ys.length) zs (hsz := hsz) (hrm := hc) (hlk := by omega) (hl := by simp; omega) (he := by
    have : min ys.length (s.n - 0) = ys.length := by omega
    rw [this, Nat.zero_add, List.take_zero, List.take_of_length_le (by omega), List.drop_append_of_le_length hl]; simp) (h := h)
  rw [e] at this
  exact this
end Go.Cf

namespace Go.Cx
open Go Go.Cf
set_option linter.unusedVariables false
variable {B : Base} {As : List HP}

def be8 (v : Nat) : List UInt8 := (List.range 8).map fun i => UInt8.ofNat (v / 256 ^ (7 - i))
theorem be8_len (v : Nat) : (be8 v).length = 8 := by simp [be8]
theorem be8_get (v : Nat) {i : Nat} (h : i < 8) : (be8 v)[i]? = some (UInt8.ofNat (v / 256 ^ (7 - i))) := by
  unfold be8
  rw [List.getElem?_map, List.getElem?_range h]; rfl
def beV (bs : List UInt8) : Nat := bs.foldl (fun v y => v * 256 + y.toNat) 0
theorem beV_snoc (bs : List UInt8) (y : UInt8) : beV (bs ++ [y]) = beV bs * 256 + y.toNat := by
  unfold beV
  rw [List.foldl_append]; rfl
theorem beV_lt : ∀ (n : Nat) (bs : List UInt8), bs.length = n → beV bs < 256 ^ n := by
  intro n
  induction n with
  | zero => intro bs h; have := List.eq_nil_of_length_eq_zero h; subst this; decide
  | succ n ih =>
    intro bs h
    have hne : bs ≠ [] := fun e => by subst e; simp at h
    have e := List.dropLast_concat_getLast hne
    have hl : bs.dropLast.length = n := by simp; omega
    have := ih _ hl
    have hy := u8_lt (bs.getLast hne)
    rw [← e, beV_snoc, Nat.pow_succ]
    omega

theorem pow_le (k : Nat) (h : k ≤ 7) : 256 ^ k ≤ 72057594037927936 := by
  have : (256 : Nat) ^ k ≤ 256 ^ 7 := Nat.pow_le_pow_right (by decide) h
  simpa using this

theorem shift_le : ∀ k : Nat, k < 8 → (2 : Int) ^ (min (Int.toNat (IntKind.i64.wrap (8 * (k : Int)))) 64) = ((256 ^ k : Nat) : Int) ∧ 0 ≤ IntKind.i64.wrap (8 * (k : Int)) := by decide

theorem packPut_spec (b : Sl) (xs : List UInt8) (v : Nat) (hv : v < 18446744073709551616) (hm : xs.length ≤ 1048576) : Ct Pr F_pack_Put [b.v, .int .u64 (v : Int), .int .i64 8] (.tup [none, none]) [.slice, .int .i64] [] (RAr U8 b xs)
    (fun t Bs => t.2.1 = 0 ∧ Bs = [Ar U8 t.1 (xs ++ be8 v)]) := by
  refine spec2 c_pack_Put fun B hr => ?_
  have fb : Fro B b U8 xs := ⟨hr⟩
  have hb := hr.1
  unfold pack_Put
  refine xjoin (xiff rfl (xjoin (xiff rfl (xiff rfl ?_))))
  rw [show IntKind.i64.wrap ((b.n : Int) + 8) = ((xs.length + 8 : Nat) : Int) by rw [wrap_id _ (by omega) (by omega)]; omega]
  refine xmake2 U8 (xs.length + 8) (xs.length + 8) (by omega) (by omega) (h := fun b1 => ?_)
  rw [Nat.sub_self]
  refine xcopyW (s := ⟨some ⟨b1, 0, none⟩, xs.length + 8, xs.length + 8⟩) (y := b) (ys := xs) (fun w hw => ?_) (hl := by simp) (hn := by simp) (hc := Nat.le_refl _) (h := fun n => ?_)
  · exact RdA.rd w hw
  refine xar ?_
  refine xloop1 (fun n i As => ∃ (k : Nat) (ys : List UInt8), i = (k : Int) ∧ n = 8 - k ∧ k ≤ 8 ∧ ys.length = xs.length + 8 ∧ (∀ j, j < xs.length → ys[j]? = xs[j]?) ∧ (∀ j, j < k → ys[xs.length + 7 - j]? = some (UInt8.ofNat (v / 256 ^ j))) ∧ As = [Ar U8 ⟨some ⟨b1, 0, none⟩, xs.length + 8, xs.length + 8⟩ ys]) 8 ⟨0, _, rfl, rfl, by omega, by simp, fun j hj => by rw [List.getElem?_append_left hj], fun j hj => by omega, rfl⟩ ?_
  rintro n _ _ K ⟨k, ys, rfl, rfl, hk, hl, h1, h2, rfl⟩ hK
  refine xif_dec (fun h => ?_) (fun h => ?_)
  · have hk8 : k < 8 := by omega
    obtain ⟨e1, e2⟩ := shift_le k hk8
    refine xasrt e2 ?_
    rw [e1, shr_eq v _ (256 ^ k) rfl, byte_of]
    have ei : IntKind.i64.wrap (IntKind.i64.wrap (((xs.length + 8 : Nat) : Int) - 1) - (k : Int)) = ((xs.length + 7 - k : Nat) : Int) := by
      rw [wrap_id (((xs.length + 8 : Nat) : Int) - 1) (by omega) (by omega), wrap_id _ (by omega) (by omega)]; omega
    rw [ei]
    have hy := List.getElem?_eq_getElem (l := ys) (i := xs.length + 7 - k) (by omega)
    refine xidxn (h1 := by omega) (h := fun _ _ => ?_)
    refine xsetE (UInt8.ofNat (v / 256 ^ k)) hy (hv := rfl) (h := ?_)
    rw [wrap_succ k (by omega)]
    refine hK (8 - (k + 1)) _ _ (by omega) ⟨k + 1, _, rfl, rfl, by omega, by simpa using hl, fun j hj => ?_, fun j hj => ?_, rfl⟩
    · rw [List.getElem?_set_ne (by omega)]; exact h1 j hj
    · rcases Nat.lt_or_ge j k with h3 | h3
      · rw [List.getElem?_set_ne (by omega)]; exact h2 j h3
      · obtain rfl : j = k := by omega
        rw [List.getElem?_set_self (by omega)]
  · have hk8 : k = 8 := by omega
    subst hk8
    have : ys = xs ++ be8 v := by
      refine eq_upto (by rw [List.length_append, be8_len, hl]) (fun j hj => ?_)
      rcases Nat.lt_or_ge j xs.length with h3 | h3
      · rw [h1 j h3, List.getElem?_append_left h3]
      · have h4 : j < xs.length + 8 := by rw [List.length_append, be8_len] at hj; exact hj
        have := h2 (xs.length + 7 - j) (by omega)
        rw [show xs.length + 7 - (xs.length + 7 - j) = j by omega] at this
        rw [this, List.getElem?_append_right h3, be8_get v (by omega), show 7 - (j - xs.length) = xs.length + 7 - j by omega]
    rw [this]
    exact xret ⟨rfl, rfl⟩

theorem rFits_spec (v : Nat) (hv : v < 18446744073709551616) : Ct Pr F_ref02_Fits [.int .u64 (v : Int), .int .i64 8] .one [.bool] [] emp (fun t Bs => t.1 = true ∧ Bs = []) := by
  refine spec1 c_ref02_Fits fun B _ => ?_
  unfold ref02_Fits
  refine xiff rfl ?_
  refine xloop2 (fun (n : Nat) (x : Int) (i : Int) As => ∃ k : Nat, i = (k : Int) ∧ x = ((v / 256 ^ k : Nat) : Int) ∧ n = 8 - k ∧ k ≤ 8 ∧ As = []) 8 ⟨0, rfl, by simp, rfl, by omega, rfl⟩ ?_
  rintro n _ _ _ K ⟨k, rfl, rfl, rfl, hk, rfl⟩ hK
  refine xif_dec (fun h => ?_) (fun h => ?_)
  · have e : IntKind.u64.wrap (((v / 256 ^ k : Nat) : Int).tdiv 256) = ((v / 256 ^ (k + 1) : Nat) : Int) := by
      have hle := Nat.div_le_self v (256 ^ k)
      have hle2 := Nat.div_le_self (v / 256 ^ k) 256
      rw [show (((v / 256 ^ k : Nat) : Int).tdiv 256) = ((v / 256 ^ k / 256 : Nat) : Int) from tdiv_eq _ 256, wrap_u64 _ (by omega), Nat.div_div_eq_div_mul, Nat.pow_succ]
    refine xasrt (by decide) ?_
    rw [e, wrap_succ k (by omega)]
    exact hK (8 - (k + 1)) _ _ _ (by omega) ⟨k + 1, rfl, rfl, rfl, by omega, rfl⟩
  · have hk8 : k = 8 := by omega
    subst hk8
    refine xret ⟨?_, rfl⟩
    have : v / 256 ^ 8 = 0 := Nat.div_eq_of_lt (by omega)
    show (((v / 256 ^ 8 : Nat) : Int) == 0) = true
    rw [this]; rfl

theorem rPut02_spec (b : Sl) (xs : List UInt8) (v : Nat) (hv : v < 18446744073709551616) (hm : xs.length ≤ 1048576) : Ct Pr F_ref02_Put [b.v, .int .u64 (v : Int), .int .i64 8] (.tup [none, none]) [.slice, .int .i64] [] (RAr U8 b xs)
    (fun t Bs => t.2.1 = 0 ∧ Bs = [Ar U8 t.1 (xs ++ be8 v)]) := by
  refine spec2 c_ref02_Put fun B hr => ?_
  have fb : Fro B b U8 xs := ⟨hr⟩
  have hb := hr.1
  unfold ref02_Put
  refine xcl (rFits_spec v hv) rdb ?_
  rintro ⟨c, _⟩ _ ⟨h, rfl⟩
  obtain rfl : c = true := h
  refine app0 (ca1 (xiff rfl (xnone U8 ?_)))
  refine xloop2 (fun n o i As => ∃ k : Nat, i = (k : Int) ∧ n = xs.length - k ∧ k ≤ xs.length ∧ As = [Ar U8 o (xs.take k)]) xs.length ⟨0, rfl, rfl, by omega, rfl⟩ ?_
  rintro n o _ _ K ⟨k, rfl, rfl, hk, rfl⟩ hK
  refine xif_dec (fun h => ?_) (fun h => ?_)
  · have hx := List.getElem?_eq_getElem (l := xs) (i := k) (by omega)
    refine xidxn (h1 := by omega) (h := fun _ _ => ?_)
    refine xgetE hx (h := xnew fun b1 => ?_)
    refine xapp1 xs[k] (hb := by simp; omega) (h := fun s' => ?_)
    rw [wrap_succ k (by omega)]
    refine hK (xs.length - (k + 1)) _ _ _ (by omega) ⟨k + 1, rfl, rfl, by omega, ?_⟩
    rw [List.take_add_one, hx]; rfl
  · have hk' : k = xs.length := by omega
    subst hk'
    rw [List.take_length]
    clear hK h K
    refine xloop2 (fun n o i As => ∃ k : Nat, i = 7 - (k : Int) ∧ n = 8 - k ∧ k ≤ 8 ∧ As = [Ar U8 o (xs ++ (be8 v).take k)]) 8 ⟨0, by rw [wrap_id _ (by omega) (by omega)]; rfl, rfl, by omega, by simp⟩ ?_
    rintro n o1 _ _ K ⟨k, rfl, rfl, hk, rfl⟩ hK
    refine xif_dec (fun h => ?_) (fun h => ?_)
    · refine xloop2 (fun (n : Nat) (x : Int) (i : Int) As => ∃ t : Nat, i = (t : Int) ∧ x = ((v / 256 ^ t : Nat) : Int) ∧ n = 7 - k - t ∧ t ≤ 7 - k ∧ As = [Ar U8 o1 (xs ++ (be8 v).take k)]) (7 - k) ⟨0, rfl, by simp, rfl, by omega, rfl⟩ ?_
      rintro n _ _ _ K2 ⟨t, rfl, rfl, rfl, ht, rfl⟩ hK2
      refine xif_dec (fun h => ?_) (fun h => ?_)
      · have e : IntKind.u64.wrap (((v / 256 ^ t : Nat) : Int).tdiv 256) = ((v / 256 ^ (t + 1) : Nat) : Int) := by
          have hle := Nat.div_le_self v (256 ^ t)
          have hle2 := Nat.div_le_self (v / 256 ^ t) 256
          rw [show (((v / 256 ^ t : Nat) : Int).tdiv 256) = ((v / 256 ^ t / 256 : Nat) : Int) from tdiv_eq _ 256, wrap_u64 _ (by omega), Nat.div_div_eq_div_mul, Nat.pow_succ]
        refine xasrt (by decide) ?_
        rw [e, wrap_succ t (by omega)]
        exact hK2 (7 - k - (t + 1)) _ _ _ (by omega) ⟨t + 1, rfl, rfl, rfl, by omega, rfl⟩
      · have ht' : t = 7 - k := by omega
        subst ht'
        have e2 : IntKind.u8.wrap (((v / 256 ^ (7 - k) : Nat) : Int).tmod 256) = ((UInt8.ofNat (v / 256 ^ (7 - k))).toNat : Int) := by
          rw [show (((v / 256 ^ (7 - k) : Nat) : Int).tmod 256) = ((v / 256 ^ (7 - k) % 256 : Nat) : Int) from tmod_eq _ 256, byte_of, UInt8.toNat_ofNat', UInt8.toNat_ofNat']
          omega
        rw [e2]
        refine xasrt (by decide) (xnew fun b2 => ?_)
        refine xapp1 (UInt8.ofNat (v / 256 ^ (7 - k))) (hb := by have := be8_len v; simp; omega) (h := fun s' => ?_)
        rw [show IntKind.i64.wrap ((7 : Int) - (k : Int) - 1) = 7 - ((k + 1 : Nat) : Int) by rw [wrap_id _ (by omega) (by omega)]; omega]
        refine hK (8 - (k + 1)) _ _ _ (by omega) ⟨k + 1, rfl, rfl, by omega, ?_⟩
        rw [List.take_add_one, be8_get v (by omega), List.append_assoc]; rfl
    · have hk8 : k = 8 := by omega
      subst hk8
      rw [List.take_of_length_le (by rw [be8_len]; omega)]
      exact xret ⟨rfl, rfl⟩

end Go.Cx
