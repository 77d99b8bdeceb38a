/-
  CRC-32, frames, numbers of eight bytes, as functions of lists.
-/
import Derived.Test.YtifochbabgjhpaaGreatDoorCgB
import Derived.Laws.BitsAllLaws
namespace Go.Cx
open Go Go.Cf
set_option linter.unusedVariables false
set_option maxRecDepth 100000

def bitN (r : Nat) : Nat := if r % 2 = 1 then (r / 2) ^^^ 3988292384 else r / 2
def bitsN : Nat → Nat → Nat
  | 0, r => r
  | k + 1, r => bitN (bitsN k r)
def byteN (r y : Nat) : Nat := bitsN 8 (r ^^^ y)
def runN (r : Nat) (bs : List UInt8) : Nat := bs.foldl (fun r y => byteN r y.toNat) r
def moreN (crc : Nat) (bs : List UInt8) : Nat := 4294967295 ^^^ runN (4294967295 ^^^ crc) bs

theorem xor32_lt {a b : Nat} (ha : a < 4294967296) (hb : b < 4294967296) : a ^^^ b < 4294967296 := Nat.xor_lt_two_pow (n := 32) ha hb
theorem bitN_lt {r : Nat} (h : r < 4294967296) : bitN r < 4294967296 := by
  unfold bitN
  split
  · exact xor32_lt (by omega) (by decide)
  · omega
theorem bitsN_lt : ∀ (k : Nat) {r : Nat}, r < 4294967296 → bitsN k r < 4294967296
  | 0, _, h => h
  | k + 1, _, h => bitN_lt (bitsN_lt k h)
theorem u8_lt (y : UInt8) : y.toNat < 256 := y.toNat_lt
theorem byteN_lt {r : Nat} (h : r < 4294967296) (y : UInt8) : byteN r y.toNat < 4294967296 := bitsN_lt 8 (xor32_lt h (by have := u8_lt y; omega))
theorem runN_lt : ∀ (bs : List UInt8) {r : Nat}, r < 4294967296 → runN r bs < 4294967296
  | [], _, h => h
  | y :: bs, _, h => runN_lt bs (byteN_lt h y)
theorem runN_snoc (bs : List UInt8) (r : Nat) (y : UInt8) : runN r (bs ++ [y]) = byteN (runN r bs) y.toNat := by
  unfold runN
  rw [List.foldl_append]; rfl
theorem moreN_lt {crc : Nat} (h : crc < 4294967296) (bs : List UInt8) : moreN crc bs < 4294967296 := xor32_lt (by decide) (runN_lt bs (xor32_lt (by decide) h))

theorem wrap_u32 (n : Nat) (h : n < 4294967296) : IntKind.u32.wrap (n : Int) = n := by
  have e1 : (2 ^ IntKind.u32.bits : Int) = 4294967296 := by decide
  have e3 : IntKind.u32.signed = false := rfl
  simp only [IntKind.wrap, e1, e3, Bool.false_and]
  simp; omega
theorem wrap_u64 (n : Nat) (h : n < 18446744073709551616) : IntKind.u64.wrap (n : Int) = n := by
  have e1 : (2 ^ IntKind.u64.bits : Int) = 18446744073709551616 := by decide
  have e3 : IntKind.u64.signed = false := rfl
  simp only [IntKind.wrap, e1, e3, Bool.false_and]
  simp; omega
theorem wrap_u8 (n : Nat) : IntKind.u8.wrap (n : Int) = ((n % 256 : Nat) : Int) := by
  have e1 : (2 ^ IntKind.u8.bits : Int) = 256 := by decide
  have e3 : IntKind.u8.signed = false := rfl
  simp only [IntKind.wrap, e1, e3, Bool.false_and]
  simp

def hdN (n : Nat) : List UInt8 := [UInt8.ofNat (n / 256), UInt8.ofNat n]
def sumN (p : List UInt8) : Nat := moreN (moreN 0 (hdN p.length)) p
def crcB (r : Nat) : List UInt8 := [UInt8.ofNat (r / 16777216), UInt8.ofNat (r / 65536), UInt8.ofNat (r / 256), UInt8.ofNat r]
def frameN (p : List UInt8) : List UInt8 := hdN p.length ++ crcB (sumN p) ++ p
theorem sumN_lt (p : List UInt8) : sumN p < 4294967296 := moreN_lt (moreN_lt (by decide) _) _

theorem byte_of (m : Nat) : IntKind.u8.wrap (m : Int) = ((UInt8.ofNat m).toNat : Int) := by
  rw [wrap_u8, UInt8.toNat_ofNat']
theorem shr_eq (n : Nat) (d : Int) (D : Nat) (h : d = (D : Int)) : Int.fdiv (n : Int) d = ((n / D : Nat) : Int) := by
  subst h
  rw [Int.fdiv_eq_ediv_of_nonneg _ (by omega)]
  exact (Int.natCast_ediv n D).symm
theorem tdiv_eq (n D : Nat) : (n : Int).tdiv (D : Int) = ((n / D : Nat) : Int) := by
  rw [Int.tdiv_eq_ediv_of_nonneg (by omega)]; exact (Int.natCast_ediv n D).symm
theorem tmod_eq (n D : Nat) : (n : Int).tmod (D : Int) = ((n % D : Nat) : Int) := by
  rw [Int.tmod_eq_emod_of_nonneg (by omega)]; exact (Int.natCast_emod n D).symm

/-! Getting. -/
def frLen (b : List UInt8) : Nat := (b.getD 0 0).toNat * 256 + (b.getD 1 0).toNat
def crcOf (b : List UInt8) : Nat := (((b.getD 2 0).toNat * 256 + (b.getD 3 0).toNat) * 256 + (b.getD 4 0).toNat) * 256 + (b.getD 5 0).toNat
def getN (b : List UInt8) : List UInt8 × Nat × Int :=
  if b.length < 6 then ([], 0, 1)
  else if frLen b > 1024 then ([], 0, 2)
  else if b.length < 6 + frLen b then ([], 0, 1)
  else if crcOf b = sumN ((b.take (6 + frLen b)).drop 6) then ((b.take (6 + frLen b)).drop 6, 6 + frLen b, 0)
  else ([], 0, 5)

theorem getD_of {b : List UInt8} {i : Nat} {x : UInt8} (h : b[i]? = some x) : b.getD i 0 = x := by
  rw [List.getD_eq_getElem?_getD, h]; rfl

theorem crc_iff (xs p : List UInt8) (h6 : 6 ≤ xs.length) : crcOf xs = sumN p ↔ ∀ j, 2 ≤ j → j < 6 → xs[j]? = (frameN p)[j]? := by
  have x2 := List.getElem?_eq_getElem (l := xs) (i := 2) (by omega)
  have x3 := List.getElem?_eq_getElem (l := xs) (i := 3) (by omega)
  have x4 := List.getElem?_eq_getElem (l := xs) (i := 4) (by omega)
  have x5 := List.getElem?_eq_getElem (l := xs) (i := 5) (by omega)
  have hcr : crcOf xs = ((xs[2].toNat * 256 + xs[3].toNat) * 256 + xs[4].toNat) * 256 + xs[5].toNat := by unfold crcOf; rw [getD_of x2, getD_of x3, getD_of x4, getD_of x5]
  generalize xs[2] = y2 at *
  generalize xs[3] = y3 at *
  generalize xs[4] = y4 at *
  generalize xs[5] = y5 at *
  have f2 : (frameN p)[2]? = some (UInt8.ofNat (sumN p / 16777216)) := rfl
  have f3 : (frameN p)[3]? = some (UInt8.ofNat (sumN p / 65536)) := rfl
  have f4 : (frameN p)[4]? = some (UInt8.ofNat (sumN p / 256)) := rfl
  have f5 : (frameN p)[5]? = some (UInt8.ofNat (sumN p)) := rfl
  have hs := sumN_lt p
  have hy2 := u8_lt y2
  have hy3 := u8_lt y3
  have hy4 := u8_lt y4
  have hy5 := u8_lt y5
  rw [hcr]
  generalize sumN p = r at *
  have tn : ∀ m : Nat, (UInt8.ofNat m).toNat = m % 256 := fun m => UInt8.toNat_ofNat'
  constructor
  · intro h j hj1 hj2
    have : j = 2 ∨ j = 3 ∨ j = 4 ∨ j = 5 := by omega
    rcases this with rfl | rfl | rfl | rfl
    · rw [x2, f2, show y2 = UInt8.ofNat (r / 16777216) from UInt8.toNat_inj.1 (by rw [tn]; omega)]
    · rw [x3, f3, show y3 = UInt8.ofNat (r / 65536) from UInt8.toNat_inj.1 (by rw [tn]; omega)]
    · rw [x4, f4, show y4 = UInt8.ofNat (r / 256) from UInt8.toNat_inj.1 (by rw [tn]; omega)]
    · rw [x5, f5, show y5 = UInt8.ofNat r from UInt8.toNat_inj.1 (by rw [tn]; omega)]
  · intro h
    have a2 := h 2 (by omega) (by omega)
    have a3 := h 3 (by omega) (by omega)
    have a4 := h 4 (by omega) (by omega)
    have a5 := h 5 (by omega) (by omega)
    rw [x2, f2, Option.some.injEq] at a2
    rw [x3, f3, Option.some.injEq] at a3
    rw [x4, f4, Option.some.injEq] at a4
    rw [x5, f5, Option.some.injEq] at a5
    rw [a2, a3, a4, a5, tn, tn, tn, tn]
    omega

def be8 (v : Nat) : List UInt8 := (List.range 8).map fun i => UInt8.ofNat (v / 256 ^ (7 - i))
theorem be8_len (v : Nat) : (be8 v).length = 8 := by simp [be8]
theorem be8_get (v : Nat) {i : Nat} (h : i < 8) : (be8 v)[i]? = some (UInt8.ofNat (v / 256 ^ (7 - i))) := by
  unfold be8
  rw [List.getElem?_map, List.getElem?_range h]; rfl
def beV (bs : List UInt8) : Nat := bs.foldl (fun v y => v * 256 + y.toNat) 0
theorem beV_snoc (bs : List UInt8) (y : UInt8) : beV (bs ++ [y]) = beV bs * 256 + y.toNat := by
  unfold beV
  rw [List.foldl_append]; rfl
theorem beV_lt : ∀ (n : Nat) (bs : List UInt8), bs.length = n → beV bs < 256 ^ n := by
  intro n
  induction n with
  | zero => intro bs h; have := List.eq_nil_of_length_eq_zero h; subst this; decide
  | succ n ih =>
    intro bs h
    have hne : bs ≠ [] := fun e => by subst e; simp at h
    have e := List.dropLast_concat_getLast hne
    have hl : bs.dropLast.length = n := by simp; omega
    have := ih _ hl
    have hy := u8_lt (bs.getLast hne)
    rw [← e, beV_snoc, Nat.pow_succ]
    omega

theorem pow_le (k : Nat) (h : k ≤ 7) : 256 ^ k ≤ 72057594037927936 := by
  have : (256 : Nat) ^ k ≤ 256 ^ 7 := Nat.pow_le_pow_right (by decide) h
  simpa using this

def cut8 (xs : List UInt8) (a : Nat) : List UInt8 := (xs.take (a + 8)).drop a
theorem cut8_len {xs : List UInt8} {a : Nat} (h : a + 8 ≤ xs.length) : (cut8 xs a).length = 8 := by simp [cut8]; omega
theorem cut8_get {xs : List UInt8} {a k : Nat} (hk : k < 8) : (cut8 xs a)[k]? = xs[a + k]? := by
  unfold cut8
  rw [List.getElem?_drop, List.getElem?_take_of_lt (by omega)]
theorem beV_step {q : List UInt8} {k : Nat} {y : UInt8} (h : q[k]? = some y) : beV (q.take (k + 1)) = beV (q.take k) * 256 + y.toNat := by
  rw [List.take_add_one, h]
  exact beV_snoc _ _
theorem beV_small {q : List UInt8} {k : Nat} (hq : q.length = 8) (hk : k < 8) : beV (q.take k) < 72057594037927936 := by
  have h1 := beV_lt k (q.take k) (by simp; omega)
  have h2 := pow_le k (by omega)
  omega

theorem getN_ok {b : List UInt8} (h : (getN b).2.2 = 0) : 6 ≤ (getN b).2.1 ∧ (getN b).2.1 ≤ b.length ∧ (getN b).1.length + 6 = (getN b).2.1 ∧ (getN b).1.length ≤ 1024 ∧ (getN b).1 = (b.take (getN b).2.1).drop 6 := by
  unfold getN at h ⊢
  split
  · rename_i h1; rw [if_pos h1] at h; exact absurd h (by decide)
  rename_i h1
  rw [if_neg h1] at h
  split
  · rename_i h2; rw [if_pos h2] at h; exact absurd h (by decide)
  rename_i h2
  rw [if_neg h2] at h
  split
  · rename_i h3; rw [if_pos h3] at h; exact absurd h (by decide)
  rename_i h3
  rw [if_neg h3] at h
  split
  · refine ⟨?_, ?_, ?_, ?_, rfl⟩ <;> simp <;> omega
  · rename_i h4; rw [if_neg h4] at h; exact absurd h (by decide)

theorem getN_used (b : List UInt8) : (getN b).2.1 ≤ b.length := by
  by_cases h : (getN b).2.2 = 0
  · exact (getN_ok h).2.1
  · unfold getN
    repeat' split
    all_goals simp
    omega

def scanG : Nat → List UInt8 → List (List UInt8) × Nat
  | 0, _ => ([], 0)
  | n + 1, b => if (getN b).2.2 = 0 then ((getN b).1 :: (scanG n (b.drop (getN b).2.1)).1, (getN b).2.1 + (scanG n (b.drop (getN b).2.1)).2) else ([], 0)
def scanN (b : List UInt8) : List (List UInt8) × Nat := scanG (b.length + 1) b

theorem scanG_fuel : ∀ (n m : Nat) (b : List UInt8), b.length < n → b.length < m → scanG n b = scanG m b := by
  intro n
  induction n with
  | zero => intro m b h; omega
  | succ n ih =>
    intro m b h1 h2
    cases m with
    | zero => omega
    | succ m =>
      unfold scanG
      by_cases h : (getN b).2.2 = 0
      · obtain ⟨a1, a2, _⟩ := getN_ok h
        have hd : (b.drop (getN b).2.1).length = b.length - (getN b).2.1 := List.length_drop
        rw [if_pos h, if_pos h, ih m _ (by omega) (by omega)]
      · rw [if_neg h, if_neg h]

theorem scan_ok {b : List UInt8} (h : (getN b).2.2 = 0) : scanN b = ((getN b).1 :: (scanN (b.drop (getN b).2.1)).1, (getN b).2.1 + (scanN (b.drop (getN b).2.1)).2) := by
  obtain ⟨a1, a2, _⟩ := getN_ok h
  have hd : (b.drop (getN b).2.1).length = b.length - (getN b).2.1 := List.length_drop
  unfold scanN
  conv => lhs; unfold scanG
  rw [if_pos h, scanG_fuel b.length ((b.drop (getN b).2.1).length + 1) _ (by omega) (by omega)]
theorem scan_no {b : List UInt8} (h : ¬ (getN b).2.2 = 0) : scanN b = ([], 0) := by
  unfold scanN scanG
  rw [if_neg h]

theorem scan_used : ∀ (n : Nat) (b : List UInt8), b.length ≤ n → (scanN b).2 ≤ b.length ∧ (scanN b).1.length ≤ b.length ∧ ∀ p ∈ (scanN b).1, p.length ≤ 1024 := by
  intro n
  induction n with
  | zero =>
    intro b h
    have hb : b = [] := List.eq_nil_of_length_eq_zero (by omega)
    subst hb
    rw [scan_no (by decide)]
    exact ⟨Nat.le_refl _, Nat.le_refl _, by simp⟩
  | succ n ih =>
    intro b h
    by_cases hg : (getN b).2.2 = 0
    · obtain ⟨a1, a2, a3, a4, _⟩ := getN_ok hg
      have hd : (b.drop (getN b).2.1).length = b.length - (getN b).2.1 := List.length_drop
      obtain ⟨h1, h2, h3⟩ := ih (b.drop (getN b).2.1) (by omega)
      rw [scan_ok hg]
      refine ⟨by dsimp only; omega, by simp only [List.length_cons]; omega, ?_⟩
      intro p hp
      simp only [List.mem_cons] at hp
      rcases hp with rfl | hp
      · exact a4
      · exact h3 p hp
    · rw [scan_no hg]
      exact ⟨Nat.zero_le _, Nat.zero_le _, by simp⟩

theorem scan_len (b : List UInt8) : (scanN b).2 ≤ b.length := (scan_used b.length b (Nat.le_refl _)).1

theorem beV_be8 (v : Nat) (hv : v < 18446744073709551616) : beV (be8 v) = v := by
  have h : ∀ k, k ≤ 8 → beV ((be8 v).take k) = v / 256 ^ (8 - k) := by
    intro k
    induction k with
    | zero =>
      intro _
      have : v / 256 ^ 8 = 0 := Nat.div_eq_of_lt (by omega)
      show beV [] = v / 256 ^ 8
      rw [this]; rfl
    | succ k ih =>
      intro hk
      rw [beV_step (be8_get v (by omega)), ih (by omega), UInt8.toNat_ofNat', show 8 - k = (7 - k) + 1 by omega, show 8 - (k + 1) = 7 - k by omega, Nat.pow_succ, ← Nat.div_div_eq_div_mul]
      omega
  have := h 8 (by omega)
  rw [List.take_of_length_le (by rw [be8_len]; omega)] at this
  simpa using this

theorem frame_len (p : List UInt8) : (frameN p).length = 6 + p.length := by unfold frameN; rw [List.length_append]; rfl

theorem frLen_app (p q : List UInt8) (hp : p.length ≤ 1024) : frLen (frameN p ++ q) = p.length := by
  show (UInt8.ofNat (p.length / 256)).toNat * 256 + (UInt8.ofNat p.length).toNat = p.length
  rw [UInt8.toNat_ofNat', UInt8.toNat_ofNat']
  omega

theorem get_app (p q : List UInt8) (hp : p.length ≤ 1024) : getN (frameN p ++ q) = (p, 6 + p.length, 0) := by
  have hl : (frameN p ++ q).length = 6 + p.length + q.length := by rw [List.length_append, frame_len]
  have hf := frLen_app p q hp
  have hd : ((frameN p ++ q).take (6 + p.length)).drop 6 = p := by
    rw [List.take_append_of_le_length (by rw [frame_len]; exact Nat.le_refl _), List.take_of_length_le (by rw [frame_len]; exact Nat.le_refl _)]
    rfl
  have hc : crcOf (frameN p ++ q) = sumN p := (crc_iff (frameN p ++ q) p (by omega)).2 fun j _ hj => by
    rw [List.getElem?_append_left (by rw [frame_len]; omega)]
  unfold getN
  rw [if_neg (by omega), if_neg (by omega), if_neg (by omega), hf, hd, if_pos hc]

theorem get_part (p : List UInt8) (k : Nat) (hp : p.length ≤ 1024) (hk : k < 6 + p.length) : ¬ (getN ((frameN p).take k)).2.2 = 0 := by
  have hl : ((frameN p).take k).length = k := by rw [List.length_take, frame_len]; omega
  unfold getN
  by_cases h6 : k < 6
  · rw [if_pos (by omega)]; show ¬ (1 : Int) = 0; decide
  · have hf : frLen ((frameN p).take k) = p.length := by
      have := frLen_app p [] hp
      rw [List.append_nil] at this
      rw [← this]
      unfold frLen
      simp only [List.getD_eq_getElem?_getD]
      rw [List.getElem?_take_of_lt (by omega), List.getElem?_take_of_lt (by omega)]
    rw [if_neg (by omega), if_neg (by omega), if_pos (by omega)]; show ¬ (1 : Int) = 0; decide

def catF (H : List (List UInt8)) : List UInt8 := (H.map frameN).flatten
theorem catF_cons (p : List UInt8) (H : List (List UInt8)) : catF (p :: H) = frameN p ++ catF H := rfl
theorem catF_snoc (p : List UInt8) (H : List (List UInt8)) : catF (H ++ [p]) = catF H ++ frameN p := by simp [catF]

theorem scan_cat : ∀ (H : List (List UInt8)) (q : List UInt8), (∀ p ∈ H, p.length ≤ 1024) → scanN (catF H ++ q) = (H ++ (scanN q).1, (catF H).length + (scanN q).2)
  | [], q, _ => by simp [catF]
  | p :: H, q, h => by
    have hp := h p (List.mem_cons_self ..)
    have ih := scan_cat H q (fun p' hp' => h p' (List.mem_cons_of_mem _ hp'))
    rw [catF_cons, List.append_assoc]
    have hg := get_app p (catF H ++ q) hp
    have hd : (frameN p ++ (catF H ++ q)).drop (6 + p.length) = catF H ++ q := by
      rw [List.drop_left' (frame_len p)]
    rw [scan_ok (by rw [hg]), hg]
    dsimp only
    rw [hd, ih]
    simp [frame_len]; omega

theorem scan_part (p : List UInt8) (k : Nat) (hp : p.length ≤ 1024) (hk : k < 6 + p.length) : scanN ((frameN p).take k) = ([], 0) := scan_no (get_part p k hp hk)
theorem scan_whole (p : List UInt8) (hp : p.length ≤ 1024) : scanN (frameN p) = ([p], 6 + p.length) := by
  have := scan_cat [p] [] (by simpa using hp)
  simp only [catF, List.map_cons, List.map_nil, List.flatten_cons, List.flatten_nil, List.append_nil] at this
  rw [this]
  have e : scanN [] = ([], 0) := scan_no (by decide)
  rw [e, frame_len]; rfl

/-! Entries. -/

end Go.Cx
