/-
  CRC-32, the document's; frames.
-/
import Derived.Test.YthnfnfhcgpnkpaaCA
namespace Go.Cx
open Go Go.Cf
set_option linter.unusedVariables false
variable {B : Base} {As : List HP}

theorem more_bit2 (r : Nat) (h : r < 4294967296) : (if ((r : Int).tmod 2 == 1) = true then bits .xor .u32 (IntKind.u32.wrap ((r : Int).tdiv 2)) 3988292384 else IntKind.u32.wrap ((r : Int).tdiv 2)) = ((bitN r : Nat) : Int) := by
  have e1 : (r : Int).tmod 2 = ((r % 2 : Nat) : Int) := by rw [Int.tmod_eq_emod_of_nonneg (by omega)]; omega
  have e2 : (r : Int).tdiv 2 = ((r / 2 : Nat) : Int) := by rw [Int.tdiv_eq_ediv_of_nonneg (by omega)]; omega
  rw [e1, e2, wrap_u32 _ (by omega)]
  unfold bitN
  by_cases g : r % 2 = 1
  · rw [if_pos (by rw [g]; rfl), if_pos g]
    exact u32_xor_nat (r / 2) 3988292384 (by omega) (by decide)
  · rw [if_neg (by simp; omega), if_neg g]

theorem rMore_spec (crc : Nat) (hc : crc < 4294967296) (b : Sl) (xs : List UInt8) (hm : xs.length ≤ 140737488351232) : Ct Pr F_ref01_More32 [.int .u32 (crc : Int), b.v] .one [.int .u32] [] (RAr U8 b xs) (fun t Bs => t.1 = (moreN crc xs : Int) ∧ Bs = []) := by
  refine spec1 c_ref01_More32 fun B hr => ?_
  have fb : Fro B b U8 xs := ⟨hr⟩
  have hb := hr.1
  unfold ref01_More32
  have e0 : bits .xor .u32 4294967295 (crc : Int) = ((4294967295 ^^^ crc : Nat) : Int) := u32_xor_nat 4294967295 crc (by decide) hc
  rw [e0]
  have hi : 4294967295 ^^^ crc < 4294967296 := xor32_lt (by decide) hc
  refine xloop2 (fun (n : Nat) (r : Int) (i : Int) As => ∃ k : Nat, i = (k : Int) ∧ r = (runN (4294967295 ^^^ crc) (xs.take k) : Int) ∧ n = xs.length - k ∧ k ≤ xs.length ∧ As = []) xs.length ⟨0, rfl, rfl, rfl, by omega, rfl⟩ ?_
  rintro n _ _ _ K ⟨k, rfl, rfl, rfl, hk, rfl⟩ hK
  have hlt := runN_lt (xs.take k) hi
  have hs : k < xs.length → runN (4294967295 ^^^ crc) (xs.take (k + 1)) = byteN (runN (4294967295 ^^^ crc) (xs.take k)) (xs.getD k 0).toNat := fun h => by
    rw [List.take_add_one, List.getElem?_eq_getElem h]
    show runN _ (xs.take k ++ [xs[k]]) = _
    rw [runN_snoc, List.getD_eq_getElem?_getD, List.getElem?_eq_getElem h]; rfl
  generalize hr' : runN (4294967295 ^^^ crc) (xs.take k) = r at *
  refine xif_dec (fun h => ?_) (fun h => ?_)
  · have hkl : k < xs.length := by omega
    have hx := List.getElem?_eq_getElem hkl
    have hy := u8_lt xs[k]
    have hs := hs hkl
    rw [List.getD_eq_getElem?_getD, hx] at hs
    simp only [Option.getD_some] at hs
    generalize xs[k] = y at *
    refine xidxn (h1 := hkl) (h := fun _ _ => ?_)
    refine xgetE hx (h := ?_)
    have e1 : bits .xor .u32 (r : Int) (IntKind.u32.wrap (y.toNat : Int)) = ((r ^^^ y.toNat : Nat) : Int) := by
      rw [wrap_u32 y.toNat (by omega)]
      exact u32_xor_nat r y.toNat hlt (by omega)
    rw [e1]
    have h2 : r ^^^ y.toNat < 4294967296 := xor32_lt hlt (by omega)
    refine xloop2 (fun (n : Nat) (r1 : Int) (i : Int) As => ∃ j : Nat, i = (j : Int) ∧ r1 = (bitsN j (r ^^^ y.toNat) : Int) ∧ n = 8 - j ∧ j ≤ 8 ∧ As = []) 8 ⟨0, rfl, rfl, rfl, by omega, rfl⟩ ?_
    rintro n _ _ _ K2 ⟨j, rfl, rfl, rfl, hj, rfl⟩ hK2
    have hl2 := bitsN_lt j h2
    refine xif_dec (fun h => ?_) (fun h => ?_)
    · have hstep : bitsN (j + 1) (r ^^^ y.toNat) = bitN (bitsN j (r ^^^ y.toNat)) := rfl
      generalize bitsN j (r ^^^ y.toNat) = q at *
      have eb := more_bit2 q hl2
      refine xasrt (by decide) (xasrt (by decide) (xjoin ?_))
      rw [wrap_succ j (by omega)]
      refine xif (fun g => ?_) (fun g => ?_)
      · rw [if_pos g] at eb
        rw [eb]
        exact hK2 (8 - (j + 1)) _ _ _ (by omega) ⟨j + 1, rfl, by rw [hstep], rfl, by omega, rfl⟩
      · rw [if_neg (by rw [g]; simp)] at eb
        rw [eb]
        exact hK2 (8 - (j + 1)) _ _ _ (by omega) ⟨j + 1, rfl, by rw [hstep], rfl, by omega, rfl⟩
    · have : j = 8 := by omega
      subst this
      rw [wrap_succ k (by omega)]
      refine hK (xs.length - (k + 1)) _ _ _ (by omega) ⟨k + 1, rfl, ?_, rfl, by omega, rfl⟩
      rw [hs]; rfl
  · have : k = xs.length := by omega
    subst this
    rw [List.take_length] at hr'
    refine xret ⟨?_, rfl⟩
    rw [show bits .xor .u32 4294967295 (r : Int) = ((4294967295 ^^^ r : Nat) : Int) from u32_xor_nat 4294967295 r (by decide) hlt, ← hr']
    rfl


theorem Crc_spec (b : Sl) (xs : List UInt8) (hm : xs.length ≤ 140737488351232) : Ct Pr F_sums_Crc32 [b.v] .one [.int .u32] [] (RAr U8 b xs) (fun t Bs => t.1 = (moreN 0 xs : Int) ∧ Bs = []) := by
  refine spec1 c_sums_Crc32 fun B hr => ?_
  have fb : Fro B b U8 xs := ⟨hr⟩
  unfold sums_Crc32
  refine xcl (More_spec 0 (by decide) b xs hm) rdb ?_
  rintro ⟨r, _⟩ _ ⟨h, rfl⟩
  exact app0 (ca1 (xret ⟨h, rfl⟩))

theorem rCrc_spec (b : Sl) (xs : List UInt8) (hm : xs.length ≤ 140737488351232) : Ct Pr F_ref01_Crc32 [b.v] .one [.int .u32] [] (RAr U8 b xs) (fun t Bs => t.1 = (moreN 0 xs : Int) ∧ Bs = []) := by
  refine spec1 c_ref01_Crc32 fun B hr => ?_
  have fb : Fro B b U8 xs := ⟨hr⟩
  unfold ref01_Crc32
  refine xcl (rMore_spec 0 (by decide) b xs hm) rdb ?_
  rintro ⟨r, _⟩ _ ⟨h, rfl⟩
  exact app0 (ca1 (xret ⟨h, rfl⟩))

/-! A frame. -/
def hdN (n : Nat) : List UInt8 := [UInt8.ofNat (n / 256), UInt8.ofNat n]
def sumN (p : List UInt8) : Nat := moreN (moreN 0 (hdN p.length)) p
def crcB (r : Nat) : List UInt8 := [UInt8.ofNat (r / 16777216), UInt8.ofNat (r / 65536), UInt8.ofNat (r / 256), UInt8.ofNat r]
def frameN (p : List UInt8) : List UInt8 := hdN p.length ++ crcB (sumN p) ++ p
theorem sumN_lt (p : List UInt8) : sumN p < 4294967296 := moreN_lt (moreN_lt (by decide) _) _

theorem byte_of (m : Nat) : IntKind.u8.wrap (m : Int) = ((UInt8.ofNat m).toNat : Int) := by
  rw [wrap_u8, UInt8.toNat_ofNat']
theorem shr_eq (n : Nat) (d : Int) (D : Nat) (h : d = (D : Int)) : Int.fdiv (n : Int) d = ((n / D : Nat) : Int) := by
  subst h
  rw [Int.fdiv_eq_ediv_of_nonneg _ (by omega)]
  exact (Int.natCast_ediv n D).symm
theorem tdiv_eq (n D : Nat) : (n : Int).tdiv (D : Int) = ((n / D : Nat) : Int) := by
  rw [Int.tdiv_eq_ediv_of_nonneg (by omega)]; exact (Int.natCast_ediv n D).symm
theorem tmod_eq (n D : Nat) : (n : Int).tmod (D : Int) = ((n % D : Nat) : Int) := by
  rw [Int.tmod_eq_emod_of_nonneg (by omega)]; exact (Int.natCast_emod n D).symm

theorem sumOf_spec (p : Sl) (xs : List UInt8) (hm : xs.length ≤ 65535) : Ct Pr F_chunk_sumOf [p.v] .one [.int .u32] [] (RAr U8 p xs) (fun t Bs => t.1 = (sumN xs : Int) ∧ Bs = []) := by
  refine spec1 c_chunk_sumOf fun B hr => ?_
  have fb : Fro B p U8 xs := ⟨hr⟩
  have hp := hr.1
  unfold chunk_sumOf
  refine xasrt (by decide) ?_
  rw [shr_eq p.n _ 256 (by decide), byte_of, byte_of, ← hp]
  refine xnew fun b => ?_
  refine xfold1 (Q := Ar U8 ⟨some ⟨b, 0, none⟩, 2, 2⟩ (hdN xs.length)) 0 (fun g hg => ⟨[], blk_ar (hdN xs.length) 2 rfl rfl hg⟩) ?_
  refine xcl (Crc_spec ⟨some ⟨b, 0, none⟩, 2, 2⟩ (hdN xs.length) (by show 2 ≤ _; omega)) rdb ?_
  rintro ⟨r, _⟩ _ ⟨h, rfl⟩
  simp only at h
  subst h
  refine app0 (ca1 ?_)
  refine xcl (More_spec (moreN 0 (hdN xs.length)) (moreN_lt (by decide) _) p xs (by omega)) rdb ?_
  rintro ⟨r, _⟩ _ ⟨h, rfl⟩
  exact app0 (ca1 (xdrop 0 (xret ⟨h, rfl⟩)))

theorem hd_crc (p : List UInt8) : hdN p.length ++ crcB (sumN p) = [UInt8.ofNat (p.length / 256), UInt8.ofNat p.length, UInt8.ofNat (sumN p / 16777216), UInt8.ofNat (sumN p / 65536), UInt8.ofNat (sumN p / 256), UInt8.ofNat (sumN p)] := rfl

theorem rPut13_spec (p : Sl) (xs : List UInt8) (hm : xs.length ≤ 1024) : Ct Pr F_ref13_Put [p.v] (.tup [none, none]) [.slice, .int .i64] [] (RAr U8 p xs) (fun t Bs => t.2.1 = 0 ∧ Bs = [Ar U8 t.1 (frameN xs)]) := by
  refine spec2 c_ref13_Put fun B hr => ?_
  have fb : Fro B p U8 xs := ⟨hr⟩
  have hp := hr.1
  unfold ref13_Put
  refine xiff (by rw [← hp]; simp; omega) (xasrt (by decide) (xasrt (by decide) ?_))
  have e1 : IntKind.u8.wrap (IntKind.i64.wrap ((p.n : Int).tdiv 256)) = ((UInt8.ofNat (xs.length / 256)).toNat : Int) := by
    rw [show (p.n : Int).tdiv 256 = ((p.n / 256 : Nat) : Int) from tdiv_eq p.n 256, wrap_id _ (by omega) (by omega), byte_of, hp]
  have e2 : IntKind.u8.wrap ((p.n : Int).tmod 256) = ((UInt8.ofNat xs.length).toNat : Int) := by
    rw [show (p.n : Int).tmod 256 = ((p.n % 256 : Nat) : Int) from tmod_eq p.n 256, byte_of, hp, UInt8.toNat_ofNat', UInt8.toNat_ofNat']
    omega
  rw [e1, e2]
  refine xnew fun b => ?_
  refine xfold1 (Q := Ar U8 ⟨some ⟨b, 0, none⟩, 2, 2⟩ (hdN xs.length)) 0 (fun g hg => ⟨[], blk_ar (hdN xs.length) 2 rfl rfl hg⟩) ?_
  refine xcl (rCrc_spec ⟨some ⟨b, 0, none⟩, 2, 2⟩ (hdN xs.length) (by show 2 ≤ _; omega)) rdb ?_
  rintro ⟨r, _⟩ _ ⟨h, rfl⟩
  simp only at h
  subst h
  refine app0 (ca1 ?_)
  refine xcl (rMore_spec (moreN 0 (hdN xs.length)) (moreN_lt (by decide) _) p xs (by omega)) rdb ?_
  rintro ⟨r, _⟩ _ ⟨h, rfl⟩
  simp only at h
  rw [show moreN (moreN 0 (hdN xs.length)) xs = sumN xs from rfl] at h
  subst h
  refine app0 (ca1 (xasrt (by decide) (xasrt (by decide) (xasrt (by decide) ?_))))
  rw [shr_eq (sumN xs) _ 16777216 (by decide), shr_eq (sumN xs) _ 65536 (by decide), shr_eq (sumN xs) _ 256 (by decide), byte_of, byte_of, byte_of, byte_of]
  refine xnew fun b1 => ?_
  refine xfold1 (Q := Ar U8 ⟨some ⟨b1, 0, none⟩, 4, 4⟩ (crcB (sumN xs))) 0 (fun g hg => ⟨[], blk_ar (crcB (sumN xs)) 4 rfl rfl hg⟩) ?_
  refine xapp (s := ⟨some ⟨b, 0, none⟩, 2, 2⟩) (y := ⟨some ⟨b1, 0, none⟩, 4, 4⟩) (hb := by show (2 + 4) * 1 ≤ _; omega) (h := fun s => ?_)
  refine xapp (y := p) (hb := by rw [List.length_append]; show (2 + 4 + _) * 1 ≤ _; omega) (h := fun s1 => ?_)
  exact xdrop 0 (xret ⟨rfl, rfl⟩)

end Go.Cx
