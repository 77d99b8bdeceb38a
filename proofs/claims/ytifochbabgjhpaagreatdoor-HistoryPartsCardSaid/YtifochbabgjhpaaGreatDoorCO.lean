/-
  CRC-32, in both writings.
  CRC-32, the document's; frames.
  Frames: put and get, in both writings.
  Numbers of eight bytes, in both writings.
  Numbers read back; cursors that may be.
  Frames one behind the other: what a scan tells.
  Numbers of eight bytes: put and got.
-/
import Derived.Test.YtifochbabgjhpaaGreatDoorDV
import Derived.Laws.BitsAllLaws
namespace Go.Cx
open Go Go.Cf
set_option linter.unusedVariables false
variable {B : Base} {As : List HP}

theorem half_eq (r : Nat) : Int.fdiv (r : Int) (2 ^ (min (Int.toNat 1) 32)) = ((r / 2 : Nat) : Int) := by
  have e : (2 : Int) ^ (min (Int.toNat 1) 32) = 2 := by decide
  rw [e, Int.fdiv_eq_ediv_of_nonneg _ (by omega)]
  omega

theorem more_bit (r : Nat) (h : r < 4294967296) : (if (bits .and .u32 (r : Int) 1 == 1) = true then bits .xor .u32 (Int.fdiv (r : Int) (2 ^ (min (Int.toNat 1) 32))) 3988292384 else Int.fdiv (r : Int) (2 ^ (min (Int.toNat 1) 32))) = ((bitN r : Nat) : Int) := by
  have e1 : bits .and .u32 (r : Int) 1 = ((r % 2 : Nat) : Int) := by
    have := u32_and_nat r 1 h (by decide)
    rw [Nat.and_one_is_mod] at this
    exact this
  rw [e1, half_eq]
  unfold bitN
  by_cases g : r % 2 = 1
  · rw [if_pos (by rw [g]; rfl), if_pos g]
    exact u32_xor_nat (r / 2) 3988292384 (by omega) (by decide)
  · rw [if_neg (by simp; omega), if_neg g]

theorem More_spec (crc : Nat) (hc : crc < 4294967296) (b : Sl) (xs : List UInt8) (hm : xs.length ≤ 140737488351232) : Ct Pr F_sums_More32 [.int .u32 (crc : Int), b.v] .one [.int .u32] [] (RAr U8 b xs) (fun t Bs => t.1 = (moreN crc xs : Int) ∧ Bs = []) := by
  refine spec1 c_sums_More32 fun B hr => ?_
  have fb : Fro B b U8 xs := ⟨hr⟩
  have hb := hr.1
  unfold sums_More32
  have e0 : bits .xor .u32 4294967295 (crc : Int) = ((4294967295 ^^^ crc : Nat) : Int) := u32_xor_nat 4294967295 crc (by decide) hc
  rw [e0]
  have hi : 4294967295 ^^^ crc < 4294967296 := xor32_lt (by decide) hc
  refine xloop2 (fun (n : Nat) (r : Int) (i : Int) As => ∃ k : Nat, i = (k : Int) ∧ r = (runN (4294967295 ^^^ crc) (xs.take k) : Int) ∧ n = xs.length - k ∧ k ≤ xs.length ∧ As = []) xs.length ⟨0, rfl, rfl, rfl, by omega, rfl⟩ ?_
  rintro n _ _ _ K ⟨k, rfl, rfl, rfl, hk, rfl⟩ hK
  have hlt := runN_lt (xs.take k) hi
  have hs : k < xs.length → runN (4294967295 ^^^ crc) (xs.take (k + 1)) = byteN (runN (4294967295 ^^^ crc) (xs.take k)) (xs.getD k 0).toNat := fun h => by
    rw [List.take_add_one, List.getElem?_eq_getElem h]
    show runN _ (xs.take k ++ [xs[k]]) = _
    rw [runN_snoc, List.getD_eq_getElem?_getD, List.getElem?_eq_getElem h]; rfl
  generalize hr' : runN (4294967295 ^^^ crc) (xs.take k) = r at *
  refine xif_dec (fun h => ?_) (fun h => ?_)
  · have hkl : k < xs.length := by omega
    have hx := List.getElem?_eq_getElem hkl
    have hy := u8_lt xs[k]
    have hs := hs hkl
    rw [List.getD_eq_getElem?_getD, hx] at hs
    simp only [Option.getD_some] at hs
    generalize xs[k] = y at *
    refine xidxn (h1 := hkl) (h := fun _ _ => ?_)
    refine xgetE hx (h := ?_)
    have e1 : bits .xor .u32 (r : Int) (IntKind.u32.wrap (y.toNat : Int)) = ((r ^^^ y.toNat : Nat) : Int) := by
      rw [wrap_u32 y.toNat (by omega)]
      exact u32_xor_nat r y.toNat hlt (by omega)
    rw [e1]
    have h2 : r ^^^ y.toNat < 4294967296 := xor32_lt hlt (by omega)
    refine xloop2 (fun (n : Nat) (r1 : Int) (i : Int) As => ∃ j : Nat, i = (j : Int) ∧ r1 = (bitsN j (r ^^^ y.toNat) : Int) ∧ n = 8 - j ∧ j ≤ 8 ∧ As = []) 8 ⟨0, rfl, rfl, rfl, by omega, rfl⟩ ?_
    rintro n _ _ _ K2 ⟨j, rfl, rfl, rfl, hj, rfl⟩ hK2
    have hl2 := bitsN_lt j h2
    refine xif_dec (fun h => ?_) (fun h => ?_)
    · have hstep : bitsN (j + 1) (r ^^^ y.toNat) = bitN (bitsN j (r ^^^ y.toNat)) := rfl
      generalize bitsN j (r ^^^ y.toNat) = q at *
      have eb := more_bit q hl2
      refine xasrt (by decide) (xjoin ?_)
      rw [wrap_succ j (by omega)]
      refine xif (fun g => ?_) (fun g => ?_)
      · rw [if_pos g] at eb
        rw [eb]
        exact hK2 (8 - (j + 1)) _ _ _ (by omega) ⟨j + 1, rfl, by rw [hstep], rfl, by omega, rfl⟩
      · rw [if_neg (by rw [g]; simp)] at eb
        rw [eb]
        exact hK2 (8 - (j + 1)) _ _ _ (by omega) ⟨j + 1, rfl, by rw [hstep], rfl, by omega, rfl⟩
    · have : j = 8 := by omega
      subst this
      rw [wrap_succ k (by omega)]
      refine hK (xs.length - (k + 1)) _ _ _ (by omega) ⟨k + 1, rfl, ?_, rfl, by omega, rfl⟩
      rw [hs]; rfl
  · have : k = xs.length := by omega
    subst this
    rw [List.take_length] at hr'
    refine xret ⟨?_, rfl⟩
    rw [show bits .xor .u32 4294967295 (r : Int) = ((4294967295 ^^^ r : Nat) : Int) from u32_xor_nat 4294967295 r (by decide) hlt, ← hr']
    rfl

end Go.Cx

namespace Go.Cx
open Go Go.Cf
set_option linter.unusedVariables false
variable {B : Base} {As : List HP}

theorem more_bit2 (r : Nat) (h : r < 4294967296) : (if ((r : Int).tmod 2 == 1) = true then bits .xor .u32 (IntKind.u32.wrap ((r : Int).tdiv 2)) 3988292384 else IntKind.u32.wrap ((r : Int).tdiv 2)) = ((bitN r : Nat) : Int) := by
  have e1 : (r : Int).tmod 2 = ((r % 2 : Nat) : Int) := by rw [Int.tmod_eq_emod_of_nonneg (by omega)]; omega
  have e2 : (r : Int).tdiv 2 = ((r / 2 : Nat) : Int) := by rw [Int.tdiv_eq_ediv_of_nonneg (by omega)]; omega
  rw [e1, e2, wrap_u32 _ (by omega)]
  unfold bitN
  by_cases g : r % 2 = 1
  · rw [if_pos (by rw [g]; rfl), if_pos g]
    exact u32_xor_nat (r / 2) 3988292384 (by omega) (by decide)
  · rw [if_neg (by simp; omega), if_neg g]

theorem Crc_spec (b : Sl) (xs : List UInt8) (hm : xs.length ≤ 140737488351232) : Ct Pr F_sums_Crc32 [b.v] .one [.int .u32] [] (RAr U8 b xs) (fun t Bs => t.1 = (moreN 0 xs : Int) ∧ Bs = []) := by
  refine spec1 c_sums_Crc32 fun B hr => ?_
  have fb : Fro B b U8 xs := ⟨hr⟩
  unfold sums_Crc32
  refine xcl (More_spec 0 (by decide) b xs hm) rdb ?_
  rintro ⟨r, _⟩ _ ⟨h, rfl⟩
  exact app0 (ca1 (xret ⟨h, rfl⟩))

theorem sumOf_spec (p : Sl) (xs : List UInt8) (hm : xs.length ≤ 65535) : Ct Pr F_chunk_sumOf [p.v] .one [.int .u32] [] (RAr U8 p xs) (fun t Bs => t.1 = (sumN xs : Int) ∧ Bs = []) := by
  refine spec1 c_chunk_sumOf fun B hr => ?_
  have fb : Fro B p U8 xs := ⟨hr⟩
  have hp := hr.1
  unfold chunk_sumOf
  refine xasrt (by decide) ?_
  rw [shr_eq p.n _ 256 (by decide), byte_of, byte_of, ← hp]
  refine xnew fun b => ?_
  refine xfold1 (Q := Ar U8 ⟨some ⟨b, 0, none⟩, 2, 2⟩ (hdN xs.length)) 0 (fun g hg => ⟨[], blk_ar (hdN xs.length) 2 rfl rfl hg⟩) ?_
  refine xcl (Crc_spec ⟨some ⟨b, 0, none⟩, 2, 2⟩ (hdN xs.length) (by show 2 ≤ _; omega)) rdb ?_
  rintro ⟨r, _⟩ _ ⟨h, rfl⟩
  simp only at h
  subst h
  refine app0 (ca1 ?_)
  refine xcl (More_spec (moreN 0 (hdN xs.length)) (moreN_lt (by decide) _) p xs (by omega)) rdb ?_
  rintro ⟨r, _⟩ _ ⟨h, rfl⟩
  exact app0 (ca1 (xdrop 0 (xret ⟨h, rfl⟩)))

theorem hd_crc (p : List UInt8) : hdN p.length ++ crcB (sumN p) = [UInt8.ofNat (p.length / 256), UInt8.ofNat p.length, UInt8.ofNat (sumN p / 16777216), UInt8.ofNat (sumN p / 65536), UInt8.ofNat (sumN p / 256), UInt8.ofNat (sumN p)] := rfl

end Go.Cx

namespace Go.Cf
open Go
set_option linter.unusedVariables false
variable {B : Base} {As : List HP} {α : Type}

/-- make with room behind. -/
theorem xmake2 {P : Program} {t e : TypeId} {sz by_ : Nat} {z : List Value} [a : AppT P t e sz by_ z] (E : Enc α) (n c : Nat) {K : Sl → WP} (h0 : n ≤ c) (hb : c * by_ ≤ 140737488355328) (hsz : E.sz = sz := by rfl) (hz : E.f E.zero = z := by rfl)
    (h : ∀ b, Ent B (Ars E ⟨some ⟨b, 0, none⟩, n, c⟩ (List.replicate n E.zero) (List.replicate (c - n) E.zero) :: As) (K ⟨some ⟨b, 0, none⟩, n, c⟩)) : Ent B As (XMake P t (.int .i64 (n : Int)) (.int .i64 (c : Int)) K) := by
  intro w hw
  obtain ⟨i, z0, ht, hi, hsize, hbytes, hpos, hz0, hzs⟩ := appOk_spec a.ok
  obtain ⟨i', z', hi', hz', hzf⟩ := zeroOf_some a.zero
  obtain rfl : i' = i := by rw [hi] at hi'; exact (Option.some.inj hi').symm
  obtain rfl : z' = z0 := by rw [hz0] at hz'; exact (Option.some.inj hz').symm
  have hle : c ≤ c * by_ := Nat.le_mul_of_pos_right _ hpos
  have hr := run_make (P := P) w t e i' z' ht hi hz0 .i64 .i64 (n : Int) (c : Int) (by omega) (by omega) (by
    have : ((i'.bytes * c : Nat) : Int) ≤ 281474976710656 := by rw [hbytes, Nat.mul_comm]; omega
    rw [Int.natCast_mul] at this
    exact this) (by omega)
  rw [hsize, madeCells_repL _ _ _ hzs, ← hzf, ← hz, repL_flat] at hr
  refine ⟨⟨some ⟨w.heap.size, 0, none⟩, n, c⟩, _, hr, h w.heap.size _ ?_⟩
  obtain ⟨g, hg, hm, hu⟩ := hw.alloc (flat E (List.replicate c E.zero)) e
  refine ⟨g, star_imp (fun q hq => ?_) hg, hm, hu⟩
  refine Ars.of_blk (pre := []) (post := []) (b := w.heap.size) (o := 0) ?_ rfl rfl (by simp) (by simp; omega) (by show c ≤ _; omega)
  rw [List.replicate_append_replicate, show n + (c - n) = c by omega]
  simpa using hq

/-- A whole slice is written over. -/
theorem xcopy0 {P : Program} {t u ty e : TypeId} {sz by_ : Nat} {z : List Value} [a : AppT P t e sz by_ z] {E : Enc α} {s y : Sl} {xs zs ys : List α} {F : List HP} {K : Int → WP}
    (hy : ∀ w, Sx B (Ars E s xs zs :: F) w → RAr E y ys (mem w)) (hsz : E.sz = sz := by rfl) (hl : ys.length = xs.length) (hn : xs.length = s.n) (hc : s.n ≤ s.c)
    (h : ∀ n, Ent B (Ars E s ys zs :: F) (K n)) : Ent B (Ars E s xs zs :: F) (XCopy P t u ty s.v y.v K) := by
  have e : s.cut 0 s.n s.c sz = s := cut_zero s s.n sz
  have := xcopy (P := P) (t := t) (u := u) (ty := ty) (K := K) (s := s) (y := y) (l := 0) (r := s.n) (m := s.c) (sz := sz) (xs := xs) (zs := zs) (ys := ys) (F := F) (B := B) hy ys zs (hsz := hsz) (hrm := hc) (hlk := by omega) (hl := hl) (he := by
    have : min ys.length (s.n - 0) = xs.length := by omega
    rw [this, Nat.zero_add, List.drop_left, List.take_zero, List.take_of_length_le (by omega)]; rfl) (h := h)
  rw [e] at this
  exact this
end Go.Cf

namespace Go.Cx
open Go Go.Cf
set_option linter.unusedVariables false
variable {B : Base} {As : List HP}

theorem chunkPut_spec (p : Sl) (xs : List UInt8) (hm : xs.length ≤ 1024) : Ct Pr F_chunk_Put [p.v] (.tup [none, none]) [.slice, .int .i64] [] (RAr U8 p xs) (fun t Bs => t.2.1 = 0 ∧ Bs = [Ar U8 t.1 (frameN xs)]) := by
  refine spec2 c_chunk_Put fun B hr => ?_
  have fb : Fro B p U8 xs := ⟨hr⟩
  have hp := hr.1
  unfold chunk_Put
  refine xiff (by rw [← hp]; simp; omega) ?_
  refine xcl (sumOf_spec p xs (by omega)) rdb ?_
  rintro ⟨r, _⟩ _ ⟨h, rfl⟩
  simp only at h
  subst h
  refine app0 (ca1 ?_)
  rw [show IntKind.i64.wrap (6 + (p.n : Int)) = ((6 + xs.length : Nat) : Int) by rw [wrap_id _ (by omega) (by omega)]; omega]
  refine xmake2 U8 6 (6 + xs.length) (by omega) (by omega) (h := fun b => ?_)
  refine xasrt (by decide) (xasrt (by decide) (xasrt (by decide) (xasrt (by decide) ?_)))
  rw [shr_eq p.n _ 256 (by decide), byte_of, byte_of, ← hp, shr_eq (sumN xs) _ 16777216 (by decide), shr_eq (sumN xs) _ 65536 (by decide), shr_eq (sumN xs) _ 256 (by decide), byte_of, byte_of, byte_of, byte_of]
  refine xnew fun b1 => ?_
  refine xfold1 (Q := Ar U8 ⟨some ⟨b1, 0, none⟩, 6, 6⟩ (hdN xs.length ++ crcB (sumN xs))) 0 (fun g hg => ⟨[], blk_ar (hdN xs.length ++ crcB (sumN xs)) 6 rfl rfl hg⟩) (xfront 1 ?_)
  refine xcopy0 (y := ⟨some ⟨b1, 0, none⟩, 6, 6⟩) (ys := hdN xs.length ++ crcB (sumN xs)) (fun w hw => ?_) (hl := by rw [List.length_replicate]; rfl) (hn := by rw [List.length_replicate]) (hc := by simp only; omega) (h := fun n => ?_)
  · obtain ⟨g, hg, hs⟩ := hw.tail.head
    exact hg.read.mono hs
  refine xar ?_
  refine xapp (y := p) (hb := by rw [show (hdN xs.length ++ crcB (sumN xs)).length = 6 from rfl]; omega) (h := fun s1 => ?_)
  exact xdrop 1 (xret ⟨rfl, rfl⟩)

theorem or_add (a b i : Nat) (h : b < 2 ^ i) : (a * 2 ^ i) ||| b = a * 2 ^ i + b := by
  rw [← Nat.shiftLeft_eq]
  exact (Nat.shiftLeft_add_eq_or_of_lt h a).symm

theorem i64_or_nat (a b : Nat) (ha : a < 65536) (hb : b < 65536) : bits .or .i64 (a : Int) (b : Int) = ((a ||| b : Nat) : Int) := by
  have hx : a ||| b < 2 ^ 16 := Nat.or_lt_two_pow (by omega) (by omega)
  show IntKind.i64.wrap ((BitVec.ofInt 64 (a : Int) ||| BitVec.ofInt 64 (b : Int)).toNat : Int) = _
  rw [BitVec.toNat_or, ofInt_u64 a (by omega), ofInt_u64 b (by omega), wrap_id _ (by omega) (by omega)]

theorem len_eq (x y : UInt8) : bits .or .i64 (IntKind.i64.wrap ((IntKind.i64.wrap (x.toNat : Int)) * 2 ^ (min (Int.toNat 8) 64))) (IntKind.i64.wrap (y.toNat : Int)) = ((x.toNat * 256 + y.toNat : Nat) : Int) := by
  have hx := u8_lt x
  have hy := u8_lt y
  have e : (2 : Int) ^ (min (Int.toNat 8) 64) = 256 := by decide
  rw [e, wrap_id (x.toNat : Int) (by omega) (by omega), wrap_id ((x.toNat : Int) * 256) (by omega) (by omega), wrap_id (y.toNat : Int) (by omega) (by omega)]
  have e2 : ((x.toNat : Int) * 256) = ((x.toNat * 256 : Nat) : Int) := by omega
  rw [e2, i64_or_nat _ _ (by omega) (by omega)]
  rw [show x.toNat * 256 = x.toNat * 2 ^ 8 from rfl, or_add _ _ 8 (by omega)]

theorem crc_eq (a b c d : UInt8) : bits .or .u32 (bits .or .u32 (bits .or .u32 (IntKind.u32.wrap ((IntKind.u32.wrap (a.toNat : Int)) * 2 ^ (min (Int.toNat 24) 32))) (IntKind.u32.wrap ((IntKind.u32.wrap (b.toNat : Int)) * 2 ^ (min (Int.toNat 16) 32)))) (IntKind.u32.wrap ((IntKind.u32.wrap (c.toNat : Int)) * 2 ^ (min (Int.toNat 8) 32)))) (IntKind.u32.wrap (d.toNat : Int)) = (((((a.toNat * 256 + b.toNat) * 256 + c.toNat) * 256 + d.toNat : Nat)) : Int) := by
  have ha := u8_lt a
  have hb := u8_lt b
  have hc := u8_lt c
  have hd := u8_lt d
  generalize a.toNat = a at *
  generalize b.toNat = b at *
  generalize c.toNat = c at *
  generalize d.toNat = d at *
  have e1 : (2 : Int) ^ (min (Int.toNat 24) 32) = 16777216 := by decide
  have e2 : (2 : Int) ^ (min (Int.toNat 16) 32) = 65536 := by decide
  have e3 : (2 : Int) ^ (min (Int.toNat 8) 32) = 256 := by decide
  rw [e1, e2, e3, wrap_u32 a (by omega), wrap_u32 b (by omega), wrap_u32 c (by omega), wrap_u32 d (by omega)]
  have f1 : IntKind.u32.wrap ((a : Int) * 16777216) = ((a * 16777216 : Nat) : Int) := by rw [show ((a : Int) * 16777216) = ((a * 16777216 : Nat) : Int) by omega, wrap_u32 _ (by omega)]
  have f2 : IntKind.u32.wrap ((b : Int) * 65536) = ((b * 65536 : Nat) : Int) := by rw [show ((b : Int) * 65536) = ((b * 65536 : Nat) : Int) by omega, wrap_u32 _ (by omega)]
  have f3 : IntKind.u32.wrap ((c : Int) * 256) = ((c * 256 : Nat) : Int) := by rw [show ((c : Int) * 256) = ((c * 256 : Nat) : Int) by omega, wrap_u32 _ (by omega)]
  rw [f1, f2, f3]
  have g1 : a * 16777216 ||| b * 65536 = (a * 256 + b) * 65536 := by
    rw [show a * 16777216 = a * 2 ^ 24 from rfl, or_add _ _ 24 (by omega)]; omega
  have g2 : (a * 256 + b) * 65536 ||| c * 256 = ((a * 256 + b) * 256 + c) * 256 := by
    rw [show (a * 256 + b) * 65536 = (a * 256 + b) * 2 ^ 16 from rfl, or_add _ _ 16 (by omega)]; omega
  have g3 : ((a * 256 + b) * 256 + c) * 256 ||| d = ((a * 256 + b) * 256 + c) * 256 + d := by
    rw [show ((a * 256 + b) * 256 + c) * 256 = ((a * 256 + b) * 256 + c) * 2 ^ 8 from rfl, or_add _ _ 8 (by omega)]
  rw [u32_or_nat _ _ (by omega) (by omega), g1, u32_or_nat _ _ (by omega) (by omega), g2, u32_or_nat _ _ (by omega) (by omega), g3]

theorem chunkGet_spec (b : Sl) (xs : List UInt8) (hm : xs.length ≤ 140737488351232) (hcap : b.n ≤ b.c) : Ct Pr F_chunk_Get [b.v] (.tup [none, none, none]) [.slice, .int .i64, .int .i64] [] (RAr U8 b xs)
    (fun t Bs => t.2.1 = ((getN xs).2.1 : Int) ∧ t.2.2.1 = (getN xs).2.2 ∧ Bs = [Ar U8 t.1 (getN xs).1]) := by
  refine spec3 c_chunk_Get fun B hr => ?_
  have fb : Fro B b U8 xs := ⟨hr⟩
  have hb := hr.1
  unfold chunk_Get
  refine xif_dec (fun h => ?_) (fun h => ?_)
  · refine xnone U8 (xret ?_)
    unfold getN
    rw [if_pos (by omega)]
    exact ⟨rfl, rfl, rfl⟩
  have h6 : 6 ≤ xs.length := by omega
  have x0 := List.getElem?_eq_getElem (l := xs) (i := 0) (by omega)
  have x1 := List.getElem?_eq_getElem (l := xs) (i := 1) (by omega)
  have x2 := List.getElem?_eq_getElem (l := xs) (i := 2) (by omega)
  have x3 := List.getElem?_eq_getElem (l := xs) (i := 3) (by omega)
  have x4 := List.getElem?_eq_getElem (l := xs) (i := 4) (by omega)
  have x5 := List.getElem?_eq_getElem (l := xs) (i := 5) (by omega)
  have hfl : frLen xs = xs[0].toNat * 256 + xs[1].toNat := by unfold frLen; rw [getD_of x0, getD_of x1]
  have hcr : crcOf xs = ((xs[2].toNat * 256 + xs[3].toNat) * 256 + xs[4].toNat) * 256 + xs[5].toNat := by unfold crcOf; rw [getD_of x2, getD_of x3, getD_of x4, getD_of x5]
  generalize xs[0] = y0 at *
  generalize xs[1] = y1 at *
  generalize xs[2] = y2 at *
  generalize xs[3] = y3 at *
  generalize xs[4] = y4 at *
  generalize xs[5] = y5 at *
  refine xdraw ?_
  refine xidxn (k := 0) (h1 := by omega) (h := fun _ _ => ?_)
  refine xgetE x0 (h := xasrt (by decide) ?_)
  refine xidxn (k := 1) (h1 := by omega) (h := fun _ _ => ?_)
  refine xgetE x1 (h := ?_)
  rw [len_eq y0 y1, ← hfl]
  refine xif_dec (fun g => ?_) (fun g => ?_)
  · refine xnone U8 (xret ?_)
    unfold getN
    rw [if_neg (by omega), if_pos (by omega)]
    exact ⟨rfl, rfl, rfl⟩
  rw [show IntKind.i64.wrap (6 + ((frLen xs : Nat) : Int)) = ((6 + frLen xs : Nat) : Int) by rw [wrap_id _ (by omega) (by omega)]; omega]
  refine xif_dec (fun g2 => ?_) (fun g2 => ?_)
  · refine xnone U8 (xret ?_)
    unfold getN
    rw [if_neg (by omega), if_neg (by omega), if_pos (by omega)]
    exact ⟨rfl, rfl, rfl⟩
  have hgo : getN xs = if crcOf xs = sumN ((xs.take (6 + frLen xs)).drop 6) then ((xs.take (6 + frLen xs)).drop 6, 6 + frLen xs, 0) else ([], 0, 5) := by
    unfold getN
    rw [if_neg (by omega), if_neg (by omega), if_neg (by omega)]
  have fc : Fro B (b.cut 6 (6 + frLen xs) b.c 1) U8 ((xs.take (6 + frLen xs)).drop 6) := ⟨hr.cut 6 (6 + frLen xs) b.c (by omega) (by omega) (by omega)⟩
  have hpl : ((xs.take (6 + frLen xs)).drop 6).length = frLen xs := by simp; omega
  generalize (xs.take (6 + frLen xs)).drop 6 = q at *
  refine xnew fun b1 => ?_
  refine xfold1 (Q := Ar U8 ⟨some ⟨b1, 0, none⟩, 0, 0⟩ []) 0 (fun g hg => ⟨[], blk_ar [] 0 rfl rfl hg⟩) ?_
  refine xslc (by omega) (by omega) (by omega) (by omega) ?_
  simp only [Int.toNat_natCast]
  refine xapp (s := ⟨some ⟨b1, 0, none⟩, 0, 0⟩) (y := b.cut 6 (6 + frLen xs) b.c 1) (hb := by rw [hpl]; simp; omega) (h := fun s1 => ?_)
  rw [List.nil_append]
  refine xdraw ?_
  refine xidxn (k := 2) (h1 := by omega) (h := fun _ _ => ?_)
  refine xgetE x2 (h := xasrt (by decide) ?_)
  refine xidxn (k := 3) (h1 := by omega) (h := fun _ _ => ?_)
  refine xgetE x3 (h := xasrt (by decide) ?_)
  refine xidxn (k := 4) (h1 := by omega) (h := fun _ _ => ?_)
  refine xgetE x4 (h := xasrt (by decide) ?_)
  refine xidxn (k := 5) (h1 := by omega) (h := fun _ _ => ?_)
  refine xgetE x5 (h := ?_)
  refine xcl (sumOf_spec s1 q (by omega)) rdb ?_
  rintro ⟨r, _⟩ _ ⟨hs, rfl⟩
  simp only at hs
  subst hs
  refine app0 (ca1 ?_)
  refine xchkE x5 (h := ?_)
  refine xchkE x4 (h := ?_)
  refine xchkE x3 (h := ?_)
  refine xchkE x2 (h := ?_)
  rw [crc_eq, ← hcr]
  refine xif (fun e => ?_) (fun e => ?_)
  · have e : ¬ crcOf xs = sumN q := by simp at e; omega
    rw [hgo, if_neg e]
    exact xdrop 0 (xnone U8 (xret ⟨rfl, rfl, rfl⟩))
  · have e : crcOf xs = sumN q := by simp at e; omega
    rw [hgo, if_pos e]
    exact xret ⟨rfl, rfl, rfl⟩

end Go.Cx

namespace Go.Cf
open Go
set_option linter.unusedVariables false
variable {B : Base} {As : List HP} {α : Type}
/-- A whole slice's head is written over. -/
theorem xcopyW {P : Program} {t u ty e : TypeId} {sz by_ : Nat} {z : List Value} [a : AppT P t e sz by_ z] {E : Enc α} {s y : Sl} {xs zs ys : List α} {F : List HP} {K : Int → WP}
    (hy : ∀ w, Sx B (Ars E s xs zs :: F) w → RAr E y ys (mem w)) (hsz : E.sz = sz := by rfl) (hl : ys.length ≤ xs.length) (hn : xs.length = s.n) (hc : s.n ≤ s.c)
    (h : ∀ n, Ent B (Ars E s (ys ++ xs.drop ys.length) zs :: F) (K n)) : Ent B (Ars E s xs zs :: F) (XCopy P t u ty s.v y.v K) := by
  have e : s.cut 0 s.n s.c sz = s := cut_zero s s.n sz
  have := xcopy (P := P) (t := t) (u := u) (ty := ty) (K := K) (s := s) (y := y) (l := 0) (r := s.n) (m := s.c) (sz := sz) (xs := xs) (zs := zs) (ys := ys) (F := F) (B := B) hy (ys ++ xs.drop ys.length) zs (hsz := hsz) (hrm := hc) (hlk := by omega) (hl := by simp; omega) (he := by
    have : min ys.length (s.n - 0) = ys.length := by omega
    rw [this, Nat.zero_add, List.take_zero, List.take_of_length_le (by omega), List.drop_append_of_le_length hl]; simp) (h := h)
  rw [e] at this
  exact this
end Go.Cf

namespace Go.Cx
open Go Go.Cf
set_option linter.unusedVariables false
variable {B : Base} {As : List HP}

theorem shift_le : ∀ k : Nat, k < 8 → (2 : Int) ^ (min (Int.toNat (IntKind.i64.wrap (8 * (k : Int)))) 64) = ((256 ^ k : Nat) : Int) ∧ 0 ≤ IntKind.i64.wrap (8 * (k : Int)) := by decide

end Go.Cx

namespace Go.Cx
open Go Go.Cf
set_option linter.unusedVariables false
variable {B : Base} {As : List HP}

theorem or64 (v : Nat) (y : UInt8) (hv : v < 72057594037927936) : bits .or .u64 (IntKind.u64.wrap ((v : Int) * 2 ^ (min (Int.toNat 8) 64))) (IntKind.u64.wrap (y.toNat : Int)) = ((v * 256 + y.toNat : Nat) : Int) := by
  have hy := u8_lt y
  have e : (2 : Int) ^ (min (Int.toNat 8) 64) = 256 := by decide
  rw [e, show (v : Int) * 256 = ((v * 256 : Nat) : Int) by omega, wrap_u64 _ (by omega), wrap_u64 _ (by omega), u64_or_nat _ _ (by omega) (by omega), show v * 256 = v * 2 ^ 8 from rfl, or_add _ _ 8 (by omega)]

structure Cu where
  a : Int
  b : Int
  c : Int
abbrev top40 : Int := 1099511627776
def okN (x : Int) : Bool := decide (0 ≤ x) && decide (x ≤ top40)
def mayC (c : Cu) : Bool := okN c.a && (okN c.b && okN c.c)
abbrev Cu.v (c : Cu) : Value := .agg #[.int .i64 c.a, .int .i64 c.b, .int .i64 c.c]

theorem xcell {cs : List Value} {k n : Nat} {s : Sh} {x : s.ty} {K : s.ty → WP} (h : cs[k]? = some (s.mk x)) (hk : k < n) (hK : Ent B As (K x)) : Ent B As (XCell cs (k : Int) n s K) :=
  fun w hw => ⟨by omega, by omega, x, by rw [Int.toNat_natCast]; exact h, hK w hw⟩

theorem ok_iff (x : Int) : (decide (x < 0) || decide (x > top40)) = !(okN x) := by
  show _ = !(decide (0 ≤ x) && decide (x ≤ 1099511627776))
  by_cases h1 : x < 0 <;> by_cases h2 : x > 1099511627776 <;> simp [h1, h2] <;> omega

end Go.Cx

namespace Go.Cx
open Go Go.Cf
set_option linter.unusedVariables false
variable {B : Base} {As : List HP}

theorem cut_to_end (s : Sl) (xs : List UInt8) {h : Frag} (hr : RAr U8 s xs h) (at' : Nat) (ha : at' ≤ xs.length) (hcap : s.n ≤ s.c) : RAr U8 (s.cut at' s.n s.c 1) (xs.drop at') h := by
  have := hr.cut at' s.n s.c (by have := hr.1; omega) hcap (by rw [hr.1]; exact Nat.le_refl _)
  rw [List.take_of_length_le (by rw [hr.1]; exact Nat.le_refl _)] at this
  exact this

/-- Rows of one's own. -/
def OwnRows (s : Sl) (bss : List (List UInt8)) : HP := fun h => ∃ rs : List Sl, star [Ar SL s rs, Each (Ar U8) rs bss] h

theorem Scan_spec (b : Sl) (xs : List UInt8) (hm : xs.length ≤ 16777216) (hcap : b.n ≤ b.c) : Ct Pr F_chunk_Scan [b.v] (.tup [none, none]) [.slice, .int .i64] [] (RAr U8 b xs)
    (fun t Bs => t.2.1 = ((scanN xs).2 : Int) ∧ ∃ rs, Bs = [Ar SL t.1 rs, Each (Ar U8) rs (scanN xs).1]) := by
  refine spec2 c_chunk_Scan fun B hr => ?_
  have fb : Fro B b U8 xs := ⟨hr⟩
  have hb := hr.1
  have hlen := (scan_used xs.length xs (Nat.le_refl _)).2.1
  unfold chunk_Scan
  refine xnone SL ?_
  refine xadd (A := Each (Ar U8) [] []) trivial ?_
  refine xloop2 (fun n l i As => ∃ (k : Nat) (rs : List Sl) (done : List (List UInt8)), i = (k : Int) ∧ n = xs.length - k ∧ k ≤ xs.length ∧ scanN xs = (done ++ (scanN (xs.drop k)).1, k + (scanN (xs.drop k)).2) ∧ As = [Each (Ar U8) rs done, Ar SL l rs]) xs.length ⟨0, [], [], rfl, rfl, by omega, by simp, rfl⟩ ?_
  rintro n l _ _ K ⟨k, rs, done, rfl, rfl, hk, hsc, rfl⟩ hK
  refine xslc (by omega) (by omega) (by omega) (by omega) ?_
  simp only [Int.toNat_natCast]
  have hdl : (xs.drop k).length = xs.length - k := List.length_drop
  refine xcl (pre := []) (G := [Each (Ar U8) rs done, Ar SL l rs]) (chunkGet_spec (b.cut k b.n b.c 1) (xs.drop k) (by omega) (by simp only [Sl.cut]; omega)) (rds_of fun g hg _ _ _ => (cut_to_end b xs hr k hk hcap).mono hg) ?_
  rintro ⟨s1, r, r1, _⟩ _ ⟨h1, h2, rfl⟩
  simp only at h1 h2
  subst h1 h2
  refine app1 (ca3 ?_)
  refine xif (fun h => ?_) (fun h => ?_)
  · have h : ¬ (getN (xs.drop k)).2.2 = 0 := by simpa using h
    rw [scan_no h] at hsc
    refine xuse [Ar SL l rs, Each (Ar U8) rs done] (xret ⟨?_, rs, ?_⟩)
    · rw [hsc]; simp
    · rw [hsc]; simp
  · have h : (getN (xs.drop k)).2.2 = 0 := by simpa using h
    obtain ⟨g1, g2, _⟩ := getN_ok h
    rw [scan_ok h] at hsc
    refine xfact 1 (fun g hg => Each.length hg) fun hrl => ?_
    have hdn : done.length + 1 ≤ xs.length := by
      have := congrArg (fun p => p.1.length) hsc
      simp only [List.length_append, List.length_cons] at this
      omega
    refine xnew fun b1 => ?_
    refine xapp1 s1 (hb := by omega) (h := fun s2 => ?_)
    rw [show IntKind.i64.wrap ((k : Int) + ((getN (xs.drop k)).2.1 : Int)) = ((k + (getN (xs.drop k)).2.1 : Nat) : Int) by rw [wrap_id _ (by omega) (by omega)]; omega]
    refine xfold [Each (Ar U8) rs done, Ar U8 s1 (getN (xs.drop k)).1] (Each (Ar U8) (rs ++ [s1]) (done ++ [(getN (xs.drop k)).1])) (fun g hg => each_snoc hg) ?_
    refine hK (xs.length - (k + (getN (xs.drop k)).2.1)) _ _ _ (by omega) ⟨k + (getN (xs.drop k)).2.1, rs ++ [s1], done ++ [(getN (xs.drop k)).1], rfl, rfl, by omega, ?_, rfl⟩
    rw [List.drop_drop] at hsc
    rw [hsc]
    simp [Nat.add_assoc]

end Go.Cx

namespace Go.Cx
open Go Go.Cf
set_option linter.unusedVariables false

end Go.Cx

namespace Go.Cx
open Go Go.Cf
set_option linter.unusedVariables false
variable {B : Base} {As : List HP}

theorem packGet_spec (b : Sl) (xs : List UInt8) (a : Nat) (ha : a + 8 ≤ xs.length) (hm : xs.length ≤ 140737488351232) (hcap : b.n ≤ b.c) : Ct Pr F_pack_Get [b.v, .int .i64 (a : Int), .int .i64 8] (.tup [none, none]) [.int .u64, .int .i64] [] (RAr U8 b xs)
    (fun t Bs => t.1 = (beV (cut8 xs a) : Int) ∧ t.2.1 = 0 ∧ Bs = []) := by
  refine spec2 c_pack_Get fun B hr => ?_
  have fb : Fro B b U8 xs := ⟨hr⟩
  have hb := hr.1
  unfold pack_Get
  refine xiff rfl (xiff ?_ ?_)
  · rw [wrap_id _ (by omega) (by omega)]
    simp; omega
  rw [show IntKind.i64.wrap ((a : Int) + 8) = ((a + 8 : Nat) : Int) by rw [wrap_id _ (by omega) (by omega)]; omega]
  refine xslc (by omega) (by omega) (by omega) (by omega) ?_
  simp only [Int.toNat_natCast]
  have fc : Fro B (b.cut a (a + 8) b.c 1) U8 (cut8 xs a) := ⟨hr.cut a (a + 8) b.c (by omega) (by omega) (by omega)⟩
  have hq := cut8_len ha
  have hsn := fc.rd.1
  refine xloop2 (fun (n : Nat) (v : Int) (i : Int) As => ∃ k : Nat, i = (k : Int) ∧ v = ((beV ((cut8 xs a).take k) : Nat) : Int) ∧ n = 8 - k ∧ k ≤ 8 ∧ As = []) 8 ⟨0, rfl, rfl, rfl, by omega, rfl⟩ ?_
  rintro n _ _ _ K ⟨k, rfl, rfl, rfl, hk, rfl⟩ hK
  refine xif_dec (fun h => ?_) (fun h => ?_)
  · have hk8 : k < 8 := by omega
    have hx := List.getElem?_eq_getElem (l := cut8 xs a) (i := k) (by omega)
    refine xidxn (h1 := by omega) (h := fun _ _ => ?_)
    refine xgetE hx (h := xasrt (by decide) ?_)
    rw [or64 _ _ (beV_small hq hk8), wrap_succ k (by omega)]
    exact hK (8 - (k + 1)) _ _ _ (by omega) ⟨k + 1, rfl, by rw [beV_step hx], rfl, by omega, rfl⟩
  · have hk8 : k = 8 := by omega
    subst hk8
    rw [List.take_of_length_le (by omega)]
    exact xret ⟨rfl, rfl, rfl⟩

end Go.Cx
