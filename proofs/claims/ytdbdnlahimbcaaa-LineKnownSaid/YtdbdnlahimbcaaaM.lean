/-
  The line: turning, and all of it.
-/
import Derived.Test.YtdbdnlahimbcaaaL
import Derived.Test.YtdbdnlahimbcaaaKB
namespace Go.Cx
open Go Go.Cf
set_option linter.unusedVariables false

def xorB (x : UInt8) (m : Nat) : UInt8 := UInt8.ofNat (bits .xor .u8 x.toNat (2 ^ m : Nat)).toNat
def flipB (bs : List UInt8) (n : Nat) : List UInt8 := bs.set (n / 8) (xorB (bs.getD (n / 8) 0) (n % 8))
def turnL (L : Lm) (i bit : Int) : Lm × Int :=
  if inL L i then
    if bit < 0 ∨ (L.getD i.toNat ([], false)).1.length ≤ bit.toNat / 8 then (L, 3)
    else if (L.getD i.toNat ([], false)).2 then (L, 7)
    else (L.set i.toNat (flipB (L.getD i.toNat ([], false)).1 bit.toNat, true), 0)
  else (L, 6)

theorem xorB_eq (x : UInt8) (m : Nat) (hm : m < 8) : bits .xor .u8 (x.toNat : Int) (IntKind.u8.wrap (1 * 2 ^ (min m 8))) = ((xorB x m).toNat : Int) := by
  have h1 : IntKind.u8.wrap (1 * 2 ^ (min m 8)) = ((2 ^ m : Nat) : Int) := by
    have : ∀ m, m < 8 → IntKind.u8.wrap (1 * 2 ^ (min m 8)) = ((2 ^ m : Nat) : Int) := by decide
    exact this m hm
  rw [h1, xorB]
  have := bits_u8 .xor (x.toNat : Int) ((2 ^ m : Nat) : Int)
  rw [UInt8.toNat_ofNat']
  omega

theorem Turn_spec (p : Option Addr) (L : Lm) (i bit : Int) (h1 : -9223372036854775808 ≤ bit) (h2 : bit ≤ 9223372036854775807) : Ct Pr F_line_Line_Turn [.pointer p, .int .i64 i, .int .i64 bit] .one [.int .i64] [LineObj p L] emp
    (fun t Bs => t.1 = (turnL L i bit).2 ∧ Bs = [LineObj p (turnL L i bit).1]) := by
  refine spec1 c_line_Line_Turn fun B _ => ?_
  unfold line_Line_Turn
  refine xline 0 fun h64 hb b s rs hp hl => ?_
  subst hp
  refine xlen s fun hn hc => xnil ?_
  refine xcall1 0 (has_spec b s i) rdb ?_
  rintro ⟨c, _⟩ _ ⟨h1, rfl⟩
  simp only at h1
  have h1' : c = inL L i := by rw [h1, inL, ← hl, hn]
  refine app1 (ca1 (xif (fun h => ?_) (fun h => ?_)))
  · have hf : inL L i = false := by rw [← h1']; simpa using h
    refine xline_back 0 0 0 h64 hb (xret ?_)
    simp only [turnL, hf, Bool.false_eq_true, if_false, and_self]
  have hf : inL L i = true := by rw [← h1']; simpa using h
  have hi : 0 ≤ i ∧ i < L.length := by simpa [inL] using hf
  obtain ⟨k, rfl⟩ : ∃ k : Nat, i = k := ⟨i.toNat, by omega⟩
  have hx := List.getElem?_eq_getElem (l := rs) (i := k) (by omega)
  have hy := List.getElem?_eq_getElem (l := L) (i := k) (by omega)
  have hg : L.getD k ([], false) = L[k] := by simp [hy]
  refine xnil (xget (h := ?_))
  refine xidxn (h1 := by omega) (h := fun y hy' => ?_)
  clear hy'
  refine xunf 2 [RowR rs[k] L[k], Each RowR (rs.eraseIdx k) (L.eraseIdx k)] (fun g hg => each_pick hg hx hy) (app2 ?_)
  refine xfact 0 (fun g hg => hg.1) fun ht => ?_
  refine xfold1 (Q := Ar U8 rs[k].1 L[k].1) 0 (fun g hg => hg.2) ?_
  refine xlen rs[k].1 fun hbn hbc => ?_
  have hbk : L[k].1.length ≤ 4096 := hb _ (List.getElem_mem _)
  have hback : ∀ {φ : WP}, Ent B [LineObj (some ⟨b, 0, none⟩) L] φ → Ent B [Ar U8 rs[k].1 L[k].1, Each RowR (rs.eraseIdx k) (L.eraseIdx k), Blk b [s.v], Ar ROW s rs] φ := fun {φ} hφ => by
    refine xfold2 (Q := Each RowR rs L) 0 0 (fun g hg => ?_) ?_
    · have := each_put (x := rs[k]) (y := L[k]) (i := k) (by omega) (by omega) (star_imp (Q := RowR rs[k] L[k]) (fun q hq => ⟨ht, hq⟩) hg)
      rwa [List.set_getElem_self, List.set_getElem_self] at this
    · exact xline_back 1 1 0 h64 hb hφ
  refine xjoin1 (fun x As' => x = decide (bit < 0 ∨ L[k].1.length ≤ bit.toNat / 8) ∧ As' = [Ar U8 rs[k].1 L[k].1, Each RowR (rs.eraseIdx k) (L.eraseIdx k), Blk b [s.v], Ar ROW s rs]) ?_ ?_
  · intro K hK
    refine xif_dec (fun h => hK _ _ ⟨by simp [h], rfl⟩) (fun h => ?_)
    refine xasrt (by decide) (xnil ?_)
    refine xgetE hx (h := ?_)
    refine hK _ _ ⟨?_, rfl⟩
    have : bit.tdiv 8 = ((bit.toNat / 8 : Nat) : Int) := by
      rw [Int.tdiv_eq_ediv_of_nonneg (by omega)]; omega
    rw [← hbn, this, wrap_id _ (by omega) (by omega)]
    simp [h]
    omega
  rintro _ _ ⟨rfl, rfl⟩
  refine xif_dec (fun h => ?_) (fun h => ?_)
  · refine hback (xret ?_)
    have h' : bit < 0 ∨ (L.getD k ([], false)).1.length ≤ bit.toNat / 8 := by rw [hg]; exact h
    simp only [turnL, hf, if_true, Int.toNat_natCast, if_pos h', and_self]
  have h' : ¬ (bit < 0 ∨ (L.getD k ([], false)).1.length ≤ bit.toNat / 8) := by rw [hg]; exact h
  refine xnil ?_
  refine xgetEj hx (h := ?_)
  rw [ht]
  refine xif (fun h7 => ?_) (fun h7 => ?_)
  · refine hback (xret ?_)
    simp only [turnL, hf, if_true, Int.toNat_natCast, hg, if_neg h, h7, and_self]
  have hq : IntKind.i64.wrap (bit.tdiv 8) = ((bit.toNat / 8 : Nat) : Int) := by
    have : bit.tdiv 8 = ((bit.toNat / 8 : Nat) : Int) := by
      rw [Int.tdiv_eq_ediv_of_nonneg (by omega)]; omega
    rw [this, wrap_id _ (by omega) (by omega)]
  have hm : bit.tmod 8 = ((bit.toNat % 8 : Nat) : Int) := by
    rw [Int.tmod_eq_emod_of_nonneg (by omega)]; omega
  rw [hq, hm]
  refine xdraw (xnil ?_)
  refine xgetE hx (h := xasrt (by decide) ?_)
  refine xidxn (h1 := by omega) (h := fun y hy' => ?_)
  refine xgetE hy' (h := xasrt (by decide) (xasrt (by omega) ?_))
  refine xidxn (h1 := by omega) (h := fun y' _ => ?_)
  rw [Int.toNat_natCast, xorB_eq _ _ (by omega)]
  refine xsetE (xorB y (bit.toNat % 8)) hy' (hv := rfl) (h := xnil ?_)
  refine xsetEj (rs[k].1, true) hx (hj := by decide) (hv := rfl) (h := ?_)
  have hfl : L[k].1.set (bit.toNat / 8) (xorB y (bit.toNat % 8)) = flipB L[k].1 bit.toNat := by
    simp [flipB, hy']
  rw [hfl]
  refine xfold2 (Q := Each RowR (rs.set k (rs[k].1, true)) (L.set k (flipB L[k].1 bit.toNat, true))) 0 0 (fun g hg => ?_) ?_
  · exact each_put (x := (rs[k].1, true)) (y := (flipB L[k].1 bit.toNat, true)) (i := k) (by omega) (by omega) (star_imp (Q := RowR (rs[k].1, true) (flipB L[k].1 bit.toNat, true)) (fun q hq => ⟨rfl, hq⟩) hg)
  refine xline_back 1 1 0 (by simpa using h64) ?_ (xret ?_)
  · intro l hl'
    rcases List.mem_or_eq_of_mem_set hl' with h | h
    · exact hb l h
    · subst h; simpa [flipB] using hbk
  · simp only [turnL, hf, if_true, Int.toNat_natCast, hg, if_neg h, h7, Bool.false_eq_true, if_false, and_self]

theorem All_spec (p : Option Addr) (L : Lm) : Ct Pr F_line_Line_All [.pointer p] .one [.slice] [LineObj p L] emp
    (fun t Bs => Bs = [LineObj p L, ORows t.1 (L.map (·.1))]) := by
  refine spec1 c_line_Line_All fun B _ => ?_
  unfold line_Line_All
  refine xline 0 fun h64 hb b s rs hp hl => ?_
  subst hp
  refine xlen s fun hn hc => xnil (xget (h := ?_))
  refine xnone SL ?_
  refine xadd (A := Each (Ar U8) [] []) trivial (xrot 0 ?_)
  refine xloop2 (fun n o i As => ∃ (k : Nat) (cs : List Sl), i = (k : Int) ∧ n = L.length - k ∧ k ≤ L.length ∧ cs.length = k ∧ As = [Ar SL o cs, Blk b [s.v], Ar ROW s rs, Each RowR rs L, Each (Ar U8) cs ((L.map (·.1)).take k)]) L.length ⟨0, [], rfl, rfl, by omega, rfl, rfl⟩ ?_
  rintro n o _ _ K ⟨k, cs, rfl, rfl, hk, hcs, rfl⟩ hK
  refine xif_dec (fun h => ?_) (fun h => ?_)
  · have hx := List.getElem?_eq_getElem (l := rs) (i := k) (by omega)
    have hy := List.getElem?_eq_getElem (l := L) (i := k) (by omega)
    refine xidxn (h1 := by omega) (h := fun y hy' => ?_)
    clear hy'
    refine xgetE hx (h := ?_)
    refine xgetEj hx (h := xnew fun b1 => xset (h := ?_))
    refine xset (h := xget (h := ?_))
    refine xcall0 (Clone_spec rs[k].1 L[k].1 (by have := hb _ (List.getElem_mem (l := L) (n := k) (by omega)); omega)) (rds_pick 4 (fun g hg => each_read (S := fun (r : Sl × Bool) (l : List UInt8 × Bool) => RAr U8 r.1 l.1) (fun _ _ _ _ h s => h.mono s) (fun _ _ _ h => h.2.read) hg hx hy) (fun _ _ h s => h.mono s)) ?_
    rintro ⟨r, _⟩ _ rfl
    refine app1 (ca1 (xnew fun b2 => ?_))
    refine xapp1 r (hb := by omega) (h := fun s' => ?_)
    rw [wrap_succ k (by omega)]
    refine xdrop 1 ?_
    refine xfold2 (Q := Each (Ar U8) (cs ++ [r]) ((L.map (·.1)).take k ++ [L[k].1])) 5 0 (fun g hg => each_snoc hg) ?_
    refine xrot 0 ?_
    refine hK (L.length - (k + 1)) _ _ _ (by omega) ⟨k + 1, cs ++ [r], rfl, rfl, by omega, by simp [hcs], ?_⟩
    rw [List.take_add_one, List.getElem?_map, hy]; rfl
  · have : k = L.length := by omega
    subst this
    refine xfold2 (Q := ORows o (L.map (·.1))) 0 3 (fun g hg => ⟨cs, ?_⟩) ?_
    · rwa [List.take_of_length_le (by simp)] at hg
    · exact xline_back 1 1 1 h64 hb (xret rfl)

end Go.Cx
