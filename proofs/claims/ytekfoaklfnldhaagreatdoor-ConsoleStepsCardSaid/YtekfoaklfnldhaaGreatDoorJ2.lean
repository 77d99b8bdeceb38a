/-
  The kit's helpers.
  The document's writer of a line.
  The document's writer of a line, whole.
  The document's Line.
  A new world.
  A gateway that was never started has stopped.
  The laws of the console: steps, lines, there and back.
  What the listed variables give, and a step as it comes in.
-/
import Derived.Test.YtekfoaklfnldhaaGreatDoorJ1
import Derived.Test.YtekfoaklfnldhaaGreatDoorT1
import Derived.Test.YtekfoaklfnldhaaGreatDoorCfZ
import Derived.Lib.LaidTab
import Derived.LaidLaws
import Derived.Shelf.Vars
import Derived.OpenShut
import Derived.WalkKit
import Derived.ProofKit
namespace Go.Cx
open Go Go.Cf
set_option linter.unusedVariables false

theorem SameBytes_spec (a b : Sl) (xs ys : List UInt8) (hm : xs.length ≤ 140737488355328) :
    Ct Pr F_kit_SameBytes [a.v, b.v] .one [.bool] [] ((RAr U8 a xs).and (RAr U8 b ys)) (fun t Bs => t.1 = decide (xs = ys) ∧ Bs = []) := by
  refine spec1 c_kit_SameBytes fun B hr => ?_
  have fa : Fro B a U8 xs := ⟨hr.1⟩
  have fb : Fro B b U8 ys := ⟨hr.2⟩
  have ha := hr.1.1
  have hb := hr.2.1
  unfold kit_SameBytes
  refine xif (fun h => ?_) (fun h => ?_)
  · refine xret ⟨?_, rfl⟩
    have : xs ≠ ys := fun e => by subst e; simp [← ha, ← hb] at h
    simp [this]
  · have hl : xs.length = ys.length := by simp at h; omega
    refine xloop1 (fun n i As => ∃ k : Nat, i = (k : Int) ∧ n = xs.length - k ∧ k ≤ xs.length ∧ xs.take k = ys.take k ∧ As = []) xs.length ⟨0, rfl, rfl, by omega, rfl, rfl⟩ ?_
    rintro n _ _ K ⟨k, rfl, rfl, hk, he, rfl⟩ hK
    refine xif_dec (fun h => ?_) (fun h => ?_)
    · refine xdraw (xidxn rfl (by omega) fun x hx => xgetE hx rfl rfl (xidxn rfl (by omega) fun y hy => xgetE hy rfl rfl ?_))
      rw [u8_ne]
      refine xif (fun h => ?_) (fun h => ?_)
      · refine xret ⟨?_, rfl⟩
        have : xs ≠ ys := fun e => by subst e; rw [hx] at hy; simp at hy h; exact h hy
        simp [this]
      · rw [wrap_succ k (by omega)]
        refine hK (xs.length - (k + 1)) _ _ (by omega) ⟨k + 1, rfl, rfl, by omega, ?_, rfl⟩
        rw [List.take_add_one, List.take_add_one, he, hx, hy]
        simp at h
        rw [h]
    · refine xret ⟨?_, rfl⟩
      have : k = xs.length := by omega
      subst this
      rw [List.take_length, hl, List.take_length] at he
      simp [he]

theorem LentBytes_spec (l : Sl) (xs : List UInt8) (hm : xs.length ≤ 140737488351232) :
    Ct Pr F_kit_LentBytes [l.v] .one [.slice] [] (RAr U8 l xs) (fun t Bs => Bs = [Ars U8 t.1 xs (List.replicate 5 165)]) := by
  refine spec1 c_kit_LentBytes fun B hr => ?_
  have fa : Fro B l U8 xs := ⟨hr⟩
  have ha := hr.1
  unfold kit_LentBytes
  rw [wrap_id ((l.n : Int) + 5) (by omega) (by omega)]
  refine xmake U8 (by omega) (by omega) (h := fun b => ?_)
  have hn : ((l.n : Int) + 5).toNat = l.n + 5 := by omega
  rw [hn]
  refine xloop1 (fun n i As => ∃ (k : Nat) (ys : List UInt8), i = (k : Int) ∧ n = xs.length - k ∧ k ≤ xs.length ∧ ys.length = xs.length + 5 ∧ (∀ j, j < k → ys[j]? = (xs ++ List.replicate 5 165)[j]?) ∧ As = [Ar U8 ⟨some ⟨b, 0, none⟩, l.n + 5, l.n + 5⟩ ys]) xs.length ⟨0, List.replicate (l.n + 5) 0, rfl, rfl, by omega, by simp; omega, by intro j hj; omega, rfl⟩ ?_
  rintro n _ _ K ⟨k, ys, rfl, rfl, hk, hl, hys, rfl⟩ hK
  refine xif_dec (fun h => ?_) (fun h => ?_)
  · refine xidxn (h1 := by omega) (h := fun x hx => ?_)
    refine xgetE hx (h := ?_)
    refine xidxn (h1 := by omega) (h := fun y hy => ?_)
    refine xsetE x hy (hv := rfl) (h := ?_)
    rw [wrap_succ k (by omega)]
    refine hK (xs.length - (k + 1)) _ _ (by omega) ⟨k + 1, ys.set k x, rfl, rfl, by omega, by simpa using hl, set_upto hys (by omega) ?_, rfl⟩
    rw [List.getElem?_append_left (by omega), hx]
  have hk' : k = xs.length := by omega
  subst hk'
  refine xloop1 (fun n i As => ∃ (k : Nat) (ys : List UInt8), i = (k : Int) ∧ n = xs.length + 5 - k ∧ xs.length ≤ k ∧ k ≤ xs.length + 5 ∧ ys.length = xs.length + 5 ∧ (∀ j, j < k → ys[j]? = (xs ++ List.replicate 5 165)[j]?) ∧ As = [Ar U8 ⟨some ⟨b, 0, none⟩, l.n + 5, l.n + 5⟩ ys]) 5 ⟨xs.length, ys, by rw [ha], by omega, by omega, by omega, hl, hys, rfl⟩ ?_
  clear hys hl
  rintro n _ _ K' ⟨k, ys, rfl, rfl, hk0, hk, hl, hys, rfl⟩ hK'
  refine xif_dec (fun h => ?_) (fun h => ?_)
  · simp only at h
    refine xidxn (h1 := by omega) (h := fun y hy => ?_)
    refine xsetE 165 hy (hv := rfl) (h := ?_)
    rw [wrap_succ k (by omega)]
    refine hK' (xs.length + 5 - (k + 1)) _ _ (by omega) ⟨k + 1, ys.set k 165, rfl, rfl, by omega, by omega, by simpa using hl, set_upto hys (by omega) ?_, rfl⟩
    rw [List.getElem?_append_right (by omega), List.getElem?_replicate, if_pos (by omega)]
  simp only at h
  obtain rfl : ys = xs ++ List.replicate 5 165 := eq_upto (by simp [hl]) (fun j hj => hys j (by simp at hj; omega))
  refine xslc0 rfl (by omega) (by simp only; omega) ?_
  refine xars 0 fun zs h1 h2 => ?_
  have : zs = [] := List.eq_nil_of_length_eq_zero (by simp only [List.length_append, List.length_replicate] at h1 h2; omega)
  subst this
  refine xshift l.n xs (List.replicate 5 165) (by simp) ha ?_
  rw [Int.toNat_natCast]
  exact xret rfl

theorem KeptBytes_spec (l m : Sl) (xs : List UInt8) (hm : xs.length ≤ 140737488351232) :
    Ct Pr F_kit_KeptBytes [l.v, m.v] .one [.bool] [] ((RArs U8 l xs (List.replicate 5 165)).and (RAr U8 m xs)) (fun t Bs => t.1 = true ∧ Bs = []) := by
  refine spec1 c_kit_KeptBytes fun B hr => ?_
  obtain ⟨⟨h1, h2, h3, h4⟩, h5⟩ := hr
  have fa : Fro B l U8 xs := ⟨h3⟩
  have fb : Fro B m U8 xs := ⟨h5⟩
  have fc : Fro B ⟨l.p, l.c, l.c⟩ U8 (xs ++ List.replicate 5 165) := ⟨h4⟩
  have hmn := h5.1
  rw [List.length_replicate] at h2
  unfold kit_KeptBytes
  refine xcall0 (SameBytes_spec l m xs xs (by omega)) rdb ?_
  rintro ⟨c, _⟩ _ ⟨hc, rfl⟩
  obtain rfl : c = true := by simpa using hc
  rw [wrap_id ((m.n : Int) + 5) (by omega) (by omega)]
  refine app0 (ca1 (xjoin (xiff rfl (xif_dec (fun h => absurd h (by omega)) (fun h => ?_)))))
  refine xslc0 rfl (by omega) (by omega) ?_
  have e : ((m.n : Int) + 5).toNat = l.c := by omega
  rw [e]
  refine xloop1 (fun n i As => ∃ k : Nat, i = (k : Int) ∧ n = l.c - k ∧ xs.length ≤ k ∧ k ≤ l.c ∧ As = []) 5 ⟨xs.length, by rw [hmn], by omega, by omega, by omega, rfl⟩ ?_
  rintro n _ _ K ⟨k, rfl, rfl, hk0, hk, rfl⟩ hK
  refine xif_dec (fun h => ?_) (fun h => ?_)
  · simp only at h
    refine xidxn (h1 := by simp; omega) (h := fun y hy => ?_)
    refine xgetE hy (h := ?_)
    have : y = 165 := by
      rw [List.getElem?_append_right (by omega), List.getElem?_replicate, if_pos (by omega)] at hy
      exact (Option.some.inj hy).symm
    subst this
    refine xiff rfl ?_
    rw [wrap_succ k (by omega)]
    exact hK (l.c - (k + 1)) _ _ (by omega) ⟨k + 1, rfl, rfl, by omega, by omega, rfl⟩
  · exact xret ⟨rfl, rfl⟩

theorem SpoilBytes_spec (l : Sl) (xs : List UInt8) : Ct Pr F_kit_SpoilBytes [l.v] (.tup []) [] [Ar U8 l xs] emp (fun t Bs => Bs = []) := by
  refine spec0 c_kit_SpoilBytes fun B _ => ?_
  unfold kit_SpoilBytes
  refine xslc0 rfl (by omega) (by omega) ?_
  rw [Int.toNat_natCast]
  refine xars 0 fun zs h1 h2 => ?_
  refine xfact 0 (fun g hg => hg.cap_le) fun hM => ?_
  refine xshift l.c (xs ++ zs) [] (by simp) (by simpa using h2) (xar ?_)
  refine xloop1 (fun n i As => ∃ (k : Nat) (ys : List UInt8), i = (k : Int) ∧ n = l.c - k ∧ k ≤ l.c ∧ ys.length = l.c ∧ As = [Ar U8 ⟨l.p, l.c, l.c⟩ ys]) l.c ⟨0, xs ++ zs, rfl, rfl, by omega, by simpa using h2, rfl⟩ ?_
  rintro n _ _ K ⟨k, ys, rfl, rfl, hk, hl, rfl⟩ hK
  refine xif_dec (fun h => ?_) (fun h => ?_)
  · simp only at h
    refine xidxn (h1 := by omega) (h := fun y hy => ?_)
    refine xgetE hy (h := ?_)
    refine xidxn (h1 := by omega) (h := fun y' _ => ?_)
    refine xsetE (UInt8.ofNat (bits .xor .u8 (y.toNat : Int) 90).toNat) hy (hv := by
      have := bits_u8 .xor (y.toNat : Int) 90
      simp only [U8, List.set_cons_zero, List.cons.injEq, Value.int.injEq, true_and, and_true]
      rw [UInt8.toNat_ofNat']; omega) (h := ?_)
    rw [wrap_succ k (by omega)]
    exact hK (l.c - (k + 1)) _ _ (by omega) ⟨k + 1, _, rfl, rfl, by omega, by simpa using hl, rfl⟩
  · exact xdrop 0 (xret rfl)



end Go.Cx

namespace Go.Cx
open Go Go.Cf
set_option linter.unusedVariables false
set_option maxRecDepth 100000
variable {B : Base} {As F : List HP}

/-! Numbers. -/
theorem xdig1 (m : Nat) {b : Nat} {d t : TypeId} {e : TypeId} {K : ByteArray → WP} [p : Pick 0 As (Blk b [.int .u8 (UInt8.ofNat (48 + m)).toNat]) F] (hs : Pr.underlying t = some (.slice e)) (he : Pr.underlying e = some (.int .u8)) (hd : Pr.underlying d = some .string)
    (h : Ent B F (K (BA [UInt8.ofNat (48 + m)]))) : Ent B As (XRun Pr (convert t d (.slice (some ⟨b, 0, none⟩) 1 1)) .str K) :=
  xfold1 (Q := Ar U8 ⟨some ⟨b, 0, none⟩, 1, 1⟩ [UInt8.ofNat (48 + m)]) 0 (fun g hg => ⟨[], blk_ar [UInt8.ofNat (48 + m)] 1 rfl rfl hg⟩)
    (xstr (e := e) (s := ⟨some ⟨b, 0, none⟩, 1, 1⟩) (xs := [UInt8.ofNat (48 + m)]) (by simp) hs he hd (xdrop 0 h))
theorem dig_wrap (m : Nat) (h : m < 10) : IntKind.u8.wrap (IntKind.i64.wrap (48 + (m : Int))) = ((UInt8.ofNat (48 + m)).toNat : Int) := by
  have : ∀ m : Nat, m < 10 → IntKind.u8.wrap (IntKind.i64.wrap (48 + (m : Int))) = ((UInt8.ofNat (48 + m)).toNat : Int) := by decide +kernel
  exact this m h
theorem digits_len (u : Nat) (h : u ≤ 1000000000000000000) : (Lib.decDigits u).length ≤ 20 := by
  have := dec_len 19 u (by simp; omega)
  omega
theorem DigitsN_spec : ∀ (n u : Nat), u ≤ n → n ≤ 1000000000000000000 → Ct Pr F_ref30_Digits [.int .i64 (u : Int)] .one [.str] [] emp (fun t Bs => t.1 = BA (Lib.decDigits u) ∧ Bs = []) := by
  intro n
  induction n with
  | zero =>
    intro u hu hn
    obtain rfl : u = 0 := by omega
    refine spec1 c_ref30_Digits fun B hr => ?_
    unfold ref30_Digits
    refine xif_dec (fun h => absurd h (by omega)) (fun _ => xif_dec (fun _ => ?_) (fun h => absurd h (by decide)))
    refine xnew fun b => ?_
    rw [dig_wrap 0 (by decide)]
    refine xdig1 0 (e := T_uint8) (by kernel_rfl) (by kernel_rfl) (by kernel_rfl) (xkeep (l := []) (xret ⟨?_, rfl⟩))
    rw [dec_small (by decide)]
  | succ n ih =>
    intro u hu hn
    refine spec1 c_ref30_Digits fun B hr => ?_
    unfold ref30_Digits
    refine xif_dec (fun h => absurd h (by omega)) (fun _ => xif_dec (fun h => ?_) (fun h => ?_))
    · have h : u < 10 := by omega
      refine xnew fun b => ?_
      rw [dig_wrap u h]
      refine xdig1 u (e := T_uint8) (by kernel_rfl) (by kernel_rfl) (by kernel_rfl) (xkeep (l := []) (xret ⟨?_, rfl⟩))
      rw [dec_small h]
    · have h : ¬ u < 10 := by omega
      have ht : ((u : Int)).tmod 10 = ((u % 10 : Nat) : Int) := by simp [Int.tmod_eq_emod_of_nonneg]
      have hd : ((u : Int)).tdiv 10 = ((u / 10 : Nat) : Int) := by simp [Int.tdiv_eq_ediv_of_nonneg]
      rw [ht, hd, dig_wrap (u % 10) (by omega), wrap_id ((u / 10 : Nat) : Int) (by omega) (by omega)]
      have hlen := digits_len (u / 10) (by omega)
      have cat : ∀ {As' : List HP} {K : ByteArray → WP}, Ent B [] (K (BA (Lib.decDigits u))) → Ent B As' (XAsrt ((BA (Lib.decDigits (u / 10))).size + (BA [UInt8.ofNat (48 + u % 10)]).size ≤ 9223372036854775807) (K (BA (Lib.decDigits (u / 10)) ++ BA [UInt8.ofNat (48 + u % 10)]))) := by
        intro As' K hK
        refine xasrt (by rw [BA_size, BA_size]; simp; omega) ?_
        rw [BA_app, ← dec_big h]
        exact xkeep (l := []) hK
      have ihc := ih (u / 10) (by omega) (by omega)
      refine xdraw (xjoin (xasrt (by decide) (xasrt (by decide) (xand ?_ ?_))))
      · refine xcall0 ihc rdb ?_
        rintro ⟨t, _⟩ _ ⟨ht, rfl⟩
        obtain rfl : t = BA (Lib.decDigits (u / 10)) := ht
        refine app0 (ca1 (xnew fun b => ?_))
        exact xdig1 (u % 10) (e := T_uint8) (by kernel_rfl) (by kernel_rfl) (by kernel_rfl) (cat (xret ⟨rfl, rfl⟩))
      · refine xnew fun b => xand ?_ ?_
        · refine xcall0 ihc rdb ?_
          rintro ⟨t, _⟩ _ ⟨ht, rfl⟩
          obtain rfl : t = BA (Lib.decDigits (u / 10)) := ht
          refine app0 (ca1 ?_)
          exact xdig1 (u % 10) (e := T_uint8) (by kernel_rfl) (by kernel_rfl) (by kernel_rfl) (cat (xret ⟨rfl, rfl⟩))
        · refine xdig1 (u % 10) (e := T_uint8) (by kernel_rfl) (by kernel_rfl) (by kernel_rfl) ?_
          refine xcall0 ihc rdb ?_
          rintro ⟨t, _⟩ _ ⟨ht, rfl⟩
          obtain rfl : t = BA (Lib.decDigits (u / 10)) := ht
          exact app0 (ca1 (cat (xret ⟨rfl, rfl⟩)))
theorem Digits_spec (v : Int) (h0 : -9999999999999 ≤ v) (h1 : v ≤ 9999999999999) : Ct Pr F_ref30_Digits [.int .i64 v] .one [.str] [] emp (fun t Bs => t.1 = BA (Lib.itoa v) ∧ Bs = []) := by
  by_cases hv : v < 0
  · refine spec1 c_ref30_Digits fun B hr => ?_
    unfold ref30_Digits
    refine xif_dec (fun _ => ?_) (fun h => absurd hv h)
    obtain ⟨u, hu⟩ : ∃ u : Nat, 0 - v = (u : Int) := ⟨(0 - v).toNat, by omega⟩
    rw [wrap_id _ (by omega) (by omega), hu]
    refine xcall0 (DigitsN_spec u u (Nat.le_refl _) (by omega)) rdb ?_
    rintro ⟨t, _⟩ _ ⟨ht, rfl⟩
    obtain rfl : t = BA (Lib.decDigits u) := ht
    have hlen := digits_len u (by omega)
    have e45 : (⟨#[45]⟩ : ByteArray) = BA [45] := rfl
    refine app0 (ca1 ?_)
    rw [e45]
    refine xasrt (by rw [BA_size, BA_size]; simp; omega) ?_
    rw [BA_app]
    refine xret ⟨?_, rfl⟩
    unfold Lib.itoa
    rw [if_pos hv, show v.natAbs = u by omega]; rfl
  · obtain ⟨u, rfl⟩ := Int.eq_ofNat_of_zero_le (by omega : 0 ≤ v)
    have e : Lib.itoa (u : Int) = Lib.decDigits u := by unfold Lib.itoa; rw [if_neg (by omega), Int.toNat_natCast]
    rw [e]
    exact DigitsN_spec u u (Nat.le_refl _) (by omega)

end Go.Cx

namespace Go.Cx
open Go Go.Cf
set_option linter.unusedVariables false
set_option maxRecDepth 100000
variable {B : Base} {As F : List HP}

/-! Rows of numbers, words of lists, names, bytes. -/
def rowF : List Int → List UInt8 → Int × List UInt8
  | [], out => (0, out)
  | v :: r, out => if v < -9999999999999 ∨ v > 9999999999999 then (3, []) else rowF r (out ++ 32 :: Lib.itoa v)
theorem row_spec (s : Sl) (vs : List Int) (hl : vs.length ≤ 100) : Ct Pr F_ref30_row [s.v] (.tup [none, none]) [.str, .int .i64] [] (RAr I64 s vs) (fun t Bs => t.2.1 = (rowF vs []).1 ∧ t.1 = BA (rowF vs []).2 ∧ Bs = []) := by
  refine spec2 c_ref30_row fun B hr => ?_
  haveI : Fro B s I64 vs := ⟨hr⟩
  have hs : vs.length = s.n := hr.1
  unfold ref30_row
  refine xloop2 (fun m (o : ByteArray) (i : Int) As' => ∃ (k : Nat) (out : List UInt8), i = (k : Int) ∧ o = BA out ∧ m = vs.length - k ∧ k ≤ vs.length ∧ rowF vs [] = rowF (vs.drop k) out ∧ out.length ≤ 30 * k ∧ As' = []) vs.length ⟨0, [], rfl, rfl, rfl, by omega, rfl, by simp, rfl⟩ ?_
  rintro m o i As' K ⟨k, out, rfl, rfl, rfl, hk, hrow, hol, rfl⟩ hK
  refine xif_dec (fun hp => ?_) (fun hp => ?_)
  · have hp : k < vs.length := by omega
    obtain ⟨v, hv⟩ : ∃ v, vs[k]? = some v := ⟨_, List.getElem?_eq_getElem hp⟩
    have hd : vs.drop k = v :: vs.drop (k + 1) := by rw [List.drop_eq_getElem_cons hp, (List.getElem?_eq_some_iff.1 hv).2]
    rw [hd] at hrow
    simp only [rowF] at hrow
    refine xelJ k v hv (h := ?_)
    refine xjoin1 (fun (c : Bool) As' => As' = [] ∧ c = decide (v < -9999999999999 ∨ v > 9999999999999)) (fun K2 hK2 => ?_) ?_
    · refine xif_dec (fun h => hK2 _ _ ⟨rfl, ?_⟩) (fun h => xelJ k v hv (h := hK2 _ _ ⟨rfl, ?_⟩))
      · exact (decide_eq_true (.inl h)).symm
      · rw [Bool.eq_iff_iff]
        simp only [decide_eq_true_eq]
        exact ⟨fun h2 => .inr h2, fun h2 => h2.resolve_left h⟩
    rintro c As2 ⟨rfl, rfl⟩
    refine xif_dec (fun h => xret ?_) (fun h => ?_)
    · rw [if_pos h] at hrow; rw [hrow]; exact ⟨rfl, rfl, rfl⟩
    · rw [if_neg h] at hrow
      have e32 : (⟨#[32]⟩ : ByteArray) = BA [32] := rfl
      rw [e32, BA_app]
      refine xasrt (by rw [BA_size, BA_size]; simp; omega) ?_
      refine xelJ k v hv (h := ?_)
      refine xcall0 (Digits_spec v (by omega) (by omega)) rdb ?_
      rintro ⟨t, _⟩ _ ⟨ht, rfl⟩
      obtain rfl : t = BA (Lib.itoa v) := ht
      have hil := itoa_len (n := v) (by omega) (by omega)
      refine app0 (ca1 (xasrt (by rw [BA_size, BA_size]; simp; omega) ?_))
      rw [BA_app, wrap_succ k (by omega)]
      have e : out ++ [32] ++ Lib.itoa v = out ++ 32 :: Lib.itoa v := by simp
      rw [e]
      refine hK (vs.length - (k + 1)) _ _ _ (by omega) ⟨k + 1, _, rfl, rfl, rfl, by omega, hrow, ?_, rfl⟩
      simp only [List.length_append, List.length_cons]; omega
  · rw [List.drop_of_length_le (by omega)] at hrow
    rw [hrow]; exact xret ⟨rfl, rfl, rfl⟩

theorem named_spec (s : Sl) (l : List (List UInt8)) (n : Int) (h4 : l.length = 4) (hm : ∀ w ∈ l, w.length ≤ 100) : Ct Pr F_ref30_named [s.v, .int .i64 n] (.tup [none, none]) [.str, .int .i64] [] (RAr Cf.ST s (l.map BA))
    (fun t Bs => t.2.1 = (if n < 1 ∨ n > 4 then 3 else 0) ∧ t.1 = BA (if n < 1 ∨ n > 4 then [] else 32 :: (l[(n - 1).toNat]?).getD []) ∧ Bs = []) := by
  refine spec2 c_ref30_named fun B hr => ?_
  haveI : Fro B s Cf.ST (l.map BA) := ⟨hr⟩
  have hs : (l.map BA).length = s.n := hr.1
  rw [List.length_map] at hs
  unfold ref30_named
  have e : (s.n : Int) = 4 := by omega
  rw [e]
  refine xif (fun h => xret ?_) (fun h => ?_)
  · have h : n < 1 ∨ n > 4 := by simpa using h
    rw [if_pos h, if_pos h]; exact ⟨rfl, rfl, rfl⟩
  · have h : ¬ (n < 1 ∨ n > 4) := by simpa using h
    rw [if_neg h, if_neg h, wrap_id _ (by omega) (by omega)]
    obtain ⟨k, hk⟩ : ∃ k : Nat, n - 1 = (k : Int) := ⟨(n - 1).toNat, by omega⟩
    rw [hk, Int.toNat_natCast]
    obtain ⟨w, hw1⟩ : ∃ w, l[k]? = some w := ⟨_, List.getElem?_eq_getElem (by omega)⟩
    refine xw k rfl hw1 fun a hg hc => hg _ _ ?_
    have hwl := hm w (List.mem_of_getElem? hw1)
    rw [hw1]
    have e32 : (⟨#[32]⟩ : ByteArray) = BA [32] := rfl
    rw [e32]
    refine xasrt (by rw [BA_size, BA_size]; simp; omega) ?_
    rw [BA_app]
    exact xret ⟨rfl, rfl, rfl⟩
theorem both_spec (a b : List UInt8) (e f : Int) (hl : a.length + b.length ≤ 4611686018427387904) : Ct Pr F_ref30_both [.string (BA a), .int .i64 e, .string (BA b), .int .i64 f] (.tup [none, none]) [.str, .int .i64] [] emp
    (fun t Bs => t.2.1 = (if e ≠ 0 then e else f) ∧ t.1 = BA (if e ≠ 0 then [] else if f ≠ 0 then [] else a ++ b) ∧ Bs = []) := by
  refine spec2 c_ref30_both fun B hr => ?_
  unfold ref30_both
  refine xif (fun h => xret ?_) (fun h => xif (fun h2 => xret ?_) (fun h2 => ?_))
  · have h : e ≠ 0 := by simpa using h
    rw [if_pos h, if_pos h]; exact ⟨rfl, rfl, rfl⟩
  · have h : ¬ e ≠ 0 := by simpa using h
    have h2 : f ≠ 0 := by simpa using h2
    rw [if_neg h, if_neg h, if_pos h2]; exact ⟨rfl, rfl, rfl⟩
  · have h : ¬ e ≠ 0 := by simpa using h
    have h2 : ¬ f ≠ 0 := by simpa using h2
    rw [if_neg h, if_neg h, if_neg h2]
    refine xasrt (by rw [BA_size, BA_size]; omega) ?_
    rw [BA_app]
    exact xret ⟨(Classical.not_not.1 h2).symm, rfl, rfl⟩
theorem name_spec (s : List UInt8) (hl : s.length ≤ 1048576) : Ct Pr F_ref30_name [.string (BA s)] (.tup [none, none]) [.str, .int .i64] [] emp
    (fun t Bs => t.2.1 = (if s = [] ∨ (32 : UInt8) ∈ s ∨ (10 : UInt8) ∈ s then 8 else 0) ∧ t.1 = BA (if s = [] ∨ (32 : UInt8) ∈ s ∨ (10 : UInt8) ∈ s then [] else 32 :: s) ∧ Bs = []) := by
  refine spec2 c_ref30_name fun B hr => ?_
  unfold ref30_name
  rw [BA_size]
  refine xloop1 (fun m (i : Int) As' => ∃ k : Nat, i = (k : Int) ∧ m = s.length - k ∧ k ≤ s.length ∧ (32 : UInt8) ∉ s.take k ∧ (10 : UInt8) ∉ s.take k ∧ As' = []) s.length ⟨0, rfl, rfl, by omega, by simp, by simp, rfl⟩ ?_
  rintro m i As' K ⟨k, rfl, rfl, hk, h32, h10, rfl⟩ hK
  refine xif_dec (fun hp => ?_) (fun hp => ?_)
  · have hp : k < s.length := by omega
    obtain ⟨b, hb⟩ : ∃ v, s[k]? = some v := ⟨_, List.getElem?_eq_getElem hp⟩
    have hm := List.mem_of_getElem? hb
    refine xbyte (k := k) rfl (BA_at hb) ?_
    rw [show ((b.toNat : Int) == 32) = (b == 32) from u8_eq (n := 32) (by decide)]
    refine xjoin1 (fun (c : Bool) As' => As' = [] ∧ c = decide (b = 32 ∨ b = 10)) (fun K2 hK2 => ?_) ?_
    · refine xif (fun h => hK2 _ _ ⟨rfl, ?_⟩) (fun h => xbyte (k := k) rfl (BA_at hb) (hK2 _ _ ⟨rfl, ?_⟩))
      · exact (decide_eq_true (.inl (eq_of_beq h))).symm
      · have h := beq_eq_false_iff_ne.1 h
        rw [show ((b.toNat : Int) == 10) = (b == 10) from u8_eq (n := 10) (by decide), Bool.eq_iff_iff]
        simp only [beq_iff_eq, decide_eq_true_eq]
        exact ⟨fun h2 => .inr h2, fun h2 => h2.resolve_left h⟩
    rintro c As2 ⟨rfl, rfl⟩
    refine xif_dec (fun h => xret ?_) (fun h => ?_)
    · have : s = [] ∨ (32 : UInt8) ∈ s ∨ (10 : UInt8) ∈ s := by
        rcases h with h | h <;> subst h
        · exact .inr (.inl hm)
        · exact .inr (.inr hm)
      rw [if_pos this, if_pos this]; exact ⟨rfl, rfl, rfl⟩
    · simp only [not_or] at h
      rw [wrap_succ k (by omega)]
      refine hK (s.length - (k + 1)) _ _ (by omega) ⟨k + 1, rfl, rfl, by omega, ?_, ?_, rfl⟩
      · rw [← take_snoc27 hb]; simp only [List.mem_append, List.mem_singleton, not_or]; exact ⟨h32, fun e => h.1 e.symm⟩
      · rw [← take_snoc27 hb]; simp only [List.mem_append, List.mem_singleton, not_or]; exact ⟨h10, fun e => h.2 e.symm⟩
  · rw [List.take_of_length_le (by omega)] at h32 h10
    rw [BA_toList, empty_list]
    refine xif (fun h => xret ?_) (fun h => ?_)
    · have : s = [] ∨ (32 : UInt8) ∈ s ∨ (10 : UInt8) ∈ s := .inl (eq_of_beq h)
      rw [if_pos this, if_pos this]; exact ⟨rfl, rfl, rfl⟩
    · have : ¬ (s = [] ∨ (32 : UInt8) ∈ s ∨ (10 : UInt8) ∈ s) := by
        simp only [not_or]; exact ⟨beq_eq_false_iff_ne.1 h, h32, h10⟩
      rw [if_neg this, if_neg this]
      have e32 : (⟨#[32]⟩ : ByteArray) = BA [32] := rfl
      rw [e32]
      refine xasrt (by simp only [BA_size, List.length_cons, List.length_nil]; omega) ?_
      rw [BA_app]
      exact xret ⟨rfl, rfl, rfl⟩
theorem Hex_spec (s : Sl) (l : List UInt8) (hl : l.length ≤ 1048576) : Ct Pr F_ref30_Hex [s.v] .one [.str] [] (RAr U8 s l) (fun t Bs => t.1 = BA (hexM l) ∧ Bs = []) := by
  refine spec1 c_ref30_Hex fun B hr => ?_
  haveI : Fro B s U8 l := ⟨hr⟩
  have hs : l.length = s.n := hr.1
  unfold ref30_Hex
  refine xif (fun h => xret ⟨?_, rfl⟩) (fun h => ?_)
  · have : l = [] := List.length_eq_zero_iff.1 (by have : (s.n : Int) = 0 := by simpa using h
                                                   omega)
    subst this; rfl
  have hne : l ≠ [] := fun e => by subst e; simp at hs; rw [← hs] at h; simp at h
  refine xnone U8 ?_
  refine xloop2 (fun m (out : Sl) (x : Int) As' => ∃ k : Nat, x = (k : Int) ∧ m = l.length - k ∧ k ≤ l.length ∧ As' = [Ar U8 out (hexL (l.take k))]) l.length ⟨0, rfl, rfl, by omega, rfl⟩ ?_
  rintro m out x As' K ⟨k, rfl, rfl, hk, rfl⟩ hK
  refine xif_dec (fun hp => ?_) (fun hp => ?_)
  · have hp : k < l.length := by omega
    obtain ⟨x, hx⟩ : ∃ b, l[k]? = some b := ⟨_, List.getElem?_eq_getElem hp⟩
    have hxl := UInt8.toNat_lt x
    have hlen := hexL_len (l.take k)
    rw [List.length_take] at hlen
    have w1 : IntKind.i64.wrap (x.toNat : Int) = (x.toNat : Int) := wrap_id _ (by omega) (by omega)
    have hd : ((x.toNat : Int)).tdiv 16 = ((x.toNat / 16 : Nat) : Int) := by simp [Int.tdiv_eq_ediv_of_nonneg]
    have ht : ((x.toNat : Int)).tmod 16 = ((x.toNat % 16 : Nat) : Int) := by simp [Int.tmod_eq_emod_of_nonneg]
    refine xidxn (E := U8) (xs := l) (s := s) (h1 := hp) (h := fun y hy => ?_)
    obtain rfl : y = x := by rw [hx] at hy; exact (Option.some.inj hy).symm
    refine xgetE (E := U8) (xs := l) hy (h := ?_)
    refine xasrt (by decide) ?_
    rw [w1, hd, wrap_id ((y.toNat / 16 : Nat) : Int) (by omega) (by omega)]
    refine xbyte (k := y.toNat / 16) rfl (b := hexD (y.toNat / 16)) (dig_at (by omega)) ?_
    refine xnew fun b1 => ?_
    refine xapp1 (E := U8) (hexD (y.toNat / 16)) (hb := by omega) (h := fun s2 => ?_)
    refine xidxn (E := U8) (xs := l) (s := s) (h1 := hp) (h := fun z hz => ?_)
    obtain rfl : z = y := by rw [hx] at hz; exact (Option.some.inj hz).symm
    refine xgetE (E := U8) (xs := l) hz (h := ?_)
    refine xasrt (by decide) ?_
    rw [w1, ht]
    refine xbyte (k := z.toNat % 16) rfl (b := hexD (z.toNat % 16)) (dig_at (by omega)) ?_
    refine xnew fun b2 => ?_
    refine xapp1 (E := U8) (hexD (z.toNat % 16)) (hb := by rw [List.length_append]; simp only [List.length_cons, List.length_nil]; omega) (h := fun s3 => ?_)
    rw [wrap_succ k (by omega)]
    have e : hexL (l.take k) ++ [hexD (z.toNat / 16)] ++ [hexD (z.toNat % 16)] = hexL (l.take (k + 1)) := by
      rw [← take_snoc27 hx, hexL_app, List.append_assoc]; rfl
    rw [e]
    exact xuse [Ar U8 s3 (hexL (l.take (k + 1)))] (hK (l.length - (k + 1)) _ _ _ (by omega) ⟨k + 1, rfl, rfl, by omega, rfl⟩)
  · rw [List.take_of_length_le (by omega)]
    have hlen := hexL_len l
    have hp : 0 < l.length := List.length_pos_iff.2 hne
    refine xstr (e := T_uint8) (s := out) (xs := hexL l) (by omega) (by kernel_rfl) (by kernel_rfl) (by kernel_rfl) ?_
    refine xkeep (l := []) (xret ⟨?_, rfl⟩)
    unfold hexM; rw [if_neg hne]; rfl

end Go.Cx

namespace Go.Cx
open Go Go.Cf
set_option linter.unusedVariables false
set_option maxRecDepth 100000
variable {B : Base} {As F : List HP}

def sameB (a b : StepV) : Bool := a.kind == b.kind && a.num == b.num && a.way == b.way && a.bit == b.bit && a.unit == b.unit && a.addr == b.addr && a.id == b.id && a.name == b.name && a.bytes == b.bytes
theorem sameB_iff {a b : StepV} : sameB a b = true ↔ a = b := by
  obtain ⟨a1, a2, a3, a4, a5, a6, a7, a8, a9⟩ := a
  obtain ⟨b1, b2, b3, b4, b5, b6, b7, b8, b9⟩ := b
  simp only [sameB, Bool.and_eq_true, beq_iff_eq, StepV.mk.injEq]
  constructor
  · rintro ⟨⟨⟨⟨⟨⟨⟨⟨h1, h2⟩, h3⟩, h4⟩, h5⟩, h6⟩, h7⟩, h8⟩, h9⟩; exact ⟨h1, h2, h3, h4, h5, h6, h7, h8, h9⟩
  · rintro ⟨h1, h2, h3, h4, h5, h6, h7, h8, h9⟩; exact ⟨⟨⟨⟨⟨⟨⟨⟨h1, h2⟩, h3⟩, h4⟩, h5⟩, h6⟩, h7⟩, h8⟩, h9⟩
theorem Same_spec (a b : StepV) (sa sb : Sl) (hb : a.bytes.length ≤ 140737488355328) : Ct Pr F_ref30_Same [.agg #[.int .i64 a.kind, .int .i64 a.num, .int .i64 a.way, .int .i64 a.bit, .int .i64 a.unit, .int .i64 a.addr, .int .i64 a.id, .string (BA a.name), sa.v], .agg #[.int .i64 b.kind, .int .i64 b.num, .int .i64 b.way, .int .i64 b.bit, .int .i64 b.unit, .int .i64 b.addr, .int .i64 b.id, .string (BA b.name), sb.v]] .one [.bool] [] ((RAr U8 sa a.bytes).and (RAr U8 sb b.bytes))
    (fun t Bs => t.1 = sameB a b ∧ Bs = []) := by
  refine spec1 c_ref30_Same fun B hr => ?_
  haveI : Fro B sa U8 a.bytes := ⟨hr.1⟩
  haveI : Fro B sb U8 b.bytes := ⟨hr.2⟩
  unfold ref30_Same
  refine xnew fun b1 => xnew fun b2 => ?_
  iterate 2 (refine xget (h := ?_))
  iterate 6 (refine xandGG (h := ?_))
  refine xandGG (s := .str) (h := ?_)
  simp only [BA_toList]
  refine xjoin1 (fun (c : Bool) As' => As' = [] ∧ c = sameB a b) (fun K hK => ?_) ?_
  · refine xif (fun h => ?_) (fun h => xkeep (l := []) (hK _ _ ⟨rfl, ?_⟩))
    · refine xget (s := .slice) (x := sa) (h := ?_)
      refine xget (s := .slice) (x := sb) (h := ?_)
      refine xcall0 (SameBytes_spec sa sb a.bytes b.bytes hb) rdb ?_
      rintro ⟨(c : Bool), _⟩ _ ⟨hc, rfl⟩
      obtain rfl : c = decide (a.bytes = b.bytes) := hc
      refine app0 (ca1 (xkeep (l := []) (hK _ _ ⟨rfl, ?_⟩)))
      unfold sameB
      rw [h, Bool.true_and, Bool.eq_iff_iff]; simp
    · unfold sameB
      rw [h]; rfl
  rintro c As2 ⟨rfl, rfl⟩
  exact xret ⟨rfl, rfl⟩

def ownM (s : StepV) : StepV :=
  if s.kind = 7 ∨ s.kind = 8 then { ({ step0 with kind := s.kind, num := s.num } : StepV) with way := s.way }
  else if s.kind = 9 then { ({ step0 with kind := s.kind, num := s.num } : StepV) with way := s.way, bit := s.bit }
  else if s.kind = 10 then { ({ step0 with kind := s.kind, num := s.num } : StepV) with unit := s.unit, bit := s.bit, addr := s.addr }
  else if s.kind = 11 then { ({ step0 with kind := s.kind, num := s.num } : StepV) with id := s.id, unit := s.unit, addr := s.addr }
  else if s.kind = 12 then { ({ step0 with kind := s.kind } : StepV) with bytes := s.bytes }
  else if s.kind = 15 then { ({ step0 with kind := s.kind } : StepV) with name := s.name }
  else { step0 with kind := s.kind, num := s.num }
theorem spec9b {P : Program} {f : FuncId} {args : List Value} {rs : Rs} {s0 s1 s2 s3 s4 s5 s6 s7 s8 : Sh} {pre : List HP} {rd : HP} {post : Tup [s0, s1, s2, s3, s4, s5, s6, s7, s8] → List HP → Prop} {φ : (s0.ty → s1.ty → s2.ty → s3.ty → s4.ty → s5.ty → s6.ty → s7.ty → s8.ty → WP) → WP}
    (c : ∀ {K : s0.ty → s1.ty → s2.ty → s3.ty → s4.ty → s5.ty → s6.ty → s7.ty → s8.ty → WP} {w : World}, φ K w → XCall P f args rs [s0, s1, s2, s3, s4, s5, s6, s7, s8] K w)
    (h : ∀ B : Base, rd (frz B.W B.h0) → Ent B pre (φ fun x0 x1 x2 x3 x4 x5 x6 x7 x8 => Ret B post (x0, x1, x2, x3, x4, x5, x6, x7, x8, ()))) : Ct P f args rs [s0, s1, s2, s3, s4, s5, s6, s7, s8] pre rd post :=
  spec_gen (ss := [s0, s1, s2, s3, s4, s5, s6, s7, s8]) (φ := φ) c h
theorem ca9b {s0 s1 s2 s3 s4 s5 s6 s7 s8 : Sh} {K : s0.ty → s1.ty → s2.ty → s3.ty → s4.ty → s5.ty → s6.ty → s7.ty → s8.ty → WP} {x0 : s0.ty} {x1 : s1.ty} {x2 : s2.ty} {x3 : s3.ty} {x4 : s4.ty} {x5 : s5.ty} {x6 : s6.ty} {x7 : s7.ty} {x8 : s8.ty} {u : Unit}
    (h : Ent B As (K x0 x1 x2 x3 x4 x5 x6 x7 x8)) : Ent B As (Cur.app [s0, s1, s2, s3, s4, s5, s6, s7, s8] K (x0, x1, x2, x3, x4, x5, x6, x7, x8, u)) := h
set_option maxHeartbeats 1000000 in
theorem own30_spec (s : StepV) (sl : Sl) : Ct Pr F_ref30_own [.agg #[.int .i64 s.kind, .int .i64 s.num, .int .i64 s.way, .int .i64 s.bit, .int .i64 s.unit, .int .i64 s.addr, .int .i64 s.id, .string (BA s.name), sl.v]] .agg [.int .i64, .int .i64, .int .i64, .int .i64, .int .i64, .int .i64, .int .i64, .str, .slice] [] emp
    (fun t Bs => t = ((ownM s).kind, (ownM s).num, (ownM s).way, (ownM s).bit, (ownM s).unit, (ownM s).addr, (ownM s).id, BA (ownM s).name, (if s.kind = 12 then sl else ⟨none, 0, 0⟩), ()) ∧ Bs = []) := by
  refine spec9b c_ref30_own fun B hr => ?_
  unfold ref30_own
  refine xnew fun b => xnew fun b1 => ?_
  iterate 2 (refine xget (h := ?_))
  refine xnew fun b2 => ?_
  iterate 9 (refine xset (h := ?_))
  refine xget (h := ?_)
  refine xuse [Blk b2 [.int .i64 s.kind, .int .i64 s.num, .int .i64 0, .int .i64 0, .int .i64 0, .int .i64 0, .int .i64 0, .string ByteArray.empty, .slice none 0 0], Blk b1 [.int .i64 0, .int .i64 0, .int .i64 0, .int .i64 0, .int .i64 0, .int .i64 0, .int .i64 0, .string ByteArray.empty, .slice none 0 0], Blk b [.int .i64 s.kind, .int .i64 s.num, .int .i64 s.way, .int .i64 s.bit, .int .i64 s.unit, .int .i64 s.addr, .int .i64 s.id, .string (BA s.name), sl.v]] ?_
  refine xjoin1 (fun (c : Bool) As' => As' = [Blk b2 [.int .i64 s.kind, .int .i64 s.num, .int .i64 0, .int .i64 0, .int .i64 0, .int .i64 0, .int .i64 0, .string ByteArray.empty, .slice none 0 0], Blk b1 [.int .i64 0, .int .i64 0, .int .i64 0, .int .i64 0, .int .i64 0, .int .i64 0, .int .i64 0, .string ByteArray.empty, .slice none 0 0], Blk b [.int .i64 s.kind, .int .i64 s.num, .int .i64 s.way, .int .i64 s.bit, .int .i64 s.unit, .int .i64 s.addr, .int .i64 s.id, .string (BA s.name), sl.v]] ∧ c = decide (s.kind = 7 ∨ s.kind = 8)) (fun K hK => ?_) ?_
  · refine xif (fun h => hK _ _ ⟨rfl, ?_⟩) (fun h => hK _ _ ⟨rfl, ?_⟩)
    · rw [h]; exact (decide_eq_true (.inl (eq_of_beq h))).symm
    · have h := beq_eq_false_iff_ne.1 h
      rw [Bool.eq_iff_iff]
      simp only [beq_iff_eq, decide_eq_true_eq]
      exact ⟨fun h2 => .inr h2, fun h2 => h2.resolve_left h⟩
  rintro c As2 ⟨rfl, rfl⟩
  refine xjoin0 (fun As' => As' = [Blk b2 [.int .i64 (ownM s).kind, .int .i64 (ownM s).num, .int .i64 (ownM s).way, .int .i64 (ownM s).bit, .int .i64 (ownM s).unit, .int .i64 (ownM s).addr, .int .i64 (ownM s).id, .string (BA (ownM s).name), (if s.kind = 12 then sl else ⟨none, 0, 0⟩ : Sl).v], Blk b1 [.int .i64 0, .int .i64 0, .int .i64 0, .int .i64 0, .int .i64 0, .int .i64 0, .int .i64 0, .string ByteArray.empty, .slice none 0 0]]) (fun K hK => ?_) ?_
  · have fin : ∀ (x : StepV) (so : Sl), ownM s = x → (if s.kind = 12 then sl else ⟨none, 0, 0⟩ : Sl) = so → Ent B [Blk b2 [.int .i64 x.kind, .int .i64 x.num, .int .i64 x.way, .int .i64 x.bit, .int .i64 x.unit, .int .i64 x.addr, .int .i64 x.id, .string (BA x.name), so.v], Blk b1 [.int .i64 0, .int .i64 0, .int .i64 0, .int .i64 0, .int .i64 0, .int .i64 0, .int .i64 0, .string ByteArray.empty, .slice none 0 0], Blk b [.int .i64 s.kind, .int .i64 s.num, .int .i64 s.way, .int .i64 s.bit, .int .i64 s.unit, .int .i64 s.addr, .int .i64 s.id, .string (BA s.name), sl.v]] K := by
      intro x so h1 h2
      subst h1 h2
      exact xuse [Blk b2 [.int .i64 (ownM s).kind, .int .i64 (ownM s).num, .int .i64 (ownM s).way, .int .i64 (ownM s).bit, .int .i64 (ownM s).unit, .int .i64 (ownM s).addr, .int .i64 (ownM s).id, .string (BA (ownM s).name), (if s.kind = 12 then sl else ⟨none, 0, 0⟩ : Sl).v], Blk b1 [.int .i64 0, .int .i64 0, .int .i64 0, .int .i64 0, .int .i64 0, .int .i64 0, .int .i64 0, .string ByteArray.empty, .slice none 0 0]] (hK _ rfl)
    refine xif_dec (fun h => ?_) (fun h78 => xjoin (xif (fun h => ?_) (fun h9 => xjoin (xif (fun h => ?_) (fun h10 => xjoin (xif (fun h => ?_) (fun h11 => xjoin (xif (fun h => ?_) (fun h12 => xjoin (xif (fun h => ?_) (fun h15 => ?_)))))))))))
    · refine xget (h := xset (h := ?_))
      exact fin { ({ step0 with kind := s.kind, num := s.num } : StepV) with way := s.way } ⟨none, 0, 0⟩ (by unfold ownM; rw [if_pos h]) (if_neg (by omega))
    · have h : s.kind = 9 := eq_of_beq h
      refine xget (h := xset (h := xget (h := xset (h := ?_))))
      exact fin { ({ step0 with kind := s.kind, num := s.num } : StepV) with way := s.way, bit := s.bit } ⟨none, 0, 0⟩ (by unfold ownM; rw [if_neg h78, if_pos h]) (if_neg (by omega))
    · have h : s.kind = 10 := eq_of_beq h
      refine xget (h := xset (h := xget (h := xset (h := xget (h := xset (h := ?_))))))
      exact fin { ({ step0 with kind := s.kind, num := s.num } : StepV) with unit := s.unit, bit := s.bit, addr := s.addr } ⟨none, 0, 0⟩ (by unfold ownM; rw [if_neg h78, if_neg (by omega), if_pos h]) (if_neg (by omega))
    · have h : s.kind = 11 := eq_of_beq h
      refine xget (h := xset (h := xget (h := xset (h := xget (h := xset (h := ?_))))))
      exact fin { ({ step0 with kind := s.kind, num := s.num } : StepV) with id := s.id, unit := s.unit, addr := s.addr } ⟨none, 0, 0⟩ (by unfold ownM; rw [if_neg h78, if_neg (by omega), if_neg (by omega), if_pos h]) (if_neg (by omega))
    · have h : s.kind = 12 := eq_of_beq h
      refine xset (h := xget (s := .slice) (x := sl) (h := xset (h := ?_)))
      exact fin { ({ step0 with kind := s.kind } : StepV) with bytes := s.bytes } sl (by unfold ownM; rw [if_neg h78, if_neg (by omega), if_neg (by omega), if_neg (by omega), if_pos h]) (if_pos h)
    · have h : s.kind = 15 := eq_of_beq h
      refine xset (h := xget (h := xset (h := ?_)))
      exact fin { ({ step0 with kind := s.kind } : StepV) with name := s.name } ⟨none, 0, 0⟩ (by unfold ownM; rw [if_neg h78, if_neg (by omega), if_neg (by omega), if_neg (by omega), if_neg (by omega), if_pos h]) (if_neg (by omega))
    · have h9 : ¬ s.kind = 9 := beq_eq_false_iff_ne.1 h9
      have h10 : ¬ s.kind = 10 := beq_eq_false_iff_ne.1 h10
      have h11 : ¬ s.kind = 11 := beq_eq_false_iff_ne.1 h11
      have h12 : ¬ s.kind = 12 := beq_eq_false_iff_ne.1 h12
      have h15 : ¬ s.kind = 15 := beq_eq_false_iff_ne.1 h15
      exact fin { step0 with kind := s.kind, num := s.num } ⟨none, 0, 0⟩ (by unfold ownM; rw [if_neg h78, if_neg h9, if_neg h10, if_neg h11, if_neg h12, if_neg h15]) (if_neg h12)
  rintro As2 rfl
  iterate 8 (refine xget (h := ?_))
  refine xget (s := .slice) (x := (if s.kind = 12 then sl else ⟨none, 0, 0⟩ : Sl)) (h := ?_)
  iterate 9 (refine xset (h := ?_))
  iterate 8 (refine xget (h := ?_))
  refine xget (s := .slice) (x := (if s.kind = 12 then sl else ⟨none, 0, 0⟩ : Sl)) (h := ?_)
  exact xkeep (l := []) (xret ⟨rfl, rfl⟩)

/-! What stands behind the first word. -/
def fsOf (k : Int) : List UInt8 := if k = 7 ∨ k = 8 then [119, 110] else if k = 9 then [119, 110, 98] else if k = 10 then [117, 107, 97, 110] else if k = 11 then [105, 117, 97, 110] else if k = 12 then [104] else if k = 15 then [115] else [110]
theorem rowF1 (a : Int) : rowF [a] [] = if a < -9999999999999 ∨ a > 9999999999999 then (3, []) else (0, 32 :: Lib.itoa a) := by simp [rowF]
theorem rowF2 (a b : Int) : rowF [a, b] [] = if a < -9999999999999 ∨ a > 9999999999999 then (3, []) else if b < -9999999999999 ∨ b > 9999999999999 then (3, []) else (0, 32 :: Lib.itoa a ++ 32 :: Lib.itoa b) := by simp [rowF]
theorem wF110 (s : StepV) : wordF s 110 = if s.num < -9999999999999 ∨ s.num > 9999999999999 then (3, []) else (0, Lib.itoa s.num) := rfl
theorem wF98 (s : StepV) : wordF s 98 = if s.bit < -9999999999999 ∨ s.bit > 9999999999999 then (3, []) else (0, Lib.itoa s.bit) := rfl
theorem wF117 (s : StepV) : wordF s 117 = if s.unit < -9999999999999 ∨ s.unit > 9999999999999 then (3, []) else (0, Lib.itoa s.unit) := rfl
theorem wF97 (s : StepV) : wordF s 97 = if s.addr < -9999999999999 ∨ s.addr > 9999999999999 then (3, []) else (0, Lib.itoa s.addr) := rfl
theorem wF105 (s : StepV) : wordF s 105 = if s.id < -9999999999999 ∨ s.id > 9999999999999 then (3, []) else (0, Lib.itoa s.id) := rfl
theorem wF119 (s : StepV) : wordF s 119 = if s.way < 1 ∨ s.way > 4 then (3, []) else (0, (waysW[(s.way - 1).toNat]?).getD []) := rfl
theorem wF107 (s : StepV) : wordF s 107 = if s.bit < 1 ∨ s.bit > 4 then (3, []) else (0, (kindsW[(s.bit - 1).toNat]?).getD []) := rfl
theorem rowF_len : ∀ (vs : List Int) (out : List UInt8), (rowF vs out).2.length ≤ out.length + 30 * vs.length
  | [], out => by simp [rowF]
  | v :: r, out => by
    simp only [rowF]
    split
    · simp
    · rename_i h
      have := rowF_len r (out ++ 32 :: Lib.itoa v)
      have hil := itoa_len (n := v) (by omega) (by omega)
      simp only [List.length_append, List.length_cons] at this ⊢
      omega
theorem list_len (l : List (List UInt8)) (h : ∀ k : Nat, k < 4 → ((l[k]?).getD []).length ≤ 100) (h4 : l.length = 4) (n : Int) : ((l[(n - 1).toNat]?).getD []).length ≤ 100 := by
  rcases Nat.lt_or_ge (n - 1).toNat 4 with h' | h'
  · exact h _ h'
  · rw [List.getElem?_eq_none (by omega)]; simp

theorem xbl {s : Sl} {vs : List Int} {b : Nat} {n : Nat} {φ : WP} {cs : List Value} (j : Nat) [p : Pick j As (Blk b cs) F] (hn : vs.length = n) (hc : flat I64 vs = cs) (hM : n ≤ 9223372036854775807) (h : Ent B (Ar I64 ⟨some ⟨b, 0, none⟩, n, n⟩ vs :: F) φ) : Ent B As φ :=
  xfold1 (Q := Ar I64 ⟨some ⟨b, 0, none⟩, n, n⟩ vs) j (fun g hg => ⟨[], blk_ar (E := I64) vs n hn hc hg hM⟩) h

theorem ite_len {p q : Prop} [Decidable p] [Decidable q] {l : List UInt8} {n : Nat} (h : l.length ≤ n) : (if p then [] else if q then [] else l).length ≤ n := by
  split
  · simp
  · split
    · simp
    · exact h

set_option maxHeartbeats 2000000 in
theorem rest_spec (s : StepV) (sl : Sl) (hb : s.bytes.length ≤ 1048576) (hn : s.name.length ≤ 1048576) : Ct Pr F_ref30_rest [.agg #[.int .i64 s.kind, .int .i64 s.num, .int .i64 s.way, .int .i64 s.bit, .int .i64 s.unit, .int .i64 s.addr, .int .i64 s.id, .string (BA s.name), sl.v]] (.tup [none, none]) [.str, .int .i64] [] (RAr U8 sl s.bytes)
    (fun t Bs => t.2.1 = (wordsF s (fsOf s.kind) []).1 ∧ t.1 = BA (wordsF s (fsOf s.kind) []).2 ∧ Bs = []) := by
  refine spec2 c_ref30_rest fun B hr => ?_
  haveI : Fro B sl U8 s.bytes := ⟨hr⟩
  unfold ref30_rest
  refine xnew fun b => ?_
  refine xget (h := ?_)
  refine xjoin1 (fun (c : Bool) As' => As' = [Blk b [.int .i64 s.kind, .int .i64 s.num, .int .i64 s.way, .int .i64 s.bit, .int .i64 s.unit, .int .i64 s.addr, .int .i64 s.id, .string (BA s.name), sl.v]] ∧ c = decide (s.kind = 7 ∨ s.kind = 8)) (fun K hK => ?_) ?_
  · refine xif (fun h => hK _ _ ⟨rfl, ?_⟩) (fun h => hK _ _ ⟨rfl, ?_⟩)
    · rw [h]; exact (decide_eq_true (.inl (eq_of_beq h))).symm
    · have h := beq_eq_false_iff_ne.1 h
      rw [Bool.eq_iff_iff]
      simp only [beq_iff_eq, decide_eq_true_eq]
      exact ⟨fun h2 => .inr h2, fun h2 => h2.resolve_left h⟩
  rintro c As2 ⟨rfl, rfl⟩
  have wl := list_len waysW (by decide) rfl
  have kl := list_len kindsW (by decide) rfl
  refine xif_dec (fun h78 => ?_) (fun h78 => xif (fun h9 => ?_) (fun h9 => xif (fun h10 => ?_) (fun h10 => xif (fun h11 => ?_) (fun h11 => xif (fun h12 => ?_) (fun h12 => xif (fun h15 => ?_) (fun h15 => ?_))))))
  · have hfs : fsOf s.kind = [119, 110] := by unfold fsOf; rw [if_pos h78]
    rw [hfs]
    refine xdraw (xget (h := ?_))
    refine xcall0 ways30_spec rdb ?_
    rintro ⟨s1, _⟩ _ ⟨rfl, hs1⟩
    refine app1 (ca1 (xchk (h := ?_)))
    refine xcall0 (named_spec s1 waysW s.way rfl (by decide)) rdb ?_
    rintro ⟨t, (e : Int), _⟩ _ ⟨he, ht, rfl⟩
    have he : e = _ := he
    have ht : t = _ := ht
    subst he ht
    refine app0 (ca2 (xget (h := xnew fun b1 => ?_)))
    refine xbl (s := ⟨none, 0, 0⟩) (vs := [s.num]) (n := 1) 0 rfl rfl (by decide) (h := ?_)
    refine xcall0 (row_spec ⟨some ⟨b1, 0, none⟩, 1, 1⟩ [s.num] (by simp)) rdb ?_
    rintro ⟨t, (e : Int), _⟩ _ ⟨he, ht, rfl⟩
    have he : e = _ := he
    have ht : t = _ := ht
    subst he ht
    have hl1 := rowF_len [s.num] []
    have hl2 := wl s.way
    refine app0 (ca2 ?_)
    refine xcall0 (both_spec _ _ _ _ (by
      simp only [List.length_cons, List.length_nil] at hl1
      split <;> simp only [List.length_cons, List.length_nil] <;> omega)) rdb ?_
    rintro ⟨t, (e : Int), _⟩ _ ⟨he, ht, rfl⟩
    have he : e = _ := he
    have ht : t = _ := ht
    subst he ht
    refine app0 (ca2 (xkeep (l := []) (xret ?_)))
    simp only [wordsF, wF119, wF110, rowF1]
    by_cases hw : s.way < 1 ∨ s.way > 4
    · simp [hw]
    · by_cases hnum : s.num < -9999999999999 ∨ s.num > 9999999999999
      · simp [hw, hnum]
      · simp [hw, hnum]
  · have h9 : s.kind = 9 := eq_of_beq h9
    have hfs : fsOf s.kind = [119, 110, 98] := by unfold fsOf; rw [if_neg h78, if_pos h9]
    rw [hfs]
    refine xdraw (xget (h := ?_))
    refine xcall0 ways30_spec rdb ?_
    rintro ⟨s1, _⟩ _ ⟨rfl, hs1⟩
    refine app1 (ca1 (xchk (h := ?_)))
    refine xcall0 (named_spec s1 waysW s.way rfl (by decide)) rdb ?_
    rintro ⟨t, (e : Int), _⟩ _ ⟨he, ht, rfl⟩
    have he : e = _ := he
    have ht : t = _ := ht
    subst he ht
    refine app0 (ca2 (xget (h := xget (h := xnew fun b1 => ?_))))
    refine xbl (s := ⟨none, 0, 0⟩) (vs := [s.num, s.bit]) (n := 2) 0 rfl rfl (by decide) (h := ?_)
    refine xcall0 (row_spec ⟨some ⟨b1, 0, none⟩, 2, 2⟩ [s.num, s.bit] (by simp)) rdb ?_
    rintro ⟨t, (e : Int), _⟩ _ ⟨he, ht, rfl⟩
    have he : e = _ := he
    have ht : t = _ := ht
    subst he ht
    have hl1 := rowF_len [s.num, s.bit] []
    have hl2 := wl s.way
    refine app0 (ca2 ?_)
    refine xcall0 (both_spec _ _ _ _ (by
      simp only [List.length_cons, List.length_nil] at hl1
      split <;> simp only [List.length_cons, List.length_nil] <;> omega)) rdb ?_
    rintro ⟨t, (e : Int), _⟩ _ ⟨he, ht, rfl⟩
    have he : e = _ := he
    have ht : t = _ := ht
    subst he ht
    refine app0 (ca2 (xkeep (l := []) (xret ?_)))
    simp only [wordsF, wF119, wF110, wF98, rowF2]
    by_cases hw : s.way < 1 ∨ s.way > 4
    · simp [hw]
    · by_cases hnum : s.num < -9999999999999 ∨ s.num > 9999999999999
      · simp [hw, hnum]
      · by_cases hbit : s.bit < -9999999999999 ∨ s.bit > 9999999999999
        · simp [hw, hnum, hbit]
        · simp [hw, hnum, hbit]
  · have h9 : ¬ s.kind = 9 := beq_eq_false_iff_ne.1 h9
    have h10 : s.kind = 10 := eq_of_beq h10
    have hfs : fsOf s.kind = [117, 107, 97, 110] := by unfold fsOf; rw [if_neg h78, if_neg h9, if_pos h10]
    rw [hfs]
    refine xget (h := xnew fun b1 => ?_)
    refine xbl (s := ⟨none, 0, 0⟩) (vs := [s.unit]) (n := 1) 0 rfl rfl (by decide) (h := ?_)
    refine xcall0 (row_spec ⟨some ⟨b1, 0, none⟩, 1, 1⟩ [s.unit] (by simp)) rdb ?_
    rintro ⟨t, (e : Int), _⟩ _ ⟨he, ht, rfl⟩
    have he : e = _ := he
    have ht : t = _ := ht
    subst he ht
    refine app0 (ca2 (xdraw (xget (h := ?_))))
    refine xcall0 kinds30_spec rdb ?_
    rintro ⟨s1, _⟩ _ ⟨rfl, hs1⟩
    refine app1 (ca1 (xchk (h := ?_)))
    refine xcall0 (named_spec s1 kindsW s.bit rfl (by decide)) rdb ?_
    rintro ⟨t, (e : Int), _⟩ _ ⟨he, ht, rfl⟩
    have he : e = _ := he
    have ht : t = _ := ht
    subst he ht
    have hl1 := rowF_len [s.unit] []
    have hl2 := kl s.bit
    simp only [List.length_cons, List.length_nil] at hl1
    have hl3 : (if s.bit < 1 ∨ s.bit > 4 then [] else 32 :: (kindsW[(s.bit - 1).toNat]?).getD []).length ≤ 101 := by split <;> simp only [List.length_cons, List.length_nil] <;> omega
    refine app0 (ca2 ?_)
    refine xcall0 (both_spec _ _ _ _ (by omega)) rdb ?_
    rintro ⟨t, (e : Int), _⟩ _ ⟨he, ht, rfl⟩
    have he : e = _ := he
    have ht : t = _ := ht
    subst he ht
    refine app0 (ca2 (xget (h := xget (h := xnew fun b2 => ?_))))
    refine xbl (s := ⟨none, 0, 0⟩) (vs := [s.addr, s.num]) (n := 2) 0 rfl rfl (by decide) (h := ?_)
    refine xcall0 (row_spec ⟨some ⟨b2, 0, none⟩, 2, 2⟩ [s.addr, s.num] (by simp)) rdb ?_
    rintro ⟨t, (e : Int), _⟩ _ ⟨he, ht, rfl⟩
    have he : e = _ := he
    have ht : t = _ := ht
    subst he ht
    have hl4 := rowF_len [s.addr, s.num] []
    simp only [List.length_cons, List.length_nil] at hl4
    refine app0 (ca2 ?_)
    have hl5 := ite_len (p := (rowF [s.unit] []).1 ≠ 0) (q := (if s.bit < 1 ∨ s.bit > 4 then (3 : Int) else 0) ≠ 0) (l := (rowF [s.unit] []).2 ++ (if s.bit < 1 ∨ s.bit > 4 then [] else 32 :: (kindsW[(s.bit - 1).toNat]?).getD [])) (n := 200) (by rw [List.length_append]; omega)
    refine xcall0 (both_spec _ _ _ _ (by omega)) rdb ?_
    rintro ⟨t, (e : Int), _⟩ _ ⟨he, ht, rfl⟩
    have he : e = _ := he
    have ht : t = _ := ht
    subst he ht
    refine app0 (ca2 (xkeep (l := []) (xret ?_)))
    simp only [wordsF, wF117, wF107, wF97, wF110, rowF1, rowF2]
    by_cases hu : s.unit < -9999999999999 ∨ s.unit > 9999999999999
    · simp [hu]
    · by_cases hw : s.bit < 1 ∨ s.bit > 4
      · simp [hu, hw]
      · by_cases ha : s.addr < -9999999999999 ∨ s.addr > 9999999999999
        · simp [hu, hw, ha]
        · by_cases hnum : s.num < -9999999999999 ∨ s.num > 9999999999999
          · simp [hu, hw, ha, hnum]
          · simp [hu, hw, ha, hnum]
  · have h9 : ¬ s.kind = 9 := beq_eq_false_iff_ne.1 h9
    have h10 : ¬ s.kind = 10 := beq_eq_false_iff_ne.1 h10
    have h11 : s.kind = 11 := eq_of_beq h11
    have hfs : fsOf s.kind = [105, 117, 97, 110] := by unfold fsOf; rw [if_neg h78, if_neg h9, if_neg h10, if_pos h11]
    rw [hfs]
    iterate 4 (refine xget (h := ?_))
    refine xnew fun b1 => ?_
    refine xbl (s := ⟨none, 0, 0⟩) (vs := [s.id, s.unit, s.addr, s.num]) (n := 4) 0 rfl rfl (by decide) (h := ?_)
    refine xcall0 (row_spec ⟨some ⟨b1, 0, none⟩, 4, 4⟩ [s.id, s.unit, s.addr, s.num] (by simp)) rdb ?_
    rintro ⟨t, (e : Int), _⟩ _ ⟨he, ht, rfl⟩
    have he : e = _ := he
    have ht : t = _ := ht
    subst he ht
    refine app0 (ca2 (xkeep (l := []) (xret ?_)))
    have e : wordsF s [105, 117, 97, 110] [] = rowF [s.id, s.unit, s.addr, s.num] [] := by
      simp only [wordsF, wF105, wF117, wF97, wF110, rowF]
      by_cases hi : s.id < -9999999999999 ∨ s.id > 9999999999999
      · simp [hi]
      · by_cases hu : s.unit < -9999999999999 ∨ s.unit > 9999999999999
        · simp [hi, hu]
        · by_cases ha : s.addr < -9999999999999 ∨ s.addr > 9999999999999
          · simp [hi, hu, ha]
          · by_cases hnum : s.num < -9999999999999 ∨ s.num > 9999999999999
            · simp [hi, hu, ha, hnum]
            · simp [hi, hu, ha, hnum]
    rw [e]
    exact ⟨rfl, rfl, rfl⟩
  · have h9 : ¬ s.kind = 9 := beq_eq_false_iff_ne.1 h9
    have h10 : ¬ s.kind = 10 := beq_eq_false_iff_ne.1 h10
    have h11 : ¬ s.kind = 11 := beq_eq_false_iff_ne.1 h11
    have h12 : s.kind = 12 := eq_of_beq h12
    have hfs : fsOf s.kind = [104] := by unfold fsOf; rw [if_neg h78, if_neg h9, if_neg h10, if_neg h11, if_pos h12]
    rw [hfs]
    refine xget (s := .slice) (x := sl) (h := ?_)
    refine xcall0 (Hex_spec sl s.bytes hb) rdb ?_
    rintro ⟨t, _⟩ _ ⟨ht, rfl⟩
    obtain rfl : t = BA (hexM s.bytes) := ht
    have e32 : (⟨#[32]⟩ : ByteArray) = BA [32] := rfl
    have hxl : (hexM s.bytes).length ≤ 2097152 := by
      have := wordF_len s 104 hb hn
      exact this
    refine app0 (ca1 ?_)
    rw [e32]
    refine xasrt (by simp only [BA_size, List.length_cons, List.length_nil]; omega) ?_
    rw [BA_app]
    exact xkeep (l := []) (xret ⟨rfl, rfl, rfl⟩)
  · have h9 : ¬ s.kind = 9 := beq_eq_false_iff_ne.1 h9
    have h10 : ¬ s.kind = 10 := beq_eq_false_iff_ne.1 h10
    have h11 : ¬ s.kind = 11 := beq_eq_false_iff_ne.1 h11
    have h12 : ¬ s.kind = 12 := beq_eq_false_iff_ne.1 h12
    have h15 : s.kind = 15 := eq_of_beq h15
    have hfs : fsOf s.kind = [115] := by unfold fsOf; rw [if_neg h78, if_neg h9, if_neg h10, if_neg h11, if_neg h12, if_pos h15]
    rw [hfs]
    refine xget (h := ?_)
    refine xcall0 (name_spec s.name hn) rdb ?_
    rintro ⟨t, (e : Int), _⟩ _ ⟨he, ht, rfl⟩
    have he : e = _ := he
    have ht : t = _ := ht
    subst he ht
    refine app0 (ca2 (xkeep (l := []) (xret ?_)))
    have e : wordF s 115 = if s.name = [] ∨ (32 : UInt8) ∈ s.name ∨ (10 : UInt8) ∈ s.name then (8, []) else (0, s.name) := rfl
    simp only [wordsF, e]
    by_cases h : s.name = [] ∨ (32 : UInt8) ∈ s.name ∨ (10 : UInt8) ∈ s.name
    · simp [h]
    · simp [h]
  · have h9 : ¬ s.kind = 9 := beq_eq_false_iff_ne.1 h9
    have h10 : ¬ s.kind = 10 := beq_eq_false_iff_ne.1 h10
    have h11 : ¬ s.kind = 11 := beq_eq_false_iff_ne.1 h11
    have h12 : ¬ s.kind = 12 := beq_eq_false_iff_ne.1 h12
    have h15 : ¬ s.kind = 15 := beq_eq_false_iff_ne.1 h15
    have hfs : fsOf s.kind = [110] := by unfold fsOf; rw [if_neg h78, if_neg h9, if_neg h10, if_neg h11, if_neg h12, if_neg h15]
    rw [hfs]
    refine xget (h := xnew fun b1 => ?_)
    refine xbl (s := ⟨none, 0, 0⟩) (vs := [s.num]) (n := 1) 0 rfl rfl (by decide) (h := ?_)
    refine xcall0 (row_spec ⟨some ⟨b1, 0, none⟩, 1, 1⟩ [s.num] (by simp)) rdb ?_
    rintro ⟨t, (e : Int), _⟩ _ ⟨he, ht, rfl⟩
    have he : e = _ := he
    have ht : t = _ := ht
    subst he ht
    refine app0 (ca2 (xkeep (l := []) (xret ?_)))
    simp only [wordsF, wF110, rowF1]
    by_cases hnum : s.num < -9999999999999 ∨ s.num > 9999999999999
    · simp [hnum]
    · simp [hnum]

/-! The line. -/
theorem wordsF_pre (s : StepV) : ∀ (fs : List UInt8) (a b : List UInt8), wordsF s fs (a ++ b) = if (wordsF s fs b).1 = 0 then (0, a ++ (wordsF s fs b).2) else ((wordsF s fs b).1, [])
  | [], a, b => by simp [wordsF]
  | f :: fs, a, b => by
    simp only [wordsF]
    by_cases h : (wordF s f).1 = 0
    · simp only [h, if_true]
      rw [List.append_assoc]
      exact wordsF_pre s fs a _
    · simp only [h, if_false]
theorem findK_in : ∀ k : Nat, k < 16 → findK ((k : Int) + 1) shapesL = some ((namesW[k]?).getD [], fsOf ((k : Int) + 1)) := by decide
theorem findK_out {k : Int} (h : k < 1 ∨ k > 16) : findK k shapesL = none := by
  cases e : findK k shapesL with
  | none => rfl
  | some x =>
    obtain ⟨w, fs⟩ := x
    have := (findK_cases e).2
    simp only [shapesL, List.mem_cons, List.not_mem_nil, or_false, Prod.mk.injEq] at this
    omega
theorem foreign_own {s : StepV} (h1 : 1 ≤ s.kind) (h2 : s.kind ≤ 16) : sameB s (ownM s) = !foreignB s (fsOf s.kind) := by
  obtain ⟨k, n, w, b, u, a, i, nm, by_⟩ := s
  rw [Bool.eq_iff_iff, sameB_iff]
  unfold foreignB zeroB ownM fsOf
  simp only at h1 h2 ⊢
  by_cases h78 : k = 7 ∨ k = 8
  · simp only [h78, if_true]
    simp [List.foldl, clearF, setF, step0]
    constructor <;> (intro h; simp_all)
  by_cases h9 : k = 9
  · subst h9
    simp [List.foldl, clearF, setF, step0]
    constructor <;> (intro h; simp_all)
  by_cases h10 : k = 10
  · subst h10
    simp [List.foldl, clearF, setF, step0]
    constructor <;> (intro h; simp_all)
  by_cases h11 : k = 11
  · subst h11
    simp [List.foldl, clearF, setF, step0]
    constructor <;> (intro h; simp_all)
  by_cases h12 : k = 12
  · subst h12
    simp [List.foldl, clearF, setF, step0]
    constructor <;> (intro h; simp_all)
  by_cases h15 : k = 15
  · subst h15
    simp [List.foldl, clearF, setF, step0]
    constructor <;> (intro h; simp_all)
  · simp only [h78, h9, h10, h11, h12, h15, if_false]
    simp [List.foldl, clearF, setF, step0]
    constructor <;> (intro h; simp_all)

theorem rar_nil {g : Frag} : RAr U8 ⟨none, 0, 0⟩ [] g := ⟨rfl, rfl, fun h => absurd h (by decide)⟩
set_option maxHeartbeats 1000000 in
theorem Line30_spec (s : StepV) (sl : Sl) (hb : s.bytes.length ≤ 1048576) (hn : s.name.length ≤ 1048576) : Ct Pr F_ref30_Line [.agg #[.int .i64 s.kind, .int .i64 s.num, .int .i64 s.way, .int .i64 s.bit, .int .i64 s.unit, .int .i64 s.addr, .int .i64 s.id, .string (BA s.name), sl.v]] (.tup [none, none]) [.str, .int .i64] [] (RAr U8 sl s.bytes)
    (fun t Bs => t.2.1 = (lineM s).1 ∧ t.1 = BA (lineM s).2 ∧ Bs = []) := by
  refine spec2 c_ref30_Line fun B hr => ?_
  haveI fs : Fro B sl U8 s.bytes := ⟨hr⟩
  unfold ref30_Line
  refine xnew fun b => ?_
  refine xget (h := ?_)
  refine xjoin1 (fun (c : Bool) As' => As' = [Blk b [.int .i64 s.kind, .int .i64 s.num, .int .i64 s.way, .int .i64 s.bit, .int .i64 s.unit, .int .i64 s.addr, .int .i64 s.id, .string (BA s.name), sl.v]] ∧ c = decide (s.kind < 1 ∨ s.kind > 16)) (fun K hK => ?_) ?_
  · refine xif_dec (fun h => hK _ _ ⟨rfl, (decide_eq_true (.inl h)).symm⟩) (fun h => xget (h := hK _ _ ⟨rfl, ?_⟩))
    rw [Bool.eq_iff_iff]
    simp only [decide_eq_true_eq]
    exact ⟨fun h2 => .inr h2, fun h2 => h2.resolve_left h⟩
  rintro c As2 ⟨rfl, rfl⟩
  refine xif_dec (fun h => xkeep (l := []) (xret ?_)) (fun hk => ?_)
  · unfold lineM; rw [findK_out h]; exact ⟨rfl, rfl, rfl⟩
  obtain ⟨k, hkk⟩ : ∃ k : Nat, s.kind = (k : Int) + 1 := ⟨(s.kind - 1).toNat, by omega⟩
  have hk16 : k < 16 := by omega
  have hfk : findK s.kind shapesL = some ((namesW[k]?).getD [], fsOf s.kind) := by rw [hkk]; exact findK_in k hk16
  have hlm : lineM s = if foreignB s (fsOf s.kind) = true then (23, []) else wordsF s (fsOf s.kind) ((namesW[k]?).getD []) := by unfold lineM; rw [hfk]
  have hfo := foreign_own (s := s) (by omega) (by omega)
  rw [hlm]
  refine xdraw ?_
  iterate 8 (refine xget (h := ?_))
  refine xget (s := .slice) (x := sl) (h := ?_)
  iterate 8 (refine xget (h := ?_))
  refine xget (s := .slice) (x := sl) (h := ?_)
  refine xcall0 (own30_spec s sl) rdb ?_
  rintro _ _ ⟨rfl, rfl⟩
  refine app0 (ca9b ?_)
  iterate 9 (refine xchk (h := ?_))
  have hro : RAr U8 (if s.kind = 12 then sl else ⟨none, 0, 0⟩) (ownM s).bytes (frz B.W B.h0) := by
    have hbo : (ownM s).bytes = if s.kind = 12 then s.bytes else [] := by
      unfold ownM
      by_cases h78 : s.kind = 7 ∨ s.kind = 8
      · rw [if_pos h78, if_neg (by omega)]; rfl
      by_cases h9 : s.kind = 9
      · rw [if_neg h78, if_pos h9, if_neg (by omega)]; rfl
      by_cases h10 : s.kind = 10
      · rw [if_neg h78, if_neg h9, if_pos h10, if_neg (by omega)]; rfl
      by_cases h11 : s.kind = 11
      · rw [if_neg h78, if_neg h9, if_neg h10, if_pos h11, if_neg (by omega)]; rfl
      by_cases h12 : s.kind = 12
      · rw [if_neg h78, if_neg h9, if_neg h10, if_neg h11, if_pos h12, if_pos h12]
      by_cases h15 : s.kind = 15
      · rw [if_neg h78, if_neg h9, if_neg h10, if_neg h11, if_neg h12, if_pos h15, if_neg h12]; rfl
      · rw [if_neg h78, if_neg h9, if_neg h10, if_neg h11, if_neg h12, if_neg h15, if_neg h12]; rfl
    rw [hbo]
    by_cases h12 : s.kind = 12
    · rw [if_pos h12, if_pos h12]; exact hr
    · rw [if_neg h12, if_neg h12]; exact rar_nil
  haveI : Fro B (if s.kind = 12 then sl else ⟨none, 0, 0⟩) U8 (ownM s).bytes := ⟨hro⟩
  refine xcall0 (Same_spec s (ownM s) sl (if s.kind = 12 then sl else ⟨none, 0, 0⟩) (by omega)) rdb ?_
  rintro ⟨(c : Bool), _⟩ _ ⟨hc, rfl⟩
  obtain rfl : c = sameB s (ownM s) := hc
  refine app0 (ca1 ?_)
  rw [hfo, Bool.not_not]
  refine xif (fun hf => xkeep (l := []) (xret ?_)) (fun hf => ?_)
  · rw [if_pos hf]; exact ⟨rfl, rfl, rfl⟩
  rw [if_neg (by rw [hf]; decide)]
  iterate 8 (refine xget (h := ?_))
  refine xget (s := .slice) (x := sl) (h := ?_)
  refine xcall0 (rest_spec s sl hb hn) rdb ?_
  rintro ⟨t, (e : Int), _⟩ _ ⟨he, ht, rfl⟩
  have he : e = _ := he
  have ht : t = _ := ht
  subst he ht
  have hpre := wordsF_pre s (fsOf s.kind) ((namesW[k]?).getD []) []
  rw [List.append_nil] at hpre
  rw [hpre]
  refine app0 (ca2 (xif (fun h1 => xkeep (l := []) (xret ?_)) (fun h1 => ?_)))
  · have h1 : (wordsF s (fsOf s.kind) []).1 ≠ 0 := by simpa using h1
    rw [if_neg h1]; exact ⟨rfl, rfl, rfl⟩
  have h1 : (wordsF s (fsOf s.kind) []).1 = 0 := by simpa using h1
  rw [if_pos h1]
  refine xdraw (xget (h := ?_))
  refine xcall0 Names_spec rdb ?_
  rintro ⟨s4, _⟩ _ ⟨rfl, hs4⟩
  refine app1 (ca1 (xchk (h := ?_)))
  rw [hkk, wrap_id _ (by omega) (by omega), show (k : Int) + 1 - 1 = (k : Int) by omega]
  obtain ⟨w, hw⟩ : ∃ w, namesW[k]? = some w := ⟨_, List.getElem?_eq_getElem (by simpa [namesW, shapesL] using hk16)⟩
  have hwl : w.length ≤ 100 := by
    have : ∀ k : Nat, k < 16 → ∀ w, namesW[k]? = some w → w.length ≤ 100 := by decide
    exact this k hk16 w hw
  refine xidxn (E := Cf.ST) (xs := namesW.map BA) (s := s4) (h1 := by simpa [namesW, shapesL] using hk16) (h := fun y hy => ?_)
  obtain rfl : y = BA w := by rw [wsx hw] at hy; exact (Option.some.inj hy).symm
  refine xgetE (E := Cf.ST) (xs := namesW.map BA) hy (h := ?_)
  rw [← hkk, hw]
  have hrl : (wordsF s (fsOf s.kind) []).2.length ≤ 10000000 := by
    obtain ⟨h2, h3⟩ := wordsF_ok (s := s) (fs := fsOf s.kind) (out := []) (t := (wordsF s (fsOf s.kind) []).2) (by rw [← h1])
    rw [h3]
    have : ∀ fs : List UInt8, fs.length ≤ 4 → (((tailF s fs).map (32 :: ·)).flatten).length ≤ fs.length * 2097153 := by
      intro fs
      induction fs with
      | nil => intro _; simp [tailF]
      | cons f r ih =>
        intro hl
        have := ih (by simp at hl; omega)
        have hw := wordF_len s f hb hn
        simp only [tailF, List.map_cons, List.flatten_cons, List.length_append, List.length_cons] at this ⊢
        omega
    have h4 : (fsOf s.kind).length ≤ 4 := by unfold fsOf; (repeat' split) <;> decide
    have := this _ h4
    rw [List.nil_append]
    omega
  refine xasrt (by rw [BA_size, BA_size]; omega) ?_
  rw [BA_app]
  exact xkeep (l := []) (xret ⟨rfl, rfl, rfl⟩)

end Go.Cx

namespace Go.Cx
open Go Go.Cf
set_option linter.unusedVariables false
set_option maxRecDepth 100000
variable {B : Base} {As F : List HP}

theorem xarr {a : Addr} {n : Nat} {i : Int} {sz : Nat} (k : Nat) {K : Addr → WP} (hk : i = (k : Int)) (h1 : k < n) (h : Ent B As (K (a.add (k * sz)))) : Ent B As (XIdx (some a) n i sz K) := fun w hw => by
  subst hk
  exact ⟨a, rfl, by omega, by omega, h w hw⟩
theorem xsetG {b : Nat} {cs : List Value} {rest : List HP} {off : Nat} {v : Value} {K : WP} (j : Nat) [p : Pick j As (Blk b cs) rest] (hlt : off < cs.length) (hv : v.oneCell' = true) (h : Ent B (Blk b (cs.set off v) :: rest) K) : Ent B As (XSet ⟨b, off, none⟩ v K) :=
  xset_gen p.perm hlt hv (List.Perm.refl _) h

/-- A world's cells. -/
def wcl (c : Cfg) (sl : Sl) (d g : Option Addr) (us ls : List (Option Addr)) (sk : Option Addr) (ck st : Int) (tr : Sl) : List Value :=
  [.int .i64 c.timeout, .int .i64 c.retries, .int .i64 c.window, .int .i64 c.resend, .int .i64 c.span, .int .i64 c.keep, sl.v, .pointer d, .pointer g] ++ (us.map Value.pointer ++ (ls.map Value.pointer ++ [.pointer sk, .int .i64 ck, .int .i64 st, tr.v]))
section
variable {c : Cfg} {sl : Sl} {d g : Option Addr} {us ls : List (Option Addr)} {sk : Option Addr} {ck st : Int} {tr : Sl}
theorem wcl_unit {i : Nat} {u : Option Addr} (hu : us[i]? = some u) : (wcl c sl d g us ls sk ck st tr)[9 + i]? = some (.pointer u) := by
  have hlt := (List.getElem?_eq_some_iff.1 hu).1
  unfold wcl
  rw [List.getElem?_append_right (by simp), List.getElem?_append_left (by simp; omega)]
  simp [hu]
theorem wcl_line {i : Nat} {u : Option Addr} (hl : us.length = 248) (hu : ls[i]? = some u) : (wcl c sl d g us ls sk ck st tr)[257 + i]? = some (.pointer u) := by
  have hlt := (List.getElem?_eq_some_iff.1 hu).1
  unfold wcl
  rw [List.getElem?_append_right (by simp; omega), List.getElem?_append_right (by simp [hl]; omega), List.getElem?_append_left (by simp [hl]; omega)]
  simp only [List.length_cons, List.length_nil, List.length_map, hl, List.getElem?_map]
  rw [show 257 + i - (0 + 1 + 1 + 1 + 1 + 1 + 1 + 1 + 1 + 1) - 248 = i by omega, hu]; rfl
theorem wcl_end {i : Nat} (hl : us.length = 248) (hl2 : ls.length = 5) : (wcl c sl d g us ls sk ck st tr)[262 + i]? = [Value.pointer sk, .int .i64 ck, .int .i64 st, tr.v][i]? := by
  unfold wcl
  rw [List.getElem?_append_right (by simp; omega), List.getElem?_append_right (by simp [hl]; omega), List.getElem?_append_right (by simp [hl, hl2]; omega)]
  simp only [List.length_cons, List.length_nil, List.length_map, hl, hl2]
  rw [show 262 + i - (0 + 1 + 1 + 1 + 1 + 1 + 1 + 1 + 1 + 1) - 248 - 5 = i by omega]
theorem wcl_setU {i : Nat} {u : Option Addr} (hi : i < us.length) : (wcl c sl d g us ls sk ck st tr).set (9 + i) (.pointer u) = wcl c sl d g (us.set i u) ls sk ck st tr := by
  unfold wcl
  rw [List.set_append_right _ _ (by simp), List.set_append_left _ _ (by simp; omega)]
  simp [List.map_set]
theorem wcl_setL {i : Nat} {u : Option Addr} (hl : us.length = 248) (hi : i < ls.length) : (wcl c sl d g us ls sk ck st tr).set (257 + i) (.pointer u) = wcl c sl d g us (ls.set i u) sk ck st tr := by
  unfold wcl
  rw [List.set_append_right _ _ (by simp; omega), List.set_append_right _ _ (by simp [hl]; omega), List.set_append_left _ _ (by simp [hl]; omega)]
  simp only [List.length_cons, List.length_nil, List.length_map, hl]
  rw [show 257 + i - (0 + 1 + 1 + 1 + 1 + 1 + 1 + 1 + 1 + 1) - 248 = i by omega]
  simp [List.map_set]
theorem wcl_len : (wcl c sl d g us ls sk ck st tr).length = 13 + us.length + ls.length := by
  unfold wcl; simp only [List.length_append, List.length_cons, List.length_nil, List.length_map]; omega
end

theorem LineNew_spec : Ct Pr F_line_New [] .one [.ptr] [] emp (fun t Bs => ∃ b : Nat, t.1 = some ⟨b, 0, none⟩ ∧ Bs = [Blk b [.slice none 0 0]]) := by
  refine spec1 c_line_New fun B hr => ?_
  unfold line_New
  exact xnew fun b => xret ⟨b, rfl, rfl⟩
theorem DevNew_spec (room : Int) (h : 0 ≤ room ∧ room ≤ 16777216) : Ct Pr F_device_New [.int .i64 room] (.tup [none, none]) [.ptr, .int .i64] [] emp (fun t Bs => t.2.1 = 0 ∧ ∃ b : Nat, t.1 = some ⟨b, 0, none⟩ ∧ Bs = [Blk b [.bool false, .bool false, .int .i64 0, .int .i64 room, .slice none 0 0]]) := by
  refine spec2 c_device_New fun B hr => ?_
  unfold device_New
  refine xif (fun h2 => ?_) (fun _ => xnew fun b => xret ⟨rfl, b, rfl, rfl⟩)
  simp only [Bool.or_eq_true, decide_eq_true_eq] at h2
  omega
theorem SinkNew_spec : Ct Pr F_sink_New [] .one [.ptr] [] emp (fun t Bs => ∃ (b m : Nat), t.1 = some ⟨b, 0, none⟩ ∧ Bs = [Blk b [.slice none 0 0, .slice none 0 0, .map (some m)], MapO .bool (some m) []]) := by
  refine spec1 c_sink_New fun B hr => ?_
  unfold sink_New
  refine xmap .bool fun m => xnew fun b => ?_
  exact xret ⟨b, m, rfl, rfl⟩

def U16z : Enc Int := ⟨fun x => [.int .u16 x], 1, fun _ => rfl, fun x v h => by simp at h; subst h; rfl, by decide, 0⟩
theorem UnitNew_spec (a : Int) (h1 : 1 ≤ a) (h2 : a ≤ 247) : Ct Pr F_unit_New [.int .i64 a, .int .i64 256] (.tup [none, none]) [.ptr, .int .i64] [] emp (fun t Bs => t.2.1 = 0 ∧ ∃ b : Nat, t.1 = some ⟨b, 0, none⟩) := by
  refine spec2 c_unit_New fun B hr => ?_
  unfold unit_New
  refine xiff (by simp only [Bool.or_eq_false_iff, decide_eq_false_iff_not]; omega) (xiff (by decide) ?_)
  refine xnew fun b => ?_
  refine xloop1 (fun m (x : Int) As' => ∃ (k : Nat) (cs : List Value), x = (k : Int) ∧ m = 4 - k ∧ k ≤ 4 ∧ cs.length = 6 ∧ As' = [Blk b cs]) 4 ⟨0, _, rfl, rfl, by omega, rfl, rfl⟩ ?_
  rintro m x As' K ⟨k, cs, rfl, rfl, hk, hl, rfl⟩ hK
  refine xif_dec (fun hp => ?_) (fun hp => xret ⟨rfl, b, rfl⟩)
  have hp : k < 4 := by omega
  refine xdraw (xnil ?_)
  refine xmake U16z (by decide) (by decide) (h := fun s => ?_)
  refine xarr k rfl hp ?_
  rw [wrap_succ k (by omega)]
  have e : ((⟨b, 0, none⟩ : Addr).add 1).add (k * 1) = ⟨b, 1 + k, none⟩ := by rw [add_none, add_none]; simp
  rw [e]
  refine xsetG 1 (by omega) rfl ?_
  exact xdrop 1 (hK (4 - (k + 1)) _ _ (by omega) ⟨k + 1, _, rfl, rfl, by omega, by rw [List.length_set]; exact hl, rfl⟩)

theorem CloneTags_spec (s : Sl) (xs : List Tag) (hx : xs.length ≤ 1048576) (hsc : s.n ≤ s.c) : Ct Pr F_slices_Clone_L_api_Tag_api_Tag_ [s.v] .one [.slice] [] (RAr TG s xs) (fun t Bs => Bs = [Ar TG t.1 xs]) := by
  refine spec1 c_slices_Clone_L_api_Tag_api_Tag_ fun B hr => ?_
  haveI : Fro B s TG xs := ⟨hr⟩
  have hs : xs.length = s.n := hr.1
  unfold slices_Clone_L_api_Tag_api_Tag_
  refine xif (fun h => ?_) (fun h => ?_)
  · have hp : s.p = none := by
      cases e : s.p with
      | none => rfl
      | some a => rw [e] at h; cases h
    have hx0 : xs = [] := by
      refine Classical.byContradiction fun hne => ?_
      have hpos : 0 < s.n := by rw [← hs]; exact List.length_pos_iff.2 hne
      obtain ⟨b, o, pre, post, e, fr, hpp, _⟩ := hr.2.2 hpos
      rw [hp] at hpp; cases hpp
    subst hx0
    exact xnone TG (xret rfl)
  · refine xnew fun b => ?_
    refine xfold1 (Q := Ar TG ⟨some ⟨b, 0, none⟩, 0, 0⟩ []) 0 (fun g hg => ⟨[], blk_ar (E := TG) [] 0 rfl rfl hg⟩) ?_
    refine xapp (E := TG) (s := ⟨some ⟨b, 0, none⟩, 0, 0⟩) (y := s) (xs := []) (ys := xs) (hb := by rw [List.length_nil]; omega) (h := fun s2 => ?_)
    exact xret rfl

theorem tag_unit {t : Tag} (h : tagE t = 0) : 1 ≤ t.unit ∧ t.unit ≤ 247 := (tag_all h).unit

set_option maxHeartbeats 4000000 in
theorem WorldNew_spec (c : Cfg) (s : Sl) (room : Int) (hc : cfgE c = 0) (hr0 : 0 ≤ room ∧ room ≤ 16777216) (hsc : s.n ≤ s.c) : Ct Pr F_world_New [c.v s, .int .i64 room] (.tup [none, none]) [.ptr, .int .i64] [] (RAr TG s c.tags)
    (fun t Bs => t.2.1 = 0 ∧ ∃ (b sk m : Nat) (sl : Sl) (d : Option Addr) (us ls : List (Option Addr)), t.1 = some ⟨b, 0, none⟩ ∧ us.length = 248 ∧ ls.length = 5 ∧
      Bs = [Blk b (wcl c sl d none us ls (some ⟨sk, 0, none⟩) 0 0 ⟨none, 0, 0⟩), Blk sk [.slice none 0 0, .slice none 0 0, .map (some m)], MapO .bool (some m) []]) := by
  refine spec2 c_world_New fun B hr => ?_
  haveI : Fro B s TG c.tags := ⟨hr⟩
  have hsl : c.tags.length = s.n := hr.1
  have hcok := cfg_ok hc
  have htl := allE_len hcok.2
  unfold world_New
  refine xnew fun b => ?_
  iterate 6 (refine xget (h := ?_))
  refine xget (s := .slice) (x := s) (h := ?_)
  refine xcall0 (Check27_spec c s) rdb ?_
  rintro ⟨r, _⟩ _ ⟨hr1, rfl⟩
  obtain rfl : r = cfgE c := hr1
  refine app0 (ca1 ?_)
  rw [hc]
  refine xiff rfl ?_
  refine xcall0 (DevNew_spec room hr0) rdb ?_
  rintro ⟨q, e, _⟩ _ ⟨he, d, hq, rfl⟩
  obtain rfl : e = 0 := he
  obtain rfl : q = some ⟨d, 0, none⟩ := hq
  refine app1 (ca2 (xiff rfl (xdraw ?_)))
  iterate 6 (refine xget (h := ?_))
  refine xget (s := .slice) (x := s) (h := ?_)
  refine xcall0 SinkNew_spec rdb ?_
  rintro ⟨q, _⟩ _ ⟨sk, m, hq, rfl⟩
  obtain rfl : q = some ⟨sk, 0, none⟩ := hq
  refine app2 (ca1 ?_)
  iterate 7 (refine xchk (h := ?_))
  refine xnew fun b1 => ?_
  refine xfold1 (Q := Blk b1 (wcl c s (some ⟨d, 0, none⟩) none (List.replicate 248 none) (List.replicate 5 none) (some ⟨sk, 0, none⟩) 0 0 ⟨none, 0, 0⟩)) 0 (fun g hg => hg) ?_
  refine xget (b := b) (s := .slice) (x := s) (h := ?_)
  refine xcall0 (CloneTags_spec s c.tags (by omega) hsc) rdb ?_
  rintro ⟨s3, _⟩ _ rfl
  refine app1 (ca1 (xnil ?_))
  refine xsetG (cs := wcl c s (some ⟨d, 0, none⟩) none (List.replicate 248 none) (List.replicate 5 none) (some ⟨sk, 0, none⟩) 0 0 ⟨none, 0, 0⟩) 1 (by rw [wcl_len]; simp) rfl ?_
  refine xfold1 (Q := Blk b1 (wcl c s3 (some ⟨d, 0, none⟩) none (List.replicate 248 none) (List.replicate 5 none) (some ⟨sk, 0, none⟩) 0 0 ⟨none, 0, 0⟩)) 0 (fun g hg => hg) ?_
  refine xget (b := b) (s := .slice) (x := s) (h := ?_)
  refine xuse [Blk b1 (wcl c s3 (some ⟨d, 0, none⟩) none (List.replicate 248 none) (List.replicate 5 none) (some ⟨sk, 0, none⟩) 0 0 ⟨none, 0, 0⟩), Blk sk [.slice none 0 0, .slice none 0 0, .map (some m)], MapO .bool (some m) []] ?_
  refine xloop1 (fun n (x : Int) As' => ∃ (k : Nat) (us : List (Option Addr)), x = (k : Int) ∧ n = c.tags.length - k ∧ k ≤ c.tags.length ∧ us.length = 248 ∧ As' = [Blk b1 (wcl c s3 (some ⟨d, 0, none⟩) none us (List.replicate 5 none) (some ⟨sk, 0, none⟩) 0 0 ⟨none, 0, 0⟩), Blk sk [.slice none 0 0, .slice none 0 0, .map (some m)], MapO .bool (some m) []]) c.tags.length ⟨0, _, rfl, rfl, by omega, by simp, rfl⟩ ?_
  rintro n x As' K ⟨k, us, rfl, rfl, hk, hul, rfl⟩ hK
  refine xif_dec (fun hp => ?_) (fun hp => ?_)
  · have hp : k < c.tags.length := by omega
    obtain ⟨t, ht⟩ : ∃ t, c.tags[k]? = some t := ⟨_, List.getElem?_eq_getElem hp⟩
    refine xidxn (E := TG) (xs := c.tags) (s := s) (h1 := hp) (h := fun y hy => ?_)
    obtain rfl : y = t := by rw [ht] at hy; exact (Option.some.inj hy).symm
    have htag := allE_tag hcok.2 ht
    have hunit := tag_unit htag
    obtain ⟨u, hu⟩ : ∃ u : Nat, y.unit = (u : Int) := ⟨y.unit.toNat, by omega⟩
    refine xgetE hy (h := ?_)
    iterate 18 (refine xgetEj hy (h := ?_))
    refine xnew fun b2 => ?_
    iterate 19 (refine xset (h := ?_))
    refine xdraw (xget (h := xnil ?_))
    obtain ⟨q, hq⟩ : ∃ q, us[u]? = some q := ⟨_, List.getElem?_eq_getElem (by omega)⟩
    refine xarr u hu (by omega) ?_
    have e1 : ((⟨b1, 0, none⟩ : Addr).add 9).add (u * 1) = ⟨b1, 9 + u, none⟩ := by rw [add_none, add_none]; simp
    rw [e1]
    refine xget (b := b1) (s := .ptr) (x := q) (hv := wcl_unit hq) (h := ?_)
    rw [wrap_succ k (by omega)]
    refine xjoin (xif (fun hn => ?_) (fun hn => ?_))
    · refine xdraw (xget (h := xget (h := xnil ?_)))
      refine xcall0 (UnitNew_spec y.unit hunit.1 hunit.2) rdb ?_
      rintro ⟨q3, e, _⟩ Bs ⟨_, b3, hq3⟩
      obtain rfl : q3 = some ⟨b3, 0, none⟩ := hq3
      refine ca2 ?_
      have drop : ∀ {φ : WP}, Ent B ([Blk b2 [.string y.name, .int .i64 y.unit, .int .i64 y.kind, .int .i64 y.addr, .int .i64 y.every, .bool y.wide, .bool y.sgn, .bool y.swap, .int .i64 y.mul, .int .i64 y.div, .int .i64 y.add, .int .i64 y.dead, .int .i64 y.quiet, .bool y.ulow, .bool y.uhigh, .bool y.latch, .int .i64 y.low, .int .i64 y.high, .int .i64 y.hyst], Blk b1 (wcl c s3 (some ⟨d, 0, none⟩) none us (List.replicate 5 none) (some ⟨sk, 0, none⟩) 0 0 ⟨none, 0, 0⟩), Blk sk [.slice none 0 0, .slice none 0 0, .map (some m)], MapO .bool (some m) []]) φ → Ent B (Bs ++ [Blk b2 [.string y.name, .int .i64 y.unit, .int .i64 y.kind, .int .i64 y.addr, .int .i64 y.every, .bool y.wide, .bool y.sgn, .bool y.swap, .int .i64 y.mul, .int .i64 y.div, .int .i64 y.add, .int .i64 y.dead, .int .i64 y.quiet, .bool y.ulow, .bool y.uhigh, .bool y.latch, .int .i64 y.low, .int .i64 y.high, .int .i64 y.hyst], Blk b1 (wcl c s3 (some ⟨d, 0, none⟩) none us (List.replicate 5 none) (some ⟨sk, 0, none⟩) 0 0 ⟨none, 0, 0⟩), Blk sk [.slice none 0 0, .slice none 0 0, .map (some m)], MapO .bool (some m) []]) φ := fun h => Ent.perm List.perm_append_comm (xkeep h)
      refine drop ?_
      refine xchk (h := ?_)
      refine xarr u hu (by omega) ?_
      rw [e1]
      refine xsetG 1 (by rw [wcl_len, hul]; simp; omega) rfl ?_
      rw [wcl_setU (by omega)]
      exact xuse' (hK (c.tags.length - (k + 1)) _ _ (by omega) ⟨k + 1, us.set u (some ⟨b3, 0, none⟩), rfl, rfl, by omega, by rw [List.length_set]; exact hul, rfl⟩)
    · exact xuse' (hK (c.tags.length - (k + 1)) _ _ (by omega) ⟨k + 1, us, rfl, rfl, by omega, hul, rfl⟩)
  · refine xloop1 (fun n (x : Int) As' => ∃ (k : Nat) (ls : List (Option Addr)), x = (k : Int) ∧ n = 5 - k ∧ k ≤ 5 ∧ ls.length = 5 ∧ As' = [Blk b1 (wcl c s3 (some ⟨d, 0, none⟩) none us ls (some ⟨sk, 0, none⟩) 0 0 ⟨none, 0, 0⟩), Blk sk [.slice none 0 0, .slice none 0 0, .map (some m)], MapO .bool (some m) []]) 5 ⟨0, _, rfl, rfl, by omega, by simp, rfl⟩ ?_
    rintro n x As' K2 ⟨k, ls, rfl, rfl, hk, hll, rfl⟩ hK2
    refine xif_dec (fun hp => ?_) (fun hp => ?_)
    · have hp : k < 5 := by omega
      refine xdraw (xnil ?_)
      refine xcall0 LineNew_spec rdb ?_
      rintro ⟨q4, _⟩ _ ⟨b4, hq4, rfl⟩
      obtain rfl : q4 = some ⟨b4, 0, none⟩ := hq4
      refine app1 (ca1 ?_)
      refine xarr k rfl hp ?_
      have e1 : ((⟨b1, 0, none⟩ : Addr).add 257).add (k * 1) = ⟨b1, 257 + k, none⟩ := by rw [add_none, add_none]; simp
      rw [e1, wrap_succ k (by omega)]
      refine xsetG 1 (by rw [wcl_len, hul, hll]; omega) rfl ?_
      rw [wcl_setL hul (by omega)]
      exact xuse' (hK2 (5 - (k + 1)) _ _ (by omega) ⟨k + 1, ls.set k (some ⟨b4, 0, none⟩), rfl, rfl, by omega, by rw [List.length_set]; exact hll, rfl⟩)
    · exact xret ⟨rfl, b1, sk, m, s3, some ⟨d, 0, none⟩, us, ls, rfl, hul, hll, rfl⟩

end Go.Cx

namespace Go.Cx
open Go Go.Cf
set_option linter.unusedVariables false
set_option maxRecDepth 100000
variable {B : Base} {As F : List HP}

def GAll30 : HP := (GErr.and GTab).and GMax
theorem GAll30.mono : ∀ g f, GAll30 g → Sub g f → GAll30 f := fun g f h s => ⟨⟨GErr.mono _ _ h.1.1 s, GTab.mono _ _ h.1.2 s⟩, GMax.mono _ _ h.2 s⟩

theorem answered_spec (e : Int) (h : 1 ≤ e ∧ e ≤ 100) : Ct Pr F_console_answered [.int .i64 e] .one [.str] [] GTab (fun t Bs => t.1 = BA ([101, 114, 114, 111, 114, 32] ++ Lib.itoa e ++ [10]) ∧ Bs = []) := by
  refine spec1 c_console_answered fun B hr => ?_
  haveI : FroP B GTab := ⟨hr, fun _ _ h s => GTab.mono _ _ h s⟩
  unfold console_answered
  refine xiff (beq_eq_false_iff_ne.2 (by omega)) ?_
  refine xcall0 (Itoa_spec e (by omega) (by omega)) rdb ?_
  rintro ⟨t, _⟩ _ ⟨ht, rfl⟩
  obtain rfl : t = BA (Lib.itoa e) := ht
  have hil := itoa_len (n := e) (by omega) (by omega)
  have e1 : (⟨#[101, 114, 114, 111, 114, 32]⟩ : ByteArray) = BA [101, 114, 114, 111, 114, 32] := rfl
  have e2 : (⟨#[10]⟩ : ByteArray) = BA [10] := rfl
  refine app0 (ca1 ?_)
  rw [e1, e2, BA_app, BA_app]
  simp only [BA_size]
  refine xasrt (by simp; omega) (xasrt (by simp; omega) (xret ⟨rfl, rfl⟩))

section
variable {c : Cfg} {sl : Sl} {d g : Option Addr} {us ls : List (Option Addr)} {sk : Option Addr} {ck st : Int} {tr : Sl} {b : Nat}
theorem Trace0_spec (hl : us.length = 248) (hl2 : ls.length = 5) : Ct Pr F_world_World_Trace [.pointer (some ⟨b, 0, none⟩)] .one [.slice] [Blk b (wcl c sl d g us ls sk ck st ⟨none, 0, 0⟩)] emp (fun t Bs => t.1 = ⟨none, 0, 0⟩ ∧ Bs = [Blk b (wcl c sl d g us ls sk ck st ⟨none, 0, 0⟩)]) := by
  refine spec1 c_world_World_Trace fun B hr => ?_
  unfold world_World_Trace
  refine xnil (xget (b := b) (s := .slice) (x := ⟨none, 0, 0⟩) (hv := wcl_end (i := 3) hl hl2) (h := ?_))
  refine xloop2 (fun m (out : Sl) (x : Int) As' => x = 0 ∧ out = ⟨none, 0, 0⟩ ∧ As' = [Blk b (wcl c sl d g us ls sk ck st ⟨none, 0, 0⟩)]) 0 ⟨rfl, rfl, rfl⟩ ?_
  rintro m out x As' K ⟨rfl, rfl, rfl⟩ hK
  exact xiff rfl (xret ⟨rfl, rfl⟩)
theorem Status0_spec : Ct Pr F_world_World_Status [.pointer (some ⟨b, 0, none⟩)] (.tup [some 8, none]) [.int .i64, .int .i64, .int .i64, .int .i64, .int .i64, .int .i64, .int .i64, .bool, .bool] [Blk b (wcl c sl d none us ls sk ck st tr)] emp
    (fun t Bs => t.2.2.2.2.2.2.2.2.1 = false ∧ Bs = [Blk b (wcl c sl d none us ls sk ck st tr)]) := by
  refine spec9b c_world_World_Status fun B hr => ?_
  unfold world_World_Status
  refine xnew fun b1 => ?_
  refine xnil (xget (b := b) (s := .ptr) (x := none) (h := ?_))
  refine xift rfl ?_
  iterate 8 (refine xset (h := ?_))
  iterate 8 (refine xget (h := ?_))
  exact xuse [Blk b (wcl c sl d none us ls sk ck st tr)] (xret ⟨rfl, rfl⟩)
theorem Got0_spec {m : Option Nat} {k : Nat} (hl : us.length = 248) (hl2 : ls.length = 5) : Ct Pr F_world_World_Got [.pointer (some ⟨b, 0, none⟩)] .one [.slice] [Blk b (wcl c sl d g us ls (some ⟨k, 0, none⟩) ck st tr), Blk k [.slice none 0 0, .slice none 0 0, .map m]] emp
    (fun t Bs => t.1 = ⟨none, 0, 0⟩ ∧ Bs = [Blk b (wcl c sl d g us ls (some ⟨k, 0, none⟩) ck st tr), Blk k [.slice none 0 0, .slice none 0 0, .map m]]) := by
  have sg : Ct Pr F_sink_Sink_Got [.pointer (some ⟨k, 0, none⟩)] .one [.slice] [Blk k [.slice none 0 0, .slice none 0 0, .map m]] emp (fun t Bs => t.1 = ⟨none, 0, 0⟩ ∧ Bs = [Blk k [.slice none 0 0, .slice none 0 0, .map m]]) := by
    refine spec1 c_sink_Sink_Got fun B hr => ?_
    unfold sink_Sink_Got
    refine xnil (xget (s := .slice) (x := ⟨none, 0, 0⟩) (h := ?_))
    refine xloop2 (fun n (out : Sl) (x : Int) As' => x = 0 ∧ out = ⟨none, 0, 0⟩ ∧ As' = [Blk k [.slice none 0 0, .slice none 0 0, .map m]]) 0 ⟨rfl, rfl, rfl⟩ ?_
    rintro n out x As' K ⟨rfl, rfl, rfl⟩ hK
    exact xiff rfl (xret ⟨rfl, rfl⟩)
  refine spec1 c_world_World_Got fun B hr => ?_
  unfold world_World_Got
  refine xnil (xget (b := b) (s := .ptr) (x := some ⟨k, 0, none⟩) (hv := wcl_end (i := 0) hl hl2) (h := ?_))
  refine xcl sg rdb ?_
  rintro ⟨t, _⟩ _ ⟨ht, rfl⟩
  obtain rfl : t = ⟨none, 0, 0⟩ := ht
  exact app1 (ca1 (xuse [Blk b (wcl c sl d g us ls (some ⟨k, 0, none⟩) ck st tr), Blk k [.slice none 0 0, .slice none 0 0, .map m]] (xret ⟨rfl, rfl⟩)))
end

def PKE : Enc (Int × Int × Int × Int × Int × Sl) := ⟨fun x => [.int .i64 x.1, .int .i64 x.2.1, .int .i64 x.2.2.1, .int .i64 x.2.2.2.1, .int .i64 x.2.2.2.2.1, x.2.2.2.2.2.v], 6, fun _ => rfl, fun x v h => by
  simp only [List.mem_cons, List.not_mem_nil, or_false] at h
  rcases h with h | h | h | h | h | h <;> (subst h; rfl), by decide, (0, 0, 0, 0, 0, ⟨none, 0, 0⟩)⟩
section
variable {c : Cfg} {sl : Sl} {d g : Option Addr} {us ls : List (Option Addr)} {sk : Option Addr} {ck st : Int} {tr : Sl} {b : Nat}
theorem Results0_spec {m : Option Nat} {k : Nat} (hl : us.length = 248) (hl2 : ls.length = 5) : Ct Pr F_world_World_Results [.pointer (some ⟨b, 0, none⟩)] .one [.slice] [Blk b (wcl c sl d g us ls (some ⟨k, 0, none⟩) ck st tr), Blk k [.slice none 0 0, .slice none 0 0, .map m]] emp
    (fun t Bs => t.1.n = 0 ∧ Bs = [Blk b (wcl c sl d g us ls (some ⟨k, 0, none⟩) ck st tr), Blk k [.slice none 0 0, .slice none 0 0, .map m]]) := by
  have sg : Ct Pr F_sink_Sink_Results [.pointer (some ⟨k, 0, none⟩)] .one [.slice] [Blk k [.slice none 0 0, .slice none 0 0, .map m]] emp (fun t Bs => t.1.n = 0 ∧ Bs = [Blk k [.slice none 0 0, .slice none 0 0, .map m]]) := by
    refine spec1 c_sink_Sink_Results fun B hr => ?_
    unfold sink_Sink_Results
    refine xnew fun b1 => ?_
    refine xfold1 (Q := Ar PKE ⟨some ⟨b1, 0, none⟩, 0, 0⟩ []) 0 (fun g hg => ⟨[], blk_ar (E := PKE) [] 0 rfl rfl hg⟩) ?_
    refine xnil (xget (s := .slice) (x := ⟨none, 0, 0⟩) (h := ?_))
    refine xnone PKE ?_
    refine xapp (E := PKE) (s := ⟨some ⟨b1, 0, none⟩, 0, 0⟩) (y := ⟨none, 0, 0⟩) (xs := []) (ys := []) (hb := by decide) (h := fun s2 => ?_)
    refine xlen s2 (fun hs _ => ?_)
    exact xuse [Blk k [.slice none 0 0, .slice none 0 0, .map m]] (xret ⟨hs.symm, rfl⟩)
  refine spec1 c_world_World_Results fun B hr => ?_
  unfold world_World_Results
  refine xnil (xget (b := b) (s := .ptr) (x := some ⟨k, 0, none⟩) (hv := wcl_end (i := 0) hl hl2) (h := ?_))
  refine xcl sg rdb ?_
  rintro ⟨t, _⟩ _ ⟨ht, rfl⟩
  exact app1 (ca1 (xuse [Blk b (wcl c sl d g us ls (some ⟨k, 0, none⟩) ck st tr), Blk k [.slice none 0 0, .slice none 0 0, .map m]] (xret ⟨ht, rfl⟩)))

/-- What a world comes to in which no gateway runs. -/
theorem summary0_spec {m : Option Nat} {k : Nat} (hl : us.length = 248) (hl2 : ls.length = 5) : Ct Pr F_console_summary [.pointer (some ⟨b, 0, none⟩)] .one [.str] [Blk b (wcl c sl d none us ls (some ⟨k, 0, none⟩) ck st tr), Blk k [.slice none 0 0, .slice none 0 0, .map m]] GTab
    (fun t Bs => t.1 = BA ([115, 116, 111, 112, 112, 101, 100, 10] ++ ([103, 111, 116, 32] ++ Lib.itoa 0 ++ [10])) ∧ Bs = []) := by
  refine spec1 c_console_summary fun B hr => ?_
  haveI : FroP B GTab := ⟨hr, fun _ _ h s => GTab.mono _ _ h s⟩
  unfold console_summary
  refine xbldnew fun b0 => ?_
  refine xcl (Status0_spec (c := c) (sl := sl) (d := d) (us := us) (ls := ls) (sk := some ⟨k, 0, none⟩) (ck := ck) (st := st) (tr := tr)) rdb ?_
  rintro ⟨r0, r1, r2, r3, r4, r5, r6, r7, r8, _⟩ _ ⟨h8, rfl⟩
  obtain rfl : r8 = false := h8
  refine app1 (ca9b ?_)
  refine xnew fun b1 => ?_
  iterate 8 (refine xset (h := ?_))
  refine xuse [Bld b0 [], Blk b (wcl c sl d none us ls (some ⟨k, 0, none⟩) ck st tr), Blk k [.slice none 0 0, .slice none 0 0, .map m]] ?_
  refine xjoin (xiff rfl ?_)
  refine xcl (WriteString_spec b0 [] _ (by decide)) rdb ?_
  rintro ⟨w1, w2, _⟩ _ rfl
  refine app1 (ca2 ?_)
  refine xcl (Got0_spec (c := c) (sl := sl) (d := d) (g := none) (ck := ck) (st := st) (tr := tr) (m := m) (k := k) hl hl2) rdb ?_
  rintro ⟨t, _⟩ _ ⟨ht, rfl⟩
  obtain rfl : t = ⟨none, 0, 0⟩ := ht
  refine app2 (ca1 ?_)
  refine xcall0 (Itoa_spec 0 (by decide) (by decide)) rdb ?_
  rintro ⟨t, _⟩ _ ⟨ht, rfl⟩
  obtain rfl : t = BA (Lib.itoa 0) := ht
  have hil := itoa_len (n := 0) (by omega) (by omega)
  have e1 : (⟨#[103, 111, 116, 32]⟩ : ByteArray) = BA [103, 111, 116, 32] := rfl
  have e2 : (⟨#[10]⟩ : ByteArray) = BA [10] := rfl
  refine app0 (ca1 ?_)
  rw [e1, e2, BA_app, BA_app]
  simp only [BA_size]
  refine xasrt (by simp; omega) (xasrt (by simp; omega) ?_)
  refine xcl (WriteString_spec b0 ([] ++ [115, 116, 111, 112, 112, 101, 100, 10]) (BA ([103, 111, 116, 32] ++ Lib.itoa 0 ++ [10])) (by rw [BA_size]; simp; omega)) rdb ?_
  rintro ⟨w3, w4, _⟩ _ rfl
  refine app1 (ca2 ?_)
  refine xcl (Results0_spec (c := c) (sl := sl) (d := d) (g := none) (ck := ck) (st := st) (tr := tr) (m := m) (k := k) hl hl2) rdb ?_
  rintro ⟨t, _⟩ _ ⟨ht, rfl⟩
  have ht : t.n = 0 := ht
  refine app2 (ca1 ?_)
  refine xuse [Bld b0 ([] ++ [115, 116, 111, 112, 112, 101, 100, 10] ++ (BA ([103, 111, 116, 32] ++ Lib.itoa 0 ++ [10])).data.toList)] ?_
  refine xloop1 (fun n (x : Int) As' => x = 0 ∧ As' = [Bld b0 ([] ++ [115, 116, 111, 112, 112, 101, 100, 10] ++ (BA ([103, 111, 116, 32] ++ Lib.itoa 0 ++ [10])).data.toList)]) 0 ⟨rfl, rfl⟩ ?_
  rintro n x As' K ⟨rfl, rfl⟩ hK
  rw [ht]
  refine xiff rfl ?_
  refine xcl (BString_spec b0 ([] ++ [115, 116, 111, 112, 112, 101, 100, 10] ++ (BA ([103, 111, 116, 32] ++ Lib.itoa 0 ++ [10])).data.toList) (by simp) (by rw [BA_list]; simp; omega)) rdb ?_
  rintro ⟨t, _⟩ _ ⟨ht, rfl⟩
  have ht : t = _ := ht
  subst ht
  refine app0 (ca1 (xret ⟨?_, rfl⟩))
  rw [BA_list]; rfl
end

/-! The chapter's configuration. -/
def headT : List UInt8 := [103, 97, 116, 101, 119, 97, 121, 32, 51, 32, 49, 32, 51, 32, 52, 32, 49, 48, 32, 49, 10, 116, 97, 103, 32, 97, 32, 49, 32, 104, 111, 108, 100, 105, 110, 103, 32, 48, 32, 53, 32, 45, 32, 49, 32, 49, 32, 48, 32, 48, 32, 48, 32, 45, 32, 45, 32, 48, 32, 45, 10]
def cfgOne : Cfg := ⟨3, 1, 3, 4, 10, 1, [⟨BA [97], 1, 3, 0, 5, false, false, false, 1, 1, 0, 0, 0, false, false, false, 0, 0, 0⟩]⟩
theorem head_parse : parseM headT = (cfgOne, 0, 0) := by
  have h1 : cfgE cfgOne = 0 := by decide +kernel
  have h2 : textL cfgOne = headT := by decide +kernel
  rw [← h2]; exact parse_text h1
theorem cfgOne_ok : cfgE cfgOne = 0 := by decide +kernel
theorem hb_lines : hasBody Pr F_strings_Lines_1 = true := by kernel_rfl

theorem Lines_spec (s : ByteArray) : Ct Pr F_strings_Lines [.string s] .one [.val] [] emp (fun t Bs => ∃ b : Nat, t.1 = .func (.func F_strings_Lines_1) #[] #[.pointer (some ⟨b, 0, none⟩)] ∧ Bs = [Blk b [.string s]]) := by
  refine spec1 c_strings_Lines fun B hr => ?_
  unfold strings_Lines
  exact xnew fun b => xret ⟨b, rfl, rfl⟩
theorem parts_head : Ct Pr F_console_parts [.string (BA (headT ++ [45, 45, 45, 10, 119, 104, 97, 116, 10]))] (.tup [none, none, none]) [.str, .str, .bool] [] GMax (fun t Bs => t.1 = BA headT ∧ t.2.1 = BA [119, 104, 97, 116, 10] ∧ t.2.2.1 = true ∧ Bs = []) := by
  refine spec3 c_console_parts fun B hr => ?_
  haveI : FroP B GMax := ⟨hr, fun _ _ h s => GMax.mono _ _ h s⟩
  unfold console_parts
  refine xcall0 (HasPrefix_spec _ _) rdb ?_
  rintro ⟨(c : Bool), _⟩ _ ⟨hc, rfl⟩
  have hc : c = false := by
    rw [show c = _ from hc, BA_list]; decide +kernel
  subst hc
  refine app0 (ca1 (xiff rfl ?_))
  refine xcall0 (Cut_spec _ _ (by rw [BA_size]; decide)) rdb ?_
  rintro ⟨a, b, (c : Bool), _⟩ _ ⟨h1, h2, h3, rfl⟩
  have hcut : Lib.cut (headT ++ [45, 45, 45, 10, 119, 104, 97, 116, 10]) [10, 45, 45, 45, 10] = (headT.dropLast, [119, 104, 97, 116, 10], true) := by decide +kernel
  rw [BA_list] at h1 h2 h3
  have e5 : (⟨#[10, 45, 45, 45, 10]⟩ : ByteArray).data.toList = [10, 45, 45, 45, 10] := rfl
  rw [e5, hcut] at h1 h2 h3
  obtain rfl : a = BA (headT.dropLast) := h1
  obtain rfl : b = BA [119, 104, 97, 116, 10] := h2
  obtain rfl : c = true := h3
  have e2 : (⟨#[10]⟩ : ByteArray) = BA [10] := rfl
  refine app0 (ca3 ?_)
  rw [e2, BA_app]
  refine xasrt (by rw [BA_size, BA_size]; decide) (xret ⟨?_, rfl, rfl, rfl⟩)
  show BA (headT.dropLast ++ [10]) = BA headT
  have : headT.dropLast ++ [10] = headT := by decide
  rw [this]

theorem appN5 {P1 P2 P3 P4 P5 : HP} {φ : WP} (h : Ent B (P1 :: P2 :: P3 :: P4 :: P5 :: F) φ) : Ent B ([P1, P2, P3, P4, P5] ++ F) φ := h
theorem xlines {l b : Nat} {R : WP} (h : Ent B As (strings_Lines_1 (.func (.yield l) #[] #[]) ⟨b, 0, none⟩ R)) : Ent B As (XCall Pr F_strings_Lines_1 ([.func (.yield l) #[] #[]] ++ #[.pointer (some ⟨b, 0, none⟩)].toList) (.tup []) [] R) := fun w hw => c_strings_Lines_1 (h w hw)

set_option maxHeartbeats 2000000 in
theorem Run_head : Ct Pr F_console_Run [.string (BA (headT ++ [45, 45, 45, 10, 119, 104, 97, 116, 10]))] (.tup [none, none]) [.str, .int .i64] [] GAll30
    (fun t Bs => t.1 = BA ([101, 114, 114, 111, 114, 32] ++ Lib.itoa 33 ++ [10] ++ ([115, 116, 111, 112, 112, 101, 100, 10] ++ ([103, 111, 116, 32] ++ Lib.itoa 0 ++ [10]))) ∧ t.2.1 = 0 ∧ Bs = []) := by
  refine spec2 c_console_Run fun B hr => ?_
  haveI : FroP B GErr := ⟨hr.1.1, fun _ _ h s => GErr.mono _ _ h s⟩
  haveI : FroP B GTab := ⟨hr.1.2, fun _ _ h s => GTab.mono _ _ h s⟩
  haveI : FroP B GMax := ⟨hr.2, fun _ _ h s => GMax.mono _ _ h s⟩
  haveI : FroP B GAll30 := ⟨hr, fun _ _ h s => GAll30.mono _ _ h s⟩
  unfold console_Run
  refine xif_dec (fun h => absurd h (by rw [BA_size]; decide)) (fun _ => ?_)
  refine xcall0 parts_head rdb ?_
  rintro ⟨t6, t7, (c : Bool), _⟩ _ ⟨h1, h2, h3, rfl⟩
  obtain rfl : t6 = BA headT := h1
  obtain rfl : t7 = BA [119, 104, 97, 116, 10] := h2
  obtain rfl : c = true := h3
  refine app0 (ca3 ?_)
  refine xjoin (xiff rfl ?_)
  refine xcall0 (HasSuffix_spec _ _ (by rw [BA_size]; decide)) rdb ?_
  rintro ⟨(c : Bool), _⟩ _ ⟨hc, rfl⟩
  have hc : c = true := by rw [show c = _ from hc, BA_list]; decide +kernel
  subst hc
  refine app0 (ca1 (xiff rfl ?_))
  refine xcall0 (Parse_spec (BA headT)) rdb ?_
  rintro _ _ ⟨s6, rfl, rfl⟩
  rw [BA_list, head_parse]
  refine app1 (ca9 ?_)
  refine xnew fun b2 => ?_
  iterate 7 (refine xset (h := ?_))
  refine xiff rfl ?_
  iterate 6 (refine xget (h := ?_))
  refine xget (s := .slice) (x := s6) (h := ?_)
  refine xlen (E := TG) s6 (fun hs6 hc6 => ?_)
  refine xcall0 (WorldNew_spec cfgOne s6 65536 cfgOne_ok (by decide) hc6) rdb ?_
  rintro ⟨q2, (e : Int), _⟩ _ ⟨he, wb, sk, m, slw, d, us, ls, hq, hul, hll, rfl⟩
  obtain rfl : e = 0 := he
  obtain rfl : q2 = some ⟨wb, 0, none⟩ := hq
  refine app3 (ca2 ?_)
  refine xnew fun b3 => xset (h := ?_)
  refine xiff rfl ?_
  refine xbldnew fun b4 => xnew fun b5 => xset (h := ?_)
  refine xcall0 (Lines_spec (BA [119, 104, 97, 116, 10])) rdb ?_
  rintro ⟨v2, _⟩ _ ⟨lb, hv, rfl⟩
  obtain rfl : v2 = .func (.func F_strings_Lines_1) #[] #[.pointer (some ⟨lb, 0, none⟩)] := hv
  refine app1 (ca1 ?_)
  refine xuse [Bld b4 [], Blk b5 [.int .i64 0], Blk b3 [.pointer (some ⟨wb, 0, none⟩)], Blk wb (wcl cfgOne slw d none us ls (some ⟨sk, 0, none⟩) 0 0 ⟨none, 0, 0⟩), Blk lb [.string (BA [119, 104, 97, 116, 10])], Blk sk [.slice none 0 0, .slice none 0 0, .map (some m)]] ?_
  refine xrfv hb_lines (xrf fun lp D rec hrd hpn hct => ?_)
  have hY : CtY Pr lp [.string (BA [119, 104, 97, 116, 10])] [LoopP lp rec, Bld b4 [], Blk b5 [.int .i64 0], Blk b3 [.pointer (some ⟨wb, 0, none⟩)], Blk wb (wcl cfgOne slw d none us ls (some ⟨sk, 0, none⟩) 0 0 ⟨none, 0, 0⟩)] GAll30
      (fun Bs => ∃ Cs, Bs = LoopP lp rec :: Cs ∧ Cs = [Bld b4 ([101, 114, 114, 111, 114, 32] ++ Lib.itoa 33 ++ [10]), Blk b5 [.int .i64 0], Blk b3 [.pointer (some ⟨wb, 0, none⟩)], Blk wb (wcl cfgOne slw d none us ls (some ⟨sk, 0, none⟩) 0 0 ⟨none, 0, 0⟩)]) := by
    refine hct _ [Bld b4 [], Blk b5 [.int .i64 0], Blk b3 [.pointer (some ⟨wb, 0, none⟩)], Blk wb (wcl cfgOne slw d none us ls (some ⟨sk, 0, none⟩) 0 0 ⟨none, 0, 0⟩)] GAll30 _ rfl fun B' hr' => ?_
    haveI : FroP B' GErr := ⟨hr'.1.1, fun _ _ h s => GErr.mono _ _ h s⟩
    haveI : FroP B' GTab := ⟨hr'.1.2, fun _ _ h s => GTab.mono _ _ h s⟩
    haveI : FroP B' GMax := ⟨hr'.2, fun _ _ h s => GMax.mono _ _ h s⟩
    rw [t_console_Run_rb]
    refine xbusy 0 hrd ?_
    refine xcall0 (TrimSuffix_spec _ _ (by rw [BA_size]; decide)) rdb ?_
    rintro ⟨t, _⟩ _ ⟨ht, rfl⟩
    have ht : t = BA [119, 104, 97, 116] := by
      rw [show t = _ from ht, BA_list]
      have : Lib.trimSuffix [119, 104, 97, 116, 10] (⟨#[10]⟩ : ByteArray).data.toList = [119, 104, 97, 116] := by decide +kernel
      rw [this]; rfl
    subst ht
    refine app0 (ca1 ?_)
    refine xcall0 (Step_spec [119, 104, 97, 116] (by decide)) rdb ?_
    rintro _ _ ⟨x, sl, e, rfl, rfl, hst⟩
    have hnone : stepC [119, 104, 97, 116] = none := by decide +kernel
    rw [hnone] at hst
    obtain ⟨_, rfl, rfl⟩ := hst.resolve_left (fun h => by cases h.1)
    refine app1 (ca10 ?_)
    refine xnew fun b => ?_
    iterate 9 (refine xset (h := ?_))
    refine xjoin (xiff rfl ?_)
    refine xcall0 (answered_spec 33 (by decide)) rdb ?_
    rintro ⟨t, _⟩ _ ⟨ht, rfl⟩
    have ht : t = _ := ht
    subst ht
    have hil := itoa_len (n := 33) (by omega) (by omega)
    refine app0 (ca1 ?_)
    refine xcl (WriteString_spec b4 [] (BA ([101, 114, 114, 111, 114, 32] ++ Lib.itoa 33 ++ [10])) (by rw [BA_size]; simp; omega)) rdb ?_
    rintro ⟨w3, w4, _⟩ _ rfl
    refine app1 (ca2 ?_)
    refine xget (b := b3) (s := .ptr) (x := some ⟨wb, 0, none⟩) (h := ?_)
    refine xcl (Trace0_spec (c := cfgOne) (sl := slw) (d := d) (g := none) (us := us) (ls := ls) (sk := some ⟨sk, 0, none⟩) (ck := 0) (st := 0) hul hll) rdb ?_
    rintro ⟨t, _⟩ _ ⟨ht, rfl⟩
    obtain rfl : t = ⟨none, 0, 0⟩ := ht
    refine app1 (ca1 ?_)
    refine xget (b := b5) (h := ?_)
    refine xslc (by decide) (by decide) (by decide) (by decide) ?_
    refine xuse [LoopP lp { rec with state := .busy }, Bld b4 ([] ++ (BA ([101, 114, 114, 111, 114, 32] ++ Lib.itoa 33 ++ [10])).data.toList), Blk b5 [.int .i64 0], Blk b3 [.pointer (some ⟨wb, 0, none⟩)], Blk wb (wcl cfgOne slw d none us ls (some ⟨sk, 0, none⟩) 0 0 ⟨none, 0, 0⟩)] ?_
    refine xloop1 (fun n (x : Int) As' => x = 0 ∧ As' = [LoopP lp { rec with state := .busy }, Bld b4 ([] ++ (BA ([101, 114, 114, 111, 114, 32] ++ Lib.itoa 33 ++ [10])).data.toList), Blk b5 [.int .i64 0], Blk b3 [.pointer (some ⟨wb, 0, none⟩)], Blk wb (wcl cfgOne slw d none us ls (some ⟨sk, 0, none⟩) 0 0 ⟨none, 0, 0⟩)]) 0 ⟨rfl, rfl⟩ ?_
    rintro n x As' K ⟨rfl, rfl⟩ hK
    refine xiff rfl ?_
    refine xset (b := b5) (h := ?_)
    refine xready 0 hrd hpn ?_
    exact fun w hw => ⟨_, rfl, hw⟩
  refine xlines ?_
  unfold strings_Lines_1
  refine xloop0 (fun n As' => (n = 1 ∧ As' = [LoopP lp rec, DefP D, Bld b4 [], Blk b5 [.int .i64 0], Blk b3 [.pointer (some ⟨wb, 0, none⟩)], Blk wb (wcl cfgOne slw d none us ls (some ⟨sk, 0, none⟩) 0 0 ⟨none, 0, 0⟩), Blk lb [.string (BA [119, 104, 97, 116, 10])], Blk sk [.slice none 0 0, .slice none 0 0, .map (some m)]]) ∨
    (n = 0 ∧ As' = [LoopP lp rec, DefP D, Bld b4 ([101, 114, 114, 111, 114, 32] ++ Lib.itoa 33 ++ [10]), Blk b5 [.int .i64 0], Blk b3 [.pointer (some ⟨wb, 0, none⟩)], Blk wb (wcl cfgOne slw d none us ls (some ⟨sk, 0, none⟩) 0 0 ⟨none, 0, 0⟩), Blk lb [.string (BA [])], Blk sk [.slice none 0 0, .slice none 0 0, .map (some m)]])) 1 (.inl ⟨rfl, rfl⟩) ?_
  rintro n As' K (⟨rfl, rfl⟩ | ⟨rfl, rfl⟩) hK
  · refine xget (b := lb) (h := ?_)
    refine xif_dec (fun _ => ?_) (fun h => absurd (by rw [BA_size]; decide) h)
    refine xget (b := lb) (h := ?_)
    refine xcall0 (IndexByte_spec _ 10) rdb ?_
    rintro ⟨(r : Int), _⟩ _ ⟨hr4, rfl⟩
    have hr4 : r = 4 := by rw [show r = _ from hr4, BA_list]; decide +kernel
    subst hr4
    refine app0 (ca1 (xjoin (xift rfl (xdraw ?_))))
    refine xget (b := lb) (h := ?_)
    refine xsub (i := 0) (j := 5) rfl (by decide) (by decide) (by decide) ?_
    refine xget (b := lb) (h := ?_)
    refine xsub (i := 5) (j := 5) (by decide) (by rw [BA_size]; rfl) (by decide) (by decide) ?_
    rw [show (([119, 104, 97, 116, 10] : List UInt8).take 5).drop 5 = [] from rfl]
    refine xset (b := lb) (h := ?_)
    refine xdyny ?_
    refine xyield (pre := [LoopP lp rec, Bld b4 [], Blk b5 [.int .i64 0], Blk b3 [.pointer (some ⟨wb, 0, none⟩)], Blk wb (wcl cfgOne slw d none us ls (some ⟨sk, 0, none⟩) 0 0 ⟨none, 0, 0⟩)]) hY Split.perm rdb ?_
    · rintro _ ⟨_, rfl, rfl⟩
      refine appN5 (xiff rfl ?_)
      exact xuse [LoopP lp rec, DefP D, Bld b4 ([101, 114, 114, 111, 114, 32] ++ Lib.itoa 33 ++ [10]), Blk b5 [.int .i64 0], Blk b3 [.pointer (some ⟨wb, 0, none⟩)], Blk wb (wcl cfgOne slw d none us ls (some ⟨sk, 0, none⟩) 0 0 ⟨none, 0, 0⟩), Blk lb [.string (BA [])], Blk sk [.slice none 0 0, .slice none 0 0, .map (some m)]] (hK 0 _ (by decide) (.inr ⟨rfl, rfl⟩))
  · refine xget (b := lb) (h := ?_)
    refine xif_dec (fun h => absurd h (by rw [BA_size]; decide)) (fun _ => ?_)
    refine xendloop 0 hrd hpn ?_
    refine xdraw (xget (b := b3) (s := .ptr) (x := some ⟨wb, 0, none⟩) (h := ?_))
    have hil := itoa_len (n := 33) (by omega) (by omega)
    have hil0 := itoa_len (n := 0) (by omega) (by omega)
    refine xcl (BString_spec b4 ([101, 114, 114, 111, 114, 32] ++ Lib.itoa 33 ++ [10]) (by simp) (by simp; omega)) rdb ?_
    rintro ⟨t, _⟩ _ ⟨ht, rfl⟩
    have ht : t = _ := ht
    subst ht
    refine app0 (ca1 (xchk (b := b3) (h := ?_)))
    refine xcl (summary0_spec (c := cfgOne) (sl := slw) (d := d) (us := us) (ls := ls) (ck := 0) (st := 0) (tr := ⟨none, 0, 0⟩) (b := wb) (m := some m) (k := sk) hul hll) rdb ?_
    rintro ⟨t, _⟩ _ ⟨ht, rfl⟩
    have ht : t = _ := ht
    subst ht
    refine app0 (ca1 ?_)
    rw [BA_app]
    refine xasrt (by simp only [BA_size, List.length_append, List.length_cons, List.length_nil]; omega) ?_
    refine xfront (P := DefP D) 0 ?_
    refine xtake 0 ?_
    exact xkeep (l := []) (xret ⟨rfl, rfl, rfl⟩)

end Go.Cx

namespace Go.Cx
open Go Go.Cf
set_option linter.unusedVariables false
set_option maxRecDepth 100000
variable {B : Base} {As F : List HP}

def worksW : List UInt8 := [116, 117, 114, 110, 32, 117, 112, 32, 48, 32, 57]
theorem works_step : stepC worksW = some ⟨9, 0, 3, 9, 0, 0, 0, [], []⟩ := by
  have h : (stepC worksW).map (fun x => sameB x ⟨9, 0, 3, 9, 0, 0, 0, [], []⟩) = some true := by decide +kernel
  cases e : stepC worksW with
  | none => rw [e] at h; cases h
  | some x =>
    rw [e] at h
    rw [sameB_iff.1 (Option.some.inj h)]

/-! How long what a line tells may be. -/
theorem bytesV_len {w l : List UInt8} (h : bytesV w = some l) : l.length ≤ w.length := by
  rw [← hexM_only h]
  unfold hexM
  split
  · rename_i e; subst e; simp
  · rw [hexL_len]; omega
theorem readF_len {f : UInt8} {w : List UInt8} {s x : StepV} {N : Nat} (h : readF f w s = some x) (hw : w.length ≤ N) (hb : s.bytes.length ≤ N) (hn : s.name.length ≤ N) : x.bytes.length ≤ N ∧ x.name.length ≤ N := by
  unfold readF at h
  split at h
  · split at h
    · cases h
    · obtain rfl := Option.some.inj h; exact ⟨hb, hn⟩
  split at h
  · split at h
    · cases h
    · obtain rfl := Option.some.inj h; exact ⟨hb, hn⟩
  split at h
  · obtain ⟨l, hl, rfl⟩ := Option.map_eq_some_iff.1 h
    exact ⟨Nat.le_trans (bytesV_len hl) hw, hn⟩
  split at h
  · split at h
    · cases h
    · obtain rfl := Option.some.inj h; exact ⟨hb, hw⟩
  · obtain ⟨v, hv, rfl⟩ := Option.map_eq_some_iff.1 h
    rcases off_cases f with ⟨_, hs, _⟩ | ⟨_, hs, _⟩ | ⟨_, hs, _⟩ | ⟨_, hs, _⟩ | ⟨_, hs, _⟩ | ⟨_, hs, _⟩ <;> (rw [hs]; exact ⟨hb, hn⟩)
theorem readAll_len {N : Nat} : ∀ {fs : List UInt8} {ws : List (List UInt8)} {s x : StepV}, readAll fs ws s = some x → (∀ w ∈ ws, w.length ≤ N) → s.bytes.length ≤ N → s.name.length ≤ N → x.bytes.length ≤ N ∧ x.name.length ≤ N
  | [], ws, s, x, h, _, hb, hn => by obtain rfl := Option.some.inj h; exact ⟨hb, hn⟩
  | f :: fs, ws, s, x, h, hw, hb, hn => by
    simp only [readAll] at h
    obtain ⟨y, h1, h2⟩ := bindS h
    have hh : (ws.headD []).length ≤ N := by
      cases ws with
      | nil => simp
      | cons w r => exact hw w (by simp)
    obtain ⟨g1, g2⟩ := readF_len h1 hh hb hn
    exact readAll_len h2 (fun w hm => hw w (List.mem_of_mem_drop hm)) g1 g2
theorem step_bytes {L : List UInt8} {x : StepV} {N : Nat} (h : stepC L = some x) (hl : L.length ≤ N) : x.bytes.length ≤ N ∧ x.name.length ≤ N := by
  unfold stepC stepOfW at h
  cases hf : findW (wd (splitL 32 L) 0) shapesL with
  | none => rw [hf] at h; cases h
  | some kf =>
    obtain ⟨k, fs⟩ := kf
    rw [hf] at h
    simp only at h
    split at h
    · exact readAll_len h (fun w hw => Nat.le_trans (splitL_len (List.mem_of_mem_drop hw)) hl) (by simp [step0]) (by simp [step0])
    · cases h

set_option maxHeartbeats 1000000 in
theorem works30_spec : Ct Pr F_law30_works [] .one [.bool] [] GAll30 (fun t Bs => t.1 = true ∧ Bs = []) := by
  refine spec1 c_law30_works fun B hr => ?_
  haveI : FroP B GErr := ⟨hr.1.1, fun _ _ h s => GErr.mono _ _ h s⟩
  haveI : FroP B GTab := ⟨hr.1.2, fun _ _ h s => GTab.mono _ _ h s⟩
  haveI : FroP B GMax := ⟨hr.2, fun _ _ h s => GMax.mono _ _ h s⟩
  haveI : FroP B GAll30 := ⟨hr, fun _ _ h s => GAll30.mono _ _ h s⟩
  unfold law30_works
  refine xcall0 (Step_spec worksW (by decide)) rdb ?_
  rintro _ _ ⟨x, sl, e, rfl, rfl, hst⟩
  rw [works_step] at hst
  obtain ⟨hx, rfl⟩ := hst.resolve_right (fun h => by cases h.1)
  obtain rfl := Option.some.inj hx
  refine app1 (ca10 ?_)
  refine xnew fun b => ?_
  iterate 9 (refine xset (h := ?_))
  refine xcall0 Run_head rdb ?_
  rintro ⟨t, (e : Int), _⟩ _ ⟨ht, he, rfl⟩
  have ht : t = _ := ht
  subst ht
  obtain rfl : e = 0 := he
  refine app0 (ca2 ?_)
  refine xjoin (xift rfl (xget (h := ?_)))
  refine xjoin (xift rfl (xget (h := ?_)))
  refine xjoin (xift rfl (xget (h := ?_)))
  refine xjoin (xift rfl (xget (h := ?_)))
  refine xjoin (xift rfl (xkeep (l := []) (xret ⟨?_, rfl⟩)))
  have e1 : [101, 114, 114, 111, 114, 32] ++ Lib.itoa 33 ++ [10] ++ ([115, 116, 111, 112, 112, 101, 100, 10] ++ ([103, 111, 116, 32] ++ Lib.itoa 0 ++ [10])) = ([101, 114, 114, 111, 114, 32, 51, 51, 10, 115, 116, 111, 112, 112, 101, 100, 10, 103, 111, 116, 32, 48, 10] : List UInt8) := by decide +kernel
  rw [e1]
  exact (BA_eqv _ _).trans (by simp)
theorem xworks {K : Bool → WP} [FroP B GAll30] (h : Ent B As (K true)) : Ent B As (XCall Pr F_law30_works [] .one [.bool] fun (c : Bool) => K c) := by
  refine xcall0 works30_spec rdb ?_
  rintro ⟨c, _⟩ _ ⟨hc, rfl⟩
  obtain rfl : c = true := hc
  exact app0 (ca1 h)

theorem word_small (s : StepV) (f : UInt8) (hb : s.bytes.length ≤ 4096) (hn : s.name.length ≤ 4096) : (wordF s f).2.length ≤ 8192 := by
  have hw := list_len waysW (by decide) rfl
  have hk := list_len kindsW (by decide) rfl
  unfold wordF
  repeat' split
  · unfold hexM
    split
    · simp
    · have := hexL_len s.bytes
      show (hexL s.bytes).length ≤ _
      omega
  · simp
  · show s.name.length ≤ _
    omega
  · simp
  · exact Nat.le_trans (hw _) (by decide)
  · simp
  · exact Nat.le_trans (hk _) (by decide)
  · simp
  · rename_i h
    have := itoa_len (n := getF f s) (by omega) (by omega)
    show (Lib.itoa _).length ≤ _
    omega
theorem same_self (x : StepV) : sameB x x = true := sameB_iff.2 rfl

set_option maxHeartbeats 2000000 in
theorem ConsoleSteps_spec (line : ByteArray) : Ct Pr F_law30_ConsoleSteps [.string line] .one [.bool] [] GAll30 (fun t Bs => t.1 = true ∧ Bs = []) := by
  refine spec1 c_law30_ConsoleSteps fun B hr => ?_
  haveI : FroP B GErr := ⟨hr.1.1, fun _ _ h s => GErr.mono _ _ h s⟩
  haveI : FroP B GTab := ⟨hr.1.2, fun _ _ h s => GTab.mono _ _ h s⟩
  haveI : FroP B GMax := ⟨hr.2, fun _ _ h s => GMax.mono _ _ h s⟩
  haveI : FroP B GAll30 := ⟨hr, fun _ _ h s => GAll30.mono _ _ h s⟩
  unfold law30_ConsoleSteps
  refine xif_dec (fun _ => xworks (xret ⟨rfl, rfl⟩)) (fun hsz => ?_)
  obtain ⟨L, rfl⟩ : ∃ L, line = BA L := ⟨line.data.toList, (BA_data line).symm⟩
  rw [BA_size] at hsz
  have hl : L.length ≤ 1048576 := by omega
  refine xcall0 (Step_spec L hl) rdb ?_
  rintro _ _ ⟨x1, s1, e1, rfl, rfl, h1⟩
  refine app1 (ca10 (xnew fun b1 => ?_))
  iterate 9 (refine xset (h := ?_))
  refine xcall0 (Step_spec L hl) rdb ?_
  rintro _ _ ⟨x2, s2, e2, rfl, rfl, h2⟩
  refine app1 (ca10 (xnew fun b2 => ?_))
  iterate 9 (refine xset (h := ?_))
  refine xcall0 (Step30_spec L hl) rdb ?_
  rintro _ _ ⟨x3, s3, e3, rfl, rfl, h3⟩
  refine app1 (ca10 (xnew fun b3 => ?_))
  iterate 9 (refine xset (h := ?_))
  have key : ∀ {x y : StepV} {e f : Int}, ((stepC L = some x ∧ e = 0) ∨ (stepC L = none ∧ x = step0 ∧ e = 33)) → ((stepC L = some y ∧ f = 0) ∨ (stepC L = none ∧ y = step0 ∧ f = 33)) → x = y ∧ e = f := by
    rintro x y e f (⟨h1, h2⟩ | ⟨h1, h2, h3⟩) (⟨g1, g2⟩ | ⟨g1, g2, g3⟩)
    · rw [h1] at g1; exact ⟨Option.some.inj g1, by rw [h2, g2]⟩
    · rw [h1] at g1; cases g1
    · rw [h1] at g1; cases g1
    · exact ⟨by rw [h2, g2], by rw [h3, g3]⟩
  have hbl : x1.bytes.length ≤ 140737488355328 := by
    rcases h1 with ⟨h1, _⟩ | ⟨_, h1, _⟩
    · have := (step_bytes h1 hl).1
      omega
    · rw [h1]; decide
  obtain ⟨rfl, rfl⟩ := key h1 h3
  obtain ⟨rfl, rfl⟩ := key h2 h1
  refine xjoin (xiff (by simp) ?_)
  iterate 8 (refine xget (b := b1) (h := ?_))
  refine xget (b := b1) (s := .slice) (x := s1) (h := ?_)
  iterate 8 (refine xget (b := b3) (h := ?_))
  refine xget (b := b3) (s := .slice) (x := s3) (h := ?_)
  refine xcall0 (Same_spec x2 x2 s1 s3 hbl) rdb ?_
  rintro ⟨c, _⟩ _ ⟨hc, rfl⟩
  obtain rfl : c = true := hc.trans (same_self x2)
  refine app0 (ca1 (xjoin (xiff rfl ?_)))
  iterate 8 (refine xget (b := b2) (h := ?_))
  refine xget (b := b2) (s := .slice) (x := s2) (h := ?_)
  iterate 8 (refine xget (b := b3) (h := ?_))
  refine xget (b := b3) (s := .slice) (x := s3) (h := ?_)
  refine xcall0 (Same_spec x2 x2 s2 s3 hbl) rdb ?_
  rintro ⟨c, _⟩ _ ⟨hc, rfl⟩
  obtain rfl : c = true := hc.trans (same_self x2)
  refine app0 (ca1 (xiff rfl ?_))
  refine xget (b := b1) (s := .slice) (x := s1) (h := ?_)
  refine xcl (SpoilBytes_spec s1 x2.bytes) rdb ?_
  rintro _ _ rfl
  refine app0 (ca0 ?_)
  iterate 8 (refine xget (b := b2) (h := ?_))
  refine xget (b := b2) (s := .slice) (x := s2) (h := ?_)
  iterate 8 (refine xget (b := b3) (h := ?_))
  refine xget (b := b3) (s := .slice) (x := s3) (h := ?_)
  refine xcall0 (Same_spec x2 x2 s2 s3 hbl) rdb ?_
  rintro ⟨c, _⟩ _ ⟨hc, rfl⟩
  obtain rfl : c = true := hc.trans (same_self x2)
  refine app0 (ca1 (xjoin (xift rfl (xworks (xkeep (l := []) (xret ⟨rfl, rfl⟩))))))

set_option maxHeartbeats 2000000 in
theorem ConsoleLines_spec (s : StepV) (sl : Sl) : Ct Pr F_law30_ConsoleLines [.agg #[.int .i64 s.kind, .int .i64 s.num, .int .i64 s.way, .int .i64 s.bit, .int .i64 s.unit, .int .i64 s.addr, .int .i64 s.id, .string (BA s.name), sl.v]] .one [.bool] [] ((RAr U8 sl s.bytes).and GAll30) (fun t Bs => t.1 = true ∧ Bs = []) := by
  refine spec1 c_law30_ConsoleLines fun B hr0 => ?_
  have hr := hr0.2
  haveI : Fro B sl U8 s.bytes := ⟨hr0.1⟩
  have hsl : s.bytes.length = sl.n := hr0.1.1
  haveI : FroP B GErr := ⟨hr.1.1, fun _ _ h s => GErr.mono _ _ h s⟩
  haveI : FroP B GTab := ⟨hr.1.2, fun _ _ h s => GTab.mono _ _ h s⟩
  haveI : FroP B GMax := ⟨hr.2, fun _ _ h s => GMax.mono _ _ h s⟩
  haveI : FroP B GAll30 := ⟨hr, fun _ _ h s => GAll30.mono _ _ h s⟩
  unfold law30_ConsoleLines
  refine xnew fun b => ?_
  refine xget (s := .slice) (x := sl) (h := ?_)
  refine xjoin1 (fun (c : Bool) As' => As' = [Blk b [.int .i64 s.kind, .int .i64 s.num, .int .i64 s.way, .int .i64 s.bit, .int .i64 s.unit, .int .i64 s.addr, .int .i64 s.id, .string (BA s.name), sl.v]] ∧ (c = false → s.bytes.length ≤ 4096 ∧ s.name.length ≤ 4096)) (fun K hK => ?_) ?_
  · refine xif_dec (fun h => hK _ _ ⟨rfl, fun e => by cases e⟩) (fun h => xget (h := hK _ _ ⟨rfl, fun e => ?_⟩))
    rw [BA_size] at e
    simp only [decide_eq_false_iff_not] at e
    exact ⟨by omega, by omega⟩
  rintro c As2 ⟨rfl, hlen⟩
  refine xif (fun _ => xworks (xkeep (l := []) (xret ⟨rfl, rfl⟩))) (fun hc => ?_)
  obtain ⟨hb, hn⟩ := hlen hc
  iterate 8 (refine xget (h := ?_))
  refine xget (s := .slice) (x := sl) (h := ?_)
  refine xnew fun b1 => ?_
  iterate 9 (refine xset (h := ?_))
  refine xget (b := b) (s := .slice) (x := sl) (h := ?_)
  refine xcall0 (LentBytes_spec sl s.bytes (by omega)) rdb ?_
  rintro ⟨s3, _⟩ _ rfl
  refine app1 (ca1 (xset (b := b1) (h := ?_)))
  iterate 8 (refine xget (b := b1) (h := ?_))
  refine xget (b := b1) (s := .slice) (x := s3) (h := ?_)
  refine xcall0 (Line_spec s s3 (by omega) (by omega)) rdb ?_
  rintro ⟨t, (e : Int), _⟩ _ ⟨he, ht, rfl⟩
  have he : e = _ := he
  have ht : t = _ := ht
  subst he ht
  refine app0 (ca2 ?_)
  iterate 8 (refine xget (b := b) (h := ?_))
  refine xget (b := b) (s := .slice) (x := sl) (h := ?_)
  refine xcall0 (Line30_spec s sl (by omega) (by omega)) rdb ?_
  rintro ⟨t, (e : Int), _⟩ _ ⟨he, ht, rfl⟩
  have he : e = _ := he
  have ht : t = _ := ht
  subst he ht
  refine app0 (ca2 (xjoin (xift (by simp) ?_)))
  refine xget (b := b1) (s := .slice) (x := s3) (h := ?_)
  refine xget (b := b) (s := .slice) (x := sl) (h := ?_)
  refine xcall0 (KeptBytes_spec s3 sl s.bytes (by omega)) rdb ?_
  rintro ⟨c, _⟩ _ ⟨hc, rfl⟩
  obtain rfl : c = true := hc
  exact app0 (ca1 (xjoin (xift rfl (xworks (xkeep (l := []) (xret ⟨rfl, rfl⟩))))))

set_option maxHeartbeats 2000000 in
theorem ConsoleBack_spec (s : StepV) (sl : Sl) (line : ByteArray) : Ct Pr F_law30_ConsoleBack [.agg #[.int .i64 s.kind, .int .i64 s.num, .int .i64 s.way, .int .i64 s.bit, .int .i64 s.unit, .int .i64 s.addr, .int .i64 s.id, .string (BA s.name), sl.v], .string line] .one [.bool] [] ((RAr U8 sl s.bytes).and GAll30) (fun t Bs => t.1 = true ∧ Bs = []) := by
  refine spec1 c_law30_ConsoleBack fun B hr0 => ?_
  have hr := hr0.2
  haveI : Fro B sl U8 s.bytes := ⟨hr0.1⟩
  have hsl : s.bytes.length = sl.n := hr0.1.1
  haveI : FroP B GErr := ⟨hr.1.1, fun _ _ h s => GErr.mono _ _ h s⟩
  haveI : FroP B GTab := ⟨hr.1.2, fun _ _ h s => GTab.mono _ _ h s⟩
  haveI : FroP B GMax := ⟨hr.2, fun _ _ h s => GMax.mono _ _ h s⟩
  haveI : FroP B GAll30 := ⟨hr, fun _ _ h s => GAll30.mono _ _ h s⟩
  obtain ⟨L, rfl⟩ : ∃ L, line = BA L := ⟨line.data.toList, (BA_data line).symm⟩
  unfold law30_ConsoleBack
  refine xnew fun b => ?_
  refine xget (s := .slice) (x := sl) (h := ?_)
  refine xjoin1 (fun (c : Bool) As' => As' = [Blk b [.int .i64 s.kind, .int .i64 s.num, .int .i64 s.way, .int .i64 s.bit, .int .i64 s.unit, .int .i64 s.addr, .int .i64 s.id, .string (BA s.name), sl.v]] ∧ (c = false → s.bytes.length ≤ 4096 ∧ s.name.length ≤ 4096)) (fun K hK => ?_) ?_
  · refine xif_dec (fun h => hK _ _ ⟨rfl, fun e => by cases e⟩) (fun h => xget (h := hK _ _ ⟨rfl, fun e => ?_⟩))
    rw [BA_size] at e
    simp only [decide_eq_false_iff_not] at e
    exact ⟨by omega, by omega⟩
  rintro c As2 ⟨rfl, hlen⟩
  rw [BA_size]
  refine xif (fun _ => xworks (xkeep (l := []) (xret ⟨rfl, rfl⟩))) (fun hc => ?_)
  simp only [Bool.or_eq_false_iff, decide_eq_false_iff_not] at hc
  obtain ⟨hb, hn⟩ := hlen hc.1
  have hl : L.length ≤ 4096 := by omega
  iterate 8 (refine xget (h := ?_))
  refine xget (s := .slice) (x := sl) (h := ?_)
  refine xcall0 (Line_spec s sl (by omega) (by omega)) rdb ?_
  rintro ⟨t, (e : Int), _⟩ _ ⟨he, ht, rfl⟩
  have he : e = _ := he
  have ht : t = _ := ht
  subst he ht
  refine app0 (ca2 ?_)
  refine xjoin0 (fun As' => As' = []) (fun K hK => ?_) ?_
  · refine xif (fun h0 => ?_) (fun _ => xkeep (l := []) (hK _ rfl))
    have h0 : (lineM s).1 = 0 := eq_of_beq h0
    have hst := step_of_line (s := s) (t := (lineM s).2) (by rw [← h0])
    have htl : (lineM s).2.length ≤ 1048576 := by
      have hx : (lineM s) = (0, (lineM s).2) := by rw [← h0]
      unfold lineM at hx ⊢
      cases hf : findK s.kind shapesL with
      | none => simp
      | some wf =>
        obtain ⟨w, fs⟩ := wf
        rw [hf] at hx
        simp only at hx ⊢
        split
        · simp
        · rename_i hfo
          rw [if_neg hfo] at hx
          obtain ⟨h2, h3⟩ := wordsF_ok hx
          rw [h3]
          obtain ⟨hk, hm⟩ := findK_cases hf
          have hsz : fs.length ≤ 4 ∧ w.length ≤ 10 := by
            have : ∀ x ∈ shapesL, x.2.2.length ≤ 4 ∧ x.1.length ≤ 10 := by decide
            exact this _ hm
          have hwl : ∀ f, (wordF s f).2.length ≤ 8192 := fun f => word_small s f hb hn
          have : ∀ fs : List UInt8, (((tailF s fs).map (32 :: ·)).flatten).length ≤ fs.length * 8193 := by
            intro fs
            induction fs with
            | nil => simp [tailF]
            | cons f r ih =>
              have := hwl f
              simp only [tailF, List.map_cons, List.flatten_cons, List.length_append, List.length_cons] at ih ⊢
              omega
          have := this fs
          rw [List.length_append]
          omega
    refine xcall0 (Step_spec (lineM s).2 htl) rdb ?_
    rintro _ _ ⟨x1, s1, e1, rfl, rfl, h1⟩
    obtain ⟨hx, rfl⟩ := h1.resolve_right (fun h => by rw [hst] at h; cases h.1)
    rw [hst] at hx
    obtain rfl := Option.some.inj hx
    refine app1 (ca10 (xnew fun b1 => ?_))
    iterate 9 (refine xset (h := ?_))
    refine xjoin (xiff rfl ?_)
    iterate 8 (refine xget (b := b1) (h := ?_))
    refine xget (b := b1) (s := .slice) (x := s1) (h := ?_)
    iterate 8 (refine xget (b := b) (h := ?_))
    refine xget (b := b) (s := .slice) (x := sl) (h := ?_)
    refine xcall0 (Same_spec s s s1 sl (by omega)) rdb ?_
    rintro ⟨c, _⟩ _ ⟨hc, rfl⟩
    obtain rfl : c = true := hc.trans (same_self s)
    exact app0 (ca1 (xiff rfl (xkeep (l := []) (hK _ rfl))))
  rintro As2 rfl
  refine xcall0 (Step_spec L (by omega)) rdb ?_
  rintro _ _ ⟨x1, s1, e1, rfl, rfl, h1⟩
  refine app1 (ca10 (xnew fun b1 => ?_))
  iterate 9 (refine xset (h := ?_))
  rcases h1 with ⟨h1, rfl⟩ | ⟨h1, rfl, rfl⟩
  · obtain ⟨g1, g2⟩ := step_bytes h1 hl
    have hlm := line_of_step h1
    refine xiff rfl ?_
    iterate 8 (refine xget (b := b1) (h := ?_))
    refine xget (b := b1) (s := .slice) (x := s1) (h := ?_)
    refine xcall0 (Line_spec x1 s1 (by omega) (by omega)) rdb ?_
    rintro ⟨t, (e : Int), _⟩ _ ⟨he, ht, rfl⟩
    have he : e = _ := he
    have ht : t = _ := ht
    rw [hlm] at he ht
    subst he ht
    refine app0 (ca2 (xjoin (xift rfl ?_)))
    rw [BA_eqv, show ((lineM x1).2 == L) = true from by rw [hlm]; simp]
    exact xjoin (xift rfl (xworks (xkeep (l := []) (xret ⟨rfl, rfl⟩))))
  · refine xift rfl (xjoin (xift rfl ?_))
    iterate 8 (refine xget (b := b1) (h := ?_))
    refine xget (b := b1) (s := .slice) (x := s1) (h := ?_)
    haveI : Fro B ⟨none, 0, 0⟩ U8 step0.bytes := ⟨rar_nil⟩
    refine xcall0 (Same_spec step0 step0 s1 ⟨none, 0, 0⟩ (by decide)) rdb ?_
    rintro ⟨c, _⟩ _ ⟨hc, rfl⟩
    obtain rfl : c = true := hc.trans (same_self step0)
    exact app0 (ca1 (xjoin (xift rfl (xworks (xkeep (l := []) (xret ⟨rfl, rfl⟩))))))

end Go.Cx

namespace Go.Cx
open Go Go.Cf Go.RowKit Go.ChangeShapes Go.WideShapes Go.Deep
set_option linter.unusedVariables false
set_option maxRecDepth 100000

theorem GMax_of {W : World} (h : W.ShapedOpen Pr) : GMax (mem W) := by
  obtain ⟨m, hm⟩ := Go.Proofs.cell_of_shapedOpen_int (P := Pr) (g := 0) (t := 3) (zero := #[.int .i64 0]) h (of_decide_eq_true (by kernel_rfl)) (by kernel_rfl) rfl (by kernel_rfl) (by kernel_rfl) Go.Proofs.Tryz.underlying3
  unfold World.cell? at hm
  cases hh : W.heap[0]? with
  | none => rw [hh] at hm; cases hm
  | some o =>
    rw [hh] at hm
    cases o with
    | cells cs e fr =>
      refine ⟨cs.toList, e, fr, m, ?_, ?_⟩
      · show W.heap[0]? = _
        rw [hh]
      · simpa using hm
    | _ => simp at hm

theorem tabType : (Pr.globals[5]?).map (·.type) = some 315 := by kernel_rfl
theorem c247 : Pr.cellsOf 247 = 1 := by kernel_rfl
theorem c315 : Pr.cellsOf 315 = 20 := by kernel_rfl

theorem GTab_of {W : World} (h : Lib.TabIs Pr W "internal/strconv.uint64pow10" .u64 Lib.pow10Tab) : GTab (mem W) := by
  unfold Lib.TabIs World.var? at h
  rw [globTab] at h
  simp only [Option.bind_some] at h
  show ∃ e fr, W.heap[5]? = some _
  split at h
  · rename_i cs e fr hh
    obtain rfl := Option.some.inj h
    exact ⟨e, fr, hh⟩
  · cases h

theorem GTab_of_laid {W : World} {a b : String × DataW Unit} {rest : List (String × DataW Unit)} (h : laidMet Pr (a :: b :: ("internal/strconv.uint64pow10", Lib.tabData .u64 Lib.pow10Tab) :: rest) W) : GTab (mem W) := by
  obtain ⟨ps, hv, _⟩ := h
  obtain ⟨n1, d1⟩ := a
  obtain ⟨n2, d2⟩ := b
  obtain ⟨g1, t1, cs1, fu1, p1, q1, hg1, ht1, hvar1, hd1, hv2, _⟩ := hv
  obtain ⟨g2, t2, cs2, fu2, p2, q2, hg2, ht2, hvar2, hd2, hv3, _⟩ := hv2
  obtain ⟨g3, t3, cs3, fu3, p3, q3, hg3, ht3, hvar3, hd3, _, _⟩ := hv3
  obtain rfl := Option.some.inj (globTab.symm.trans hg3)
  obtain rfl := Option.some.inj (tabType.symm.trans ht3)
  refine GTab_of ?_
  unfold Lib.TabIs
  rw [hvar3]
  have := Lib.cells_of_tab (by kernel_rfl : Pr.underlying 315 = some (.array 20 247)) (by kernel_rfl : Pr.underlying 247 = some (.int .u64)) c247 c315 hd3
  rw [← this]

theorem laidTail {W : World} {a : String × DataW Unit} {r : List (String × DataW Unit)} {ps : List MemPlace} (h : DataW.LaidVars Pr W (a :: r) ps) : ∃ q, DataW.LaidVars Pr W r q := by
  obtain ⟨n, d⟩ := a
  obtain ⟨_, _, _, _, _, q, _, _, _, _, hv, _⟩ := h
  exact ⟨q, hv⟩
theorem ErrAt_of {W : World} {n : String} {g : Nat} {name : String} {d : DataW Unit} {r : List (String × DataW Unit)} {ps : List MemPlace} (hg : Pr.globalNamed n = some g) (ht : (Pr.globals[g]?).map (·.type) = some 74)
    (h : DataW.LaidVars Pr W ((n, .iface name d) :: r) ps) : ErrAt g (mem W) := by
  obtain ⟨g', t, cs, fu, p, q, hg', ht', hvar, hd, _, _⟩ := h
  obtain rfl := Option.some.inj (hg.symm.trans hg')
  obtain rfl := Option.some.inj (ht.symm.trans ht')
  obtain ⟨f2, u, v, hcs, _⟩ := iface_of_trod Go.Proofs.Tryz.underlying74 hd
  unfold World.var? at hvar
  rw [hg] at hvar
  simp only [Option.bind_some] at hvar
  show ∃ cs e fr v, W.heap[g]? = some _ ∧ _
  split at hvar
  · rename_i cs' e fr hh
    obtain rfl := Option.some.inj hvar
    exact ⟨cs'.toList, e, fr, .iface u v, by rw [hh], by rw [hcs]; rfl, .inr ⟨u, v, rfl⟩⟩
  · cases hvar
theorem GErr_of_laid {W : World} {a b c d : String × DataW Unit} {n1 n2 : String} {d1 d2 : DataW Unit} {rest : List (String × DataW Unit)}
    (h : laidMet Pr (a :: b :: c :: d :: ("strconv.ErrRange", .iface n1 d1) :: ("strconv.ErrSyntax", .iface n2 d2) :: rest) W) : GErr (mem W) := by
  obtain ⟨ps, hv, _⟩ := h
  obtain ⟨_, hv⟩ := laidTail hv
  obtain ⟨_, hv⟩ := laidTail hv
  obtain ⟨_, hv⟩ := laidTail hv
  obtain ⟨_, hv⟩ := laidTail hv
  have h1 := ErrAt_of (by kernel_rfl : Pr.globalNamed "strconv.ErrRange" = some 4) (by kernel_rfl) hv
  obtain ⟨_, hv⟩ := laidTail hv
  have h2 := ErrAt_of (by kernel_rfl : Pr.globalNamed "strconv.ErrSyntax" = some 3) (by kernel_rfl) hv
  exact ⟨h2, h1⟩

section
variable {H : Type} {enc : TypeId × Value → H} {w : World} {base : Nat} {held : Bool}
theorem int1 {fuel : Nat} {v : Value} {x : DataW H × List MemPlace} (h : DataW.trod enc Pr w base (fun _ => true) held fuel 3 [v] = some x) : ∃ a : Int, v = .int .i64 a := by
  obtain ⟨a, _, h1, _⟩ := opens_i64 (P := Pr) (t := 3) (by kernel_rfl) _ _ _ h
  exact ⟨a, by simpa [I64] using h1⟩
theorem str1 {fuel : Nat} {v : Value} {x : DataW H × List MemPlace} (h : DataW.trod enc Pr w base (fun _ => true) held fuel 9 [v] = some x) : ∃ a : List UInt8, v = .string (BA a) := by
  obtain ⟨s, hcs, _⟩ := DataW.trod_string Go.Proofs.Tryz.underlying9 h
  exact ⟨s.data.toList, by rw [BA_data]; simpa using hcs⟩
theorem step1 {fuel : Nat} {cs : List Value} {x : DataW H × List MemPlace} (h : DataW.trod enc Pr w base (fun _ => true) held fuel 25 cs = some x) : ∃ (s : StepV) (sl : Sl),
    cs = [.int .i64 s.kind, .int .i64 s.num, .int .i64 s.way, .int .i64 s.bit, .int .i64 s.unit, .int .i64 s.addr, .int .i64 s.id, .string (BA s.name), sl.v] ∧ RAr U8 sl s.bytes (mem w) := by
  obtain ⟨xs, n, _, hx0, hlen, hxs, hf⟩ := DataW.trod_struct Go.Proofs.Tryz.underlying25 h
  have ce : Pr.cellsOf 25 = 9 := by kernel_rfl
  have c3 : Pr.cellsOf 3 = 1 := by kernel_rfl
  have c9 : Pr.cellsOf 9 = 1 := by kernel_rfl
  have c5 : Pr.cellsOf 5 = 1 := by kernel_rfl
  have c23 : Pr.cellsOf 23 = 1 := by kernel_rfl
  rw [ce] at hlen
  match xs, hxs, cs, hlen with
  | [y0, y1, y2, y3, y4, y5, y6, y7, y8], _, [v0, v1, v2, v3, v4, v5, v6, v7, v8], _ =>
    have g0 := hf 0 _ rfl
    have g1 := hf 1 _ rfl
    have g2 := hf 2 _ rfl
    have g3 := hf 3 _ rfl
    have g4 := hf 4 _ rfl
    have g5 := hf 5 _ rfl
    have g6 := hf 6 _ rfl
    have g7 := hf 7 _ rfl
    have g8 := hf 8 _ rfl
    simp [c3, c9, c23] at g0 g1 g2 g3 g4 g5 g6 g7 g8
    obtain ⟨a0, rfl⟩ := int1 g0
    obtain ⟨a1, rfl⟩ := int1 g1
    obtain ⟨a2, rfl⟩ := int1 g2
    obtain ⟨a3, rfl⟩ := int1 g3
    obtain ⟨a4, rfl⟩ := int1 g4
    obtain ⟨a5, rfl⟩ := int1 g5
    obtain ⟨a6, rfl⟩ := int1 g6
    obtain ⟨a7, rfl⟩ := str1 g7
    obtain ⟨s, bs, hs, _, hr⟩ := opens_bytes (P := Pr) (t := 23) (e := 5) Go.Proofs.Tryz.underlying23 Go.Proofs.Tryz.underlying5 c5 _ _ _ g8
    obtain rfl : v8 = s.v := by simpa [SL] using hs
    exact ⟨⟨a0, a1, a2, a3, a4, a5, a6, a7, bs⟩, s, rfl, hr⟩
end
end Go.Cx
