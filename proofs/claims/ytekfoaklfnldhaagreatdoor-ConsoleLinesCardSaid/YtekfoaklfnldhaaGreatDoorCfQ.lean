/-
  Rules: a loop without variables; a byte of a string; a string of bytes.
-/
import Derived.Test.YtekfoaklfnldhaaGreatDoorCfO
import Derived.Test.YtekfoaklfnldhaaGreatDoorCfY
import Derived.Laws.IdiomStrings
namespace Go.Cf
open Go
set_option linter.unusedVariables false
variable {B : Base} {As : List HP}

theorem xloop0 {body : WP → WP} (I : Nat → List HP → Prop) (n0 : Nat) (h0 : I n0 As)
    (round : ∀ n As' (K : WP), I n As' → (∀ m As'', m < n → I m As'' → Ent B As'' K) → Ent B As' (body K)) : Ent B As (XLoop [] body) := by
  intro w hw
  refine ⟨n0 + 1, ?_⟩
  have key : ∀ n As', I n As' → ∀ k, n < k → Ent B As' (Cur.app [] (rounds [] body k) ()) := by
    intro n
    induction n using Nat.strongRecOn with
    | _ n ih =>
      intro As' hI k hk
      cases k with
      | zero => omega
      | succ k => exact round n As' (rounds [] body k) hI fun m As'' hm hI' => ih m hm As'' hI' k (by omega)
  exact key n0 As h0 (n0 + 1) (by omega) w hw

theorem xbyte {s : ByteArray} {i : Int} {k : Nat} {b : UInt8} {K : Int → WP} (hi : i = (k : Int)) (hb : s.data.toList[k]? = some b) (h : Ent B As (K b.toNat)) : Ent B As (XByte s i K) := fun w hw => by
  subst hi
  refine ⟨b, by omega, ?_, h w hw⟩
  rw [Int.toNat_natCast]
  obtain ⟨h1, h2⟩ := List.getElem?_eq_some_iff.1 hb
  have h1' : k < s.data.size := by simpa using h1
  show s.data[k]? = some b
  rw [Array.getElem?_eq_getElem h1']
  simpa using h2

/-- string(b) -/
theorem xstr {P : Program} {t d e : TypeId} {s : Sl} {xs : List UInt8} {K : ByteArray → WP} [r : RdA B As s U8 xs] (h0 : 0 < xs.length) (hs : P.underlying t = some (.slice e)) (he : P.underlying e = some (.int .u8)) (hd : P.underlying d = some .string) (h : Ent B As (K ⟨xs.toArray⟩)) :
    Ent B As (XRun P (convert t d s.v) .str K) := by
  intro w hw
  obtain ⟨hn, _, hc⟩ := r.rd w hw
  obtain ⟨b, o, pre, post, e1, fr, hp, hb, ho⟩ := hc (by omega)
  obtain ⟨p, n, c⟩ := s
  simp only at hp hn
  subst hp hn
  refine ⟨⟨xs.toArray⟩, w, ?_, h w hw⟩
  have hb' : w.heap[b]? = some (.cells (pre ++ flat U8 xs ++ post).toArray e1 fr) := hb
  refine run_convert_bytes_back w t d e ⟨b, o, none⟩ c xs hs he hd fun j hj => ?_
  rw [add_none]
  simp only [World.cell?, hb']
  simp only [Option.isSome_none, Bool.false_eq_true, if_false, List.getElem?_toArray]
  have hl := flat_length U8 xs
  have hsz : U8.sz = 1 := rfl
  rw [List.append_assoc, List.getElem?_append_right (by omega), ho, Nat.add_sub_cancel_left, List.getElem?_append_left (by rw [hl, hsz]; omega), flat_u8, List.getElem?_eq_getElem hj]
  rfl
end Go.Cf
