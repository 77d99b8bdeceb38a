/-
  LineTurns.
-/
import Derived.Test.YtdbdnlahimbcaaaT
namespace Go.Cx
open Go Go.Cf
set_option linter.unusedVariables false
variable {B : Base} {As : List HP}

theorem rds_and {F : List HP} {P Q : HP} (h1 : Rds B F P) (h2 : Rds B F Q) : Rds B F (P.and Q) := fun w hp hF a b c d e => ⟨h1 w hp hF a b c d e, h2 w hp hF a b c d e⟩

theorem rds_row (j : Nat) {F F' : List HP} {rs : List Sl} {bss : List (List UInt8)} [p : Pick j F (Each (Ar U8) rs bss) F'] {i : Nat} {r : Sl} {bs : List UInt8} (h1 : rs[i]? = some r) (h2 : bss[i]? = some bs) : Rds B F (RAr U8 r bs) :=
  rds_pick j (fun g hg => each_read (S := RAr U8) (fun _ _ _ _ h s => h.mono s) (fun _ _ _ h => h.read) hg h1 h2) (fun _ _ h s => h.mono s)

theorem rds_rows (i j : Nat) {F F' F'' : List HP} {s : Sl} {rs : List Sl} {bss : List (List UInt8)} [p : Pick i F (Ar SL s rs) F'] [q : Pick j F' (Each (Ar U8) rs bss) F''] : Rds B F (RRows s bss) :=
  rds_of fun g _ hF hs hm => by
    have h1 := star_perm (p.perm.trans (q.perm.cons _)) hs
    obtain ⟨a, b, pa, ⟨c, d, pc, _, _, sc, _⟩, _, sa, sb⟩ := h1
    exact ⟨rs, pa.read.mono (sa.trans hm), pc.length, fun i r bs h1 h2 => (each_read (S := RAr U8) (fun _ _ _ _ h s => h.mono s) (fun _ _ _ h => h.read) pc h1 h2).mono ((sc.trans sb).trans hm)⟩

theorem xrows (i : Nat) {s : Sl} {bss : List (List UInt8)} {F : List HP} [p : Pick i As (ORows s bss) F] {φ : WP} (k : ∀ rs : List Sl, rs.length = bss.length → Ent B (Ar SL s rs :: Each (Ar U8) rs bss :: F) φ) : Ent B As φ := by
  refine Ent.perm p.perm ?_
  intro w hw
  obtain ⟨g, ⟨a, c, ⟨rs, pa⟩, pc, d, sa, sc⟩, hm, hu⟩ := hw
  have hl : rs.length = bss.length := by
    obtain ⟨_, _, _, ⟨_, _, pe, _⟩, _⟩ := pa
    exact pe.length
  exact k rs hl w ⟨g, (star_append [_, _] F).2 ⟨a, c, pa, pc, d, sa, sc⟩, hm, hu⟩

theorem Pick_spec (k n : Int) (hk : i64 k) (hn : i64 n) : Ct Pr F_kit_Pick [.int .i64 k, .int .i64 n] .one [.int .i64] [] emp (fun t Bs => (1 ≤ n → 0 ≤ t.1 ∧ t.1 < n) ∧ Bs = []) := by
  refine spec1 c_kit_Pick fun B _ => ?_
  unfold kit_Pick
  refine xif_dec (fun h => xret ⟨fun h1 => by omega, rfl⟩) (fun h => ?_)
  have hlt : k.tmod n < n ∧ -n < k.tmod n := by
    constructor
    · exact Int.tmod_lt_of_pos k (by omega)
    · have : -(k.tmod n) < n := by rw [← Int.neg_tmod]; exact Int.tmod_lt_of_pos _ (by omega)
      omega
  have := hn.2
  refine xasrt (by omega) (xjoin (xif_dec (fun h0 => ?_) (fun h0 => ?_)))
  · rw [wrap_id _ (by omega) (by omega)]
    exact xret ⟨fun _ => (by show (0 : Int) ≤ _ ∧ (_ : Int) < n; omega), rfl⟩
  · exact xret ⟨fun _ => (by show (0 : Int) ≤ _ ∧ (_ : Int) < n; omega), rfl⟩

/-! The law of lists. -/
theorem turnL_err {L : Lm} {i bit : Int} (h : (turnL L i bit).2 ≠ 0) : (turnL L i bit).1 = L := by
  revert h
  unfold turnL
  split
  · split
    · intro _; rfl
    · split
      · intro _; rfl
      · intro h; exact absurd rfl h
  · intro _; rfl

theorem turnL_six {L : Lm} {i bit : Int} : (turnL L i bit).2 = 6 ↔ inL L i = false := by
  unfold turnL
  split
  · rename_i h; rw [h]; split
    · simp
    · split <;> simp
  · rename_i h; simp at h; simp [h]

theorem turnL_ok {L : Lm} {i bit : Int} (h : (turnL L i bit).2 = 0) : ∃ k : Nat, ∃ hk : k < L.length, i = (k : Int) ∧ 0 ≤ bit ∧ bit.toNat / 8 < L[k].1.length ∧ (turnL L i bit).1 = L.set k (flipB L[k].1 bit.toNat, true) := by
  unfold turnL at h ⊢
  split at h
  · rename_i hin
    have hi : 0 ≤ i ∧ i < L.length := by simpa [inL] using hin
    have hg : L.getD i.toNat ([], false) = L[i.toNat]'(by omega) := by simp [show i.toNat < L.length by omega]
    rw [hg] at h ⊢
    split at h
    · simp at h
    · rename_i h1
      split at h
      · simp at h
      · rename_i h2
        refine ⟨i.toNat, by omega, by omega, by omega, by omega, ?_⟩
        rw [if_pos hin, if_neg h1, if_neg h2]
  · simp at h

theorem turnL_twice {L : Lm} {k : Nat} {x : List UInt8} (hk : k < L.length) {r : Int} (h0 : 0 ≤ r) (h1 : r.toNat / 8 < x.length) : turnL (L.set k (x, true)) (k : Int) r = (L.set k (x, true), 7) := by
  have hin : inL (L.set k (x, true)) (k : Int) = true := by simp [inL]; omega
  have hg : (L.set k (x, true)).getD ((k : Int)).toNat ([], false) = (x, true) := by simp [hk]
  unfold turnL
  rw [if_pos hin, hg, if_neg (by simp only; omega), if_pos rfl]

theorem xorN_self (x : UInt8) : popN 8 (xorN x x) = 0 := by
  have : ∀ n : Nat, n < 256 → popN 8 (xorN (UInt8.ofNat n) (UInt8.ofNat n)) = 0 := by decide +kernel
  have h := this x.toNat x.toNat_lt
  simpa using h

theorem xorN_flip (x : UInt8) (m : Nat) (hm : m < 8) : popN 8 (xorN x (xorB x m)) = 1 := by
  have : ∀ n : Nat, n < 256 → ∀ m : Nat, m < 8 → popN 8 (xorN (UInt8.ofNat n) (xorB (UInt8.ofNat n) m)) = 1 := by decide +kernel
  have h := this x.toNat x.toNat_lt m hm
  simpa using h

theorem zip_set (f : UInt8 → UInt8 → Nat) (hf : ∀ x, f x x = 0) : ∀ (xs : List UInt8) (a : Nat) (v : UInt8) (ha : a < xs.length), (xs.zipWith f (xs.set a v)).sum = f xs[a] v := by
  have h0 : ∀ xs : List UInt8, (xs.zipWith f xs).sum = 0 := by
    intro xs; induction xs with
    | nil => rfl
    | cons x xs ih => simp only [List.zipWith_cons_cons, List.sum_cons, hf, ih]
  intro xs
  induction xs with
  | nil => intro a v ha; simp at ha
  | cons x xs ih =>
    intro a v ha
    cases a with
    | zero =>
      show f x v + (xs.zipWith f xs).sum = f x v
      rw [h0]; rfl
    | succ a =>
      simp only [List.set_cons_succ, List.zipWith_cons_cons, List.sum_cons, hf, List.getElem_cons_succ, Nat.zero_add]
      exact ih a v (by simpa using ha)

theorem apart_flip (xs : List UInt8) (j : Nat) (h : j / 8 < xs.length) : apartL xs (flipB xs j) = 1 := by
  have hl : xs.length = (flipB xs j).length := by simp [flipB]
  unfold apartL
  rw [if_pos hl]
  unfold flipB
  rw [zip_set (fun x y => popN 8 (xorN x y)) xorN_self xs _ _ h]
  have hg : xs.getD (j / 8) 0 = xs[j / 8] := by simp [h]
  rw [hg, xorN_flip _ _ (Nat.mod_lt _ (by decide))]
  rfl

end Go.Cx
