/-
  Frames one behind the other: what a scan tells.
-/
import Derived.Test.YthnfnfhcgpnkpaaCC
namespace Go.Cx
open Go Go.Cf
set_option linter.unusedVariables false
variable {B : Base} {As : List HP}

theorem getN_ok {b : List UInt8} (h : (getN b).2.2 = 0) : 6 ≤ (getN b).2.1 ∧ (getN b).2.1 ≤ b.length ∧ (getN b).1.length + 6 = (getN b).2.1 ∧ (getN b).1.length ≤ 1024 ∧ (getN b).1 = (b.take (getN b).2.1).drop 6 := by
  unfold getN at h ⊢
  split
  · rename_i h1; rw [if_pos h1] at h; exact absurd h (by decide)
  rename_i h1
  rw [if_neg h1] at h
  split
  · rename_i h2; rw [if_pos h2] at h; exact absurd h (by decide)
  rename_i h2
  rw [if_neg h2] at h
  split
  · rename_i h3; rw [if_pos h3] at h; exact absurd h (by decide)
  rename_i h3
  rw [if_neg h3] at h
  split
  · refine ⟨?_, ?_, ?_, ?_, rfl⟩ <;> simp <;> omega
  · rename_i h4; rw [if_neg h4] at h; exact absurd h (by decide)

theorem getN_used (b : List UInt8) : (getN b).2.1 ≤ b.length := by
  by_cases h : (getN b).2.2 = 0
  · exact (getN_ok h).2.1
  · unfold getN
    repeat' split
    all_goals simp
    omega

def scanG : Nat → List UInt8 → List (List UInt8) × Nat
  | 0, _ => ([], 0)
  | n + 1, b => if (getN b).2.2 = 0 then ((getN b).1 :: (scanG n (b.drop (getN b).2.1)).1, (getN b).2.1 + (scanG n (b.drop (getN b).2.1)).2) else ([], 0)
def scanN (b : List UInt8) : List (List UInt8) × Nat := scanG (b.length + 1) b

theorem scanG_fuel : ∀ (n m : Nat) (b : List UInt8), b.length < n → b.length < m → scanG n b = scanG m b := by
  intro n
  induction n with
  | zero => intro m b h; omega
  | succ n ih =>
    intro m b h1 h2
    cases m with
    | zero => omega
    | succ m =>
      unfold scanG
      by_cases h : (getN b).2.2 = 0
      · obtain ⟨a1, a2, _⟩ := getN_ok h
        have hd : (b.drop (getN b).2.1).length = b.length - (getN b).2.1 := List.length_drop
        rw [if_pos h, if_pos h, ih m _ (by omega) (by omega)]
      · rw [if_neg h, if_neg h]

theorem scan_ok {b : List UInt8} (h : (getN b).2.2 = 0) : scanN b = ((getN b).1 :: (scanN (b.drop (getN b).2.1)).1, (getN b).2.1 + (scanN (b.drop (getN b).2.1)).2) := by
  obtain ⟨a1, a2, _⟩ := getN_ok h
  have hd : (b.drop (getN b).2.1).length = b.length - (getN b).2.1 := List.length_drop
  unfold scanN
  conv => lhs; unfold scanG
  rw [if_pos h, scanG_fuel b.length ((b.drop (getN b).2.1).length + 1) _ (by omega) (by omega)]
theorem scan_no {b : List UInt8} (h : ¬ (getN b).2.2 = 0) : scanN b = ([], 0) := by
  unfold scanN scanG
  rw [if_neg h]

theorem scan_used : ∀ (n : Nat) (b : List UInt8), b.length ≤ n → (scanN b).2 ≤ b.length ∧ (scanN b).1.length ≤ b.length ∧ ∀ p ∈ (scanN b).1, p.length ≤ 1024 := by
  intro n
  induction n with
  | zero =>
    intro b h
    have hb : b = [] := List.eq_nil_of_length_eq_zero (by omega)
    subst hb
    rw [scan_no (by decide)]
    exact ⟨Nat.le_refl _, Nat.le_refl _, by simp⟩
  | succ n ih =>
    intro b h
    by_cases hg : (getN b).2.2 = 0
    · obtain ⟨a1, a2, a3, a4, _⟩ := getN_ok hg
      have hd : (b.drop (getN b).2.1).length = b.length - (getN b).2.1 := List.length_drop
      obtain ⟨h1, h2, h3⟩ := ih (b.drop (getN b).2.1) (by omega)
      rw [scan_ok hg]
      refine ⟨by dsimp only; omega, by simp only [List.length_cons]; omega, ?_⟩
      intro p hp
      simp only [List.mem_cons] at hp
      rcases hp with rfl | hp
      · exact a4
      · exact h3 p hp
    · rw [scan_no hg]
      exact ⟨Nat.zero_le _, Nat.zero_le _, by simp⟩

theorem scan_len (b : List UInt8) : (scanN b).2 ≤ b.length := (scan_used b.length b (Nat.le_refl _)).1

theorem cut_to_end (s : Sl) (xs : List UInt8) {h : Frag} (hr : RAr U8 s xs h) (at' : Nat) (ha : at' ≤ xs.length) (hcap : s.n ≤ s.c) : RAr U8 (s.cut at' s.n s.c 1) (xs.drop at') h := by
  have := hr.cut at' s.n s.c (by have := hr.1; omega) hcap (by rw [hr.1]; exact Nat.le_refl _)
  rw [List.take_of_length_le (by rw [hr.1]; exact Nat.le_refl _)] at this
  exact this

/-- Rows of one's own. -/
def OwnRows (s : Sl) (bss : List (List UInt8)) : HP := fun h => ∃ rs : List Sl, star [Ar SL s rs, Each (Ar U8) rs bss] h

theorem Scan_spec (b : Sl) (xs : List UInt8) (hm : xs.length ≤ 16777216) (hcap : b.n ≤ b.c) : Ct Pr F_chunk_Scan [b.v] (.tup [none, none]) [.slice, .int .i64] [] (RAr U8 b xs)
    (fun t Bs => t.2.1 = ((scanN xs).2 : Int) ∧ ∃ rs, Bs = [Ar SL t.1 rs, Each (Ar U8) rs (scanN xs).1]) := by
  refine spec2 c_chunk_Scan fun B hr => ?_
  have fb : Fro B b U8 xs := ⟨hr⟩
  have hb := hr.1
  have hlen := (scan_used xs.length xs (Nat.le_refl _)).2.1
  unfold chunk_Scan
  refine xnone SL ?_
  refine xadd (A := Each (Ar U8) [] []) trivial ?_
  refine xloop2 (fun n l i As => ∃ (k : Nat) (rs : List Sl) (done : List (List UInt8)), i = (k : Int) ∧ n = xs.length - k ∧ k ≤ xs.length ∧ scanN xs = (done ++ (scanN (xs.drop k)).1, k + (scanN (xs.drop k)).2) ∧ As = [Each (Ar U8) rs done, Ar SL l rs]) xs.length ⟨0, [], [], rfl, rfl, by omega, by simp, rfl⟩ ?_
  rintro n l _ _ K ⟨k, rs, done, rfl, rfl, hk, hsc, rfl⟩ hK
  refine xslc (by omega) (by omega) (by omega) (by omega) ?_
  simp only [Int.toNat_natCast]
  have hdl : (xs.drop k).length = xs.length - k := List.length_drop
  refine xcl (pre := []) (G := [Each (Ar U8) rs done, Ar SL l rs]) (chunkGet_spec (b.cut k b.n b.c 1) (xs.drop k) (by omega) (by simp only [Sl.cut]; omega)) (rds_of fun g hg _ _ _ => (cut_to_end b xs hr k hk hcap).mono hg) ?_
  rintro ⟨s1, r, r1, _⟩ _ ⟨h1, h2, rfl⟩
  simp only at h1 h2
  subst h1 h2
  refine app1 (ca3 ?_)
  refine xif (fun h => ?_) (fun h => ?_)
  · have h : ¬ (getN (xs.drop k)).2.2 = 0 := by simpa using h
    rw [scan_no h] at hsc
    refine xuse [Ar SL l rs, Each (Ar U8) rs done] (xret ⟨?_, rs, ?_⟩)
    · rw [hsc]; simp
    · rw [hsc]; simp
  · have h : (getN (xs.drop k)).2.2 = 0 := by simpa using h
    obtain ⟨g1, g2, _⟩ := getN_ok h
    rw [scan_ok h] at hsc
    refine xfact 1 (fun g hg => Each.length hg) fun hrl => ?_
    have hdn : done.length + 1 ≤ xs.length := by
      have := congrArg (fun p => p.1.length) hsc
      simp only [List.length_append, List.length_cons] at this
      omega
    refine xnew fun b1 => ?_
    refine xapp1 s1 (hb := by omega) (h := fun s2 => ?_)
    rw [show IntKind.i64.wrap ((k : Int) + ((getN (xs.drop k)).2.1 : Int)) = ((k + (getN (xs.drop k)).2.1 : Nat) : Int) by rw [wrap_id _ (by omega) (by omega)]; omega]
    refine xfold [Each (Ar U8) rs done, Ar U8 s1 (getN (xs.drop k)).1] (Each (Ar U8) (rs ++ [s1]) (done ++ [(getN (xs.drop k)).1])) (fun g hg => each_snoc hg) ?_
    refine hK (xs.length - (k + (getN (xs.drop k)).2.1)) _ _ _ (by omega) ⟨k + (getN (xs.drop k)).2.1, rs ++ [s1], done ++ [(getN (xs.drop k)).1], rfl, rfl, by omega, ?_, rfl⟩
    rw [List.drop_drop] at hsc
    rw [hsc]
    simp [Nat.add_assoc]

theorem rScan_spec (b : Sl) (xs : List UInt8) (hm : xs.length ≤ 16777216) (hcap : b.n ≤ b.c) : Ct Pr F_ref13_Scan [b.v] (.tup [none, none]) [.slice, .int .i64] [] (RAr U8 b xs)
    (fun t Bs => t.2.1 = ((scanN xs).2 : Int) ∧ ∃ rs, Bs = [Ar SL t.1 rs, Each (Ar U8) rs (scanN xs).1]) := by
  refine spec2 c_ref13_Scan fun B hr => ?_
  have fb : Fro B b U8 xs := ⟨hr⟩
  have hb := hr.1
  have hlen := (scan_used xs.length xs (Nat.le_refl _)).2.1
  unfold ref13_Scan
  refine xnone SL ?_
  refine xadd (A := Each (Ar U8) [] []) trivial ?_
  refine xloop2 (fun n l i As => ∃ (k : Nat) (rs : List Sl) (done : List (List UInt8)), i = (k : Int) ∧ n = xs.length - k ∧ k ≤ xs.length ∧ scanN xs = (done ++ (scanN (xs.drop k)).1, k + (scanN (xs.drop k)).2) ∧ As = [Each (Ar U8) rs done, Ar SL l rs]) xs.length ⟨0, [], [], rfl, rfl, by omega, by simp, rfl⟩ ?_
  rintro n l _ _ K ⟨k, rs, done, rfl, rfl, hk, hsc, rfl⟩ hK
  refine xslc (by omega) (by omega) (by omega) (by omega) ?_
  simp only [Int.toNat_natCast]
  have hdl : (xs.drop k).length = xs.length - k := List.length_drop
  refine xcl (pre := []) (G := [Each (Ar U8) rs done, Ar SL l rs]) (rGet13_spec (b.cut k b.n b.c 1) (xs.drop k) (by omega) (by simp only [Sl.cut]; omega)) (rds_of fun g hg _ _ _ => (cut_to_end b xs hr k hk hcap).mono hg) ?_
  rintro ⟨s1, r, r1, _⟩ _ ⟨h1, h2, rfl⟩
  simp only at h1 h2
  subst h1 h2
  refine app1 (ca3 ?_)
  refine xif (fun h => ?_) (fun h => ?_)
  · have h : ¬ (getN (xs.drop k)).2.2 = 0 := by simpa using h
    rw [scan_no h] at hsc
    refine xuse [Ar SL l rs, Each (Ar U8) rs done] (xret ⟨?_, rs, ?_⟩)
    · rw [hsc]; simp
    · rw [hsc]; simp
  · have h : (getN (xs.drop k)).2.2 = 0 := by simpa using h
    obtain ⟨g1, g2, _⟩ := getN_ok h
    rw [scan_ok h] at hsc
    refine xfact 1 (fun g hg => Each.length hg) fun hrl => ?_
    have hdn : done.length + 1 ≤ xs.length := by
      have := congrArg (fun p => p.1.length) hsc
      simp only [List.length_append, List.length_cons] at this
      omega
    refine xnew fun b1 => ?_
    refine xapp1 s1 (hb := by omega) (h := fun s2 => ?_)
    rw [show IntKind.i64.wrap ((k : Int) + ((getN (xs.drop k)).2.1 : Int)) = ((k + (getN (xs.drop k)).2.1 : Nat) : Int) by rw [wrap_id _ (by omega) (by omega)]; omega]
    refine xfold [Each (Ar U8) rs done, Ar U8 s1 (getN (xs.drop k)).1] (Each (Ar U8) (rs ++ [s1]) (done ++ [(getN (xs.drop k)).1])) (fun g hg => each_snoc hg) ?_
    refine hK (xs.length - (k + (getN (xs.drop k)).2.1)) _ _ _ (by omega) ⟨k + (getN (xs.drop k)).2.1, rs ++ [s1], done ++ [(getN (xs.drop k)).1], rfl, rfl, by omega, ?_, rfl⟩
    rw [List.drop_drop] at hsc
    rw [hsc]
    simp [Nat.add_assoc]

end Go.Cx
