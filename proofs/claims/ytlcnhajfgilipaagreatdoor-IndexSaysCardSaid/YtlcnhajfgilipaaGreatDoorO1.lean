/-
  Frames one behind the other: what a scan tells.
-/
import Derived.Test.YtlcnhajfgilipaaGreatDoorC1
namespace Go.Cx
open Go Go.Cf
set_option linter.unusedVariables false
variable {B : Base} {As : List HP}

theorem cut_to_end (s : Sl) (xs : List UInt8) {h : Frag} (hr : RAr U8 s xs h) (at' : Nat) (ha : at' ≤ xs.length) (hcap : s.n ≤ s.c) : RAr U8 (s.cut at' s.n s.c 1) (xs.drop at') h := by
  have := hr.cut at' s.n s.c (by have := hr.1; omega) hcap (by rw [hr.1]; exact Nat.le_refl _)
  rw [List.take_of_length_le (by rw [hr.1]; exact Nat.le_refl _)] at this
  exact this

/-- Rows of one's own. -/
def OwnRows (s : Sl) (bss : List (List UInt8)) : HP := fun h => ∃ rs : List Sl, star [Ar SL s rs, Each (Ar U8) rs bss] h

theorem Scan_spec (b : Sl) (xs : List UInt8) (hm : xs.length ≤ 16777216) (hcap : b.n ≤ b.c) : Ct Pr F_chunk_Scan [b.v] (.tup [none, none]) [.slice, .int .i64] [] (RAr U8 b xs)
    (fun t Bs => t.2.1 = ((scanN xs).2 : Int) ∧ ∃ rs, Bs = [Ar SL t.1 rs, Each (Ar U8) rs (scanN xs).1]) := by
  refine spec2 c_chunk_Scan fun B hr => ?_
  have fb : Fro B b U8 xs := ⟨hr⟩
  have hb := hr.1
  have hlen := (scan_used xs.length xs (Nat.le_refl _)).2.1
  unfold chunk_Scan
  refine xnone SL ?_
  refine xadd (A := Each (Ar U8) [] []) trivial ?_
  refine xloop2 (fun n l i As => ∃ (k : Nat) (rs : List Sl) (done : List (List UInt8)), i = (k : Int) ∧ n = xs.length - k ∧ k ≤ xs.length ∧ scanN xs = (done ++ (scanN (xs.drop k)).1, k + (scanN (xs.drop k)).2) ∧ As = [Each (Ar U8) rs done, Ar SL l rs]) xs.length ⟨0, [], [], rfl, rfl, by omega, by simp, rfl⟩ ?_
  rintro n l _ _ K ⟨k, rs, done, rfl, rfl, hk, hsc, rfl⟩ hK
  refine xslc (by omega) (by omega) (by omega) (by omega) ?_
  simp only [Int.toNat_natCast]
  have hdl : (xs.drop k).length = xs.length - k := List.length_drop
  refine xcl (pre := []) (G := [Each (Ar U8) rs done, Ar SL l rs]) (chunkGet_spec (b.cut k b.n b.c 1) (xs.drop k) (by omega) (by simp only [Sl.cut]; omega)) (rds_of fun g hg _ _ _ => (cut_to_end b xs hr k hk hcap).mono hg) ?_
  rintro ⟨s1, r, r1, _⟩ _ ⟨h1, h2, rfl⟩
  simp only at h1 h2
  subst h1 h2
  refine app1 (ca3 ?_)
  refine xif (fun h => ?_) (fun h => ?_)
  · have h : ¬ (getN (xs.drop k)).2.2 = 0 := by simpa using h
    rw [scan_no h] at hsc
    refine xuse [Ar SL l rs, Each (Ar U8) rs done] (xret ⟨?_, rs, ?_⟩)
    · rw [hsc]; simp
    · rw [hsc]; simp
  · have h : (getN (xs.drop k)).2.2 = 0 := by simpa using h
    obtain ⟨g1, g2, _⟩ := getN_ok h
    rw [scan_ok h] at hsc
    refine xfact 1 (fun g hg => Each.length hg) fun hrl => ?_
    have hdn : done.length + 1 ≤ xs.length := by
      have := congrArg (fun p => p.1.length) hsc
      simp only [List.length_append, List.length_cons] at this
      omega
    refine xnew fun b1 => ?_
    refine xapp1 s1 (hb := by omega) (h := fun s2 => ?_)
    rw [show IntKind.i64.wrap ((k : Int) + ((getN (xs.drop k)).2.1 : Int)) = ((k + (getN (xs.drop k)).2.1 : Nat) : Int) by rw [wrap_id _ (by omega) (by omega)]; omega]
    refine xfold [Each (Ar U8) rs done, Ar U8 s1 (getN (xs.drop k)).1] (Each (Ar U8) (rs ++ [s1]) (done ++ [(getN (xs.drop k)).1])) (fun g hg => each_snoc hg) ?_
    refine hK (xs.length - (k + (getN (xs.drop k)).2.1)) _ _ _ (by omega) ⟨k + (getN (xs.drop k)).2.1, rs ++ [s1], done ++ [(getN (xs.drop k)).1], rfl, rfl, by omega, ?_, rfl⟩
    rw [List.drop_drop] at hsc
    rw [hsc]
    simp [Nat.add_assoc]

end Go.Cx

namespace Go.Cx
open Go Go.Cf
set_option linter.unusedVariables false

end Go.Cx
