/-
  LineKnown.
-/
import Derived.Test.YtdbdnlahimbcaaaLU
namespace Go.Cx
open Go Go.Cf
set_option linter.unusedVariables false
variable {B : Base} {As : List HP}

/-- Calls of one's own. -/
def OpO (o : COp) (m : MOp) : HP := fun h => o.1 = m.kind ∧ o.2.1 = m.i ∧ o.2.2.1 = m.bit ∧ i64 m.kind ∧ i64 m.i ∧ i64 m.bit ∧ Ar U8 o.2.2.2 m.data h
def OOps (s : Sl) (ops : List MOp) : HP := fun h => ∃ os : List COp, star [Ar OP s os, Each OpO os ops] h

theorem OOps.read {s : Sl} {ops : List MOp} {h : Frag} (ho : OOps s ops h) : ROps s ops h := by
  obtain ⟨os, a, b, ⟨zs, pa⟩, ⟨c, d, pc, _, _, sc, _⟩, _, sa, sb⟩ := ho
  refine ⟨pa.cap, os, pa.read.mono sa, pc.length, fun i o m h1 h2 => ?_⟩
  exact (each_read (S := fun o m h => OpOk o m h) (fun _ _ _ _ h s => h.mono s) (fun _ _ _ h => ⟨h.1, h.2.1, h.2.2.1, h.2.2.2.1, h.2.2.2.2.1, h.2.2.2.2.2.1, h.2.2.2.2.2.2.read⟩) pc h1 h2).mono (sc.trans sb)

instance Rdb.oops (s : Sl) (ops : List MOp) (F G : List HP) [f : Find (OOps s ops) F G] : Rdb B F (ROps s ops) := ⟨fun g _ hF hs hm => by
  obtain ⟨a, b, pa, pb, _, sa, sb⟩ := star_perm f.perm hs
  exact pa.read.mono (sa.trans hm)⟩

theorem ar_none {α : Type} (E : Enc α) (g : Frag) : Ar E ⟨none, 0, 0⟩ [] g := ⟨[], rfl, rfl, .inl ⟨rfl, rfl⟩⟩

theorem opo_nil {k i b : Int} (hk : i64 k) (hi : i64 i) (hb : i64 b) (g : Frag) : OpO (k, i, b, ⟨none, 0, 0⟩) ⟨k, i, b, []⟩ g := ⟨rfl, rfl, rfl, hk, hi, hb, ar_none U8 g⟩
theorem opo_data {k i b : Int} {s : Sl} {d : List UInt8} (hk : i64 k) (hi : i64 i) (hb : i64 b) (g : Frag) (h : Ar U8 s d g) : OpO (k, i, b, s) ⟨k, i, b, d⟩ g := ⟨rfl, rfl, rfl, hk, hi, hb, h⟩

def i64d (x : Int) : Bool := decide (-9223372036854775808 ≤ x) && decide (x ≤ 9223372036854775807)
theorem i64_of {x : Int} (h : i64d x = true) : i64 x := by simpa [i64d, i64] using h

theorem xoops (i : Nat) {s : Sl} {ops : List MOp} {F : List HP} [p : Pick i As (OOps s ops) F] {φ : WP} (k : ∀ os : List COp, os.length = ops.length → Ent B (Ar OP s os :: Each OpO os ops :: F) φ) : Ent B As φ := by
  refine Ent.perm p.perm ?_
  intro w hw
  obtain ⟨g, ⟨a, c, ⟨rs, pa⟩, pc, d, sa, sc⟩, hm, hu⟩ := hw
  have hl : rs.length = ops.length := by
    obtain ⟨_, _, _, ⟨_, _, pe, _⟩, _⟩ := pa
    exact pe.length
  exact k rs hl w ⟨g, (star_append [_, _] F).2 ⟨a, c, pa, pc, d, sa, sc⟩, hm, hu⟩

def knownOps (n : Int) : List MOp := [⟨0, 0, 0, [1, 2]⟩, ⟨0, 0, 0, []⟩, ⟨0, 0, 0, [3]⟩, ⟨4, 0, n, []⟩, ⟨3, 0, 0, []⟩, ⟨4, 3, 1, []⟩, ⟨4, 0, 3, []⟩, ⟨4, 0, n, []⟩, ⟨4, 1, n, []⟩, ⟨4, n, 1, []⟩, ⟨3, n, 0, []⟩, ⟨1, n, 0, []⟩, ⟨2, n, 0, []⟩, ⟨9, n, 0, []⟩, ⟨1, 0, 0, []⟩, ⟨0, 0, 0, [4]⟩, ⟨4, n, 0, []⟩]
def knownCs (n : Int) (s1 s2 s3 : Sl) : List COp := [(0, 0, 0, s1), (0, 0, 0, ⟨none, 0, 0⟩), (0, 0, 0, s2), (4, 0, n, ⟨none, 0, 0⟩), (3, 0, 0, ⟨none, 0, 0⟩), (4, 3, 1, ⟨none, 0, 0⟩), (4, 0, 3, ⟨none, 0, 0⟩), (4, 0, n, ⟨none, 0, 0⟩), (4, 1, n, ⟨none, 0, 0⟩), (4, n, 1, ⟨none, 0, 0⟩), (3, n, 0, ⟨none, 0, 0⟩), (1, n, 0, ⟨none, 0, 0⟩), (2, n, 0, ⟨none, 0, 0⟩), (9, n, 0, ⟨none, 0, 0⟩), (1, 0, 0, ⟨none, 0, 0⟩), (0, 0, 0, s3), (4, n, 0, ⟨none, 0, 0⟩)]

theorem known_each {n : Int} (hn : i64 n) {s1 s2 s3 : Sl} {g : Frag} (h : star [Ar U8 s1 [1, 2], Ar U8 s2 [3], Ar U8 s3 [4]] g) : Each OpO (knownCs n s1 s2 s3) (knownOps n) g := by
  have z : ∀ x : Int, i64d x = true → i64 x := fun x h => i64_of h
  refine each_take (fun g h => opo_data (z _ rfl) (z _ rfl) (z _ rfl) g h) ?_ h
  refine fun g => each_skip (fun g => opo_nil (z _ rfl) (z _ rfl) (z _ rfl) g) ?_
  refine fun g => each_take (fun g h => opo_data (z _ rfl) (z _ rfl) (z _ rfl) g h) ?_
  refine fun g => each_skip (fun g => opo_nil (z _ rfl) (z _ rfl) hn g) ?_
  refine fun g => each_skip (fun g => opo_nil (z _ rfl) (z _ rfl) (z _ rfl) g) ?_
  refine fun g => each_skip (fun g => opo_nil (z _ rfl) (z _ rfl) (z _ rfl) g) ?_
  refine fun g => each_skip (fun g => opo_nil (z _ rfl) (z _ rfl) (z _ rfl) g) ?_
  refine fun g => each_skip (fun g => opo_nil (z _ rfl) (z _ rfl) hn g) ?_
  refine fun g => each_skip (fun g => opo_nil (z _ rfl) (z _ rfl) hn g) ?_
  refine fun g => each_skip (fun g => opo_nil (z _ rfl) hn (z _ rfl) g) ?_
  refine fun g => each_skip (fun g => opo_nil (z _ rfl) hn (z _ rfl) g) ?_
  refine fun g => each_skip (fun g => opo_nil (z _ rfl) hn (z _ rfl) g) ?_
  refine fun g => each_skip (fun g => opo_nil (z _ rfl) hn (z _ rfl) g) ?_
  refine fun g => each_skip (fun g => opo_nil (z _ rfl) hn (z _ rfl) g) ?_
  refine fun g => each_skip (fun g => opo_nil (z _ rfl) (z _ rfl) (z _ rfl) g) ?_
  refine fun g => each_take (fun g h => opo_data (z _ rfl) (z _ rfl) (z _ rfl) g h) ?_
  refine fun g => each_skip (fun g => opo_nil (z _ rfl) hn (z _ rfl) g) ?_
  exact fun _ _ => trivial

def ends : List Int := [-9223372036854775808, -1, 0, 1, 2, 7, 8, 15, 16, 63, 64, 9223372036854775807]
theorem ends_i64 : ∀ x ∈ ends, i64 x := fun x hx => i64_of (by revert x; decide)

def tailOps : List MOp := [⟨3, 3, 0, []⟩, ⟨2, 3, 0, []⟩, ⟨3, 3, 0, []⟩, ⟨3, 64, 0, []⟩, ⟨1, 63, 0, []⟩]
def tailCs : List COp := [(3, 3, 0, ⟨none, 0, 0⟩), (2, 3, 0, ⟨none, 0, 0⟩), (3, 3, 0, ⟨none, 0, 0⟩), (3, 64, 0, ⟨none, 0, 0⟩), (1, 63, 0, ⟨none, 0, 0⟩)]
theorem tail_each (g : Frag) : Each OpO tailCs tailOps g := by
  have z : ∀ x : Int, i64d x = true → i64 x := fun x h => i64_of h
  refine each_skip (Ps := []) (fun g => opo_nil (z _ rfl) (z _ rfl) (z _ rfl) g) ?_ trivial
  iterate 4 (refine fun g => each_skip (fun g => opo_nil (z _ rfl) (z _ rfl) (z _ rfl) g) ?_)
  exact fun _ _ => trivial

theorem LineKnown_spec : Ct Pr F_law20_LineKnown [] .one [.bool] [] emp (fun t Bs => t.1 = true ∧ Bs = []) := by
  refine spec1 c_law20_LineKnown fun B _ => ?_
  unfold law20_LineKnown
  refine xnew fun b => ?_
  refine xfold1 (Q := Ar I64 ⟨some ⟨b, 0, none⟩, 12, 12⟩ ends) 0 (fun g hg => ⟨[], blk_ar ends 12 rfl rfl hg⟩) ?_
  refine xloop1 (fun n i As => ∃ k : Nat, i = (k : Int) ∧ n = 12 - k ∧ k ≤ 12 ∧ As = [Ar I64 ⟨some ⟨b, 0, none⟩, 12, 12⟩ ends]) 12 ⟨0, rfl, rfl, by omega, rfl⟩ ?_
  rintro n _ _ K ⟨k, rfl, rfl, hk, rfl⟩ hK
  refine xif_dec (fun h => ?_) (fun h => ?_)
  · have hkl : k < ends.length := by have : ends.length = 12 := rfl
                                     omega
    have hx := List.getElem?_eq_getElem hkl
    have hn := ends_i64 _ (List.getElem_mem hkl)
    generalize ends[k] = n at hx hn
    have idx : ∀ {K : Addr → WP} {As : List HP} [RdA B As ⟨some ⟨b, 0, none⟩, 12, 12⟩ I64 ends], Ent B As (K ((⟨some ⟨b, 0, none⟩, 12, 12⟩ : Sl).at 1 k)) → Ent B As (XIdx (some ⟨b, 0, none⟩) 12 (k : Int) 1 K) := fun h =>
      xidxn (s := ⟨some ⟨b, 0, none⟩, 12, 12⟩) (h1 := hkl) (h := fun _ _ => h)
    refine xdraw (xjoin1 (fun l As' => As' = [OOps l (knownOps n), Ar I64 ⟨some ⟨b, 0, none⟩, 12, 12⟩ ends]) ?_ ?_)
    · intro J hJ
      iterate 9 (refine idx (xgetE hx (h := ?_)))
      have fin : ∀ b1 b2 b3 b4 : Nat, Ent B [Ar OP ⟨some ⟨b4, 0, none⟩, 17, 17⟩ (knownCs n ⟨some ⟨b1, 0, none⟩, 2, 2⟩ ⟨some ⟨b2, 0, none⟩, 1, 1⟩ ⟨some ⟨b3, 0, none⟩, 1, 1⟩), Blk b1 [.int .u8 1, .int .u8 2], Blk b2 [.int .u8 3], Blk b3 [.int .u8 4], Ar I64 ⟨some ⟨b, 0, none⟩, 12, 12⟩ ends] (J ⟨some ⟨b4, 0, none⟩, 17, 17⟩) := by
        intro b1 b2 b3 b4
        refine xfold1 (Q := Ar U8 ⟨some ⟨b1, 0, none⟩, 2, 2⟩ [1, 2]) 1 (fun g hg => ⟨[], blk_ar [1, 2] 2 rfl rfl hg⟩) ?_
        refine xfold1 (Q := Ar U8 ⟨some ⟨b2, 0, none⟩, 1, 1⟩ [3]) 2 (fun g hg => ⟨[], blk_ar [3] 1 rfl rfl hg⟩) ?_
        refine xfold1 (Q := Ar U8 ⟨some ⟨b3, 0, none⟩, 1, 1⟩ [4]) 3 (fun g hg => ⟨[], blk_ar [4] 1 rfl rfl hg⟩) ?_
        refine xfold [Ar OP ⟨some ⟨b4, 0, none⟩, 17, 17⟩ (knownCs n ⟨some ⟨b1, 0, none⟩, 2, 2⟩ ⟨some ⟨b2, 0, none⟩, 1, 1⟩ ⟨some ⟨b3, 0, none⟩, 1, 1⟩), Ar U8 ⟨some ⟨b1, 0, none⟩, 2, 2⟩ [1, 2], Ar U8 ⟨some ⟨b2, 0, none⟩, 1, 1⟩ [3], Ar U8 ⟨some ⟨b3, 0, none⟩, 1, 1⟩ [4]] (OOps ⟨some ⟨b4, 0, none⟩, 17, 17⟩ (knownOps n)) (fun g hg => ?_) (hJ _ _ rfl)
        exact ⟨_, star_cons (l' := [Each OpO (knownCs n ⟨some ⟨b1, 0, none⟩, 2, 2⟩ ⟨some ⟨b2, 0, none⟩, 1, 1⟩ ⟨some ⟨b3, 0, none⟩, 1, 1⟩) (knownOps n)]) (fun g hg => star_in (known_each hn hg)) hg⟩
      refine xand (xnew fun b1 => xand (xnew fun b2 => xnew fun b3 => xnew fun b4 => ?_) (xnew fun b3 => xnew fun b2 => xnew fun b4 => ?_)) (xand (xnew fun b2 => xand (xnew fun b1 => xnew fun b3 => xnew fun b4 => ?_) (xnew fun b3 => xnew fun b1 => xnew fun b4 => ?_)) (xnew fun b3 => xand (xnew fun b1 => xnew fun b2 => xnew fun b4 => ?_) (xnew fun b2 => xnew fun b1 => xnew fun b4 => ?_)))
      all_goals
        refine xfold1 (Q := Ar OP ⟨some ⟨b4, 0, none⟩, 17, 17⟩ (knownCs n ⟨some ⟨b1, 0, none⟩, 2, 2⟩ ⟨some ⟨b2, 0, none⟩, 1, 1⟩ ⟨some ⟨b3, 0, none⟩, 1, 1⟩)) 0 (fun g hg => ⟨[], blk_ar (knownCs n ⟨some ⟨b1, 0, none⟩, 2, 2⟩ ⟨some ⟨b2, 0, none⟩, 1, 1⟩ ⟨some ⟨b3, 0, none⟩, 1, 1⟩) 17 rfl rfl hg⟩) ?_
        exact xuse' (fin b1 b2 b3 b4)
    · rintro l _ rfl
      have h17 : (knownOps n).length = 17 := rfl
      refine xdraw (xfact 0 (fun g hg => (And.intro hg.read.1 (by obtain ⟨_, os, h1, h2, _⟩ := hg.read; exact h1.1.symm.trans h2) : l.n ≤ l.c ∧ l.n = (knownOps n).length)) fun hl => ?_)
      rw [h17] at hl
      have sl3 : ∀ {K : Sl → WP} {As : List HP}, (∀ s, (∀ g, OOps l (knownOps n) g → ROps s ((knownOps n).take 3) g) → Ent B As (K s)) → Ent B As (XSlc l 0 3 l.c 4 K) := fun h => by
        refine xslc (by omega) (by omega) (by omega) (by omega) (h _ fun g hg => ?_)
        have := hg.read.cut 0 3 l.c (by omega) (by omega) (by rw [h17]; omega)
        rwa [List.drop_zero] at this
      refine xjoin1 (fun x As' => x = false ∧ As' = [OOps l (knownOps n), Ar I64 ⟨some ⟨b, 0, none⟩, 12, 12⟩ ends]) ?_ ?_
      · intro J hJ
        have t3 : ∀ s, (∀ g, OOps l (knownOps n) g → ROps s ((knownOps n).take 3) g) → Rds B [OOps l (knownOps n), Ar I64 ⟨some ⟨b, 0, none⟩, 12, 12⟩ ends] (ROps s ((knownOps n).take 3)) := fun s h => rds_pick 0 h (fun _ _ h s => h.mono s)
        refine xcl (LineRuns_spec l (knownOps n)) rdb ?_
        rintro ⟨c, _⟩ _ ⟨hc, rfl⟩
        obtain rfl : c = true := hc
        refine app0 (ca1 (xiff rfl (sl3 fun s hs => ?_)))
        refine idx (xgetE hx (h := ?_))
        refine idx (xgetE hx (h := ?_))
        refine xcl (LineTurns_spec s _ n 1 n hn (i64_of rfl) hn) (t3 s hs) ?_
        rintro ⟨c, _⟩ _ ⟨hc, rfl⟩
        obtain rfl : c = true := hc
        refine app0 (ca1 (xiff rfl (sl3 fun s hs => ?_)))
        refine idx (xgetE hx (h := ?_))
        refine xcl (LineTurns_spec s _ 0 n 3 (i64_of rfl) hn (i64_of rfl)) (t3 s hs) ?_
        rintro ⟨c, _⟩ _ ⟨hc, rfl⟩
        obtain rfl : c = true := hc
        refine app0 (ca1 (xiff rfl ?_))
        refine xcl (LineTurns_spec l (knownOps n) 1 2 3 (i64_of rfl) (i64_of rfl) (i64_of rfl)) rdb ?_
        rintro ⟨c, _⟩ _ ⟨hc, rfl⟩
        obtain rfl : c = true := hc
        refine app0 (ca1 (xiff rfl ?_))
        refine xcl (LineKeeps_spec l (knownOps n)) rdb ?_
        rintro ⟨c, _⟩ _ ⟨hc, rfl⟩
        obtain rfl : c = true := hc
        exact app0 (ca1 (hJ _ _ ⟨rfl, rfl⟩))
      · rintro _ _ ⟨rfl, rfl⟩
        refine xiff rfl (xdrop 0 ?_)
        rw [wrap_succ k (by omega)]
        exact hK (12 - (k + 1)) _ _ (by omega) ⟨k + 1, rfl, rfl, by omega, rfl⟩
  · refine xkeep (l := []) (xnone OP ?_)
    refine xfold1 (Q := OOps ⟨none, 0, 0⟩ []) 0 (fun g hg => ⟨[], g, fun _ => none, hg, star_in trivial, fun _ => .inr rfl, Sub.refl _, fun _ _ e => (by cases e)⟩) ?_
    refine xloop2 (fun n l i As => ∃ (k : Nat) (ops : List MOp), i = (k : Int) ∧ n = 66 - k ∧ k ≤ 66 ∧ ops.length = k ∧ As = [OOps l ops]) 66 ⟨0, [], rfl, rfl, by omega, rfl, rfl⟩ ?_
    rintro n l _ _ K ⟨k, ops, rfl, rfl, hk, hl, rfl⟩ hK
    have z : ∀ x : Int, i64d x = true → i64 x := fun x h => i64_of h
    refine xif_dec (fun h => ?_) (fun h => ?_)
    · refine xnew fun b1 => xnew fun b2 => ?_
      have hu : IntKind.u8.wrap (k : Int) = ((UInt8.ofNat k).toNat : Int) := by
        have : ∀ k : Nat, k < 66 → IntKind.u8.wrap (k : Int) = ((UInt8.ofNat k).toNat : Int) := by decide
        exact this k (by omega)
      rw [hu]
      refine xfold1 (Q := Ar U8 ⟨some ⟨b1, 0, none⟩, 1, 1⟩ [UInt8.ofNat k]) 1 (fun g hg => ⟨[], blk_ar [UInt8.ofNat k] 1 rfl rfl hg⟩) ?_
      refine xoops 2 fun os ho => ?_
      refine xapp1 (((0, 0, 0, ⟨some ⟨b1, 0, none⟩, 1, 1⟩) : COp)) (hb := by omega) (h := fun l' => ?_)
      rw [wrap_succ k (by omega)]
      refine xfold [Ar OP l' (os ++ [(0, 0, 0, ⟨some ⟨b1, 0, none⟩, 1, 1⟩)]), Each OpO os ops, Ar U8 ⟨some ⟨b1, 0, none⟩, 1, 1⟩ [UInt8.ofNat k]] (OOps l' (ops ++ [⟨0, 0, 0, [UInt8.ofNat k]⟩])) (fun g hg => ⟨_, star_cons (l' := [Each OpO (os ++ [(0, 0, 0, ⟨some ⟨b1, 0, none⟩, 1, 1⟩)]) (ops ++ [⟨0, 0, 0, [UInt8.ofNat k]⟩])]) (fun g hg => star_in (each_snoc (star_swap (star_imp (fun q hq => opo_data (z _ rfl) (z _ rfl) (z _ rfl) q hq) (star_swap hg))))) hg⟩) ?_
      exact hK (66 - (k + 1)) _ _ _ (by omega) ⟨k + 1, _, rfl, rfl, by omega, by simp [hl], rfl⟩
    · refine xnew fun b1 => ?_
      refine xfold1 (Q := Ar OP ⟨some ⟨b1, 0, none⟩, 5, 5⟩ tailCs) 0 (fun g hg => ⟨[], blk_ar tailCs 5 rfl rfl hg⟩) ?_
      refine xoops 1 fun os ho => ?_
      have e5 : tailCs.length = 5 := rfl
      refine xapp (y := ⟨some ⟨b1, 0, none⟩, 5, 5⟩) (hb := by rw [e5]; omega) (h := fun l' => ?_)
      refine xadd (A := Each OpO tailCs tailOps) (tail_each _) ?_
      refine xfold [Ar OP l' (os ++ tailCs), Each OpO os ops, Each OpO tailCs tailOps] (OOps l' (ops ++ tailOps)) (fun g hg => ⟨_, star_cons (l' := [Each OpO (os ++ tailCs) (ops ++ tailOps)]) (fun g hg => star_in (each_app hg)) hg⟩) ?_
      refine xcl (LineRuns_spec l' (ops ++ tailOps)) rdb ?_
      rintro ⟨c, _⟩ _ ⟨hc, rfl⟩
      obtain rfl : c = true := hc
      refine app0 (ca1 (xjoin (xift rfl ?_)))
      refine xcl (LineKeeps_spec l' (ops ++ tailOps)) rdb ?_
      rintro ⟨c, _⟩ _ ⟨hc, rfl⟩
      obtain rfl : c = true := hc
      refine app0 (ca1 (xjoin (xift rfl ?_)))
      refine xcl works_spec rdb ?_
      rintro ⟨c, _⟩ _ ⟨hc, rfl⟩
      obtain rfl : c = true := hc
      exact app0 (ca1 (xkeep (l := []) (xret ⟨rfl, rfl⟩)))

end Go.Cx
