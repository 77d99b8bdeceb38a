/-
  CursorKnown.
-/
import Derived.Test.YtbdmjjeigbhidaaCV
import Derived.Test.YtbdmjjeigbhidaaDX
namespace Go.Cx
open Go Go.Cf
set_option linter.unusedVariables false
variable {B : Base} {As : List HP}

/-- Calls of one's own. -/
def KO (o : CK) (m : KOp) : HP := fun h => o.1 = m.kind ∧ o.2.1 = m.n ∧ o.2.2.1 = m.cu.a ∧ o.2.2.2.1 = m.cu.b ∧ o.2.2.2.2.1 = m.cu.c ∧ o.2.2.2.2.2.1 = m.name ∧ i64 m.n ∧ Ar U8 o.2.2.2.2.2.2 m.data h
def OKs (s : Sl) (ops : List KOp) : HP := fun h => ∃ os : List CK, star [Ar OK s os, Each KO os ops] h

theorem OKs.read {s : Sl} {ops : List KOp} {h : Frag} (ho : OKs s ops h) : RKs s ops h := by
  obtain ⟨os, a, b, ⟨zs, pa⟩, ⟨c, d, pc, _, _, sc, _⟩, _, sa, sb⟩ := ho
  refine ⟨os, pa.read.mono sa, pc.length, fun i o m h1 h2 => ?_⟩
  exact (each_read (S := fun o m h => KOk o m h) (fun _ _ _ _ h s => h.mono s) (fun _ _ _ h => ⟨h.1, h.2.1, h.2.2.1, h.2.2.2.1, h.2.2.2.2.1, h.2.2.2.2.2.1, h.2.2.2.2.2.2.1, h.2.2.2.2.2.2.2.read⟩) pc h1 h2).mono (sc.trans sb)

instance Rdb.oks (s : Sl) (ops : List KOp) (F G : List HP) [f : Find (OKs s ops) F G] : Rdb B F (RKs s ops) := ⟨fun g _ hF hs hm => by
  obtain ⟨a, b, pa, pb, _, sa, sb⟩ := star_perm f.perm hs
  exact pa.read.mono (sa.trans hm)⟩

theorem ko_nil {k n : Int} {c : Cu} {nm : ByteArray} (hn : i64 n) (g : Frag) : KO (k, n, c.a, c.b, c.c, nm, N_) ⟨k, n, c, nm, []⟩ g := ⟨rfl, rfl, rfl, rfl, rfl, rfl, hn, ar_none U8 g⟩
theorem ko_data {k n : Int} {c : Cu} {nm : ByteArray} {s : Sl} {d : List UInt8} (hn : i64 n) (g : Frag) (h : Ar U8 s d g) : KO (k, n, c.a, c.b, c.c, nm, s) ⟨k, n, c, nm, d⟩ g := ⟨rfl, rfl, rfl, rfl, rfl, rfl, hn, h⟩

def endsC : List Int := [-9223372036854775808, -1, 0, 1, 5, 1099511627775, 1099511627776, 1099511627777, 9223372036854775807]
theorem endsC_i64 : ∀ x ∈ endsC, i64 x := fun x hx => i64_of (by revert x; decide)

def ko13 (a b : Cu) (i k : Int) : List KOp := [⟨0, 0, b, E_, []⟩, ⟨0, 0, a, E_, []⟩, ⟨3, 0, cu0, newN, [1]⟩, ⟨0, 0, a, E_, []⟩, ⟨2, i, cu0, E_, []⟩, ⟨0, 0, b, E_, []⟩, ⟨0, 0, a, E_, []⟩, ⟨1, k, cu0, E_, []⟩, ⟨3, 0, cu0, curN, [0]⟩, ⟨0, 0, b, E_, []⟩, ⟨4, 0, cu0, curN, []⟩, ⟨3, 0, cu0, curN, []⟩, ⟨9, 0, cu0, E_, []⟩]
def ck13 (a b : Cu) (i k : Int) (s1 s2 : Sl) : List CK := [(0, 0, b.a, b.b, b.c, E_, N_), (0, 0, a.a, a.b, a.c, E_, N_), (3, 0, 0, 0, 0, newN, s1), (0, 0, a.a, a.b, a.c, E_, N_), (2, i, 0, 0, 0, E_, N_), (0, 0, b.a, b.b, b.c, E_, N_), (0, 0, a.a, a.b, a.c, E_, N_), (1, k, 0, 0, 0, E_, N_), (3, 0, 0, 0, 0, curN, s2), (0, 0, b.a, b.b, b.c, E_, N_), (4, 0, 0, 0, 0, curN, N_), (3, 0, 0, 0, 0, curN, N_), (9, 0, 0, 0, 0, E_, N_)]
theorem each13 {a b : Cu} {i k : Int} (hi : i64 i) (hk : i64 k) {s1 s2 : Sl} {g : Frag} (h : star [Ar U8 s1 [1], Ar U8 s2 [0]] g) : Each KO (ck13 a b i k s1 s2) (ko13 a b i k) g := by
  have z : i64 0 := i64_of rfl
  refine each_skip (fun g => ko_nil z g) ?_ h
  refine fun g => each_skip (fun g => ko_nil z g) ?_
  refine fun g => each_take (fun g h => ko_data (c := cu0) z g h) ?_
  refine fun g => each_skip (fun g => ko_nil z g) ?_
  refine fun g => each_skip (fun g => ko_nil (c := cu0) hi g) ?_
  refine fun g => each_skip (fun g => ko_nil z g) ?_
  refine fun g => each_skip (fun g => ko_nil z g) ?_
  refine fun g => each_skip (fun g => ko_nil (c := cu0) hk g) ?_
  refine fun g => each_take (fun g h => ko_data (c := cu0) z g h) ?_
  refine fun g => each_skip (fun g => ko_nil z g) ?_
  iterate 3 (refine fun g => each_skip (fun g => ko_nil (c := cu0) z g) ?_)
  exact fun _ _ => trivial

theorem oks_mk {l : Sl} {os : List CK} {ops : List KOp} {Ps : List HP} (he : ∀ g, star Ps g → Each KO os ops g) {g : Frag} (h : star (Ar OK l os :: Ps) g) : OKs l ops g :=
  ⟨os, star_cons (l' := [Each KO os ops]) (fun g hg => star_in (he g hg)) h⟩

set_option maxHeartbeats 1000000 in
theorem CursorKnown_spec : Ct Pr F_law24_CursorKnown [] .one [.bool] [] emp (fun t Bs => t.1 = true ∧ Bs = []) := by
  refine spec1 c_law24_CursorKnown fun B _ => ?_
  unfold law24_CursorKnown
  refine xnew fun b => ?_
  refine xfold1 (Q := Ar I64 ⟨some ⟨b, 0, none⟩, 9, 9⟩ endsC) 0 (fun g hg => ⟨[], blk_ar endsC 9 rfl rfl hg⟩) ?_
  have h9 : endsC.length = 9 := rfl
  have idx : ∀ {k : Nat} {K : Addr → WP} {As : List HP} [RdA B As ⟨some ⟨b, 0, none⟩, 9, 9⟩ I64 endsC], k < 9 → Ent B As (K ((⟨some ⟨b, 0, none⟩, 9, 9⟩ : Sl).at 1 k)) → Ent B As (XIdx (some ⟨b, 0, none⟩) 9 (k : Int) 1 K) := fun hk h =>
    xidxn (s := ⟨some ⟨b, 0, none⟩, 9, 9⟩) (h1 := by rw [h9]; exact hk) (h := fun _ _ => h)
  refine xloop1 (fun n i As => ∃ (k : Nat), i = (k : Int) ∧ n = 9 - k ∧ k ≤ 9 ∧ As = [Ar I64 ⟨some ⟨b, 0, none⟩, 9, 9⟩ endsC]) 9 ⟨0, rfl, rfl, by omega, rfl⟩ ?_
  rintro n _ _ K ⟨i, rfl, rfl, hi, rfl⟩ hK
  refine xif_dec (fun h => ?_) (fun h => ?_)
  · have hi9 : i < 9 := by omega
    have hx := List.getElem?_eq_getElem (l := endsC) (i := i) (by rw [h9]; exact hi9)
    have hx64 := endsC_i64 _ (List.getElem_mem (l := endsC) (n := i) (by rw [h9]; exact hi9))
    generalize endsC[i] = x at hx hx64
    refine xloop1 (fun n i As => ∃ (k : Nat), i = (k : Int) ∧ n = 9 - k ∧ k ≤ 9 ∧ As = [Ar I64 ⟨some ⟨b, 0, none⟩, 9, 9⟩ endsC]) 9 ⟨0, rfl, rfl, by omega, rfl⟩ ?_
    rintro n _ _ K1 ⟨k, rfl, rfl, hk, rfl⟩ hK1
    refine xif_dec (fun h => ?_) (fun h => ?_)
    · have hk9 : k < 9 := by omega
      have hy := List.getElem?_eq_getElem (l := endsC) (i := k) (by rw [h9]; exact hk9)
      have hy64 := endsC_i64 _ (List.getElem_mem (l := endsC) (n := k) (by rw [h9]; exact hk9))
      generalize endsC[k] = y at hy hy64
      refine xdraw (idx hi9 (xgetE hx (h := ?_)))
      refine idx hk9 (xgetE hy (h := xnew fun b1 => xset (h := xset (h := xset (h := ?_)))))
      refine idx hk9 (xgetE hy (h := xnew fun b2 => xset (h := xset (h := xset (h := ?_)))))
      iterate 6 (refine xget (h := ?_))
      refine xnew fun b3 => ?_
      iterate 9 (refine xget (h := ?_))
      refine xnew fun b4 => ?_
      iterate 3 (refine xget (h := ?_))
      refine xnew fun b5 => ?_
      refine xfold1 (Q := Ar OK ⟨some ⟨b5, 0, none⟩, 13, 13⟩ (ck13 ⟨x, 1, y⟩ ⟨3, y, 1⟩ i k ⟨some ⟨b3, 0, none⟩, 1, 1⟩ ⟨some ⟨b4, 0, none⟩, 1, 1⟩)) 0 (fun g hg => ⟨[], blk_ar (ck13 ⟨x, 1, y⟩ ⟨3, y, 1⟩ i k ⟨some ⟨b3, 0, none⟩, 1, 1⟩ ⟨some ⟨b4, 0, none⟩, 1, 1⟩) 13 rfl rfl hg⟩) ?_
      refine xfold1 (Q := Ar U8 ⟨some ⟨b4, 0, none⟩, 1, 1⟩ [0]) 1 (fun g hg => ⟨[], blk_ar [0] 1 rfl rfl hg⟩) ?_
      refine xfold1 (Q := Ar U8 ⟨some ⟨b3, 0, none⟩, 1, 1⟩ [1]) 2 (fun g hg => ⟨[], blk_ar [1] 1 rfl rfl hg⟩) ?_
      refine xfold [Ar OK ⟨some ⟨b5, 0, none⟩, 13, 13⟩ (ck13 ⟨x, 1, y⟩ ⟨3, y, 1⟩ i k ⟨some ⟨b3, 0, none⟩, 1, 1⟩ ⟨some ⟨b4, 0, none⟩, 1, 1⟩), Ar U8 ⟨some ⟨b3, 0, none⟩, 1, 1⟩ [1], Ar U8 ⟨some ⟨b4, 0, none⟩, 1, 1⟩ [0]] (OKs ⟨some ⟨b5, 0, none⟩, 13, 13⟩ (ko13 ⟨x, 1, y⟩ ⟨3, y, 1⟩ i k)) (fun g hg => oks_mk (fun g hg => each13 ⟨by omega, by omega⟩ ⟨by omega, by omega⟩ hg) hg) ?_
      refine xdraw (xjoin1 (fun z As' => z = false ∧ As' = [Ar I64 ⟨some ⟨b, 0, none⟩, 9, 9⟩ endsC]) ?_ ?_)
      · intro J hJ
        refine xcl (CursorRuns_spec 200 ⟨some ⟨b5, 0, none⟩, 13, 13⟩ (ko13 ⟨x, 1, y⟩ ⟨3, y, 1⟩ i k)) rdb ?_
        rintro ⟨c, _⟩ _ ⟨hc, rfl⟩
        obtain rfl : c = true := hc
        refine app0 (ca1 (xiff rfl ?_))
        refine xcl (CursorRuns_spec _ ⟨some ⟨b5, 0, none⟩, 13, 13⟩ (ko13 ⟨x, 1, y⟩ ⟨3, y, 1⟩ i k)) rdb ?_
        rintro ⟨c, _⟩ _ ⟨hc, rfl⟩
        obtain rfl : c = true := hc
        refine app0 (ca1 (xiff rfl ?_))
        iterate 9 (refine xget (h := ?_))
        refine xnew fun b7 => ?_
        refine xfold1 (Q := Ar CUE ⟨some ⟨b7, 0, none⟩, 3, 3⟩ [(3, y, 1), (x, 1, y), (3, y, 1)]) 0 (fun g hg => ⟨[], blk_ar (E := CUE) [(3, y, 1), (x, 1, y), (3, y, 1)] 3 rfl rfl hg⟩) ?_
        refine xcl (CursorLasts_spec ⟨some ⟨b7, 0, none⟩, 3, 3⟩ [(3, y, 1), (x, 1, y), (3, y, 1)] k i ⟨by omega, by omega⟩) rdb ?_
        rintro ⟨c, _⟩ _ ⟨hc, rfl⟩
        obtain rfl : c = true := hc
        refine app0 (ca1 (xiff rfl ?_))
        iterate 3 (refine xget (h := ?_))
        refine idx hk9 (xgetE hy (h := ?_))
        refine idx hi9 (xgetE hx (h := ?_))
        refine xcl (CursorSpoilt_spec ⟨x, 1, y⟩ y x 1 hy64 hx64) rdb ?_
        rintro ⟨c, _⟩ _ ⟨hc, rfl⟩
        obtain rfl : c = true := hc
        exact app0 (ca1 (xuse [Ar I64 ⟨some ⟨b, 0, none⟩, 9, 9⟩ endsC] (hJ _ _ ⟨rfl, rfl⟩)))
      · rintro _ _ ⟨rfl, rfl⟩
        refine xiff rfl ?_
        rw [wrap_succ k (by omega)]
        exact hK1 (9 - (k + 1)) _ _ (by omega) ⟨k + 1, rfl, rfl, by omega, rfl⟩
    · rw [wrap_succ i (by omega)]
      exact hK (9 - (i + 1)) _ _ (by omega) ⟨i + 1, rfl, rfl, by omega, rfl⟩
  · exact wk24

end Go.Cx
