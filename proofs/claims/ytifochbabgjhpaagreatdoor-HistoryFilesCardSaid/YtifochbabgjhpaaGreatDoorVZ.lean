/-
  A file of the document's; the law HistoryFiles.
  The arguments of the history's laws as they come in: a store, tables.
-/
import Derived.Test.YtifochbabgjhpaaGreatDoorVY
import Derived.Test.YtifochbabgjhpaaGreatDoorDK
import Derived.Test.YtifochbabgjhpaaGreatDoorS1
import Derived.Test.YtifochbabgjhpaaGreatDoorT1
import Derived.Test.YtifochbabgjhpaaGreatDoorA3
import Derived.OpenShut
import Derived.WalkKit
import Derived.ProofKit
import Derived.Lib.LaidTab
import Derived.LaidLaws
namespace Go.Cx
open Go Go.Cf
set_option linter.unusedVariables false
set_option maxRecDepth 100000
variable {B : Base} {As F : List HP} {α : Type}
theorem rowsW_full (lg : LM) : ∀ (ns : List Int) (rows : Nat) (out : List Int), 454 ≤ rows → rowsW lg rows out ns = out
  | [], _, _, _ => rfl
  | n :: ns, rows, out, h => by
    rw [rowsW]
    split
    · exact rowsW_full lg ns rows out h
    · rw [if_pos (by omega)]
theorem rowsW_len (lg : LM) : ∀ (ns : List Int) (rows : Nat) (out : List Int), out.length ≤ 22 * rows → rows ≤ 454 → (rowsW lg rows out ns).length ≤ 9988
  | [], rows, out, h, h2 => by rw [rowsW]; omega
  | n :: ns, rows, out, h, h2 => by
    rw [rowsW]
    split
    · exact rowsW_len lg ns rows out h h2
    · split
      · omega
      · have := wordsM_len n (recAtM lg n).1
        exact rowsW_len lg ns _ _ (by rw [List.length_append]; omega) (by omega)
theorem fileM_len (lg : LM) (X : XM) (span file : Int) : (fileM lg X span file).1.length ≤ 9988 := by
  unfold fileM
  split
  · simp
  · split
    · simp
    · exact rowsW_len lg _ 0 [] (by simp) (by omega)
theorem rFile26_spec (l x d : Option Addr) (lg : LM) (X : XM) (span file : Int) : Ct Pr F_ref26_File [.pointer l, .pointer x, .int .i64 span, .int .i64 file] (.tup [none, none]) [.slice, .int .i64] [RLogObj l d lg, RIdxObj x d l X] emp
    (fun t Bs => t.2.1 = (fileM lg X span file).2 ∧ Bs = [RLogObj l d lg, RIdxObj x d l X, Ar W16 t.1 (fileM lg X span file).1]) := by
  refine spec2 c_ref26_File fun B _ => ?_
  unfold ref26_File
  refine xfact 1 (P1 := RIdxObj x d l X) (fun g hg => hg.1) fun hXi => ?_
  refine xif (fun h => ?_) (fun h => ?_)
  · have e : fileM lg X span file = ([], 3) := by unfold fileM; rw [if_pos (by simp at h; omega)]
    exact xnone W16 (xuse [RLogObj l d lg, RIdxObj x d l X, Ar W16 ⟨none, 0, 0⟩ []] (xret ⟨by rw [e], by rw [e]⟩))
  have hr : 1 ≤ span ∧ span ≤ 1048576 ∧ 1 ≤ file ∧ file ≤ 65535 := by simp at h; omega
  obtain ⟨r1, r2, r3, r4⟩ := hr
  have hm0 : 0 ≤ (file - 1) * span := Int.mul_nonneg (by omega) (by omega)
  have hm1 : (file - 1) * span ≤ 65535 * 1048576 := Int.mul_le_mul (by omega) r2 (by omega) (by omega)
  have hm2 : file * span = (file - 1) * span + span := by rw [Int.sub_mul]; omega
  have w1 : IntKind.i64.wrap (IntKind.i64.wrap (file - 1) * span) = (file - 1) * span := by rw [wrap_id (file - 1) (by omega) (by omega), wrap_id _ (by omega) (by omega)]
  rw [w1, hm2, wrap_id ((file - 1) * span + span) (by omega) (by omega)]
  have e0 : fileM lg X span file = if goneB lg ((file - 1) * span) = true then ([], 31)
    else (rowsW lg 0 [] (rngX X ((file - 1) * span) ((file - 1) * span + span) lg.lo), 0) := by unfold fileM; rw [if_neg (by omega)]
  generalize hfr : (file - 1) * span = fr at *
  refine xcl (rGone26_spec l d lg fr) rdb ?_
  rintro ⟨c, _⟩ _ ⟨hc, rfl⟩
  simp only at hc; subst hc
  refine app1 (ca1 (xif (fun h => ?_) (fun h => ?_)))
  · rw [if_pos h] at e0
    exact xnone W16 (xuse [RLogObj l d lg, RIdxObj x d l X, Ar W16 ⟨none, 0, 0⟩ []] (xret ⟨by rw [e0], by rw [e0]⟩))
  rw [if_neg (by rw [h]; simp)] at e0
  refine xrlo ?_
  refine xcl (rRange_spec x d l X fr (fr + span) lg.lo) rdb ?_
  rintro ⟨s, _⟩ _ rfl
  refine app2 (ca1 ?_)
  have hns : ∀ n ∈ rngX X fr (fr + span) lg.lo, 0 ≤ n := fun n hn => by
    unfold rngX selK rngK at hn
    obtain ⟨y, hy, rfl⟩ := List.mem_map.1 hn
    exact (hXi.top y (List.mem_filter.1 (List.mem_filter.1 hy).1).1).1
  have hnl : (rngX X fr (fr + span) lg.lo).length ≤ 1000000 := by
    unfold rngX selK rngK
    rw [List.length_map]
    exact Nat.le_trans (List.length_filter_le _ _) (Nat.le_trans (List.length_filter_le _ _) hXi.len)
  generalize hnsE : rngX X fr (fr + span) lg.lo = ns at *
  refine xlen (E := I64) (xs := ns) s fun hsn _ => ?_
  simp only
  refine xnone W16 ?_
  refine xuse [Ar W16 ⟨none, 0, 0⟩ [], RLogObj l d lg, RIdxObj x d l X, Ar I64 s ns] ?_
  refine xloop3 (fun n (rows : Int) (out : Sl) (z : Int) As' => ∃ (k rw' : Nat) (ws : List Int), z = (k : Int) ∧ rows = (rw' : Int) ∧ n = ns.length - k ∧ k ≤ ns.length ∧ rw' ≤ 454 ∧ ws.length ≤ 22 * rw' ∧ rowsW lg rw' ws (ns.drop k) = rowsW lg 0 [] ns ∧ As' = [Ar W16 out ws, RLogObj l d lg, RIdxObj x d l X, Ar I64 s ns]) ns.length ⟨0, 0, [], rfl, rfl, by omega, by omega, by omega, by simp, rfl, rfl⟩ ?_
  rintro n _ out _ _ K ⟨k, rw', ws, rfl, rfl, rfl, hk, hrw, hws, hrows, rfl⟩ hK
  refine xif (fun hlt => ?_) (fun hlt => ?_)
  · simp only [Bool.and_eq_true, decide_eq_true_eq] at hlt
    obtain ⟨hlt, hmany⟩ := hlt
    have hkl : k < ns.length := by omega
    have hy := List.getElem?_eq_getElem hkl
    have hdrop : ns.drop k = ns[k] :: ns.drop (k + 1) := List.drop_eq_getElem_cons hkl
    have h0 := hns _ (List.getElem_mem hkl)
    generalize ns[k] = m at *
    rw [hdrop, rowsW] at hrows
    have next : ∀ (rw2 : Nat) (ws2 : List Int) (out2 : Sl), rw2 ≤ 454 → ws2.length ≤ 22 * rw2 → rowsW lg rw2 ws2 (ns.drop (k + 1)) = rowsW lg 0 [] ns → Ent B [Ar W16 out2 ws2, RLogObj l d lg, RIdxObj x d l X, Ar I64 s ns] (K (rw2 : Int) out2 (IntKind.i64.wrap ((k : Int) + 1))) := fun rw2 ws2 out2 q1 q2 q3 => by
      rw [wrap_succ k (by omega)]
      exact hK (ns.length - (k + 1)) _ _ _ _ (by omega) ⟨k + 1, rw2, ws2, rfl, rfl, rfl, by omega, q1, q2, q3, rfl⟩
    refine xjoin ?_
    refine xidxn (E := I64) (xs := ns) (s := s) (h1 := hkl) (h := fun _ _ => ?_)
    refine xgetE (E := I64) (xs := ns) hy (h := ?_)
    refine xcl (rRec26_spec l d lg m) rdb ?_
    rintro ⟨q1, q2, q3, q4, q5, c, _⟩ _ ⟨hc, hf, rfl⟩
    simp only at hc hf; subst hc
    refine app1 (ca6 (xnew fun b => ?_))
    iterate 5 (refine xset (h := ?_))
    refine xif (fun h1 => ?_) (fun h1 => ?_)
    · have h1' : (recAtM lg m).2 = false := by simpa using h1
      rw [if_pos h1'] at hrows
      exact xuse' (next rw' ws out hrw hws hrows)
    · have h1' : (recAtM lg m).2 = true := by simpa using h1
      obtain ⟨rfl, rfl, rfl, rfl, rfl⟩ := hf h1'
      rw [if_neg (by rw [h1']; simp), if_neg (by omega)] at hrows
      have hck : checkR (recAtM lg m).1 = 0 := by
        unfold recAtM at h1' ⊢
        split at h1'
        · cases h1'
        · rename_i hz
          rw [if_neg hz]
          exact getM_check (by simpa using h1')
      have hwl := wordsM_len m (recAtM lg m).1
      refine xidxn (E := I64) (xs := ns) (s := s) (h1 := hkl) (h := fun _ _ => ?_)
      refine xgetE (E := I64) (xs := ns) hy (h := xjoin ?_)
      have fin : ∀ (out2 : Sl) {As2 G : List HP} [Split [Ar W16 out2 (ws ++ (wordsM m (recAtM lg m).1).1), RLogObj l d lg, RIdxObj x d l X, Ar I64 s ns] As2 G], Ent B As2 (K (IntKind.i64.wrap ((rw' : Int) + 1)) out2 (IntKind.i64.wrap ((k : Int) + 1))) := by
        intro out2 As2 G _
        rw [wrap_succ rw' (by omega)]
        exact xuse [Ar W16 out2 (ws ++ (wordsM m (recAtM lg m).1).1), RLogObj l d lg, RIdxObj x d l X, Ar I64 s ns] (next (rw' + 1) _ out2 (by omega) (by rw [List.length_append]; omega) hrows)
      refine xif_dec (fun h2 => ?_) (fun h2 => ?_)
      · have ew : (wordsM m (recAtM lg m).1).1 = rowM m (recAtM lg m).1 := by unfold wordsM; rw [if_neg (by rw [hck]; simp), if_neg (by omega)]
        refine xdraw ?_
        refine xidxn (E := I64) (xs := ns) (s := s) (h1 := hkl) (h := fun _ _ => ?_)
        refine xgetE (E := I64) (xs := ns) hy (h := ?_)
        iterate 5 (refine xget (h := ?_))
        refine xcall0 (rRow_spec m (recAtM lg m).1) rdb ?_
        rintro ⟨s1, _⟩ _ rfl
        refine app1 (ca1 ?_)
        rw [← ew]
        simp only
        refine xapp (E := W16) (s := out) (ys := (wordsM m (recAtM lg m).1).1) (hb := by omega) (h := fun s2 => ?_)
        exact fin s2
      · have ew : (wordsM m (recAtM lg m).1).1 = [] := by unfold wordsM; rw [if_neg (by rw [hck]; simp), if_pos (by omega)]
        have e9 : ws = ws ++ (wordsM m (recAtM lg m).1).1 := by rw [ew, List.append_nil]
        have := @fin out
        rw [← e9] at this
        exact this
  · have hend : rowsW lg rw' ws (ns.drop k) = ws := by
      simp only [Bool.and_eq_false_iff, decide_eq_false_iff_not] at hlt
      rcases hlt with h | h
      · rw [List.drop_eq_nil_of_le (by omega), rowsW]
      · exact rowsW_full lg _ _ _ (by omega)
    rw [hend] at hrows
    rw [hrows]
    exact xuse [RLogObj l d lg, RIdxObj x d l X, Ar W16 out (rowsW lg 0 [] ns)] (xret ⟨by rw [e0], by rw [e0]⟩)
theorem files_law (s0 : Sl) (rs : List Sl) (ps : List (List UInt8)) (to : Int) (s2 : Sl) (ys : List KY) (span file : Int) : Ct Pr F_law26_HistoryFiles [.agg #[s0.v, .int .i64 to, s2.v], .int .i64 span, .int .i64 file] .one [.bool] [] (((RowsAt s0 rs ps).and (RAr KE s2 ys)).and GTab) (fun t Bs => t.1 = true ∧ Bs = []) := by
  refine spec1 c_law26_HistoryFiles fun B hr => ?_
  obtain ⟨⟨hrows, hkeys⟩, hg⟩ := hr
  haveI : FroP B GTab := ⟨hg, fun _ _ h s => GTab.mono _ _ h s⟩
  haveI : FroP B (RowsAt s0 rs ps) := ⟨hrows, fun g h ⟨x1, x2, x3⟩ s => ⟨x1.mono s, x2, fun i r x hr hx => (x3 i r x hr hx).mono s⟩⟩
  haveI : Fro B s2 KE ys := ⟨hkeys⟩
  have hyn : ys.length = s2.n := hkeys.1
  have hrl : rs.length = ps.length := hrows.2.1
  have hsn0 : rs.length = s0.n := hrows.1.1
  have fin : ∀ {As : List HP}, Ent B As (Ret B (ss := [.bool]) (fun t Bs => t.1 = true ∧ Bs = []) (true, ())) := xkeep (l := []) (xret ⟨rfl, rfl⟩)
  have works : ∀ {As : List HP} {K : Bool → WP}, Ent B As (K true) → Ent B As (XCall Pr F_law26_works [] .one [.bool] K) := by
    intro As K hK
    refine xcall0 works26_spec rdb ?_
    rintro ⟨c, _⟩ _ ⟨hc, rfl⟩
    simp only at hc; subst hc
    exact app0 (ca1 hK)
  unfold law26_HistoryFiles
  refine xnew fun b => xget (h := xget (h := xget (h := ?_)))
  refine xcall0 (great26b_spec s0 to s2 rs ps) rdb ?_
  rintro ⟨c, _⟩ _ ⟨hc, rfl⟩
  simp only at hc
  refine app0 (ca1 (xif (fun h => works fin) (fun h => ?_)))
  obtain ⟨h600, h100⟩ := hc h
  refine xget (h := xget (h := xget (h := ?_)))
  obtain ⟨gs, safe, f1, f2, f3, f4, f5⟩ := laidL_rel ps (by omega)
  have hcalm : calm (trimL (laidL ps).1 (laidL ps).2 to 1).1 := trim_calm ⟨f4, f5⟩ _ _ _
  have hlinv0 : LInv (laidL ps).2 := by rw [f1]; exact f2.linv (by omega)
  have hi : LInv (trimL (laidL ps).1 (laidL ps).2 to 1).2.1 := trim_inv hlinv0 _ _ _
  have hnx : (trimL (laidL ps).1 (laidL ps).2 to 1).2.1.next = gs.flatten.length := by rw [trim_next, f1, next_of]
  have hlo0 := hi.lo
  have hT : ∀ q p, Ct Pr F_segs_Log_Trim [.pointer q, .int .i64 to, .int .i64 1] .one [.int .i64] [LogObj q p (laidL ps).2, DevObj p (laidL ps).1] GTab (fun t Bs => Bs = [LogObj q p (trimL (laidL ps).1 (laidL ps).2 to 1).2.1, DevObj p (trimL (laidL ps).1 (laidL ps).2 to 1).1]) := fun q p => segTrim_spec q p (laidL ps).1 (laidL ps).2 to
  have hsaid := said26_spec s0 rs ps to s2 ys (by omega) (by omega)
  generalize (trimL (laidL ps).1 (laidL ps).2 to 1).1 = m1 at *
  generalize (trimL (laidL ps).1 (laidL ps).2 to 1).2.1 = lg at *
  refine xcall0 (laid26_spec s0 rs ps to s2 ys (by omega) (by omega) (m1, lg) hT hcalm.2 hcalm.1 (by simp only; omega)) (rds_and (rds_and rdb rdb) rdb) ?_
  rintro ⟨l, x, c, _⟩ _ ⟨hc1, d, m, rfl⟩
  simp only at hc1; subst hc1
  refine app3 (ca3 (xiff rfl ?_))
  simp only
  refine xget (h := xget (h := xget (h := ?_)))
  refine xcall0 hsaid (rds_and rdb rdb) ?_
  rintro ⟨l2, x2, _⟩ _ ⟨d2, m2, rfl⟩
  refine app3 (ca2 ?_)
  simp only
  have hal := addAll_len ys (openX lg)
  have hai := addAll_i64 ys (openX lg)
  have hN : lg.next - lg.lo ≤ 600 := by omega
  obtain ⟨o1, o2, o3⟩ := openG lg (lg.next - lg.lo).toNat
  rw [show openTo lg (lg.next - lg.lo).toNat = openX lg from rfl] at o1 o2 o3
  have hXl0 : (openX lg).L.length ≤ 600 := by
    have := o3 fun _ => true
    rw [List.filter_eq_self.2 (fun _ _ => rfl)] at this
    have h9 := cntG_le lg (fun _ => true) (lg.next - lg.lo).toNat
    omega
  have hXi := hai fun y hy => by
    obtain ⟨i, a1, a2, rfl⟩ := (o2 y).1 hy
    show i64 (lg.lo + i)
    exact ⟨by omega, by omega⟩
  have hXl : (addAll (openX lg) ys).L.length ≤ 1000000 := by omega
  generalize addAll (openX lg) ys = X at *
  have hfl := fileM_len lg X span file
  refine xuse [RLogObj l2 d2 lg, RIdxObj x2 d2 l2 X, LogObj l d lg, IdxObj x d l X] ?_
  refine xcl (File_spec l x d lg X span file hXl hXi) rdb ?_
  rintro ⟨s, e, _⟩ _ ⟨he, rfl⟩
  simp only at he; subst he
  refine app3 (ca2 ?_)
  simp only
  refine xcl (File_spec l x d lg X span file hXl hXi) rdb ?_
  rintro ⟨s1, e, _⟩ _ ⟨he, rfl⟩
  simp only at he; subst he
  refine app3 (ca2 ?_)
  simp only
  refine xcl (rFile26_spec l2 x2 d2 lg X span file) rdb ?_
  rintro ⟨s3, e, _⟩ _ ⟨he, rfl⟩
  simp only at he; subst he
  refine app3 (ca2 ?_)
  simp only
  generalize hws : (fileM lg X span file).1 = ws at *
  refine xjoin (xift (by simp) ?_)
  refine xcl (pre := []) (SameWords_spec s s3 ws ws (by omega)) (rds_and rdb rdb) ?_
  rintro ⟨x, _⟩ _ ⟨hx, rfl⟩
  obtain rfl : x = true := by rw [show x = _ from hx]; simp
  refine app0 (ca1 (xjoin (xift rfl ?_)))
  refine xcl (pre := []) (SameWords_spec s1 s3 ws ws (by omega)) (rds_and rdb rdb) ?_
  rintro ⟨x, _⟩ _ ⟨hx, rfl⟩
  obtain rfl : x = true := by rw [show x = _ from hx]; simp
  refine app0 (ca1 (xjoin (xift rfl (xnew fun b1 => ?_))))
  refine xfold1 0 (Q := Ar SL ⟨some ⟨b1, 0, none⟩, 2, 2⟩ [s, s1]) (fun g hg => ⟨[], blk_ar [s, s1] 2 rfl rfl hg⟩) ?_
  refine xcl (pre := [Ar W16 s ws, Ar W16 s1 ws]) (Apart2_spec ⟨some ⟨b1, 0, none⟩, 2, 2⟩ s s1 ws ws (by omega) (by omega)) rdb ?_
  rintro ⟨x, _⟩ Bs hx
  obtain rfl : x = true := hx
  exact ca1 (xjoin (xift rfl (works fin)))
end Go.Cx
namespace Go.Cx
open Go Go.Cf
set_option linter.unusedVariables false
set_option maxRecDepth 100000
variable {B : Base} {As F : List HP} {α : Type}
section
open Go.RowKit Go.ChangeShapes Go.WideShapes Go.Deep
section
variable {α : Type} {H : Type} {enc : TypeId × Value → H} {P : Program} {w : World} {base : Nat} {held : Bool}
theorem opens_int {t : TypeId} (ht : P.underlying t = some (.int .i64)) : Opens enc P w base held t I64 (fun a b => a = b) := by
  intro fuel cs x hx
  obtain ⟨a, b, h1, h2, _⟩ := opens_i64 ht fuel cs x hx
  exact ⟨a, b, h1, h2⟩
theorem c3 : Pr.cellsOf 3 = 1 := by kernel_rfl
theorem int1 {fuel : Nat} {v : Value} {x : DataW H × List MemPlace} (h : DataW.trod enc Pr w base (fun _ => true) held fuel 3 [v] = some x) : ∃ a : Int, v = .int .i64 a := by
  obtain ⟨a, _, h1, rfl⟩ := opens_int (P := Pr) (t := 3) (by kernel_rfl) _ _ _ h
  exact ⟨a, by simpa [I64] using h1⟩
theorem c32 : Pr.cellsOf 32 = 1 := by kernel_rfl
theorem c33 : Pr.cellsOf 33 = 1 := by kernel_rfl
theorem slice1 {fuel : Nat} {t e : TypeId} {v : Value} {x : DataW H × List MemPlace} (ht : Pr.underlying t = some (.slice e)) (h : DataW.trod enc Pr w base (fun _ => true) held fuel t [v] = some x) : ∃ s : Sl, v = s.v := by
  rcases DataW.trod_slice ht h with ⟨h1, _⟩ | ⟨a, n, c, _, _, _, _, h1, _⟩
  · exact ⟨⟨none, 0, 0⟩, by simpa using h1⟩
  · exact ⟨⟨some a, n, c⟩, by simpa using h1⟩
theorem opens_key : Opens enc Pr w base held 55 KE (fun a b => a = b) := by
  intro fuel cs x hx
  obtain ⟨xs, n, _, _, hlen, hxs, hf⟩ := DataW.trod_struct Go.Proofs.Tryz.underlying55 hx
  have ce : Pr.cellsOf 55 = 2 := by kernel_rfl
  rw [ce] at hlen
  match xs, hxs, cs, hlen with
  | [y0, y1], _, [v0, v1], _ =>
    have g0 := hf 0 _ rfl
    have g1 := hf 1 _ rfl
    simp [c3] at g0 g1
    obtain ⟨a0, rfl⟩ := int1 g0
    obtain ⟨a1, rfl⟩ := int1 g1
    exact ⟨(a0, a1), (a0, a1), rfl, rfl⟩
theorem store2 {fuel : Nat} {cs : List Value} {x : DataW H × List MemPlace} (h : DataW.trod enc Pr w base (fun _ => true) held fuel 35 cs = some x) : ∃ (s0 s2 : Sl) (to : Int) (rows : List (List UInt8)) (ys : List KY), cs = [s0.v, .int .i64 to, s2.v] ∧ RRows s0 rows (mem w) ∧ RAr KE s2 ys (mem w) := by
  obtain ⟨xs, n, _, _, hlen, hxs, hf⟩ := DataW.trod_struct Go.Proofs.Tryz.underlying35 h
  have ce : Pr.cellsOf 35 = 3 := by kernel_rfl
  rw [ce] at hlen
  match xs, hxs, cs, hlen with
  | [y0, y1, y2], _, [v0, v1, v2], _ =>
    have g0 := hf 0 _ rfl
    have g1 := hf 1 _ rfl
    have g2 := hf 2 _ rfl
    simp [c3, c32, c33] at g0 g1 g2
    obtain ⟨s0, rfl⟩ := slice1 (e := 78) (by kernel_rfl) g0
    obtain ⟨a1, rfl⟩ := int1 g1
    obtain ⟨s2, bs, h1, h2, us, h3, h4, h5⟩ := opens_slice (E := KE) (t := 33) (e := 55) (by kernel_rfl) (by kernel_rfl) opens_key _ _ _ g2
    obtain rfl : v2 = s2.v := by simpa [SL] using h1
    obtain ⟨rows, hr⟩ := rows_of_trod (s := s0) (e := 78) (q := 5) (by kernel_rfl) (by kernel_rfl) (by kernel_rfl) (by kernel_rfl) (by kernel_rfl) g0
    exact ⟨s0, s2, a1, rows, us, rfl, hr, h3⟩
end
theorem tabType : (Pr.globals[0]?).map (·.type) = some 259 := by kernel_rfl
theorem cU : Pr.cellsOf 113 = 1 := by kernel_rfl
theorem cA : Pr.cellsOf 259 = 20 := by kernel_rfl
theorem GTab_of {W : World} (h : Lib.TabIs Pr W "internal/strconv.uint64pow10" .u64 Lib.pow10Tab) : GTab (mem W) := by
  unfold Lib.TabIs World.var? at h
  rw [globTab] at h
  simp only [Option.bind_some] at h
  show ∃ e fr, W.heap[_]? = some _
  split at h
  · rename_i cs e fr hh
    obtain rfl := Option.some.inj h
    exact ⟨e, fr, hh⟩
  · cases h
theorem GTab_of_laid {W : World} {a b : String × DataW Unit} {rest : List (String × DataW Unit)} (h : laidMet Pr (a :: b :: ("internal/strconv.uint64pow10", Lib.tabData .u64 Lib.pow10Tab) :: rest) W) : GTab (mem W) := by
  obtain ⟨ps, hv, _⟩ := h
  obtain ⟨n1, d1⟩ := a
  obtain ⟨n2, d2⟩ := b
  obtain ⟨g1, t1, cs1, fu1, p1, q1, hg1, ht1, hvar1, hd1, hv2, _⟩ := hv
  obtain ⟨g2, t2, cs2, fu2, p2, q2, hg2, ht2, hvar2, hd2, hv3, _⟩ := hv2
  obtain ⟨g3, t3, cs3, fu3, p3, q3, hg3, ht3, hvar3, hd3, _, _⟩ := hv3
  obtain rfl := Option.some.inj (globTab.symm.trans hg3)
  obtain rfl := Option.some.inj (tabType.symm.trans ht3)
  refine GTab_of ?_
  unfold Lib.TabIs
  rw [hvar3]
  have := Lib.cells_of_tab (by kernel_rfl : Pr.underlying 259 = some (.array 20 113)) (by kernel_rfl : Pr.underlying 113 = some (.int .u64)) cU cA hd3
  rw [← this]
end
end Go.Cx
