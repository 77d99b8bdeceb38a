/-
  The document's plan; polls that are alike.
-/
import Derived.Test.YtcddiaiemlkmaaaGreatPV
namespace Go.Cx
open Go Go.Cf
set_option linter.unusedVariables false
set_option maxRecDepth 100000
variable {B : Base} {As F : List HP} {α : Type}

def RP (s : Sl) (ps : List Poll) : HP := fun h => ∃ rows : List (Poll × Sl), rows.map Prod.fst = ps ∧ RAr PR s rows h ∧ ∀ (i : Nat) (q : Poll × Sl), rows[i]? = some q → RAr I64 q.2 q.1.tags h
theorem RP.mono {s : Sl} {ps : List Poll} {h g : Frag} (hr : RP s ps h) (hs : Sub h g) : RP s ps g := by
  obtain ⟨rs, h1, h2, h3⟩ := hr
  exact ⟨rs, h1, h2.mono hs, fun i q hi => (h3 i q hi).mono hs⟩
theorem OPolls.read {s : Sl} {ps : List Poll} {h : Frag} (hr : OPolls s ps h) : RP s ps h := by
  obtain ⟨rs, h1, a, b, pa, ⟨c, d, pc, _, _, sc, _⟩, _, sa, sb⟩ := hr
  exact ⟨rs, h1, pa.read.mono sa, fun i q hi => (each_read (S := fun q _ => RAr I64 q.2 q.1.tags) (fun _ _ _ _ h s => h.mono s) (fun _ _ _ h => h.read) pc hi hi).mono (sc.trans sb)⟩
instance Rdb.op (s : Sl) (ps : List Poll) : Rdb B (OPolls s ps :: F) (RP s ps) := ⟨fun g _ hF ⟨_, _, pa, _, _, sa, _⟩ c => pa.read.mono (sa.trans c)⟩

theorem same_spec (p : Poll) (sa sb : Sl) (hb : p.tags.length ≤ 1000000) : Ct Pr F_law10_same [.agg #[.int .i64 p.unit, .int .i64 p.kind, .int .i64 p.addr, .int .i64 p.count, .int .i64 p.every, sa.v], .agg #[.int .i64 p.unit, .int .i64 p.kind, .int .i64 p.addr, .int .i64 p.count, .int .i64 p.every, sb.v]] .one [.bool] [] ((RAr I64 sa p.tags).and (RAr I64 sb p.tags)) (fun t Bs => t.1 = true ∧ Bs = []) := by
  refine spec1 c_law10_same fun B hr => ?_
  haveI : Fro B sa I64 p.tags := ⟨hr.1⟩
  haveI f2 : Fro B sb I64 p.tags := ⟨hr.2⟩
  unfold law10_same
  refine xnew fun b => xnew fun b1 => xget (h := xget (h := xjoin (xift (by simp) (xget (h := xget (h := ?_))))))
  refine xjoin (xift (by simp) (xget (h := xget (h := xjoin (xift (by simp) (xget (h := xget (h := ?_))))))))
  refine xjoin (xift (by simp) (xget (h := xget (h := xjoin (xift (by simp) (xget (h := xget (h := ?_))))))))
  refine xcall0 (SameInts_spec sa sb p.tags hb) (rds_of fun g a hF p' q => ⟨hr.1.mono a, hr.2.mono a⟩) ?_
  rintro ⟨c, _⟩ _ ⟨hc, rfl⟩
  obtain rfl : c = true := hc
  exact app0 (ca1 (xkeep (l := []) (xret ⟨rfl, rfl⟩)))

theorem Same_spec (a b : Sl) (ps : List Poll) (hn : ps.length ≤ 1000) (hb : ∀ p ∈ ps, p.tags.length ≤ 1000000) : Ct Pr F_law10_Same [a.v, b.v] .one [.bool] [] ((RP a ps).and (RP b ps)) (fun t Bs => t.1 = true ∧ Bs = []) := by
  refine spec1 c_law10_Same fun B hr => ?_
  obtain ⟨⟨ra, a1, a2, a3⟩, ⟨rb, b1, b2, b3⟩⟩ := hr
  haveI : Fro B a PR ra := ⟨a2⟩
  haveI f2 : Fro B b PR rb := ⟨b2⟩
  have h1 := a2.1
  have h2 := b2.1
  have la : ra.length = ps.length := by rw [← a1]; simp
  have lb : rb.length = ps.length := by rw [← b1]; simp
  unfold law10_Same
  refine xiff (by rw [← h1, ← h2, la, lb]; simp) ?_
  refine xloop1 (fun n (x : Int) As' => ∃ k : Nat, x = (k : Int) ∧ n = ps.length - k ∧ k ≤ ps.length ∧ As' = []) ps.length ⟨0, rfl, by omega, by omega, rfl⟩ ?_
  rintro n x As' K ⟨k, rfl, rfl, hk, rfl⟩ hK
  refine xif_dec (fun hp => xdraw ?_) (fun hp => xret ⟨rfl, rfl⟩)
  refine xidxn (E := PR) (xs := ra) (s := a) (h1 := by omega) (h := fun x hx => ?_)
  obtain ⟨p, sa⟩ := x
  refine xgetE (E := PR) (xs := ra) hx (h := ?_)
  iterate 5 (refine xgetEj (E := PR) (xs := ra) hx (h := ?_))
  refine xidxn (E := PR) (xs := rb) (s := b) (h1 := by omega) (h := fun y hy => ?_)
  obtain ⟨p', sb⟩ := y
  have hp1 : ps[k]? = some p := by rw [← a1, List.getElem?_map, hx]; rfl
  obtain rfl : p = p' := by
    have : ps[k]? = some p' := by rw [← b1, List.getElem?_map, hy]; rfl
    rw [hp1] at this; exact Option.some.inj this
  refine xgetE (E := PR) (xs := rb) hy (h := ?_)
  iterate 5 (refine xgetEj (E := PR) (xs := rb) hy (h := ?_))
  dsimp only
  refine xcall0 (same_spec p sa sb (hb p (List.mem_of_getElem? hp1))) (rds_of fun g a hF p q => ⟨(a3 k _ hx).mono a, (b3 k _ hy).mono a⟩) ?_
  rintro ⟨c, _⟩ _ ⟨hc, rfl⟩
  obtain rfl : c = true := hc
  refine app0 (ca1 (xiff rfl ?_))
  rw [wrap_succ k (by omega)]
  exact hK _ _ _ (by omega) ⟨k + 1, rfl, rfl, by omega, rfl⟩

theorem Joined_spec (p : Poll) (sp : Sl) (t : Tag) (ht : tagE t = 0) (h1 : 0 ≤ p.addr) (h2 : p.addr ≤ 65535) (h3 : 1 ≤ p.count) (h4 : p.count ≤ 2000) : Ct Pr F_ref10_Joined [.agg #[.int .i64 p.unit, .int .i64 p.kind, .int .i64 p.addr, .int .i64 p.count, .int .i64 p.every, sp.v], t.v] (.tup [none, none]) [.int .i64, .bool] [] emp
    (fun r Bs => r.2.1 = joins p t ∧ (joins p t = true → r.1 = joinC p t) ∧ Bs = []) := by
  refine spec2 c_ref10_Joined fun B hr => ?_
  obtain ⟨_, _, k1, k2, ha1, ha2, _⟩ := tag_ok ht
  have hwd := width_or t
  unfold ref10_Joined
  refine xnew fun b => xnew fun b1 => xget (h := ?_)
  refine xjoin1 (fun (c : Bool) As' => As' = [Blk b1 t.cells, Blk b [.int .i64 p.unit, .int .i64 p.kind, .int .i64 p.addr, .int .i64 p.count, .int .i64 p.every, sp.v]] ∧ c = decide (t.kind ≤ 2)) (fun K hK => ?_) ?_
  · refine xif (fun q => hK _ _ ⟨rfl, ?_⟩) (fun q => xget (h := hK _ _ ⟨rfl, ?_⟩))
    · simp at q; rw [q]; rfl
    · rw [Bool.eq_iff_iff]; simp at *; omega
  rintro c As2 ⟨rfl, rfl⟩
  refine xjoin1 (fun (r : Int) As' => As' = [Blk b1 t.cells, Blk b [.int .i64 p.unit, .int .i64 p.kind, .int .i64 p.addr, .int .i64 p.count, .int .i64 p.every, sp.v]] ∧ r = limitK t.kind) (fun K hK => ?_) ?_
  · refine xif_dec (fun q => hK _ _ ⟨rfl, ?_⟩) (fun q => hK _ _ ⟨rfl, ?_⟩)
    · unfold limitK; rw [if_pos q]
    · unfold limitK; rw [if_neg q]
  rintro most As2 ⟨rfl, rfl⟩
  refine xdraw ?_
  iterate 21 (refine xget (h := ?_))
  refine xcall0 (WidthRef_spec t) rdb ?_
  rintro ⟨x, _⟩ _ ⟨hx, rfl⟩
  simp only at hx; subst hx
  refine app0 (ca1 (xchk (h := xchk (h := xget (h := ?_)))))
  rw [wrap_id (t.addr + t.width) (by omega) (by omega), wrap_id (t.addr + t.width - p.addr) (by omega) (by omega)]
  refine xjoin1 (fun (r : Int) As' => As' = [Blk b1 t.cells, Blk b [.int .i64 p.unit, .int .i64 p.kind, .int .i64 p.addr, .int .i64 p.count, .int .i64 p.every, sp.v]] ∧ r = joinC p t) (fun K hK => ?_) ?_
  · refine xif_dec (fun q => xget (h := hK _ _ ⟨rfl, ?_⟩)) (fun q => hK _ _ ⟨rfl, ?_⟩)
    · unfold joinC; rw [if_neg (by omega)]
    · unfold joinC; split <;> omega
  rintro count As2 ⟨rfl, rfl⟩
  have hjt : joins p t = true ↔ (p.unit = t.unit ∧ p.every = t.every ∧ p.kind = t.kind ∧ t.addr ≤ p.addr + p.count + 8 ∧ joinC p t ≤ limitK p.kind) := by unfold joins; exact decide_eq_true_iff
  have hlk : p.kind = t.kind → limitK p.kind = limitK t.kind := fun h => by rw [h]
  refine xget (h := xget (h := ?_))
  repeat' (first | refine xjoin ?_ | refine xget (h := ?_) | refine xift rfl ?_ | refine xif (fun h0 => ?_) (fun h0 => ?_))
  all_goals
    try rw [wrap_id (t.addr - 8) (by omega) (by omega), wrap_id (p.addr + p.count) (by omega) (by omega)] at h0
    simp only [Bool.or_eq_true, Bool.or_eq_false_iff, decide_eq_true_eq, decide_eq_false_iff_not, bne_iff_ne, bne_eq_false_iff_eq, ne_eq] at *
    first | (refine xkeep (l := []) (xret ⟨(Bool.eq_false_iff.2 fun h => absurd (hjt.1 h) (by omega)).symm, fun h => absurd (hjt.1 h) (by omega), rfl⟩)) | (refine xkeep (l := []) (xret ⟨(hjt.2 (by omega)).symm, fun h => rfl, rfl⟩))

theorem PlanRef_spec (l : Sl) (ts : List Tag) : Ct Pr F_ref10_Plan [l.v] (.tup [none, none]) [.slice, .int .i64] [] (RAr TG l ts) (fun r Bs => r.2.1 = (allE ts).1 ∧ Bs = [OPolls r.1 (planM ts)]) := by
  refine spec2 c_ref10_Plan fun B hr => ?_
  haveI : Fro B l TG ts := ⟨hr⟩
  have hn := hr.1
  unfold ref10_Plan
  refine xcall0 (CheckAllRef_spec l ts) rdb ?_
  rintro ⟨e, at_, _⟩ _ ⟨he, hat, rfl⟩
  simp only at he hat; subst he hat
  refine app0 (ca2 (xif (fun h => ?_) (fun h => ?_)))
  · have h : (allE ts).1 ≠ 0 := by simpa using h
    have e : planM ts = [] := by unfold planM; rw [if_neg h]
    rw [e]
    exact xadd OPolls.nil (xret ⟨rfl, rfl⟩)
  have h0 : (allE ts).1 = 0 := by simpa using h
  have hl := allE_len h0
  have em : planM ts = planL ts := by unfold planM; rw [if_pos h0]
  rw [em, h0]
  refine xcall0 (Order_spec l ts hl) rdb ?_
  rintro ⟨s, _⟩ _ rfl
  refine app1 (ca1 ?_)
  refine xlen s (fun hsn hsc => ?_)
  have hsn : s.n = ts.length := by rw [← hsn]; simp [ordL, ordF_len]
  refine xnone PR ?_
  refine xadd (A := Each EP [] []) trivial ?_
  refine xloop2 (fun m (out : Sl) (x : Int) As' => ∃ (k : Nat) (rows : List (Poll × Sl)), x = (k : Int) ∧ m = ts.length - k ∧ k ≤ ts.length ∧ rows.map Prod.fst = planK ts k ∧ As' = [Each EP rows rows, Ar PR out rows, Ar I64 s (ordL ts)]) ts.length ⟨0, [], rfl, by omega, by omega, rfl, rfl⟩ ?_
  rintro m out x As' K ⟨k, rows, rfl, rfl, hk, hrows, rfl⟩ hK
  refine xif_dec (fun hp => ?_) (fun hp => ?_)
  rotate_left
  · obtain rfl : k = ts.length := by omega
    refine xdrop 2 (xfold2 (Q := OPolls out (planL ts)) 1 0 (fun g hg => ⟨rows, hrows, hg⟩) (xret ⟨rfl, rfl⟩))
  have hp : k < ts.length := by omega
  obtain ⟨i, hi⟩ : ∃ i, (ordF ts)[k]? = some i := ⟨_, List.getElem?_eq_getElem (by rw [ordF_len]; exact hp)⟩
  have hoi : (ordL ts)[k]? = some (i.val : Int) := by simp [ordL, hi]
  have ht : ts[i.val]? = some ts[i] := List.getElem?_eq_getElem i.isLt
  have hstep := planK_succ hi
  obtain ⟨hlen, hoks⟩ := planK_ok h0 k (by omega)
  have htag := allE_tag h0 ht
  have hrl : rows.length = (planK ts k).length := by rw [← hrows]; simp
  generalize htt : ts[i] = t at ht hstep htag
  have hwd := width_or t
  obtain ⟨_, _, _, _, ha1, ha2, _⟩ := tag_ok htag
  have next : ∀ (out' : Sl) (rows' : List (Poll × Sl)), rows'.map Prod.fst = stepP (planK ts k) t (i.val : Int) → Ent B [Each EP rows' rows', Ar PR out' rows', Ar I64 s (ordL ts)] (K out' (IntKind.i64.wrap ((k : Int) + 1))) := fun out' rows' h => by
    rw [wrap_succ k (by omega)]
    exact hK _ _ _ _ (by omega) ⟨k + 1, rows', rfl, rfl, by omega, by rw [hstep]; exact h, rfl⟩
  refine xjoin ?_
  refine xidxn (E := I64) (xs := ordL ts) (s := s) (h1 := by simp [ordL, ordF_len]; exact hp) (h := fun v hv => ?_)
  obtain rfl : v = (i.val : Int) := by rw [hoi] at hv; cases hv; rfl
  refine xgetE (E := I64) (xs := ordL ts) hv (h := ?_)
  refine xidxn (E := TG) (xs := ts) (s := l) (h1 := i.isLt) (h := fun t' ht' => ?_)
  obtain rfl : t' = t := by rw [ht] at ht'; cases ht'; rfl
  refine xgetE ht' (h := ?_)
  iterate 18 (refine xgetEj ht' (h := ?_))
  refine xnew fun b => ?_
  iterate 19 (refine xset (h := ?_))
  refine xlen out (fun hon hoc => ?_)
  refine xjoin0 (fun As' => As' = [Blk b t'.cells, Each EP rows rows, Ar PR out rows, Ar I64 s (ordL ts)] ∧ ∀ p, (planK ts k)[(planK ts k).length - 1]? = some p → joins p t' = false) (fun K2 hK2 => ?_) ?_
  rotate_left
  · rintro As2 ⟨rfl, hno⟩
    refine xdraw (xjoin ?_)
    iterate 23 (refine xget (h := ?_))
    refine xidxn (E := I64) (xs := ordL ts) (s := s) (h1 := by simp [ordL, ordF_len]; exact hp) (h := fun v hv' => ?_)
    refine xgetE (E := I64) (xs := ordL ts) hv (h := ?_)
    have fin : ∀ (s3 : Sl) (b2 : Nat), Ent B [Ar PR s3 (rows ++ [(newP t' (i.val : Int), ⟨some ⟨b2, 0, none⟩, 1, 1⟩)]), Ar I64 ⟨some ⟨b2, 0, none⟩, 1, 1⟩ [(i.val : Int)], Each EP rows rows, Ar I64 s (ordL ts)] (K s3 (IntKind.i64.wrap ((k : Int) + 1))) := fun s3 b2 => by
      refine xfold [Each EP rows rows, Ar I64 ⟨some ⟨b2, 0, none⟩, 1, 1⟩ [(i.val : Int)]] (Each EP (rows ++ [(newP t' (i.val : Int), ⟨some ⟨b2, 0, none⟩, 1, 1⟩)]) (rows ++ [(newP t' (i.val : Int), ⟨some ⟨b2, 0, none⟩, 1, 1⟩)])) (fun g hg => each_snoc (R := EP) hg) ?_
      refine xuse [Each EP (rows ++ [(newP t' (i.val : Int), ⟨some ⟨b2, 0, none⟩, 1, 1⟩)]) (rows ++ [(newP t' (i.val : Int), ⟨some ⟨b2, 0, none⟩, 1, 1⟩)]), Ar PR s3 (rows ++ [(newP t' (i.val : Int), ⟨some ⟨b2, 0, none⟩, 1, 1⟩)]), Ar I64 s (ordL ts)] (next _ _ ?_)
      rw [List.map_append, hrows]
      unfold stepP
      split
      · rename_i p hp'
        rw [hno p hp']; simp
      · simp
    refine xand ?_ ?_
    · refine xcall0 (WidthRef_spec t') rdb ?_
      rintro ⟨x, _⟩ _ ⟨hx, rfl⟩
      simp only at hx; subst hx
      refine app0 (ca1 ?_)
      iterate 5 (first | refine xchk (h := ?_) | refine xchkE (E := I64) (xs := ordL ts) hv (h := ?_))
      refine xnew fun b2 => ?_
      refine xfold1 (Q := Ar I64 ⟨some ⟨b2, 0, none⟩, 1, 1⟩ [(i.val : Int)]) 0 (fun g hg => ⟨[], blk_ar [(i.val : Int)] 1 rfl rfl hg⟩) ?_
      refine xnew fun b3 => ?_
      refine xapp1 (E := PR) (newP t' (i.val : Int), ⟨some ⟨b2, 0, none⟩, 1, 1⟩) (hb := by omega) (h := fun s3 => ?_)
      exact xuse [Ar PR s3 (rows ++ [(newP t' (i.val : Int), ⟨some ⟨b2, 0, none⟩, 1, 1⟩)]), Ar I64 ⟨some ⟨b2, 0, none⟩, 1, 1⟩ [(i.val : Int)], Each EP rows rows, Ar I64 s (ordL ts)] (fin s3 b2)
    · refine xnew fun b2 => ?_
      refine xfold1 (Q := Ar I64 ⟨some ⟨b2, 0, none⟩, 1, 1⟩ [(i.val : Int)]) 0 (fun g hg => ⟨[], blk_ar [(i.val : Int)] 1 rfl rfl hg⟩) ?_
      refine xcall0 (WidthRef_spec t') rdb ?_
      rintro ⟨x, _⟩ _ ⟨hx, rfl⟩
      simp only at hx; subst hx
      refine app0 (ca1 ?_)
      iterate 5 (first | refine xchk (h := ?_) | refine xchkE (E := I64) (xs := ordL ts) hv (h := ?_))
      refine xnew fun b3 => ?_
      refine xapp1 (E := PR) (newP t' (i.val : Int), ⟨some ⟨b2, 0, none⟩, 1, 1⟩) (hb := by omega) (h := fun s3 => ?_)
      exact xuse [Ar PR s3 (rows ++ [(newP t' (i.val : Int), ⟨some ⟨b2, 0, none⟩, 1, 1⟩)]), Ar I64 ⟨some ⟨b2, 0, none⟩, 1, 1⟩ [(i.val : Int)], Each EP rows rows, Ar I64 s (ordL ts)] (fin s3 b2)
  · cases hm : rows.length with
    | zero =>
      have hz : planK ts k = [] := List.length_eq_zero_iff.1 (by omega)
      refine xiff (by rw [← hon, hm]; decide) (hK2 _ ⟨rfl, fun p hp' => by rw [hz] at hp'; simp at hp'⟩)
    | succ m =>
      have wn : IntKind.i64.wrap ((out.n : Int) - 1) = (m : Int) := by rw [wrap_id _ (by omega) (by omega)]; omega
      rw [wn]
      refine xift (by simp) (xdraw ?_)
      refine xidxn (E := PR) (xs := rows) (s := out) (h1 := by omega) (h := fun q hq => ?_)
      obtain ⟨p, sp⟩ := q
      have hpk : (planK ts k)[(planK ts k).length - 1]? = some p := by
        rw [← hrows, List.length_map, hm, Nat.add_sub_cancel, List.getElem?_map, hq]; rfl
      obtain ⟨o1, o2, o3, o4, o5⟩ := hoks p (List.mem_of_getElem? hpk)
      refine xgetE hq (h := ?_)
      iterate 5 (refine xgetEj hq (h := ?_))
      iterate 19 (refine xget (h := ?_))
      dsimp only
      refine xcall0 (Joined_spec p sp t' htag o1 o2 o3 o4) rdb ?_
      rintro ⟨c, j, _⟩ _ ⟨hj, hc, rfl⟩
      simp only at hj hc; subst hj
      refine app0 (ca2 (xif (fun hj => ?_) (fun hj => hK2 _ ⟨rfl, fun p' hp' => by rw [hpk] at hp'; cases hp'; exact hj⟩)))
      obtain rfl := hc hj
      refine xidxn (E := PR) (xs := rows) (s := out) (h1 := by omega) (h := fun q hq' => ?_)
      refine xsetEj (({ p with count := joinC p t' } : Poll), sp) hq rfl (by decide) rfl (h := xdraw ?_)
      have hm' : m < rows.length := by omega
      have hq2 : (rows.set m (({ p with count := joinC p t' } : Poll), sp))[m]? = some (({ p with count := joinC p t' } : Poll), sp) := by simp [hm']
      refine xidxn (E := PR) (xs := rows.set m (({ p with count := joinC p t' } : Poll), sp)) (s := out) (h1 := by simp; omega) (h := fun q hq' => ?_)
      refine xgetEj hq2 (h := ?_)
      refine xidxn (E := I64) (xs := ordL ts) (s := s) (h1 := by simp [ordL, ordF_len]; exact hp) (h := fun v hv' => ?_)
      refine xgetE (E := I64) (xs := ordL ts) hv (h := ?_)
      refine xnew fun b1 => ?_
      refine xuse [Blk b1 [.int .i64 (i.val : Int)], Each EP rows rows, Ar PR out (rows.set m (({ p with count := joinC p t' } : Poll), sp)), Ar I64 s (ordL ts)] ?_
      refine xunf 1 [Ar I64 sp p.tags, Each EP (rows.eraseIdx m) (rows.eraseIdx m)] (fun g hg => each_pick (R := EP) hg hq hq) (app2 ?_)
      refine xapp1 (E := I64) (i.val : Int) (hb := by omega) (h := fun s2 => ?_)
      refine xidxn (E := PR) (xs := rows.set m (({ p with count := joinC p t' } : Poll), sp)) (s := out) (h1 := by simp; omega) (h := fun q hq' => ?_)
      refine xsetEj (E := PR) (joinP p t' (i.val : Int), s2) (x := (({ p with count := joinC p t' } : Poll), sp)) hq2 rfl (by decide) rfl (h := ?_)
      rw [List.set_set]
      refine xfold [Ar I64 s2 (p.tags ++ [(i.val : Int)]), Each EP (rows.eraseIdx m) (rows.eraseIdx m)] (Each EP (rows.set m (joinP p t' (i.val : Int), s2)) (rows.set m (joinP p t' (i.val : Int), s2))) (fun g hg => each_put (R := EP) hm' hm' hg) ?_
      refine xuse [Each EP (rows.set m (joinP p t' (i.val : Int), s2)) (rows.set m (joinP p t' (i.val : Int), s2)), Ar PR out (rows.set m (joinP p t' (i.val : Int), s2)), Ar I64 s (ordL ts)] (next _ _ ?_)
      unfold stepP
      rw [hpk]
      simp only
      rw [if_pos hj, List.map_set, hrows, ← hrl, hm, Nat.add_sub_cancel]

end Go.Cx
