/-
  PlanReads: what registers hold, told out of the answers.
-/
import Derived.Test.YtcddiaiemlkmaaaGreatPT
namespace Go.Cx
open Go Go.Cf
set_option linter.unusedVariables false
set_option maxRecDepth 100000
variable {B : Base} {As F : List HP} {α : Type}

def rowAt (row : List UInt16) (k : Nat) : UInt16 := row[k % row.length]?.getD 0
def bitAt (row : List UInt16) (k : Nat) : Bool := ((((rowAt row k).toNat : Int)).tmod 2) == 1
def onL (row : List UInt16) (kind : Int) (a k : Nat) : List Bool := if kind ≤ 2 then (List.range k).map fun j => bitAt row (a + j) else []
def wsL (row : List UInt16) (kind : Int) (a k : Nat) : List UInt16 := if kind ≤ 2 then [] else (List.range k).map fun j => rowAt row (a + j)
def ownM (row : List UInt16) (t : Tag) : Int :=
  if t.kind ≤ 2 then ((rowAt row t.addr.toNat).toNat : Int).tmod 2
  else valN t.mul t.div t.add (rawN t.wide t.swap t.sgn ((List.range t.width.toNat).map fun j => rowAt row (t.addr.toNat + j)))

theorem rowAt_get {row : List UInt16} (h : row ≠ []) (k : Nat) : row[k % row.length]? = some (rowAt row k) := by
  have : k % row.length < row.length := Nat.mod_lt _ (List.length_pos_iff.2 h)
  unfold rowAt
  rw [List.getElem?_eq_getElem this]; rfl

theorem tmod_nat (a m : Nat) : ((a : Int)).tmod (m : Int) = ((a % m : Nat) : Int) := by
  rw [Int.tmod_eq_emod_of_nonneg (by omega)]; exact (Int.natCast_emod a m).symm

theorem snoc_range {α : Type} (f : Nat → α) (k : Nat) : (List.range k).map f ++ [f k] = (List.range (k + 1)).map f := by rw [List.range_succ]; simp

theorem answer_spec (kind : Int) (a k : Nat) (sr : Sl) (row : List UInt16) (hk : 1 ≤ kind ∧ kind ≤ 4) (ha : a ≤ 65535) (hc : k ≤ 2000) (hrow : row ≠ []) :
    Ct Pr F_law10_answer [.agg #[.int .i64 kind, .int .i64 (a : Int), .int .i64 (k : Int), nilS.v, nilS.v, nilS.v], sr.v] .agg [.int .i64, .slice, .slice, .slice] [] (RAr U16 sr row)
      (fun t Bs => t.1 = 0 ∧ t.2.2.2.1 = nilS ∧ Bs = [Ar BL t.2.1 (onL row kind a k), Ar U16 t.2.2.1 (wsL row kind a k)]) := by
  refine spec4 c_law10_answer fun B hr => ?_
  haveI : Fro B sr U16 row := ⟨hr⟩
  have hn := hr.1
  have hpos := List.length_pos_iff.2 hrow
  unfold law10_answer
  refine xnew fun b => xnew fun b1 => xnew fun b2 => ?_
  refine xnone BL (xnone U16 ?_)
  refine xloop1 (fun m (x : Int) As' => ∃ (i : Nat) (s1 s2 : Sl), x = (i : Int) ∧ m = k - i ∧ i ≤ k ∧ As' = [Ar U16 s2 (wsL row kind a i), Ar BL s1 (onL row kind a i), Blk b2 [.int .i64 0, s1.v, s2.v, nilS.v], Blk b1 [.int .i64 0, nilS.v, nilS.v, nilS.v], Blk b [.int .i64 kind, .int .i64 (a : Int), .int .i64 (k : Int), nilS.v, nilS.v, nilS.v]]) k ⟨0, nilS, nilS, rfl, by omega, by omega, by unfold onL wsL; split <;> rfl⟩ ?_
  rintro m x As' K ⟨i, s1, s2, rfl, rfl, hi, rfl⟩ hK
  refine xget (h := xif_dec (fun hp => ?_) (fun hp => ?_))
  rotate_left
  · have : i = k := by omega
    subst this
    refine xget (h := xget (h := xget (h := xget (s := .slice) (x := nilS) (h := ?_))))
    refine xset (h := xset (h := xset (h := xset (h := ?_))))
    refine xget (h := xget (h := xget (h := xget (s := .slice) (x := nilS) (h := ?_))))
    exact xuse [Ar BL s1 (onL row kind a i), Ar U16 s2 (wsL row kind a i)] (xret ⟨rfl, rfl, rfl⟩)
  have hp : i < k := by omega
  have hwr := rowAt_get hrow (a + i)
  refine xget (h := xasrt (by omega) ?_)
  rw [show (a : Int) + (i : Int) = ((a + i : Nat) : Int) by omega, wrap_id ((a + i : Nat) : Int) (by omega) (by omega), ← hn, tmod_nat]
  rw [hn]
  refine xidxn (E := U16) (xs := row) (s := sr) (h1 := by rw [← hn]; exact Nat.mod_lt _ hpos) (h := fun w hw => ?_)
  rw [← hn] at hw ⊢
  obtain rfl : w = rowAt row (a + i) := by rw [hwr] at hw; cases hw; rfl
  refine xgetE (E := U16) (xs := row) hw (h := xget (h := ?_))
  refine xjoin1 (fun (c : Bool) As' => As' = [Ar U16 s2 (wsL row kind a i), Ar BL s1 (onL row kind a i), Blk b2 [.int .i64 0, s1.v, s2.v, nilS.v], Blk b1 [.int .i64 0, nilS.v, nilS.v, nilS.v], Blk b [.int .i64 kind, .int .i64 (a : Int), .int .i64 (k : Int), nilS.v, nilS.v, nilS.v]] ∧ c = decide (kind ≤ 2)) (fun K1 hK1 => xif (fun q => hK1 _ _ ⟨rfl, ?_⟩) (fun q => xget (h := hK1 _ _ ⟨rfl, ?_⟩))) ?_
  · simp at q; rw [q]; rfl
  · rw [Bool.eq_iff_iff]; simp at *; omega
  rintro c As2 ⟨rfl, rfl⟩
  refine xjoin (xif_dec (fun q => xget (h := xasrt (by decide) (xnew fun b3 => ?_))) (fun q => xget (h := xnew fun b4 => ?_)))
  · refine xapp1 (E := BL) (bitAt row (a + i)) (hb := by unfold onL; rw [if_pos q]; simp; omega) (h := fun s3 => xset (h := ?_))
    have e1 : onL row kind a i ++ [bitAt row (a + i)] = onL row kind a (i + 1) := by unfold onL; rw [if_pos q, if_pos q]; exact snoc_range _ _
    have e2 : wsL row kind a i = wsL row kind a (i + 1) := by unfold wsL; rw [if_pos q, if_pos q]
    rw [e1, e2, wrap_succ i (by omega)]
    exact hK _ _ _ (by omega) ⟨i + 1, s3, s2, rfl, rfl, by omega, rfl⟩
  · refine xapp1 (E := U16) (rowAt row (a + i)) (hb := by unfold wsL; rw [if_neg q]; simp; omega) (h := fun s3 => xset (h := ?_))
    have e1 : wsL row kind a i ++ [rowAt row (a + i)] = wsL row kind a (i + 1) := by unfold wsL; rw [if_neg q, if_neg q]; exact snoc_range _ _
    have e2 : onL row kind a i = onL row kind a (i + 1) := by unfold onL; rw [if_neg q, if_neg q]
    rw [e1, e2, wrap_succ i (by omega)]
    exact hK _ _ _ (by omega) ⟨i + 1, s1, s3, rfl, rfl, by omega, rfl⟩

theorem own_spec (t : Tag) (sr : Sl) (row : List UInt16) (ht : tagE t = 0) (hrow : row ≠ []) :
    Ct Pr F_law10_own [t.v, sr.v] .one [.int .i64] [] (RAr U16 sr row) (fun r Bs => r.1 = ownM row t ∧ Bs = []) := by
  refine spec1 c_law10_own fun B hr => ?_
  haveI : Fro B sr U16 row := ⟨hr⟩
  have hn := hr.1
  have hpos := List.length_pos_iff.2 hrow
  have hwd := width_or t
  obtain ⟨_, _, k1, k2, a1, a2, _, _, hsc⟩ := tag_ok ht
  obtain ⟨a, ha⟩ : ∃ a : Nat, t.addr = (a : Int) := ⟨t.addr.toNat, by omega⟩
  have fin : ∀ {x : Int} {As : List HP}, x = ownM row t → Ent B As (Ret B (ss := [.int .i64]) (fun r Bs => r.1 = ownM row t ∧ Bs = []) (x, ())) := fun h => xkeep (l := []) (xret ⟨h, rfl⟩)
  unfold law10_own
  refine xnew fun b => xnone U16 ?_
  refine xloop2 (fun m (out : Sl) (x : Int) As' => ∃ i : Nat, x = (i : Int) ∧ m = t.width.toNat - i ∧ i ≤ t.width.toNat ∧ As' = [Ar U16 out ((List.range i).map fun j => rowAt row (a + j)), Blk b t.cells]) t.width.toNat ⟨0, rfl, by omega, by omega, rfl⟩ ?_
  rintro m out x As' K ⟨i, rfl, rfl, hi, rfl⟩ hK
  iterate 19 (refine xget (h := ?_))
  refine xcall0 (Width_spec t) rdb ?_
  rintro ⟨x, _⟩ _ ⟨hx, rfl⟩
  simp only at hx; subst hx
  refine app0 (ca1 (xif_dec (fun hp => ?_) (fun hp => ?_)))
  · have hwr := rowAt_get hrow (a + i)
    refine xget (h := xasrt (by omega) ?_)
    rw [ha, show (a : Int) + (i : Int) = ((a + i : Nat) : Int) by omega, wrap_id ((a + i : Nat) : Int) (by omega) (by omega), ← hn, tmod_nat]
    rw [hn]
    refine xidxn (E := U16) (xs := row) (s := sr) (h1 := by rw [← hn]; exact Nat.mod_lt _ hpos) (h := fun w hw => ?_)
    rw [← hn] at hw ⊢
    obtain rfl : w = rowAt row (a + i) := by rw [hwr] at hw; cases hw; rfl
    refine xgetE (E := U16) (xs := row) hw (h := xnew fun b1 => ?_)
    refine xapp1 (E := U16) (rowAt row (a + i)) (hb := by simp; omega) (h := fun s3 => ?_)
    rw [snoc_range (fun j => rowAt row (a + j)) i, wrap_succ i (by omega)]
    exact hK _ _ _ _ (by omega) ⟨i + 1, rfl, rfl, by omega, rfl⟩
  have hiw : i = t.width.toNat := by omega
  have hat : t.addr.toNat = a := by omega
  refine xget (h := ?_)
  refine xjoin1 (fun (c : Bool) As' => As' = [Ar U16 out ((List.range i).map fun j => rowAt row (a + j)), Blk b t.cells] ∧ c = decide (t.kind ≤ 2)) (fun K1 hK1 => xif (fun q => hK1 _ _ ⟨rfl, ?_⟩) (fun q => xget (h := hK1 _ _ ⟨rfl, ?_⟩))) ?_
  · simp at q; rw [q]; rfl
  · rw [Bool.eq_iff_iff]; simp at *; omega
  rintro c As2 ⟨rfl, rfl⟩
  refine xif_dec (fun q => ?_) (fun q => ?_)
  · refine xidx (E := U16) (xs := (List.range i).map fun j => rowAt row (a + j)) (s := out) (h0 := by decide) (h1 := by simp; omega) (h := fun w hw => ?_)
    have hw0 : ((List.range i).map fun j => rowAt row (a + j))[(0 : Int).toNat]? = some (rowAt row a) := by
      rw [show (0 : Int).toNat = 0 from rfl, List.getElem?_map, List.getElem?_range (by omega)]; rfl
    refine xgetE (E := U16) hw0 (h := xasrt (by decide) (fin ?_))
    unfold ownM; rw [if_pos q, hat]
    have h9 : ((rowAt row a).toNat : Int).tmod 2 = (((rowAt row a).toNat % 2 : Nat) : Int) := by rw [← tmod_nat]; rfl
    rw [h9]
    exact wrap_id _ (by omega) (by omega)
  · iterate 6 (refine xget (h := ?_))
    have hcl : ((List.range i).map fun j => rowAt row (a + j)).length = if t.wide = true then 2 else 1 := by
      rw [List.length_map, List.length_range, hiw]
      unfold Tag.width
      cases t.wide with
      | false => rfl
      | true => rw [if_pos ⟨rfl, by omega⟩]; rfl
    refine xcall0 (Raw_spec t.wide t.sgn t.swap t.mul t.div t.add out _ hsc hcl) rdb ?_
    rintro ⟨x, y, _⟩ _ ⟨hx, hy, rfl⟩
    simp only at hx hy; subst hx hy
    refine app0 (ca2 ?_)
    iterate 6 (refine xget (h := ?_))
    obtain ⟨q1, q2⟩ := raw_in (sgn := t.sgn) hsc ((List.range i).map fun j => rowAt row (a + j))
    refine xcall0 (Value_spec t.wide t.sgn t.swap t.mul t.div t.add _ hsc q1 q2) rdb ?_
    rintro ⟨x, y, _⟩ _ ⟨hx, hy, rfl⟩
    simp only at hx hy; subst hx hy
    refine app0 (ca2 (fin ?_))
    unfold ownM; rw [if_neg q, hat, ← hiw]

/-! The answers. -/
theorem value_own {row : List UInt16} {t : Tag} {p : Poll} {a k : Nat} (ht : tagE t = 0) (hw : withinT t p = true) (ha : p.addr = (a : Int)) (hk : p.count = (k : Int)) : valueM t p (onL row p.kind a k) (wsL row p.kind a k) = ownM row t := by
  obtain ⟨_, w2, w3, w4⟩ := withinT_iff hw
  have hwd := width_or t
  have hidx : (t.addr - p.addr).toNat + t.width.toNat ≤ k := by omega
  have hsum : a + (t.addr - p.addr).toNat = t.addr.toNat := by omega
  unfold valueM ownM
  by_cases q : t.kind ≤ 2
  · rw [if_pos q, if_pos q]
    have e : onL row p.kind a k = (List.range k).map fun j => bitAt row (a + j) := by unfold onL; rw [if_pos (by omega)]
    rw [e, List.getElem?_map, List.getElem?_range (by omega)]
    simp only [Option.map_some, Option.getD_some, bitAt, hsum, beq_iff_eq]
    have h1 : ((rowAt row t.addr.toNat).toNat : Int).tmod 2 = (((rowAt row t.addr.toNat).toNat % 2 : Nat) : Int) := by rw [← tmod_nat]; rfl
    rw [h1]
    split <;> omega
  · rw [if_neg q, if_neg q]
    congr 2
    unfold wsL
    rw [if_neg (by omega)]
    apply List.ext_getElem?
    intro j
    by_cases hj : j < t.width.toNat
    · rw [List.getElem?_drop, List.getElem?_take_of_lt (by omega), List.getElem?_map, List.getElem?_range (by omega), List.getElem?_map, List.getElem?_range hj]
      simp only [Option.map_some]
      congr 2; omega
    · rw [List.getElem?_eq_none (by simp; omega), List.getElem?_eq_none (by simp; omega)]

def ownK (ts : List Tag) (row : List UInt16) (k : Int) : Int := match tagAt ts k with
  | some t => ownM row t
  | none => 0

theorem goV_own {ts : List Tag} {row : List UInt16} {p : Poll} {a k : Nat} (h0 : (allE ts).1 = 0) (ha : p.addr = (a : Int)) (hk : p.count = (k : Int)) :
    ∀ (ks out : List Int), (∀ v ∈ ks, hasT ts p v) → goV ts p (onL row p.kind a k) (wsL row p.kind a k) ks out = (out ++ ks.map (ownK ts row), 0) := by
  intro ks
  induction ks with
  | nil => intro out _; simp [goV]
  | cons v ks ih =>
    intro out h
    obtain ⟨t, g1, g2, g3, g4, g5, g6⟩ := h v (by simp)
    have hw : withinT t p = true := by unfold withinT; exact decide_eq_true ⟨g2, g3, g5, g6⟩
    have hv0 : ¬ v < 0 := fun h => by unfold tagAt at g1; rw [if_pos h] at g1; cases g1
    have htn : ts[v.toNat]? = some t := by unfold tagAt at g1; rw [if_neg hv0] at g1; exact g1
    have htg := allE_tag h0 htn
    have ho : ownK ts row v = ownM row t := by unfold ownK; rw [g1]
    unfold goV
    rw [g1]
    simp only
    rw [if_pos hw, value_own htg hw ha hk, ih _ (fun u hu => h u (by simp [hu]))]
    simp [ho]

theorem values_own {ts : List Tag} {row : List UInt16} {p : Poll} {a k : Nat} (h0 : (allE ts).1 = 0) (hg : Good ts p) (ha : p.addr = (a : Int)) (hk : p.count = (k : Int)) :
    valuesM ts p 0 (onL row p.kind a k) (wsL row p.kind a k) 0 = (p.tags.map (ownK ts row), 0) := by
  have hx := good_ask hg
  have hkd := hg.kind
  have he : askE p.kind p.addr p.count = 0 := by
    unfold askX at hx; rw [if_neg (by omega)] at hx; exact hx
  have hr : replyE p.kind p.addr p.count 0 (onL row p.kind a k).length (wsL row p.kind a k).length 0 = 0 := by
    unfold replyE
    rw [if_neg (by simp [he]), if_neg (by simp)]
    by_cases q : p.kind ≤ 2
    · have e1 : (onL row p.kind a k).length = k := by unfold onL; rw [if_pos q]; simp
      have e2 : (wsL row p.kind a k).length = 0 := by unfold wsL; rw [if_pos q]; simp
      rw [e1, e2, if_neg (by omega), if_neg (by omega)]
    · have e1 : (onL row p.kind a k).length = 0 := by unfold onL; rw [if_neg q]; simp
      have e2 : (wsL row p.kind a k).length = k := by unfold wsL; rw [if_neg q]; simp
      rw [e1, e2, if_neg (by omega), if_neg (by omega)]
  unfold valuesM
  rw [if_neg (by simp [h0]), if_neg (by simp [hx]), if_neg (by simp [hr]), if_neg (by simp)]
  rw [goV_own h0 ha hk p.tags [] hg.has]
  simp

theorem PlanReads_spec (l sr : Sl) (ts : List Tag) (row : List UInt16) : Ct Pr F_law10_PlanReads [l.v, sr.v] .one [.bool] [] ((RAr TG l ts).and (RAr U16 sr row)) (fun t Bs => t.1 = true ∧ Bs = []) := by
  refine spec1 c_law10_PlanReads fun B hr => ?_
  haveI : Fro B l TG ts := ⟨hr.1⟩
  haveI : Fro B sr U16 row := ⟨hr.2⟩
  have hn := hr.1.1
  have hrn := hr.2.1
  unfold law10_PlanReads
  refine xif (fun h => wk) (fun h4 => ?_)
  have h4 : ¬ l.n > 4096 ∧ ¬ sr.n = 0 := by simp at h4; omega
  have hrow : row ≠ [] := fun e => by subst e; exact h4.2 (by simpa using hrn.symm)
  refine xcall0 (Plan_spec l ts) rdb ?_
  rintro ⟨s, e, _⟩ _ ⟨he, rfl⟩
  simp only at he; subst he
  refine app1 (ca2 (xif (fun h0 => ?_) (fun h0 => ?_)))
  · have h0 : (allE ts).1 ≠ 0 := by simpa using h0
    have e : planM ts = [] := by unfold planM; rw [if_neg h0]
    dsimp only
    rw [e]
    refine xpolls 0 fun rows hrows => ?_
    obtain rfl : rows = [] := by simpa using hrows
    refine xlen s (fun hs _ => ?_)
    refine xjoin (xift (by rw [← hs]; simp) ?_)
    exact wk
  have h0 : (allE ts).1 = 0 := by simpa using h0
  have em : planM ts = planL ts := by unfold planM; rw [if_pos h0]
  dsimp only
  rw [em]
  have hlen := allE_len h0
  have hinv := plan_all h0
  have hflat : (planL ts).flatMap Poll.tags = ordL ts := flat_all h0
  have hpl : (planL ts).length ≤ ts.length := (planK_ok h0 ts.length (Nat.le_refl _)).1
  refine xpolls 0 fun rows hrows => ?_
  refine xlen s (fun hs _ => ?_)
  have hrl : rows.length = (planL ts).length := by rw [← hrows]; simp
  have hrw : ∀ {i : Nat} {q : Poll × Sl}, rows[i]? = some q → (planL ts)[i]? = some q.1 := fun h => by rw [← hrows, List.getElem?_map, h]; rfl
  refine xloop2 (fun m (told : Int) (x : Int) As' => ∃ i : Nat, x = (i : Int) ∧ m = rows.length - i ∧ i ≤ rows.length ∧ told = ((((planL ts).take i).flatMap Poll.tags).length : Int) ∧ As' = [Ar PR s rows, Each EP rows rows]) rows.length ⟨0, rfl, by omega, by omega, rfl, rfl⟩ ?_
  rintro m told x As' K ⟨i, rfl, rfl, hi, rfl, rfl⟩ hK
  refine xif_dec (fun hp => ?_) (fun hp => ?_)
  rotate_left
  · have : i = rows.length := by omega
    subst this
    have hall : (planL ts).take rows.length = planL ts := List.take_of_length_le (by omega)
    rw [hall, hflat]
    refine xjoin (xift ?_ wk)
    rw [← hn]; simp [ordL, ordF_len]
  have hp : i < rows.length := by omega
  refine xidxn (E := PR) (xs := rows) (s := s) (h1 := hp) (h := fun q hq => ?_)
  obtain ⟨p, sp⟩ := q
  have hpi := hrw hq
  have hg := hinv.good p (List.mem_of_getElem? hpi)
  have htl : p.tags.length ≤ ts.length := ((planK_ok h0 ts.length (Nat.le_refl _)).2 p (List.mem_of_getElem? hpi)).2.2.2.2
  have hask := good_ask hg
  have er : askR p = (p.kind, p.addr, p.count) := by unfold askR; rw [if_pos hask]
  obtain ⟨k1, k2, a1, a2, c1, c2, c3, c4⟩ := ask_ok hask
  obtain ⟨a, ha⟩ : ∃ a : Nat, p.addr = (a : Int) := ⟨p.addr.toNat, by omega⟩
  obtain ⟨k, hk⟩ : ∃ k : Nat, p.count = (k : Int) := ⟨p.count.toNat, by omega⟩
  refine xgetE hq (h := ?_)
  iterate 5 (refine xgetEj hq (h := ?_))
  refine xcall0 (Ask_spec p sp) rdb ?_
  rintro t _ ⟨rfl, rfl⟩
  rw [er, hask]
  refine app0 (ca7 (xnew fun b => ?_))
  iterate 6 (refine xset (h := ?_))
  dsimp only
  refine xjoin (xiff rfl (xget (h := xjoin (xiff (by simp; omega) (xget (h := xjoin (xiff (by simp; omega) (xget (h := xjoin (xiff (by simp; omega) (xget (h := xiff (by simp; omega) (xdraw ?_))))))))))))) 
  refine xunf 2 [Ar I64 sp p.tags, Each EP (rows.eraseIdx i) (rows.eraseIdx i)] (fun g hg => each_pick (R := EP) hg hq hq) (app2 ?_)
  refine xlen sp (fun hspn _ => ?_)
  refine xidxn (E := PR) (xs := rows) (s := s) (h1 := hp) (h := fun q' hq' => ?_)
  refine xgetE (E := PR) (xs := rows) hq (h := ?_)
  iterate 5 (refine xgetEj (E := PR) (xs := rows) hq (h := ?_))
  iterate 3 (refine xget (h := ?_))
  iterate 3 (refine xget (s := .slice) (x := nilS) (h := ?_))
  dsimp only
  have hans : Ct Pr F_law10_answer [.agg #[.int .i64 p.kind, .int .i64 p.addr, .int .i64 p.count, nilS.v, nilS.v, nilS.v], sr.v] .agg [.int .i64, .slice, .slice, .slice] [] (RAr U16 sr row)
      (fun t Bs => t.1 = 0 ∧ t.2.2.2.1 = nilS ∧ Bs = [Ar BL t.2.1 (onL row p.kind a k), Ar U16 t.2.2.1 (wsL row p.kind a k)]) := by
    rw [ha, hk]; exact answer_spec p.kind a k sr row ⟨k1, k2⟩ (by omega) (by omega) hrow
  refine xcall0 hans rdb ?_
  rintro ⟨r5, s9, s10, s11, _⟩ _ ⟨hr5, hs11, rfl⟩
  simp only at hr5 hs11; subst hr5 hs11
  refine app2 (ca4 ?_)
  refine xchkE (E := PR) (xs := rows) hq (h := ?_)
  iterate 5 (refine xchkEj (E := PR) (xs := rows) hq (h := ?_))
  refine xlen s10 (fun _ hcap => ?_)
  refine xcall0 (Values_spec l ts p sp 0 s9 s10 nilS (onL row p.kind a k) (wsL row p.kind a k) hcap (by omega)) rdb ?_
  rintro ⟨s12, r6, _⟩ _ ⟨he6, rfl⟩
  have hv : valuesM ts p 0 (onL row p.kind a k) (wsL row p.kind a k) nilS.n = (p.tags.map (ownK ts row), 0) := values_own h0 hg ha hk
  rw [hv] at he6 ⊢
  simp only at he6; subst he6
  refine app1 (ca2 (xjoin (xiff rfl ?_)))
  dsimp only
  refine xidxn (E := PR) (xs := rows) (s := s) (h1 := hp) (h := fun q' hq' => ?_)
  refine xgetEj (E := PR) (xs := rows) hq (h := ?_)
  dsimp only
  refine xlen s12 (fun h12 _ => ?_)
  have h12 : s12.n = p.tags.length := by simpa using h12.symm
  refine xiff (by rw [h12, hspn]; simp) ?_
  refine xuse [Ar I64 s12 (p.tags.map (ownK ts row)), Ar I64 sp p.tags, Each EP (rows.eraseIdx i) (rows.eraseIdx i), Ar PR s rows] ?_
  have htake : (planL ts).take (i + 1) = (planL ts).take i ++ [p] := (take_snoc hpi).symm
  have hLb : (((planL ts).take i).flatMap Poll.tags).length ≤ ts.length := by
    have e := congrArg List.length hflat
    have e1 : (planL ts).flatMap Poll.tags = ((planL ts).take i).flatMap Poll.tags ++ ((planL ts).drop i).flatMap Poll.tags := by rw [← List.flatMap_append, List.take_append_drop]
    rw [e1, List.length_append] at e
    have e2 : (ordL ts).length = ts.length := by simp [ordL, ordF_len]
    omega
  have hLn : (((planL ts).take (i + 1)).flatMap Poll.tags).length = (((planL ts).take i).flatMap Poll.tags).length + p.tags.length := by
    rw [htake, List.flatMap_append]; simp
  generalize (((planL ts).take i).flatMap Poll.tags).length = n0 at hLb hLn ⊢
  refine xloop2 (fun m (told : Int) (x : Int) As' => ∃ j : Nat, x = (j : Int) ∧ m = p.tags.length - j ∧ j ≤ p.tags.length ∧ told = ((n0 + j : Nat) : Int) ∧ As' = [Ar I64 s12 (p.tags.map (ownK ts row)), Ar I64 sp p.tags, Each EP (rows.eraseIdx i) (rows.eraseIdx i), Ar PR s rows]) p.tags.length ⟨0, rfl, by omega, by omega, rfl, rfl⟩ ?_
  rintro m told x As' K2 ⟨j, rfl, rfl, hj, rfl, rfl⟩ hK2
  refine xif_dec (fun hjp => ?_) (fun hjp => ?_)
  rotate_left
  · have : j = p.tags.length := by omega
    subst this
    refine xfold [Ar I64 sp p.tags, Each EP (rows.eraseIdx i) (rows.eraseIdx i)] (Each EP rows rows) (fun g hg => by have := each_put (R := EP) (xs := rows) (ys := rows) (x := (p, sp)) (y := (p, sp)) hp hp hg; rwa [set_self hq] at this) ?_
    rw [wrap_succ i (by omega), ← hLn]
    exact xuse [Ar PR s rows, Each EP rows rows] (hK _ _ _ _ (by omega) ⟨i + 1, rfl, rfl, by omega, rfl, rfl⟩)
  have hjp : j < p.tags.length := by omega
  refine xidxn (E := PR) (xs := rows) (s := s) (h1 := hp) (h := fun q' hq' => ?_)
  refine xgetEj (E := PR) (xs := rows) hq (h := ?_)
  dsimp only
  refine xidxn (E := I64) (xs := p.tags) (s := sp) (h1 := hjp) (h := fun v hv => ?_)
  refine xgetE (E := I64) (xs := p.tags) hv (h := xdraw (xjoin ?_))
  obtain ⟨t, g1, g2, g3, g4, g5, g6⟩ := hg.has v (List.mem_of_getElem? hv)
  have hv0 : ¬ v < 0 := fun h => by unfold tagAt at g1; rw [if_pos h] at g1; cases g1
  have ho : ownK ts row v = ownM row t := by unfold ownK; rw [g1]
  obtain ⟨n, rfl⟩ : ∃ n : Nat, v = (n : Int) := ⟨v.toNat, by omega⟩
  have ht : ts[n]? = some t := by unfold tagAt at g1; rw [if_neg hv0, Int.toNat_natCast] at g1; exact g1
  have hnl : n < ts.length := (List.getElem?_eq_some_iff.1 ht).1
  have htk := allE_tag h0 ht
  refine xiff (by simp) (xiff (by simp; omega) ?_)
  have hval : (p.tags.map (ownK ts row))[j]? = some (ownM row t) := by rw [List.getElem?_map, hv]; simp [ho]
  refine xidxn (E := I64) (xs := p.tags.map (ownK ts row)) (s := s12) (h1 := by simp; omega) (h := fun y hy => ?_)
  refine xgetE (E := I64) hval (h := ?_)
  refine xidxn (E := TG) (xs := ts) (s := l) (h1 := hnl) (h := fun t' ht' => ?_)
  obtain rfl : t = t' := by rw [ht] at ht'; cases ht'; rfl
  refine xgetE (E := TG) (xs := ts) ht (h := ?_)
  iterate 18 (refine xgetEj (E := TG) (xs := ts) ht (h := ?_))
  refine xcall0 (own_spec t sr row htk hrow) rdb ?_
  rintro ⟨x, _⟩ _ ⟨hx, rfl⟩
  simp only at hx; subst hx
  refine app0 (ca1 (xchkE (E := I64) hval (h := xiff (by simp) ?_)))
  rw [wrap_succ j (by omega), wrap_succ (n0 + j) (by omega)]
  exact hK2 _ _ _ _ (by omega) ⟨j + 1, rfl, rfl, by omega, rfl, rfl⟩

end Go.Cx
