/-
  PlanValues: of any answer to any poll.
-/
import Derived.Test.YtcddiaiemlkmaaaGreatPO
namespace Go.Cx
open Go Go.Cf
set_option linter.unusedVariables false
set_option maxRecDepth 100000
variable {B : Base} {As F : List HP} {α : Type}

/-- Lists of words that may be read; .. of one's own. -/
def RW (s : Sl) (fs : List (List UInt16)) : HP := fun h => ∃ rs : List Sl, RAr SL s rs h ∧ rs.length = fs.length ∧ ∀ (i : Nat) (r : Sl) (b : List UInt16), rs[i]? = some r → fs[i]? = some b → RAr U16 r b h
theorem RW.mono {s : Sl} {fs : List (List UInt16)} {h g : Frag} (hr : RW s fs h) (hs : Sub h g) : RW s fs g := by
  obtain ⟨rs, h1, h2, h3⟩ := hr
  exact ⟨rs, h1.mono hs, h2, fun i r b hi hb => (h3 i r b hi hb).mono hs⟩
def OW (s : Sl) (fs : List (List UInt16)) : HP := fun h => ∃ rs : List Sl, star [Ar SL s rs, Each (Ar U16) rs fs] h
theorem OW.read {s : Sl} {fs : List (List UInt16)} {h : Frag} (hr : OW s fs h) : RW s fs h := by
  obtain ⟨rs, a, b, pa, ⟨c, d, pc, _, _, sc, _⟩, _, sa, sb⟩ := hr
  exact ⟨rs, pa.read.mono sa, pc.length, fun i r bs hi hb => (each_read (S := RAr U16) (fun _ _ _ _ h s => h.mono s) (fun _ _ _ h => h.read) pc hi hb).mono (sc.trans sb)⟩
instance Rdb.ow (s : Sl) (fs : List (List UInt16)) : Rdb B (OW s fs :: F) (RW s fs) := ⟨fun g _ hF ⟨_, _, pa, _, _, sa, _⟩ c => pa.read.mono (sa.trans c)⟩

theorem CopyWordsBig (s : Sl) (ws : List UInt16) (hb : ws.length ≤ 70368744175616) : Ct Pr F_kit_CopyWords [s.v] .one [.slice] [] (RAr U16 s ws) (fun t Bs => Bs = [Ar U16 t.1 ws]) := by
  refine spec1 c_kit_CopyWords fun B hr => ?_
  haveI : Fro B s U16 ws := ⟨hr⟩
  have hn := hr.1
  unfold kit_CopyWords
  refine xnone U16 ?_
  refine xloop2 (fun n (out : Sl) (x : Int) As' => ∃ k : Nat, x = (k : Int) ∧ n = ws.length - k ∧ k ≤ ws.length ∧ As' = [Ar U16 out (ws.take k)]) ws.length ⟨0, rfl, by omega, by omega, by simp⟩ ?_
  rintro n out x As' K ⟨k, rfl, rfl, hk, rfl⟩ hK
  refine xif_dec (fun hp => ?_) (fun hp => ?_)
  · refine xidxn (h1 := by omega) (h := fun x hx => ?_)
    refine xgetE hx (h := xnew fun b => ?_)
    refine xapp1 (E := U16) x (hb := by simp; omega) (h := fun s' => ?_)
    rw [wrap_succ k (by omega), take_snoc hx]
    exact hK _ _ _ _ (by omega) ⟨k + 1, rfl, rfl, by omega, rfl⟩
  · obtain rfl : k = ws.length := by omega
    rw [List.take_length]
    exact xret rfl

theorem SameWordsBig (a b : Sl) (xs : List UInt16) (hb : xs.length ≤ 70368744175616) : Ct Pr F_kit_SameWords [a.v, b.v] .one [.bool] [] ((RAr U16 a xs).and (RAr U16 b xs)) (fun t Bs => t.1 = true ∧ Bs = []) := by
  refine spec1 c_kit_SameWords fun B hr => ?_
  haveI : Fro B a U16 xs := ⟨hr.1⟩
  have h1 := hr.1.1
  have h2 := hr.2.1
  unfold kit_SameWords
  refine xiff (by rw [← h1, ← h2]; simp) ?_
  refine xloop1 (fun n (x : Int) As' => ∃ k : Nat, x = (k : Int) ∧ n = xs.length - k ∧ k ≤ xs.length ∧ As' = []) xs.length ⟨0, rfl, by omega, by omega, rfl⟩ ?_
  rintro n x As' K ⟨k, rfl, rfl, hk, rfl⟩ hK
  refine xif_dec (fun hp => xdraw ?_) (fun hp => xret ⟨rfl, rfl⟩)
  refine xidxn (h1 := by omega) (h := fun x hx => ?_)
  refine xgetE hx (h := ?_)
  haveI : Fro B b U16 xs := ⟨hr.2⟩
  refine xidxn (h1 := by omega) (h := fun y hy => ?_)
  obtain rfl : x = y := by rw [hx] at hy; cases hy; rfl
  refine xgetE hx (h := ?_)
  refine xiff (by simp) ?_
  rw [wrap_succ k (by omega)]
  exact hK _ _ _ (by omega) ⟨k + 1, rfl, rfl, by omega, rfl⟩

theorem SameFiles_spec (a b : Sl) (fs : List (List UInt16)) (hn : fs.length ≤ 1000) (hb : ∀ f ∈ fs, f.length ≤ 70368744175616) : Ct Pr F_kit_SameFiles [a.v, b.v] .one [.bool] [] ((RW a fs).and (RW b fs)) (fun t Bs => t.1 = true ∧ Bs = []) := by
  refine spec1 c_kit_SameFiles fun B hr => ?_
  obtain ⟨⟨ra, a1, a2, a3⟩, ⟨rb, b1, b2, b3⟩⟩ := hr
  haveI : Fro B a SL ra := ⟨a1⟩
  have h1 := a1.1
  have h2 := b1.1
  unfold kit_SameFiles
  refine xiff (by rw [← h1, ← h2, a2, b2]; simp) ?_
  refine xloop1 (fun n (x : Int) As' => ∃ k : Nat, x = (k : Int) ∧ n = fs.length - k ∧ k ≤ fs.length ∧ As' = []) fs.length ⟨0, rfl, by omega, by omega, rfl⟩ ?_
  rintro n x As' K ⟨k, rfl, rfl, hk, rfl⟩ hK
  refine xif_dec (fun hp => xdraw ?_) (fun hp => xret ⟨rfl, rfl⟩)
  obtain ⟨f, hf⟩ : ∃ f, fs[k]? = some f := ⟨_, List.getElem?_eq_getElem (by omega)⟩
  refine xidxn (h1 := by omega) (h := fun x hx => ?_)
  refine xgetE hx (h := ?_)
  haveI : Fro B b SL rb := ⟨b1⟩
  refine xidxn (h1 := by omega) (h := fun y hy => ?_)
  refine xgetE hy (h := ?_)
  haveI : Fro B x U16 f := ⟨a3 k x f hx hf⟩
  haveI f2 : Fro B y U16 f := ⟨b3 k y f hy hf⟩
  refine xcall0 (SameWordsBig x y f (hb f (List.mem_of_getElem? hf))) (rds_of fun g a hF p q => ⟨(a3 k x f hx hf).mono a, (b3 k y f hy hf).mono a⟩) ?_
  rintro ⟨c, _⟩ _ ⟨hc, rfl⟩
  obtain rfl : c = true := hc
  refine app0 (ca1 (xiff rfl ?_))
  rw [wrap_succ k (by omega)]
  exact hK _ _ _ (by omega) ⟨k + 1, rfl, rfl, by omega, rfl⟩

theorem LongReply_spec (exc : Int) (r1 r2 r3 : Sl) (rs : List Sl) : Ct Pr F_kit_LongReply [.agg #[.int .i64 exc, r1.v, r2.v, r3.v]] .one [.bool] [] (RAr SL r3 rs) (fun t Bs => (t.1 = false → r1.n ≤ 70000 ∧ r2.n ≤ 70000 ∧ r3.n ≤ 1000) ∧ Bs = []) := by
  refine spec1 c_kit_LongReply fun B hr => ?_
  haveI : Fro B r3 SL rs := ⟨hr⟩
  have hn := hr.1
  have no : ∀ {As : List HP}, Ent B As (Ret B (ss := [.bool]) (fun t Bs => (t.1 = false → r1.n ≤ 70000 ∧ r2.n ≤ 70000 ∧ r3.n ≤ 1000) ∧ Bs = []) (true, ())) := fun {As} => xkeep (l := []) (xret ⟨fun h => (by cases h), rfl⟩)
  unfold kit_LongReply
  refine xnew fun b => ?_
  refine xget (h := ?_)
  repeat' (first | refine xjoin ?_ | refine xift rfl ?_ | refine xiff rfl ?_ | exact no | refine xget (h := ?_) | refine xif (fun h0 => ?_) (fun h0 => ?_))
  have ok : r1.n ≤ 70000 ∧ r2.n ≤ 70000 ∧ r3.n ≤ 1000 := by simp only [decide_eq_false_iff_not] at *; omega
  refine xloop2 (fun n (m : Int) (x : Int) As' => ∃ k : Nat, x = (k : Int) ∧ n = rs.length - k ∧ k ≤ rs.length ∧ As' = [Blk b [.int .i64 exc, r1.v, r2.v, r3.v]]) rs.length ⟨0, rfl, by omega, by omega, rfl⟩ ?_
  rintro n m x As' K ⟨k, rfl, rfl, hk, rfl⟩ hK
  refine xget (h := xif_dec (fun hp => xget (h := ?_)) (fun hp => xkeep (l := []) (xret ⟨fun _ => ok, rfl⟩)))
  refine xidxn (h1 := by omega) (h := fun y hy => ?_)
  refine xgetE hy (h := xif (fun h => no) (fun h => ?_))
  rw [wrap_succ k (by omega)]
  exact hK _ _ _ _ (by omega) ⟨k + 1, rfl, rfl, by omega, rfl⟩

theorem CopyReply_spec (exc : Int) (r1 r2 r3 : Sl) (on : List Bool) (ws : List UInt16) (fs : List (List UInt16)) (ho : on.length ≤ 70000) (hw : ws.length ≤ 70000) (hn : fs.length ≤ 1000) (hb : ∀ f ∈ fs, f.length ≤ 70368744175616) :
    Ct Pr F_kit_CopyReply [.agg #[.int .i64 exc, r1.v, r2.v, r3.v]] .agg [.int .i64, .slice, .slice, .slice] [] ((RAr BL r1 on).and ((RAr U16 r2 ws).and (RW r3 fs)))
      (fun t Bs => t.1 = exc ∧ Bs = [Ar BL t.2.1 on, Ar U16 t.2.2.1 ws, OW t.2.2.2.1 fs]) := by
  refine spec4 c_kit_CopyReply fun B hr => ?_
  obtain ⟨q1, q2, rs, q3, q4, q5⟩ := hr
  haveI : Fro B r1 BL on := ⟨q1⟩
  haveI : Fro B r2 U16 ws := ⟨q2⟩
  haveI : Fro B r3 SL rs := ⟨q3⟩
  have h3n := q3.1
  unfold kit_CopyReply
  refine xnew fun b => xnew fun b1 => xget (h := ?_)
  refine xcall0 (CopyBools_spec r1 on (by omega)) rdb ?_
  rintro ⟨s1, _⟩ _ rfl
  refine app1 (ca1 (xset (h := xget (h := ?_))))
  refine xcall0 (CopyWordsBig r2 ws (by omega)) rdb ?_
  rintro ⟨s3, _⟩ _ rfl
  refine app1 (ca1 (xset (h := ?_)))
  refine xnone SL (xadd (A := Each (Ar U16) [] []) trivial ?_)
  refine xloop2 (fun n (files : Sl) (x : Int) As' => ∃ (k : Nat) (os : List Sl), x = (k : Int) ∧ n = fs.length - k ∧ k ≤ fs.length ∧ os.length = k ∧ As' = [Each (Ar U16) os (fs.take k), Ar SL files os, Ar U16 s3 ws, Ar BL s1 on, Blk b1 [.int .i64 0, .slice none 0 0, .slice none 0 0, .slice none 0 0], Blk b [.int .i64 exc, s1.v, s3.v, r3.v]]) fs.length ⟨0, [], rfl, by omega, by omega, rfl, rfl⟩ ?_
  rintro n files x As' K ⟨k, os, rfl, rfl, hk, hol, rfl⟩ hK
  refine xget (h := xif_dec (fun hp => xget (h := ?_)) (fun hp => ?_))
  · obtain ⟨f, hf⟩ : ∃ f, fs[k]? = some f := ⟨_, List.getElem?_eq_getElem (by omega)⟩
    refine xidxn (E := SL) (xs := rs) (s := r3) (h1 := by omega) (h := fun y hy => ?_)
    refine xgetE (E := SL) (xs := rs) hy (h := ?_)
    haveI : Fro B y U16 f := ⟨q5 k y f hy hf⟩
    refine xcall0 (CopyWordsBig y f (hb f (List.mem_of_getElem? hf))) rdb ?_
    rintro ⟨s7, _⟩ _ rfl
    refine app1 (ca1 (xnew fun b2 => ?_))
    refine xapp1 (E := SL) s7 (hb := by omega) (h := fun s8 => ?_)
    refine xfold [Each (Ar U16) os (fs.take k), Ar U16 s7 f] (Each (Ar U16) (os ++ [s7]) (fs.take k ++ [f])) (fun g hg => each_snoc hg) ?_
    rw [take_snoc hf, wrap_succ k (by omega)]
    refine xuse [Each (Ar U16) (os ++ [s7]) (fs.take (k + 1)), Ar SL s8 (os ++ [s7]), Ar U16 s3 ws, Ar BL s1 on, Blk b1 [.int .i64 0, .slice none 0 0, .slice none 0 0, .slice none 0 0], Blk b [.int .i64 exc, s1.v, s3.v, r3.v]] ?_
    exact hK _ _ _ _ (by omega) ⟨k + 1, _, rfl, rfl, by omega, by simp [hol], rfl⟩
  · obtain rfl : k = fs.length := by omega
    rw [List.take_length]
    refine xset (h := ?_)
    iterate 4 (refine xget (h := ?_))
    iterate 4 (refine xset (h := ?_))
    iterate 4 (refine xget (h := ?_))
    refine xfold [Ar SL files os, Each (Ar U16) os fs] (OW files fs) (fun g hg => ⟨os, hg⟩) ?_
    exact xuse [Ar BL s1 on, Ar U16 s3 ws, OW files fs] (xret ⟨rfl, rfl⟩)

theorem SameReply_spec (exc : Int) (a1 a2 a3 b1 b2 b3 : Sl) (on : List Bool) (ws : List UInt16) (fs : List (List UInt16)) (ho : on.length ≤ 70000) (hw : ws.length ≤ 70000) (hn : fs.length ≤ 1000) (hb : ∀ f ∈ fs, f.length ≤ 70368744175616) :
    Ct Pr F_kit_SameReply [.agg #[.int .i64 exc, a1.v, a2.v, a3.v], .agg #[.int .i64 exc, b1.v, b2.v, b3.v]] .one [.bool] []
      (((RAr BL a1 on).and ((RAr U16 a2 ws).and (RW a3 fs))).and ((RAr BL b1 on).and ((RAr U16 b2 ws).and (RW b3 fs)))) (fun t Bs => t.1 = true ∧ Bs = []) := by
  refine spec1 c_kit_SameReply fun B hr => ?_
  obtain ⟨⟨p1, p2, p3⟩, q1, q2, q3⟩ := hr
  unfold kit_SameReply
  refine xnew fun b => xnew fun b1' => ?_
  iterate 2 (refine xget (h := ?_))
  refine xjoin (xift (by simp) ?_)
  iterate 2 (refine xget (h := ?_))
  refine xcall0 (SameBools_spec a1 b1 on (by omega)) (rds_of fun g a hF p q => ⟨p1.mono a, q1.mono a⟩) ?_
  rintro ⟨c, _⟩ _ ⟨hc, rfl⟩
  obtain rfl : c = true := hc
  refine app0 (ca1 (xjoin (xift rfl ?_)))
  iterate 2 (refine xget (h := ?_))
  refine xcall0 (SameWords_spec a2 b2 ws (by omega)) (rds_of fun g a hF p q => ⟨p2.mono a, q2.mono a⟩) ?_
  rintro ⟨c, _⟩ _ ⟨hc, rfl⟩
  obtain rfl : c = true := hc
  refine app0 (ca1 (xjoin (xift rfl ?_)))
  iterate 2 (refine xget (h := ?_))
  refine xcall0 (SameFiles_spec a3 b3 fs hn hb) (rds_of fun g a hF p q => ⟨p3.mono a, q3.mono a⟩) ?_
  rintro ⟨c, _⟩ _ ⟨hc, rfl⟩
  obtain rfl : c = true := hc
  exact app0 (ca1 (xkeep (l := []) (xret ⟨rfl, rfl⟩)))

theorem goV_len (ts : List Tag) (p : Poll) (on : List Bool) (ws : List UInt16) : ∀ (ks out : List Int), (goV ts p on ws ks out).1.length ≤ out.length + ks.length := by
  intro ks
  induction ks with
  | nil => intro out; simp [goV]
  | cons k ks ih =>
    intro out
    unfold goV
    split
    · simp
    · rename_i t _
      split
      · have := ih (out ++ [valueM t p on ws]); simp at this ⊢; omega
      · simp
theorem valuesM_len (ts : List Tag) (p : Poll) (exc : Int) (on : List Bool) (ws : List UInt16) (nf : Nat) : (valuesM ts p exc on ws nf).1.length ≤ p.tags.length := by
  unfold valuesM
  split
  · simp
  split
  · simp
  split
  · simp
  split
  · simp
  have := goV_len ts p on ws p.tags []
  simpa using this

theorem PlanValues_spec (l : Sl) (ts : List Tag) (p : Poll) (sp : Sl) (exc : Int) (r1 r2 r3 : Sl) (on : List Bool) (ws : List UInt16) (fs : List (List UInt16)) (hc2 : r2.n ≤ r2.c) (hbig : ∀ f ∈ fs, f.length ≤ 70368744175616) :
    Ct Pr F_law10_PlanValues [l.v, .agg #[.int .i64 p.unit, .int .i64 p.kind, .int .i64 p.addr, .int .i64 p.count, .int .i64 p.every, sp.v], .agg #[.int .i64 exc, r1.v, r2.v, r3.v]] .one [.bool] []
      ((RAr TG l ts).and ((RAr I64 sp p.tags).and ((RAr BL r1 on).and ((RAr U16 r2 ws).and (RW r3 fs))))) (fun t Bs => t.1 = true ∧ Bs = []) := by
  refine spec1 c_law10_PlanValues fun B hr => ?_
  obtain ⟨t1, t2, t3, t4, t5⟩ := hr
  haveI : Fro B l TG ts := ⟨t1⟩
  haveI : Fro B sp I64 p.tags := ⟨t2⟩
  haveI : Fro B r1 BL on := ⟨t3⟩
  haveI : Fro B r2 U16 ws := ⟨t4⟩
  haveI : FroP B (RW r3 fs) := ⟨t5, fun _ _ h s => h.mono s⟩
  have hln := t1.1
  have hsn := t2.1
  have h1n := t3.1
  have h2n := t4.1
  obtain ⟨rs, u1, u2, u3⟩ := t5
  haveI : Fro B r3 SL rs := ⟨u1⟩
  have h3n := u1.1
  have wk : ∀ {As : List HP}, Ent B As (XCall Pr F_law10_works [] .one [.bool] fun (c : Bool) => Ret B (ss := [.bool]) (fun t Bs => t.1 = true ∧ Bs = []) (c, ())) := fun {As} => by
    refine xcall0 works_spec rdb ?_
    rintro ⟨x, _⟩ _ ⟨hx, rfl⟩
    simp only at hx; subst hx
    exact app0 (ca1 (xkeep (l := []) (xret ⟨rfl, rfl⟩)))
  unfold law10_PlanValues
  refine xnew fun b => xnew fun b1 => ?_
  refine xjoin (xif (fun h1 => xjoin (xift rfl (xift rfl wk))) (fun h1 => xget (h := xjoin (xif (fun h2 => xift rfl wk) (fun h2 => ?_)))))
  iterate 4 (refine xget (h := ?_))
  refine xcall0 (LongReply_spec exc r1 r2 r3 rs) rdb ?_
  rintro ⟨c, _⟩ _ ⟨hc, rfl⟩
  refine app0 (ca1 (xif (fun h3 => wk) (fun h3 => ?_)))
  obtain ⟨m1, m2, m3⟩ := hc h3
  simp only [decide_eq_false_iff_not] at h1 h2
  have htl : p.tags.length ≤ 4096 := by omega
  have hol : on.length ≤ 70000 := by omega
  have hwl : ws.length ≤ 70000 := by omega
  have hfl : fs.length ≤ 1000 := by omega
  refine xcall0 (LentTags_spec l ts (by omega)) rdb ?_
  rintro ⟨x, _⟩ _ rfl
  refine app1 (ca1 ?_)
  iterate 6 (refine xget (h := ?_))
  refine xnew fun b2 => ?_
  iterate 6 (refine xset (h := ?_))
  refine xget (h := ?_)
  refine xcall0 (LentInts_spec sp p.tags (by omega)) rdb ?_
  rintro ⟨y, _⟩ _ rfl
  refine app1 (ca1 (xset (h := ?_)))
  iterate 4 (refine xget (h := ?_))
  refine xcall0 (CopyReply_spec exc r1 r2 r3 on ws fs hol hwl hfl hbig) rdb ?_
  rintro ⟨e0, z1, z2, z3, _⟩ _ ⟨he0, rfl⟩
  obtain rfl : e0 = exc := he0
  refine app3 (ca4 (xnew fun b3 => ?_))
  iterate 4 (refine xset (h := ?_))
  refine xlen z2 (fun hz2 hz2c => ?_)
  have vl := valuesM_len ts p e0 on ws r3.n
  refine xfact 3 (fun g hg => by obtain ⟨os, a, b, pa, ⟨c, d, pc, _, _, _, _⟩, _, _, _⟩ := hg; exact (show z3.n = r3.n from by have h5 : os.length = z3.n := pa.read.1; have := pc.length; omega)) fun hz3 => ?_
  iterate 10 (refine xget (h := ?_))
  refine xcall0 (Values_spec x ts p y e0 z1 z2 z3 on ws hz2c (by omega)) rdb ?_
  rintro ⟨v1, e1, _⟩ _ ⟨he1, rfl⟩
  simp only at he1
  refine app1 (ca2 ?_)
  iterate 10 (refine xget (h := ?_))
  refine xcall0 (Values_spec x ts p y e0 z1 z2 z3 on ws hz2c (by omega)) rdb ?_
  rintro ⟨v2, e2, _⟩ _ ⟨he2, rfl⟩
  simp only at he2
  refine app1 (ca2 ?_)
  iterate 10 (refine xget (h := ?_))
  refine xcall0 (ValuesRef_spec l ts p sp e0 r1 r2 r3 on ws hc2 (by omega)) rdb ?_
  rintro ⟨v3, e3, _⟩ _ ⟨he3, rfl⟩
  simp only at he3
  rw [hz3] at he1 he2 ⊢
  dsimp only
  generalize valuesM ts p e0 on ws r3.n = V at he1 he2 he3 vl ⊢
  subst he1 he2 he3
  refine app1 (ca2 (xjoin (xiff (by simp) ?_)))
  refine xcall0 (SameInts_spec v1 v3 V.1 (by omega)) rdb ?_
  rintro ⟨c, _⟩ _ ⟨hc, rfl⟩
  obtain rfl : c = true := hc
  refine app0 (ca1 (xjoin (xiff rfl ?_)))
  refine xcall0 (SameInts_spec v2 v3 V.1 (by omega)) rdb ?_
  rintro ⟨c, _⟩ _ ⟨hc, rfl⟩
  obtain rfl : c = true := hc
  refine app0 (ca1 (xjoin (xiff rfl (xget (h := xnew fun b4 => ?_)))))
  refine xfold1 (Q := Ar SL ⟨some ⟨b4, 0, none⟩, 3, 3⟩ [v1, v2, y]) 0 (fun g hg => ⟨[], blk_ar [v1, v2, y] 3 rfl rfl hg⟩) ?_
  refine xfold [Ar I64 v1 V.1, Ar I64 v2 V.1, Ars I64 y p.tags (List.replicate 5 (-77))] (Each (Ar I64) [v1, v2, y] [V.1, V.1, p.tags]) (fun g hg => each_take (R := Ar I64) (x := v1) (y := V.1) (xs := [v2, y]) (ys := [V.1, p.tags]) (fun _ h => h) (fun g hg => each_take (R := Ar I64) (x := v2) (y := V.1) (xs := [y]) (ys := [p.tags]) (fun _ h => h) (fun g hg => each_take (R := Ar I64) (x := y) (y := p.tags) (xs := []) (ys := []) (fun _ h => ⟨_, h⟩) (fun _ _ => trivial) hg) hg) hg) ?_
  refine xcl (ApartInts_spec ⟨some ⟨b4, 0, none⟩, 3, 3⟩ [v1, v2, y] [V.1, V.1, p.tags] (by simp) (fun xs hxs => ?_)) rdb ?_
  · simp only [List.mem_cons, List.not_mem_nil, or_false] at hxs
    rcases hxs with rfl | rfl | rfl <;> omega
  rintro ⟨c, _⟩ _ ⟨hc, rfl⟩
  obtain rfl : c = true := hc
  refine app0 (ca1 (xiff rfl ?_))
  refine xcall0 (KeptTags_spec x l ts (by omega)) rdb ?_
  rintro ⟨c, _⟩ _ ⟨hc, rfl⟩
  obtain rfl : c = true := hc
  refine app0 (ca1 (xjoin (xift rfl ?_)))
  iterate 8 (refine xget (h := ?_))
  refine xcall0 (SameReply_spec e0 z1 z2 z3 r1 r2 r3 on ws fs hol hwl hfl hbig) rdb ?_
  rintro ⟨c, _⟩ _ ⟨hc, rfl⟩
  obtain rfl : c = true := hc
  exact app0 (ca1 (xjoin (xift rfl wk)))

end Go.Cx
