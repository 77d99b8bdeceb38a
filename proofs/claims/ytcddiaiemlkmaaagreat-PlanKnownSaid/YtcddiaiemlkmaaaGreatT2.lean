/-
  Requests and answers of polls: what is wrong with them, by both programs.
  Answers to polls: what is wrong with them, by both programs.
  What words mean: by both programs.
  What numbers mean, and what an answer says of a tag: by both programs.
  What an answer to a poll says of its tags: by both programs.
  What an answer to a poll says: by both programs.
  Lists held against one another; three registers that lie near are one poll.
  What the statements' arguments hold.
-/
import Derived.Test.YtcddiaiemlkmaaaGreatT1
namespace Go.Cx
open Go Go.Cf
set_option linter.unusedVariables false
set_option maxRecDepth 100000
variable {B : Base} {As F : List HP} {α : Type}

theorem spec6 {P : Program} {f : FuncId} {args : List Value} {rs : Rs} {s0 s1 s2 s3 s4 s5 : Sh} {pre : List HP} {rd : HP} {post : Tup [s0, s1, s2, s3, s4, s5] → List HP → Prop} {φ : (s0.ty → s1.ty → s2.ty → s3.ty → s4.ty → s5.ty → WP) → WP} (c : ∀ {K : s0.ty → s1.ty → s2.ty → s3.ty → s4.ty → s5.ty → WP} {w : World}, φ K w → XCall P f args rs [s0, s1, s2, s3, s4, s5] K w)
    (h : ∀ B : Base, rd (frz B.W B.h0) → Ent B pre (φ fun x0 x1 x2 x3 x4 x5 => Ret B post (x0, x1, x2, x3, x4, x5, ()))) : Ct P f args rs [s0, s1, s2, s3, s4, s5] pre rd post := spec_gen (ss := [s0, s1, s2, s3, s4, s5]) c h
theorem ca6 {s0 s1 s2 s3 s4 s5 : Sh} {K : s0.ty → s1.ty → s2.ty → s3.ty → s4.ty → s5.ty → WP} {x0 : s0.ty} {x1 : s1.ty} {x2 : s2.ty} {x3 : s3.ty} {x4 : s4.ty} {x5 : s5.ty} {v : Unit} (h : Ent B As (K x0 x1 x2 x3 x4 x5)) : Ent B As (Cur.app [s0, s1, s2, s3, s4, s5] K (x0, x1, x2, x3, x4, x5, v)) := h
theorem spec7 {P : Program} {f : FuncId} {args : List Value} {rs : Rs} {s0 s1 s2 s3 s4 s5 s6 : Sh} {pre : List HP} {rd : HP} {post : Tup [s0, s1, s2, s3, s4, s5, s6] → List HP → Prop} {φ : (s0.ty → s1.ty → s2.ty → s3.ty → s4.ty → s5.ty → s6.ty → WP) → WP} (c : ∀ {K : s0.ty → s1.ty → s2.ty → s3.ty → s4.ty → s5.ty → s6.ty → WP} {w : World}, φ K w → XCall P f args rs [s0, s1, s2, s3, s4, s5, s6] K w)
    (h : ∀ B : Base, rd (frz B.W B.h0) → Ent B pre (φ fun x0 x1 x2 x3 x4 x5 x6 => Ret B post (x0, x1, x2, x3, x4, x5, x6, ()))) : Ct P f args rs [s0, s1, s2, s3, s4, s5, s6] pre rd post := spec_gen (ss := [s0, s1, s2, s3, s4, s5, s6]) c h
theorem ca7 {s0 s1 s2 s3 s4 s5 s6 : Sh} {K : s0.ty → s1.ty → s2.ty → s3.ty → s4.ty → s5.ty → s6.ty → WP} {x0 : s0.ty} {x1 : s1.ty} {x2 : s2.ty} {x3 : s3.ty} {x4 : s4.ty} {x5 : s5.ty} {x6 : s6.ty} {v : Unit} (h : Ent B As (K x0 x1 x2 x3 x4 x5 x6)) : Ent B As (Cur.app [s0, s1, s2, s3, s4, s5, s6] K (x0, x1, x2, x3, x4, x5, x6, v)) := h
theorem spec19 {P : Program} {f : FuncId} {args : List Value} {rs : Rs} {s0 s1 s2 s3 s4 s5 s6 s7 s8 s9 s10 s11 s12 s13 s14 s15 s16 s17 s18 : Sh} {pre : List HP} {rd : HP} {post : Tup [s0, s1, s2, s3, s4, s5, s6, s7, s8, s9, s10, s11, s12, s13, s14, s15, s16, s17, s18] → List HP → Prop} {φ : (s0.ty → s1.ty → s2.ty → s3.ty → s4.ty → s5.ty → s6.ty → s7.ty → s8.ty → s9.ty → s10.ty → s11.ty → s12.ty → s13.ty → s14.ty → s15.ty → s16.ty → s17.ty → s18.ty → WP) → WP} (c : ∀ {K : s0.ty → s1.ty → s2.ty → s3.ty → s4.ty → s5.ty → s6.ty → s7.ty → s8.ty → s9.ty → s10.ty → s11.ty → s12.ty → s13.ty → s14.ty → s15.ty → s16.ty → s17.ty → s18.ty → WP} {w : World}, φ K w → XCall P f args rs [s0, s1, s2, s3, s4, s5, s6, s7, s8, s9, s10, s11, s12, s13, s14, s15, s16, s17, s18] K w)
    (h : ∀ B : Base, rd (frz B.W B.h0) → Ent B pre (φ fun x0 x1 x2 x3 x4 x5 x6 x7 x8 x9 x10 x11 x12 x13 x14 x15 x16 x17 x18 => Ret B post (x0, x1, x2, x3, x4, x5, x6, x7, x8, x9, x10, x11, x12, x13, x14, x15, x16, x17, x18, ()))) : Ct P f args rs [s0, s1, s2, s3, s4, s5, s6, s7, s8, s9, s10, s11, s12, s13, s14, s15, s16, s17, s18] pre rd post := spec_gen (ss := [s0, s1, s2, s3, s4, s5, s6, s7, s8, s9, s10, s11, s12, s13, s14, s15, s16, s17, s18]) c h
theorem ca19 {s0 s1 s2 s3 s4 s5 s6 s7 s8 s9 s10 s11 s12 s13 s14 s15 s16 s17 s18 : Sh} {K : s0.ty → s1.ty → s2.ty → s3.ty → s4.ty → s5.ty → s6.ty → s7.ty → s8.ty → s9.ty → s10.ty → s11.ty → s12.ty → s13.ty → s14.ty → s15.ty → s16.ty → s17.ty → s18.ty → WP} {x0 : s0.ty} {x1 : s1.ty} {x2 : s2.ty} {x3 : s3.ty} {x4 : s4.ty} {x5 : s5.ty} {x6 : s6.ty} {x7 : s7.ty} {x8 : s8.ty} {x9 : s9.ty} {x10 : s10.ty} {x11 : s11.ty} {x12 : s12.ty} {x13 : s13.ty} {x14 : s14.ty} {x15 : s15.ty} {x16 : s16.ty} {x17 : s17.ty} {x18 : s18.ty} {v : Unit} (h : Ent B As (K x0 x1 x2 x3 x4 x5 x6 x7 x8 x9 x10 x11 x12 x13 x14 x15 x16 x17 x18)) : Ent B As (Cur.app [s0, s1, s2, s3, s4, s5, s6, s7, s8, s9, s10, s11, s12, s13, s14, s15, s16, s17, s18] K (x0, x1, x2, x3, x4, x5, x6, x7, x8, x9, x10, x11, x12, x13, x14, x15, x16, x17, x18, v)) := h

abbrev nilS : Sl := ⟨none, 0, 0⟩
def askE (k addr count : Int) : Int := if addr < 0 ∨ addr > 65535 then 21 else if count < 1 ∨ count > limitK k then 22 else if addr + count > 65536 then 21 else 0
def askX (p : Poll) : Int := if p.kind < 1 ∨ p.kind > 4 then 28 else askE p.kind p.addr p.count
def askR (p : Poll) : Int × Int × Int := if askX p = 0 then (p.kind, p.addr, p.count) else (0, 0, 0)

theorem kinds {k : Int} (h : 1 ≤ k ∧ k ≤ 4) : k = 1 ∨ k = 2 ∨ k = 3 ∨ k = 4 := by omega

theorem shapeOf_spec (k : Int) (hk : 1 ≤ k ∧ k ≤ 4) : Ct Pr F_ask_shapeOf [.int .i64 k] (.tup [some 5, none]) [.int .i64, .bool, .bool, .bool, .bool, .bool] [] emp
    (fun t Bs => t = (limitK k, true, false, false, false, true, ()) ∧ Bs = []) := by
  refine spec6 c_ask_shapeOf fun B _ => ?_
  unfold ask_shapeOf
  rcases kinds hk with rfl | rfl | rfl | rfl
  all_goals
    refine xnew fun b => ?_
    repeat' (first | refine xjoin ?_ | refine xift (by decide) ?_ | refine xiff (by decide) ?_ | refine xset (h := ?_) | refine xget (h := ?_))
    exact xkeep (l := []) (xret ⟨rfl, rfl⟩)

theorem many_spec (m : Int) (a b c : Int) (s1 s2 s3 : Sl) : Ct Pr F_ask_many [.agg #[.int .i64 m, .bool true, .bool false, .bool false, .bool false], .agg #[.int .i64 a, .int .i64 b, .int .i64 c, s1.v, s2.v, s3.v]] .one [.int .i64] [] emp
    (fun t Bs => t.1 = c ∧ Bs = []) := by
  refine spec1 c_ask_many fun B _ => ?_
  unfold ask_many
  refine xnew fun b => xnew fun b1 => ?_
  refine xget (h := xift rfl (xget (h := ?_)))
  exact xkeep (l := []) (xret ⟨rfl, rfl⟩)

theorem AskCheck_spec (k addr count : Int) (hk : 1 ≤ k ∧ k ≤ 4) : Ct Pr F_ask_Check [.agg #[.int .i64 k, .int .i64 addr, .int .i64 count, nilS.v, nilS.v, nilS.v]] .one [.int .i64] [] emp (fun t Bs => t.1 = askE k addr count ∧ Bs = []) := by
  refine spec1 c_ask_Check fun B _ => ?_
  have fin : ∀ {x : Int} {As : List HP}, x = askE k addr count → Ent B As (Ret B (ss := [.int .i64]) (fun r Bs => r.1 = askE k addr count ∧ Bs = []) (x, ())) := fun h => xkeep (l := []) (xret ⟨h, rfl⟩)
  have hlim : limitK k ≤ 2000 := by unfold limitK; split <;> decide
  unfold ask_Check
  refine xnew fun b => xget (h := ?_)
  refine xcall0 (shapeOf_spec k hk) rdb ?_
  rintro t _ ⟨rfl, rfl⟩
  refine app0 (ca6 (xnew fun b1 => ?_))
  iterate 5 (refine xset (h := ?_))
  refine xeq t_ask_Check_2 ?_
  unfold ask_Check_2
  refine xiff rfl ?_
  repeat' (first | refine xjoin ?_ | refine xift (by rfl) ?_ | refine xiff (by rfl) ?_ | refine xget (s := .slice) (x := nilS) (h := ?_) | refine xget (h := ?_))
  refine xif (fun h1 => xift rfl (fin ?_)) (fun h1 => xget (h := xif (fun h1' => fin ?_) (fun h1' => ?_)))
  · unfold askE; rw [if_pos (.inl (by simpa using h1))]
  · unfold askE; rw [if_pos (.inr (by simpa using h1'))]
  have e1 : ¬ (addr < 0 ∨ addr > 65535) := by simp at h1 h1'; omega
  refine xeq t_ask_Check_3 ?_
  unfold ask_Check_3
  iterate 8 (refine xget (h := ?_))
  iterate 3 (refine xget (s := .slice) (x := nilS) (h := ?_))
  refine xcall0 (many_spec _ _ _ _ _ _ _) rdb ?_
  rintro ⟨x, _⟩ _ ⟨hx, rfl⟩
  simp only at hx; rw [hx]
  refine app0 (ca1 (xjoin (xif (fun h2 => xift rfl (fin ?_)) (fun h2 => xget (h := xif (fun h2' => fin ?_) (fun h2' => ?_))))))
  · unfold askE; rw [if_neg e1, if_pos (.inl (by simpa using h2))]
  · unfold askE; rw [if_neg e1, if_pos (.inr (by simpa using h2'))]
  have e2 : ¬ (count < 1 ∨ count > limitK k) := by simp at h2 h2'; omega
  refine xget (h := xjoin (xift rfl (xget (h := ?_))))
  rw [wrap_id _ (by omega) (by omega)]
  refine xif (fun h3 => fin ?_) (fun h3 => ?_)
  · unfold askE; rw [if_neg e1, if_neg e2, if_pos (by simpa using h3)]
  refine xeq t_ask_Check_4 ?_
  unfold ask_Check_4
  refine xget (s := .slice) (x := nilS) (h := ?_)
  refine xloop2 (fun _ (room : Int) (x4 : Int) As' => x4 = 0 ∧ room = 245) 0 ⟨rfl, rfl⟩ ?_
  rintro n room x4 As' K ⟨rfl, rfl⟩ _
  refine xiff (by decide) (xiff (by decide) (fin ?_))
  unfold askE; rw [if_neg e1, if_neg e2, if_neg (by simpa using h3)]

theorem Known_spec (k : Int) : Ct Pr F_ref03_Known [.int .i64 k] .one [.bool] [] emp (fun t Bs => (1 ≤ k ∧ k ≤ 4 → t.1 = true) ∧ Bs = []) := by
  refine spec1 c_ref03_Known fun B _ => ?_
  unfold ref03_Known
  refine xret ⟨fun h => ?_, rfl⟩
  rcases kinds h with rfl | rfl | rfl | rfl <;> decide

theorem field_spec (k addr count : Int) (hk : 1 ≤ k ∧ k ≤ 4) : Ct Pr F_ref03_field [.agg #[.int .i64 k, .int .i64 addr, .int .i64 count, nilS.v, nilS.v, nilS.v]] .one [.bool] [] emp (fun t Bs => t.1 = false ∧ Bs = []) := by
  refine spec1 c_ref03_field fun B _ => ?_
  unfold ref03_field
  rcases kinds hk with rfl | rfl | rfl | rfl
  all_goals
    refine xnew fun b => ?_
    repeat' (first | refine xjoin ?_ | refine xift (by decide) ?_ | refine xiff (by decide) ?_ | refine xget (s := .slice) (x := nilS) (h := ?_) | refine xget (h := ?_))
    exact xkeep (l := []) (xret ⟨by decide, rfl⟩)

theorem Many_spec (k addr count : Int) (hk : 1 ≤ k ∧ k ≤ 4) : Ct Pr F_ref03_Many [.agg #[.int .i64 k, .int .i64 addr, .int .i64 count, nilS.v, nilS.v, nilS.v]] .one [.int .i64] [] emp (fun t Bs => t.1 = count ∧ Bs = []) := by
  refine spec1 c_ref03_Many fun B _ => ?_
  unfold ref03_Many
  rcases kinds hk with rfl | rfl | rfl | rfl
  all_goals
    refine xnew fun b => ?_
    repeat' (first | refine xjoin ?_ | refine xift (by decide) ?_ | refine xiff (by decide) ?_ | refine xget (h := ?_))
    exact xkeep (l := []) (xret ⟨rfl, rfl⟩)

theorem most_spec (k : Int) (hk : 1 ≤ k ∧ k ≤ 4) : Ct Pr F_ref03_most [.int .i64 k] .one [.int .i64] [] emp (fun t Bs => t.1 = limitK k ∧ Bs = []) := by
  refine spec1 c_ref03_most fun B _ => ?_
  unfold ref03_most
  rcases kinds hk with rfl | rfl | rfl | rfl
  all_goals
    repeat' (first | refine xjoin ?_ | refine xift (by decide) ?_ | refine xiff (by decide) ?_)
    exact xret ⟨by decide, rfl⟩

theorem AskRef_spec (k addr count : Int) (hk : 1 ≤ k ∧ k ≤ 4) : Ct Pr F_ref03_Check [.agg #[.int .i64 k, .int .i64 addr, .int .i64 count, nilS.v, nilS.v, nilS.v]] .one [.int .i64] [] emp (fun t Bs => t.1 = askE k addr count ∧ Bs = []) := by
  refine spec1 c_ref03_Check fun B _ => ?_
  have fin : ∀ {x : Int} {As : List HP}, x = askE k addr count → Ent B As (Ret B (ss := [.int .i64]) (fun r Bs => r.1 = askE k addr count ∧ Bs = []) (x, ())) := fun h => xkeep (l := []) (xret ⟨h, rfl⟩)
  have hlim : limitK k ≤ 2000 := by unfold limitK; split <;> decide
  unfold ref03_Check
  refine xnew fun b => xget (h := ?_)
  refine xcall0 (Known_spec k) rdb ?_
  rintro ⟨x, _⟩ _ ⟨hx, rfl⟩
  have hx := hx hk
  simp only at hx; subst hx
  refine app0 (ca1 (xiff rfl ?_))
  iterate 3 (refine xget (h := ?_))
  iterate 3 (refine xget (s := .slice) (x := nilS) (h := ?_))
  refine xcall0 (field_spec k addr count hk) rdb ?_
  rintro ⟨x, _⟩ _ ⟨hx, rfl⟩
  simp only at hx; subst hx
  refine app0 (ca1 (xiff rfl ?_))
  refine xget (h := xjoin (xif (fun h1 => xift rfl (fin ?_)) (fun h1 => xget (h := xif (fun h1' => fin ?_) (fun h1' => ?_)))))
  · unfold askE; rw [if_pos (.inl (by simpa using h1))]
  · unfold askE; rw [if_pos (.inr (by simpa using h1'))]
  have e1 : ¬ (addr < 0 ∨ addr > 65535) := by simp at h1 h1'; omega
  iterate 3 (refine xget (h := ?_))
  iterate 3 (refine xget (s := .slice) (x := nilS) (h := ?_))
  refine xcall0 (Many_spec k addr count hk) rdb ?_
  rintro ⟨x, _⟩ _ ⟨hx, rfl⟩
  simp only at hx; rw [hx]
  refine app0 (ca1 (xjoin (xif (fun h2 => xift rfl (fin ?_)) (fun h2 => xget (h := ?_)))))
  · unfold askE; rw [if_neg e1, if_pos (.inl (by simpa using h2))]
  refine xcall0 (most_spec k hk) rdb ?_
  rintro ⟨y, _⟩ _ ⟨hy, rfl⟩
  simp only at hy; subst hy
  refine app0 (ca1 (xif (fun h2' => fin ?_) (fun h2' => ?_)))
  · unfold askE; rw [if_neg e1, if_pos (.inr (by simpa using h2'))]
  have e2 : ¬ (count < 1 ∨ count > limitK k) := by simp at h2 h2'; omega
  refine xget (h := xiff (by rcases kinds hk with rfl | rfl | rfl | rfl <;> decide) (xget (h := ?_)))
  rw [wrap_id _ (by omega) (by omega)]
  refine xif (fun h3 => fin ?_) (fun h3 => fin ?_)
  · unfold askE; rw [if_neg e1, if_neg e2, if_pos (by simpa using h3)]
  · unfold askE; rw [if_neg e1, if_neg e2, if_neg (by simpa using h3)]

theorem Ask_spec (p : Poll) (sp : Sl) : Ct Pr F_plan_Ask [.agg #[.int .i64 p.unit, .int .i64 p.kind, .int .i64 p.addr, .int .i64 p.count, .int .i64 p.every, sp.v]] (.tup [some 6, none]) [.int .i64, .int .i64, .int .i64, .slice, .slice, .slice, .int .i64] [] emp
    (fun t Bs => t = ((askR p).1, (askR p).2.1, (askR p).2.2, nilS, nilS, nilS, askX p, ()) ∧ Bs = []) := by
  refine spec7 c_plan_Ask fun B _ => ?_
  unfold plan_Ask
  refine xnew fun b => xnew fun b1 => ?_
  have bad : (p.kind < 1 ∨ p.kind > 4) → askX p = 28 ∧ askR p = (0, 0, 0) := fun h => by
    have e : askX p = 28 := by unfold askX; rw [if_pos h]
    exact ⟨e, by unfold askR; rw [e]; rfl⟩
  have out : (p.kind < 1 ∨ p.kind > 4) → ∀ {As : List HP}, Ent B As (Ret B (ss := [.int .i64, .int .i64, .int .i64, .slice, .slice, .slice, .int .i64]) (fun t Bs => t = ((askR p).1, (askR p).2.1, (askR p).2.2, nilS, nilS, nilS, askX p, ()) ∧ Bs = []) (0, 0, 0, nilS, nilS, nilS, 28, ())) := fun h As => by
    obtain ⟨e1, e2⟩ := bad h
    rw [e1, e2]; exact xkeep (l := []) (xret ⟨rfl, rfl⟩)
  refine xget (h := xjoin (xif (fun h => xift rfl ?_) (fun h => xget (h := xif (fun h' => ?_) (fun h' => ?_)))))
  · iterate 6 (refine xset (h := ?_))
    iterate 3 (refine xget (h := ?_))
    iterate 3 (refine xget (s := .slice) (x := nilS) (h := ?_))
    exact out (.inl (by simpa using h))
  · iterate 6 (refine xset (h := ?_))
    iterate 3 (refine xget (h := ?_))
    iterate 3 (refine xget (s := .slice) (x := nilS) (h := ?_))
    exact out (.inr (by simpa using h'))
  have hk : 1 ≤ p.kind ∧ p.kind ≤ 4 := by simp at h h'; omega
  have ex : askX p = askE p.kind p.addr p.count := by unfold askX; rw [if_neg (by omega)]
  iterate 3 (refine xget (h := ?_))
  refine xnew fun b2 => ?_
  iterate 6 (refine xset (h := ?_))
  iterate 3 (refine xget (h := ?_))
  iterate 3 (refine xget (s := .slice) (x := nilS) (h := ?_))
  refine xcall0 (AskCheck_spec _ _ _ hk) rdb ?_
  rintro ⟨x, _⟩ _ ⟨hx, rfl⟩
  simp only at hx; rw [← ex] at hx; subst hx
  refine app0 (ca1 (xif (fun h0 => ?_) (fun h0 => ?_)))
  · have h0 : ¬ askX p = 0 := by simpa using h0
    have e : askR p = (0, 0, 0) := by unfold askR; rw [if_neg h0]
    iterate 6 (refine xset (h := ?_))
    iterate 3 (refine xget (h := ?_))
    iterate 3 (refine xget (s := .slice) (x := nilS) (h := ?_))
    rw [e]; exact xkeep (l := []) (xret ⟨rfl, rfl⟩)
  · have h0 : askX p = 0 := by simpa using h0
    have e : askR p = (p.kind, p.addr, p.count) := by unfold askR; rw [if_pos h0]
    iterate 3 (refine xget (h := ?_))
    iterate 3 (refine xget (s := .slice) (x := nilS) (h := ?_))
    iterate 6 (refine xset (h := ?_))
    iterate 3 (refine xget (h := ?_))
    iterate 3 (refine xget (s := .slice) (x := nilS) (h := ?_))
    rw [e, h0]; exact xkeep (l := []) (xret ⟨rfl, rfl⟩)

theorem AskRef10_spec (p : Poll) (sp : Sl) : Ct Pr F_ref10_Ask [.agg #[.int .i64 p.unit, .int .i64 p.kind, .int .i64 p.addr, .int .i64 p.count, .int .i64 p.every, sp.v]] (.tup [some 6, none]) [.int .i64, .int .i64, .int .i64, .slice, .slice, .slice, .int .i64] [] emp
    (fun t Bs => t = ((askR p).1, (askR p).2.1, (askR p).2.2, nilS, nilS, nilS, askX p, ()) ∧ Bs = []) := by
  refine spec7 c_ref10_Ask fun B _ => ?_
  unfold ref10_Ask
  refine xnew fun b => xnew fun b1 => ?_
  have bad : (p.kind < 1 ∨ p.kind > 4) → askX p = 28 ∧ askR p = (0, 0, 0) := fun h => by
    have e : askX p = 28 := by unfold askX; rw [if_pos h]
    exact ⟨e, by unfold askR; rw [e]; rfl⟩
  have out : (p.kind < 1 ∨ p.kind > 4) → ∀ {As : List HP}, Ent B As (Ret B (ss := [.int .i64, .int .i64, .int .i64, .slice, .slice, .slice, .int .i64]) (fun t Bs => t = ((askR p).1, (askR p).2.1, (askR p).2.2, nilS, nilS, nilS, askX p, ()) ∧ Bs = []) (0, 0, 0, nilS, nilS, nilS, 28, ())) := fun h As => by
    obtain ⟨e1, e2⟩ := bad h
    rw [e1, e2]; exact xkeep (l := []) (xret ⟨rfl, rfl⟩)
  refine xget (h := xjoin (xif (fun h => xift rfl ?_) (fun h => xget (h := xif (fun h' => ?_) (fun h' => ?_)))))
  · iterate 6 (refine xset (h := ?_))
    iterate 3 (refine xget (h := ?_))
    iterate 3 (refine xget (s := .slice) (x := nilS) (h := ?_))
    exact out (.inl (by simpa using h))
  · iterate 6 (refine xset (h := ?_))
    iterate 3 (refine xget (h := ?_))
    iterate 3 (refine xget (s := .slice) (x := nilS) (h := ?_))
    exact out (.inr (by simpa using h'))
  have hk : 1 ≤ p.kind ∧ p.kind ≤ 4 := by simp at h h'; omega
  have ex : askX p = askE p.kind p.addr p.count := by unfold askX; rw [if_neg (by omega)]
  iterate 3 (refine xget (h := ?_))
  refine xnew fun b2 => ?_
  iterate 6 (refine xset (h := ?_))
  iterate 3 (refine xget (h := ?_))
  iterate 3 (refine xget (s := .slice) (x := nilS) (h := ?_))
  refine xcall0 (AskRef_spec _ _ _ hk) rdb ?_
  rintro ⟨x, _⟩ _ ⟨hx, rfl⟩
  simp only at hx; rw [← ex] at hx; subst hx
  refine app0 (ca1 (xif (fun h0 => ?_) (fun h0 => ?_)))
  · have h0 : ¬ askX p = 0 := by simpa using h0
    have e : askR p = (0, 0, 0) := by unfold askR; rw [if_neg h0]
    iterate 6 (refine xset (h := ?_))
    iterate 3 (refine xget (h := ?_))
    iterate 3 (refine xget (s := .slice) (x := nilS) (h := ?_))
    rw [e]; exact xkeep (l := []) (xret ⟨rfl, rfl⟩)
  · have h0 : askX p = 0 := by simpa using h0
    have e : askR p = (p.kind, p.addr, p.count) := by unfold askR; rw [if_pos h0]
    iterate 3 (refine xget (h := ?_))
    iterate 3 (refine xget (s := .slice) (x := nilS) (h := ?_))
    iterate 6 (refine xset (h := ?_))
    iterate 3 (refine xget (h := ?_))
    iterate 3 (refine xget (s := .slice) (x := nilS) (h := ?_))
    rw [e, h0]; exact xkeep (l := []) (xret ⟨rfl, rfl⟩)

end Go.Cx

namespace Go.Cx
open Go Go.Cf
set_option linter.unusedVariables false
set_option maxRecDepth 100000
variable {B : Base} {As F : List HP} {α : Type}

def replyE (k addr count exc : Int) (no ns nf : Nat) : Int :=
  if askE k addr count ≠ 0 then askE k addr count
  else if exc ≠ 0 then (if exc < 1 ∨ exc > 127 then 3 else if no > 0 ∨ ns > 0 ∨ nf > 0 then 23 else 0)
  else if nf > 0 ∨ (k ≤ 2 ∧ ns > 0) ∨ (2 < k ∧ no > 0) then 23
  else if (k ≤ 2 ∧ (no : Int) ≠ count) ∨ (2 < k ∧ (ns : Int) ≠ count) then 22 else 0

theorem foreign_spec (k exc : Int) (r1 r2 r3 : Sl) (hk : 1 ≤ k ∧ k ≤ 4) : Ct Pr F_reply_foreign [.int .i64 k, .agg #[.int .i64 exc, r1.v, r2.v, r3.v]] .one [.bool] [] emp
    (fun t Bs => t.1 = decide (r3.n > 0 ∨ (k ≤ 2 ∧ r2.n > 0) ∨ (2 < k ∧ r1.n > 0)) ∧ Bs = []) := by
  refine spec1 c_reply_foreign fun B _ => ?_
  unfold reply_foreign
  rcases kinds hk with rfl | rfl | rfl | rfl
  all_goals
    refine xnew fun b => xdraw ?_
    repeat' (first | refine xjoin ?_ | refine xift (by decide) ?_ | refine xiff (by decide) ?_ | refine xget (h := ?_))
    refine xkeep (l := []) (xret ⟨?_, rfl⟩)
    rw [Bool.eq_iff_iff]
    simp only [Bool.or_eq_true, decide_eq_true_eq]
    omega

theorem counted_spec (k addr count exc : Int) (r1 r2 r3 : Sl) (hk : 1 ≤ k ∧ k ≤ 4) : Ct Pr F_reply_counted [.agg #[.int .i64 k, .int .i64 addr, .int .i64 count, nilS.v, nilS.v, nilS.v], .agg #[.int .i64 exc, r1.v, r2.v, r3.v]] .one [.bool] [] emp
    (fun t Bs => (!t.1) = decide ((k ≤ 2 ∧ (r1.n : Int) ≠ count) ∨ (2 < k ∧ (r2.n : Int) ≠ count)) ∧ Bs = []) := by
  refine spec1 c_reply_counted fun B _ => ?_
  unfold reply_counted
  rcases kinds hk with rfl | rfl | rfl | rfl
  all_goals
    refine xnew fun b => xnew fun b1 => ?_
    repeat' (first | refine xjoin ?_ | refine xift (by decide) ?_ | refine xiff (by decide) ?_ | refine xget (h := ?_))
    refine xkeep (l := []) (xret ⟨?_, rfl⟩)
    rw [Bool.eq_iff_iff]
    simp

theorem ReplyCheck_spec (k addr count exc : Int) (r1 r2 r3 : Sl) (hk : 1 ≤ k ∧ k ≤ 4) : Ct Pr F_reply_Check [.agg #[.int .i64 k, .int .i64 addr, .int .i64 count, nilS.v, nilS.v, nilS.v], .agg #[.int .i64 exc, r1.v, r2.v, r3.v]] .one [.int .i64] [] emp
    (fun t Bs => t.1 = replyE k addr count exc r1.n r2.n r3.n ∧ Bs = []) := by
  refine spec1 c_reply_Check fun B _ => ?_
  have fin : ∀ {x : Int} {As : List HP}, x = replyE k addr count exc r1.n r2.n r3.n → Ent B As (Ret B (ss := [.int .i64]) (fun t Bs => t.1 = replyE k addr count exc r1.n r2.n r3.n ∧ Bs = []) (x, ())) := fun h => xkeep (l := []) (xret ⟨h, rfl⟩)
  unfold reply_Check
  refine xnew fun b => xnew fun b1 => ?_
  iterate 3 (refine xget (h := ?_))
  iterate 3 (refine xget (s := .slice) (x := nilS) (h := ?_))
  refine xcall0 (AskCheck_spec k addr count hk) rdb ?_
  rintro ⟨x, _⟩ _ ⟨hx, rfl⟩
  simp only at hx; subst hx
  refine app0 (ca1 (xif (fun h0 => fin ?_) (fun h0 => ?_)))
  · unfold replyE; rw [if_pos (by simpa using h0)]
  have h0 : ¬ askE k addr count ≠ 0 := by simpa using h0
  refine xget (h := xif (fun h1 => ?_) (fun h1 => ?_))
  · have h1 : exc ≠ 0 := by simpa using h1
    repeat' (first | refine xjoin ?_ | refine xift rfl ?_ | refine xiff rfl ?_ | refine xget (h := ?_) | refine xif (fun h2 => ?_) (fun h2 => ?_))
    all_goals
      refine fin ?_
      simp only [decide_eq_true_eq, decide_eq_false_iff_not] at *
      unfold replyE
      rw [if_neg h0, if_pos h1]
      first | rw [if_pos (by omega)] | rw [if_neg (by omega), if_pos (by omega)] | rw [if_neg (by omega), if_neg (by omega)]
  have h1 : ¬ exc ≠ 0 := by simpa using h1
  iterate 5 (refine xget (h := ?_))
  refine xcall0 (foreign_spec k exc r1 r2 r3 hk) rdb ?_
  rintro ⟨x, _⟩ _ ⟨hx, rfl⟩
  simp only at hx; subst hx
  refine app0 (ca1 (xif_dec (fun h2 => fin ?_) (fun h2 => ?_)))
  · unfold replyE; rw [if_neg h0, if_neg h1, if_pos h2]
  iterate 3 (refine xget (h := ?_))
  iterate 3 (refine xget (s := .slice) (x := nilS) (h := ?_))
  iterate 4 (refine xget (h := ?_))
  refine xcall0 (counted_spec k addr count exc r1 r2 r3 hk) rdb ?_
  rintro ⟨x, _⟩ _ ⟨hx, rfl⟩
  simp only at hx
  refine app0 (ca1 ?_)
  rw [hx]
  refine xif_dec (fun h3 => fin ?_) (fun h3 => fin ?_)
  · unfold replyE; rw [if_neg h0, if_neg h1, if_neg h2, if_pos h3]
  · unfold replyE; rw [if_neg h0, if_neg h1, if_neg h2, if_neg h3]

theorem bits_spec (k a c : Int) (s1 s2 s3 : Sl) : Ct Pr F_ref04_bits [.agg #[.int .i64 k, .int .i64 a, .int .i64 c, s1.v, s2.v, s3.v]] .one [.bool] [] emp (fun t Bs => t.1 = (k == 1 || k == 2) ∧ Bs = []) := by
  refine spec1 c_ref04_bits fun B _ => ?_
  unfold ref04_bits
  refine xnew fun b => xget (h := xjoin (xif (fun h => xkeep (l := []) (xret ⟨by rw [h]; rfl, rfl⟩)) (fun h => xget (h := xkeep (l := []) (xret ⟨by rw [h]; rfl, rfl⟩)))))
theorem words_spec (k a c : Int) (s1 s2 s3 : Sl) : Ct Pr F_ref04_words [.agg #[.int .i64 k, .int .i64 a, .int .i64 c, s1.v, s2.v, s3.v]] .one [.bool] [] emp (fun t Bs => t.1 = (k == 3 || k == 4) ∧ Bs = []) := by
  refine spec1 c_ref04_words fun B _ => ?_
  unfold ref04_words
  refine xnew fun b => xget (h := xjoin (xif (fun h => xkeep (l := []) (xret ⟨by rw [h]; rfl, rfl⟩)) (fun h => xget (h := xkeep (l := []) (xret ⟨by rw [h]; rfl, rfl⟩)))))
theorem files_spec (k a c : Int) (s1 s2 s3 : Sl) : Ct Pr F_ref04_files [.agg #[.int .i64 k, .int .i64 a, .int .i64 c, s1.v, s2.v, s3.v]] .one [.bool] [] emp (fun t Bs => t.1 = (k == 20) ∧ Bs = []) := by
  refine spec1 c_ref04_files fun B _ => ?_
  unfold ref04_files
  refine xnew fun b => xget (h := xkeep (l := []) (xret ⟨rfl, rfl⟩))

theorem ReplyRef_spec (k addr count exc : Int) (r1 r2 r3 : Sl) (hk : 1 ≤ k ∧ k ≤ 4) : Ct Pr F_ref04_Check [.agg #[.int .i64 k, .int .i64 addr, .int .i64 count, nilS.v, nilS.v, nilS.v], .agg #[.int .i64 exc, r1.v, r2.v, r3.v]] .one [.int .i64] [] emp
    (fun t Bs => t.1 = replyE k addr count exc r1.n r2.n r3.n ∧ Bs = []) := by
  refine spec1 c_ref04_Check fun B _ => ?_
  have fin : ∀ {x : Int} {As : List HP}, x = replyE k addr count exc r1.n r2.n r3.n → Ent B As (Ret B (ss := [.int .i64]) (fun t Bs => t.1 = replyE k addr count exc r1.n r2.n r3.n ∧ Bs = []) (x, ())) := fun h => xkeep (l := []) (xret ⟨h, rfl⟩)
  unfold ref04_Check
  refine xnew fun b => xnew fun b1 => ?_
  iterate 3 (refine xget (h := ?_))
  iterate 3 (refine xget (s := .slice) (x := nilS) (h := ?_))
  refine xcall0 (AskRef_spec k addr count hk) rdb ?_
  rintro ⟨x, _⟩ _ ⟨hx, rfl⟩
  simp only at hx; subst hx
  refine app0 (ca1 (xif (fun h0 => fin ?_) (fun h0 => ?_)))
  · unfold replyE; rw [if_pos (by simpa using h0)]
  have h0 : ¬ askE k addr count ≠ 0 := by simpa using h0
  refine xget (h := xif (fun h1 => ?_) (fun h1 => ?_))
  · have h1 : exc ≠ 0 := by simpa using h1
    repeat' (first | refine xjoin ?_ | refine xift rfl ?_ | refine xiff rfl ?_ | refine xget (h := ?_) | refine xif (fun h2 => ?_) (fun h2 => ?_))
    all_goals
      refine fin ?_
      simp only [decide_eq_true_eq, decide_eq_false_iff_not] at *
      unfold replyE
      rw [if_neg h0, if_pos h1]
      first | rw [if_pos (by omega)] | rw [if_neg (by omega), if_pos (by omega)] | rw [if_neg (by omega), if_neg (by omega)]
  have h1 : ¬ exc ≠ 0 := by simpa using h1
  have ev : ∀ {x : Int}, (x = if r3.n > 0 ∨ (k ≤ 2 ∧ r2.n > 0) ∨ (2 < k ∧ r1.n > 0) then 23 else if (k ≤ 2 ∧ (r1.n : Int) ≠ count) ∨ (2 < k ∧ (r2.n : Int) ≠ count) then 22 else 0) → x = replyE k addr count exc r1.n r2.n r3.n := fun h => by
    unfold replyE; rw [if_neg h0, if_neg h1]; exact h
  have lp : r3.n = 0 → ∀ {φ : WP} {As : List HP}, Ent B As φ → Ent B As φ := fun _ _ _ h => h
  clear h0
  rcases kinds hk with rfl | rfl | rfl | rfl
  all_goals
    refine xget (h := ?_)
    repeat' (first | refine xjoin ?_ | refine xift rfl ?_ | refine xiff rfl ?_ | (refine xift (by decide) ?_) | (refine xiff (by decide) ?_) | (refine xcall0 (bits_spec _ _ _ _ _ _) rdb ?_; rintro ⟨x, _⟩ _ ⟨hx, rfl⟩; simp only at hx; subst hx; refine app0 (ca1 ?_)) | (refine xcall0 (words_spec _ _ _ _ _ _) rdb ?_; rintro ⟨x, _⟩ _ ⟨hx, rfl⟩; simp only at hx; subst hx; refine app0 (ca1 ?_)) | (refine xcall0 (files_spec _ _ _ _ _ _) rdb ?_; rintro ⟨x, _⟩ _ ⟨hx, rfl⟩; simp only at hx; subst hx; refine app0 (ca1 ?_)) | refine xget (h := ?_) | refine xget (s := .slice) (x := nilS) (h := ?_) | refine xif (fun h2 => ?_) (fun h2 => ?_))
  all_goals
    first
    | (refine fin (ev ?_)
       simp only [decide_eq_true_eq, decide_eq_false_iff_not, bne_iff_ne, ne_eq, bne_eq_false_iff_eq] at *
       first | rw [if_pos (by omega)] | rw [if_neg (by omega), if_pos (by omega)])
    | (refine xloop1 (fun _ (i : Int) As' => i = 0 ∧ As' = [Blk b1 [.int .i64 exc, r1.v, r2.v, r3.v], Blk b [.int .i64 _, .int .i64 addr, .int .i64 count, nilS.v, nilS.v, nilS.v]]) 0 ⟨rfl, rfl⟩ ?_
       rintro n i As' K ⟨rfl, rfl⟩ _
       refine xget (h := xiff ?_ (fin (ev ?_)))
       · simp only [decide_eq_true_eq, decide_eq_false_iff_not] at *; omega
       · simp only [decide_eq_true_eq, decide_eq_false_iff_not, bne_iff_ne, ne_eq, bne_eq_false_iff_eq] at *
         rw [if_neg (by omega), if_neg (by omega)])

end Go.Cx

namespace Go.Cx
open Go Go.Cf
set_option linter.unusedVariables false
set_option maxRecDepth 100000
variable {B : Base} {As F : List HP} {α : Type}

def U16 : Enc UInt16 := ⟨fun x => [.int .u16 x.toNat], 1, fun _ => rfl, fun x v h => by simp at h; subst h; rfl, by decide, 0⟩

def rawN (wide swap sgn : Bool) (ws : List UInt16) : Int :=
  let a : Int := ((ws[0]?.getD 0).toNat : Int)
  let b : Int := ((ws[1]?.getD 0).toNat : Int)
  let n : Int := if swap = true then a + b * 65536 else if wide = true then a * 65536 + b else a
  let sp : Int := if wide = true then 4294967296 else 65536
  if sgn = true ∧ 2 * n ≥ sp then n - sp else n

theorem u16_lt (x : UInt16) : (x.toNat : Int) < 65536 := by have := x.toNat_lt; omega

theorem span_spec (wide sgn swap : Bool) (mul div add : Int) : Ct Pr F_scale_span [.agg #[.bool wide, .bool sgn, .bool swap, .int .i64 mul, .int .i64 div, .int .i64 add]] .one [.int .i64] [] emp (fun t Bs => t.1 = (if wide = true then 4294967296 else 65536) ∧ Bs = []) := by
  refine spec1 c_scale_span fun B _ => ?_
  unfold scale_span
  refine xnew fun b => xget (h := xif (fun h => xkeep (l := []) (xret ⟨by rw [if_pos h], rfl⟩)) (fun h => xkeep (l := []) (xret ⟨by rw [h]; rfl, rfl⟩)))
theorem Many06_spec (wide sgn swap : Bool) (mul div add : Int) : Ct Pr F_ref06_Many [.agg #[.bool wide, .bool sgn, .bool swap, .int .i64 mul, .int .i64 div, .int .i64 add]] .one [.int .i64] [] emp (fun t Bs => t.1 = (if wide = true then 4294967296 else 65536) ∧ Bs = []) := by
  refine spec1 c_ref06_Many fun B _ => ?_
  unfold ref06_Many
  refine xnew fun b => xget (h := xif (fun h => xkeep (l := []) (xret ⟨by rw [if_pos h], rfl⟩)) (fun h => xkeep (l := []) (xret ⟨by rw [h]; rfl, rfl⟩)))

theorem e16 : (2 : Int) ^ (min (Int.toNat 16) 64) = 65536 := by decide

theorem two_of {ws : List UInt16} (h : ws.length = 2) : ∃ a b, ws = [a, b] := by
  match ws, h with
  | [a, b], _ => exact ⟨a, b, rfl⟩
theorem one_of {ws : List UInt16} (h : ws.length = 1) : ∃ a, ws = [a] := by
  match ws, h with
  | [a], _ => exact ⟨a, rfl⟩

theorem Raw_spec (wide sgn swap : Bool) (mul div add : Int) (s : Sl) (ws : List UInt16) (h0 : scaleE wide swap mul div add = 0) (hl : ws.length = if wide = true then 2 else 1) :
    Ct Pr F_scale_Raw [.agg #[.bool wide, .bool sgn, .bool swap, .int .i64 mul, .int .i64 div, .int .i64 add], s.v] (.tup [none, none]) [.int .i64, .int .i64] [] (RAr U16 s ws) (fun t Bs => t.1 = rawN wide swap sgn ws ∧ t.2.1 = 0 ∧ Bs = []) := by
  refine spec2 c_scale_Raw fun B hr => ?_
  haveI : Fro B s U16 ws := ⟨hr⟩
  have hn := hr.1
  have fin : ∀ {x : Int} {As : List HP}, x = rawN wide swap sgn ws → Ent B As (Ret B (ss := [.int .i64, .int .i64]) (fun t Bs => t.1 = rawN wide swap sgn ws ∧ t.2.1 = 0 ∧ Bs = []) (x, 0, ())) := fun h => xkeep (l := []) (xret ⟨h, rfl, rfl⟩)
  unfold scale_Raw
  refine xnew fun b => ?_
  iterate 6 (refine xget (h := ?_))
  refine xcall0 (scaleCheck_spec wide sgn swap mul div add) rdb ?_
  rintro ⟨x, _⟩ _ ⟨hx, rfl⟩
  simp only at hx; rw [h0] at hx; subst hx
  refine app0 (ca1 (xiff rfl ?_))
  cases wide with
  | false =>
    have hsw : swap = false := by
      cases swap with
      | false => rfl
      | true => simp [scaleE] at h0
    subst hsw
    obtain ⟨w0, rfl⟩ := one_of (by simpa using hl)
    have b0 := u16_lt w0
    have hn : s.n = 1 := by simpa using hn.symm
    refine xget (h := xjoin (xiff rfl (xget (h := xiff (by rw [hn]; rfl) ?_))))
    refine xidx (E := U16) (h0 := by decide) (h1 := by simp) (h := fun x hx => ?_)
    obtain rfl : w0 = x := by simpa using hx
    refine xgetE hx (h := xget (h := xjoin (xiff rfl (xget (h := xjoin (xiff rfl (xget (h := xjoin ?_))))))))
    have w1 : IntKind.i64.wrap (w0.toNat : Int) = w0.toNat := wrap_id _ (by omega) (by omega)
    rw [w1]
    refine xif (fun h1 => ?_) (fun h1 => xiff rfl (fin ?_))
    · iterate 6 (refine xget (h := ?_))
      refine xcall0 (span_spec _ _ _ _ _ _) rdb ?_
      rintro ⟨x, _⟩ _ ⟨hx, rfl⟩
      simp only at hx; subst hx
      refine app0 (ca1 (xasrt (by decide) (xjoin (xif (fun h2 => ?_) (fun h2 => fin ?_)))))
      · iterate 6 (refine xget (h := ?_))
        refine xcall0 (span_spec _ _ _ _ _ _) rdb ?_
        rintro ⟨x, _⟩ _ ⟨hx, rfl⟩
        simp only at hx; subst hx
        refine app0 (ca1 (fin ?_))
        have h2 : (w0.toNat : Int) ≥ 32768 := of_decide_eq_true h2
        simp only [Bool.false_eq_true, if_false]
        rw [wrap_id _ (by omega) (by omega)]
        simp only [rawN, h1, List.getElem?_cons_zero, Option.getD_some, Bool.false_eq_true, if_false, true_and]
        rw [if_pos (by omega)]
      · have h2 : ¬ (w0.toNat : Int) ≥ 32768 := of_decide_eq_false h2
        simp only [rawN, h1, List.getElem?_cons_zero, Option.getD_some, Bool.false_eq_true, if_false, true_and]
        rw [if_neg (by omega)]
    · simp [rawN, h1]
  | true =>
    obtain ⟨w0, w1, rfl⟩ := two_of (by simpa using hl)
    have b0 := u16_lt w0
    have b1 := u16_lt w1
    have hn : s.n = 2 := by simpa using hn.symm
    refine xget (h := xjoin (xiff (by rw [hn]; rfl) (xget (h := xiff rfl ?_))))
    refine xidx (E := U16) (h0 := by decide) (h1 := by simp) (h := fun x hx => ?_)
    obtain rfl : w0 = x := by simpa using hx
    have q0 : IntKind.i64.wrap (w0.toNat : Int) = w0.toNat := wrap_id _ (by omega) (by omega)
    have q1 : IntKind.i64.wrap (w1.toNat : Int) = w1.toNat := wrap_id _ (by omega) (by omega)
    refine xgetE hx (h := xget (h := ?_))
    refine xjoin1 (fun (x : Int) As' => As' = [Blk b [.bool true, .bool sgn, .bool swap, .int .i64 mul, .int .i64 div, .int .i64 add]] ∧ x = if swap = true then (w0.toNat : Int) + w1.toNat * 65536 else (w0.toNat : Int) * 65536 + w1.toNat) (fun K1 hK1 => ?_) ?_
    · refine xif (fun h1 => ?_) (fun h1 => xget (h := xjoin (xift rfl (xasrt (by decide) ?_))))
      · refine xidx (E := U16) (h0 := by decide) (h1 := by simp) (h := fun y hy => ?_)
        obtain rfl : w1 = y := by simpa using hy
        refine xgetE hy (h := xasrt (by decide) (hK1 _ _ ⟨rfl, ?_⟩))
        rw [q0, q1, e16, wrap_id ((w1.toNat : Int) * 65536) (by omega) (by omega), wrap_id _ (by omega) (by omega), if_pos h1]
      · refine xidx (E := U16) (h0 := by decide) (h1 := by simp) (h := fun y hy => ?_)
        obtain rfl : w1 = y := by simpa using hy
        refine xgetE hy (h := hK1 _ _ ⟨rfl, ?_⟩)
        rw [q0, q1, e16, wrap_id ((w0.toNat : Int) * 65536) (by omega) (by omega), wrap_id _ (by omega) (by omega), if_neg (by rw [h1]; simp)]
    rintro n0 As2 ⟨rfl, hnn⟩
    obtain ⟨n, hn0⟩ : ∃ n : Int, n = n0 := ⟨n0, rfl⟩
    subst hn0
    have hnn : n = if swap = true then (w0.toNat : Int) + w1.toNat * 65536 else (w0.toNat : Int) * 65536 + w1.toNat := hnn
    have hr2 : 0 ≤ n ∧ n < 4294967296 := by rw [hnn]; split <;> omega
    have hraw : rawN true swap sgn [w0, w1] = if sgn = true ∧ 2 * n ≥ 4294967296 then n - 4294967296 else n := by
      simp only [rawN, List.getElem?_cons_zero, List.getElem?_cons_succ, Option.getD_some, if_true, ← hnn]
    refine xget (h := xjoin (xif (fun h1 => ?_) (fun h1 => xiff rfl (fin ?_))))
    · iterate 6 (refine xget (h := ?_))
      refine xcall0 (span_spec _ _ _ _ _ _) rdb ?_
      rintro ⟨x, _⟩ _ ⟨hx, rfl⟩
      simp only at hx; subst hx
      refine app0 (ca1 (xasrt (by decide) (xjoin (xif (fun h2 => ?_) (fun h2 => fin ?_)))))
      · iterate 6 (refine xget (h := ?_))
        refine xcall0 (span_spec _ _ _ _ _ _) rdb ?_
        rintro ⟨x, _⟩ _ ⟨hx, rfl⟩
        simp only at hx; subst hx
        refine app0 (ca1 (fin ?_))
        have h2 : n ≥ 2147483648 := of_decide_eq_true h2
        simp only [if_true]
        rw [wrap_id _ (by omega) (by omega), hraw, if_pos ⟨h1, by omega⟩]
      · have h2 : ¬ n ≥ 2147483648 := of_decide_eq_false h2
        rw [hraw, if_neg (by rintro ⟨_, h⟩; omega)]
    · rw [hraw, if_neg (by rw [h1]; simp)]

theorem RawRef_spec (wide sgn swap : Bool) (mul div add : Int) (s : Sl) (ws : List UInt16) (h0 : scaleE wide swap mul div add = 0) (hl : ws.length = if wide = true then 2 else 1) :
    Ct Pr F_ref06_Raw [.agg #[.bool wide, .bool sgn, .bool swap, .int .i64 mul, .int .i64 div, .int .i64 add], s.v] (.tup [none, none]) [.int .i64, .int .i64] [] (RAr U16 s ws) (fun t Bs => t.1 = rawN wide swap sgn ws ∧ t.2.1 = 0 ∧ Bs = []) := by
  refine spec2 c_ref06_Raw fun B hr => ?_
  haveI : Fro B s U16 ws := ⟨hr⟩
  have hn := hr.1
  have fin : ∀ {x : Int} {As : List HP}, x = rawN wide swap sgn ws → Ent B As (Ret B (ss := [.int .i64, .int .i64]) (fun t Bs => t.1 = rawN wide swap sgn ws ∧ t.2.1 = 0 ∧ Bs = []) (x, 0, ())) := fun h => xkeep (l := []) (xret ⟨h, rfl, rfl⟩)
  unfold ref06_Raw
  refine xnew fun b => ?_
  iterate 6 (refine xget (h := ?_))
  refine xcall0 (scaleRef_spec wide sgn swap mul div add) rdb ?_
  rintro ⟨x, _⟩ _ ⟨hx, rfl⟩
  simp only at hx; rw [h0] at hx; subst hx
  refine app0 (ca1 (xiff rfl (xget (h := xjoin ?_))))
  refine xif (fun hw => xiff ?_ ?_) (fun hw => xiff ?_ ?_)
  · rw [hw] at hl; rw [← hn, hl]; rfl
  · subst hw
    obtain ⟨w0, w1, rfl⟩ := two_of (by simpa using hl)
    have b0 := u16_lt w0
    have b1 := u16_lt w1
    refine xidx (E := U16) (h0 := by decide) (h1 := by simp) (h := fun x hx => ?_)
    obtain rfl : w0 = x := by simpa using hx
    have q0 : IntKind.i64.wrap (w0.toNat : Int) = w0.toNat := wrap_id _ (by omega) (by omega)
    have q1 : IntKind.i64.wrap (w1.toNat : Int) = w1.toNat := wrap_id _ (by omega) (by omega)
    refine xgetE hx (h := xget (h := xjoin (xift rfl (xget (h := ?_)))))
    refine xjoin1 (fun (x : Int) As' => As' = [Blk b [.bool true, .bool sgn, .bool swap, .int .i64 mul, .int .i64 div, .int .i64 add]] ∧ x = if swap = true then (w0.toNat : Int) else (w0.toNat : Int) * 65536 + w1.toNat) (fun K1 hK1 => ?_) ?_
    · refine xif (fun h1 => ?_) (fun h1 => hK1 _ _ ⟨rfl, ?_⟩)
      · refine xidx (E := U16) (h0 := by decide) (h1 := by simp) (h := fun y hy => ?_)
        obtain rfl : w1 = y := by simpa using hy
        refine xgetE hy (h := hK1 _ _ ⟨rfl, ?_⟩)
        rw [q0, q1, wrap_id ((w0.toNat : Int) * 65536) (by omega) (by omega), wrap_id _ (by omega) (by omega), if_neg (by simpa using h1)]
      · rw [q0, if_pos (by simpa using h1)]
    rintro n1 As2 ⟨rfl, hn1⟩
    refine xget (h := ?_)
    refine xjoin1 (fun (x : Int) As' => As' = [Blk b [.bool true, .bool sgn, .bool swap, .int .i64 mul, .int .i64 div, .int .i64 add]] ∧ x = if swap = true then (w0.toNat : Int) + w1.toNat * 65536 else (w0.toNat : Int) * 65536 + w1.toNat) (fun K1 hK1 => ?_) ?_
    · refine xif (fun h1 => ?_) (fun h1 => hK1 _ _ ⟨rfl, ?_⟩)
      · refine xidx (E := U16) (h0 := by decide) (h1 := by simp) (h := fun y hy => ?_)
        obtain rfl : w1 = y := by simpa using hy
        refine xgetE hy (h := hK1 _ _ ⟨rfl, ?_⟩)
        rw [if_pos h1] at hn1
        rw [q1, hn1, wrap_id ((w1.toNat : Int) * 65536) (by omega) (by omega), wrap_id _ (by omega) (by omega), if_pos h1]; omega
      · rw [hn1, if_neg (by rw [h1]; simp), if_neg (by rw [h1]; simp)]
    rintro n0 As2 ⟨rfl, hnn⟩
    obtain ⟨n, hn0⟩ : ∃ n : Int, n = n0 := ⟨n0, rfl⟩
    subst hn0
    have hnn : n = if swap = true then (w0.toNat : Int) + w1.toNat * 65536 else (w0.toNat : Int) * 65536 + w1.toNat := hnn
    have hr2 : 0 ≤ n ∧ n < 4294967296 := by rw [hnn]; split <;> omega
    have hraw : rawN true swap sgn [w0, w1] = if sgn = true ∧ 2 * n ≥ 4294967296 then n - 4294967296 else n := by
      simp only [rawN, List.getElem?_cons_zero, List.getElem?_cons_succ, Option.getD_some, if_true, ← hnn]
    refine xget (h := xjoin (xif (fun h1 => ?_) (fun h1 => xiff rfl (fin ?_))))
    · iterate 6 (refine xget (h := ?_))
      refine xcall0 (Many06_spec _ _ _ _ _ _) rdb ?_
      rintro ⟨x, _⟩ _ ⟨hx, rfl⟩
      simp only at hx; subst hx
      refine app0 (ca1 ?_)
      rw [wrap_id (2 * n) (by omega) (by omega)]
      refine xjoin (xif (fun h2 => ?_) (fun h2 => fin ?_))
      · iterate 6 (refine xget (h := ?_))
        refine xcall0 (Many06_spec _ _ _ _ _ _) rdb ?_
        rintro ⟨x, _⟩ _ ⟨hx, rfl⟩
        simp only at hx; subst hx
        refine app0 (ca1 (fin ?_))
        have h2 : 2 * n ≥ 4294967296 := of_decide_eq_true h2
        simp only [if_true]
        rw [wrap_id _ (by omega) (by omega), hraw, if_pos ⟨h1, by omega⟩]
      · have h2 : ¬ 2 * n ≥ 4294967296 := of_decide_eq_false h2
        rw [hraw, if_neg (by rintro ⟨_, h⟩; omega)]
    · rw [hraw, if_neg (by rw [h1]; simp)]
  · rw [hw] at hl; rw [← hn, hl]; rfl
  · subst hw
    have hsw : swap = false := by
      cases swap with
      | false => rfl
      | true => simp [scaleE] at h0
    subst hsw
    obtain ⟨w0, rfl⟩ := one_of (by simpa using hl)
    have b0 := u16_lt w0
    refine xidx (E := U16) (h0 := by decide) (h1 := by simp) (h := fun x hx => ?_)
    obtain rfl : w0 = x := by simpa using hx
    have q0 : IntKind.i64.wrap (w0.toNat : Int) = w0.toNat := wrap_id _ (by omega) (by omega)
    refine xgetE hx (h := xget (h := xjoin (xiff rfl (xjoin (xiff rfl (xget (h := xjoin (xiff rfl (xget (h := xjoin ?_))))))))))
    rw [q0]
    refine xif (fun h1 => ?_) (fun h1 => xiff rfl (fin ?_))
    · iterate 6 (refine xget (h := ?_))
      refine xcall0 (Many06_spec _ _ _ _ _ _) rdb ?_
      rintro ⟨x, _⟩ _ ⟨hx, rfl⟩
      simp only at hx; subst hx
      refine app0 (ca1 ?_)
      rw [wrap_id (2 * (w0.toNat : Int)) (by omega) (by omega)]
      refine xjoin ?_
      refine xif (fun h2 => ?_) (fun h2 => fin ?_)
      · iterate 6 (refine xget (h := ?_))
        refine xcall0 (Many06_spec _ _ _ _ _ _) rdb ?_
        rintro ⟨x, _⟩ _ ⟨hx, rfl⟩
        simp only at hx; subst hx
        refine app0 (ca1 (fin ?_))
        have h2 : 2 * (w0.toNat : Int) ≥ 65536 := of_decide_eq_true h2
        simp only [Bool.false_eq_true, if_false]
        rw [wrap_id _ (by omega) (by omega)]
        simp only [rawN, h1, List.getElem?_cons_zero, Option.getD_some, Bool.false_eq_true, if_false, true_and]
        rw [if_pos (by omega)]
      · have h2 : ¬ 2 * (w0.toNat : Int) ≥ 65536 := of_decide_eq_false h2
        simp only [rawN, h1, List.getElem?_cons_zero, Option.getD_some, Bool.false_eq_true, if_false, true_and]
        rw [if_neg (by omega)]
    · simp [rawN, h1]

theorem rawN_range (wide swap sgn : Bool) (ws : List UInt16) : -2147483648 ≤ rawN wide swap sgn ws ∧ rawN wide swap sgn ws ≤ 4294967295 ∧ (swap = true → wide = true → True) ∨ (swap = true ∧ wide = false) := by
  have b0 := u16_lt (ws[0]?.getD 0)
  have b1 := u16_lt (ws[1]?.getD 0)
  cases swap <;> cases wide <;> cases sgn <;> simp only [rawN, if_true, Bool.false_eq_true, if_false, true_and, false_and] <;> first | (left; refine ⟨?_, ?_, fun _ _ => trivial⟩ <;> (try split) <;> omega) | (right; trivial)

end Go.Cx

namespace Go.Cx
open Go Go.Cf
set_option linter.unusedVariables false
set_option maxRecDepth 100000
variable {B : Base} {As F : List HP} {α : Type}

def nearN (n d : Int) : Int := if n < 0 then -((2 * (-n) + d) / (2 * d)) else (2 * n + d) / (2 * d)
def clampV (x : Int) : Int := if x < -1099511627776 then -1099511627776 else if x > 1099511627776 then 1099511627776 else x
def valN (mul div add raw : Int) : Int := clampV (nearN (raw * mul) div + add)

theorem near_bound {n d : Int} (hd : 1 ≤ d) (hn : 0 ≤ n) : 0 ≤ (2 * n + d) / (2 * d) ∧ (2 * n + d) / (2 * d) ≤ 2 * n + d :=
  ⟨Int.ediv_nonneg (by omega) (by omega), Int.ediv_le_self _ (by omega)⟩

theorem near_nonneg {m d : Int} (hd : 1 ≤ d) (hm : 0 ≤ m) : (2 * m + d) / (2 * d) = if 2 * (m % d) ≥ d then m / d + 1 else m / d := by
  have h1 := Int.emod_add_mul_ediv m d
  have h2 := Int.emod_nonneg m (show d ≠ 0 by omega)
  have h3 := Int.emod_lt_of_pos m (show 0 < d by omega)
  have e : 2 * m + d = (2 * (m % d) + d) + (m / d) * (2 * d) := by
    have : (m / d) * (2 * d) = 2 * (d * (m / d)) := by rw [Int.mul_comm, Int.mul_assoc]
    rw [this]; omega
  rw [e, Int.add_mul_ediv_right _ _ (by omega)]
  split
  · rename_i h
    have e2 : 2 * (m % d) + d = (2 * (m % d) - d) + 1 * (2 * d) := by omega
    rw [e2, Int.add_mul_ediv_right _ _ (by omega), Int.ediv_eq_zero_of_lt (by omega) (by omega)]
    omega
  · rename_i h
    rw [Int.ediv_eq_zero_of_lt (by omega) (by omega)]
    omega

theorem near_spec0 (n d : Int) (hn : 0 ≤ n) (hn2 : n ≤ 1152921504606846976) (hd : 1 ≤ d) (hd2 : d ≤ 1000000) : Ct Pr F_scale_nearest [.int .i64 n, .int .i64 d] .one [.int .i64] [] emp (fun t Bs => t.1 = nearN n d ∧ Bs = []) := by
  refine spec1 c_scale_nearest fun B _ => ?_
  unfold scale_nearest
  have hb := near_bound hd hn
  refine xiff (by simpa using hn) ?_
  rw [wrap_id (2 * d) (by omega) (by omega), wrap_id (2 * n) (by omega) (by omega), wrap_id (2 * n + d) (by omega) (by omega), Int.tdiv_eq_ediv_of_nonneg (by omega), wrap_id _ (by omega) (by omega)]
  refine xasrt (by omega) (xret ⟨?_, rfl⟩)
  unfold nearN; rw [if_neg (by omega)]

theorem near_spec (n d : Int) (hn : -1152921504606846976 ≤ n) (hn2 : n ≤ 1152921504606846976) (hd : 1 ≤ d) (hd2 : d ≤ 1000000) : Ct Pr F_scale_nearest [.int .i64 n, .int .i64 d] .one [.int .i64] [] emp (fun t Bs => t.1 = nearN n d ∧ Bs = []) := by
  by_cases h : 0 ≤ n
  · exact near_spec0 n d h hn2 hd hd2
  refine spec1 c_scale_nearest fun B _ => ?_
  unfold scale_nearest
  have hb := near_bound hd (show 0 ≤ -n by omega)
  refine xift (by simp; omega) ?_
  rw [wrap_id (0 - n) (by omega) (by omega)]
  refine xcall0 (near_spec0 (0 - n) d (by omega) (by omega) hd hd2) rdb ?_
  rintro ⟨x, _⟩ _ ⟨hx, rfl⟩
  simp only at hx; subst hx
  refine app0 (ca1 (xret ⟨?_, rfl⟩))
  show IntKind.i64.wrap (0 - nearN (0 - n) d) = nearN n d
  unfold nearN
  rw [if_neg (by omega), if_pos (by omega), show (0 - n) = -n by omega, wrap_id _ (by omega) (by omega)]
  omega

theorem nearRef_spec (n d : Int) (hn : -1152921504606846976 ≤ n) (hn2 : n ≤ 1152921504606846976) (hd : 1 ≤ d) (hd2 : d ≤ 1000000) : Ct Pr F_ref06_Nearest [.int .i64 n, .int .i64 d] .one [.int .i64] [] emp (fun t Bs => t.1 = nearN n d ∧ Bs = []) := by
  refine spec1 c_ref06_Nearest fun B _ => ?_
  unfold ref06_Nearest
  refine xasrt (by omega) (xasrt (by omega) ?_)
  by_cases h : 0 ≤ n
  · have h2 := Int.emod_nonneg n (show d ≠ 0 by omega)
    have h3 := Int.emod_lt_of_pos n (show 0 < d by omega)
    have h4 : 0 ≤ n / d := Int.ediv_nonneg h (by omega)
    have h5 : n / d ≤ n := Int.ediv_le_self _ h
    rw [Int.tdiv_eq_ediv_of_nonneg h, Int.tmod_eq_emod_of_nonneg h, wrap_id (n / d) (by omega) (by omega), wrap_id (2 * (n % d)) (by omega) (by omega), wrap_id (n / d + 1) (by omega) (by omega), wrap_id (n / d - 1) (by omega) (by omega), wrap_id (0 - d) (by omega) (by omega)]
    have e : nearN n d = if 2 * (n % d) ≥ d then n / d + 1 else n / d := by unfold nearN; rw [if_neg (by omega), near_nonneg hd h]
    refine xif_dec (fun q => xret ⟨?_, rfl⟩) (fun q => xif_dec (fun q' => ?_) (fun q' => xret ⟨?_, rfl⟩))
    · rw [e, if_pos q]
    · omega
    · rw [e, if_neg q]
  · obtain ⟨m, rfl⟩ : ∃ m : Int, n = -m := ⟨-n, by omega⟩
    have hm : 0 ≤ m := by omega
    have h2 := Int.emod_nonneg m (show d ≠ 0 by omega)
    have h3 := Int.emod_lt_of_pos m (show 0 < d by omega)
    have h4 : 0 ≤ m / d := Int.ediv_nonneg hm (by omega)
    have h5 : m / d ≤ m := Int.ediv_le_self _ hm
    rw [Int.neg_tdiv, Int.neg_tmod, Int.tdiv_eq_ediv_of_nonneg hm, Int.tmod_eq_emod_of_nonneg hm, wrap_id (-(m / d)) (by omega) (by omega), wrap_id (2 * -(m % d)) (by omega) (by omega), wrap_id (-(m / d) + 1) (by omega) (by omega), wrap_id (-(m / d) - 1) (by omega) (by omega), wrap_id (0 - d) (by omega) (by omega)]
    have e : nearN (-m) d = -(if 2 * (m % d) ≥ d then m / d + 1 else m / d) := by unfold nearN; rw [if_pos (by omega), Int.neg_neg, near_nonneg hd hm]
    refine xif_dec (fun q => ?_) (fun q => xif_dec (fun q' => xret ⟨?_, rfl⟩) (fun q' => xret ⟨?_, rfl⟩))
    · omega
    · rw [e, if_pos (by omega)]; show -(m / d) - 1 = _; omega
    · rw [e, if_neg (by omega)]

theorem scale_ok {wide swap : Bool} {mul div add : Int} (h : scaleE wide swap mul div add = 0) : -1000000 ≤ mul ∧ mul ≤ 1000000 ∧ 1 ≤ div ∧ div ≤ 1000000 ∧ -1099511627776 ≤ add ∧ add ≤ 1099511627776 ∧ (swap = true → wide = true) := by
  unfold scaleE at h
  split at h
  · cases h
  · rename_i hh
    refine ⟨by omega, by omega, by omega, by omega, by omega, by omega, fun hs => ?_⟩
    cases wide with
    | true => rfl
    | false => exact absurd (.inr (.inr (.inr (.inr (.inr (.inr (.inr ⟨hs, rfl⟩))))))) hh

theorem prod_bound {raw mul : Int} (h1 : -2147483648 ≤ raw) (h2 : raw ≤ 4294967295) (h3 : -1000000 ≤ mul) (h4 : mul ≤ 1000000) : -4294967295000000 ≤ raw * mul ∧ raw * mul ≤ 4294967295000000 := by
  have e : (raw * mul).natAbs = raw.natAbs * mul.natAbs := Int.natAbs_mul _ _
  have : raw.natAbs * mul.natAbs ≤ 4294967295 * 1000000 := Nat.mul_le_mul (by omega) (by omega)
  omega

theorem nearN_bound {n d : Int} (h1 : -4294967295000000 ≤ n) (h2 : n ≤ 4294967295000000) (hd : 1 ≤ d) (hd2 : d ≤ 1000000) : -9000000000000000 ≤ nearN n d ∧ nearN n d ≤ 9000000000000000 := by
  unfold nearN
  split
  · have := near_bound hd (show 0 ≤ -n by omega); omega
  · have := near_bound hd (show 0 ≤ n by omega); omega

theorem Value_spec (wide sgn swap : Bool) (mul div add raw : Int) (h0 : scaleE wide swap mul div add = 0) (hr1 : -2147483648 ≤ raw) (hr2 : raw ≤ 4294967295) :
    Ct Pr F_scale_Value [.agg #[.bool wide, .bool sgn, .bool swap, .int .i64 mul, .int .i64 div, .int .i64 add], .int .i64 raw] (.tup [none, none]) [.int .i64, .int .i64] [] emp (fun t Bs => t.1 = valN mul div add raw ∧ t.2.1 = 0 ∧ Bs = []) := by
  refine spec2 c_scale_Value fun B _ => ?_
  obtain ⟨m1, m2, d1, d2, a1, a2, _⟩ := scale_ok h0
  obtain ⟨p1, p2⟩ := prod_bound hr1 hr2 m1 m2
  obtain ⟨n1, n2⟩ := nearN_bound p1 p2 d1 d2
  unfold scale_Value
  refine xnew fun b => ?_
  iterate 6 (refine xget (h := ?_))
  refine xcall0 (scaleCheck_spec wide sgn swap mul div add) rdb ?_
  rintro ⟨x, _⟩ _ ⟨hx, rfl⟩
  simp only at hx; rw [h0] at hx; subst hx
  refine app0 (ca1 (xiff rfl ?_))
  refine xcall0 (within_spec raw (-2147483648) 4294967295 (by decide)) rdb ?_
  rintro ⟨x, _⟩ _ ⟨hx, _, rfl⟩
  simp only at hx
  refine app0 (ca1 ?_)
  rw [hx]
  refine xiff (by simp; omega) (xdraw ?_)
  iterate 3 (refine xget (h := ?_))
  rw [wrap_id (raw * mul) (by omega) (by omega)]
  refine xcall0 (near_spec (raw * mul) div (by omega) (by omega) d1 d2) rdb ?_
  rintro ⟨x, _⟩ _ ⟨hx, rfl⟩
  simp only at hx; subst hx
  refine app0 (ca1 (xchk (h := ?_)))
  rw [wrap_id (nearN (raw * mul) div + add) (by omega) (by omega)]
  refine xcall0 (within_spec (nearN (raw * mul) div + add) (-1099511627776) 1099511627776 (by decide)) rdb ?_
  rintro ⟨x, _⟩ _ ⟨_, hx, rfl⟩
  simp only at hx; subst hx
  exact app0 (ca1 (xkeep (l := []) (xret ⟨rfl, rfl, rfl⟩)))

theorem ValueRef_spec (wide sgn swap : Bool) (mul div add raw : Int) (h0 : scaleE wide swap mul div add = 0) (hr1 : -2147483648 ≤ raw) (hr2 : raw ≤ 4294967295) :
    Ct Pr F_ref06_Value [.agg #[.bool wide, .bool sgn, .bool swap, .int .i64 mul, .int .i64 div, .int .i64 add], .int .i64 raw] (.tup [none, none]) [.int .i64, .int .i64] [] emp (fun t Bs => t.1 = valN mul div add raw ∧ t.2.1 = 0 ∧ Bs = []) := by
  refine spec2 c_ref06_Value fun B _ => ?_
  obtain ⟨m1, m2, d1, d2, a1, a2, _⟩ := scale_ok h0
  obtain ⟨p1, p2⟩ := prod_bound hr1 hr2 m1 m2
  obtain ⟨n1, n2⟩ := nearN_bound p1 p2 d1 d2
  unfold ref06_Value
  refine xnew fun b => ?_
  iterate 6 (refine xget (h := ?_))
  refine xcall0 (scaleRef_spec wide sgn swap mul div add) rdb ?_
  rintro ⟨x, _⟩ _ ⟨hx, rfl⟩
  simp only at hx; rw [h0] at hx; subst hx
  refine app0 (ca1 (xiff rfl (xiff (by simp; omega) (xdraw ?_))))
  iterate 3 (refine xget (h := ?_))
  rw [wrap_id (raw * mul) (by omega) (by omega)]
  refine xcall0 (nearRef_spec (raw * mul) div (by omega) (by omega) d1 d2) rdb ?_
  rintro ⟨x, _⟩ _ ⟨hx, rfl⟩
  simp only at hx; subst hx
  refine app0 (ca1 (xchk (h := ?_)))
  rw [wrap_id (nearN (raw * mul) div + add) (by omega) (by omega)]
  refine xif_dec (fun h => xkeep (l := []) (xret ⟨?_, rfl, rfl⟩)) (fun h => xif_dec (fun h' => xkeep (l := []) (xret ⟨?_, rfl, rfl⟩)) (fun h' => xkeep (l := []) (xret ⟨?_, rfl, rfl⟩)))
  · unfold valN clampV; rw [if_pos h]
  · unfold valN clampV; rw [if_neg h, if_pos h']
  · unfold valN clampV; rw [if_neg h, if_neg h']

def withinT (t : Tag) (p : Poll) : Bool := decide (t.unit = p.unit ∧ t.kind = p.kind ∧ p.addr ≤ t.addr ∧ t.addr + t.width ≤ p.addr + p.count)

theorem withinT_spec (t : Tag) (p : Poll) (sp : Sl) (ht : tagE t = 0) (h1 : 0 ≤ p.addr) (h2 : p.addr ≤ 65535) (h3 : 0 ≤ p.count) (h4 : p.count ≤ 2000) : Ct Pr F_plan_within [t.v, .agg #[.int .i64 p.unit, .int .i64 p.kind, .int .i64 p.addr, .int .i64 p.count, .int .i64 p.every, sp.v]] .one [.bool] [] emp
    (fun r Bs => r.1 = withinT t p ∧ Bs = []) := by
  refine spec1 c_plan_within fun B _ => ?_
  have fin : ∀ {x : Bool} {As : List HP}, x = withinT t p → Ent B As (Ret B (ss := [.bool]) (fun r Bs => r.1 = withinT t p ∧ Bs = []) (x, ())) := fun h => xkeep (l := []) (xret ⟨h, rfl⟩)
  have no : ¬ (t.unit = p.unit ∧ t.kind = p.kind ∧ p.addr ≤ t.addr ∧ t.addr + t.width ≤ p.addr + p.count) → false = withinT t p := fun h => by unfold withinT; symm; exact decide_eq_false h
  have hw := width_or t
  obtain ⟨_, _, _, _, a1, a2, _⟩ := tag_ok ht
  unfold plan_within
  refine xnew fun b => xnew fun b1 => xdraw (xjoin (xget (h := xget (h := ?_))))
  refine xif (fun q1 => xget (h := xget (h := ?_))) (fun q1 => xiff rfl (xiff rfl (fin (no ?_))))
  · have q1 : t.unit = p.unit := by simpa using q1
    refine xif (fun q2 => xget (h := xget (h := ?_))) (fun q2 => xiff rfl (fin (no ?_)))
    · have q2 : t.kind = p.kind := by simpa using q2
      refine xif_dec (fun q3 => ?_) (fun q3 => fin (no ?_))
      · iterate 22 (refine xget (h := ?_))
        refine xcall0 (Width_spec t) rdb ?_
        rintro ⟨x, _⟩ _ ⟨hx, rfl⟩
        simp only at hx; subst hx
        refine app0 (ca1 ?_)
        iterate 3 (refine xchk (h := ?_))
        rw [wrap_id (t.addr + t.width) (by omega) (by omega), wrap_id (p.addr + p.count) (by omega) (by omega)]
        refine fin ?_
        unfold withinT
        exact decide_eq_decide.2 ⟨fun h => ⟨q1, q2, q3, h⟩, fun h => h.2.2.2⟩
      · rintro ⟨_, _, h, _⟩; exact q3 h
    · rintro ⟨_, h, _⟩; rw [h] at q2; simp at q2
  · have q1 : ¬ t.unit = p.unit := by simpa using q1
    rintro ⟨h, _⟩; exact q1 h

theorem withinRef_spec (t : Tag) (p : Poll) (sp : Sl) (ht : tagE t = 0) (h1 : 0 ≤ p.addr) (h2 : p.addr ≤ 65535) (h3 : 0 ≤ p.count) (h4 : p.count ≤ 2000) : Ct Pr F_ref10_Within [t.v, .agg #[.int .i64 p.unit, .int .i64 p.kind, .int .i64 p.addr, .int .i64 p.count, .int .i64 p.every, sp.v]] .one [.bool] [] emp
    (fun r Bs => r.1 = withinT t p ∧ Bs = []) := by
  refine spec1 c_ref10_Within fun B _ => ?_
  have fin : ∀ {x : Bool} {As : List HP}, x = withinT t p → Ent B As (Ret B (ss := [.bool]) (fun r Bs => r.1 = withinT t p ∧ Bs = []) (x, ())) := fun h => xkeep (l := []) (xret ⟨h, rfl⟩)
  have no : ¬ (t.unit = p.unit ∧ t.kind = p.kind ∧ p.addr ≤ t.addr ∧ t.addr + t.width ≤ p.addr + p.count) → false = withinT t p := fun h => by unfold withinT; symm; exact decide_eq_false h
  have hw := width_or t
  obtain ⟨_, _, _, _, a1, a2, _⟩ := tag_ok ht
  unfold ref10_Within
  refine xnew fun b => xnew fun b1 => xdraw (xjoin (xget (h := xget (h := ?_))))
  refine xif (fun q1 => xget (h := xget (h := ?_))) (fun q1 => xiff rfl (xiff rfl (fin (no ?_))))
  · have q1 : t.unit = p.unit := by simpa using q1
    refine xif (fun q2 => xget (h := xget (h := ?_))) (fun q2 => xiff rfl (fin (no ?_)))
    · have q2 : t.kind = p.kind := by simpa using q2
      refine xif_dec (fun q3 => ?_) (fun q3 => fin (no ?_))
      · iterate 22 (refine xget (h := ?_))
        refine xcall0 (WidthRef_spec t) rdb ?_
        rintro ⟨x, _⟩ _ ⟨hx, rfl⟩
        simp only at hx; subst hx
        refine app0 (ca1 ?_)
        iterate 3 (refine xchk (h := ?_))
        rw [wrap_id (t.addr + t.width) (by omega) (by omega), wrap_id (p.addr + p.count) (by omega) (by omega)]
        refine fin ?_
        unfold withinT
        exact decide_eq_decide.2 ⟨fun h => ⟨q1, q2, q3, h⟩, fun h => h.2.2.2⟩
      · rintro ⟨_, _, h, _⟩; exact q3 h
    · rintro ⟨_, h, _⟩; rw [h] at q2; simp at q2
  · have q1 : ¬ t.unit = p.unit := by simpa using q1
    rintro ⟨h, _⟩; exact q1 h

end Go.Cx

namespace Go.Cx
open Go Go.Cf
set_option linter.unusedVariables false
set_option maxRecDepth 100000
variable {B : Base} {As F : List HP} {α : Type}

theorem take_snoc {α : Type} {xs : List α} {k : Nat} {x : α} (h : xs[k]? = some x) : xs.take k ++ [x] = xs.take (k + 1) := by
  rw [List.take_add_one, h]; rfl

theorem CopyWords_spec (s : Sl) (ws : List UInt16) (hb : ws.length ≤ 1000000) : Ct Pr F_kit_CopyWords [s.v] .one [.slice] [] (RAr U16 s ws) (fun t Bs => Bs = [Ar U16 t.1 ws]) := by
  refine spec1 c_kit_CopyWords fun B hr => ?_
  haveI : Fro B s U16 ws := ⟨hr⟩
  have hn := hr.1
  unfold kit_CopyWords
  refine xnone U16 ?_
  refine xloop2 (fun n (out : Sl) (x : Int) As' => ∃ k : Nat, x = (k : Int) ∧ n = ws.length - k ∧ k ≤ ws.length ∧ As' = [Ar U16 out (ws.take k)]) ws.length ⟨0, rfl, by omega, by omega, by simp⟩ ?_
  rintro n out x As' K ⟨k, rfl, rfl, hk, rfl⟩ hK
  refine xif_dec (fun hp => ?_) (fun hp => ?_)
  · refine xidxn (h1 := by omega) (h := fun x hx => ?_)
    refine xgetE hx (h := xnew fun b => ?_)
    refine xapp1 (E := U16) x (hb := by simp; omega) (h := fun s' => ?_)
    rw [wrap_succ k (by omega), take_snoc hx]
    exact hK _ _ _ _ (by omega) ⟨k + 1, rfl, rfl, by omega, rfl⟩
  · obtain rfl : k = ws.length := by omega
    rw [List.take_length]
    exact xret rfl

def valueM (t : Tag) (p : Poll) (on : List Bool) (ws : List UInt16) : Int :=
  if t.kind ≤ 2 then (if (on[(t.addr - p.addr).toNat]?.getD false) = true then 1 else 0)
  else valN t.mul t.div t.add (rawN t.wide t.swap t.sgn ((ws.take ((t.addr - p.addr).toNat + t.width.toNat)).drop (t.addr - p.addr).toNat))

theorem withinT_iff {t : Tag} {p : Poll} (h : withinT t p = true) : t.unit = p.unit ∧ t.kind = p.kind ∧ p.addr ≤ t.addr ∧ t.addr + t.width ≤ p.addr + p.count := by simpa [withinT] using h

theorem raw_in {wide swap sgn : Bool} {mul div add : Int} (h : scaleE wide swap mul div add = 0) (ws : List UInt16) : -2147483648 ≤ rawN wide swap sgn ws ∧ rawN wide swap sgn ws ≤ 4294967295 := by
  rcases rawN_range wide swap sgn ws with h1 | ⟨h1, h2⟩
  · exact ⟨h1.1, h1.2.1⟩
  · have := (scale_ok h).2.2.2.2.2.2 h1
    rw [h2] at this; cases this

theorem value_spec (t : Tag) (p : Poll) (sp : Sl) (exc : Int) (r1 r2 r3 : Sl) (on : List Bool) (ws : List UInt16) (ht : tagE t = 0) (hw : withinT t p = true) (h1 : 0 ≤ p.addr) (h2 : p.addr ≤ 65535) (h3 : 0 ≤ p.count) (h4 : p.count ≤ 2000) (hc : r2.n ≤ r2.c)
    (hon : t.kind ≤ 2 → (on.length : Int) = p.count) (hws : 2 < t.kind → (ws.length : Int) = p.count) :
    Ct Pr F_plan_value [t.v, .agg #[.int .i64 p.unit, .int .i64 p.kind, .int .i64 p.addr, .int .i64 p.count, .int .i64 p.every, sp.v], .agg #[.int .i64 exc, r1.v, r2.v, r3.v]] .one [.int .i64] [] ((RAr BL r1 on).and (RAr U16 r2 ws))
    (fun r Bs => r.1 = valueM t p on ws ∧ Bs = []) := by
  refine spec1 c_plan_value fun B hr => ?_
  haveI : Fro B r1 BL on := ⟨hr.1⟩
  haveI : Fro B r2 U16 ws := ⟨hr.2⟩
  have hn2 := hr.2.1
  obtain ⟨w1, w2, w3, w4⟩ := withinT_iff hw
  have hwd := width_or t
  obtain ⟨_, _, k1, k2, a1, a2, _, _, hsc⟩ := tag_ok ht
  have fin : ∀ {x : Int} {As : List HP}, x = valueM t p on ws → Ent B As (Ret B (ss := [.int .i64]) (fun r Bs => r.1 = valueM t p on ws ∧ Bs = []) (x, ())) := fun h => xkeep (l := []) (xret ⟨h, rfl⟩)
  have wa : IntKind.i64.wrap (t.addr - p.addr) = t.addr - p.addr := wrap_id _ (by omega) (by omega)
  unfold plan_value
  refine xnew fun b => xnew fun b1 => xnew fun b2 => ?_
  iterate 3 (refine xget (h := ?_))
  rw [wa]
  refine xif_dec (fun hk => ?_) (fun hk => ?_)
  · have hk2 : t.kind ≤ 2 := hk
    have hon := hon hk2
    refine xget (h := ?_)
    refine xidx (h0 := by omega) (h1 := by omega) (h := fun x hx => ?_)
    have e : valueM t p on ws = if x = true then 1 else 0 := by unfold valueM; rw [if_pos hk2, hx]; rfl
    refine xgetE hx (h := xif (fun hx' => fin ?_) (fun hx' => fin ?_))
    · rw [e, if_pos hx']
    · rw [e, hx']; rfl
  · have hk2 : ¬ t.kind ≤ 2 := hk
    have hws := hws (by omega)
    refine xdraw ?_
    iterate 26 (refine xget (h := ?_))
    refine xcall0 (Width_spec t) rdb ?_
    rintro ⟨x, _⟩ _ ⟨hx, rfl⟩
    simp only at hx; subst hx
    refine app0 (ca1 ?_)
    iterate 7 (refine xchk (h := ?_))
    rw [wrap_id (t.addr - p.addr + t.width) (by omega) (by omega)]
    refine xslc (by omega) (by omega) (by omega) (by omega) ?_
    rw [Int.toNat_natCast]
    have hcut := hr.2.cut (t.addr - p.addr).toNat (t.addr - p.addr + t.width).toNat r2.c (by omega) (by omega) (by omega)
    rw [show (t.addr - p.addr + t.width).toNat = (t.addr - p.addr).toNat + t.width.toNat by omega] at hcut ⊢
    generalize hcw : (ws.take ((t.addr - p.addr).toNat + t.width.toNat)).drop (t.addr - p.addr).toNat = cw at hcut
    have hcl : cw.length = if t.wide = true then 2 else 1 := by
      rw [← hcw]
      have hl : ((ws.take ((t.addr - p.addr).toNat + t.width.toNat)).drop (t.addr - p.addr).toNat).length = t.width.toNat := by simp; omega
      rw [hl]
      unfold Tag.width
      cases t.wide with
      | false => rfl
      | true => rw [if_pos ⟨rfl, by omega⟩]; rfl
    have e : valueM t p on ws = valN t.mul t.div t.add (rawN t.wide t.swap t.sgn cw) := by unfold valueM; rw [if_neg hk2, hcw]
    haveI : Fro B (r2.cut (t.addr - p.addr).toNat ((t.addr - p.addr).toNat + t.width.toNat) r2.c 1) U16 cw := ⟨hcut⟩
    obtain ⟨q1, q2⟩ := raw_in (sgn := t.sgn) hsc cw
    refine xcall0 (Raw_spec t.wide t.sgn t.swap t.mul t.div t.add _ cw hsc hcl) rdb ?_
    rintro ⟨x, y, _⟩ _ ⟨hx, hy, rfl⟩
    simp only at hx hy; subst hx hy
    refine app0 (ca2 ?_)
    iterate 6 (refine xget (h := ?_))
    refine xcall0 (Value_spec t.wide t.sgn t.swap t.mul t.div t.add _ hsc q1 q2) rdb ?_
    rintro ⟨x, y, _⟩ _ ⟨hx, hy, rfl⟩
    simp only at hx hy; subst hx hy
    exact app0 (ca2 (fin e.symm))

theorem valueRef_spec (t : Tag) (p : Poll) (sp : Sl) (exc : Int) (r1 r2 r3 : Sl) (on : List Bool) (ws : List UInt16) (ht : tagE t = 0) (hw : withinT t p = true) (h1 : 0 ≤ p.addr) (h2 : p.addr ≤ 65535) (h3 : 0 ≤ p.count) (h4 : p.count ≤ 2000) (hc : r2.n ≤ r2.c)
    (hon : t.kind ≤ 2 → (on.length : Int) = p.count) (hws : 2 < t.kind → (ws.length : Int) = p.count) :
    Ct Pr F_ref10_value [t.v, .agg #[.int .i64 p.unit, .int .i64 p.kind, .int .i64 p.addr, .int .i64 p.count, .int .i64 p.every, sp.v], .agg #[.int .i64 exc, r1.v, r2.v, r3.v]] .one [.int .i64] [] ((RAr BL r1 on).and (RAr U16 r2 ws))
    (fun r Bs => r.1 = valueM t p on ws ∧ Bs = []) := by
  refine spec1 c_ref10_value fun B hr => ?_
  haveI : Fro B r1 BL on := ⟨hr.1⟩
  haveI : Fro B r2 U16 ws := ⟨hr.2⟩
  have hn2 := hr.2.1
  obtain ⟨w1, w2, w3, w4⟩ := withinT_iff hw
  have hwd := width_or t
  obtain ⟨_, _, k1, k2, a1, a2, _, _, hsc⟩ := tag_ok ht
  have fin : ∀ {x : Int} {As : List HP}, x = valueM t p on ws → Ent B As (Ret B (ss := [.int .i64]) (fun r Bs => r.1 = valueM t p on ws ∧ Bs = []) (x, ())) := fun h => xkeep (l := []) (xret ⟨h, rfl⟩)
  have wa : IntKind.i64.wrap (t.addr - p.addr) = t.addr - p.addr := wrap_id _ (by omega) (by omega)
  unfold ref10_value
  refine xnew fun b => xnew fun b1 => xnew fun b2 => ?_
  iterate 3 (refine xget (h := ?_))
  rw [wa]
  refine xjoin1 (fun (c : Bool) As' => As' = [Blk b2 [.int .i64 exc, r1.v, r2.v, r3.v], Blk b1 [.int .i64 p.unit, .int .i64 p.kind, .int .i64 p.addr, .int .i64 p.count, .int .i64 p.every, sp.v], Blk b t.cells] ∧ c = decide (t.kind ≤ 2)) (fun K1 hK1 => xif (fun q => hK1 _ _ ⟨rfl, ?_⟩) (fun q => xget (h := hK1 _ _ ⟨rfl, ?_⟩))) ?_
  · simp at q; rw [q]; rfl
  · rw [Bool.eq_iff_iff]; simp at *; omega
  rintro c As2 ⟨rfl, rfl⟩
  refine xif_dec (fun hk => ?_) (fun hk => ?_)
  · have hk2 : t.kind ≤ 2 := hk
    have hon := hon hk2
    refine xget (h := ?_)
    refine xidx (h0 := by omega) (h1 := by omega) (h := fun x hx => ?_)
    have e : valueM t p on ws = if x = true then 1 else 0 := by unfold valueM; rw [if_pos hk2, hx]; rfl
    refine xgetE hx (h := xif (fun hx' => fin ?_) (fun hx' => fin ?_))
    · rw [e, if_pos hx']
    · rw [e, hx']; rfl
  · have hk2 : ¬ t.kind ≤ 2 := hk
    have hws := hws (by omega)
    refine xdraw ?_
    iterate 26 (refine xget (h := ?_))
    refine xcall0 (WidthRef_spec t) rdb ?_
    rintro ⟨x, _⟩ _ ⟨hx, rfl⟩
    simp only at hx; subst hx
    refine app0 (ca1 ?_)
    iterate 7 (refine xchk (h := ?_))
    rw [wrap_id (t.addr - p.addr + t.width) (by omega) (by omega)]
    refine xslc (by omega) (by omega) (by omega) (by omega) ?_
    rw [Int.toNat_natCast]
    have hcut := hr.2.cut (t.addr - p.addr).toNat (t.addr - p.addr + t.width).toNat r2.c (by omega) (by omega) (by omega)
    rw [show (t.addr - p.addr + t.width).toNat = (t.addr - p.addr).toNat + t.width.toNat by omega] at hcut ⊢
    generalize hcw : (ws.take ((t.addr - p.addr).toNat + t.width.toNat)).drop (t.addr - p.addr).toNat = cw at hcut
    have hcl : cw.length = if t.wide = true then 2 else 1 := by
      rw [← hcw]
      have hl : ((ws.take ((t.addr - p.addr).toNat + t.width.toNat)).drop (t.addr - p.addr).toNat).length = t.width.toNat := by simp; omega
      rw [hl]
      unfold Tag.width
      cases t.wide with
      | false => rfl
      | true => rw [if_pos ⟨rfl, by omega⟩]; rfl
    have e : valueM t p on ws = valN t.mul t.div t.add (rawN t.wide t.swap t.sgn cw) := by unfold valueM; rw [if_neg hk2, hcw]
    haveI : Fro B (r2.cut (t.addr - p.addr).toNat ((t.addr - p.addr).toNat + t.width.toNat) r2.c 1) U16 cw := ⟨hcut⟩
    obtain ⟨q1, q2⟩ := raw_in (sgn := t.sgn) hsc cw
    refine xcall0 (CopyWords_spec _ cw (by rw [hcl]; split <;> decide)) rdb ?_
    rintro ⟨s3, _⟩ _ rfl
    refine app1 (ca1 ?_)
    iterate 6 (refine xchk (h := ?_))
    refine xcall0 (RawRef_spec t.wide t.sgn t.swap t.mul t.div t.add s3 cw hsc hcl) rdb ?_
    rintro ⟨x, y, _⟩ _ ⟨hx, hy, rfl⟩
    simp only at hx hy; subst hx hy
    refine app0 (ca2 ?_)
    iterate 6 (refine xget (h := ?_))
    refine xcall0 (ValueRef_spec t.wide t.sgn t.swap t.mul t.div t.add _ hsc q1 q2) rdb ?_
    rintro ⟨x, y, _⟩ _ ⟨hx, hy, rfl⟩
    simp only at hx hy; subst hx hy
    exact app0 (ca2 (fin e.symm))

end Go.Cx

namespace Go.Cx
open Go Go.Cf
set_option linter.unusedVariables false
set_option maxRecDepth 100000
variable {B : Base} {As F : List HP} {α : Type}

def tagAt (ts : List Tag) (k : Int) : Option Tag := if k < 0 then none else ts[k.toNat]?
def goV (ts : List Tag) (p : Poll) (on : List Bool) (ws : List UInt16) : List Int → List Int → List Int × Int
  | [], out => (out, 0)
  | k :: ks, out => match tagAt ts k with
    | none => ([], 3)
    | some t => if withinT t p = true then goV ts p on ws ks (out ++ [valueM t p on ws]) else ([], 3)
def valuesM (ts : List Tag) (p : Poll) (exc : Int) (on : List Bool) (ws : List UInt16) (nf : Nat) : List Int × Int :=
  if (allE ts).1 ≠ 0 then ([], (allE ts).1)
  else if askX p ≠ 0 then ([], askX p)
  else if replyE p.kind p.addr p.count exc on.length ws.length nf ≠ 0 then ([], replyE p.kind p.addr p.count exc on.length ws.length nf)
  else if exc ≠ 0 then ([], 12) else goV ts p on ws p.tags []

theorem ask_ok {p : Poll} (h : askX p = 0) : 1 ≤ p.kind ∧ p.kind ≤ 4 ∧ 0 ≤ p.addr ∧ p.addr ≤ 65535 ∧ 1 ≤ p.count ∧ p.count ≤ limitK p.kind ∧ p.count ≤ 2000 ∧ p.addr + p.count ≤ 65536 := by
  unfold askX at h
  split at h
  · cases h
  unfold askE at h
  split at h
  · cases h
  split at h
  · cases h
  split at h
  · cases h
  have : limitK p.kind ≤ 2000 := by unfold limitK; split <;> decide
  omega

theorem reply_ok {k addr count : Int} {no ns nf : Nat} (h : replyE k addr count 0 no ns nf = 0) : (k ≤ 2 → (no : Int) = count) ∧ (2 < k → (ns : Int) = count) := by
  unfold replyE at h
  split at h
  · rename_i h0; exact absurd h h0
  rw [if_neg (by simp)] at h
  split at h
  · cases h
  split at h
  · cases h
  rename_i h1 h2
  constructor
  · intro hk; omega
  · intro hk; omega

theorem Values_spec (l : Sl) (ts : List Tag) (p : Poll) (sp : Sl) (exc : Int) (r1 r2 r3 : Sl) (on : List Bool) (ws : List UInt16) (hc : r2.n ≤ r2.c) (htl : p.tags.length ≤ 1000000) :
    Ct Pr F_plan_Values [l.v, .agg #[.int .i64 p.unit, .int .i64 p.kind, .int .i64 p.addr, .int .i64 p.count, .int .i64 p.every, sp.v], .agg #[.int .i64 exc, r1.v, r2.v, r3.v]] (.tup [none, none]) [.slice, .int .i64] []
    ((RAr TG l ts).and ((RAr I64 sp p.tags).and ((RAr BL r1 on).and (RAr U16 r2 ws))))
    (fun r Bs => r.2.1 = (valuesM ts p exc on ws r3.n).2 ∧ Bs = [Ar I64 r.1 (valuesM ts p exc on ws r3.n).1]) := by
  refine spec2 c_plan_Values fun B hr => ?_
  haveI : Fro B l TG ts := ⟨hr.1⟩
  haveI : Fro B sp I64 p.tags := ⟨hr.2.1⟩
  haveI : Fro B r1 BL on := ⟨hr.2.2.1⟩
  haveI : Fro B r2 U16 ws := ⟨hr.2.2.2⟩
  have hl := hr.1.1
  have hsn := hr.2.1.1
  have h1n := hr.2.2.1.1
  have h2n := hr.2.2.2.1
  have fin : ∀ {x : Int} {As : List HP}, valuesM ts p exc on ws r3.n = ([], x) → Ent B As (Ret B (ss := [.slice, .int .i64]) (fun r Bs => r.2.1 = (valuesM ts p exc on ws r3.n).2 ∧ Bs = [Ar I64 r.1 (valuesM ts p exc on ws r3.n).1]) (nilS, x, ())) := fun h => by
    rw [h]
    exact xnone I64 (xkeep (l := [Ar I64 nilS []]) (xret ⟨rfl, rfl⟩))
  unfold plan_Values
  refine xnew fun b => xnew fun b1 => ?_
  refine xcall0 (CheckAll_spec l ts) rdb ?_
  rintro ⟨e, at_, _⟩ _ ⟨he, hat, rfl⟩
  simp only at he hat; subst he hat
  refine app0 (ca2 (xif (fun h0 => fin ?_) (fun h0 => ?_)))
  · unfold valuesM; rw [if_pos (by simpa using h0)]
  have h0 : (allE ts).1 = 0 := by simpa using h0
  have hlen := allE_len h0
  iterate 6 (refine xget (h := ?_))
  refine xcall0 (Ask_spec p sp) rdb ?_
  rintro t _ ⟨rfl, rfl⟩
  refine app0 (ca7 (xnew fun b2 => ?_))
  iterate 6 (refine xset (h := ?_))
  refine xif (fun h1 => fin ?_) (fun h1 => ?_)
  · unfold valuesM; rw [if_neg (by simp [h0]), if_pos (by simpa using h1)]
  have h1 : askX p = 0 := by simpa using h1
  obtain ⟨k1, k2, a1, a2, c1, c2, c3, c4⟩ := ask_ok h1
  have er : askR p = (p.kind, p.addr, p.count) := by unfold askR; rw [if_pos h1]
  iterate 3 (refine xget (h := ?_))
  iterate 3 (refine xget (s := .slice) (x := nilS) (h := ?_))
  iterate 4 (refine xget (h := ?_))
  rw [er]
  dsimp only
  refine xcall0 (ReplyCheck_spec p.kind p.addr p.count exc r1 r2 r3 ⟨k1, k2⟩) rdb ?_
  rintro ⟨x, _⟩ _ ⟨hx, rfl⟩
  simp only at hx; rw [← h1n, ← h2n] at hx; subst hx
  refine app0 (ca1 (xif (fun h2 => fin ?_) (fun h2 => ?_)))
  · unfold valuesM; rw [if_neg (by simp [h0]), if_neg (by simp [h1]), if_pos (by simpa using h2)]
  have h2 : replyE p.kind p.addr p.count exc on.length ws.length r3.n = 0 := by simpa using h2
  refine xget (h := xif (fun h3 => fin ?_) (fun h3 => ?_))
  · unfold valuesM; rw [if_neg (by simp [h0]), if_neg (by simp [h1]), if_neg (by simp [h2]), if_pos (by simpa using h3)]
  have h3 : exc = 0 := by simpa using h3
  have ev : valuesM ts p exc on ws r3.n = goV ts p on ws p.tags [] := by
    unfold valuesM; rw [if_neg (by simp [h0]), if_neg (by simp [h1]), if_neg (by simp [h2]), if_neg (by simp [h3])]
  rw [h3] at h2
  obtain ⟨hon, hws⟩ := reply_ok h2
  refine xget (h := ?_)
  refine xdrop 0 (xnone I64 ?_)
  refine xloop2 (fun n (out : Sl) (x : Int) As' => ∃ (j : Nat) (xs : List Int), x = (j : Int) ∧ n = p.tags.length - j ∧ j ≤ p.tags.length ∧ xs.length ≤ j ∧ goV ts p on ws p.tags [] = goV ts p on ws (p.tags.drop j) xs ∧ As' = [Ar I64 out xs, Blk b1 [.int .i64 exc, r1.v, r2.v, r3.v], Blk b [.int .i64 p.unit, .int .i64 p.kind, .int .i64 p.addr, .int .i64 p.count, .int .i64 p.every, sp.v]]) p.tags.length ⟨0, [], rfl, by omega, by omega, by simp, rfl, rfl⟩ ?_
  rintro n out x As' K ⟨j, xs, rfl, rfl, hj, hxs, hg, rfl⟩ hK
  
  refine xif_dec (fun hp => ?_) (fun hp => ?_)
  rotate_left
  · have e : valuesM ts p exc on ws r3.n = (xs, 0) := by rw [ev, hg, List.drop_eq_nil_of_le (by omega)]; rfl
    rw [e]
    exact xkeep (l := [Ar I64 out xs]) (xret ⟨rfl, rfl⟩)
  have hp : j < p.tags.length := by omega
  
  refine xidxn (h1 := hp) (h := fun k hk => ?_)
  refine xgetE hk (h := xdraw (xjoin ?_))
  have hdrop : p.tags.drop j = k :: p.tags.drop (j + 1) := by
    rw [List.drop_eq_getElem_cons hp]; rw [(List.getElem?_eq_some_iff.1 hk).2]
  rw [hdrop] at hg
  have bad : ∀ {As : List HP}, tagAt ts k = none → Ent B As (Ret B (ss := [.slice, .int .i64]) (fun r Bs => r.2.1 = (valuesM ts p exc on ws r3.n).2 ∧ Bs = [Ar I64 r.1 (valuesM ts p exc on ws r3.n).1]) (nilS, 3, ())) := fun h => fin (by rw [ev, hg]; simp only [goV, h])
  refine xif (fun q => xift rfl (xift rfl (bad ?_))) (fun q => xif (fun q' => xift rfl (bad ?_)) (fun q' => ?_))
  · unfold tagAt; rw [if_pos (of_decide_eq_true q)]
  · have q : ¬ k < 0 := of_decide_eq_false q
    have q' : k ≥ (l.n : Int) := of_decide_eq_true q'
    unfold tagAt; rw [if_neg q, List.getElem?_eq_none (by omega)]
  have q : ¬ k < 0 := of_decide_eq_false q
  have q' : ¬ k ≥ (l.n : Int) := of_decide_eq_false q'
  obtain ⟨m, rfl⟩ : ∃ m : Nat, k = (m : Int) := ⟨k.toNat, by omega⟩
  have hm : m < ts.length := by omega
  refine xidxn (h1 := hm) (h := fun t ht => ?_)
  have hta : tagAt ts (m : Int) = some t := by unfold tagAt; rw [if_neg q, Int.toNat_natCast, ht]
  have htg := allE_tag h0 ht
  refine xgetE ht (h := ?_)
  iterate 18 (refine xgetEj ht (h := ?_))
  iterate 6 (refine xget (h := ?_))
  refine xcall0 (withinT_spec t p sp htg a1 a2 (by omega) c3) rdb ?_
  rintro ⟨x, _⟩ _ ⟨hx, rfl⟩
  simp only at hx; subst hx
  refine app0 (ca1 (xif (fun hw => fin ?_) (fun hw => xdraw ?_)))
  · rw [ev, hg]; simp only [goV, hta]; rw [if_neg (by simpa using hw)]
  have hw : withinT t p = true := by simpa using hw
  refine xidxn (h1 := hm) (h := fun t' ht' => ?_)
  obtain rfl : t = t' := by rw [ht] at ht'; cases ht'; rfl
  refine xgetE ht (h := ?_)
  iterate 18 (refine xgetEj ht (h := ?_))
  iterate 10 (refine xget (h := ?_))
  have hkd := (withinT_iff hw).2.1
  refine xcall0 (value_spec t p sp exc r1 r2 r3 on ws htg hw a1 a2 (by omega) c3 hc (fun h => hon (by omega)) (fun h => hws (by omega))) rdb ?_
  rintro ⟨x, _⟩ _ ⟨hx, rfl⟩
  simp only at hx; subst hx
  refine app0 (ca1 (xnew fun b3 => ?_))
  refine xapp1 (E := I64) (valueM t p on ws) (hb := by omega) (h := fun s' => ?_)
  rw [wrap_succ j (by omega)]
  exact hK _ _ _ _ (by omega) ⟨j + 1, _, rfl, rfl, by omega, by simp; omega, by rw [hg]; simp only [goV, hta]; rw [if_pos hw], rfl⟩

theorem ValuesRef_spec (l : Sl) (ts : List Tag) (p : Poll) (sp : Sl) (exc : Int) (r1 r2 r3 : Sl) (on : List Bool) (ws : List UInt16) (hc : r2.n ≤ r2.c) (htl : p.tags.length ≤ 1000000) :
    Ct Pr F_ref10_Values [l.v, .agg #[.int .i64 p.unit, .int .i64 p.kind, .int .i64 p.addr, .int .i64 p.count, .int .i64 p.every, sp.v], .agg #[.int .i64 exc, r1.v, r2.v, r3.v]] (.tup [none, none]) [.slice, .int .i64] []
    ((RAr TG l ts).and ((RAr I64 sp p.tags).and ((RAr BL r1 on).and (RAr U16 r2 ws))))
    (fun r Bs => r.2.1 = (valuesM ts p exc on ws r3.n).2 ∧ Bs = [Ar I64 r.1 (valuesM ts p exc on ws r3.n).1]) := by
  refine spec2 c_ref10_Values fun B hr => ?_
  haveI : Fro B l TG ts := ⟨hr.1⟩
  haveI : Fro B sp I64 p.tags := ⟨hr.2.1⟩
  haveI : Fro B r1 BL on := ⟨hr.2.2.1⟩
  haveI : Fro B r2 U16 ws := ⟨hr.2.2.2⟩
  have hl := hr.1.1
  have hsn := hr.2.1.1
  have h1n := hr.2.2.1.1
  have h2n := hr.2.2.2.1
  have fin : ∀ {x : Int} {As : List HP}, valuesM ts p exc on ws r3.n = ([], x) → Ent B As (Ret B (ss := [.slice, .int .i64]) (fun r Bs => r.2.1 = (valuesM ts p exc on ws r3.n).2 ∧ Bs = [Ar I64 r.1 (valuesM ts p exc on ws r3.n).1]) (nilS, x, ())) := fun h => by
    rw [h]
    exact xnone I64 (xkeep (l := [Ar I64 nilS []]) (xret ⟨rfl, rfl⟩))
  unfold ref10_Values
  refine xnew fun b => xnew fun b1 => ?_
  refine xcall0 (CheckAllRef_spec l ts) rdb ?_
  rintro ⟨e, at_, _⟩ _ ⟨he, hat, rfl⟩
  simp only at he hat; subst he hat
  refine app0 (ca2 (xif (fun h0 => fin ?_) (fun h0 => ?_)))
  · unfold valuesM; rw [if_pos (by simpa using h0)]
  have h0 : (allE ts).1 = 0 := by simpa using h0
  have hlen := allE_len h0
  iterate 6 (refine xget (h := ?_))
  refine xcall0 (AskRef10_spec p sp) rdb ?_
  rintro t _ ⟨rfl, rfl⟩
  refine app0 (ca7 (xnew fun b2 => ?_))
  iterate 6 (refine xset (h := ?_))
  refine xif (fun h1 => fin ?_) (fun h1 => ?_)
  · unfold valuesM; rw [if_neg (by simp [h0]), if_pos (by simpa using h1)]
  have h1 : askX p = 0 := by simpa using h1
  obtain ⟨k1, k2, a1, a2, c1, c2, c3, c4⟩ := ask_ok h1
  have er : askR p = (p.kind, p.addr, p.count) := by unfold askR; rw [if_pos h1]
  iterate 3 (refine xget (h := ?_))
  iterate 3 (refine xget (s := .slice) (x := nilS) (h := ?_))
  iterate 4 (refine xget (h := ?_))
  rw [er]
  dsimp only
  refine xcall0 (ReplyRef_spec p.kind p.addr p.count exc r1 r2 r3 ⟨k1, k2⟩) rdb ?_
  rintro ⟨x, _⟩ _ ⟨hx, rfl⟩
  simp only at hx; rw [← h1n, ← h2n] at hx; subst hx
  refine app0 (ca1 (xif (fun h2 => fin ?_) (fun h2 => ?_)))
  · unfold valuesM; rw [if_neg (by simp [h0]), if_neg (by simp [h1]), if_pos (by simpa using h2)]
  have h2 : replyE p.kind p.addr p.count exc on.length ws.length r3.n = 0 := by simpa using h2
  refine xget (h := xif (fun h3 => fin ?_) (fun h3 => ?_))
  · unfold valuesM; rw [if_neg (by simp [h0]), if_neg (by simp [h1]), if_neg (by simp [h2]), if_pos (by simpa using h3)]
  have h3 : exc = 0 := by simpa using h3
  have ev : valuesM ts p exc on ws r3.n = goV ts p on ws p.tags [] := by
    unfold valuesM; rw [if_neg (by simp [h0]), if_neg (by simp [h1]), if_neg (by simp [h2]), if_neg (by simp [h3])]
  rw [h3] at h2
  obtain ⟨hon, hws⟩ := reply_ok h2
  
  refine xdrop 0 (xnone I64 ?_)
  refine xloop2 (fun n (out : Sl) (x : Int) As' => ∃ (j : Nat) (xs : List Int), x = (j : Int) ∧ n = p.tags.length - j ∧ j ≤ p.tags.length ∧ xs.length ≤ j ∧ goV ts p on ws p.tags [] = goV ts p on ws (p.tags.drop j) xs ∧ As' = [Ar I64 out xs, Blk b1 [.int .i64 exc, r1.v, r2.v, r3.v], Blk b [.int .i64 p.unit, .int .i64 p.kind, .int .i64 p.addr, .int .i64 p.count, .int .i64 p.every, sp.v]]) p.tags.length ⟨0, [], rfl, by omega, by omega, by simp, rfl, rfl⟩ ?_
  rintro n out x As' K ⟨j, xs, rfl, rfl, hj, hxs, hg, rfl⟩ hK
  refine xget (h := ?_)
  refine xif_dec (fun hp => ?_) (fun hp => ?_)
  rotate_left
  · have e : valuesM ts p exc on ws r3.n = (xs, 0) := by rw [ev, hg, List.drop_eq_nil_of_le (by omega)]; rfl
    rw [e]
    exact xkeep (l := [Ar I64 out xs]) (xret ⟨rfl, rfl⟩)
  have hp : j < p.tags.length := by omega
  refine xget (h := ?_)
  refine xidxn (h1 := hp) (h := fun k hk => ?_)
  refine xgetE hk (h := xdraw (xjoin ?_))
  have hdrop : p.tags.drop j = k :: p.tags.drop (j + 1) := by
    rw [List.drop_eq_getElem_cons hp]; rw [(List.getElem?_eq_some_iff.1 hk).2]
  rw [hdrop] at hg
  have bad : ∀ {As : List HP}, tagAt ts k = none → Ent B As (Ret B (ss := [.slice, .int .i64]) (fun r Bs => r.2.1 = (valuesM ts p exc on ws r3.n).2 ∧ Bs = [Ar I64 r.1 (valuesM ts p exc on ws r3.n).1]) (nilS, 3, ())) := fun h => fin (by rw [ev, hg]; simp only [goV, h])
  refine xif (fun q => xift rfl (xift rfl (bad ?_))) (fun q => xif (fun q' => xift rfl (bad ?_)) (fun q' => ?_))
  · unfold tagAt; rw [if_pos (of_decide_eq_true q)]
  · have q : ¬ k < 0 := of_decide_eq_false q
    have q' : k ≥ (l.n : Int) := of_decide_eq_true q'
    unfold tagAt; rw [if_neg q, List.getElem?_eq_none (by omega)]
  have q : ¬ k < 0 := of_decide_eq_false q
  have q' : ¬ k ≥ (l.n : Int) := of_decide_eq_false q'
  obtain ⟨m, rfl⟩ : ∃ m : Nat, k = (m : Int) := ⟨k.toNat, by omega⟩
  have hm : m < ts.length := by omega
  refine xidxn (h1 := hm) (h := fun t ht => ?_)
  have hta : tagAt ts (m : Int) = some t := by unfold tagAt; rw [if_neg q, Int.toNat_natCast, ht]
  have htg := allE_tag h0 ht
  refine xgetE ht (h := ?_)
  iterate 18 (refine xgetEj ht (h := ?_))
  iterate 6 (refine xget (h := ?_))
  refine xcall0 (withinRef_spec t p sp htg a1 a2 (by omega) c3) rdb ?_
  rintro ⟨x, _⟩ _ ⟨hx, rfl⟩
  simp only at hx; subst hx
  refine app0 (ca1 (xif (fun hw => fin ?_) (fun hw => xdraw ?_)))
  · rw [ev, hg]; simp only [goV, hta]; rw [if_neg (by simpa using hw)]
  have hw : withinT t p = true := by simpa using hw
  refine xidxn (h1 := hm) (h := fun t' ht' => ?_)
  obtain rfl : t = t' := by rw [ht] at ht'; cases ht'; rfl
  refine xgetE ht (h := ?_)
  iterate 18 (refine xgetEj ht (h := ?_))
  iterate 10 (refine xget (h := ?_))
  have hkd := (withinT_iff hw).2.1
  refine xcall0 (valueRef_spec t p sp exc r1 r2 r3 on ws htg hw a1 a2 (by omega) c3 hc (fun h => hon (by omega)) (fun h => hws (by omega))) rdb ?_
  rintro ⟨x, _⟩ _ ⟨hx, rfl⟩
  simp only at hx; subst hx
  refine app0 (ca1 (xnew fun b3 => ?_))
  refine xapp1 (E := I64) (valueM t p on ws) (hb := by omega) (h := fun s' => ?_)
  rw [wrap_succ j (by omega)]
  exact hK _ _ _ _ (by omega) ⟨j + 1, _, rfl, rfl, by omega, by simp; omega, by rw [hg]; simp only [goV, hta]; rw [if_pos hw], rfl⟩

end Go.Cx

namespace Go.Cx
open Go Go.Cf
set_option linter.unusedVariables false
set_option maxRecDepth 100000
variable {B : Base} {As F : List HP} {α : Type}

instance Rdb.nilE (E : Enc α) : Rdb B F (RAr E ⟨none, 0, 0⟩ []) := ⟨fun _ _ _ _ _ => ⟨rfl, by simp [flat], fun h => absurd h (Nat.lt_irrefl 0)⟩⟩

theorem SameInts_spec (a b : Sl) (xs : List Int) (hb : xs.length ≤ 1000000) : Ct Pr F_kit_SameInts [a.v, b.v] .one [.bool] [] ((RAr I64 a xs).and (RAr I64 b xs)) (fun t Bs => t.1 = true ∧ Bs = []) := by
  refine spec1 c_kit_SameInts fun B hr => ?_
  haveI : Fro B a I64 xs := ⟨hr.1⟩
  have h1 := hr.1.1
  have h2 := hr.2.1
  unfold kit_SameInts
  refine xiff (by rw [← h1, ← h2]; simp) ?_
  refine xloop1 (fun n (x : Int) As' => ∃ k : Nat, x = (k : Int) ∧ n = xs.length - k ∧ k ≤ xs.length ∧ As' = []) xs.length ⟨0, rfl, by omega, by omega, rfl⟩ ?_
  rintro n x As' K ⟨k, rfl, rfl, hk, rfl⟩ hK
  refine xif_dec (fun hp => xdraw ?_) (fun hp => xret ⟨rfl, rfl⟩)
  refine xidxn (h1 := by omega) (h := fun x hx => ?_)
  refine xgetE hx (h := ?_)
  haveI : Fro B b I64 xs := ⟨hr.2⟩
  refine xidxn (h1 := by omega) (h := fun y hy => ?_)
  obtain rfl : x = y := by rw [hx] at hy; cases hy; rfl
  refine xgetE hx (h := ?_)
  refine xiff (by simp) ?_
  rw [wrap_succ k (by omega)]
  exact hK _ _ _ (by omega) ⟨k + 1, rfl, rfl, by omega, rfl⟩

theorem SameBools_spec (a b : Sl) (xs : List Bool) (hb : xs.length ≤ 1000000) : Ct Pr F_kit_SameBools [a.v, b.v] .one [.bool] [] ((RAr BL a xs).and (RAr BL b xs)) (fun t Bs => t.1 = true ∧ Bs = []) := by
  refine spec1 c_kit_SameBools fun B hr => ?_
  haveI : Fro B a BL xs := ⟨hr.1⟩
  have h1 := hr.1.1
  have h2 := hr.2.1
  unfold kit_SameBools
  refine xiff (by rw [← h1, ← h2]; simp) ?_
  refine xloop1 (fun n (x : Int) As' => ∃ k : Nat, x = (k : Int) ∧ n = xs.length - k ∧ k ≤ xs.length ∧ As' = []) xs.length ⟨0, rfl, by omega, by omega, rfl⟩ ?_
  rintro n x As' K ⟨k, rfl, rfl, hk, rfl⟩ hK
  refine xif_dec (fun hp => xdraw ?_) (fun hp => xret ⟨rfl, rfl⟩)
  refine xidxn (h1 := by omega) (h := fun x hx => ?_)
  refine xgetE hx (h := ?_)
  haveI : Fro B b BL xs := ⟨hr.2⟩
  refine xidxn (h1 := by omega) (h := fun y hy => ?_)
  obtain rfl : x = y := by rw [hx] at hy; cases hy; rfl
  refine xgetE hx (h := ?_)
  refine xiff (by simp) ?_
  rw [wrap_succ k (by omega)]
  exact hK _ _ _ (by omega) ⟨k + 1, rfl, rfl, by omega, rfl⟩

theorem SameWords_spec (a b : Sl) (xs : List UInt16) (hb : xs.length ≤ 1000000) : Ct Pr F_kit_SameWords [a.v, b.v] .one [.bool] [] ((RAr U16 a xs).and (RAr U16 b xs)) (fun t Bs => t.1 = true ∧ Bs = []) := by
  refine spec1 c_kit_SameWords fun B hr => ?_
  haveI : Fro B a U16 xs := ⟨hr.1⟩
  have h1 := hr.1.1
  have h2 := hr.2.1
  unfold kit_SameWords
  refine xiff (by rw [← h1, ← h2]; simp) ?_
  refine xloop1 (fun n (x : Int) As' => ∃ k : Nat, x = (k : Int) ∧ n = xs.length - k ∧ k ≤ xs.length ∧ As' = []) xs.length ⟨0, rfl, by omega, by omega, rfl⟩ ?_
  rintro n x As' K ⟨k, rfl, rfl, hk, rfl⟩ hK
  refine xif_dec (fun hp => xdraw ?_) (fun hp => xret ⟨rfl, rfl⟩)
  refine xidxn (h1 := by omega) (h := fun x hx => ?_)
  refine xgetE hx (h := ?_)
  haveI : Fro B b U16 xs := ⟨hr.2⟩
  refine xidxn (h1 := by omega) (h := fun y hy => ?_)
  obtain rfl : x = y := by rw [hx] at hy; cases hy; rfl
  refine xgetE hx (h := ?_)
  refine xiff (by simp) ?_
  rw [wrap_succ k (by omega)]
  exact hK _ _ _ (by omega) ⟨k + 1, rfl, rfl, by omega, rfl⟩

theorem SamePartsNil : Ct Pr F_kit_SameParts [nilS.v, nilS.v] .one [.bool] [] emp (fun t Bs => t.1 = true ∧ Bs = []) := by
  refine spec1 c_kit_SameParts fun B hr => ?_
  unfold kit_SameParts
  refine xiff rfl ?_
  refine xloop1 (fun n (x : Int) As' => x = 0 ∧ As' = []) 0 ⟨rfl, rfl⟩ ?_
  rintro n x As' K ⟨rfl, rfl⟩ hK
  exact xiff rfl (xret ⟨rfl, rfl⟩)

theorem SameAsk_spec (x y z : Int) : Ct Pr F_kit_SameAsk [.agg #[.int .i64 x, .int .i64 y, .int .i64 z, nilS.v, nilS.v, nilS.v], .agg #[.int .i64 x, .int .i64 y, .int .i64 z, nilS.v, nilS.v, nilS.v]] .one [.bool] [] emp (fun t Bs => t.1 = true ∧ Bs = []) := by
  refine spec1 c_kit_SameAsk fun B hr => ?_
  unfold kit_SameAsk
  refine xnew fun b => xnew fun b1 => ?_
  iterate 2 (refine xget (h := ?_))
  refine xjoin (xift (by simp) ?_)
  iterate 2 (refine xget (h := ?_))
  refine xjoin (xift (by simp) ?_)
  iterate 2 (refine xget (h := ?_))
  refine xjoin (xift (by simp) ?_)
  iterate 2 (refine xget (s := .slice) (x := nilS) (h := ?_))
  refine xcall0 (SameBools_spec nilS nilS [] (by decide)) rdb ?_
  rintro ⟨x, _⟩ _ ⟨hx, rfl⟩
  simp only at hx; subst hx
  refine app0 (ca1 (xjoin (xift rfl ?_)))
  iterate 2 (refine xget (s := .slice) (x := nilS) (h := ?_))
  refine xcall0 (SameWords_spec nilS nilS [] (by decide)) rdb ?_
  rintro ⟨x, _⟩ _ ⟨hx, rfl⟩
  simp only at hx; subst hx
  refine app0 (ca1 (xjoin (xift rfl ?_)))
  iterate 2 (refine xget (s := .slice) (x := nilS) (h := ?_))
  refine xcall0 SamePartsNil rdb ?_
  rintro ⟨x, _⟩ _ ⟨hx, rfl⟩
  simp only at hx; subst hx
  exact app0 (ca1 (xkeep (l := []) (xret ⟨rfl, rfl⟩)))

abbrev regT (name : ByteArray) (addr : Int) : Tag := ⟨name, 1, 3, addr, 5, false, false, false, 1, 1, 0, 0, 0, false, false, false, 0, 0, 0⟩
theorem reg_spec (name : ByteArray) (addr : Int) : Ct Pr F_law10_reg [.string name, .int .i64 addr] .agg [.str, .int .i64, .int .i64, .int .i64, .int .i64, .bool, .bool, .bool, .int .i64, .int .i64, .int .i64, .int .i64, .int .i64, .bool, .bool, .bool, .int .i64, .int .i64, .int .i64] [] emp
    (fun t Bs => t = (name, 1, 3, addr, 5, false, false, false, 1, 1, 0, 0, 0, false, false, false, 0, 0, 0, ()) ∧ Bs = []) := by
  refine spec19 c_law10_reg fun B hr => ?_
  unfold law10_reg
  refine xnew fun b => ?_
  iterate 19 (refine xset (h := ?_))
  iterate 19 (refine xget (h := ?_))
  exact xkeep (l := []) (xret ⟨rfl, rfl⟩)

abbrev near3 : List Tag := [regT ⟨#[97]⟩ 0, regT ⟨#[98]⟩ 1, regT ⟨#[99]⟩ 10]
abbrev poll3 : Poll := ⟨1, 3, 0, 11, 5, [0, 1, 2]⟩
abbrev words3 : List UInt16 := [7, 8, 0, 0, 0, 0, 0, 0, 0, 0, 9]

theorem all3 : allE near3 = (0, 0) := by kernel_rfl
theorem ord3 : ordF near3 = [⟨0, by decide⟩, ⟨1, by decide⟩, ⟨2, by decide⟩] := by
  unfold ordF
  rw [List.mergeSort_of_pairwise (by decide +kernel)]
  rfl
theorem plan3 : planM near3 = [poll3] := by
  unfold planM planL planK
  rw [all3, ord3]
  kernel_rfl
theorem vals3 : valuesM near3 poll3 0 [] words3 0 = ([7, 8, 9], 0) := by
  unfold valuesM
  rw [all3]
  kernel_rfl

theorem works_spec : Ct Pr F_law10_works [] .one [.bool] [] emp (fun t Bs => t.1 = true ∧ Bs = []) := by
  refine spec1 c_law10_works fun B hr => ?_
  unfold law10_works
  refine xcall0 (reg_spec _ _) rdb ?_
  rintro t _ ⟨rfl, rfl⟩
  refine app0 (ca19 ?_)
  refine xcall0 (reg_spec _ _) rdb ?_
  rintro t _ ⟨rfl, rfl⟩
  refine app0 (ca19 ?_)
  refine xcall0 (reg_spec _ _) rdb ?_
  rintro t _ ⟨rfl, rfl⟩
  refine app0 (ca19 (xnew fun b => ?_))
  refine xfold1 (Q := Ar TG ⟨some ⟨b, 0, none⟩, 3, 3⟩ near3) 0 (fun g hg => ⟨[], blk_ar near3 3 rfl rfl hg⟩) ?_
  refine xcall0 (Plan_spec ⟨some ⟨b, 0, none⟩, 3, 3⟩ near3) rdb ?_
  rintro ⟨s, e, _⟩ _ ⟨he, rfl⟩
  simp only at he; rw [all3] at he; subst he
  rw [plan3]
  refine app1 (ca2 ?_)
  refine xopen 0 (fun Bs => ∃ sp : Sl, Bs = [Ar PR s [(poll3, sp)], Ar I64 sp [0, 1, 2]]) (fun g hg => ?_) ?_
  · obtain ⟨rows, hrows, hs⟩ := hg
    match rows, hrows with
    | [(q, sp)], hrows =>
      obtain rfl : q = poll3 := by simpa using hrows
      refine ⟨_, ⟨sp, rfl⟩, star_cons (fun h hh => ?_) hs⟩
      obtain ⟨g1, g2, p1, p2, dd, s1, s2⟩ := hh
      obtain ⟨a, c, pa, pc, d', sa, sc⟩ := p1
      exact ⟨a, g2, pa, trivial, fun _ => by
        rcases dd.sub sa (Sub.refl _) ‹_› with e | e
        · exact .inl e
        · exact .inr e, sa.trans s1, s2⟩
  rintro _ ⟨sp, rfl⟩
  refine app2 ?_
  refine xlen s (fun hsn _ => ?_)
  have hsn : s.n = 1 := by simpa using hsn.symm
  refine xjoin (xiff (by rw [hsn]; rfl) ?_)
  refine xidx (E := PR) (xs := [(poll3, sp)]) (h0 := by decide) (h1 := by simp) (h := fun x hx => ?_)
  obtain rfl : (poll3, sp) = x := by simpa using hx
  refine xgetEj hx (h := xjoin (xiff rfl ?_))
  refine xidx (E := PR) (xs := [(poll3, sp)]) (h0 := by decide) (h1 := by simp) (h := fun x hx' => ?_)
  refine xgetEj hx (h := xnew fun b1 => ?_)
  refine xfold1 (Q := Ar I64 ⟨some ⟨b1, 0, none⟩, 3, 3⟩ [0, 1, 2]) 0 (fun g hg => ⟨[], blk_ar [0, 1, 2] 3 rfl rfl hg⟩) ?_
  refine xcall0 (SameInts_spec sp ⟨some ⟨b1, 0, none⟩, 3, 3⟩ [0, 1, 2] (by decide)) rdb ?_
  rintro ⟨x, _⟩ _ ⟨hx1, rfl⟩
  simp only at hx1; subst hx1
  refine app0 (ca1 (xiff rfl ?_))
  refine xidx (E := PR) (xs := [(poll3, sp)]) (h0 := by decide) (h1 := by simp) (h := fun x hx' => ?_)
  refine xgetE hx (h := ?_)
  iterate 5 (refine xgetEj hx (h := ?_))
  refine xnew fun b2 => ?_
  refine xfold1 (Q := Ar U16 ⟨some ⟨b2, 0, none⟩, 11, 11⟩ words3) 0 (fun g hg => ⟨[], blk_ar words3 11 rfl rfl hg⟩) ?_
  refine xcall0 (Values_spec ⟨some ⟨b, 0, none⟩, 3, 3⟩ near3 poll3 sp 0 nilS ⟨some ⟨b2, 0, none⟩, 11, 11⟩ nilS [] words3 (Nat.le_refl _) (by decide)) rdb ?_
  rintro ⟨s3, e, _⟩ _ ⟨he, rfl⟩
  simp only at he
  have hv : valuesM near3 poll3 0 [] words3 nilS.n = ([7, 8, 9], 0) := vals3
  rw [vals3] at he
  rw [hv]
  subst he
  refine app1 (ca2 (xjoin (xift rfl (xnew fun b3 => ?_))))
  refine xfold1 (Q := Ar I64 ⟨some ⟨b3, 0, none⟩, 3, 3⟩ [7, 8, 9]) 0 (fun g hg => ⟨[], blk_ar [7, 8, 9] 3 rfl rfl hg⟩) ?_
  refine xcall0 (SameInts_spec s3 ⟨some ⟨b3, 0, none⟩, 3, 3⟩ [7, 8, 9] (by decide)) rdb ?_
  rintro ⟨x, _⟩ _ ⟨hx2, rfl⟩
  simp only at hx2; subst hx2
  exact app0 (ca1 (xkeep (l := []) (xret ⟨rfl, rfl⟩)))

theorem PlanAsks_spec (p : Poll) (sp : Sl) : Ct Pr F_law10_PlanAsks [.agg #[.int .i64 p.unit, .int .i64 p.kind, .int .i64 p.addr, .int .i64 p.count, .int .i64 p.every, sp.v]] .one [.bool] [] emp (fun t Bs => t.1 = true ∧ Bs = []) := by
  refine spec1 c_law10_PlanAsks fun B hr => ?_
  unfold law10_PlanAsks
  refine xnew fun b => ?_
  iterate 6 (refine xget (h := ?_))
  refine xcall0 (Ask_spec p sp) rdb ?_
  rintro t _ ⟨rfl, rfl⟩
  refine app0 (ca7 (xnew fun b1 => ?_))
  iterate 6 (refine xset (h := ?_))
  iterate 6 (refine xget (h := ?_))
  refine xcall0 (AskRef10_spec p sp) rdb ?_
  rintro t _ ⟨rfl, rfl⟩
  refine app0 (ca7 (xnew fun b2 => ?_))
  iterate 6 (refine xset (h := ?_))
  refine xjoin (xift (by simp) ?_)
  iterate 3 (refine xget (h := ?_))
  iterate 3 (refine xget (s := .slice) (x := nilS) (h := ?_))
  iterate 3 (refine xget (h := ?_))
  iterate 3 (refine xget (s := .slice) (x := nilS) (h := ?_))
  refine xcall0 (SameAsk_spec _ _ _) rdb ?_
  rintro ⟨x, _⟩ _ ⟨hx, rfl⟩
  simp only at hx; subst hx
  refine app0 (ca1 (xjoin (xift rfl ?_)))
  refine xcall0 works_spec rdb ?_
  rintro ⟨x, _⟩ _ ⟨hx, rfl⟩
  simp only at hx; subst hx
  exact app0 (ca1 (xkeep (l := []) (xret ⟨rfl, rfl⟩)))

end Go.Cx
