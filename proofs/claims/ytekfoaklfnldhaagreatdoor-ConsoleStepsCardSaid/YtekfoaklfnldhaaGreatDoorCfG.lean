/-
  A region whose order Go leaves open: its formula serves for every order.
-/
import Derived.Test.YtekfoaklfnldhaaGreatDoorCfE
namespace Go.Cf
open Go

theorem memN_unionN {t : Nat} : ∀ (l s : List Nat), memN t (unionN l s) = true ↔ memN t l = true ∨ memN t s = true := by
  intro l
  induction l with
  | nil => intro s; simp [unionN, memN]
  | cons x r ih =>
    intro s
    simp only [unionN, ih, memN_insN]
    simp only [memN_iff, List.mem_cons]
    constructor
    · rintro (h | h | h)
      · exact .inl (.inr h)
      · exact .inl (.inl h)
      · exact .inr h
    · rintro ((h | h) | h)
      · exact .inr (.inl h)
      · exact .inl h
      · exact .inr (.inr h)

theorem befStep_mem {acc : List (List Nat)} {r : Nat} : ∀ (ms : List Nat), memN r (befStep acc ms) = true → ∃ m ∈ ms, r = m ∨ memN r (getN acc m) = true := by
  intro ms
  induction ms with
  | nil => intro h; simp [befStep, memN] at h
  | cons m ms ih =>
    intro h
    simp only [befStep, memN_unionN] at h
    rcases h with h | h
    · rw [memN_iff, List.mem_cons] at h
      rcases h with h | h
      · exact ⟨m, List.mem_cons_self .., .inl h⟩
      · exact ⟨m, List.mem_cons_self .., .inr (memN_iff.2 h)⟩
    · obtain ⟨m', hm, h⟩ := ih h
      exact ⟨m', List.mem_cons_of_mem _ hm, h⟩

theorem getN_ge : ∀ (l : List (List Nat)) (i : Nat), l.length ≤ i → getN l i = [] := by
  intro l
  induction l with
  | nil => intro i _; rfl
  | cons x r ih =>
    intro i h
    cases i with
    | zero => simp at h
    | succ i => exact ih i (by simpa using h)

theorem getN_append_left : ∀ (l l' : List (List Nat)) (i : Nat), i < l.length → getN (l ++ l') i = getN l i := by
  intro l
  induction l with
  | nil => intro l' i h; simp at h
  | cons x r ih =>
    intro l' i h
    cases i with
    | zero => rfl
    | succ i => exact ih l' i (by simpa using h)

theorem getN_append_at : ∀ (l : List (List Nat)) (x : List Nat), getN (l ++ [x]) l.length = x := by
  intro l
  induction l with
  | nil => intro x; rfl
  | cons y r ih => intro x; exact ih x

section
variable {ops : List Oper}

/-- What is closed under the direct edges holds all that lies ahead of what it may do next. -/
theorem bef_closed {D : Nat → Prop} (hcl : ∀ i o, D i → ops[i]? = some o → ∀ m ∈ dirDeps o, D m) :
    ∀ i o, ops[i]? = some o → (∀ m ∈ dirDeps o, D m) → ∀ r, memN r (getN (befsOf ops []) i) = true → D r := by
  have key : ∀ (l : List Oper) (acc : List (List Nat)), l = ops.drop acc.length → acc.length ≤ ops.length →
      (∀ i o, ops[i]? = some o → (∀ m ∈ dirDeps o, D m) → ∀ r, memN r (getN acc i) = true → D r) →
      ∀ i o, ops[i]? = some o → (∀ m ∈ dirDeps o, D m) → ∀ r, memN r (getN (befsOf l acc) i) = true → D r := by
    intro l
    induction l with
    | nil => intro acc _ _ h; exact h
    | cons o os ih =>
      intro acc hl hle h
      have hlt : acc.length < ops.length := by
        rcases Nat.lt_or_ge acc.length ops.length with h' | h'
        · exact h'
        · rw [List.drop_eq_nil_of_le h'] at hl; cases hl
      have ho : ops[acc.length]? = some o := by
        have := congrArg (fun l => l[0]?) hl
        simpa using this.symm
      refine ih (acc ++ [befStep acc (dirDeps o)]) ?_ (by simp; omega) ?_
      · have := congrArg List.tail hl
        simpa using this
      · intro i oi hi hd r hr
        rcases Nat.lt_trichotomy i acc.length with hlt' | heq | hgt
        · rw [getN_append_left _ _ _ hlt'] at hr
          exact h i oi hi hd r hr
        · subst heq
          rw [ho] at hi
          cases hi
          rw [getN_append_at] at hr
          obtain ⟨m, hm, hr⟩ := befStep_mem _ hr
          rcases hr with rfl | hr
          · exact hd _ hm
          · cases hom : ops[m]? with
            | none =>
              have : acc.length ≤ m := by
                have := List.getElem?_eq_none_iff.1 hom; omega
              rw [getN_ge _ _ this] at hr
              simp [memN] at hr
            | some om => exact h m om hom (hcl m om (hd m hm) hom) r hr
        · rw [getN_ge _ _ (by simp; omega)] at hr
          simp [memN] at hr
  exact key ops [] (by simp) (by simp) (fun i o _ _ r hr => by simp [getN, memN] at hr)

theorem dsts_mem {t : Nat} : ∀ {l : List Oper} {i : Nat} {o : Oper}, l[i]? = some o → o.dst = some t → memN t (dsts l) = true := by
  intro l
  induction l with
  | nil => intro i o h; simp at h
  | cons x r ih =>
    intro i o h hd
    cases i with
    | zero =>
      simp only [List.getElem?_cons_zero, Option.some.injEq] at h
      subst h
      simp [dsts, hd, memN]
    | succ i =>
      have := ih (i := i) (by simpa using h) hd
      unfold dsts
      cases hx : x.dst with
      | none => exact this
      | some u => simp only [memN, this]; cases Nat.beq u t <;> rfl

theorem dsts_unique {t : Nat} : ∀ {l : List Oper}, nodupN (dsts l) = true → ∀ {i j : Nat} {oi oj : Oper}, l[i]? = some oi → l[j]? = some oj → oi.dst = some t → oj.dst = some t → i = j := by
  intro l
  induction l with
  | nil => intro _ i j oi oj h; simp at h
  | cons x r ih =>
    intro hn i j oi oj hi hj di dj
    have hr : nodupN (dsts r) = true := by
      unfold dsts at hn
      cases hx : x.dst with
      | none => rw [hx] at hn; exact hn
      | some u => rw [hx] at hn; simp only [nodupN, Bool.and_eq_true] at hn; exact hn.2
    have hx0 : ∀ (k : Nat) (o : Oper), r[k]? = some o → o.dst = some t → x.dst ≠ some t := by
      intro k o hk hd hx
      unfold dsts at hn
      rw [hx] at hn
      simp only [nodupN, Bool.and_eq_true, Bool.not_eq_true'] at hn
      rw [dsts_mem hk hd] at hn
      simp at hn
    cases i with
    | zero =>
      cases j with
      | zero => rfl
      | succ j =>
        simp only [List.getElem?_cons_zero, Option.some.injEq] at hi
        subst hi
        exact absurd di (hx0 j oj (by simpa using hj) dj)
    | succ i =>
      cases j with
      | zero =>
        simp only [List.getElem?_cons_zero, Option.some.injEq] at hj
        subst hj
        exact absurd dj (hx0 i oi (by simpa using hi) di)
      | succ j =>
        have := ih hr (i := i) (j := j) (by simpa using hi) (by simpa using hj) di dj
        rw [this]

theorem writerOf_some {t : Nat} : ∀ {l : List Oper} {k u : Nat}, writerOf l k t = some u → ∃ (v : Nat) (o : Oper), u = k + v ∧ l[v]? = some o ∧ o.dst = some t := by
  intro l
  induction l with
  | nil => intro k u h; cases h
  | cons x r ih =>
    intro k u h
    have step : writerOf r (k + 1) t = some u → ∃ (v : Nat) (o : Oper), u = k + v ∧ (x :: r)[v]? = some o ∧ o.dst = some t := by
      intro h
      obtain ⟨v, o, rfl, ho, hd⟩ := ih h
      exact ⟨v + 1, o, by omega, by simpa using ho, hd⟩
    unfold writerOf at h
    cases hx : x.dst with
    | none => rw [hx] at h; exact step h
    | some d =>
      rw [hx] at h
      simp only at h
      cases hb : Nat.beq d t with
      | false => rw [hb] at h; exact step h
      | true =>
        rw [hb] at h
        simp only [cond_true, Option.some.injEq] at h
        exact ⟨0, x, by omega, rfl, by rw [hx, Nat.eq_of_beq_eq_true hb]⟩

theorem writerOf_none {t : Nat} : ∀ {l : List Oper} {k : Nat}, writerOf l k t = none → ∀ (i : Nat) (o : Oper), l[i]? = some o → o.dst ≠ some t := by
  intro l
  induction l with
  | nil => intro k _ i o h; simp at h
  | cons x r ih =>
    intro k h i o hi hd
    have hr : writerOf r (k + 1) t = none ∧ x.dst ≠ some t := by
      unfold writerOf at h
      cases hx : x.dst with
      | none => rw [hx] at h; exact ⟨h, by simp⟩
      | some d =>
        rw [hx] at h
        simp only at h
        cases hb : Nat.beq d t with
        | true => rw [hb] at h; cases h
        | false =>
          rw [hb] at h
          refine ⟨h, fun e => ?_⟩
          simp only [Option.some.injEq] at e
          subst e
          simp at hb
    cases i with
    | zero =>
      simp only [List.getElem?_cons_zero, Option.some.injEq] at hi
      subst hi
      exact hr.2 hd
    | succ i => exact ih hr.1 i o (by simpa using hi) hd

/-- The one that writes a slot. -/
theorem writerOf_at {t u : Nat} {ou : Oper} (hn : nodupN (dsts ops) = true) (hu : ops[u]? = some ou) (hd : ou.dst = some t) : writerOf ops 0 t = some u := by
  cases hw : writerOf ops 0 t with
  | none => exact absurd hd (writerOf_none hw u ou hu)
  | some v =>
    obtain ⟨v', o, e, ho, hd'⟩ := writerOf_some hw
    have := dsts_unique hn ho hu hd' hd
    rw [e, this]; simp

structure OpFacts (N : Nat) (ops : List Oper) (i : Nat) (o : Oper) : Prop where
  reads : ∀ x ∈ o.op.operands, readOk ops (befsOf ops []) i x = true
  dst : ∀ t, o.dst = some t → t < N
  sel : ∀ cs b, o.op ≠ .select cs b
  guard : ∀ g b, o.guard = some (g, b) → g ∈ dirDeps o ∧ ∃ d, dstOf ops g = some d

theorem opChk_spec {N : Nat} {befs : List (List Nat)} (hb : befs = befsOf ops []) : ∀ (l : List Oper) (k : Nat), opChk N ops befs l k = true → ∀ (i : Nat) (o : Oper), l[i]? = some o → OpFacts N ops (k + i) o := by
  intro l
  induction l with
  | nil => intro k _ i o h; simp at h
  | cons x r ih =>
    intro k h i o hi
    simp only [opChk, Bool.and_eq_true] at h
    obtain ⟨⟨⟨⟨h1, h2⟩, h3⟩, h4⟩, h5⟩ := h
    cases i with
    | succ i =>
      have := ih (k + 1) h5 i o (by simpa using hi)
      rw [show k + (i + 1) = k + 1 + i by omega]
      exact this
    | zero =>
      simp only [List.getElem?_cons_zero, Option.some.injEq] at hi
      subst hi
      refine ⟨fun x hx => ?_, fun t ht => ?_, fun cs b e => ?_, fun g b e => ?_⟩
      · have := List.all_eq_true.1 h1 x (by simpa using hx)
        rw [hb] at this; exact this
      · rw [ht] at h2; simpa [Nat.blt_eq] using h2
      · rw [e] at h3; simp at h3
      · rw [e] at h4
        simp only [Bool.and_eq_true] at h4
        refine ⟨memN_iff.1 h4.1, ?_⟩
        cases hd : dstOf ops g with
        | none => rw [hd] at h4; simp at h4
        | some d => exact ⟨d, rfl⟩

end

/-- What one may read is there still. -/
def KeepsC (w w1 : World) : Prop := ∀ a v, w.cell? a = some v → w1.cell? a = some v
theorem KeepsC.refl (w : World) : KeepsC w w := fun _ _ h => h
theorem KeepsC.trans {a b c : World} (h : KeepsC a b) (k : KeepsC b c) : KeepsC a c := fun x v e => k x v (h x v e)

theorem getCells_keep {P : Program} {w : World} : ∀ (ss : List Sh) (ad : Addr) (i : Nat) (acc : List Value) (K : List Value → WP), getCells ss ad i acc K w →
    ∃ vs, (∀ w', KeepsC w w' → (loadCellsFrom ad i ss.length acc.reverse.toArray).run P w' = .ok vs.toArray w') ∧ K vs w := by
  intro ss
  induction ss with
  | nil => intro ad i acc K h; exact ⟨acc.reverse, fun _ _ => rfl, h⟩
  | cons s ss ih =>
    intro ad i acc K h
    obtain ⟨x, hx, h⟩ := h
    obtain ⟨vs, hv, h⟩ := ih ad (i + 1) (s.mk x :: acc) K h
    refine ⟨vs, fun w' hk => ?_, h⟩
    simp only [List.length_cons, loadCellsFrom, Sem.run_bind, run_load, hk _ _ hx, Result.andThen_ok]
    have e : (acc.reverse.toArray.push (s.mk x)) = (s.mk x :: acc).reverse.toArray := by simp
    rw [e]; exact hv w' hk

theorem wpOp1_load {P : Program} {w : World} {ρ : Env} {o : Oper} {K : Env → WP} (hl : isLoadB o = true) (h : wpOp1 P o ρ K w) :
    ∃ v, K (put ρ o.dst v) w ∧ ∀ w', KeepsC w w' → (execOp (ev ρ) o).run P w' = .ok (.value v) w' := by
  obtain ⟨dst, op, type, pos, after, guard⟩ := o
  cases op <;> simp only [isLoadB, Bool.false_eq_true] at hl
  rename_i t x
  simp only [wpOp1] at h
  simp only [execOp]
  cases hx : ev ρ x <;> rw [hx] at h <;> try exact h.elim
  rename_i q
  cases q with
  | none => exact h.elim
  | some ad =>
  simp only at h
  cases hagg : isAggB P t with
  | true =>
    rw [hagg] at h
    simp only [cond_true] at h
    obtain ⟨d, hd⟩ := isAggB_under hagg
    cases hsz : szOf P t with
    | none => rw [hsz] at h; exact h.elim
    | some n =>
      rw [hsz] at h
      obtain ⟨hb, h⟩ := of_bif_bad h
      have hb := Nat.eq_of_beq_eq_true hb
      obtain ⟨vs, hv, h⟩ := getCells_keep (P := P) _ _ _ _ _ h
      refine ⟨_, h, fun w' hk => run_val ?_⟩
      have hv := hv w' hk
      simp only [Instr.loadAt, Instr.sureAddr, Sem.run_bind, Sem.run_pure, Result.andThen_ok, loadVar, isAgg_run hd, hagg, if_true, run_sz hsz, loadCells]
      rw [hb]
      simp only [List.reverse_nil] at hv
      rw [hv]
      rfl
  | false =>
    rw [hagg] at h
    simp only [cond_false] at h
    cases hsh : shapes P 20 t with
    | nil => rw [hsh] at h; exact h.elim
    | cons s r =>
      cases r with
      | cons _ _ => rw [hsh] at h; exact h.elim
      | nil =>
        rw [hsh] at h
        obtain ⟨d, hd⟩ := shapes_under hsh
        obtain ⟨y, hy, h⟩ := h
        refine ⟨_, h, fun w' hk => run_val ?_⟩
        simp only [Instr.loadAt, Instr.sureAddr, Sem.run_bind, Sem.run_pure, Result.andThen_ok, loadVar, isAgg_run hd, hagg, Bool.false_eq_true, if_false, run_load, hk _ _ hy]

theorem wpOp1_nul2 {P : Program} {w : World} {ρ : Env} {o : Oper} {K : Env → WP} (hnul : isNul P o = true) (h : wpOp1 P o ρ K w) :
    ∃ v, K (put ρ o.dst v) w ∧ (∀ w', KeepsC w w' → (execOp (ev ρ) o).run P w' = .ok (.value v) w') ∧ (isLoadB o = true ∨ ∀ w', (execOp (ev ρ) o).run P w' = .ok (.value v) w') := by
  cases hl : isLoadB o with
  | true =>
    obtain ⟨v, h1, h2⟩ := wpOp1_load hl h
    exact ⟨v, h1, h2, .inl rfl⟩
  | false =>
    obtain ⟨v, h1, _, h3⟩ := wpOp1_nul hnul h
    rcases h3 with h3 | h3
    · rw [hl] at h3; cases h3
    · exact ⟨v, h1, fun w' _ => h3 w', .inr h3⟩

/-- What is made turns nothing that is there. -/
theorem keeps_alloc (w : World) (o : Obj) : KeepsC w (w.alloc o) := by
  intro a v h
  have hlt : a.block < w.heap.size := by
    unfold World.cell? at h
    split at h
    · rename_i hb; exact (Array.getElem?_eq_some_iff.1 hb).1
    · cases h
  have e : (w.alloc o).heap[a.block]? = w.heap[a.block]? := by
    show (w.heap.push o)[a.block]? = _
    rw [Array.getElem?_push_lt hlt, Array.getElem?_eq_getElem hlt]
  unfold World.cell? at h ⊢
  rw [e]
  exact h

theorem wpOp1_alloc {P : Program} {w : World} {ρ : Env} {o : Oper} {K : Env → WP} (ha : isAllocB o = true) (h : wpOp1 P o ρ K w) : wpOp1 P o ρ (fun ρ' w1 => K ρ' w1 ∧ KeepsC w w1) w := by
  obtain ⟨dst, op, type, pos, after, guard⟩ := o
  have xn : ∀ {cs : List Value} {e : TypeId} {F : Nat → WP}, XNew cs e F w → XNew cs e (fun b w1 => F b w1 ∧ KeepsC w w1) w := fun h => ⟨h, keeps_alloc _ _⟩
  cases op <;> simp only [isAllocB, Bool.false_eq_true] at ha
  · rename_i e
    simp only [wpOp1] at h ⊢
    cases hz : (P.info? e).bind (·.zero) with
    | none => rw [hz] at h; exact h.elim
    | some z => rw [hz] at h; exact xn h
  · simp only [wpOp1] at h ⊢
    exact xn h
  · rename_i t len parts
    simp only [wpOp1] at h ⊢
    cases hu : P.underlying t with
    | none => rw [hu] at h; exact h.elim
    | some d =>
      rw [hu] at h
      cases d <;> (try exact h.elim)
      rename_i e
      simp only at h ⊢
      cases hs : szOf P e with
      | none => rw [hs] at h; exact h.elim
      | some n =>
        cases hz : zeroOf P e with
        | none => rw [hs, hz] at h; exact h.elim
        | some z =>
          rw [hs, hz] at h
          simp only at h ⊢
          obtain ⟨hb, h⟩ := of_bif_bad h
          rw [hb]
          simp only [cond_true]
          cases hf : fillL (fun i => some (i * n, n)) (repL z len) (partsE ρ parts.toList) with
          | none => rw [hf] at h; exact h.elim
          | some cs => rw [hf] at h; exact xn h

def WantV (V : Nat → Value) (o : Oper) : Prop :=
  match o.guard with
  | none => True
  | some (g, b) => V g = .bool b

inductive OrdOK (ops : List Oper) : List Nat → Prop
  | nil : OrdOK ops []
  | cons {x : Nat} {X : List Nat} : (∀ o, ops[x]? = some o → ∀ m ∈ dirDeps o, m ∈ X) → OrdOK ops X → OrdOK ops (x :: X)

theorem OrdOK.closed {ops : List Oper} {X : List Nat} (h : OrdOK ops X) : ∀ i o, i ∈ X → ops[i]? = some o → ∀ m ∈ dirDeps o, m ∈ X := by
  induction h with
  | nil => intro i o hi; cases hi
  | cons hx _ ih =>
    intro i o hi ho m hm
    rcases List.mem_cons.1 hi with rfl | hi
    · exact List.mem_cons_of_mem _ (hx o ho m hm)
    · exact List.mem_cons_of_mem _ (ih i o hi ho m hm)

def Dn (listed : Array Bool) (i : Nat) : Prop := listed[i]? = some true

/-- Where what an operation reads has come from. -/
def Src (ops : List Oper) (ρ0 : Env) (X : List Nat) (V : Nat → Value) (i : Nat) (o : Oper) (ρ : Env) : Prop :=
  ∀ x ∈ o.op.operands, hasOp ρ x = true ∧ ∀ t, x = .tmp t →
    (∃ u ou, ops[u]? = some ou ∧ ou.dst = some t ∧ memN u (getN (befsOf ops []) i) = true ∧ gv ρ t = V u ∧ u ∈ X) ∨
    (has ρ0 t = true ∧ gv ρ t = gv ρ0 t ∧ ∀ (u : Nat) (ou : Oper), ops[u]? = some ou → ou.dst = some t → memN u (getN (befsOf ops []) i) = false ∧ memN i (getN (befsOf ops []) u) = true)

def Pend (P : Program) (ops : List Oper) (ρ0 : Env) (X : List Nat) (V : Nat → Value) (w : World) (i : Nat) (o : Oper) : Prop :=
  (WantV V o ∧ ∃ ρ, Src ops ρ0 X V i o ρ ∧ (∀ w', KeepsC w w' → (execOp (ev ρ) o).run P w' = .ok (.value (V i)) w') ∧ (isLoadB o = true ∨ ∀ w', (execOp (ev ρ) o).run P w' = .ok (.value (V i)) w')) ∨
  (¬ WantV V o ∧ V i = undef)

def EnvOK (ops : List Oper) (ρ0 : Env) (X : List Nat) (V : Nat → Value) (ρ : Env) : Prop :=
  ∀ t, has ρ t = true → (∃ i o, i ∈ X ∧ ops[i]? = some o ∧ o.dst = some t ∧ gv ρ t = V i) ∨ (has ρ0 t = true ∧ gv ρ t = gv ρ0 t ∧ ∀ (i : Nat) (o : Oper), i ∈ X → ops[i]? = some o → o.dst ≠ some t)

structure Can (P : Program) (ops : List Oper) (ρ0 : Env) (D : Nat → Prop) (w : World) (X : List Nat) (V : Nat → Value) (ρ : Env) : Prop where
  ord : OrdOK ops X
  xb : ∀ i ∈ X, ∃ o, ops[i]? = some o
  env : EnvOK ops ρ0 X V ρ
  pend : ∀ i o, i ∈ X → ¬ D i → ops[i]? = some o → Pend P ops ρ0 X V w i o

structure Act1 (dl : List Deferred) (N : Nat) (ops : List Oper) (ρ0 : Env) (Fr : Act → Prop) (listed : Array Bool) (a : Act) (X : List Nat) (V : Nat → Value) : Prop where
  lsize : listed.size = ops.length
  dx : ∀ i, Dn listed i → i ∈ X
  dcl : ∀ i o, Dn listed i → ops[i]? = some o → ∀ m ∈ dirDeps o, Dn listed m
  size : N ≤ a.tmps.size
  defs : a.defers = dl
  fr : Fr a
  vals : ∀ i o t, Dn listed i → ops[i]? = some o → o.dst = some t → a.tmps[t]? = some (V i)
  base : ∀ t, has ρ0 t = true → (∀ i o, Dn listed i → ops[i]? = some o → o.dst ≠ some t) → a.tmps[t]? = some (gv ρ0 t)

section
variable {P : Program} {rn : Option Nat} {dl : List Deferred} {N : Nat} {ops : List Oper} {ρ0 : Env} {X : List Nat} {V : Nat → Value}

theorem dstOf_some {g d : Nat} (h : dstOf ops g = some d) : ∃ o, ops[g]? = some o ∧ o.dst = some d := by
  unfold dstOf at h
  cases ho : ops[g]? with
  | none => rw [ho] at h; cases h
  | some o => rw [ho] at h; exact ⟨o, rfl, h⟩

/-- What the frame says of a slot that a done operation wrote. -/
theorem EnvOK.at {ρ : Env} (he : EnvOK ops ρ0 X V ρ) (hn : nodupN (dsts ops) = true) {i t : Nat} {o : Oper} (hi : i ∈ X) (ho : ops[i]? = some o) (hd : o.dst = some t) (hh : has ρ t = true) : gv ρ t = V i := by
  rcases he t hh with ⟨j, oj, _, hoj, hdj, hv⟩ | ⟨_, _, hno⟩
  · rw [hv, dsts_unique hn hoj ho hdj hd]
  · exact absurd hd (hno i o hi ho)

theorem gsat_want {dec : List Nat} {ρ : Env} {i : Nat} {o : Oper} {r : Bool} (he : EnvOK ops ρ0 X V ρ) (hn : nodupN (dsts ops) = true) (hf : OpFacts N ops i o) (hX : ∀ m ∈ dirDeps o, m ∈ X)
    (h : gsat ops dec ρ o.guard = some r) : WantV V o ↔ r = true := by
  unfold WantV
  cases hg : o.guard with
  | none => rw [hg] at h; simp only [gsat, Option.some.injEq] at h; simp [← h]
  | some gb =>
    obtain ⟨g, b⟩ := gb
    rw [hg] at h
    simp only [gsat] at h
    cases hm : memN g dec with
    | false => rw [hm] at h; cases h
    | true =>
      rw [hm] at h
      simp only [cond_true] at h
      obtain ⟨hgd, d, hd⟩ := hf.guard g b hg
      rw [hd] at h
      simp only at h
      cases hh : has ρ d with
      | false => rw [hh] at h; cases h
      | true =>
        rw [hh] at h
        simp only [cond_true] at h
        obtain ⟨og, hog, hdg⟩ := dstOf_some hd
        have hv := he.at hn (hX g hgd) hog hdg hh
        simp only
        rw [← hv]
        clear hv
        cases hgv : gv ρ d <;> rw [hgv] at h <;> simp only [reduceCtorEq, Option.some.injEq] at h
        rename_i x
        subst h
        cases x <;> cases b <;> simp

theorem gsat_want2 {dec : List Nat} {ρ : Env} {i : Nat} {o : Oper} {r : Bool} (he : EnvOK ops ρ0 X V ρ) (hn : nodupN (dsts ops) = true) (hf : OpFacts N ops i o) (hX : ∀ m ∈ dirDeps o, m ∈ X)
    (h : gsat2 ops dec ρ o.guard = some r) : WantV V o ↔ r = true := by
  unfold gsat2 at h
  cases hs : gsat ops dec ρ o.guard with
  | some r' =>
    rw [hs] at h
    simp only [Option.some.injEq] at h
    subst h
    exact gsat_want he hn hf hX hs
  | none =>
    rw [hs] at h
    cases hg : o.guard with
    | none => rw [hg] at h; simp at h
    | some gb =>
      obtain ⟨g, b⟩ := gb
      rw [hg] at h
      simp only at h
      obtain ⟨hgd, d, hd⟩ := hf.guard g b hg
      rw [hd] at h
      simp only at h
      cases hu : (has ρ d && isUndef (gv ρ d)) with
      | false => rw [hu] at h; cases h
      | true =>
        rw [hu] at h
        simp only [cond_true, Option.some.injEq] at h
        simp only [Bool.and_eq_true] at hu
        obtain ⟨og, hog, hdg⟩ := dstOf_some hd
        have hv := he.at hn (hX g hgd) hog hdg hu.1
        unfold WantV
        rw [hg, ← h]
        simp only
        rw [← hv]
        have h2 := hu.2
        clear hv
        cases hgv : gv ρ d <;> rw [hgv] at h2 <;> simp [isUndef] at h2 ⊢

theorem EnvOK.known {ρ : Env} (he : EnvOK ops ρ0 X V ρ) {d : Nat} {x : Bool} (hh : has ρ d = true) (hv : gv ρ d = .bool x) : EnvOK ops ρ0 X V ((d, .bool x) :: ρ) := by
  intro t ht
  rw [has_cons] at ht
  rw [gv_cons]
  cases hb : Nat.beq d t with
  | true =>
    have := Nat.eq_of_beq_eq_true hb
    subst this
    simp only [cond_true]
    rw [← hv]
    exact he d hh
  | false =>
    rw [hb] at ht
    exact he t ht

/-- One operation, met: it is wanted, and done, or it is passed over. -/
theorem stepOne_spec {o : Oper} {i : Nat} {dec : List Nat} {ρ : Env} {kR kS : List Nat → Env → WP} {w : World} (he : EnvOK ops ρ0 X V ρ) (hn : nodupN (dsts ops) = true) (hf : OpFacts N ops i o) (hX : ∀ m ∈ dirDeps o, m ∈ X)
    (h : stepOne P N ops o dec ρ kR kS w) :
    ∃ dec' ρ', EnvOK ops ρ0 X V ρ' ∧ ((WantV V o ∧ opOk N ρ' o = true ∧ wpOp1 P o ρ' (kR dec') w) ∨ (¬ WantV V o ∧ kS dec' (put ρ' o.dst undef) w)) := by
  unfold stepOne at h
  cases hg : gsat2 ops dec ρ o.guard with
  | some r =>
    rw [hg] at h
    have hw := gsat_want2 he hn hf hX hg
    cases r with
    | true =>
      obtain ⟨hok, h⟩ := of_bif_bad h
      exact ⟨dec, ρ, he, .inl ⟨hw.2 rfl, hok, h⟩⟩
    | false => exact ⟨dec, ρ, he, .inr ⟨fun hh => Bool.false_ne_true (hw.1 hh), h⟩⟩
  | none =>
    rw [hg] at h
    cases hgo : o.guard with
    | none => rw [hgo] at hg; simp [gsat2, gsat] at hg
    | some jb =>
      obtain ⟨j, b⟩ := jb
      rw [hgo] at h
      simp only at h
      obtain ⟨hjd, d, hd⟩ := hf.guard j b hgo
      rw [hd] at h
      simp only at h
      cases hh : has ρ d with
      | false => rw [hh] at h; exact h.elim
      | true =>
        rw [hh] at h
        cases hv : gv ρ d <;> (try (rw [hv] at h; exact h.elim))
        rename_i x
        rw [hv] at h
        simp only at h
        obtain ⟨og, hog, hdg⟩ := dstOf_some hd
        have hV := he.at hn (hX j hjd) hog hdg hh
        have hw : WantV V o ↔ x = b := by
          unfold WantV
          rw [hgo]
          simp only
          rw [← hV, hv]
          simp
        obtain ⟨ht, hfa⟩ := h
        have fin : ∀ (ρ1 : Env), EnvOK ops ρ0 X V ρ1 → (x = b → (bif opOk N ρ1 o then wpOp1 P o ρ1 (kR (j :: dec)) else bad) w) → (x ≠ b → kS (j :: dec) (put ρ1 o.dst undef) w) →
            ∃ dec' ρ', EnvOK ops ρ0 X V ρ' ∧ ((WantV V o ∧ opOk N ρ' o = true ∧ wpOp1 P o ρ' (kR dec') w) ∨ (¬ WantV V o ∧ kS dec' (put ρ' o.dst undef) w)) := by
          intro ρ1 he1 h1 h2
          by_cases hxb : x = b
          · obtain ⟨hok, h⟩ := of_bif_bad (h1 hxb)
            exact ⟨j :: dec, ρ1, he1, .inl ⟨hw.2 hxb, hok, h⟩⟩
          · exact ⟨j :: dec, ρ1, he1, .inr ⟨fun hh => hxb (hw.1 hh), h2 hxb⟩⟩
        cases x with
        | true =>
          have ht := ht rfl
          cases b with
          | true => exact fin _ (he.known hh hv) (fun _ => ht) (fun h => absurd rfl h)
          | false => exact fin _ (he.known hh hv) (fun h => by cases h) (fun _ => ht)
        | false =>
          have ht := hfa rfl
          cases b with
          | true => exact fin _ (he.known hh hv) (fun h => by cases h) (fun _ => ht)
          | false => exact fin _ (he.known hh hv) (fun _ => ht) (fun h => absurd rfl h)

def upd (V : Nat → Value) (i : Nat) (v : Value) : Nat → Value := fun j => if j = i then v else V j

theorem upd_same (V : Nat → Value) (i : Nat) (v : Value) : upd V i v i = v := by simp [upd]
theorem upd_ne {V : Nat → Value} {i j : Nat} {v : Value} (h : j ≠ i) : upd V i v j = V j := by simp [upd, h]

theorem WantV_upd {i : Nat} {v : Value} {o : Oper} {k : Nat} (hf : OpFacts N ops k o) (hX : ∀ m ∈ dirDeps o, m ∈ X) (hi : i ∉ X) : WantV (upd V i v) o ↔ WantV V o := by
  unfold WantV
  cases hg : o.guard with
  | none => exact Iff.rfl
  | some gb =>
    obtain ⟨g, b⟩ := gb
    have := hX g (hf.guard g b hg).1
    simp only
    rw [upd_ne (j := g) (fun e => hi (by rw [← e]; exact this))]

theorem Src.upd {i k : Nat} {v : Value} {o : Oper} {ρ : Env} (h : Src ops ρ0 X V k o ρ) (hi : i ∉ X) : Src ops ρ0 (i :: X) (upd V i v) k o ρ := by
  intro x hx
  obtain ⟨h1, h2⟩ := h x hx
  refine ⟨h1, fun t ht => ?_⟩
  rcases h2 t ht with ⟨u, ou, hu, hd, hm, hv, hX⟩ | h3
  · exact .inl ⟨u, ou, hu, hd, hm, by rw [hv, upd_ne (j := u) (fun e => hi (by rw [← e]; exact hX))], List.mem_cons_of_mem _ hX⟩
  · exact .inr h3

theorem EnvOK.put {ρ : Env} {i : Nat} {o : Oper} {v : Value} (he : EnvOK ops ρ0 X V ρ) (hi : i ∉ X) (ho : ops[i]? = some o) : EnvOK ops ρ0 (i :: X) (upd V i v) (Cf.put ρ o.dst v) := by
  intro t ht
  by_cases hdt : o.dst = some t
  · refine .inl ⟨i, o, List.mem_cons_self .., ho, hdt, ?_⟩
    rw [upd_same, hdt]
    simp [Cf.put, gv_cons]
  · have hh : has ρ t = true ∧ gv (Cf.put ρ o.dst v) t = gv ρ t := by
      cases hd : o.dst with
      | none => rw [hd] at ht; exact ⟨ht, rfl⟩
      | some d =>
        rw [hd] at ht hdt
        have hne : Nat.beq d t = false := by
          cases hb : Nat.beq d t with
          | false => rfl
          | true => rw [Nat.eq_of_beq_eq_true hb] at hdt; exact absurd rfl hdt
        simp only [Cf.put, has_cons, gv_cons, hne, cond_false] at ht ⊢
        exact ⟨ht, trivial⟩
    rw [hh.2]
    rcases he t hh.1 with ⟨j, oj, hj, hoj, hdj, hv⟩ | ⟨h1, h2, h3⟩
    · exact .inl ⟨j, oj, List.mem_cons_of_mem _ hj, hoj, hdj, by rw [hv, upd_ne (j := j) (fun e => hi (by rw [← e]; exact hj))]⟩
    · refine .inr ⟨h1, h2, fun k ok hk hok => ?_⟩
      rcases List.mem_cons.1 hk with rfl | hk
      · rw [ho] at hok; cases hok; exact hdt
      · exact h3 k ok hk hok

/-- What an operation reads, when its turn comes. -/
theorem src_of_env {ρ : Env} {i : Nat} {o : Oper} (he : EnvOK ops ρ0 X V ρ) (hn : nodupN (dsts ops) = true) (hf : OpFacts N ops i o) (hord : OrdOK ops X) (ho : ops[i]? = some o) (hX : ∀ m ∈ dirDeps o, m ∈ X) (hi : i ∉ X) (hok : opOk N ρ o = true) :
    Src ops ρ0 X V i o ρ := by
  intro x hx
  simp only [opOk, Bool.and_eq_true, List.all_eq_true] at hok
  refine ⟨hok.1.1 x (by simpa using hx), fun t ht => ?_⟩
  subst ht
  have hh : has ρ t = true := hok.1.1 (.tmp t) (by simpa using hx)
  have hro := hf.reads _ hx
  have hclX : ∀ r, memN r (getN (befsOf ops []) i) = true → r ∈ X := bef_closed (D := (· ∈ X)) (fun a b c d => hord.closed a b c d) i o ho hX
  rcases he t hh with ⟨u, ou, hu, hou, hd, hv⟩ | ⟨h1, h2, h3⟩
  · refine .inl ⟨u, ou, hou, hd, ?_, hv, hu⟩
    simp only [readOk, writerOf_at hn hou hd, Bool.and_eq_true, Bool.or_eq_true] at hro
    rcases hro.2 with h | h
    · exact h
    · exact absurd (bef_closed (D := (· ∈ X)) (fun a b c d => hord.closed a b c d) u ou hou (hord.closed u ou hu hou) i h) hi
  · refine .inr ⟨h1, h2, fun u ou hou hd => ?_⟩
    have hnX : u ∉ X := fun h => h3 u ou h hou hd
    have h4 : memN u (getN (befsOf ops []) i) = false := by
      cases hb : memN u (getN (befsOf ops []) i) with
      | false => rfl
      | true => exact absurd (hclX u hb) hnX
    simp only [readOk, writerOf_at hn hou hd, h4, Bool.false_or, Bool.and_eq_true] at hro
    exact ⟨h4, hro.2⟩

theorem Pend.upd {w : World} {i k : Nat} {v : Value} {o : Oper} (hf : OpFacts N ops k o) (hX : ∀ m ∈ dirDeps o, m ∈ X) (hi : i ∉ X) (hk : k ∈ X) (h : Pend P ops ρ0 X V w k o) : Pend P ops ρ0 (i :: X) (Cf.upd V i v) w k o := by
  have hne : k ≠ i := fun e => hi (by rw [← e]; exact hk)
  unfold Pend at h ⊢
  rw [WantV_upd hf hX hi, upd_ne hne]
  rcases h with ⟨hw, ρ, hs, hr⟩ | h
  · exact .inl ⟨hw, ρ, hs.upd hi, hr⟩
  · exact .inr h

/-- Nothing is left that leaves the world alone. -/
def Stuck : St → Prop
  | .nul _ _ => False
  | _ => True

/-- THE ONE ORDER GOES ON, as far as it leaves the world alone. -/
theorem advance {D : Nat → Prop} {w : World} {K : Env → WP} (hn : nodupN (dsts ops) = true) (hall : ∀ i o, ops[i]? = some o → OpFacts N ops i o) : ∀ (S : St) {X : List Nat} {V : Nat → Value} {dec : List Nat} {ρ : Env},
    Can P ops ρ0 D w X V ρ → (∀ i, D i → i ∈ X) → stChk P ops (befsOf ops []) S X [] = true → wpSteps P N ops S dec ρ K w →
    ∃ S' X' V' dec' ρ', Can P ops ρ0 D w X' V' ρ' ∧ (∀ i ∈ X, i ∈ X' ∧ V' i = V i) ∧ stChk P ops (befsOf ops []) S' X' [] = true ∧ wpSteps P N ops S' dec' ρ' K w ∧ Stuck S' := by
  intro S
  induction S with
  | done => intro X V dec ρ hc _ hs h; exact ⟨.done, X, V, dec, ρ, hc, fun i hi => ⟨hi, rfl⟩, hs, h, trivial⟩
  | eff e cs S _ => intro X V dec ρ hc _ hs h; exact ⟨.eff e cs S, X, V, dec, ρ, hc, fun i hi => ⟨hi, rfl⟩, hs, h, trivial⟩
  | alt a b _ _ => intro X V dec ρ hc _ hs h; exact ⟨.alt a b, X, V, dec, ρ, hc, fun i hi => ⟨hi, rfl⟩, hs, h, trivial⟩
  | nul i S ih =>
      intro X V dec ρ hc hD hs h
      simp only [stChk] at hs
      simp only [wpSteps] at h
      cases ho : ops[i]? with
      | none => rw [ho] at hs; simp at hs
      | some o =>
        rw [ho] at hs h
        simp only [Bool.and_eq_true, Bool.not_eq_true', List.all_eq_true] at hs
        obtain ⟨_, ⟨⟨hiX, hnul⟩, hdeps⟩, hs⟩ := hs
        have hiX' : i ∉ X := fun hh => by rw [memN_iff.2 hh] at hiX; cases hiX
        have hdeps' : ∀ m ∈ dirDeps o, m ∈ X := fun m hm => memN_iff.1 (hdeps m hm)
        have hf := hall i o ho
        have step : ∀ (ρ1 : Env) (v : Value) (dec1 : List Nat), EnvOK ops ρ0 X V ρ1 → Pend P ops ρ0 (i :: X) (upd V i v) w i o → wpSteps P N ops S dec1 (Cf.put ρ1 o.dst v) K w →
            ∃ S' X' V' dec' ρ', Can P ops ρ0 D w X' V' ρ' ∧ (∀ i ∈ X, i ∈ X' ∧ V' i = V i) ∧ stChk P ops (befsOf ops []) S' X' [] = true ∧ wpSteps P N ops S' dec' ρ' K w ∧ Stuck S' := by
          intro ρ1 v dec1 he1 hp h1
          have hc1 : Can P ops ρ0 D w (i :: X) (upd V i v) (Cf.put ρ1 o.dst v) := by
            refine ⟨.cons (fun o' ho' => by rw [ho] at ho'; cases ho'; exact hdeps') hc.ord, fun k hk => ?_, he1.put hiX' ho, fun k ok hk hnk hok => ?_⟩
            · rcases List.mem_cons.1 hk with rfl | hk
              · exact ⟨o, ho⟩
              · exact hc.xb k hk
            · rcases List.mem_cons.1 hk with rfl | hk
              · rw [ho] at hok; cases hok; exact hp
              · exact (hc.pend k ok hk hnk hok).upd (hall k ok hok) (hc.ord.closed k ok hk hok) hiX' hk
          obtain ⟨S', X', V', dec', ρ', h1, h2, h3⟩ := ih hc1 (fun k hk => List.mem_cons_of_mem _ (hD k hk)) hs h1
          refine ⟨S', X', V', dec', ρ', h1, fun k hk => ?_, h3⟩
          have := h2 k (List.mem_cons_of_mem _ hk)
          exact ⟨this.1, by rw [this.2, upd_ne (fun e => hiX' (by rw [← e]; exact hk))]⟩
        obtain ⟨dec', ρ', he', hcase⟩ := stepOne_spec hc.env hn hf hdeps' h
        rcases hcase with ⟨hw, hok, h1⟩ | ⟨hw, h1⟩
        · obtain ⟨v, hk, hr, hl⟩ := wpOp1_nul2 hnul h1
          refine step ρ' v dec' he' (.inl ⟨(WantV_upd hf hdeps' hiX').2 hw, ρ', ?_, by rw [upd_same]; exact ⟨hr, hl⟩⟩) hk
          exact (src_of_env he' hn hf hc.ord ho hdeps' hiX' hok).upd hiX'
        · exact step ρ' undef dec' he' (.inr ⟨fun hh => hw ((WantV_upd hf hdeps' hiX').1 hh), upd_same ..⟩) h1

theorem not_nilB {l : List Nat} (h : (!(nilB l)) = true) : l ≠ [] := by
  intro e; subst e; simp [nilB] at h

/-- What is next, of several. -/
theorem st_pick {w : World} {K : Env → WP} {dec : List Nat} {ρ : Env} : ∀ (S : St) {X H : List Nat}, stChk P ops (befsOf ops []) S X H = true → wpSteps P N ops S dec ρ K w → ∀ i ∈ heads S,
    ∃ cs t H', stChk P ops (befsOf ops []) (.eff i cs t) X H' = true ∧ wpSteps P N ops (.eff i cs t) dec ρ K w ∧ ∀ k ∈ H', k ∈ heads S ∨ k ∈ H := by
  intro S
  induction S with
  | done => intro X H _ _ i hi; cases hi
  | nul i S _ => intro X H _ _ i hi; cases hi
  | eff e cs t _ =>
    intro X H hs h i hi
    simp only [heads, List.mem_singleton] at hi
    subst hi
    exact ⟨cs, t, H, hs, h, fun k hk => .inr hk⟩
  | alt a b iha ihb =>
    intro X H hs h i hi
    simp only [stChk, Bool.and_eq_true] at hs
    simp only [wpSteps, XAnd] at h
    simp only [heads, List.mem_append] at hi ⊢
    rcases hi with hi | hi
    · obtain ⟨cs, t, H', h1, h2, h3⟩ := iha hs.1.2 h.1 i hi
      refine ⟨cs, t, H', h1, h2, fun k hk => ?_⟩
      rcases h3 k hk with h | h
      · exact .inl (.inl h)
      · rcases List.mem_append.1 h with h | h
        · exact .inl (.inr h)
        · exact .inr h
    · obtain ⟨cs, t, H', h1, h2, h3⟩ := ihb hs.2 h.2 i hi
      refine ⟨cs, t, H', h1, h2, fun k hk => ?_⟩
      rcases h3 k hk with h | h
      · exact .inl (.inr h)
      · rcases List.mem_append.1 h with h | h
        · exact .inl (.inl h)
        · exact .inr h

theorem st_some {S : St} {X : List Nat} (hs : stChk P ops (befsOf ops []) S X [] = true) (hk : Stuck S) : S = .done ∨ ∃ i, i ∈ heads S := by
  cases S with
  | done => exact .inl rfl
  | nul => exact hk.elim
  | eff e => exact .inr ⟨e, by simp [heads]⟩
  | alt a b =>
    simp only [stChk, Bool.and_eq_true] at hs
    have := not_nilB hs.1.1.1
    cases ha : heads a with
    | nil => exact absurd ha this
    | cons i r => exact .inr ⟨i, by simp [heads, ha]⟩

theorem chkCells_run : ∀ (vs : List Value) (ad : Addr) (i : Nat) (acc : List Value) (K : WP) (w : World), chkCells vs ad i K w →
    (∀ w', KeepsC w w' → (loadCellsFrom ad i vs.length acc.reverse.toArray).run P w' = .ok (acc.reverse ++ vs).toArray w') ∧ K w := by
  intro vs
  induction vs with
  | nil => intro ad i acc K w h; exact ⟨fun _ _ => by simp [loadCellsFrom], h⟩
  | cons v vs ih =>
    intro ad i acc K w h
    obtain ⟨hv, h⟩ := h
    obtain ⟨h1, h2⟩ := ih ad (i + 1) (v :: acc) K w h
    refine ⟨fun w' hk => ?_, h2⟩
    simp only [List.length_cons, loadCellsFrom, Sem.run_bind, run_load, hk _ _ hv, Result.andThen_ok]
    have e : (acc.reverse.toArray.push v) = (v :: acc).reverse.toArray := by simp
    rw [e, h1 w' hk]
    simp

theorem chkLoad_run {t : TypeId} {ad : Addr} {v : Value} {K : WP} {w : World} (h : chkLoad P t ad v K w) : (∀ w', KeepsC w w' → (Instr.loadAt t (.pointer (some ad))).run P w' = .ok v w') ∧ K w := by
  unfold chkLoad at h
  cases hagg : isAggB P t with
  | true =>
    rw [hagg] at h
    simp only [cond_true] at h
    obtain ⟨d, hd⟩ := isAggB_under hagg
    cases v <;> (try exact h.elim)
    rename_i cs
    simp only at h
    cases hsz : szOf P t with
    | none => rw [hsz] at h; exact h.elim
    | some n =>
      rw [hsz] at h
      obtain ⟨hb, h⟩ := of_bif_bad h
      have hb := Nat.eq_of_beq_eq_true hb
      obtain ⟨h1, h2⟩ := chkCells_run (P := P) cs.toList ad 0 [] K w h
      refine ⟨fun w' hk => ?_, h2⟩
      have h1 := h1 w' hk
      simp only [Instr.loadAt, Instr.sureAddr, Sem.run_bind, Sem.run_pure, Result.andThen_ok, loadVar, isAgg_run hd, hagg, if_true, run_sz hsz, loadCells]
      rw [hb]
      simp only [List.reverse_nil, List.nil_append] at h1
      rw [h1]
      rfl
  | false =>
    rw [hagg] at h
    simp only [cond_false] at h
    cases hd : P.underlying t with
    | none => rw [hd] at h; exact h.elim
    | some d =>
      rw [hd] at h
      obtain ⟨hv, h⟩ := h
      refine ⟨fun w' hk => ?_, h⟩
      simp only [Instr.loadAt, Instr.sureAddr, Sem.run_bind, Sem.run_pure, Result.andThen_ok, loadVar, isAgg_run hd, hagg, Bool.false_eq_true, if_false, run_load, hk _ _ hv]

theorem chkAll_run {dec : List Nat} {ρ : Env} {K : WP} {w : World} : ∀ (cs : List Nat), chkAll P ops dec ρ K cs w → K w ∧ ∀ r ∈ cs, ∃ o, ops[r]? = some o ∧
    (gsat2 ops dec ρ o.guard = some false ∨ (gsat2 ops dec ρ o.guard = some true ∧ ∃ t x d ad, o.op = .load t x ∧ o.dst = some d ∧ ev ρ x = .pointer (some ad) ∧ hasOp ρ x = true ∧ has ρ d = true ∧ ∀ w', KeepsC w w' → (Instr.loadAt t (.pointer (some ad))).run P w' = .ok (gv ρ d) w')) := by
  intro cs
  induction cs with
  | nil => intro h; exact ⟨h, fun r hr => by cases hr⟩
  | cons r cs ih =>
    intro h
    simp only [chkAll] at h
    cases ho : ops[r]? with
    | none => rw [ho] at h; exact h.elim
    | some o =>
      rw [ho] at h
      simp only at h
      cases hg : gsat2 ops dec ρ o.guard with
      | none => rw [hg] at h; exact h.elim
      | some b =>
        rw [hg] at h
        cases b with
        | false =>
          obtain ⟨h1, h2⟩ := ih h
          refine ⟨h1, fun k hk => ?_⟩
          rcases List.mem_cons.1 hk with rfl | hk
          · exact ⟨o, ho, .inl hg⟩
          · exact h2 k hk
        | true =>
          simp only at h
          cases hop : o.op <;> (try (rw [hop] at h; exact h.elim))
          rename_i t x
          rw [hop] at h
          simp only at h
          cases hd : o.dst with
          | none => rw [hd] at h; exact h.elim
          | some d =>
          cases hx : ev ρ x <;> (try (rw [hd, hx] at h; exact h.elim))
          rename_i q
          cases q with
          | none => rw [hd, hx] at h; exact h.elim
          | some ad =>
          rw [hd, hx] at h
          obtain ⟨hb, h⟩ := of_bif_bad h
          simp only [Bool.and_eq_true] at hb
          obtain ⟨hr, h⟩ := chkLoad_run h
          obtain ⟨h1, h2⟩ := ih h
          refine ⟨h1, fun k hk => ?_⟩
          rcases List.mem_cons.1 hk with rfl | hk
          · exact ⟨o, ho, .inr ⟨hg, t, x, d, ad, hop, hd, hx, hb.1, hb.2, hr⟩⟩
          · exact h2 k hk

end

end Go.Cf
