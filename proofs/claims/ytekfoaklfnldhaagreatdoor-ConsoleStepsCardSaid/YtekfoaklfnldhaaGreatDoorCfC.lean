/-
  The formula of code and of a function gives a contract of the call.
-/
import Derived.Test.YtekfoaklfnldhaaGreatDoorCfB
namespace Go.Cf
open Go

section
variable {P : Program} {rn : Option Nat} {dl : List Deferred}

theorem not_defer {o : Oper} {ρ : Operand → Value} {v : Value} {w w' : World} (h : (execOp ρ o).run P w = .ok (.value v) w') : ∀ c, o.op ≠ .defer c := by
  intro c e
  obtain ⟨dst, op, type, pos, after, guard⟩ := o
  simp only at e
  subst e
  simp only [execOp, Sem.run_bind] at h
  cases hres : (resolve ρ c type).run P w with
  | ok d w' => rw [hres] at h; simp only [Result.andThen_ok, Sem.run_pure] at h; cases h
  | halt x w' => rw [hres] at h; cases h

def wpL (rn : Option Nat) (P : Program) (ops : Array Oper) (Q : Exit → Act → World → Prop) : List Oper → (Act → World → Prop) → Act → World → Prop
  | [], K, a, w => K a w
  | o :: os, K, a, w => if Region.wanted o (yielded ops a.tmps) then o.wpIn (FF rn) 0 P a w (wpL rn P ops Q os K) Q else wpL rn P ops Q os K (a.put o.dst undef) w

theorem wpOps_of_wpL {ops : Array Oper} {Q : Exit → Act → World → Prop} (l : List Oper) : ∀ k, (∀ j, l[j]? = ops[k + j]? ∨ l.length ≤ j) → ∀ a w, wpL rn P ops Q l (Q .normal) a w →
    wpOpsIn (FF rn) 0 P ops Q (List.range' k l.length) a w := by
  induction l with
  | nil => intro k _ a w h; exact h
  | cons o os ih =>
    intro k hk a w h
    have h0 : ops[k]? = some o := by
      rcases hk 0 with h | h
      · simpa using h.symm
      · simp at h
    have hr : ∀ j, os[j]? = ops[k + 1 + j]? ∨ os.length ≤ j := fun j => by
      rcases hk (j + 1) with h | h
      · left; simpa [Nat.add_assoc, Nat.add_comm 1 j] using h
      · right; simp at h; omega
    simp only [List.length_cons, List.range'_succ, wpOpsIn, h0]
    simp only [wpL] at h
    split at h
    · rename_i hw
      rw [if_pos hw]
      exact Oper.wpIn_mono (fun a w h => ih (k + 1) hr a w h) h
    · rename_i hw
      rw [if_neg hw]
      exact ⟨fun _ _ => trivial, ih (k + 1) hr _ _ h⟩

theorem wpL_append {ops : Array Oper} {Q : Exit → Act → World → Prop} (l l' : List Oper) (K : Act → World → Prop) : wpL rn P ops Q (l ++ l') K = wpL rn P ops Q l (wpL rn P ops Q l' K) := by
  induction l with
  | nil => rfl
  | cons o os ih => funext a w; simp only [List.cons_append, wpL, ih]

theorem yielded_of {N : Nat} {ops : Array Oper} {ρ : Env} {a : Act} (hf : Fits N dl ρ a) {j d : Nat} {x : Bool} (hd : dstOf ops.toList j = some d) (hh : has ρ d = true) (hv : gv ρ d = .bool x) :
    yielded ops a.tmps j = some x := by
  unfold dstOf at hd
  have hg := hf.get d hh
  cases ho : ops.toList[j]? with
  | none => rw [ho] at hd; cases hd
  | some o =>
    rw [ho] at hd
    have ho' : ops[j]? = some o := by simpa using ho
    simp only [yielded, ho', Option.bind_some, hd, hg, hv]

theorem gsat_wanted {N : Nat} {ops : Array Oper} {dec : List Nat} {ρ : Env} {a : Act} (hf : Fits N dl ρ a) {o : Oper} {r : Bool} (h : gsat ops.toList dec ρ o.guard = some r) :
    Region.wanted o (yielded ops a.tmps) = r := by
  unfold Region.wanted
  cases hg : o.guard with
  | none => rw [hg] at h; simp only [gsat, Option.some.injEq] at h; rw [← h]
  | some gb =>
    obtain ⟨j, b⟩ := gb
    rw [hg] at h
    simp only [gsat] at h
    cases hm : memN j dec with
    | false => rw [hm] at h; cases h
    | true =>
      rw [hm] at h
      simp only [cond_true] at h
      cases hd : dstOf ops.toList j with
      | none => rw [hd] at h; cases h
      | some d =>
        rw [hd] at h
        simp only at h
        cases hh : has ρ d with
        | false => rw [hh] at h; cases h
        | true =>
          rw [hh] at h
          simp only [cond_true] at h
          cases hv : gv ρ d <;> rw [hv] at h <;> simp only [reduceCtorEq, Option.some.injEq] at h
          rename_i x
          simp only [yielded_of hf hd hh hv]
          cases x <;> cases b <;> simp_all

/-- What an operation of a list writes leaves a fact on the frame as it is. -/
def Leaves (l : List Oper) (Fr : Act → Prop) : Prop := ∀ o ∈ l, ∀ a v, Fr a → Fr (a.put o.dst v)

theorem Leaves.tail {o : Oper} {l : List Oper} {Fr : Act → Prop} (h : Leaves (o :: l) Fr) : Leaves l Fr := fun o' ho => h o' (List.mem_cons_of_mem _ ho)

theorem pureSeq_sound {N : Nat} {ops : Array Oper} {Q : Exit → Act → World → Prop} {Fr : Act → Prop} {j d : Nat} {b : Bool} (hd : dstOf ops.toList j = some d) : ∀ (l : List Oper) {ρ ρ' : Env} {a : Act} {w : World} {KA : Act → World → Prop}, pureSeq P N l ρ = some ρ' → Fits N dl ρ a →
    (∀ o ∈ l, sameGuard j b o.guard = true ∧ o.dst ≠ some d) → has ρ d = true → gv ρ d = .bool b → Leaves l Fr → Fr a →
    (∀ a', Fits N dl ρ' a' → has ρ' d = true → gv ρ' d = .bool b → Fr a' → KA a' w) → wpL rn P ops Q l KA a w := by
  intro l
  induction l with
  | nil =>
    intro ρ ρ' a w KA h hf _ hh hv _ hfr hk
    simp only [pureSeq, Option.some.injEq] at h
    subst h
    exact hk a hf hh hv hfr
  | cons o os ih =>
    intro ρ ρ' a w KA h hf hg hh hv hl hfr hk
    simp only [pureSeq] at h
    cases hok : opOk N ρ o with
    | false => rw [hok] at h; cases h
    | true =>
    rw [hok] at h
    simp only [cond_true] at h
    cases hp : pureRun P (execOp (ev ρ) o) with
    | none => rw [hp] at h; cases h
    | some n =>
      rw [hp] at h
      cases n <;> simp only [reduceCtorEq] at h
      rename_i v
      obtain ⟨hgo, hne⟩ := hg o (List.mem_cons_self ..)
      have hy := yielded_of hf hd hh hv
      have hw : Region.wanted o (yielded ops a.tmps) = true := by
        cases hg' : o.guard with
        | none => simp [Region.wanted, hg']
        | some jb =>
          obtain ⟨j', b'⟩ := jb
          rw [hg'] at hgo
          simp only [sameGuard, Bool.and_eq_true] at hgo
          have hj := Nat.eq_of_beq_eq_true hgo.1
          subst hj
          simp only [Region.wanted, hg', hy]
          cases b <;> cases b' <;> simp_all
      simp only [wpL, hw, if_true]
      simp only [opOk, Bool.and_eq_true, List.all_eq_true] at hok
      obtain ⟨⟨hall, hd'⟩, hs⟩ := hok
      have he : execOp a.eval o = execOp (ev ρ) o :=
        execOp_congr _ (fun cs b e => by rw [e] at hs; simp at hs) fun x hx => hf.eval (hall x (by simpa using hx))
      refine wpIn_of_wp (not_defer (pureRun_run _ _ hp w)) ?_
      unfold Oper.wp
      rw [he, pureRun_run _ _ hp w]
      have hdl : ∀ t, o.dst = some t → t < N := fun t e => by rw [e] at hd'; simpa [Nat.blt_eq] using hd'
      refine ih h (hf.put hdl) (fun o' ho' => hg o' (List.mem_cons_of_mem _ ho')) ?_ ?_ hl.tail (hl o (List.mem_cons_self ..) _ _ hfr) hk
      · cases hod : o.dst with
        | none => simpa [put] using hh
        | some t =>
          simp only [put, has_cons, hh]
          cases Nat.beq t d <;> rfl
      · cases hod : o.dst with
        | none => simpa [put] using hv
        | some t =>
          have ht : Nat.beq t d = false := by
            cases hb : Nat.beq t d with
            | false => rfl
            | true => rw [hod, Nat.eq_of_beq_eq_true hb] at hne; exact absurd rfl hne
          simp only [put, gv_cons, ht, cond_false, hv]

theorem memN_iff {t : Nat} {l : List Nat} : memN t l = true ↔ t ∈ l := by
  induction l with
  | nil => simp [memN]
  | cons u r ih =>
    simp only [memN]
    cases hb : Nat.beq u t with
    | true => have := Nat.eq_of_beq_eq_true hb; simp [this]
    | false =>
      have : u ≠ t := fun e => by subst e; simp at hb
      simp only [cond_false, ih, List.mem_cons]
      constructor
      · exact fun h => .inr h
      · rintro (h | h)
        · exact absurd h.symm this
        · exact h

/-- A group that is passed over: its slots hold nothing that is known, all others stay. -/
theorem allSkip_sound {N j d : Nat} {b : Bool} {ops : Array Oper} {Q : Exit → Act → World → Prop} {Fr : Act → Prop} (hd : dstOf ops.toList j = some d) : ∀ (l : List Oper) (ds : List Nat) {ρ : Env} {a : Act} {w : World} {KA : Act → World → Prop},
    allSkip ops.toList N j d b l ds = true → noneIn ρ l = true → Fits N dl ρ a → a.tmps[d]? = some (.bool !b) → (∀ t ∈ ds, a.tmps[t]? = some undef) → Leaves l Fr → Fr a →
    (∀ a', Fits N dl ρ a' → Fr a' → KA a' w) → wpL rn P ops Q l KA a w := by
  intro l
  induction l with
  | nil => intro ds ρ a w KA _ _ hf _ _ _ hfr hk; exact hk a hf hfr
  | cons o os ih =>
    intro ds ρ a w KA h hno hf hv hu hl hfr hk
    have hfr' := hl o (List.mem_cons_self ..) a undef hfr
    simp only [allSkip, Bool.and_eq_true, Bool.or_eq_true] at h
    obtain ⟨⟨hg, hdd⟩, h⟩ := h
    simp only [noneIn, Bool.and_eq_true] at hno
    obtain ⟨hno1, hno⟩ := hno
    have hw : Region.wanted o (yielded ops a.tmps) = false := by
      rcases hg with hg | hg
      · cases hgo : o.guard with
        | none => rw [hgo] at hg; simp [sameGuard] at hg
        | some jb =>
          obtain ⟨j', b'⟩ := jb
          rw [hgo] at hg
          simp only [sameGuard, Bool.and_eq_true] at hg
          obtain ⟨hj, hb⟩ := hg
          have hj := Nat.eq_of_beq_eq_true hj
          subst hj
          unfold dstOf at hd
          cases ho : ops.toList[j']? with
          | none => rw [ho] at hd; cases hd
          | some oj =>
            rw [ho] at hd
            have ho' : ops[j']? = some oj := by simpa using ho
            have hy : yielded ops a.tmps j' = some !b := by simp [yielded, ho', hd, hv]
            simp only [Region.wanted, hgo, hy]
            cases b <;> cases b' <;> simp_all
      · cases hgo : o.guard with
        | none => rw [hgo] at hg; cases hg
        | some jb =>
          obtain ⟨j', b'⟩ := jb
          rw [hgo] at hg
          simp only at hg
          cases hdj : dstOf ops.toList j' with
          | none => rw [hdj] at hg; cases hg
          | some d' =>
            rw [hdj] at hg
            have hun := hu d' (memN_iff.1 hg)
            unfold dstOf at hdj
            cases ho : ops.toList[j']? with
            | none => rw [ho] at hdj; cases hdj
            | some oj =>
              rw [ho] at hdj
              have ho' : ops[j']? = some oj := by simpa using ho
              have hy : yielded ops a.tmps j' = none := by simp [yielded, ho', hdj, hun, undef]
              simp [Region.wanted, hgo, hy]
    simp only [wpL, hw, Bool.false_eq_true, if_false]
    cases hod : o.dst with
    | none =>
      rw [hod] at h
      rw [hod] at hfr'
      exact ih ds h hno hf hv hu hl.tail hfr' hk
    | some t =>
      rw [hod] at h hdd hno1 hfr'
      simp only [Bool.and_eq_true, Nat.blt_eq, Bool.not_eq_true'] at hdd hno1
      have htd : t ≠ d := fun e => by subst e; simp at hdd
      refine ih (t :: ds) h hno ⟨by simpa [Act.put] using hf.size, hf.defs, fun u hu' => ?_⟩ ?_ ?_ hl.tail hfr' hk
      · have : t ≠ u := fun e => by subst e; rw [hno1] at hu'; cases hu'
        simp only [Act.put]
        rw [Array.getElem?_setIfInBounds_ne this]
        exact hf.get u hu'
      · simp only [Act.put]
        rw [Array.getElem?_setIfInBounds_ne htd]
        exact hv
      · intro u hu'
        simp only [Act.put]
        by_cases e : t = u
        · subst e
          rw [Array.getElem?_setIfInBounds_self_of_lt (by have := hf.size; omega)]
        · rw [Array.getElem?_setIfInBounds_ne e]
          exact hu u (by simpa [Ne.symm e] using hu')

theorem Fits.cons {N : Nat} {ρ : Env} {a : Act} (hf : Fits N dl ρ a) {d : Nat} {v : Value} (h : a.tmps[d]? = some v) : Fits N dl ((d, v) :: ρ) a :=
  ⟨hf.size, hf.defs, fun t ht => by
    rw [has_cons] at ht
    rw [gv_cons]
    cases hb : Nat.beq d t with
    | true => rw [← Nat.eq_of_beq_eq_true hb]; exact h
    | false => rw [hb] at ht; exact hf.get t ht⟩

theorem pick_wp {N : Nat} {ops : Array Oper} {Q : Exit → Act → World → Prop} {ρ : Env} {a : Act} {w : World} {p : Oper} {d : Nat} {x : Bool} {pa pb : Operand} {KA : Act → World → Prop} {dec : List Nat} {rest : List Oper}
    (hp : p.op = .pick (.tmp d) pa pb) (hf : Fits N dl ρ a) (hv : a.tmps[d]? = some (.bool x)) (hg : gsat ops.toList dec ρ p.guard = some true)
    (v : Value) (hval : (if x then a.eval pa else a.eval pb) = v) (hk : wpL rn P ops Q rest KA (a.put p.dst v) w) : wpL rn P ops Q (p :: rest) KA a w := by
  simp only [wpL, gsat_wanted hf hg, if_true]
  have hx : a.eval (.tmp d) = .bool x := by simp [Act.eval, Array.getD_eq_getD_getElem?, hv]
  have hr : (execOp a.eval p).run P w = .ok (.value v) w := by
    simp only [execOp, hp, hx, asBool, Sem.run_bind, Sem.run_pure, Result.andThen_ok, hval]
  refine wpIn_of_wp (fun c e => by rw [hp] at e; cases e) ?_
  unfold Oper.wp
  rw [hr]
  exact hk

theorem isConst_eval {x : Operand} (h : isConstB x = true) (a : Act) (ρ : Env) : a.eval x = ev ρ x := by
  cases x <;> first | rfl | (simp [isConstB] at h)

theorem appV_one {sh : Sh} {k : Cur [sh]} {v : Value} {w : World} (h : Cur.appV [sh] k [v] w) : ∃ x, sh.mk x = v ∧ k x w := by
  obtain ⟨t, ht, h⟩ := Cur.appV_app _ _ _ _ h
  exact ⟨t.1, by simpa [Tup.vals] using ht, h⟩

theorem noneIn_leaves {N : Nat} {ρ : Env} : ∀ {l : List Oper}, noneIn ρ l = true → Leaves l (Fits N dl ρ) := by
  intro l h o ho a v hf
  induction l with
  | nil => cases ho
  | cons o' os ih =>
    simp only [noneIn, Bool.and_eq_true] at h
    rcases List.mem_cons.1 ho with e | ho
    · subst e
      cases hod : o.dst with
      | none => exact hf
      | some t =>
        have h1 := h.1
        rw [hod] at h1
        simp only [Bool.not_eq_true'] at h1
        refine ⟨by simpa [Act.put] using hf.size, hf.defs, fun u hu' => ?_⟩
        have : t ≠ u := fun e => by subst e; rw [h1] at hu'; cases hu'
        simp only [Act.put]
        rw [Array.getElem?_setIfInBounds_ne this]
        exact hf.get u hu'
    · exact ih h.2 ho

theorem Leaves.and {l : List Oper} {A B : Act → Prop} (h : Leaves l A) (k : Leaves l B) : Leaves l fun a => A a ∧ B a := fun o ho a v hab => ⟨h o ho a v hab.1, k o ho a v hab.2⟩

theorem Leaves.left {l l' : List Oper} {A : Act → Prop} (h : Leaves (l ++ l') A) : Leaves l A := fun o ho => h o (List.mem_append_left _ ho)
theorem Leaves.right {l l' : List Oper} {A : Act → Prop} (h : Leaves (l ++ l') A) : Leaves l' A := fun o ho => h o (List.mem_append_right _ ho)

theorem allSkip_dst {ops : List Oper} {N j d : Nat} {b : Bool} : ∀ {l : List Oper} {ds : List Nat}, allSkip ops N j d b l ds = true → ∀ o ∈ l, o.dst ≠ some d := by
  intro l
  induction l with
  | nil => intro ds _ o ho; cases ho
  | cons o' os ih =>
    intro ds h o ho
    simp only [allSkip, Bool.and_eq_true] at h
    rcases List.mem_cons.1 ho with e | ho
    · subst e
      intro e
      have := h.1.2
      rw [e] at this
      simp at this
    · exact ih h.2 o ho

set_option maxHeartbeats 1000000 in
theorem wpSeq_sound (hn : NoGor P) {N : Nat} {ops : Array Oper} {Q : Exit → Act → World → Prop} : ∀ (f : Nat) (dec : List Nat) (l : List Oper) {Fr : Act → Prop} {ρ : Env} {K : Env → WP} {a : Act} {w : World} {KA : Act → World → Prop},
    wpSeq P N ops.toList f dec l ρ K w → Fits N dl ρ a → Leaves l Fr → Fr a → (∀ ρ' a' w', Fits N dl ρ' a' → Fr a' → K ρ' w' → KA a' w') → wpL rn P ops Q l KA a w := by
  intro f
  induction f with
  | zero =>
    intro dec l Fr ρ K a w KA h hf _ hfr hk
    cases l with
    | nil => exact hk _ _ _ hf hfr h
    | cons o os => exact h.elim
  | succ f ih =>
    intro dec l Fr ρ K a w KA h hf hlv hfr hk
    cases l with
    | nil => exact hk _ _ _ hf hfr h
    | cons o os =>
    simp only [wpSeq] at h
    cases hgs : gsat ops.toList dec ρ o.guard with
    | some r =>
      rw [hgs] at h
      have hw := gsat_wanted hf hgs
      cases r with
      | true =>
        obtain ⟨hok, h⟩ := of_bif_bad h
        have hd' : ∀ t, o.dst = some t → t < N := fun t e => by
          simp only [opOk, Bool.and_eq_true] at hok
          have := hok.1.2
          rw [e] at this
          simpa [Nat.blt_eq] using this
        simp only [wpL, hw, if_true]
        exact wpOp1_sound hn hf hok h fun v w' h' => ih dec os h' (hf.put hd') hlv.tail (hlv o (List.mem_cons_self ..) _ _ hfr) hk
      | false =>
        obtain ⟨hd, h⟩ := of_bif_bad h
        simp only [wpL, hw, Bool.false_eq_true, if_false]
        refine ih dec os h (hf.put fun t e => ?_) hlv.tail (hlv o (List.mem_cons_self ..) _ _ hfr) hk
        rw [e] at hd; simpa [Nat.blt_eq] using hd
    | none =>
      rw [hgs] at h
      cases hgo : o.guard with
      | none => rw [hgo] at h; exact h.elim
      | some jb =>
      obtain ⟨j, b⟩ := jb
      rw [hgo] at h
      simp only at h
      cases hd : dstOf ops.toList j with
      | none => rw [hd] at h; exact h.elim
      | some d =>
      rw [hd] at h
      simp only at h
      cases hh : has ρ d with
      | false => rw [hh] at h; exact h.elim
      | true =>
      rw [hh] at h
      cases hv : gv ρ d <;> (try (rw [hv] at h; exact h.elim))
      rename_i x
      rw [hv] at h
      cases hsp : splitPick d (o :: os) with
      | none => rw [hsp] at h; exact h.elim
      | some t =>
      obtain ⟨g, p, r⟩ := t
      rw [hsp] at h
      simp only at h
      obtain ⟨hl, pa, pb, hp⟩ := splitPick_eq hsp
      have hpo : pickOps p = (pa, pb) := by simp [pickOps, hp]
      rw [hpo] at h
      simp only at h
      obtain ⟨hok, h⟩ := of_bif_bad h
      simp only [Bool.and_eq_true, Bool.not_eq_true'] at hok
      obtain ⟨⟨⟨⟨hskip, hno⟩, hpk⟩, hpg⟩, _⟩ := hok
      have hpg' : gsat ops.toList dec ρ p.guard = some true := by
        cases hq : gsat ops.toList dec ρ p.guard with
        | none => rw [hq] at hpg; cases hpg
        | some u => rw [hq] at hpg; cases u <;> simp_all
      have hpd : ∀ t, p.dst = some t → t < N := fun t e => by
        simp only [opOk, Bool.and_eq_true] at hpk
        have := hpk.1.2
        rw [e] at this
        simpa [Nat.blt_eq] using this
      have hvx : a.tmps[d]? = some (.bool x) := by rw [← hv]; exact hf.get d hh
      rw [hl] at hlv ⊢
      rw [wpL_append]
      have hlg : Leaves g fun a => Fr a ∧ Fits N dl ρ a := hlv.left.and (noneIn_leaves hno)
      have hlr : Leaves r Fr := hlv.right.tail
      have hlp : ∀ a v, Fr a → Fr (a.put p.dst v) := hlv.right p (List.mem_cons_self ..)
      -- behind the group: the pick, and the rest
      have rest : ∀ (a' : Act) (w' : World) (v : Value), Fits N dl ρ a' → Fr a' → (if x then a'.eval pa else a'.eval pb) = v → wpSeq P N ops.toList f dec r (put ρ p.dst v) K w' → wpL rn P ops Q (p :: r) KA a' w' := by
        intro a' w' v hf' hfr' hval h'
        have hv' : a'.tmps[d]? = some (.bool x) := by rw [← hv]; exact hf'.get d hh
        exact pick_wp hp hf' hv' hpg' v hval (ih dec r h' (hf'.put hpd) hlr (hlp _ _ hfr') hk)
      have skip : x = !b → isConstB (if x then pa else pb) = true → wpSeq P N ops.toList f dec r (put ρ p.dst (if x then ev ρ pa else ev ρ pb)) K w → wpL rn P ops Q g (wpL rn P ops Q (p :: r) KA) a w := by
        intro hxb hc h'
        have hvx' : a.tmps[d]? = some (.bool !b) := by rw [hvx, hxb]
        refine allSkip_sound (Fr := Fr) hd g [] hskip hno hf hvx' (fun t ht => by cases ht) hlv.left hfr fun a' hf' hfr' => ?_
        refine rest a' w _ hf' hfr' ?_ h'
        cases x <;> simp only [Bool.false_eq_true, if_false, if_true] at hc ⊢ <;> exact isConst_eval hc a' ρ
      cases hall : g.all (fun o => pureOpB P o && sameGuard j b o.guard) with
      | true =>
        rw [hall] at h
        simp only [cond_true] at h
        cases hps : pureSeq P N g ((d, .bool b) :: ρ) with
        | none => rw [hps] at h; exact h.elim
        | some ρ' =>
        rw [hps] at h
        have hsg : ∀ o ∈ g, sameGuard j b o.guard = true ∧ o.dst ≠ some d := fun o ho => by
          have := (List.all_eq_true.1 hall) o ho
          simp only [Bool.and_eq_true] at this
          exact ⟨this.2, allSkip_dst hskip o ho⟩
        have run : x = b → (∀ a', Fits N dl ρ' a' → Fits N dl ρ a' → Fr a' → wpL rn P ops Q (p :: r) KA a' w) → wpL rn P ops Q g (wpL rn P ops Q (p :: r) KA) a w := by
          intro hxb hkk
          subst hxb
          refine pureSeq_sound (Fr := fun a => Fr a ∧ Fits N dl ρ a) hd g hps (hf.cons hvx) hsg (by simp [has_cons]) (by simp [gv_cons]) hlg ⟨hfr, hf⟩ fun a' hf' _ _ hfr' => hkk a' hf' hfr'.2 hfr'.1
        cases b with
        | true =>
          obtain ⟨hc, h⟩ := of_bif_bad h
          simp only [Bool.and_eq_true] at hc
          rw [pickv_eq] at h
          cases x with
          | true => exact run rfl fun a' hf' hf2 hfr' => rest a' w _ hf2 hfr' (by rw [if_pos rfl]; exact hf'.eval hc.2) h
          | false => exact skip rfl hc.1 h
        | false =>
          obtain ⟨hc, h⟩ := of_bif_bad h
          simp only [Bool.and_eq_true] at hc
          rw [pickv_eq] at h
          cases x with
          | true => exact skip rfl hc.1 h
          | false => exact run rfl fun a' hf' hf2 hfr' => rest a' w _ hf2 hfr' (by rw [if_neg Bool.false_ne_true]; exact hf'.eval hc.2) h
      | false =>
        rw [hall] at h
        simp only [cond_false] at h
        cases b with
        | true =>
          obtain ⟨hc, h⟩ := of_bif_bad h
          obtain ⟨ht, hfa⟩ := h
          cases x with
          | false =>
            obtain ⟨y, hy, h'⟩ := appV_one (hfa rfl)
            refine skip rfl hc ?_
            simp only [Cur.of, hy, List.headD_cons] at h'
            exact h'
          | true =>
            refine ih (j :: dec) g (ht rfl) (hf.cons hvx) hlg ⟨hfr, hf⟩ fun ρ' a' w' hf' hfr' h' => ?_
            obtain ⟨hb, h'⟩ := of_bif_bad h'
            simp only [Bool.and_eq_true] at hb
            obtain ⟨y, hy, h'⟩ := appV_one h'
            simp only [Cur.of, hy, List.headD_cons] at h'
            exact rest a' w' _ hfr'.2 hfr'.1 (by rw [if_pos rfl]; exact hf'.eval hb.1.1) h'
        | false =>
          obtain ⟨hc, h⟩ := of_bif_bad h
          obtain ⟨ht, hfa⟩ := h
          cases x with
          | true =>
            obtain ⟨y, hy, h'⟩ := appV_one (ht rfl)
            refine skip rfl hc ?_
            simp only [Cur.of, hy, List.headD_cons] at h'
            exact h'
          | false =>
            refine ih (j :: dec) g (hfa rfl) (hf.cons hvx) hlg ⟨hfr, hf⟩ fun ρ' a' w' hf' hfr' h' => ?_
            obtain ⟨hb, h'⟩ := of_bif_bad h'
            simp only [Bool.and_eq_true] at hb
            obtain ⟨y, hy, h'⟩ := appV_one h'
            simp only [Cur.of, hy, List.headD_cons] at h'
            exact rest a' w' _ hfr'.2 hfr'.1 (by rw [if_neg Bool.false_ne_true]; exact hf'.eval hb.1.1) h'

end

end Go.Cf
