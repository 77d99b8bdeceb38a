/-
  The formula of code and of a function gives a contract of the call (its second half).
-/
import Derived.Test.YtekfoaklfnldhaaGreatDoorCfC
import Derived.Scope
namespace Go.Cf
open Go

section
variable {P : Program} {rn : Option Nat} {dl : List Deferred}

def LeavesC : Code → (Act → Prop) → Prop
  | .region _ ops _, Fr => Leaves ops.toList Fr
  | .seq a b, Fr => LeavesC a Fr ∧ LeavesC b Fr
  | .cond _ a b, Fr => LeavesC a Fr ∧ LeavesC b Fr
  | .block _ b, Fr => LeavesC b Fr
  | .scope b, Fr => LeavesC b Fr
  | .loop b, Fr => LeavesC b Fr
  | _, _ => True

theorem LeavesC.and {A B : Act → Prop} : ∀ {c : Code}, LeavesC c A → LeavesC c B → LeavesC c fun a => A a ∧ B a := by
  intro c
  induction c with
  | region _ ops _ => exact fun h k => Leaves.and h k
  | seq a b iha ihb => exact fun h k => ⟨iha h.1 k.1, ihb h.2 k.2⟩
  | cond _ a b iha ihb => exact fun h k => ⟨iha h.1 k.1, ihb h.2 k.2⟩
  | block _ b ih => exact fun h k => ih h k
  | scope b ih => exact fun h k => ih h k
  | loop b ih => exact fun h k => ih h k
  | _ => exact fun _ _ => trivial

/-- All that is known stays, but for some slots. -/
structure Keep (N : Nat) (dl : List Deferred) (ρ : Env) (cs : List Nat) (a : Act) : Prop where
  size : N ≤ a.tmps.size
  defs : a.defers = dl
  get : ∀ t, has ρ t = true → memN t cs = false → a.tmps[t]? = some (gv ρ t)

theorem memN_insN {t u : Nat} {l : List Nat} : memN t (insN u l) = true ↔ t = u ∨ memN t l = true := by
  unfold insN
  cases h : memN u l with
  | true =>
    simp only [cond_true]
    constructor
    · exact .inr
    · rintro (rfl | h')
      · exact h
      · exact h'
  | false =>
    simp only [cond_false]
    rw [memN_iff, memN_iff, List.mem_append, List.mem_singleton]
    exact ⟨fun h => h.symm, fun h => h.symm⟩

theorem dstsOf_mem {t : Nat} : ∀ (l : List Oper) (acc : List Nat), memN t (dstsOf l acc) = true ↔ memN t acc = true ∨ ∃ o ∈ l, o.dst = some t := by
  intro l
  induction l with
  | nil => intro acc; simp [dstsOf]
  | cons o os ih =>
    intro acc
    unfold dstsOf
    rw [ih]
    cases hd : o.dst with
    | none => simp [hd]
    | some u =>
      simp only [memN_insN, List.mem_cons, exists_eq_or_imp, hd, Option.some.injEq]
      constructor
      · rintro ((rfl | h) | h)
        · exact .inr (.inl rfl)
        · exact .inl h
        · exact .inr (.inr h)
      · rintro (h | rfl | h)
        · exact .inl (.inr h)
        · exact .inl (.inl rfl)
        · exact .inr h

theorem wr_mono {ρ : Env} {t : Nat} : ∀ (c : Code) (acc : List Nat), memN t acc = true → memN t (wr ρ c acc) = true := by
  intro c
  induction c with
  | region _ ops _ => exact fun acc h => (dstsOf_mem _ _).2 (.inl h)
  | seq a b iha ihb => exact fun acc h => ihb _ (iha _ h)
  | cond _ a b iha ihb => exact fun acc h => ihb _ (iha _ h)
  | block _ b ih => exact fun acc h => ih _ h
  | scope b ih => exact fun acc h => ih _ h
  | loop b ih => exact fun acc h => ih _ h
  | _ => exact fun acc h => h

theorem wr_leaves {N : Nat} {ρ : Env} {cs : List Nat} : ∀ (c : Code) (acc : List Nat), (∀ t, memN t (wr ρ c acc) = true → memN t cs = true) → LeavesC c (Keep N dl ρ cs) := by
  intro c
  induction c with
  | region _ ops _ =>
    intro acc h o ho a v hk
    cases hd : o.dst with
    | none => exact hk
    | some t =>
      refine ⟨by simpa [Act.put] using hk.size, hk.defs, fun u hu hm => ?_⟩
      have hne : t ≠ u := by
        intro e
        subst e
        have := h t ((dstsOf_mem _ _).2 (.inr ⟨o, by simp only [List.mem_filter]; exact ⟨ho, by rw [hd]; exact hu⟩, hd⟩))
        rw [this] at hm; cases hm
      simp only [Act.put]
      rw [Array.getElem?_setIfInBounds_ne hne]
      exact hk.get u hu hm
  | seq a b iha ihb => exact fun acc h => ⟨iha acc fun t ht => h t (wr_mono b _ ht), ihb _ h⟩
  | cond _ a b iha ihb => exact fun acc h => ⟨iha acc fun t ht => h t (wr_mono b _ ht), ihb _ h⟩
  | block _ b ih => exact fun acc h => ih acc h
  | scope b ih => exact fun acc h => ih acc h
  | loop b ih => exact fun acc h => ih acc h
  | _ => exact fun _ _ => trivial

theorem zipE_out {ρ : Env} {t : Nat} : ∀ (cs : List Nat) (vs : List Value), memN t cs = false → has (zipE cs vs ρ) t = has ρ t ∧ gv (zipE cs vs ρ) t = gv ρ t := by
  intro cs
  induction cs with
  | nil => intro vs _; cases vs <;> exact ⟨rfl, rfl⟩
  | cons c cs ih =>
    intro vs h
    cases vs with
    | nil => exact ⟨rfl, rfl⟩
    | cons v vs =>
      simp only [memN] at h
      cases hb : Nat.beq c t with
      | true => rw [hb] at h; cases h
      | false =>
        rw [hb] at h
        simp only [zipE, has_cons, gv_cons, hb, cond_false]
        exact ih vs h

theorem zipE_in {ρ : Env} {f : Nat → Value} {t : Nat} : ∀ (cs : List Nat), memN t cs = true → gv (zipE cs (cs.map f) ρ) t = f t := by
  intro cs
  induction cs with
  | nil => intro h; cases h
  | cons c cs ih =>
    intro h
    simp only [List.map_cons, zipE, gv_cons]
    cases hb : Nat.beq c t with
    | true => rw [Nat.eq_of_beq_eq_true hb]; rfl
    | false =>
      simp only [memN, hb, cond_false] at h
      exact ih h

theorem dropE_has {ws : List Nat} {t : Nat} : ∀ {ρ : Env}, has (dropE ws ρ) t = true → memN t ws = false ∧ has ρ t = true ∧ gv (dropE ws ρ) t = gv ρ t := by
  intro ρ
  induction ρ with
  | nil => intro h; cases h
  | cons p ρ ih =>
    obtain ⟨u, v⟩ := p
    intro h
    simp only [dropE] at h ⊢
    cases hm : memN u ws with
    | true =>
      rw [hm] at h
      simp only [cond_true] at h ⊢
      obtain ⟨h1, h2, h3⟩ := ih h
      have hne : Nat.beq u t = false := by
        cases hb : Nat.beq u t with
        | false => rfl
        | true => rw [Nat.eq_of_beq_eq_true hb] at hm; rw [hm] at h1; cases h1
      exact ⟨h1, by simp only [has_cons, hne, cond_false, h2], by simp only [gv_cons, hne, cond_false, h3]⟩
    | false =>
      rw [hm] at h
      simp only [cond_false, has_cons, gv_cons] at h ⊢
      cases hb : Nat.beq u t with
      | true => rw [Nat.eq_of_beq_eq_true hb] at hm; exact ⟨hm, rfl, rfl⟩
      | false =>
        rw [hb] at h
        exact ih h

theorem Keep.fits {N : Nat} {ρ : Env} {ws : List Nat} {a : Act} (hk : Keep N dl ρ ws a) (cs : List Nat) (f : Nat → Value) (hf : ∀ t, memN t cs = true → a.tmps[t]? = some (f t)) : Fits N dl (zipE cs (cs.map f) (dropE ws ρ)) a :=
  ⟨hk.size, hk.defs, fun t ht => by
    cases hm : memN t cs with
    | true => rw [zipE_in cs hm]; exact hf t hm
    | false =>
      obtain ⟨h1, h2⟩ := zipE_out (ρ := dropE ws ρ) cs (cs.map f) hm
      rw [h1] at ht
      obtain ⟨h3, h4, h5⟩ := dropE_has ht
      rw [h2, h5]
      exact hk.get t h4 h3⟩

theorem allHas_get {N : Nat} {ρ : Env} {cs : List Nat} {a : Act} (hf : Fits N dl ρ a) (h : allHas ρ cs = true) : ∀ t, memN t cs = true → a.tmps[t]? = some (gv ρ t) := fun t ht =>
  hf.get t (List.all_eq_true.1 h t (memN_iff.1 ht))

theorem Fits.keep {N : Nat} {ρ : Env} {a : Act} (hf : Fits N dl ρ a) (cs : List Nat) : Keep N dl ρ cs a := ⟨hf.size, hf.defs, fun t ht _ => hf.get t ht⟩

theorem wpIn_scope_straight {F : Fence} {n : Nat} {c : Code} {Q : Exit → Act → World → Prop} {a : Act} {w : World} (h : c.wpIn F n P (Exit.noGoto Q) a w) : (Code.scope c).wpIn F n P Q a w := by
  intro b k cs hro hb hr
  have s1 : ∀ (a : Act) (k : List Item) (w : World), step P (lone (b.atR a (.code (.scope c) :: k)) cs w) = .next (lone (b.atR a (.code c :: .inScope c :: k)) cs w) := fun a k w => step_lone_go (by simp [stepG, stepG.exec, Frame.atR])
  have s2 : ∀ (a : Act) (k : List Item) (w : World), step P (lone (b.atR a (.inScope c :: k)) cs w) = .next (lone (b.atR a k) cs w) := fun a k w => step_lone_go (by simp [stepG, stepG.exec, Frame.atR])
  obtain ⟨e, a₁, w₁, hq, harr⟩ := h b (.inScope c :: k) cs hro hb hr
  have st : StepsIn (Machine.fenced P F) P (lone (b.atR a (.code (.scope c) :: k)) cs w) (lone (b.atR a (.code c :: .inScope c :: k)) cs w) := .one (fenced_calm hb hr rfl) (s1 _ _ _)
  cases e with
  | normal => exact ⟨.normal, a₁, w₁, hq, StepsIn.trans st (StepsIn.trans harr (.one (fenced_calm hb hr rfl) (s2 _ _ _)))⟩
  | exit id => exact ⟨.exit id, a₁, w₁, hq, ArrivesIn.of_steps (e := .exit id) st ⟨fun k' hk => harr.1 k' (by simp [exitTo, hk]), fun hr hk => harr.2 hr (by simp [exitTo, hk])⟩⟩
  | goto l => exact hq.elim
  | ret => exact ⟨_, a₁, w₁, hq, .of_steps st harr⟩
  | panic ch => exact ⟨_, a₁, w₁, hq, .of_steps st harr⟩
  | outgrown => exact ⟨_, a₁, w₁, hq, .of_steps st harr⟩

def DrSound (P : Program) (N : Nat) (dr : List Oper → Env → (Env → WP) → WP) : Prop :=
  ∀ (rn : Option Nat) (dl : List Deferred) (id : Nat) (ops : Array Oper) (Fr : Act → Prop) (ρ : Env) (KN : Env → WP) (a : Act) (w : World) (Q : Exit → Act → World → Prop),
    dr ops.toList ρ KN w.drew → Fits N dl ρ a → Leaves ops.toList Fr → Fr a → (∀ ρ' a' w', Fits N dl ρ' a' → Fr a' → KN ρ' w' → Q .normal a' w') → (Code.region id ops true).wpIn (FF rn) 0 P Q a w

set_option maxHeartbeats 1000000 in
theorem wpC_sound (hn : NoGor P) {N : Nat} {dp : List Nat} {dr : List Oper → Env → (Env → WP) → WP} (hdr : DrSound P N dr) : ∀ (c : Code) {Fr : Act → Prop} {ρ : Env} {KN KR : Env → WP} {KX : List (Nat × (Env → WP))} {a : Act} {w : World} {Q : Exit → Act → World → Prop},
    wpC P N dp dr c ρ KN KX KR w → Fits N dl ρ a → LeavesC c Fr → Fr a → (∀ ρ' a' w', Fits N dl ρ' a' → Fr a' → KN ρ' w' → Q .normal a' w') →
    (∀ id ρ' a' w', Fits N dl ρ' a' → Fr a' → getX id KX ρ' w' → Q (.exit id) a' w') → (∀ ρ' a' w', Fits N dl ρ' a' → Fr a' → KR ρ' w' → Q .ret a' w') → c.wpIn (FF rn) 0 P Q a w := by
  intro c
  induction c with
  | skip => intro Fr ρ KN KR KX a w Q h hf _ hfr hN _ _; exact wpIn_skip (hN _ _ _ hf hfr h)
  | label l => intro Fr ρ KN KR KX a w Q h hf _ hfr hN _ _; exact wpIn_label (hN _ _ _ hf hfr h)
  | exit id => intro Fr ρ KN KR KX a w Q h hf _ hfr _ hX _; exact wpIn_exit (hX _ _ _ _ hf hfr h)
  | ret => intro Fr ρ KN KR KX a w Q h hf _ hfr _ _ hR; exact wpIn_ret (hR _ _ _ hf hfr h)
  | region id ops draw =>
    intro Fr ρ KN KR KX a w Q h hf hl hfr hN _ _
    cases draw with
    | true => exact hdr rn dl id ops Fr ρ KN a w Q h hf hl hfr hN
    | false =>
      refine wpIn_region ?_
      have := wpOps_of_wpL (P := P) (rn := rn) (Q := Q) (ops := ops) ops.toList 0 (fun j => .inl (by simp)) a w (wpSeq_sound hn _ [] ops.toList h hf hl hfr hN)
      rw [List.range_eq_range']
      simpa using this
  | seq x y ihx ihy =>
    intro Fr ρ KN KR KX a w Q h hf hl hfr hN hX hR
    exact wpIn_seq (ihx h hf hl.1 hfr (fun ρ' a' w' hf' hfr' h' => ihy h' hf' hl.2 hfr' hN hX hR) hX hR)
  | cond c x y ihx ihy =>
    intro Fr ρ KN KR KX a w Q h hf hl hfr hN hX hR
    obtain ⟨hc, h⟩ := of_bif_bad h
    cases hv : ev ρ c <;> (try (rw [hv] at h; exact h.elim))
    rename_i b
    rw [hv] at h
    have he := hf.eval hc
    rw [hv] at he
    simp only at h
    cases hfl : (falls x && falls y) with
    | false =>
      rw [hfl] at h
      obtain ⟨h1, h2⟩ := h
      exact wpIn_cond_split he (fun e => ihx (h1 e) hf hl.1 hfr hN hX hR) (fun e => ihy (h2 e) hf hl.2 hfr hN hX hR)
    | true =>
      rw [hfl] at h
      simp only [cond_true] at h
      obtain ⟨h1, h2⟩ := h
      have hkp := hf.keep (wr ρ y (wr ρ x []))
      have hlx : LeavesC x fun a => Fr a ∧ Keep N dl ρ (wr ρ y (wr ρ x [])) a := hl.1.and (wr_leaves x [] fun t ht => wr_mono y _ ht)
      have hly : LeavesC y fun a => Fr a ∧ Keep N dl ρ (wr ρ y (wr ρ x [])) a := hl.2.and (wr_leaves y _ fun t ht => ht)
      have key : ∀ ρ' a' w', Fits N dl ρ' a' → (Fr a' ∧ Keep N dl ρ (wr ρ y (wr ρ x [])) a') →
          (bif allHas ρ' (carry dp (wr ρ y (wr ρ x []))) then Cur.appV ((carry dp (wr ρ y (wr ρ x []))).map fun t => shOf (gv ρ t)) (Cur.of ((carry dp (wr ρ y (wr ρ x []))).map fun t => shOf (gv ρ t)) fun vs => KN (zipE (carry dp (wr ρ y (wr ρ x []))) vs (dropE (wr ρ y (wr ρ x [])) ρ))) ((carry dp (wr ρ y (wr ρ x []))).map (gv ρ')) else bad) w' → Q .normal a' w' := by
        intro ρ' a' w' hf' hfr' h'
        obtain ⟨ha, h'⟩ := of_bif_bad h'
        obtain ⟨t, ht, h'⟩ := Cur.appV_app _ _ _ _ h'
        rw [Cur.app_of, ht] at h'
        exact hN _ _ _ (hfr'.2.fits _ _ (allHas_get hf' ha)) hfr'.1 h'
      exact wpIn_cond_split he (fun e => ihx (h1 e) hf hlx ⟨hfr, hkp⟩ key (fun id ρ' a' w' hf' hfr' h' => hX id ρ' a' w' hf' hfr'.1 h') (fun ρ' a' w' hf' hfr' h' => hR ρ' a' w' hf' hfr'.1 h'))
        (fun e => ihy (h2 e) hf hly ⟨hfr, hkp⟩ key (fun id ρ' a' w' hf' hfr' h' => hX id ρ' a' w' hf' hfr'.1 h') (fun ρ' a' w' hf' hfr' h' => hR ρ' a' w' hf' hfr'.1 h'))
  | block id c ih =>
    intro Fr ρ KN KR KX a w Q h hf hl hfr hN hX hR
    simp only [wpC] at h
    cases hb : Nat.blt 1 ((bif falls c then 1 else 0) + exits id c) with
    | false =>
      rw [hb] at h
      refine wpIn_block (ih h hf hl hfr hN (fun i ρ' a' w' hf' hfr' h' => ?_) hR)
      simp only [Exit.inBlock]
      simp only [getX] at h'
      cases hi : Nat.beq id i with
      | true => rw [hi] at h'; rw [if_pos (Nat.eq_of_beq_eq_true hi).symm]; exact hN _ _ _ hf' hfr' h'
      | false =>
        rw [hi] at h'
        rw [if_neg fun e => by subst e; simp at hi]
        exact hX i ρ' a' w' hf' hfr' h'
    | true =>
      rw [hb] at h
      simp only [cond_true] at h
      have hlx : LeavesC c fun a => Fr a ∧ Keep N dl ρ (wr ρ c []) a := LeavesC.and hl (wr_leaves c [] fun t ht => ht)
      have key : ∀ ρ' a' w', Fits N dl ρ' a' → (Fr a' ∧ Keep N dl ρ (wr ρ c []) a') →
          (bif allHas ρ' (carry dp (wr ρ c [])) then Cur.appV ((carry dp (wr ρ c [])).map fun t => shOf (gv ρ t)) (Cur.of ((carry dp (wr ρ c [])).map fun t => shOf (gv ρ t)) fun vs => KN (zipE (carry dp (wr ρ c [])) vs (dropE (wr ρ c []) ρ))) ((carry dp (wr ρ c [])).map (gv ρ')) else bad) w' → Q .normal a' w' := by
        intro ρ' a' w' hf' hfr' h'
        obtain ⟨ha, h'⟩ := of_bif_bad h'
        obtain ⟨t, ht, h'⟩ := Cur.appV_app _ _ _ _ h'
        rw [Cur.app_of, ht] at h'
        exact hN _ _ _ (hfr'.2.fits _ _ (allHas_get hf' ha)) hfr'.1 h'
      refine wpIn_block (ih h hf hlx ⟨hfr, hf.keep _⟩ key (fun i ρ' a' w' hf' hfr' h' => ?_) (fun ρ' a' w' hf' hfr' h' => hR ρ' a' w' hf' hfr'.1 h'))
      simp only [Exit.inBlock]
      simp only [getX] at h'
      cases hi : Nat.beq id i with
      | true => rw [hi] at h'; rw [if_pos (Nat.eq_of_beq_eq_true hi).symm]; exact key _ _ _ hf' hfr' h'
      | false =>
        rw [hi] at h'
        rw [if_neg fun e => by subst e; simp at hi]
        exact hX i ρ' a' w' hf' hfr'.1 h'
  | loop c ih =>
    intro Fr ρ KN KR KX a w Q h hf hl hfr _ hX hR
    simp only [wpC] at h
    obtain ⟨hc0, h⟩ := of_bif_bad h
    obtain ⟨t0, ht0, h⟩ := Cur.appV_app _ _ _ _ h
    unfold XLoop at h
    rw [Cur.app_ofT] at h
    obtain ⟨n, h⟩ := h
    refine wpIn_loop_rounds n ?_
    have hlx : LeavesC c fun a => Fr a ∧ Keep N dl ρ (wr ρ c []) a := LeavesC.and hl (wr_leaves c [] fun t ht => ht)
    have key : ∀ (n : Nat) (t : Tup ((carry dp (wr ρ c [])).map fun t => shOf (gv ρ t))) (a : Act) (w : World), Fits N dl (zipE (carry dp (wr ρ c [])) (Tup.vals _ t) (dropE (wr ρ c []) ρ)) a → Fr a → Keep N dl ρ (wr ρ c []) a →
        Cur.app _ (rounds ((carry dp (wr ρ c [])).map fun t => shOf (gv ρ t)) (fun K => Cur.of _ fun vs => wpC P N dp dr c (zipE (carry dp (wr ρ c [])) vs (dropE (wr ρ c []) ρ)) (fun ρ' => bif allHas ρ' (carry dp (wr ρ c [])) then Cur.appV _ K ((carry dp (wr ρ c [])).map (gv ρ')) else bad) KX KR) n) t w →
        Code.roundsIn (FF rn) 0 P c Q n a w := by
      intro n
      induction n with
      | zero => intro t a w _ _ _ h; simp only [rounds, Cur.app_ofT] at h
      | succ n ihn =>
        intro t a w hf hfr hkp h
        simp only [rounds, Cur.app_of] at h
        rw [roundsIn_succ]
        refine ih h hf hlx ⟨hfr, hkp⟩ (fun ρ' a' w' hf' hfr' h' => ?_) (fun id ρ' a' w' hf' hfr' h' => hX id ρ' a' w' hf' hfr'.1 h') (fun ρ' a' w' hf' hfr' h' => hR ρ' a' w' hf' hfr'.1 h')
        obtain ⟨ha, h'⟩ := of_bif_bad h'
        obtain ⟨t', ht', h'⟩ := Cur.appV_app _ _ _ _ h'
        refine ihn t' a' w' ?_ hfr'.1 hfr'.2 h'
        rw [ht']
        exact hfr'.2.fits _ _ (allHas_get hf' ha)
    refine key n t0 a w ?_ hfr (hf.keep _) h
    rw [ht0]
    exact (hf.keep _).fits _ _ (allHas_get hf hc0)
  | scope c ih =>
    intro Fr ρ KN KR KX a w Q h hf hl hfr hN hX hR
    exact wpIn_scope_straight (ih h hf hl hfr hN hX hR)
  | _ => intro Fr ρ KN KR KX a w Q h; exact h.elim

/-- Results, and the cells of all of them. -/
inductive Flat (P : Program) : List TypeId → List Value → List Value → Prop
  | nil : Flat P [] [] []
  | cons {t : TypeId} {ts : List TypeId} {v : Value} {vs c cs : List Value} : resV P t v = some c → Flat P ts vs cs → Flat P (t :: ts) (v :: vs) (c ++ cs)

theorem resV_agg {ty : TypeId} {vs : List Value} (h : isAggB P ty = true) (hl : vs.length = (shapes P 20 ty).length) : resV P ty (.agg vs.toArray) = some vs := by
  simp [resV, h, hl]

def resOf (tmps : Array Value) : ResultVar → Sem Value
  | .tmp t => pure (tmps.getD t undef)
  | .cell a t => do loadVar t (← asAddr (tmps.getD a undef))

theorem wpRes_run {N : Nat} {a : Act} {ρ : Env} (hf : Fits N dl ρ a) : ∀ (rs : List ResultVar) (ts : List TypeId) (acc : List Value) (K : List Value → WP) (w : World), rs.length = ts.length →
    wpRes P (rs.zip ts) ρ acc K w → ∃ vs cs, (rs.mapM (resOf a.tmps)).run P w = .ok vs w ∧ Flat P ts vs cs ∧ K (acc ++ cs) w := by
  intro rs
  induction rs with
  | nil =>
    intro ts acc K w hl h
    cases ts with
    | cons => cases hl
    | nil => exact ⟨[], [], rfl, .nil, by simpa [wpRes] using h⟩
  | cons r rs ih =>
    intro ts acc K w hl h
    cases ts with
    | nil => cases hl
    | cons ty ts =>
    have hl' : rs.length = ts.length := by simpa using hl
    have fin : ∀ v c, (resOf a.tmps r).run P w = .ok v w → resV P ty v = some c → wpRes P (rs.zip ts) ρ (acc ++ c) K w →
        ∃ vs cs, ((r :: rs).mapM (resOf a.tmps)).run P w = .ok vs w ∧ Flat P (ty :: ts) vs cs ∧ K (acc ++ cs) w := by
      intro v c hr hv h'
      obtain ⟨vs, cs, hm, hfl, hk⟩ := ih ts (acc ++ c) K w hl' h'
      refine ⟨v :: vs, c ++ cs, ?_, .cons hv hfl, by rw [← List.append_assoc]; exact hk⟩
      simp only [List.mapM_cons, Sem.run_bind, hr, Result.andThen_ok, hm, Sem.run_pure]
    cases r with
    | tmp t =>
      simp only [List.zip_cons_cons, wpRes] at h
      obtain ⟨hh, h⟩ := of_bif_bad h
      cases hv : resV P ty (gv ρ t) with
      | none => rw [hv] at h; exact h.elim
      | some c =>
        rw [hv] at h
        refine fin _ c ?_ hv h
        have := hf.get t hh
        simp [resOf, Array.getD_eq_getD_getElem?, this]
    | cell t u =>
      simp only [List.zip_cons_cons, wpRes] at h
      obtain ⟨hh, h⟩ := of_bif_bad h
      simp only [Bool.and_eq_true] at hh
      obtain ⟨hh, hu⟩ := hh
      obtain rfl := Nat.eq_of_beq_eq_true hu
      have hg := hf.get t hh
      cases hv : gv ρ t <;> (try (rw [hv] at h; exact h.elim))
      rename_i q
      cases q with
      | none => rw [hv] at h; exact h.elim
      | some ad =>
      rw [hv] at h hg
      simp only at h
      have hga : a.tmps.getD t undef = .pointer (some ad) := by simp [Array.getD_eq_getD_getElem?, hg]
      cases hagg : isAggB P u with
      | true =>
        rw [hagg] at h
        simp only [cond_true] at h
        obtain ⟨d, hd⟩ := isAggB_under hagg
        cases hsz : szOf P u with
        | none => rw [hsz] at h; exact h.elim
        | some n =>
          rw [hsz] at h
          obtain ⟨hb, h⟩ := of_bif_bad h
          have hb := Nat.eq_of_beq_eq_true hb
          obtain ⟨vs, hvs, h, hlen⟩ := getCells_run (P := P) _ _ _ _ _ h
          refine fin (.agg vs.toArray) vs ?_ (resV_agg hagg (by simpa using hlen)) h
          simp only [resOf, hga, asAddr, Sem.run_bind, Sem.run_pure, Result.andThen_ok, loadVar, isAgg_run hd, hagg, if_true, run_sz hsz, loadCells]
          rw [hb]
          simp only [List.reverse_nil] at hvs
          rw [hvs]
          rfl
      | false =>
        rw [hagg] at h
        simp only [cond_false] at h
        cases hsh : shapes P 20 u with
        | nil => rw [hsh] at h; exact h.elim
        | cons s r =>
          cases r with
          | cons _ _ => rw [hsh] at h; exact h.elim
          | nil =>
            rw [hsh] at h
            obtain ⟨d, hd⟩ := shapes_under hsh
            obtain ⟨y, hy, h⟩ := h
            refine fin (s.mk y) [s.mk y] ?_ (by simp [resV, hagg]) h
            simp only [resOf, hga, asAddr, Sem.run_bind, Sem.run_pure, Result.andThen_ok, loadVar, isAgg_run hd, hagg, Bool.false_eq_true, if_false, run_load, hy]

theorem Flat.length {ts : List TypeId} {vs cs : List Value} (h : Flat P ts vs cs) : vs.length = ts.length := by
  induction h with
  | nil => rfl
  | cons _ _ ih => simp [ih]

theorem tupOf_flat {ts : List TypeId} {vs cs : List Value} (h : Flat P ts vs cs) : tupOf (ts.map fun u => bif isAggB P u then some (shapes P 20 u).length else none) cs = vs := by
  induction h with
  | nil => rfl
  | @cons t ts v vs c cs hv _ ih =>
    unfold resV at hv
    cases hagg : isAggB P t with
    | true =>
      rw [hagg] at hv
      simp only [cond_true] at hv
      split at hv
      · rename_i cs'
        cases hb : Nat.beq cs'.toList.length (shapes P 20 t).length with
        | false => rw [hb] at hv; cases hv
        | true =>
          rw [hb] at hv
          simp only [cond_true, Option.some.injEq] at hv
          subst hv
          have hb := Nat.eq_of_beq_eq_true hb
          simp only [List.map_cons, hagg, cond_true, tupOf]
          rw [← hb, List.take_left, List.drop_left, ih]
      · cases hv
    | false =>
      rw [hagg] at hv
      simp only [cond_false, Option.some.injEq] at hv
      subst hv
      simp only [List.map_cons, hagg, cond_false, List.singleton_append, tupOf, ih]

theorem rs_mk {ts : List TypeId} {vs cs : List Value} (h : Flat P ts vs cs) : (rsOfTypes P ts).1.mk cs = if h : vs.toArray.size = 1 then vs.toArray[0] else .tuple vs.toArray := by
  have hl := h.length
  match ts, h with
  | [], h =>
    cases h
    rfl
  | [t], h =>
    cases h with
    | @cons _ _ v vs c cs hv h' =>
      cases h'
      simp only [List.append_nil, rsOfTypes]
      unfold resV at hv
      cases hagg : isAggB P t with
      | true =>
        rw [hagg] at hv
        simp only [cond_true] at hv ⊢
        split at hv
        · rename_i cs'
          cases hb : Nat.beq cs'.toList.length (shapes P 20 t).length with
          | false => rw [hb] at hv; cases hv
          | true =>
            rw [hb] at hv
            simp only [cond_true, Option.some.injEq] at hv
            subst hv
            simp [Rs.mk]
        · cases hv
      | false =>
        rw [hagg] at hv
        simp only [cond_false, Option.some.injEq] at hv ⊢
        subst hv
        simp [Rs.mk]
  | t :: t' :: ts, h =>
    have := tupOf_flat h
    rw [dif_neg (by simp at hl ⊢; omega)]
    simp only [rsOfTypes, Rs.mk]
    rw [this]

theorem has_argsE : ∀ (vs : List Value) (i t : Nat), has (argsE vs i) t = true → ∃ j, t = i + j ∧ vs[j]? = some (gv (argsE vs i) t) := by
  intro vs
  induction vs with
  | nil => intro i t h; cases h
  | cons v vs ih =>
    intro i t h
    simp only [argsE, has_cons] at h
    simp only [argsE, gv_cons]
    cases hb : Nat.beq i t with
    | true => exact ⟨0, by have := Nat.eq_of_beq_eq_true hb; omega, rfl⟩
    | false =>
      rw [hb] at h
      obtain ⟨j, hj, hv⟩ := ih (i + 1) t h
      exact ⟨j + 1, by omega, by simpa using hv⟩

/-- THE CONTRACT OUT OF THE FORMULA. -/
theorem calls_of_wpF (hn : NoGor P) {dp : List Nat} {dr : Nat → List Oper → Env → (Env → WP) → WP} (hdr : ∀ N, DrSound P N (dr N)) {f : FuncId} {fn : Func} (hf : P.funcs[f]? = some fn) {args : List Value} {w : World}
    {R : Cur (rsOfTypes P fn.resultTypes.toList).2} (h : wpF P dp dr fn args _ R w) {S : Ending → World → Prop}
    (hS : ∀ t w', Cur.app _ R t w' → S (.returned ((rsOfTypes P fn.resultTypes.toList).1.mk (Tup.vals _ t))) w') : Calls P f args.toArray w S := by
  unfold wpF at h
  cases hb : fn.body with
  | none => rw [hb] at h; exact h.elim
  | some c =>
  rw [hb] at h
  simp only at h
  obtain ⟨hc, h⟩ := of_bif_bad h
  simp only [Bool.and_eq_true] at hc
  have hl := Nat.eq_of_beq_eq_true hc.1
  have hle := Nat.le_of_ble_eq_true hc.2
  refine (callsIn_ff (rn := none) (n := 0)).1 (callsIn_of_wp hf hb trivial ?_)
  have fits : Fits fn.ntmps [] (argsE args 0) { tmps := args.toArray ++ Array.replicate (fn.ntmps - args.toArray.size) undef, defers := [] } := by
    refine ⟨by simp; omega, rfl, fun t ht => ?_⟩
    obtain ⟨j, hj, hv⟩ := has_argsE args 0 t ht
    have hj' : t = j := by omega
    subst hj'
    have hlt : t < args.length := (List.getElem?_eq_some_iff.1 hv).1
    rw [Array.getElem?_append_left (by simpa using hlt)]
    simpa using hv
  have ret : ∀ ρ (a : Act) w', Fits fn.ntmps [] ρ a → True → wpRes P (fn.results.toList.zip fn.resultTypes.toList) ρ [] (fun vs => Cur.appV _ R vs) w' →
      a.defers = [] ∧ ∃ v, (results fn a.tmps).run P w' = .ok v w' ∧ S (.returned v) w' := by
    intro ρ a w' hf' _ h'
    obtain ⟨vs, cs, hm, hfl, hk⟩ := wpRes_run hf' _ _ _ _ _ hl h'
    obtain ⟨t, ht, hk⟩ := Cur.appV_app _ _ _ _ hk
    refine ⟨hf'.defs, _, ?_, hS t w' hk⟩
    simp only [List.nil_append] at ht
    rw [ht, rs_mk hfl]
    have gen : ∀ g : ResultVar → Sem Value, (∀ r, g r = resOf a.tmps r) →
        (do let vs ← fn.results.mapM g; pure (if h : vs.size = 1 then vs[0] else .tuple vs) : Sem Value).run P w' = .ok (if h : vs.toArray.size = 1 then vs.toArray[0] else .tuple vs.toArray) w' := by
      intro g hg
      obtain rfl : g = resOf a.tmps := funext hg
      rw [Array.mapM_eq_mapM_toList]
      simp only [Sem.run_bind, Sem.run_map, hm, Result.andThen_ok, Sem.run_pure]
    exact gen _ fun r => by cases r <;> rfl
  refine wpC_sound hn (hdr fn.ntmps) c (Fr := fun _ => True) h fits ?_ trivial ?_ ?_ ?_
  · have : ∀ c : Code, LeavesC c fun _ => True := by
      intro c
      induction c with
      | region _ ops _ => exact fun _ _ _ _ _ => trivial
      | seq a b iha ihb => exact ⟨iha, ihb⟩
      | cond _ a b iha ihb => exact ⟨iha, ihb⟩
      | block _ b ih => exact ih
      | loop b ih => exact ih
      | _ => trivial
    exact this c
  · exact ret
  · intro id ρ' a' w' _ _ h'; exact h'.elim
  · exact ret

end

end Go.Cf
