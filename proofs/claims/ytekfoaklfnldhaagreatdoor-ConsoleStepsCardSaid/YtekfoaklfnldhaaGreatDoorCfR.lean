/-
  A loop over a function: its formula, and that the formula gives the call's contract.
-/
import Derived.Test.YtekfoaklfnldhaaGreatDoorCfQ
import Derived.RangeFuncSeq
namespace Go.Cf
open Go
set_option linter.unusedVariables false

/-! The loop's record, and the block for the rounds' deferred calls. -/
/-- A round begins. -/
def XBusy (l : Nat) (K : WP) : WP := fun w => ∃ r, w.heap[l]? = some (.loop r) ∧ r.state = .ready ∧ K (w.putObj l (.loop { r with state := .busy }))
/-- A round ends. -/
def XReady (l : Nat) (K : WP) : WP := fun w => ∃ r, w.heap[l]? = some (.loop r) ∧ K (w.putObj l (.loop { r with state := .ready, pending := none }))
/-- The loop ends. -/
def XEndLoop (l : Nat) (K : WP) : WP := fun w => ∃ r, w.heap[l]? = some (.loop r) ∧ r.state ≠ .busy ∧ r.pending = none ∧ K (w.putObj l (.loop { r with state := .exhausted }))
/-- The function ends. -/
def XTake (D : Nat) (K : WP) : WP := fun w => w.heap[D]? = some (.deferred (some [])) ∧ K (w.putObj D (.deferred none))

/-- What a round does is known: a call of yield. -/
def RoundsAre (P : Program) (l : Nat) (rec : Loop) (np : Nat) (bodyF : Nat → List Value → WP → WP) : Prop :=
  ∀ (args : List Value) (R : WP) (W : World), args.length = np → W.heap[l]? = some (.loop rec) → bodyF l args R W → YieldAt (FF none) 0 P l args.toArray W fun e W' => e = .returned (.bool true) ∧ R W'

/-- 'for .. := range f': f is the function g with what it captures. -/
def XRF (P : Program) (g : FuncId) (cap : List Value) (np : Nat) (bodyF : Nat → List Value → WP → WP) (K : Nat → WP) : WP := fun w =>
  ∀ rec : Loop, rec.state = .ready → rec.pending = none → RoundsAre P (w.heap.size + 1) rec np bodyF →
    XCall P g ([.func (.yield (w.heap.size + 1)) #[] #[]] ++ cap) (.tup []) [] (XEndLoop (w.heap.size + 1) (K w.heap.size)) ((w.alloc (.deferred (some []))).alloc (.loop rec))

/-- The same, of a function value. -/
def XRFV (P : Program) (v : Value) (np : Nat) (bodyF : Nat → List Value → WP → WP) (K : Nat → WP) : WP :=
  match v with
  | .func (.func gf) first cap => bif nilB (first.toList.map fun _ => 0) && hasBody P gf then XRF P gf cap.toList np bodyF K else bad
  | _ => bad

def wpRF (P : Program) (N : Nat) (dp : List Nat) (dr : List Oper → Env → (Env → WP) → WP) (g : Operand) (ps : List Nat) (assign body : Code) (ρ : Env) (K : Nat → WP) : WP :=
  bif nodupN ps && (ps.all fun t => Nat.blt t N) && hasOp ρ g then
    XRFV P (ev ρ g) ps.length (fun l args R => wpC P N dp dr assign (zipE ps args ρ) (fun ρ' => XBusy l (wpC P N dp dr body ρ' (fun _ => XReady l R) [] (fun _ => bad))) [] (fun _ => bad)) K
  else bad

section
variable {P : Program} {N : Nat} {dp : List Nat} {dr : List Oper → Env → (Env → WP) → WP}

theorem leavesC_true : ∀ c : Code, LeavesC c fun _ => True := by
  intro c
  induction c with
  | region _ ops _ => exact fun _ _ _ _ _ => trivial
  | seq a b iha ihb => exact ⟨iha, ihb⟩
  | cond _ a b iha ihb => exact ⟨iha, ihb⟩
  | block _ b ih => exact ih
  | loop b ih => exact ih
  | scope b ih => exact ih
  | _ => trivial

theorem foldl_set_size (tmps : Array Value) (l : List (Nat × Value)) : (l.foldl (fun t (p : Nat × Value) => t.setIfInBounds p.1 p.2) tmps).size = tmps.size := by
  induction l generalizing tmps with
  | nil => rfl
  | cons p l ih => rw [List.foldl_cons, ih, Array.size_setIfInBounds]
theorem foldl_set_out (l : List (Nat × Value)) (t : Nat) (h : ∀ p ∈ l, p.1 ≠ t) (tmps : Array Value) : (l.foldl (fun t (p : Nat × Value) => t.setIfInBounds p.1 p.2) tmps)[t]? = tmps[t]? := by
  induction l generalizing tmps with
  | nil => rfl
  | cons p l ih =>
    rw [List.foldl_cons, ih (fun q hq => h q (List.mem_cons_of_mem _ hq)), Array.getElem?_setIfInBounds_ne (h p (List.mem_cons_self ..))]

theorem nodupN_cons {t : Nat} {l : List Nat} (h : nodupN (t :: l) = true) : t ∉ l ∧ nodupN l = true := by
  simp only [nodupN, Bool.and_eq_true, Bool.not_eq_true'] at h
  exact ⟨fun hm => (by rw [memN_iff.2 hm] at h; exact absurd h.1 (by decide)), h.2⟩

/-- The parameters of a round are laid into its slots. -/
theorem fits_params {dl : List Deferred} {ρ : Env} {a : Act} (hf : Fits N dl ρ a) : ∀ (ps : List Nat) (args : List Value), nodupN ps = true → (∀ t ∈ ps, t < N) → args.length = ps.length →
    Fits N [] (zipE ps args ρ) { tmps := (ps.zip args).foldl (fun t (p : Nat × Value) => t.setIfInBounds p.1 p.2) a.tmps, defers := [] } := by
  intro ps args hn hlt hl
  refine ⟨by rw [foldl_set_size]; exact hf.size, rfl, ?_⟩
  have gen : ∀ (ps : List Nat) (args : List Value) (tmps : Array Value), nodupN ps = true → (∀ t ∈ ps, t < N) → args.length = ps.length → N ≤ tmps.size →
      ∀ t, t ∈ ps → ((ps.zip args).foldl (fun t (p : Nat × Value) => t.setIfInBounds p.1 p.2) tmps)[t]? = some (gv (zipE ps args ρ) t) := by
    intro ps
    induction ps with
    | nil => intro args tmps _ _ _ _ t ht; cases ht
    | cons p ps ih =>
      intro args tmps hn hlt hl hN t ht
      cases args with
      | nil => simp at hl
      | cons v vs =>
        obtain ⟨hp, hn⟩ := nodupN_cons hn
        simp only [List.zip_cons_cons, List.foldl_cons, zipE, gv_cons]
        cases hbq : Nat.beq p t with
        | true =>
          obtain rfl := Nat.eq_of_beq_eq_true hbq
          simp only [cond_true]
          rw [foldl_set_out _ _ (fun q hq e => hp (by rw [← e]; exact (List.of_mem_zip hq).1)), Array.getElem?_setIfInBounds_self_of_lt (by have := hlt p (List.mem_cons_self ..); omega)]
        | false =>
          have hne : p ≠ t := fun e => by subst e; simp at hbq
          simp only [cond_false]
          exact ih vs _ hn (fun u hu => hlt u (List.mem_cons_of_mem _ hu)) (by simpa using hl) (by simpa using hN) t ((List.mem_cons.1 ht).resolve_left (Ne.symm hne))
  intro t ht
  by_cases hm : t ∈ ps
  · exact gen ps args a.tmps hn hlt hl hf.size t hm
  · obtain ⟨h1, h2⟩ := zipE_out (ρ := ρ) ps args (t := t) (by rw [Bool.eq_false_iff]; exact fun e => hm (memN_iff.1 e))
    rw [h1] at ht
    rw [h2, foldl_set_out _ _ (fun q hq e => hm (by rw [← e]; exact (List.of_mem_zip hq).1))]
    exact hf.get t ht

/-- THE STATEMENT, out of its formula. -/
theorem rf_sound (hng : NoGor P) (hdr : DrSound P N dr) {g : Operand} {ps : Array Tmp} {assign body : Code} {dl : List Deferred} {ρ : Env} {a : Act} {w : World} {K : Nat → WP} {Q : Exit → Act → World → Prop}
    (h : wpRF P N dp dr g ps.toList assign body ρ K w) (hf : Fits N dl ρ a) (hQ : ∀ (D : Nat) a' w', Fits N ({ target := .collected D, args := #[] } :: dl) ρ a' → K D w' → Q .normal a' w') :
    (Code.rangeFunc g ps assign body).wpIn (FF none) 0 P Q a w := by
  unfold wpRF at h
  obtain ⟨hc, h⟩ := of_bif_bad h
  simp only [Bool.and_eq_true, List.all_eq_true] at hc
  obtain ⟨⟨hnd, hlt⟩, hop⟩ := hc
  have hlt : ∀ t ∈ ps.toList, t < N := fun t ht => by simpa [Nat.blt_eq] using hlt t ht
  have hg := hf.eval hop
  unfold XRFV at h
  cases hv : ev ρ g <;> rw [hv] at h <;> try exact h.elim
  rename_i fv first cap
  cases fv <;> try exact h.elim
  rename_i gf
  simp only at h
  obtain ⟨hc, hX⟩ := of_bif_bad h
  clear h
  simp only [Bool.and_eq_true] at hc
  obtain ⟨hfirst, hbody⟩ := hc
  have hfe : first = #[] := by
    cases hft : first.toList with
    | nil => exact Array.toList_inj.1 (by rw [hft])
    | cons x xs => rw [hft] at hfirst; exact absurd hfirst (by simp [nilB])
  subst hfe
  rw [hv] at hg
  have hcf : ∀ args w, (callFunc gf args).run P w = .ok (.enter gf args) w := by
    intro args w
    unfold hasBody at hbody
    cases hgf : P.funcs[gf]? with
    | none => rw [hgf] at hbody; cases hbody
    | some fd =>
      rw [hgf] at hbody
      have hnm := hng gf fd hgf
      have hbn : fd.body.isNone = false := by cases hbb : fd.body <;> simp_all
      simp only [callFunc, Sem.run_bind, Sem.run_pure, Result.andThen_ok, run_program, hgf, hnm, hbn, Bool.false_eq_true, if_false]
  refine wpIn_rangeFunc (fun fn _ => ?_)
  obtain ⟨rec, hrec⟩ : ∃ rec : Loop, rec = { state := .ready, pending := none, fn, tmps := a.tmps, params := ps, assign, body, defers := w.heap.size } := ⟨_, rfl⟩
  refine ⟨w.heap.size + 1, [{ target := .collected w.heap.size, args := #[] }], (w.alloc (.deferred (some []))).alloc (.loop rec), { target := .fn (.func gf) cap, args := #[.func (.yield (w.heap.size + 1)) #[] #[]] },
    (w.alloc (.deferred (some []))).alloc (.loop rec), gf, #[.func (.yield (w.heap.size + 1)) #[] #[]] ++ cap, (w.alloc (.deferred (some []))).alloc (.loop rec), ?_, ?_, fun _ _ => trivial, ?_, fun h => (by cases h), ?_⟩
  · rw [hrec]; exact run_enterLoop_outer _ _ _ _ _
  · simp only [resolve, hg]
    simp [go_sem]
  · simp [invoke, go_sem, hcf]
  refine callsIn_ff.2 ?_
  have hx := hX rec (by rw [hrec]) (by rw [hrec]) (by
    intro args R W hla hl hb
    have hy := run_yield (P := P) (args := args.toArray) hl (by rw [hrec]; simpa using hla)
    rw [hrec] at hy
    refine ⟨_, _, _, _, hy, roundIn_of_wpIn trivial ?_⟩
    have hfp := fits_params hf ps.toList args hnd hlt hla
    have he : (ps.zip args.toArray).foldl (fun tmps (t, a) => tmps.setIfInBounds t a) a.tmps = (ps.toList.zip args).foldl (fun t (p : Nat × Value) => t.setIfInBounds p.1 p.2) a.tmps := by
      rw [← Array.foldl_toList]; simp
    show assign.wpIn (FF (some (w.heap.size + 1))) 0 P _ _ W
    refine wpC_sound (dl := []) hng hdr assign (Fr := fun _ => True) hb (by rw [← he] at hfp; exact hfp) (leavesC_true _) trivial ?_ (fun _ _ _ _ _ _ h => h.elim) (fun _ _ _ _ _ h => h.elim)
    rintro ρ' a' w' hf' _ ⟨r, hr, hst, hb'⟩
    refine ⟨_, run_beginRound hr hst, ?_⟩
    show body.wpIn (FF (some (w.heap.size + 1))) 0 P _ _ _
    refine wpC_sound (dl := []) hng hdr body (Fr := fun _ => True) hb' hf' (leavesC_true _) trivial ?_ (fun _ _ _ _ _ _ h => h.elim) (fun _ _ _ _ _ h => h.elim)
    rintro ρ'' a'' w'' _ _ ⟨r', hr', hR⟩
    exact ⟨_, _, run_endRound none hr', rfl, hR⟩)
  unfold XCall at hx
  have e : ([.func (.yield (w.heap.size + 1)) #[] #[]] ++ cap.toList : List Value).toArray = #[.func (.yield (w.heap.size + 1)) #[] #[]] ++ cap := by apply Array.ext'; simp
  rw [e] at hx
  refine Calls.mono hx ?_
  rintro _ W' ⟨t, rfl, r, hr, hst, hp, hK⟩
  refine ⟨r.pending, _, run_endLoop (P := P) hr hst, ?_⟩
  have key := hQ _ { tmps := a.tmps, defers := [{ target := .collected w.heap.size, args := #[] }] ++ a.defers } _ ⟨hf.size, by show _ :: a.defers = _; rw [hf.defs], hf.get⟩ hK
  generalize r.pending = q at hp key ⊢
  subst hp
  exact key

/-! A function that holds such a loop. -/
def wpInL (P : Program) : List Code → (Act → World → Prop) → (Exit → Act → World → Prop) → Act → World → Prop
  | [], M, _, a, w => M a w
  | c :: cs, M, Q, a, w => c.wpIn (FF none) 0 P (Exit.then (wpInL P cs M Q) Q) a w
theorem wpInL_app (xs ys : List Code) (M : Act → World → Prop) (Q : Exit → Act → World → Prop) : wpInL P (xs ++ ys) M Q = wpInL P xs (wpInL P ys M Q) Q := by
  induction xs with
  | nil => rfl
  | cons c cs ih => funext a w; simp only [List.cons_append, wpInL, ih]
theorem wpIn_seqs : ∀ (c : Code) (M : Act → World → Prop) (Q : Exit → Act → World → Prop) (a : Act) (w : World), wpInL P (seqs c) M Q a w → c.wpIn (FF none) 0 P (Exit.then M Q) a w := by
  intro c
  induction c with
  | seq x y ihx ihy =>
    intro M Q a w h
    simp only [seqs] at h
    rw [wpInL_app] at h
    refine wpIn_seq (wpIn_mono (ihx _ Q a w h) ?_)
    rintro e a' w' hq
    cases e with
    | normal => exact ihy M Q a' w' hq
    | _ => exact hq
  | _ => intro M Q a w h; exact h
theorem wpLs_sound (hng : NoGor P) (hdr : DrSound P N dr) {dl : List Deferred} : ∀ (cs : List Code) {ρ : Env} {KN KR : Env → WP} {KX : List (Nat × (Env → WP))} {a : Act} {w : World} {M : Act → World → Prop} {Q : Exit → Act → World → Prop},
    wpLs P N dp dr cs ρ KN KX KR w → Fits N dl ρ a → (∀ ρ' a' w', Fits N dl ρ' a' → KN ρ' w' → M a' w') → (∀ id ρ' a' w', Fits N dl ρ' a' → getX id KX ρ' w' → Q (.exit id) a' w') →
    (∀ ρ' a' w', Fits N dl ρ' a' → KR ρ' w' → Q .ret a' w') → wpInL P cs M Q a w := by
  intro cs
  induction cs with
  | nil => intro ρ KN KR KX a w M Q h hf hN _ _; exact hN _ _ _ hf h
  | cons c cs ih =>
    intro ρ KN KR KX a w M Q h hf hN hX hR
    refine wpC_sound (rn := none) hng hdr c (Fr := fun _ => True) h hf (leavesC_true _) trivial ?_ ?_ ?_
    · intro ρ' a' w' hf' _ h'; exact ih h' hf' hN hX hR
    · intro id ρ' a' w' hf' _ h'; exact hX id ρ' a' w' hf' h'
    · intro ρ' a' w' hf' _ h'; exact hR ρ' a' w' hf' h'

theorem results_of {fn : Func} {ρ : Env} {a : Act} {dl : List Deferred} {R : Cur (rsOfTypes P fn.resultTypes.toList).2} {w' : World} (hl : fn.results.toList.length = fn.resultTypes.toList.length) (hf' : Fits fn.ntmps dl ρ a)
    (h' : wpRet P fn _ R ρ w') : ∃ v t, (results fn a.tmps).run P w' = .ok v w' ∧ v = (rsOfTypes P fn.resultTypes.toList).1.mk (Tup.vals _ t) ∧ Cur.app _ R t w' := by
  obtain ⟨vs, cs, hm, hfl, hk⟩ := wpRes_run hf' _ _ _ _ _ hl h'
  obtain ⟨t, ht, hk⟩ := Cur.appV_app _ _ _ _ hk
  refine ⟨_, t, ?_, rfl, hk⟩
  simp only [List.nil_append] at ht
  rw [ht, rs_mk hfl]
  have gen : ∀ g : ResultVar → Sem Value, (∀ r, g r = resOf a.tmps r) →
      (do let vs ← fn.results.mapM g; pure (if h : vs.size = 1 then vs[0] else .tuple vs) : Sem Value).run P w' = .ok (if h : vs.toArray.size = 1 then vs.toArray[0] else .tuple vs.toArray) w' := by
    intro g hg
    obtain rfl : g = resOf a.tmps := funext hg
    rw [Array.mapM_eq_mapM_toList]
    simp only [Sem.run_bind, Sem.run_map, hm, Result.andThen_ok, Sem.run_pure]
  exact gen _ fun r => by cases r <;> rfl

def rfAssign (fn : Func) (k : Nat) : Code := match fn.body with
  | some c => (match (seqs c)[k]? with
    | some (.block _ (.rangeFunc _ _ a _)) => a
    | _ => .skip)
  | none => .skip
def rfBody (fn : Func) (k : Nat) : Code := match fn.body with
  | some c => (match (seqs c)[k]? with
    | some (.block _ (.rangeFunc _ _ _ b)) => b
    | _ => .skip)
  | none => .skip
def rfPs (fn : Func) (k : Nat) : List Nat := match fn.body with
  | some c => (match (seqs c)[k]? with
    | some (.block _ (.rangeFunc _ ps _ _)) => ps.toList
    | _ => [])
  | none => []

/-- The formula of such a function: the loop stands at the place k of its text. -/
def wpFR (P : Program) (dp : List Nat) (dr : Nat → List Oper → Env → (Env → WP) → WP) (fn : Func) (k : Nat) (args : List Value) (ss : List Sh) (R : Cur ss) : WP :=
  match fn.body with
  | none => bad
  | some c => bif Nat.beq fn.results.toList.length fn.resultTypes.toList.length && Nat.ble args.length fn.ntmps then
      (match (seqs c)[k]? with
      | some (.block id (.rangeFunc g ps assign body)) =>
        wpLs P fn.ntmps dp (dr fn.ntmps) ((seqs c).take k) (argsE args 0) (fun ρ => wpRF P fn.ntmps dp (dr fn.ntmps) g ps.toList assign body ρ fun D =>
          wpLs P fn.ntmps dp (dr fn.ntmps) ((seqs c).drop (k + 1)) ρ (fun ρ' => XTake D (wpRet P fn ss R ρ')) [] (fun ρ' => XTake D (wpRet P fn ss R ρ'))) [] (fun ρ' => wpRet P fn ss R ρ')
      | _ => bad)
    else bad

theorem xcall_rf (hng : NoGor P) (hm : P.follows .mixedOrders = true) {f : FuncId} {fn : Func} (hf : P.funcs[f]? = some fn) {dp : List Nat} {k : Nat} {args : List Value} {rs : Rs} {ss : List Sh}
    (hrs : rsOfTypes P fn.resultTypes.toList = (rs, ss)) {K : Cur ss} {w : World} (h : wpFR P dp (wpDr P fn) fn k args ss K w) : XCall P f args rs ss K w := by
  obtain ⟨rfl, rfl⟩ : (rsOfTypes P fn.resultTypes.toList).1 = rs ∧ (rsOfTypes P fn.resultTypes.toList).2 = ss := by rw [hrs]; exact ⟨rfl, rfl⟩
  unfold wpFR at h
  cases hb : fn.body with
  | none => rw [hb] at h; exact h.elim
  | some c =>
  rw [hb] at h
  simp only at h
  obtain ⟨hc, h⟩ := of_bif_bad h
  simp only [Bool.and_eq_true] at hc
  have hl := Nat.eq_of_beq_eq_true hc.1
  have hle := Nat.le_of_ble_eq_true hc.2
  cases hk : (seqs c)[k]? with
  | none => rw [hk] at h; exact h.elim
  | some x =>
    rw [hk] at h
    cases x <;> try exact h.elim
    rename_i id c1
    cases c1 <;> try exact h.elim
    rename_i g ps assign body
    simp only at h
    have hsp : seqs c = (seqs c).take k ++ (.block id (.rangeFunc g ps assign body)) :: (seqs c).drop (k + 1) := by
      obtain ⟨hlt, e⟩ := List.getElem?_eq_some_iff.1 hk
      conv => lhs; rw [← List.take_append_drop k (seqs c), List.drop_eq_getElem_cons hlt, e]
    unfold XCall
    refine (callsIn_ff (rn := none) (n := 0)).1 (callsIn_of_wp_marks hf hb trivial ?_)
    have fits : Fits fn.ntmps [] (argsE args 0) { tmps := args.toArray ++ Array.replicate (fn.ntmps - args.toArray.size) undef, defers := [] } := by
      refine ⟨by simp; omega, rfl, fun t ht => ?_⟩
      obtain ⟨j, hj, hv⟩ := has_argsE args 0 t ht
      have hj' : t = j := by omega
      subst hj'
      have hlt : t < args.length := (List.getElem?_eq_some_iff.1 hv).1
      rw [Array.getElem?_append_left (by simpa using hlt)]
      simpa using hv
    have hdr := drSound hng hm fn fn.ntmps
    refine wpIn_mono (wpIn_seqs c (bodyPostM (FF none) 0 P fn _ .normal) (bodyPostM (FF none) 0 P fn _) _ _ ?_) (fun e a' w' hq => by cases e <;> exact hq)
    rw [hsp, wpInL_app]
    refine wpLs_sound hng hdr _ h fits ?_ (fun _ _ _ _ _ h => h.elim) (fun ρ3 a3 w3 hf3 h3 => by
      show LeavesInM (FF none) 0 P fn a3.tmps _ a3.defers .returning w3
      rw [hf3.defs]
      obtain ⟨v, t, hv, rfl, hk⟩ := results_of hl hf3 h3
      exact ⟨_, hv, t, rfl, hk⟩)
    intro ρ' a' w' hf' h'
    show Code.wpIn _ _ _ _ _ _ _
    refine wpIn_block ?_
    refine rf_sound hng hdr h' hf' ?_
    intro D a'' w'' hf'' h''
    have fin : ∀ ρ3 a3 w3, Fits fn.ntmps ({ target := .collected D, args := #[] } :: []) ρ3 a3 → XTake D (wpRet P fn _ K ρ3) w3 →
        LeavesInM (FF none) 0 P fn a3.tmps (fun e w' => ∃ t, e = .returned ((rsOfTypes P fn.resultTypes.toList).1.mk (Tup.vals _ t)) ∧ Cur.app _ K t w') a3.defers .returning w3 := by
      rintro ρ3 a3 w3 hf3 ⟨hD, hR⟩
      rw [hf3.defs]
      obtain ⟨v, t, hv, rfl, hk⟩ := results_of hl hf3 hR
      exact ⟨by simp, .inl ⟨D, _, rfl, run_takeDeferred hD, _, hv, t, rfl, hk⟩⟩
    show wpInL P _ _ _ a'' w''
    exact wpLs_sound hng hdr _ h'' hf'' (fun ρ3 a3 w3 hf3 h3 => fin ρ3 a3 w3 hf3 h3) (fun _ _ _ _ _ h => h.elim) (fun ρ3 a3 w3 hf3 h3 => fin ρ3 a3 w3 hf3 h3)
end

/-! Rules. -/
section
variable {B : Base} {As F : List HP}

def LoopP (l : Nat) (r : Loop) : HP := fun h => h l = some (.loop r)
def DefP (D : Nat) : HP := fun h => h D = some (.deferred (some []))
def DefN (D : Nat) : HP := fun h => h D = some (.deferred none)

theorem loop_world {l : Nat} {r : Loop} {w : World} (h : Sx B (LoopP l r :: As) w) : w.heap[l]? = some (.loop r) := by
  obtain ⟨g, hg, hs⟩ := h.head
  exact hs l _ hg
theorem put_write {P Q : HP} {w : World} {b : Nat} {o o' : Obj} (h : Sx B (P :: As) w) (hw : w.heap[b]? = some o) (hP : ∀ g, P g → ∃ o, g b = some o) (hQ : ∀ g : Frag, g b = some o' → (∀ k, k ≠ b → g k = none) → Q g) : Sx B (Q :: As) (w.putObj b o') :=
  h.writeO (b := b) (o' := o') hP (hQ _ (by simp) (fun k hk => by simp [hk])) (fun k hk => World.putObj_heap_other hk) (World.putObj_heap_same (Array.getElem?_eq_some_iff.1 hw).1) rfl rfl rfl ⟨by simp, Nat.le_refl _⟩
theorem xbusy (i : Nat) {l : Nat} {r : Loop} [p : Pick i As (LoopP l r) F] {K : WP} (hr : r.state = .ready) (h : Ent B (LoopP l { r with state := .busy } :: F) K) : Ent B As (XBusy l K) := fun w hw => by
  have hw := hw.perm p.perm
  have hl := loop_world hw
  exact ⟨r, hl, hr, h _ (put_write hw hl (fun g hg => ⟨_, hg⟩) fun g hg _ => hg)⟩
theorem xready (i : Nat) {l : Nat} {r : Loop} [p : Pick i As (LoopP l { r with state := .busy }) F] {K : WP} (hr : r.state = .ready) (hn : r.pending = none) (h : Ent B (LoopP l r :: F) K) : Ent B As (XReady l K) := fun w hw => by
  have hw := hw.perm p.perm
  have hl := loop_world hw
  refine ⟨_, hl, h _ ?_⟩
  have e : ({ ({ r with state := .busy } : Loop) with state := .ready, pending := none } : Loop) = r := by
    obtain ⟨a, b, _, _, _, _, _, _⟩ := r
    simp only at hr hn
    subst hr hn; rfl
  rw [e]
  exact put_write hw hl (fun g hg => ⟨_, hg⟩) fun g hg _ => hg
theorem xendloop (i : Nat) {l : Nat} {r : Loop} [p : Pick i As (LoopP l r) F] {K : WP} (hr : r.state = .ready) (hn : r.pending = none) (h : Ent B F K) : Ent B As (XEndLoop l K) := fun w hw => by
  have hw := hw.perm p.perm
  have hl := loop_world hw
  refine ⟨r, hl, by rw [hr]; decide, hn, ?_⟩
  have : Sx B (LoopP l { r with state := .exhausted } :: F) _ := put_write hw hl (fun g hg => ⟨_, hg⟩) fun g hg _ => hg
  exact h _ this.tail
theorem xtake (i : Nat) {D : Nat} [p : Pick i As (DefP D) F] {K : WP} (h : Ent B F K) : Ent B As (XTake D K) := fun w hw => by
  have hw := hw.perm p.perm
  obtain ⟨g, hg, hs⟩ := hw.head
  have hD : w.heap[D]? = some (.deferred (some [])) := hs D _ hg
  refine ⟨hD, ?_⟩
  have : Sx B (DefN D :: F) (w.putObj D (.deferred none)) := put_write hw hD (fun g hg => ⟨_, hg⟩) fun g hg _ => hg
  exact h _ this.tail

/-- What a call of yield comes to: a round. -/
def CtY (P : Program) (l : Nat) (args : List Value) (pre : List HP) (rd : HP) (post : List HP → Prop) : Prop :=
  ∀ (w : World) (h : Frag), star pre h → Sub h (mem w) → rd (frz w h) → YieldAt (FF none) 0 P l args.toArray w fun e w' => ∃ Bs, e = .returned (.bool true) ∧ post Bs ∧ Sx ⟨w, h⟩ Bs w'

theorem xyield {P : Program} {l : Nat} {args : List Value} {pre : List HP} {rd : HP} {post : List HP → Prop} {K : Bool → WP} (sp : CtY P l args pre rd post) (p : As.Perm (pre ++ F)) (hrd : Rds B F rd)
    (h : ∀ Bs, post Bs → Ent B (Bs ++ F) (K true)) : Ent B As (XYield P l args K) := by
  intro w hw
  obtain ⟨g, hs, hm, hu⟩ := hw.perm p
  obtain ⟨a, b, ha, hb, hd, sa, sb⟩ := (star_append pre F).1 hs
  have hu' : Upd B (uni a b) w := hu.sub (uni_sub sa sb)
  obtain ⟨fn, tmps, assign, body, hr, hR⟩ := sp w a ha (sa.trans hm) (hrd w a b hb (sb.trans hm) hd (sa.trans hm) hu')
  refine ⟨fn, tmps, assign, body, hr, hR.mono ?_⟩
  rintro e w' ⟨Bs, rfl, hp, c, hc, hcm, hcu⟩
  refine ⟨true, rfl, h Bs hp w' ⟨uni c b, (star_append Bs F).2 ⟨c, b, hc, hb, ?_, sub_uni_left _ _, ?_⟩, ?_, ?_⟩⟩
  all_goals
    have key : ∀ k o, b k = some o → w'.heap[k]? = some o ∧ c k = none := by
      intro k o hk
      have h1 : w.heap[k]? = some o := (sb.trans hm) k o hk
      have hlt : k < w.heap.size := (Array.getElem?_eq_some_iff.1 h1).1
      have ha0 : a k = none := by
        rcases hd k with e | e
        · exact e
        · rw [hk] at e; cases e
      have := hcu.old k hlt ha0
      exact ⟨by rw [this.1]; exact h1, this.2⟩
    have hdis : Dis c b := fun k => by
      cases hk : b k with
      | none => exact .inr rfl
      | some o => exact .inl (key k o hk).2
  · exact hdis
  · exact sub_uni_right hdis
  · exact uni_sub hcm fun k o hk => (key k o hk).1
  · refine ⟨by rw [hcu.os, hu.os], by rw [hcu.tape, hu.tape], by rw [hcu.output, hu.output], by first | exact Nat.le_trans hu.drawn hcu.drawn | exact hcu.drawn, Nat.le_trans hu.size hcu.size, fun k hk h0 => ?_⟩
    have h1 := hu'.old k hk h0
    have h2 := uni_none.1 h1.2
    have h3 := hcu.old k (Nat.lt_of_lt_of_le hk hu.size) h2.1
    exact ⟨by rw [h3.1]; exact h1.1, uni_none.2 ⟨h3.2, h2.2⟩⟩

/-- yield through its variable. -/
theorem xdyny {P : Program} {l : Nat} {args : List Value} {K : Bool → WP} (h : Ent B As (XYield P l args K)) : Ent B As (XDyn1 P (.func (.yield l) #[] #[]) args .bool K) := fun w hw => h w hw

theorem xrfv {P : Program} {g : FuncId} {cap : Array Value} {np : Nat} {bodyF : Nat → List Value → WP → WP} {K : Nat → WP} (hb : hasBody P g = true) (h : Ent B As (XRF P g cap.toList np bodyF K)) : Ent B As (XRFV P (.func (.func g) #[] cap) np bodyF K) := fun w hw => by
  show (bif nilB ((#[] : Array Value).toList.map fun _ => 0) && hasBody P g then XRF P g cap.toList np bodyF K else bad) w
  rw [hb]
  exact h w hw

theorem xrf {P : Program} {g : FuncId} {cap : List Value} {np : Nat} {bodyF : Nat → List Value → WP → WP} {K : Nat → WP}
    (h : ∀ (l D : Nat) (rec : Loop), rec.state = .ready → rec.pending = none →
      (∀ (args : List Value) (pre : List HP) (rd : HP) (post : List HP → Prop), args.length = np →
        (∀ B' : Base, rd (frz B'.W B'.h0) → Ent B' (LoopP l rec :: pre) (bodyF l args (fun w => ∃ Bs, post Bs ∧ Sx B' (LoopP l rec :: Bs) w))) →
        CtY P l args (LoopP l rec :: pre) rd (fun Bs => ∃ Cs, Bs = LoopP l rec :: Cs ∧ post Cs)) →
      Ent B (LoopP l rec :: DefP D :: As) (XCall P g ([.func (.yield l) #[] #[]] ++ cap) (.tup []) [] (XEndLoop l (K D)))) : Ent B As (XRF P g cap np bodyF K) := by
  intro w hw rec hr hn hR
  refine h (w.heap.size + 1) w.heap.size rec hr hn ?_ _ ?_
  · intro args pre rd post hl hb W g hs hm hrd
    obtain ⟨a, b, ha, hb', hd, sa, sb⟩ := hs
    have hW : W.heap[w.heap.size + 1]? = some (.loop rec) := hm _ _ (sa _ _ ha)
    obtain ⟨fn, tmps, assign, body, hy, hRd⟩ := hR args (fun w' => ∃ Bs, post Bs ∧ Sx ⟨W, g⟩ (LoopP (w.heap.size + 1) rec :: Bs) w') W hl hW (hb ⟨W, g⟩ hrd W (Sx.start ⟨a, b, ha, hb', hd, sa, sb⟩ hm))
    refine ⟨fn, tmps, assign, body, hy, hRd.mono ?_⟩
    rintro e w' ⟨rfl, Bs, hp, hx⟩
    exact ⟨_, rfl, ⟨Bs, rfl, hp⟩, hx⟩
  · have h1 : Sx B (DefP w.heap.size :: As) (w.alloc (.deferred (some []))) := hw.allocO (Q := DefP w.heap.size) (by simp [DefP])
    have h2 := h1.allocO (o := .loop rec) (Q := LoopP (w.heap.size + 1) rec) (by simp [LoopP])
    exact h2
end
end Go.Cf
