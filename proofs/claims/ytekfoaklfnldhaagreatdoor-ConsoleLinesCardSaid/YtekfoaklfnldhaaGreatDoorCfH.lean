/-
  A region whose order Go leaves open: its formula serves for every order (the end).
-/
import Derived.Test.YtekfoaklfnldhaaGreatDoorCfG
namespace Go.Cf
open Go

section
variable {P : Program} {rn : Option Nat} {dl : List Deferred} {N : Nat} {ops : Array Oper} {ρ0 : Env} {Fr : Act → Prop} {Q : Exit → Act → World → Prop}

theorem ready_iff {listed : Array Bool} {i : Nat} (hl : listed.size = ops.toList.length) : i ∈ Region.ready .any ops listed ↔
    ¬ Dn listed i ∧ ∃ o, ops.toList[i]? = some o ∧ ∀ m ∈ dirDeps o, Dn listed m := by
  rw [mem_ready]
  have hD : ∀ m, listed.getD m false = true ↔ Dn listed m := by
    intro m
    unfold Dn
    rw [Array.getD_eq_getD_getElem?]
    cases listed[m]? <;> simp
  constructor
  · rintro ⟨h0, o, ho, hall⟩
    refine ⟨fun h => ?_, o, by simpa using ho, fun m hm => ?_⟩
    · unfold Dn at h
      rw [Array.getD_eq_getD_getElem?, h] at h0
      cases h0
    · simp only [dirDeps, List.mem_map, List.mem_filter] at hm
      obtain ⟨e, ⟨he, hb⟩, rfl⟩ := hm
      exact (hD _).1 (hall e (by simpa using he) hb)
  · rintro ⟨h0, o, ho, hall⟩
    have ho' : ops[i]? = some o := by simpa using ho
    refine ⟨?_, o, ho', fun e he hb => (hD _).2 (hall e.on ?_)⟩
    · have hlt : i < listed.size := by
        rw [hl]
        exact (List.getElem?_eq_some_iff.1 ho).1
      unfold Dn at h0
      rw [Array.getD_eq_getD_getElem?, Array.getElem?_eq_getElem hlt] at *
      simp only [Option.getD_some]
      cases hb : listed[i] with
      | false => rfl
      | true => rw [hb] at h0; exact absurd rfl h0
    · simp only [dirDeps, List.mem_map, List.mem_filter]
      exact ⟨e, ⟨by simpa using he, hb⟩, rfl⟩

theorem dn_set {listed : Array Bool} {i k : Nat} (hi : i < listed.size) : Dn (listed.setIfInBounds i true) k ↔ k = i ∨ Dn listed k := by
  unfold Dn
  by_cases e : i = k
  · subst e
    rw [Array.getElem?_setIfInBounds_self_of_lt hi]
    simp
  · rw [Array.getElem?_setIfInBounds_ne e]
    constructor
    · exact .inr
    · rintro (h | h)
      · exact absurd h.symm e
      · exact h

/-- The actual order makes one operation: the frame behind it. -/
theorem Act1.step {listed : Array Bool} {a : Act} {X : List Nat} {V V' : Nat → Value} {X' : List Nat} (h : Act1 dl N ops.toList ρ0 Fr listed a X V) (hn : nodupN (dsts ops.toList) = true)
    (hlv : Leaves ops.toList Fr) {i : Nat} {o : Oper} (ho : ops.toList[i]? = some o) (hf : OpFacts N ops.toList i o) (hnd : ¬ Dn listed i) (hdeps : ∀ m ∈ dirDeps o, Dn listed m)
    (hX : ∀ k ∈ X, k ∈ X') (hi : i ∈ X') (hV : ∀ k, Dn listed k → V' k = V k) : Act1 dl N ops.toList ρ0 Fr (listed.setIfInBounds i true) (a.put o.dst (V' i)) X' V' := by
  have hlt : i < listed.size := by rw [h.lsize]; exact (List.getElem?_eq_some_iff.1 ho).1
  have other : ∀ t, o.dst ≠ some t → (a.put o.dst (V' i)).tmps[t]? = a.tmps[t]? := by
    intro t ht
    cases hd : o.dst with
    | none => rfl
    | some d =>
      have hne : d ≠ t := fun e => ht (by rw [hd, e])
      simp only [Act.put]
      rw [Array.getElem?_setIfInBounds_ne hne]
  have self : ∀ t, o.dst = some t → (a.put o.dst (V' i)).tmps[t]? = some (V' i) := by
    intro t ht
    rw [ht]
    simp only [Act.put]
    exact Array.getElem?_setIfInBounds_self_of_lt (Nat.lt_of_lt_of_le (hf.dst t ht) h.size)
  refine ⟨by simpa using h.lsize, fun k hk => ?_, fun k ok hk hok m hm => ?_, ?_, ?_, hlv o (List.mem_of_getElem? ho) _ _ h.fr, fun k ok t hk hok hd => ?_, fun t ht hno => ?_⟩
  · rcases (dn_set hlt).1 hk with rfl | hk
    · exact hi
    · exact hX k (h.dx k hk)
  · rw [dn_set hlt]
    rcases (dn_set hlt).1 hk with rfl | hk
    · rw [ho] at hok; cases hok; exact .inr (hdeps m hm)
    · exact .inr (h.dcl k ok hk hok m hm)
  · cases hd : o.dst <;> simpa [Act.put] using h.size
  · cases hd : o.dst <;> exact h.defs
  · rcases (dn_set hlt).1 hk with rfl | hk
    · rw [ho] at hok; cases hok; exact self t hd
    · rw [other t (fun e => ?_), h.vals k ok t hk hok hd, hV k hk]
      have := dsts_unique hn hok ho hd e
      exact hnd (by rw [← this]; exact hk)
  · have hnot : o.dst ≠ some t := hno i o ((dn_set hlt).2 (.inl rfl)) ho
    rw [other t hnot]
    exact h.base t ht fun k ok hk hok => hno k ok ((dn_set hlt).2 (.inr hk)) hok

/-- What an operation whose turn has come reads in the actual frame is what the one order read. -/
theorem src_eval {listed : Array Bool} {a : Act} {X : List Nat} {V : Nat → Value} (h : Act1 dl N ops.toList ρ0 Fr listed a X V) {i : Nat} {o : Oper} {ρ : Env} (ho : ops.toList[i]? = some o) (hnd : ¬ Dn listed i)
    (hdeps : ∀ m ∈ dirDeps o, Dn listed m) (hs : Src ops.toList ρ0 X V i o ρ) : ∀ x ∈ o.op.operands, a.eval x = ev ρ x := by
  intro x hx
  obtain ⟨hh, hc⟩ := hs x hx
  cases x with
  | tmp t =>
    have hcl := bef_closed (D := Dn listed) (fun a b c d => h.dcl a b c d)
    have key : a.tmps[t]? = some (gv ρ t) := by
      rcases hc t rfl with ⟨u, ou, hou, hd, hm, hv, _⟩ | ⟨h1, h2, h3⟩
      · rw [hv]
        exact h.vals u ou t (hcl i o ho hdeps u hm) hou hd
      · rw [h2]
        refine h.base t h1 fun k ok hk hok hd => ?_
        exact hnd (hcl k ok hok (h.dcl k ok hk hok) i (h3 k ok hok hd).2)
    simp [Act.eval, ev, Array.getD_eq_getD_getElem?, key]
  | _ => rfl

theorem wanted_iff {listed : Array Bool} {a : Act} {X : List Nat} {V : Nat → Value} (h : Act1 dl N ops.toList ρ0 Fr listed a X V) {i : Nat} {o : Oper} (hf : OpFacts N ops.toList i o)
    (hdeps : ∀ m ∈ dirDeps o, Dn listed m) : Region.wanted o (yielded ops a.tmps) = true ↔ WantV V o := by
  unfold Region.wanted WantV
  cases hg : o.guard with
  | none => simp
  | some gb =>
    obtain ⟨g, b⟩ := gb
    obtain ⟨hgd, d, hd⟩ := hf.guard g b hg
    obtain ⟨og, hog, hdg⟩ := dstOf_some hd
    have hv := h.vals g og d (hdeps g hgd) hog hdg
    have hog' : ops[g]? = some og := by simpa using hog
    simp only [yielded, hog', Option.bind_some, hdg, hv]
    cases V g <;> simp

theorem count_set {listed : Array Bool} {i : Nat} (hi : i < listed.size) (hnd : ¬ Dn listed i) : (listed.setIfInBounds i true).toList.count true = listed.toList.count true + 1 := by
  rw [Array.toList_setIfInBounds, List.count_set (by simpa using hi)]
  have : listed.toList[i]'(by simpa using hi) = false := by
    unfold Dn at hnd
    rw [Array.getElem?_eq_getElem hi] at hnd
    simp only [Array.getElem_toList]
    cases hb : listed[i] with
    | false => rfl
    | true => rw [hb] at hnd; exact absurd rfl hnd
  simp [this]

theorem all_dn {listed : Array Bool} (h : listed.toList.count true = listed.size) : ∀ i, i < listed.size → Dn listed i := by
  intro i hi
  have := (List.count_eq_length.1 (by simpa using h)) (listed.toList[i]'(by simpa using hi)) (List.getElem_mem _)
  unfold Dn
  rw [Array.getElem?_eq_getElem hi]
  simp only [Array.getElem_toList] at this
  rw [← this]

theorem ord_all {listed : Array Bool} {X : List Nat} (hl : listed.size = ops.toList.length) (hr : Region.ready .any ops listed = []) (hord : OrdOK ops.toList X) (hxb : ∀ i ∈ X, ∃ o, ops.toList[i]? = some o) : ∀ i ∈ X, Dn listed i := by
  induction hord with
  | nil => intro i hi; cases hi
  | @cons x X hx _ ih =>
    have ihX := ih fun i hi => hxb i (List.mem_cons_of_mem _ hi)
    intro i hi
    rcases List.mem_cons.1 hi with rfl | hi
    · obtain ⟨o, ho⟩ := hxb i (List.mem_cons_self ..)
      by_cases hd : Dn listed i
      · exact hd
      · have : i ∈ Region.ready .any ops listed := (ready_iff hl).2 ⟨hd, o, ho, fun m hm => ihX m (hx o ho m hm)⟩
        rw [hr] at this
        cases this
    · exact ihX i hi

set_option maxHeartbeats 1000000 in
theorem dr_any (hng : NoGor P) (hn : nodupN (dsts ops.toList) = true) (hall : ∀ i o, ops.toList[i]? = some o → OpFacts N ops.toList i o) (hlv : Leaves ops.toList Fr) {K : Env → WP}
    (hK : ∀ ρ a w, Fits N dl ρ a → Fr a → K ρ w → Q .normal a w) :
    ∀ (fuel : Nat) (listed : Array Bool) (a : Act) (w : World) (S : St) (X : List Nat) (V : Nat → Value) (dec : List Nat) (ρ : Env),
      listed.toList.count true + fuel = ops.toList.length → Act1 dl N ops.toList ρ0 Fr listed a X V → Can P ops.toList ρ0 (Dn listed) w X V ρ →
      stChk P ops.toList (befsOf ops.toList []) S X [] = true → wpSteps P N ops.toList S dec ρ K w → wpAnyIn (FF rn) 0 P .any ops Q fuel listed a w := by
  -- where all is done
  have fin : ∀ (listed : Array Bool) (a : Act) (w : World) (S : St) (X : List Nat) (V : Nat → Value) (dec : List Nat) (ρ : Env), Act1 dl N ops.toList ρ0 Fr listed a X V → Can P ops.toList ρ0 (Dn listed) w X V ρ →
      stChk P ops.toList (befsOf ops.toList []) S X [] = true → wpSteps P N ops.toList S dec ρ K w → Stuck S → Region.ready .any ops listed = [] → Q .normal a w := by
    intro listed a w S X V dec ρ hA hC hs h hS hr
    have hXD := ord_all hA.lsize hr hC.ord hC.xb
    rcases st_some hs hS with rfl | ⟨e, he⟩
    · refine hK ρ a w ⟨hA.size, hA.defs, fun t ht => ?_⟩ hA.fr h
      rcases hC.env t ht with ⟨i, o, hi, ho, hd, hv⟩ | ⟨h1, h2, h3⟩
      · rw [hv]; exact hA.vals i o t (hXD i hi) ho hd
      · rw [h2]; exact hA.base t h1 fun i o hi ho => h3 i o (hA.dx i hi) ho
    · obtain ⟨cs, t, H', hs, _, _⟩ := st_pick S hs h e he
      simp only [stChk] at hs
      cases ho : ops.toList[e]? with
      | none => rw [ho] at hs; cases hs
      | some o =>
        rw [ho] at hs
        simp only [Bool.and_eq_true, Bool.not_eq_true', List.all_eq_true] at hs
        have h1 : e ∉ X := fun hh => by
          have := hs.1.1.1.1.1
          rw [memN_iff.2 hh] at this; cases this
        have : e ∈ Region.ready .any ops listed := (ready_iff hA.lsize).2 ⟨fun hd => h1 (hA.dx e hd), o, ho, fun m hm => hXD m (memN_iff.1 (hs.1.1.1.1.2 m hm))⟩
        rw [hr] at this
        cases this
  intro fuel
  induction fuel with
  | zero =>
    intro listed a w S X V dec ρ hcnt hA hC hs h
    have hd := all_dn (listed := listed) (by rw [hA.lsize]; omega)
    have hr : Region.ready .any ops listed = [] := by
      cases hrr : Region.ready .any ops listed with
      | nil => rfl
      | cons i r =>
        have : i ∈ Region.ready .any ops listed := by rw [hrr]; exact List.mem_cons_self ..
        obtain ⟨h1, o, ho, _⟩ := (ready_iff hA.lsize).1 this
        exact absurd (hd i (by rw [hA.lsize]; exact (List.getElem?_eq_some_iff.1 ho).1)) h1
    obtain ⟨S', X', V', dec', ρ', hC', hsub, hs', h', hS'⟩ := advance hn hall S hC hA.dx hs h
    have hA' : Act1 dl N ops.toList ρ0 Fr listed a X' V' := ⟨hA.lsize, fun i hi => (hsub i (hA.dx i hi)).1, hA.dcl, hA.size, hA.defs, hA.fr, fun i o t hi ho hd => by rw [(hsub i (hA.dx i hi)).2]; exact hA.vals i o t hi ho hd, hA.base⟩
    exact ⟨hr, fin listed a w S' X' V' dec' ρ' hA' hC' hs' h' hS' hr⟩
  | succ fuel ih =>
    intro listed a w S X V dec ρ hcnt hA hC hs h
    obtain ⟨S', X', V', dec', ρ', hC', hsub, hs', h', hS'⟩ := advance hn hall S hC hA.dx hs h
    have hA' : Act1 dl N ops.toList ρ0 Fr listed a X' V' := ⟨hA.lsize, fun i hi => (hsub i (hA.dx i hi)).1, hA.dcl, hA.size, hA.defs, hA.fr, fun i o t hi ho hd => by rw [(hsub i (hA.dx i hi)).2]; exact hA.vals i o t hi ho hd, hA.base⟩
    refine ⟨fin listed a w S' X' V' dec' ρ' hA' hC' hs' h' hS', fun i hi => ?_⟩
    obtain ⟨hnd, o, ho, hdeps⟩ := (ready_iff hA.lsize).1 hi
    have hlt : i < listed.size := by rw [hA.lsize]; exact (List.getElem?_eq_some_iff.1 ho).1
    have ho' : ops[i]? = some o := by simpa using ho
    have hf := hall i o ho
    have hcnt' : (listed.setIfInBounds i true).toList.count true + fuel = ops.toList.length := by rw [count_set hlt hnd]; omega
    have hwi := wanted_iff hA' hf hdeps
    by_cases hiX : i ∈ X'
    · -- it was met ahead
      have hnext : wpAnyIn (FF rn) 0 P .any ops Q fuel (listed.setIfInBounds i true) (a.put o.dst (V' i)) w := by
        refine ih _ _ w S' X' V' dec' ρ' hcnt' (hA'.step hn hlv ho hf hnd hdeps (fun k hk => hk) hiX fun _ _ => rfl) ⟨hC'.ord, hC'.xb, hC'.env, fun k ok hk hnk hok => hC'.pend k ok hk (fun hd => hnk ((dn_set hlt).2 (.inr hd))) hok⟩ hs' h'
      unfold wpOpIn
      simp only [ho']
      rcases hC'.pend i o hiX hnd ho with ⟨hw, ρi, hsrc, hrun', _⟩ | ⟨hw, hu⟩
      · rw [if_pos (hwi.2 hw)]
        refine wpIn_of_wp (not_defer (hrun' w (KeepsC.refl w))) ?_
        unfold Oper.wp
        rw [execOp_congr o hf.sel (src_eval hA' ho hnd hdeps hsrc), hrun' w (KeepsC.refl w)]
        exact hnext
      · rw [if_neg (fun hh => hw (hwi.1 hh))]
        rw [hu] at hnext
        exact ⟨fun _ _ => trivial, hnext⟩
    · -- the next one that changes the world
      have hih : i ∈ heads S' := by
        have hil : i ∈ List.range ops.toList.length := by rw [List.mem_range]; exact (List.getElem?_eq_some_iff.1 ho).1
        rcases st_some hs' hS' with rfl | ⟨e, he⟩
        · simp only [stChk, Bool.and_eq_true, List.all_eq_true] at hs'
          exact absurd (memN_iff.1 (hs'.2 i hil)) hiX
        · obtain ⟨cs, t, H', hse, _, hH⟩ := st_pick S' hs' h' e he
          simp only [stChk] at hse
          cases hoe : ops.toList[e]? with
          | none => rw [hoe] at hse; cases hse
          | some oe =>
            rw [hoe] at hse
            simp only [Bool.and_eq_true, Bool.not_eq_true', List.all_eq_true] at hse
            have := hse.1.1.1.2 i hil
            simp only [Bool.or_eq_true, ho, List.any_eq_true, Bool.not_eq_true'] at this
            rcases this with (h | h) | ⟨m, hm, h⟩
            · exact absurd (memN_iff.1 h) hiX
            · rcases List.mem_cons.1 (memN_iff.1 h) with rfl | h
              · exact he
              · rcases hH i h with h | h
                · exact h
                · cases h
            · have := hA'.dx m (hdeps m hm)
              rw [memN_iff.2 this] at h; cases h
      obtain ⟨cs, S'', H', hse, hwe, _⟩ := st_pick S' hs' h' i hih
      clear hs' h'
      have hs' := hse
      have h' := hwe
      · simp only [stChk] at hs'
        simp only [wpSteps] at h'
        · rw [ho] at hs' h'
          simp only [Bool.and_eq_true, Bool.not_eq_true', List.all_eq_true] at hs'
          obtain ⟨⟨⟨⟨⟨heX, hed⟩, hoth⟩, hchk⟩, hcs⟩, hs''⟩ := hs'
          have hdX : ∀ m ∈ dirDeps o, m ∈ X' := fun m hm => hA'.dx m (hdeps m hm)
          obtain ⟨dec1, ρ1, he1, hcase⟩ := stepOne_spec hC'.env hn hf hdX h'
          have hclD := bef_closed (D := Dn listed) (fun a b c d => hA'.dcl a b c d)
          have canon : ∀ (v : Value) (w1 : World), (∀ k ok, k ∈ X' → ¬ Dn listed k → ops.toList[k]? = some ok → Pend P ops.toList ρ0 (i :: X') (upd V' i v) w1 k ok) →
              Can P ops.toList ρ0 (Dn (listed.setIfInBounds i true)) w1 (i :: X') (upd V' i v) (put ρ1 o.dst v) := by
            intro v w1 hp
            refine ⟨.cons (fun o' h => by rw [ho] at h; cases h; exact hdX) hC'.ord, fun k hk => ?_, he1.put hiX ho, fun k ok hk hnk hok => ?_⟩
            · rcases List.mem_cons.1 hk with rfl | hk
              · exact ⟨o, ho⟩
              · exact hC'.xb k hk
            · rcases List.mem_cons.1 hk with rfl | hk
              · exact absurd ((dn_set hlt).2 (.inl rfl)) hnk
              · exact hp k ok hk (fun hd => hnk ((dn_set hlt).2 (.inr hd))) hok
          have act : ∀ v, Act1 dl N ops.toList ρ0 Fr (listed.setIfInBounds i true) (a.put o.dst v) (i :: X') (upd V' i v) := by
            intro v
            have := hA'.step (V' := upd V' i v) (X' := i :: X') hn hlv ho hf hnd hdeps (fun k hk => List.mem_cons_of_mem _ hk) (List.mem_cons_self ..) (fun k hk => upd_ne fun e => hnd (by rw [← e]; exact hk))
            rw [upd_same] at this
            exact this
          unfold wpOpIn
          simp only [ho']
          rcases hcase with ⟨hw, hok, h1⟩ | ⟨hw, h1⟩
          · rw [if_pos (hwi.2 hw)]
            have goOn : ∀ (ka : Bool) (v : Value) (w1 : World), (ka = true → KeepsC w w1) → (∀ k, k ∈ X' → isLoadAt ops.toList k = true → memN k (getN (befsOf ops.toList []) i) = true ∨ memN k cs = true ∨ ka = true) →
                chkAll P ops.toList dec1 (put ρ1 o.dst v) (wpSteps P N ops.toList S'' dec1 (put ρ1 o.dst v) K) cs w1 → wpAnyIn (FF rn) 0 P .any ops Q fuel (listed.setIfInBounds i true) (a.put o.dst v) w1 := by
              intro ka v w1 hka hchk h2
              obtain ⟨h3, h4⟩ := chkAll_run cs h2
              refine ih _ _ w1 S'' (i :: X') (upd V' i v) dec1 (put ρ1 o.dst v) hcnt' (act v) (canon v w1 fun k ok hk hnk hok => ?_) hs'' h3
              have hfk := hall k ok hok
              have hkd : ∀ m ∈ dirDeps ok, m ∈ X' := hC'.ord.closed k ok hk hok
              have hki : k ≠ i := fun e => hiX (by rw [← e]; exact hk)
              have hpk := (hC'.pend k ok hk hnk hok).upd (v := v) hfk hkd hiX hk
              rcases hpk with ⟨hwk, ρk, hsk, hrk, hlk⟩ | hpk
              · cases hl : isLoadB ok with
                | false =>
                  rcases hlk with hlk | hlk
                  · rw [hl] at hlk; cases hlk
                  · exact .inl ⟨hwk, ρk, hsk, fun w' _ => hlk w', .inr hlk⟩
                | true =>
                  refine .inl ⟨hwk, ρk, hsk, ?_, .inl hl⟩
                  rcases hchk k hk (by simp only [isLoadAt, hok, hl]) with hc | hc | hc
                  · exact absurd (hclD i o ho hdeps k hc) hnk
                  · have hkc := memN_iff.1 hc
                    have hfix := (hcs k hkc).2
                    simp only [hok, Bool.and_eq_true] at hfix
                    obtain ⟨ok', hok', hcase'⟩ := h4 k hkc
                    rw [hok] at hok'
                    cases hok'
                    have he2 : EnvOK ops.toList ρ0 (i :: X') (upd V' i v) (put ρ1 o.dst v) := he1.put hiX ho
                    have hkd2 : ∀ m ∈ dirDeps ok, m ∈ i :: X' := fun m hm => List.mem_cons_of_mem _ (hkd m hm)
                    rcases hcase' with hg | ⟨hg, t, x, d, ad, hop, hd, hx, hhx, hhd, hrun⟩
                    · exact absurd ((gsat_want2 he2 hn hfk hkd2 hg).1 hwk) Bool.false_ne_true
                    · have hvd : gv (put ρ1 o.dst v) d = upd V' i v k := he2.at hn (List.mem_cons_of_mem _ hk) hok hd hhd
                      have hxop : x ∈ ok.op.operands := by rw [hop]; simp [Op.operands]
                      have hev : ev ρk x = ev (put ρ1 o.dst v) x := by
                        cases x with
                        | tmp t' =>
                          simp only [ev]
                          have hfx := hfix.2
                          simp only [addrOf, hop] at hfx
                          obtain ⟨_, hsc⟩ := hsk _ hxop
                          rcases hsc t' rfl with ⟨u, ou, hou, hdu, _, hvu, huX⟩ | ⟨q1, q2, q3⟩
                          · rw [hvu]
                            exact (he2.at hn huX hou hdu hhx).symm
                          · rw [q2]
                            rcases he2 t' hhx with ⟨u, ou, hu, hou, hdu, _⟩ | ⟨_, r2, _⟩
                            · simp only [readFix, writerOf_at hn hou hdu] at hfx
                              rw [(q3 u ou hou hdu).1] at hfx
                              cases hfx
                            · exact r2.symm
                        | _ => rfl
                      intro w' hk'
                      simp only [execOp, hop, hev, hx, Sem.run_bind, hrun w' hk', Result.andThen_ok, Sem.run_pure, hvd]
                  · exact fun w' hk' => hrk w' ((hka hc).trans hk')
              · exact .inr hpk
            cases hal : isAllocB o with
            | false =>
              refine (wpOp1_at hng hf.sel (src_eval hA' ho hnd hdeps (src_of_env he1 hn hf hC'.ord ho hdX hiX hok)) h1 ?_)
              intro v w1 h2
              refine goOn false v w1 (fun h => by cases h) (fun k hk hl => ?_) h2
              have hc := hchk k hk
              simp only [hl, hal, Bool.not_true, Bool.false_or, Bool.or_false, Bool.or_eq_true] at hc
              rcases hc with hc | hc
              · exact .inl hc
              · exact .inr (.inl hc)
            | true =>
              refine (wpOp1_at hng hf.sel (src_eval hA' ho hnd hdeps (src_of_env he1 hn hf hC'.ord ho hdX hiX hok)) (wpOp1_alloc hal h1) ?_)
              intro v w1 h2
              exact goOn true v w1 (fun _ => h2.2) (fun k hk hl => .inr (.inr rfl)) h2.1
          · rw [if_neg (fun hh => hw (hwi.1 hh))]
            refine ⟨fun _ _ => trivial, ?_⟩
            refine ih _ _ w S'' (i :: X') (upd V' i undef) dec1 (put ρ1 o.dst undef) hcnt' (act undef) (canon undef w fun k ok hk hnk hok => ?_) hs'' h1
            exact (hC'.pend k ok hk hnk hok).upd (hall k ok hok) (hC'.ord.closed k ok hk hok) hiX hk

theorem dr_steps (hng : NoGor P) (hm : P.follows .mixedOrders = true) {id : Nat} {S : St} {a : Act} {w : World} {K : Env → WP} {ρ : Env} (hc : drChk P N ops.toList (befsOf ops.toList []) S = true)
    (h : wpSteps P N ops.toList S [] ρ K w.drew) (hf : Fits N dl ρ a) (hlv : Leaves ops.toList Fr) (hfr : Fr a) (hK : ∀ ρ a w, Fits N dl ρ a → Fr a → K ρ w → Q .normal a w) : (Code.region id ops true).wpIn (FF rn) 0 P Q a w := by
  simp only [drChk, Bool.and_eq_true] at hc
  obtain ⟨⟨hn, hop⟩, hs⟩ := hc
  refine wpIn_region_any hm ?_
  have hall : ∀ i o, ops.toList[i]? = some o → OpFacts N ops.toList i o := fun i o ho => by
    have := opChk_spec rfl ops.toList 0 hop i o ho
    simpa using this
  have nd : ∀ i, ¬ Dn (Array.replicate ops.size false) i := fun i hi => by
    unfold Dn at hi
    rw [Array.getElem?_replicate] at hi
    split at hi <;> simp at hi
  refine dr_any (ρ0 := ρ) (Fr := Fr) hng hn hall hlv hK ops.size _ a _ S [] (fun _ => undef) [] ρ ?_ ?_ ?_ hs h
  · simp [List.count_replicate]
  · exact ⟨by simp, fun i hi => absurd hi (nd i), fun i o hi => absurd hi (nd i), hf.size, hf.defs, hfr, fun i o t hi => absurd hi (nd i), fun t ht _ => hf.get t ht⟩
  · exact ⟨.nil, fun i hi => (by cases hi), fun t ht => .inr ⟨ht, rfl, fun i o hi => (by cases hi)⟩, fun i o hi => (by cases hi)⟩

end

theorem leaves_keep {dl : List Deferred} {N : Nat} {ρ : Env} {cs : List Nat} {l : List Oper} (h : ∀ t, memN t (dstsOf (l.filter fun o => match o.dst with | some t => has ρ t | none => false) []) = true → memN t cs = true) : Leaves l (Keep N dl ρ cs) := by
  intro o ho a v hk
  cases hd : o.dst with
  | none => exact hk
  | some t =>
    refine ⟨by simpa [Act.put] using hk.size, hk.defs, fun u hu hm => ?_⟩
    have hne : t ≠ u := by
      intro e
      subst e
      have := h t ((dstsOf_mem _ _).2 (.inr ⟨o, by simp only [List.mem_filter]; exact ⟨ho, by rw [hd]; exact hu⟩, hd⟩))
      rw [this] at hm; cases hm
    simp only [Act.put]
    rw [Array.getElem?_setIfInBounds_ne hne]
    exact hk.get u hu hm

theorem Keep.fits' {dl : List Deferred} {N : Nat} {ρ : Env} {cs : List Nat} {a : Act} (hk : Keep N dl ρ cs a) (f : Nat → Value) (hf : ∀ t, memN t cs = true → a.tmps[t]? = some (f t)) : Fits N dl (zipE cs (cs.map f) ρ) a :=
  ⟨hk.size, hk.defs, fun t ht => by
    cases hm : memN t cs with
    | true => rw [zipE_in cs hm]; exact hf t hm
    | false =>
      obtain ⟨h1, h2⟩ := zipE_out (ρ := ρ) cs (cs.map f) hm
      rw [h1] at ht
      rw [h2]
      exact hk.get t ht hm⟩

theorem drSound {P : Program} (hng : NoGor P) (hm : P.follows .mixedOrders = true) (fn : Func) (N : Nat) : DrSound P N (wpDr P fn N) := by
  intro rn dl id ops Fr ρ KN a w Q h hf hlv hfr hN
  unfold wpDr at h
  obtain ⟨hc, h⟩ := of_bif_bad h
  cases hg : drJoin ops.toList (mkSteps P ops.toList (befsOf ops.toList []) (ops.toList.length + 1) ((List.range ops.toList.length).filter fun i => !(isNulAt P ops.toList i)) [] []) with
  | false =>
    rw [hg] at h
    exact dr_steps hng hm hc h hf hlv hfr hN
  | true =>
    rw [hg] at h
    simp only [cond_true, XJoin] at h
    refine dr_steps (Fr := fun a => Fr a ∧ Keep N dl ρ (unionN (liveOut fn ops.toList) (dstsOf (ops.toList.filter fun o => match o.dst with | some t => has ρ t | none => false) [])) a) hng hm hc h hf
      (hlv.and (leaves_keep fun t ht => (memN_unionN _ _).2 (.inr ht))) ⟨hfr, hf.keep _⟩ ?_
    intro ρ' a' w' hf' hfr' h'
    obtain ⟨ha, h'⟩ := of_bif_bad h'
    obtain ⟨t, ht, h'⟩ := Cur.appV_app _ _ _ _ h'
    rw [Cur.app_of, ht] at h'
    exact hN _ _ _ (hfr'.2.fits' _ (allHas_get hf' ha)) hfr'.1 h'

def namesOk (P : Program) : Bool := P.funcs.toList.all fun fn => !(fn.name == "runtime.NumGoroutine")

theorem nogor_of {P : Program} (h : namesOk P = true) : NoGor P := fun g fn hg => by
  have := List.all_eq_true.1 h fn (by
    have : P.funcs.toList[g]? = some fn := by simpa using hg
    exact List.mem_of_getElem? this)
  simpa using this

/-- THE CALL, out of its formula. -/
theorem xcall_of {P : Program} (hng : NoGor P) (hm : P.follows .mixedOrders = true) {f : FuncId} {fn : Func} (hf : P.funcs[f]? = some fn) {dp : List Nat} {args : List Value} {rs : Rs} {ss : List Sh}
    (hrs : rsOfTypes P fn.resultTypes.toList = (rs, ss)) {K : Cur ss} {w : World} (h : wpF P dp (wpDr P fn) fn args ss K w) : XCall P f args rs ss K w := by
  obtain ⟨rfl, rfl⟩ : (rsOfTypes P fn.resultTypes.toList).1 = rs ∧ (rsOfTypes P fn.resultTypes.toList).2 = ss := by rw [hrs]; exact ⟨rfl, rfl⟩
  exact calls_of_wpF hng (fun N => drSound hng hm fn N) hf h fun t w' hK => ⟨t, rfl, hK⟩

end Go.Cf
