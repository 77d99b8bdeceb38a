/-
  What the polls of a table are: each tag in just one, within it; none could have been joined to the one ahead.
-/
import Derived.Test.YtcddiaiemlkmaaaGreatPP
namespace Go.Cx
open Go Go.Cf
set_option linter.unusedVariables false
set_option maxRecDepth 100000
variable {B : Base} {As F : List HP} {α : Type}

def le4 (u e k a u' e' k' a' : Int) : Prop := ¬ (u > u' ∨ u = u' ∧ (e > e' ∨ e = e' ∧ (k > k' ∨ k = k' ∧ a > a')))
def hasT (ts : List Tag) (p : Poll) (k : Int) : Prop := ∃ t, tagAt ts k = some t ∧ t.unit = p.unit ∧ t.kind = p.kind ∧ t.every = p.every ∧ p.addr ≤ t.addr ∧ t.addr + t.width ≤ p.addr + p.count
def headAt (ts : List Tag) (p : Poll) (t : Tag) : Prop := ∃ k, p.tags.head? = some k ∧ tagAt ts k = some t ∧ t.unit = p.unit ∧ t.kind = p.kind ∧ t.every = p.every ∧ t.addr = p.addr
structure Good (ts : List Tag) (p : Poll) : Prop where
  kind : 1 ≤ p.kind ∧ p.kind ≤ 4
  addr : 0 ≤ p.addr
  cnt : 1 ≤ p.count ∧ p.count ≤ limitK p.kind
  top : p.addr + p.count ≤ 65536
  has : ∀ k ∈ p.tags, hasT ts p k
  head : ∃ t, headAt ts p t
def pairP (ts : List Tag) (a b : Poll) : Prop := (∃ t, headAt ts b t ∧ joins a t = false) ∧ le4 a.unit a.every a.kind a.addr b.unit b.every b.kind b.addr
structure Inv (ts : List Tag) (k : Nat) (ps : List Poll) : Prop where
  good : ∀ p ∈ ps, Good ts p
  flat : ps.flatMap Poll.tags = ((ordF ts).take k).map fun i => (i.val : Int)
  pair : ∀ j a b, ps[j]? = some a → ps[j + 1]? = some b → pairP ts a b

theorem tagAt_fin (ts : List Tag) (i : Fin ts.length) : tagAt ts (i.val : Int) = some ts[i] := by
  unfold tagAt
  rw [if_neg (by omega), Int.toNat_natCast]
  exact List.getElem?_eq_getElem i.isLt

theorem ord_sorted (ts : List Tag) : (ordF ts).Pairwise fun a b => ltT ts b a = false := by
  have h := List.pairwise_mergeSort (le := fun x y => !(ltT ts y x)) (fun a b c h1 h2 => ?_) (fun a b => ?_) (List.finRange ts.length)
  · exact h.imp fun h => by simpa using h
  · have h1 : ltT ts b a = false := by simpa using h1
    have h2 : ltT ts c b = false := by simpa using h2
    have := (swoT ts).ntrans c b a h2 h1
    have h3 : ltT ts c a = false := this
    simp [h3]
  · cases h : ltT ts b a with
    | false => simp
    | true =>
      have : ltT ts a b = false := by
        rw [ltT_false]; rw [ltT_iff] at h; unfold lexLt at *; omega
      simp [this]

theorem stepP_nil (t : Tag) (i : Int) : stepP [] t i = [newP t i] := rfl
theorem stepP_concat (qs : List Poll) (p : Poll) (t : Tag) (i : Int) : stepP (qs ++ [p]) t i = if joins p t = true then qs ++ [joinP p t i] else (qs ++ [p]) ++ [newP t i] := by
  have h : (qs ++ [p])[(qs ++ [p]).length - 1]? = some p := by simp
  unfold stepP
  rw [h]
  simp only
  split
  · simp
  · rfl

theorem newP_good {ts : List Tag} {t : Tag} {i : Int} (hi : tagAt ts i = some t) (ht : tagE t = 0) : Good ts (newP t i) := by
  have hw := width_or t
  obtain ⟨_, _, k1, k2, a1, a2, _⟩ := tag_ok ht
  have hl : 125 ≤ limitK t.kind := by unfold limitK; split <;> decide
  refine ⟨⟨k1, k2⟩, a1, ⟨by simp [newP]; omega, by simp [newP]; omega⟩, by simp [newP]; omega, fun k hk => ?_, ⟨t, i, rfl, hi, rfl, rfl, rfl, rfl⟩⟩
  obtain rfl : k = i := by simpa [newP] using hk
  exact ⟨t, hi, rfl, rfl, rfl, Int.le_refl _, by simp [newP]⟩

theorem joinP_good {ts : List Tag} {p : Poll} {t : Tag} {i : Int} (hp : Good ts p) (hi : tagAt ts i = some t) (ht : tagE t = 0) (hj : joins p t = true) (ha : p.addr ≤ t.addr) : Good ts (joinP p t i) := by
  have hw := width_or t
  obtain ⟨_, _, k1, k2, a1, a2, _⟩ := tag_ok ht
  simp only [joins, decide_eq_true_eq] at hj
  obtain ⟨j1, j2, j3, j4, j5⟩ := hj
  have c1 := hp.cnt
  have hc : p.count ≤ joinC p t ∧ t.addr + t.width - p.addr ≤ joinC p t ∧ (joinC p t = p.count ∨ joinC p t = t.addr + t.width - p.addr) := by unfold joinC; split <;> omega
  have htop := hp.top
  refine ⟨hp.kind, hp.addr, ⟨by simp [joinP]; omega, by simpa [joinP] using j5⟩, by simp [joinP]; omega, fun k hk => ?_, ?_⟩
  · simp only [joinP, List.mem_append, List.mem_singleton] at hk
    rcases hk with hk | rfl
    · obtain ⟨t', q1, q2, q3, q4, q5, q6⟩ := hp.has k hk
      exact ⟨t', q1, q2, q3, q4, q5, by simp [joinP]; omega⟩
    · exact ⟨t, hi, j1.symm, j3.symm, j2.symm, ha, by simp [joinP]; omega⟩
  · obtain ⟨t', k, q1, q2⟩ := hp.head
    refine ⟨t', k, ?_, q2⟩
    simp [joinP, List.head?_append, q1]

theorem Inv.start (ts : List Tag) : Inv ts 0 [] := ⟨fun _ h => by simp at h, by simp, fun j a b h => by simp at h⟩

/-- A poll stands no later than the next tag in the order of polling. -/
theorem Inv.before {ts : List Tag} {k : Nat} {ps : List Poll} (h : Inv ts k ps) {i : Fin ts.length} (hi : (ordF ts)[k]? = some i) {p : Poll} (hp : p ∈ ps) : le4 p.unit p.every p.kind p.addr ts[i].unit ts[i].every ts[i].kind ts[i].addr := by
  obtain ⟨t, k0, q1, q2, q3, q4, q5, q6⟩ := (h.good p hp).head
  have hm : k0 ∈ ps.flatMap Poll.tags := List.mem_flatMap.2 ⟨p, hp, List.mem_of_head? q1⟩
  rw [h.flat] at hm
  obtain ⟨j, hj, rfl⟩ := List.mem_map.1 hm
  rw [tagAt_fin] at q2
  have e0 : t = ts[j] := (Option.some.inj q2).symm
  rw [e0] at q3 q4 q5 q6
  obtain ⟨m, hmk⟩ := List.mem_iff_getElem?.1 hj
  have hmlt : m < k := by
    have := (List.getElem?_eq_some_iff.1 hmk).1
    simp at this; omega
  have hm' : (ordF ts)[m]? = some j := by rw [List.getElem?_take_of_lt hmlt] at hmk; exact hmk
  have := List.pairwise_iff_getElem.1 (ord_sorted ts) m k (List.getElem?_eq_some_iff.1 hm').1 (List.getElem?_eq_some_iff.1 hi).1 hmlt
  rw [(List.getElem?_eq_some_iff.1 hm').2, (List.getElem?_eq_some_iff.1 hi).2, ltT_false] at this
  unfold lexLt at this
  unfold le4
  rw [← q3, ← q4, ← q5, ← q6]
  omega

theorem Inv.step {ts : List Tag} {k : Nat} {ps : List Poll} (h : Inv ts k ps) {i : Fin ts.length} (hi : (ordF ts)[k]? = some i) (ht : tagE ts[i] = 0) : Inv ts (k + 1) (stepP ps ts[i] (i.val : Int)) := by
  have hti := tagAt_fin ts i
  have hbef := fun p hp => h.before hi (p := p) hp
  have htk : ((ordF ts).take (k + 1)).map (fun i => (i.val : Int)) = ((ordF ts).take k).map (fun i => (i.val : Int)) ++ [(i.val : Int)] := by
    rw [List.take_add_one, hi]; simp
  generalize ts[i] = t at hti hbef ht ⊢
  rcases List.eq_nil_or_concat ps with rfl | ⟨qs, p, rfl⟩
  · rw [stepP_nil]
    refine ⟨fun q hq => ?_, ?_, fun j a b h1 h2 => ?_⟩
    · rw [List.mem_singleton.1 hq]; exact newP_good hti ht
    · rw [htk, ← h.flat]; simp [newP]
    · have := (List.getElem?_eq_some_iff.1 h2).1; simp at this
  rw [List.concat_eq_append] at h hbef ⊢
  have hp : Good ts p := h.good p (by simp)
  have hb := hbef p (by simp)
  rw [stepP_concat]
  split
  · rename_i hj
    have hj' := hj
    simp only [joins, decide_eq_true_eq] at hj'
    have ha : p.addr ≤ t.addr := by unfold le4 at hb; omega
    refine ⟨fun q hq => ?_, ?_, fun j a b h1 h2 => ?_⟩
    · rcases List.mem_append.1 hq with hq | hq
      · exact h.good q (by simp [hq])
      · rw [List.mem_singleton.1 hq]; exact joinP_good hp hti ht hj ha
    · rw [htk, ← h.flat]; simp [joinP]
    · have hl := (List.getElem?_eq_some_iff.1 h2).1
      simp only [List.length_append, List.length_singleton] at hl
      rw [List.getElem?_append_left (by omega)] at h1
      by_cases e : j + 1 < qs.length
      · rw [List.getElem?_append_left e] at h2
        exact h.pair j a b (by rw [List.getElem?_append_left (by omega)]; exact h1) (by rw [List.getElem?_append_left e]; exact h2)
      · have e2 : j + 1 = qs.length := by omega
        rw [e2] at h2
        obtain rfl : joinP p t (i.val : Int) = b := by simpa using h2
        obtain ⟨⟨t', ⟨k', r1, r2⟩, r3⟩, r4⟩ := h.pair j a p (by rw [List.getElem?_append_left (by omega)]; exact h1) (by rw [e2]; simp)
        exact ⟨⟨t', ⟨k', by simp [joinP, List.head?_append, r1], r2⟩, r3⟩, r4⟩
  · rename_i hj
    refine ⟨fun q hq => ?_, ?_, fun j a b h1 h2 => ?_⟩
    · rcases List.mem_append.1 hq with hq | hq
      · exact h.good q hq
      · rw [List.mem_singleton.1 hq]; exact newP_good hti ht
    · rw [htk, ← h.flat]; simp [newP]
    · have hl := (List.getElem?_eq_some_iff.1 h2).1
      simp only [List.length_append, List.length_singleton] at hl
      rw [List.getElem?_append_left (by simp; omega)] at h1
      by_cases e : j + 1 < (qs ++ [p]).length
      · rw [List.getElem?_append_left e] at h2
        exact h.pair j a b h1 h2
      · have e2 : j + 1 = (qs ++ [p]).length := by simp at e ⊢; omega
        rw [e2] at h2
        obtain rfl : newP t (i.val : Int) = b := by simpa using h2
        have e3 : j = qs.length := by simp at e2; omega
        rw [e3] at h1
        obtain rfl : p = a := by simpa using h1
        exact ⟨⟨t, ⟨i.val, rfl, hti, rfl, rfl, rfl, rfl⟩, by simpa using hj⟩, hb⟩

theorem plan_inv {ts : List Tag} (h : (allE ts).1 = 0) : ∀ k, k ≤ ts.length → Inv ts k (planK ts k) := by
  intro k
  induction k with
  | zero => intro _; exact Inv.start ts
  | succ k ih =>
    intro hk
    have hi : (ordF ts)[k]? = some ((ordF ts)[k]'(by rw [ordF_len]; omega)) := List.getElem?_eq_getElem _
    rw [planK_succ hi]
    exact (ih (by omega)).step hi (allE_tag h (List.getElem?_eq_getElem _))

theorem plan_all {ts : List Tag} (h : (allE ts).1 = 0) : Inv ts ts.length (planL ts) := plan_inv h ts.length (Nat.le_refl _)

theorem flat_all {ts : List Tag} (h : (allE ts).1 = 0) : (planL ts).flatMap Poll.tags = (ordF ts).map fun i => (i.val : Int) := by
  rw [(plan_all h).flat, List.take_of_length_le (by rw [ordF_len]; exact Nat.le_refl _)]

theorem ord_perm (ts : List Tag) : (ordF ts).Perm (List.finRange ts.length) := List.mergeSort_perm _ _

theorem count_one (ts : List Tag) (m : Nat) (hm : m < ts.length) : ((ordF ts).map fun i => (i.val : Int)).count (m : Int) = 1 := by
  have p1 : ((ordF ts).map fun i => (i.val : Int)).Perm ((List.finRange ts.length).map fun i => (i.val : Int)) := (ord_perm ts).map _
  rw [p1.count_eq]
  have e : ((List.finRange ts.length).map fun i => (i.val : Int)) = (List.range ts.length).map fun (i : Nat) => (i : Int) := by
    apply List.ext_getElem?
    intro j
    simp only [List.getElem?_map]
    by_cases hj : j < ts.length
    · simp [hj]
    · simp [hj]
  rw [e]
  have nd : ((List.range ts.length).map fun (i : Nat) => (i : Int)).Nodup := by
    refine List.Pairwise.map _ ?_ List.nodup_range
    intro a b hab h
    exact hab (by omega)
  rw [nd.count, if_pos (List.mem_map.2 ⟨m, List.mem_range.2 hm, rfl⟩)]

theorem good_ask {ts : List Tag} {p : Poll} (h : Good ts p) : askX p = 0 := by
  have h1 := h.kind; have h2 := h.addr; have h3 := h.cnt; have h4 := h.top
  unfold askX
  rw [if_neg (by omega)]
  unfold askE
  rw [if_neg (by omega), if_neg (by omega), if_neg (by omega)]

end Go.Cx
