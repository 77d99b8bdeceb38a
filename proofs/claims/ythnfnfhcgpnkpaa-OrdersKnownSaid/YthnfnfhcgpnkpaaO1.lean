/-
  Frames one behind the other: what a scan tells.
  A journal of commands, as a law of lists.
  The journal: its calls.
  The journal is opened; the document's journal.
  The document's journal.
  The document's journal is opened; both journals.
-/
import Derived.Test.YthnfnfhcgpnkpaaC1
import Derived.Test.YthnfnfhcgpnkpaaD2
namespace Go.Cx
open Go Go.Cf
set_option linter.unusedVariables false
variable {B : Base} {As : List HP}

theorem getN_ok {b : List UInt8} (h : (getN b).2.2 = 0) : 6 ≤ (getN b).2.1 ∧ (getN b).2.1 ≤ b.length ∧ (getN b).1.length + 6 = (getN b).2.1 ∧ (getN b).1.length ≤ 1024 ∧ (getN b).1 = (b.take (getN b).2.1).drop 6 := by
  unfold getN at h ⊢
  split
  · rename_i h1; rw [if_pos h1] at h; exact absurd h (by decide)
  rename_i h1
  rw [if_neg h1] at h
  split
  · rename_i h2; rw [if_pos h2] at h; exact absurd h (by decide)
  rename_i h2
  rw [if_neg h2] at h
  split
  · rename_i h3; rw [if_pos h3] at h; exact absurd h (by decide)
  rename_i h3
  rw [if_neg h3] at h
  split
  · refine ⟨?_, ?_, ?_, ?_, rfl⟩ <;> simp <;> omega
  · rename_i h4; rw [if_neg h4] at h; exact absurd h (by decide)

theorem getN_used (b : List UInt8) : (getN b).2.1 ≤ b.length := by
  by_cases h : (getN b).2.2 = 0
  · exact (getN_ok h).2.1
  · unfold getN
    repeat' split
    all_goals simp
    omega

def scanG : Nat → List UInt8 → List (List UInt8) × Nat
  | 0, _ => ([], 0)
  | n + 1, b => if (getN b).2.2 = 0 then ((getN b).1 :: (scanG n (b.drop (getN b).2.1)).1, (getN b).2.1 + (scanG n (b.drop (getN b).2.1)).2) else ([], 0)
def scanN (b : List UInt8) : List (List UInt8) × Nat := scanG (b.length + 1) b

theorem scanG_fuel : ∀ (n m : Nat) (b : List UInt8), b.length < n → b.length < m → scanG n b = scanG m b := by
  intro n
  induction n with
  | zero => intro m b h; omega
  | succ n ih =>
    intro m b h1 h2
    cases m with
    | zero => omega
    | succ m =>
      unfold scanG
      by_cases h : (getN b).2.2 = 0
      · obtain ⟨a1, a2, _⟩ := getN_ok h
        have hd : (b.drop (getN b).2.1).length = b.length - (getN b).2.1 := List.length_drop
        rw [if_pos h, if_pos h, ih m _ (by omega) (by omega)]
      · rw [if_neg h, if_neg h]

theorem scan_ok {b : List UInt8} (h : (getN b).2.2 = 0) : scanN b = ((getN b).1 :: (scanN (b.drop (getN b).2.1)).1, (getN b).2.1 + (scanN (b.drop (getN b).2.1)).2) := by
  obtain ⟨a1, a2, _⟩ := getN_ok h
  have hd : (b.drop (getN b).2.1).length = b.length - (getN b).2.1 := List.length_drop
  unfold scanN
  conv => lhs; unfold scanG
  rw [if_pos h, scanG_fuel b.length ((b.drop (getN b).2.1).length + 1) _ (by omega) (by omega)]
theorem scan_no {b : List UInt8} (h : ¬ (getN b).2.2 = 0) : scanN b = ([], 0) := by
  unfold scanN scanG
  rw [if_neg h]

theorem scan_used : ∀ (n : Nat) (b : List UInt8), b.length ≤ n → (scanN b).2 ≤ b.length ∧ (scanN b).1.length ≤ b.length ∧ ∀ p ∈ (scanN b).1, p.length ≤ 1024 := by
  intro n
  induction n with
  | zero =>
    intro b h
    have hb : b = [] := List.eq_nil_of_length_eq_zero (by omega)
    subst hb
    rw [scan_no (by decide)]
    exact ⟨Nat.le_refl _, Nat.le_refl _, by simp⟩
  | succ n ih =>
    intro b h
    by_cases hg : (getN b).2.2 = 0
    · obtain ⟨a1, a2, a3, a4, _⟩ := getN_ok hg
      have hd : (b.drop (getN b).2.1).length = b.length - (getN b).2.1 := List.length_drop
      obtain ⟨h1, h2, h3⟩ := ih (b.drop (getN b).2.1) (by omega)
      rw [scan_ok hg]
      refine ⟨by dsimp only; omega, by simp only [List.length_cons]; omega, ?_⟩
      intro p hp
      simp only [List.mem_cons] at hp
      rcases hp with rfl | hp
      · exact a4
      · exact h3 p hp
    · rw [scan_no hg]
      exact ⟨Nat.zero_le _, Nat.zero_le _, by simp⟩

theorem scan_len (b : List UInt8) : (scanN b).2 ≤ b.length := (scan_used b.length b (Nat.le_refl _)).1

theorem cut_to_end (s : Sl) (xs : List UInt8) {h : Frag} (hr : RAr U8 s xs h) (at' : Nat) (ha : at' ≤ xs.length) (hcap : s.n ≤ s.c) : RAr U8 (s.cut at' s.n s.c 1) (xs.drop at') h := by
  have := hr.cut at' s.n s.c (by have := hr.1; omega) hcap (by rw [hr.1]; exact Nat.le_refl _)
  rw [List.take_of_length_le (by rw [hr.1]; exact Nat.le_refl _)] at this
  exact this

/-- Rows of one's own. -/
def OwnRows (s : Sl) (bss : List (List UInt8)) : HP := fun h => ∃ rs : List Sl, star [Ar SL s rs, Each (Ar U8) rs bss] h

theorem Scan_spec (b : Sl) (xs : List UInt8) (hm : xs.length ≤ 16777216) (hcap : b.n ≤ b.c) : Ct Pr F_chunk_Scan [b.v] (.tup [none, none]) [.slice, .int .i64] [] (RAr U8 b xs)
    (fun t Bs => t.2.1 = ((scanN xs).2 : Int) ∧ ∃ rs, Bs = [Ar SL t.1 rs, Each (Ar U8) rs (scanN xs).1]) := by
  refine spec2 c_chunk_Scan fun B hr => ?_
  have fb : Fro B b U8 xs := ⟨hr⟩
  have hb := hr.1
  have hlen := (scan_used xs.length xs (Nat.le_refl _)).2.1
  unfold chunk_Scan
  refine xnone SL ?_
  refine xadd (A := Each (Ar U8) [] []) trivial ?_
  refine xloop2 (fun n l i As => ∃ (k : Nat) (rs : List Sl) (done : List (List UInt8)), i = (k : Int) ∧ n = xs.length - k ∧ k ≤ xs.length ∧ scanN xs = (done ++ (scanN (xs.drop k)).1, k + (scanN (xs.drop k)).2) ∧ As = [Each (Ar U8) rs done, Ar SL l rs]) xs.length ⟨0, [], [], rfl, rfl, by omega, by simp, rfl⟩ ?_
  rintro n l _ _ K ⟨k, rs, done, rfl, rfl, hk, hsc, rfl⟩ hK
  refine xslc (by omega) (by omega) (by omega) (by omega) ?_
  simp only [Int.toNat_natCast]
  have hdl : (xs.drop k).length = xs.length - k := List.length_drop
  refine xcl (pre := []) (G := [Each (Ar U8) rs done, Ar SL l rs]) (chunkGet_spec (b.cut k b.n b.c 1) (xs.drop k) (by omega) (by simp only [Sl.cut]; omega)) (rds_of fun g hg _ _ _ => (cut_to_end b xs hr k hk hcap).mono hg) ?_
  rintro ⟨s1, r, r1, _⟩ _ ⟨h1, h2, rfl⟩
  simp only at h1 h2
  subst h1 h2
  refine app1 (ca3 ?_)
  refine xif (fun h => ?_) (fun h => ?_)
  · have h : ¬ (getN (xs.drop k)).2.2 = 0 := by simpa using h
    rw [scan_no h] at hsc
    refine xuse [Ar SL l rs, Each (Ar U8) rs done] (xret ⟨?_, rs, ?_⟩)
    · rw [hsc]; simp
    · rw [hsc]; simp
  · have h : (getN (xs.drop k)).2.2 = 0 := by simpa using h
    obtain ⟨g1, g2, _⟩ := getN_ok h
    rw [scan_ok h] at hsc
    refine xfact 1 (fun g hg => Each.length hg) fun hrl => ?_
    have hdn : done.length + 1 ≤ xs.length := by
      have := congrArg (fun p => p.1.length) hsc
      simp only [List.length_append, List.length_cons] at this
      omega
    refine xnew fun b1 => ?_
    refine xapp1 s1 (hb := by omega) (h := fun s2 => ?_)
    rw [show IntKind.i64.wrap ((k : Int) + ((getN (xs.drop k)).2.1 : Int)) = ((k + (getN (xs.drop k)).2.1 : Nat) : Int) by rw [wrap_id _ (by omega) (by omega)]; omega]
    refine xfold [Each (Ar U8) rs done, Ar U8 s1 (getN (xs.drop k)).1] (Each (Ar U8) (rs ++ [s1]) (done ++ [(getN (xs.drop k)).1])) (fun g hg => each_snoc hg) ?_
    refine hK (xs.length - (k + (getN (xs.drop k)).2.1)) _ _ _ (by omega) ⟨k + (getN (xs.drop k)).2.1, rs ++ [s1], done ++ [(getN (xs.drop k)).1], rfl, rfl, by omega, ?_, rfl⟩
    rw [List.drop_drop] at hsc
    rw [hsc]
    simp [Nat.add_assoc]

theorem rScan_spec (b : Sl) (xs : List UInt8) (hm : xs.length ≤ 16777216) (hcap : b.n ≤ b.c) : Ct Pr F_ref13_Scan [b.v] (.tup [none, none]) [.slice, .int .i64] [] (RAr U8 b xs)
    (fun t Bs => t.2.1 = ((scanN xs).2 : Int) ∧ ∃ rs, Bs = [Ar SL t.1 rs, Each (Ar U8) rs (scanN xs).1]) := by
  refine spec2 c_ref13_Scan fun B hr => ?_
  have fb : Fro B b U8 xs := ⟨hr⟩
  have hb := hr.1
  have hlen := (scan_used xs.length xs (Nat.le_refl _)).2.1
  unfold ref13_Scan
  refine xnone SL ?_
  refine xadd (A := Each (Ar U8) [] []) trivial ?_
  refine xloop2 (fun n l i As => ∃ (k : Nat) (rs : List Sl) (done : List (List UInt8)), i = (k : Int) ∧ n = xs.length - k ∧ k ≤ xs.length ∧ scanN xs = (done ++ (scanN (xs.drop k)).1, k + (scanN (xs.drop k)).2) ∧ As = [Each (Ar U8) rs done, Ar SL l rs]) xs.length ⟨0, [], [], rfl, rfl, by omega, by simp, rfl⟩ ?_
  rintro n l _ _ K ⟨k, rs, done, rfl, rfl, hk, hsc, rfl⟩ hK
  refine xslc (by omega) (by omega) (by omega) (by omega) ?_
  simp only [Int.toNat_natCast]
  have hdl : (xs.drop k).length = xs.length - k := List.length_drop
  refine xcl (pre := []) (G := [Each (Ar U8) rs done, Ar SL l rs]) (rGet13_spec (b.cut k b.n b.c 1) (xs.drop k) (by omega) (by simp only [Sl.cut]; omega)) (rds_of fun g hg _ _ _ => (cut_to_end b xs hr k hk hcap).mono hg) ?_
  rintro ⟨s1, r, r1, _⟩ _ ⟨h1, h2, rfl⟩
  simp only at h1 h2
  subst h1 h2
  refine app1 (ca3 ?_)
  refine xif (fun h => ?_) (fun h => ?_)
  · have h : ¬ (getN (xs.drop k)).2.2 = 0 := by simpa using h
    rw [scan_no h] at hsc
    refine xuse [Ar SL l rs, Each (Ar U8) rs done] (xret ⟨?_, rs, ?_⟩)
    · rw [hsc]; simp
    · rw [hsc]; simp
  · have h : (getN (xs.drop k)).2.2 = 0 := by simpa using h
    obtain ⟨g1, g2, _⟩ := getN_ok h
    rw [scan_ok h] at hsc
    refine xfact 1 (fun g hg => Each.length hg) fun hrl => ?_
    have hdn : done.length + 1 ≤ xs.length := by
      have := congrArg (fun p => p.1.length) hsc
      simp only [List.length_append, List.length_cons] at this
      omega
    refine xnew fun b1 => ?_
    refine xapp1 s1 (hb := by omega) (h := fun s2 => ?_)
    rw [show IntKind.i64.wrap ((k : Int) + ((getN (xs.drop k)).2.1 : Int)) = ((k + (getN (xs.drop k)).2.1 : Nat) : Int) by rw [wrap_id _ (by omega) (by omega)]; omega]
    refine xfold [Each (Ar U8) rs done, Ar U8 s1 (getN (xs.drop k)).1] (Each (Ar U8) (rs ++ [s1]) (done ++ [(getN (xs.drop k)).1])) (fun g hg => each_snoc hg) ?_
    refine hK (xs.length - (k + (getN (xs.drop k)).2.1)) _ _ _ (by omega) ⟨k + (getN (xs.drop k)).2.1, rs ++ [s1], done ++ [(getN (xs.drop k)).1], rfl, rfl, by omega, ?_, rfl⟩
    rw [List.drop_drop] at hsc
    rw [hsc]
    simp [Nat.add_assoc]

end Go.Cx

namespace Go.Cx
open Go Go.Cf
set_option linter.unusedVariables false

def cmdN : ByteArray := ⟨#[99, 109, 100]⟩
abbrev JL := List (Int × Int)
structure JM where
  dead : Bool
  L : JL

def okId (id : Int) : Bool := decide (1 ≤ id) && decide (id ≤ 1099511627776)
def idOf (b : List UInt8) : Nat := beV (cut8 b 1)

/-- One entry. -/
def takeJ (L : JL) (b : List UInt8) : Option JL :=
  if b.length < 9 then none
  else if !(okId (idOf b)) then none
  else if b.getD 0 0 = 1 ∧ b.length = 9 ∧ lookM L (idOf b) = none ∧ L.length < 1024 then some (L ++ [((idOf b : Int), -1)])
  else if b.getD 0 0 = 2 ∧ b.length = 10 ∧ (lookM L (idOf b)).getD 0 < 0 then some (setM L (idOf b) ((b.getD 9 0).toNat : Int))
  else none

def takesJ : JL → List (List UInt8) → Option JL
  | L, [] => some L
  | L, b :: bs => match takeJ L b with
    | some L' => takesJ L' bs
    | none => none

def rowJ (id code : Int) : List UInt8 := (if code < 0 then [1] else [2]) ++ be8 id.toNat ++ (if code < 0 then [] else [UInt8.ofNat code.toNat])
def layJ (m : DM) (p : List UInt8) : DM × Int := if (appendM m cmdN (frameN p)).2 = 0 then syncM (appendM m cmdN (frameN p)).1 cmdN else appendM m cmdN (frameN p)

/-- The file is made whole. -/
def mendJ (m : DM) (n len : Nat) : DM × Int :=
  if n < len then (if (truncM m cmdN n).2 ≠ 0 then truncM m cmdN n else syncM (truncM m cmdN n).1 cmdN) else syncM m cmdN
def openJ (m : DM) : DM × Int × Option JL :=
  if m.down then (m, 10, none)
  else if (readM m cmdN).2 ≠ 0 then (m, 0, some [])
  else match takesJ [] (scanN (readM m cmdN).1).1 with
    | none => (m, 30, none)
    | some L => if (mendJ m (scanN (readM m cmdN).1).2 (readM m cmdN).1.length).2 = 0 then ((mendJ m (scanN (readM m cmdN).1).2 (readM m cmdN).1.length).1, 0, some L)
      else ((mendJ m (scanN (readM m cmdN).1).2 (readM m cmdN).1.length).1, (mendJ m (scanN (readM m cmdN).1).2 (readM m cmdN).1.length).2, none)

def laidJ (m : DM) (J : JM) (p : List UInt8) (L : JL) : DM × JM × Int :=
  if (layJ m p).2 = 0 then ((layJ m p).1, ⟨J.dead, L⟩, 0) else ((layJ m p).1, ⟨decide ((layJ m p).2 = 10), J.L⟩, (layJ m p).2)
def beginJ (m : DM) (J : JM) (id : Int) : DM × JM × Int :=
  if J.dead then (m, J, 10)
  else if !(okId id) then (m, J, 3)
  else if (lookM J.L id).isSome then (m, J, 7)
  else if J.L.length ≥ 1024 then (m, J, 34)
  else laidJ m J (rowJ id (-1)) (J.L ++ [(id, -1)])
def endJ (m : DM) (J : JM) (id code : Int) : DM × JM × Int :=
  if J.dead then (m, J, 10)
  else if code < 0 ∨ code > 255 then (m, J, 3)
  else match lookM J.L id with
    | none => (m, J, 6)
    | some c => if c ≥ 0 then (m, J, 7) else laidJ m J (rowJ id code) (setM J.L id code)
def stateJ (L : JL) (id : Int) : Int × Int := match lookM L id with
  | none => (0, 0)
  | some c => if c < 0 then (1, 0) else (2, c)
def leftJ (L : JL) : List Int := (L.filter fun p => decide (p.2 < 0)).map (·.1)

/-- What is so of every list. -/
structure JInv (L : JL) : Prop where
  nodup : (L.map (·.1)).Nodup
  ids : ∀ p ∈ L, okId p.1 = true
  codes : ∀ p ∈ L, -1 ≤ p.2 ∧ p.2 ≤ 255
  len : L.length ≤ 1024

theorem lookM_mem {β : Type} : ∀ {L : List (Int × β)} {k : Int} {v : β}, lookM L k = some v → (k, v) ∈ L
  | [], _, _, h => by cases h
  | p :: L, k, v, h => by
    unfold lookM at h
    split at h
    · rename_i e; subst e
      simp only [Option.some.injEq] at h
      subst h
      exact List.mem_cons_self ..
    · exact List.mem_cons_of_mem _ (lookM_mem h)
theorem lookM_none {β : Type} : ∀ {L : List (Int × β)} {k : Int}, lookM L k = none ↔ ∀ p ∈ L, p.1 ≠ k
  | [], _ => by simp [lookM]
  | p :: L, k => by
    unfold lookM
    by_cases e : k = p.1
    · rw [if_pos e]
      constructor
      · intro h; cases h
      · intro h; exact absurd e.symm (h p (List.mem_cons_self ..))
    · rw [if_neg e, lookM_none (L := L)]
      constructor
      · intro h q hq
        simp only [List.mem_cons] at hq
        rcases hq with rfl | hq
        · exact fun h' => e h'.symm
        · exact h q hq
      · intro h q hq; exact h q (List.mem_cons_of_mem _ hq)
theorem setM_keys {β : Type} : ∀ {L : List (Int × β)} {k : Int} {v x : β}, lookM L k = some v → (setM L k x).map (·.1) = L.map (·.1)
  | [], _, _, _, h => by cases h
  | p :: L, k, v, x, h => by
    unfold lookM at h
    unfold setM
    split at h
    · rename_i e; rw [if_pos e]; simp [e]
    · rename_i e; rw [if_neg e]; simp [setM_keys h]
theorem setM_mem {β : Type} : ∀ {L : List (Int × β)} {k : Int} {x : β} {p : Int × β}, p ∈ setM L k x → p ∈ L ∨ p = (k, x)
  | [], _, _, _, h => by simp [setM] at h; exact .inr h
  | q :: L, k, x, p, h => by
    unfold setM at h
    split at h
    · simp only [List.mem_cons] at h ⊢
      rcases h with h | h
      · exact .inr h
      · exact .inl (.inr h)
    · simp only [List.mem_cons] at h ⊢
      rcases h with h | h
      · exact .inl (.inl h)
      · rcases setM_mem h with h | h
        · exact .inl (.inr h)
        · exact .inr h
theorem setM_len {β : Type} {L : List (Int × β)} {k : Int} {v x : β} (h : lookM L k = some v) : (setM L k x).length = L.length := by
  have := congrArg List.length (setM_keys (x := x) h)
  simpa using this
theorem lookM_set {β : Type} : ∀ (L : List (Int × β)) (k j : Int) (x : β), lookM (setM L k x) j = if j = k then some x else lookM L j
  | [], k, j, x => by simp [setM, lookM]
  | p :: L, k, j, x => by
    unfold setM
    by_cases e : k = p.1
    · rw [if_pos e]
      by_cases h : j = k
      · subst h; simp [lookM]
      · have h' : ¬ j = p.1 := fun h2 => h (h2.trans e.symm)
        simp [lookM, h, h']
    · rw [if_neg e]
      by_cases h : j = p.1
      · have : ¬ j = k := fun h2 => e (h2.symm.trans h)
        rw [if_neg this]
        simp [lookM, h]
      · show (if j = p.1 then _ else lookM (setM L k x) j) = _
        rw [if_neg h, lookM_set L k j x]
        by_cases h2 : j = k
        · rw [if_pos h2, if_pos h2]
        · rw [if_neg h2, if_neg h2]; simp [lookM, h]
theorem lookM_app {β : Type} : ∀ (L : List (Int × β)) (k j : Int) (x : β), lookM (L ++ [(k, x)]) j = match lookM L j with | some v => some v | none => if j = k then some x else none
  | [], k, j, x => by simp [lookM]
  | p :: L, k, j, x => by
    show (if j = p.1 then _ else lookM (L ++ [(k, x)]) j) = _
    by_cases h : j = p.1
    · simp [lookM, h]
    · rw [if_neg h, lookM_app L k j x]; simp [lookM, h]

theorem jinv_nil : JInv [] := ⟨by simp, by simp, by simp, by simp⟩
theorem jinv_begin {L : JL} (h : JInv L) {id : Int} (h1 : lookM L id = none) (h2 : okId id = true) (h3 : L.length < 1024) : JInv (L ++ [(id, -1)]) := by
  refine ⟨?_, ?_, ?_, by simp; omega⟩
  · rw [List.map_append, List.nodup_append]
    refine ⟨h.nodup, by simp, ?_⟩
    intro a ha b hb
    simp only [List.map_cons, List.map_nil, List.mem_singleton] at hb
    subst hb
    obtain ⟨p, hp, rfl⟩ := List.mem_map.1 ha
    exact lookM_none.1 h1 p hp
  · intro p hp
    simp only [List.mem_append, List.mem_singleton] at hp
    rcases hp with hp | rfl
    · exact h.ids p hp
    · exact h2
  · intro p hp
    simp only [List.mem_append, List.mem_singleton] at hp
    rcases hp with hp | rfl
    · exact h.codes p hp
    · exact ⟨Int.le_refl _, show (-1 : Int) ≤ 255 by decide⟩
theorem jinv_end {L : JL} (h : JInv L) {id v code : Int} (h1 : lookM L id = some v) (h2 : -1 ≤ code ∧ code ≤ 255) : JInv (setM L id code) := by
  refine ⟨by rw [setM_keys h1]; exact h.nodup, ?_, ?_, by rw [setM_len h1]; exact h.len⟩
  · intro p hp
    rcases setM_mem hp with hp | rfl
    · exact h.ids p hp
    · exact h.ids (id, v) (lookM_mem h1)
  · intro p hp
    rcases setM_mem hp with hp | rfl
    · exact h.codes p hp
    · exact h2
theorem jinv_take {L L' : JL} {b : List UInt8} (h : JInv L) (ht : takeJ L b = some L') : JInv L' := by
  unfold takeJ at ht
  split at ht
  · cases ht
  split at ht
  · cases ht
  rename_i h2
  split at ht
  · rename_i h3
    cases ht
    exact jinv_begin h h3.2.2.1 (by simpa using h2) h3.2.2.2
  split at ht
  · rename_i h4
    cases ht
    cases hl : lookM L (idOf b) with
    | none => rw [hl] at h4; exact absurd h4.2.2 (by decide)
    | some v => exact jinv_end h hl (by have := (b.getD 9 0).toNat_lt; omega)
  · cases ht
theorem jinv_takes : ∀ {bs : List (List UInt8)} {L L' : JL}, JInv L → takesJ L bs = some L' → JInv L'
  | [], _, _, h, ht => by cases ht; exact h
  | b :: bs, L, L', h, ht => by
    unfold takesJ at ht
    split at ht
    · rename_i L1 h1; exact jinv_takes (jinv_take h h1) ht
    · cases ht
theorem jinv_open {m : DM} {L : JL} (h : (openJ m).2.2 = some L) : JInv L := by
  unfold openJ at h
  split at h
  · cases h
  split at h
  · cases h; exact jinv_nil
  split at h
  · cases h
  rename_i L1 h1
  split at h
  · cases h; exact jinv_takes jinv_nil h1
  · cases h
theorem jinv_laid {m : DM} {J : JM} {p : List UInt8} {L : JL} (h : JInv J.L) (h' : JInv L) : JInv (laidJ m J p L).2.1.L := by
  unfold laidJ
  split
  · exact h'
  · exact h
theorem jinv_beginJ {m : DM} {J : JM} (h : JInv J.L) (id : Int) : JInv (beginJ m J id).2.1.L := by
  unfold beginJ
  split
  · exact h
  split
  · exact h
  rename_i h2
  split
  · exact h
  rename_i h3
  split
  · exact h
  · exact jinv_laid h (jinv_begin h (by simpa using h3) (by simpa using h2) (by omega))
theorem jinv_endJ {m : DM} {J : JM} (h : JInv J.L) (id code : Int) : JInv (endJ m J id code).2.1.L := by
  unfold endJ
  split
  · exact h
  split
  · exact h
  split
  · exact h
  split
  · exact h
  · rename_i hl _; exact jinv_laid h (jinv_end h hl (by omega))

theorem rowJ_len (id code : Int) : (rowJ id code).length = if code < 0 then 9 else 10 := by
  unfold rowJ
  split <;> simp [be8_len]

theorem left_eq {L : JL} (h : (L.map (·.1)).Nodup) : leftJ L = ((L.map (·.1)).filter fun id => decide ((lookM L id).getD 0 < 0)) := by
  have key : ∀ (p : Int × Int), p ∈ L → lookM L p.1 = some p.2 := by
    induction L with
    | nil => intro p hp; cases hp
    | cons q L ih =>
      intro p hp
      simp only [List.map_cons, List.nodup_cons] at h
      simp only [List.mem_cons] at hp
      unfold lookM
      rcases hp with rfl | hp
      · rw [if_pos rfl]
      · have hne : ¬ p.1 = q.1 := fun e => h.1 (by rw [← e]; exact List.mem_map_of_mem hp)
        rw [if_neg hne]
        exact ih h.2 p hp
  unfold leftJ
  rw [List.filter_map]
  congr 1
  apply List.filter_congr
  intro p hp
  simp [key p hp]

end Go.Cx

namespace Go.Cf
open Go
variable {B : Base} {As : List HP}
theorem xslcn {s : Sl} {l r m : Nat} {sz : Nat} {K : Sl → WP} (h1 : l ≤ r) (h2 : r ≤ m) (h3 : m ≤ s.c) (h : Ent B As (K (s.cut l r m sz))) : Ent B As (XSlc s (l : Int) (r : Int) (m : Int) sz K) := xslc (by omega) (by omega) (by omega) (by omega) h
end Go.Cf
namespace Go.Cx
open Go Go.Cf
set_option linter.unusedVariables false
variable {B : Base} {As : List HP}

abbrev jCells (d : Option Addr) (r : Option Nat) (s : Sl) (dead : Bool) : List Value := [.pointer d, .map r, s.v, .bool dead]
def JObj (d q : Option Addr) (J : JM) : HP := fun h => JInv J.L ∧ ∃ b r s, q = some ⟨b, 0, none⟩ ∧ star [Blk b (jCells d r s J.dead), MapO (.int .i64) r J.L, Ar I64 s (J.L.map (·.1))] h

theorem xjo (i : Nat) {d q : Option Addr} {dead : Bool} {L : JL} {F : List HP} [p : Pick i As (JObj d q ⟨dead, L⟩) F] {φ : WP}
    (k : JInv L → ∀ b r s, q = some ⟨b, 0, none⟩ → Ent B (Blk b (jCells d r s dead) :: MapO (.int .i64) r L :: Ar I64 s (L.map (·.1)) :: F) φ) : Ent B As φ := by
  refine Ent.perm p.perm ?_
  intro w hw
  obtain ⟨g, ⟨a, c, ⟨hi, b, r, s, hp, pa⟩, pc, d, sa, sc⟩, hm, hu⟩ := hw
  exact k hi b r s hp w ⟨g, (star_append [_, _, _] F).2 ⟨a, c, pa, pc, d, sa, sc⟩, hm, hu⟩

theorem xjo_back (d : Option Addr) (b : Nat) (r : Option Nat) (s : Sl) (dead : Bool) {L : JL} {G : List HP} [q : Split [Blk b (jCells d r s dead), MapO (.int .i64) r L, Ar I64 s (L.map (·.1))] As G] {φ : WP}
    (hi : JInv L) (k : Ent B (JObj d (some ⟨b, 0, none⟩) ⟨dead, L⟩ :: G) φ) : Ent B As φ :=
  xfold [Blk b (jCells d r s dead), MapO (.int .i64) r L, Ar I64 s (L.map (·.1))] (JObj d (some ⟨b, 0, none⟩) ⟨dead, L⟩) (fun g hg => ⟨hi, b, r, s, rfl, hg⟩) k

theorem jobj_some {d q : Option Addr} {J : JM} {g : Frag} (h : JObj d q J g) : ∃ b, q = some ⟨b, 0, none⟩ := by
  obtain ⟨_, b, _, _, h, _⟩ := h
  exact ⟨b, h⟩

theorem u8_is (y : UInt8) (n : Nat) (hn : n < 256) : ((y.toNat : Int) == (n : Int)) = decide (y = UInt8.ofNat n) := by
  rw [Bool.eq_iff_iff]
  simp only [beq_iff_eq, decide_eq_true_eq, Int.natCast_inj]
  constructor
  · intro h; apply UInt8.toNat_inj.1; rw [UInt8.toNat_ofNat']; omega
  · intro h; rw [h, UInt8.toNat_ofNat']; omega

theorem nat_is (m k : Nat) : (((m : Nat) : Int) == (k : Int)) = decide (m = k) := by
  rw [Bool.eq_iff_iff]
  simp only [beq_iff_eq, decide_eq_true_eq, Int.natCast_inj]
theorem cond1 (y : UInt8) {n m : Nat} (h : m = n) (o : Option Int) : (((((y.toNat : Nat) : Int) == 1) && (((n : Nat) : Int) == 9)) && (!o.isSome)) = decide (y = 1 ∧ m = 9 ∧ o = none) := by
  subst h
  rw [show (((y.toNat : Nat) : Int) == 1) = decide (y = 1) from u8_is y 1 (by decide), show (((m : Nat) : Int) == 9) = decide (m = 9) from nat_is m 9]
  cases o <;> simp
theorem cond2 (y : UInt8) {n m : Nat} (h : m = n) (o : Option Int) : ((((((y.toNat : Nat) : Int) == 2) && (((n : Nat) : Int) == 10)) && o.isSome) && decide (o.getD 0 < 0)) = decide (y = 2 ∧ m = 10 ∧ o.getD 0 < 0) := by
  subst h
  rw [show (((y.toNat : Nat) : Int) == 2) = decide (y = 2) from u8_is y 2 (by decide), show (((m : Nat) : Int) == 10) = decide (m = 10) from nat_is m 10]
  cases o <;> simp [Bool.and_assoc]
theorem okId_iff (x : Int) : (decide (x < 1) || decide (x > 1099511627776)) = !(okId x) := by
  unfold okId
  rw [Bool.eq_iff_iff]
  simp

def takePost (d q : Option Addr) (dead : Bool) (L : JL) (xs : List UInt8) : Tup [.bool] → List HP → Prop := fun t Bs =>
  (t.1 = true ∧ ∃ L', takeJ L xs = some L' ∧ Bs = [JObj d q ⟨dead, L'⟩]) ∨ (t.1 = false ∧ takeJ L xs = none ∧ Bs = [])

theorem take_spec (d q : Option Addr) (dead : Bool) (L : JL) (b : Sl) (xs : List UInt8) (hcap : b.n ≤ b.c) :
    Ct Pr F_orders_Journal_take [.pointer q, b.v] .one [.bool] [JObj d q ⟨dead, L⟩] (RAr U8 b xs) (takePost d q dead L xs) := by
  refine spec1 c_orders_Journal_take fun B hr => ?_
  have fb : Fro B b U8 xs := ⟨hr⟩
  have hb := hr.1
  unfold orders_Journal_take
  have no : takeJ L xs = none → ∀ {As : List HP}, Ent B As (Ret B (takePost d q dead L xs) (false, ())) := fun h _ => xkeep (l := []) (xret (.inr ⟨rfl, h, rfl⟩))
  refine xif_dec (fun h => no (by unfold takeJ; rw [if_pos (by omega)])) (fun h9 => ?_)
  refine xslcn (l := 1) (r := 9) (by omega) (by omega) (Nat.le_refl _) ?_
  have fc : Fro B (b.cut 1 9 b.c 1) U8 (cut8 xs 1) := ⟨hr.cut 1 9 b.c (by omega) (by omega) (by omega)⟩
  have hq := cut8_len (xs := xs) (a := 1) (by omega)
  have hsn := fc.rd.1
  refine xloop2 (fun (n : Nat) (v : Int) (i : Int) As => ∃ k : Nat, i = (k : Int) ∧ v = ((beV ((cut8 xs 1).take k) : Nat) : Int) ∧ n = 8 - k ∧ k ≤ 8 ∧ As = [JObj d q ⟨dead, L⟩]) 8 ⟨0, rfl, rfl, rfl, by omega, rfl⟩ ?_
  rintro n _ _ _ K ⟨k, rfl, rfl, rfl, hk, rfl⟩ hK
  refine xif_dec (fun h => ?_) (fun h => ?_)
  · have hk8 : k < 8 := by omega
    have hx := List.getElem?_eq_getElem (l := cut8 xs 1) (i := k) (by omega)
    refine xidxn (h1 := by omega) (h := fun _ _ => ?_)
    refine xgetE hx (h := xasrt (by decide) ?_)
    rw [or64 _ _ (beV_small hq hk8), wrap_succ k (by omega)]
    exact hK (8 - (k + 1)) _ _ _ (by omega) ⟨k + 1, rfl, by rw [beV_step hx], rfl, by omega, rfl⟩
  have hk8 : k = 8 := by omega
  subst hk8
  rw [List.take_of_length_le (by omega), show beV (cut8 xs 1) = idOf xs from rfl, okId_iff]
  refine xif (fun h => no ?_) (fun h => ?_)
  · unfold takeJ; rw [if_neg (by omega), if_pos h]
  have hok : okId (idOf xs) = true := by simpa using h
  have hok' : 1 ≤ ((idOf xs : Nat) : Int) ∧ ((idOf xs : Nat) : Int) ≤ 1099511627776 := by simpa [okId] using hok
  have hw : IntKind.i64.wrap ((idOf xs : Nat) : Int) = ((idOf xs : Nat) : Int) := wrap_id _ (by omega) (by omega)
  rw [hw]
  have hgo : takeJ L xs = if xs.getD 0 0 = 1 ∧ xs.length = 9 ∧ lookM L (idOf xs) = none ∧ L.length < 1024 then some (L ++ [((idOf xs : Int), -1)])
      else if xs.getD 0 0 = 2 ∧ xs.length = 10 ∧ (lookM L (idOf xs)).getD 0 < 0 then some (setM L (idOf xs) ((xs.getD 9 0).toNat : Int)) else none := by
    unfold takeJ; rw [if_neg (by omega), if_neg (by rw [hok]; simp)]
  generalize ((idOf xs : Nat) : Int) = id at *
  refine xjo 0 fun hi b0 r s hq0 => ?_
  subst hq0
  refine xnil (xget (h := ?_))
  refine xlook (.int .i64) ?_
  have x0 := List.getElem?_eq_getElem (l := xs) (i := 0) (by omega)
  have g0 := getD_of x0
  generalize xs[0] = y0 at x0 g0
  rw [g0] at hgo
  refine xidxn (k := 0) (h1 := by omega) (h := fun _ _ => ?_)
  refine xgetE x0 (h := ?_)
  refine xlen s fun hsl _ => ?_
  simp only [List.length_map] at hsl
  rw [cond1 y0 hb]
  refine xjoin (xif_dec (fun hA => ?_) (fun hA => ?_))
  · obtain ⟨rfl, hl9, hn⟩ := hA
    refine xnil (xget (h := ?_))
    refine xjoin (xif_dec (fun hlen => ?_) (fun hlen => ?_))
    · have hlen : L.length < 1024 := by omega
      rw [if_pos ⟨rfl, hl9, hn, hlen⟩] at hgo
      refine xnil (xget (h := ?_))
      refine xupd (.int .i64) (-1) (h := ?_)
      have hset : setM L id (-1) = L ++ [(id, -1)] := by
        rcases look_cases (Value.int .i64) id L 0 with ⟨_, _, h3⟩ | ⟨_, _, _, _, h3, _⟩
        · exact h3 _
        · rw [hn] at h3; cases h3
      rw [hset]
      refine xnil (xget (h := xnew fun b1 => ?_))
      refine xapp1 id (hb := by simp; omega) (h := fun s3 => ?_)
      refine xnil (xset (h := ?_))
      rw [show L.map (·.1) ++ [id] = (L ++ [(id, (-1 : Int))]).map (·.1) by simp]
      refine xjo_back d b0 r s3 dead (jinv_begin hi hn hok hlen) ?_
      exact xret (.inl ⟨rfl, _, hgo, rfl⟩)
    · refine xidxn (k := 0) (h1 := by omega) (h := fun _ _ => ?_)
      refine xgetE x0 (h := xiff rfl (no ?_))
      rw [hgo, if_neg (fun h => hlen (by have := h.2.2.2; omega)), if_neg (fun h => absurd h.1 (by decide))]
  · rw [if_neg (fun h => hA ⟨h.1, h.2.1, h.2.2.1⟩)] at hgo
    refine xjoin (xiff rfl ?_)
    refine xidxn (k := 0) (h1 := by omega) (h := fun _ _ => ?_)
    refine xgetE x0 (h := ?_)
    rw [cond2 y0 hb]
    refine xif_dec (fun hB => ?_) (fun hB => no (by rw [hgo, if_neg hB]))
    rw [if_pos hB] at hgo
    obtain ⟨rfl, hl10, hneg⟩ := hB
    have x9 := List.getElem?_eq_getElem (l := xs) (i := 9) (by omega)
    rw [getD_of x9] at hgo
    have hy9 := (xs[9]'(by omega)).toNat_lt
    generalize xs[9] = y9 at *
    refine xdraw (xnil (xget (h := ?_)))
    refine xidxn (k := 9) (h1 := by omega) (h := fun _ _ => ?_)
    refine xgetE x9 (h := ?_)
    rw [wrap_id ((y9.toNat : Nat) : Int) (by omega) (by omega)]
    refine xupd (.int .i64) ((y9.toNat : Nat) : Int) (h := ?_)
    obtain ⟨v, hv⟩ : ∃ v, lookM L id = some v := by
      cases hl : lookM L id with
      | none => rw [hl] at hneg; exact absurd hneg (by decide)
      | some v => exact ⟨v, rfl⟩
    rw [← setM_keys (x := ((y9.toNat : Nat) : Int)) hv]
    refine xjo_back d b0 r s dead (jinv_end (code := ((y9.toNat : Nat) : Int)) hi hv ⟨by omega, by omega⟩) ?_
    exact xret (.inl ⟨rfl, _, hgo, rfl⟩)

theorem entry_raw (kind : UInt8) (id : Int) (hid : okId id = true) (rest : Sl) (ys : List UInt8) (hy : ys.length ≤ 10) : Ct Pr F_orders_entry [.int .u8 (kind.toNat : Int), .int .i64 id, rest.v] .one [.slice] [] (RAr U8 rest ys)
    (fun t Bs => Bs = [Ar U8 t.1 ([kind] ++ be8 id.toNat ++ ys)]) := by
  refine spec1 c_orders_entry fun B hr => ?_
  have fb : Fro B rest U8 ys := ⟨hr⟩
  have hid' : 1 ≤ id ∧ id ≤ 1099511627776 := by simpa [okId] using hid
  unfold orders_entry
  refine xnew fun b => ?_
  refine xfold1 (Q := Ar U8 ⟨some ⟨b, 0, none⟩, 1, 1⟩ [kind]) 0 (fun g hg => ⟨[], blk_ar [kind] 1 rfl rfl hg⟩) ?_
  refine xloop2 (fun n s i As => ∃ k : Nat, i = 56 - 8 * (k : Int) ∧ n = 8 - k ∧ k ≤ 8 ∧ As = [Ar U8 s ([kind] ++ (be8 id.toNat).take k)]) 8 ⟨0, rfl, rfl, by omega, rfl⟩ ?_
  rintro n s _ _ K ⟨k, rfl, rfl, hk, rfl⟩ hK
  have hbl := be8_len id.toNat
  refine xif_dec (fun h => ?_) (fun h => ?_)
  · have hk8 : k < 8 := by omega
    refine xasrt h (xnew fun b2 => ?_)
    have e1 : (2 : Int) ^ (min (Int.toNat (56 - 8 * (k : Int))) 64) = ((256 ^ (7 - k) : Nat) : Int) := by
      have : ∀ k : Nat, k < 8 → (2 : Int) ^ (min (Int.toNat (56 - 8 * (k : Int))) 64) = ((256 ^ (7 - k) : Nat) : Int) := by decide
      exact this k hk8
    have e2 : id = ((id.toNat : Nat) : Int) := by omega
    have e3 : Int.fdiv id (2 ^ (min (Int.toNat (56 - 8 * (k : Int))) 64)) = ((id.toNat / 256 ^ (7 - k) : Nat) : Int) := by
      rw [e1]
      conv => lhs; rw [e2]
      exact shr_eq _ _ _ rfl
    rw [e3, byte_of]
    refine xapp1 (UInt8.ofNat (id.toNat / 256 ^ (7 - k))) (hb := by simp; omega) (h := fun s' => ?_)
    rw [show IntKind.i64.wrap (56 - 8 * (k : Int) - 8) = 56 - 8 * ((k + 1 : Nat) : Int) by rw [wrap_id _ (by omega) (by omega)]; omega]
    refine hK (8 - (k + 1)) _ _ _ (by omega) ⟨k + 1, rfl, rfl, by omega, ?_⟩
    rw [List.take_add_one, be8_get _ hk8, List.append_assoc]; rfl
  · have hk8 : k = 8 := by omega
    subst hk8
    rw [List.take_of_length_le (by omega)]
    refine xapp (y := rest) (hb := by simp [hbl]; omega) (h := fun s1 => ?_)
    exact xret rfl

theorem lay_spec (d q : Option Addr) (m : DM) (L : JL) (p : Sl) (xs : List UInt8) (hm : xs.length ≤ 1024) : Ct Pr F_orders_Journal_lay [.pointer q, p.v] .one [.int .i64] [JObj d q ⟨false, L⟩, DevObj d m] (RAr U8 p xs)
    (fun t Bs => t.1 = (layJ m xs).2 ∧ Bs = [JObj d q ⟨decide ((layJ m xs).2 = 10), L⟩, DevObj d (layJ m xs).1]) := by
  refine spec1 c_orders_Journal_lay fun B hr => ?_
  have fb : Fro B p U8 xs := ⟨hr⟩
  unfold orders_Journal_lay
  refine xcl (chunkPut_spec p xs hm) rdb ?_
  rintro ⟨s, r, _⟩ _ ⟨_, rfl⟩
  refine app1 (ca2 ?_)
  refine xjo 1 fun hi b0 rm sb hq => ?_
  subst hq
  refine xnil (xget (h := ?_))
  refine xcl (Append_spec d m cmdN s (frameN xs)) rdb ?_
  rintro ⟨r1, _⟩ _ ⟨h1, rfl⟩
  simp only at h1
  subst h1
  refine app1 (ca1 ?_)
  refine xjoin1 (fun e As' => e = (layJ m xs).2 ∧ As' = [DevObj d (layJ m xs).1, Blk b0 (jCells d rm sb false), MapO (.int .i64) rm L, Ar I64 sb (L.map (·.1))]) ?_ ?_
  · intro J hJ
    refine xif (fun h => ?_) (fun h => ?_)
    · have h : (appendM m cmdN (frameN xs)).2 = 0 := by simpa using h
      have e : layJ m xs = syncM (appendM m cmdN (frameN xs)).1 cmdN := by unfold layJ; rw [if_pos h]
      refine xnil (xget (h := ?_))
      refine xcl (Sync_spec d (appendM m cmdN (frameN xs)).1 cmdN) rdb ?_
      rintro ⟨r2, _⟩ _ ⟨h2, rfl⟩
      simp only at h2
      subst h2
      refine app1 (ca1 ?_)
      rw [← e]
      exact xuse [DevObj d (layJ m xs).1, Blk b0 (jCells d rm sb false), MapO (.int .i64) rm L, Ar I64 sb (L.map (·.1))] (hJ _ _ ⟨rfl, rfl⟩)
    · have h : ¬ (appendM m cmdN (frameN xs)).2 = 0 := by simpa using h
      have e : layJ m xs = appendM m cmdN (frameN xs) := by unfold layJ; rw [if_neg h]
      rw [← e]
      exact xuse [DevObj d (layJ m xs).1, Blk b0 (jCells d rm sb false), MapO (.int .i64) rm L, Ar I64 sb (L.map (·.1))] (hJ _ _ ⟨rfl, rfl⟩)
  · rintro _ _ ⟨rfl, rfl⟩
    refine xjoin (xif (fun h => ?_) (fun h => ?_))
    · have h : (layJ m xs).2 = 10 := by simpa using h
      refine xnil (xset (h := ?_))
      refine xjo_back d b0 rm sb true hi (xret ⟨rfl, ?_⟩)
      rw [h]; rfl
    · have h : ¬ (layJ m xs).2 = 10 := by simpa using h
      refine xjo_back d b0 rm sb false hi (xret ⟨rfl, ?_⟩)
      rw [decide_eq_false h]

def jmOf (o : DM × JM × Int) : JM := o.2.1

theorem Begin_spec (d q : Option Addr) (m : DM) (J : JM) (id : Int) : Ct Pr F_orders_Journal_Begin [.pointer q, .int .i64 id] .one [.int .i64] [JObj d q J, DevObj d m] emp
    (fun t Bs => t.1 = (beginJ m J id).2.2 ∧ Bs = [JObj d q (beginJ m J id).2.1, DevObj d (beginJ m J id).1]) := by
  refine spec1 c_orders_Journal_Begin fun B _ => ?_
  unfold orders_Journal_Begin
  obtain ⟨dead, L⟩ := J
  refine xjo 0 fun hi b0 r s hq => ?_
  subst hq
  refine xnil (xget (h := ?_))
  refine xlook (.int .i64) ?_
  refine xnil (xget (h := ?_))
  refine xlen s fun hsl _ => ?_
  simp only [List.length_map] at hsl
  refine xif (fun hd => ?_) (fun hd => ?_)
  · have hd : dead = true := hd
    have e : beginJ m ⟨dead, L⟩ id = (m, ⟨dead, L⟩, 10) := by unfold beginJ; rw [if_pos hd]
    rw [e]
    exact xjo_back d b0 r s dead hi (xret ⟨rfl, rfl⟩)
  have hd : dead = false := by simpa using hd
  subst hd
  rw [okId_iff]
  refine xif (fun ho => ?_) (fun ho => ?_)
  · have e : beginJ m ⟨false, L⟩ id = (m, ⟨false, L⟩, 3) := by unfold beginJ; rw [if_neg (by simp), if_pos ho]
    rw [e]
    exact xjo_back d b0 r s false hi (xret ⟨rfl, rfl⟩)
  have ho' : okId id = true := by simpa using ho
  refine xif (fun hk => ?_) (fun hk => ?_)
  · have e : beginJ m ⟨false, L⟩ id = (m, ⟨false, L⟩, 7) := by unfold beginJ; rw [if_neg (by simp), if_neg (by simpa using ho), if_pos hk]
    rw [e]
    exact xjo_back d b0 r s false hi (xret ⟨rfl, rfl⟩)
  have hn : lookM L id = none := by simpa using hk
  refine xnil (xget (h := ?_))
  refine xif_dec (fun hl => ?_) (fun hl => ?_)
  · have e : beginJ m ⟨false, L⟩ id = (m, ⟨false, L⟩, 34) := by unfold beginJ; rw [if_neg (by simp), if_neg (by simpa using ho), if_neg (by simpa using hk), if_pos (by simp only; omega)]
    rw [e]
    exact xjo_back d b0 r s false hi (xret ⟨rfl, rfl⟩)
  have hl : L.length < 1024 := by omega
  have e : beginJ m ⟨false, L⟩ id = laidJ m ⟨false, L⟩ (rowJ id (-1)) (L ++ [(id, -1)]) := by unfold beginJ; rw [if_neg (by simp), if_neg (by simpa using ho), if_neg (by simpa using hk), if_neg (by simp only; omega)]
  rw [e]
  refine xnone U8 ?_
  refine xcl (entry_raw 1 id ho' ⟨none, 0, 0⟩ [] (by decide)) rdb ?_
  rintro ⟨s1, _⟩ _ rfl
  refine app1 (ca1 ?_)
  rw [show [(1 : UInt8)] ++ be8 id.toNat ++ [] = rowJ id (-1) from rfl]
  refine xjo_back d b0 r s false hi ?_
  refine xcl (lay_spec d (some ⟨b0, 0, none⟩) m L s1 (rowJ id (-1)) (by rw [rowJ_len]; decide)) rdb ?_
  rintro ⟨r1, _⟩ _ ⟨h1, rfl⟩
  simp only at h1
  subst h1
  refine app2 (ca1 ?_)
  refine xif (fun h => ?_) (fun h => ?_)
  · have h : ¬ (layJ m (rowJ id (-1))).2 = 0 := by simpa using h
    unfold laidJ
    rw [if_neg h]
    exact xuse [JObj d (some ⟨b0, 0, none⟩) ⟨decide ((layJ m (rowJ id (-1))).2 = 10), L⟩, DevObj d (layJ m (rowJ id (-1))).1] (xret ⟨rfl, rfl⟩)
  · have h : (layJ m (rowJ id (-1))).2 = 0 := by simpa using h
    unfold laidJ
    rw [if_pos h, h]
    refine xjo 0 fun hi b1 r s hq => ?_
    cases hq
    refine xnil (xget (h := ?_))
    refine xupd (.int .i64) (-1) (h := ?_)
    have hset : setM L id (-1) = L ++ [(id, -1)] := by
      rcases look_cases (Value.int .i64) id L 0 with ⟨_, _, h3⟩ | ⟨_, _, _, _, h3, _⟩
      · exact h3 _
      · rw [hn] at h3; cases h3
    rw [hset]
    refine xnil (xget (h := xnew fun b2 => ?_))
    refine xapp1 id (hb := by simp; omega) (h := fun s3 => ?_)
    refine xnil (xset (h := ?_))
    rw [show L.map (·.1) ++ [id] = (L ++ [(id, (-1 : Int))]).map (·.1) by simp]
    refine xjo_back d b0 r s3 (decide ((0 : Int) = 10)) (jinv_begin hi hn ho' hl) ?_
    exact xuse [JObj d (some ⟨b0, 0, none⟩) ⟨decide ((0 : Int) = 10), L ++ [(id, -1)]⟩, DevObj d (layJ m (rowJ id (-1))).1] (xret ⟨rfl, rfl⟩)

theorem End_spec (d q : Option Addr) (m : DM) (J : JM) (id code : Int) : Ct Pr F_orders_Journal_End [.pointer q, .int .i64 id, .int .i64 code] .one [.int .i64] [JObj d q J, DevObj d m] emp
    (fun t Bs => t.1 = (endJ m J id code).2.2 ∧ Bs = [JObj d q (endJ m J id code).2.1, DevObj d (endJ m J id code).1]) := by
  refine spec1 c_orders_Journal_End fun B _ => ?_
  unfold orders_Journal_End
  obtain ⟨dead, L⟩ := J
  refine xjo 0 fun hi b0 r s hq => ?_
  subst hq
  refine xnil (xget (h := ?_))
  refine xlook (.int .i64) ?_
  refine xnil (xget (h := ?_))
  refine xif (fun hd => ?_) (fun hd => ?_)
  · have hd : dead = true := hd
    have e : endJ m ⟨dead, L⟩ id code = (m, ⟨dead, L⟩, 10) := by unfold endJ; rw [if_pos hd]
    rw [e]
    exact xjo_back d b0 r s dead hi (xret ⟨rfl, rfl⟩)
  have hd : dead = false := by simpa using hd
  subst hd
  refine xif (fun ho => ?_) (fun ho => ?_)
  · have e : endJ m ⟨false, L⟩ id code = (m, ⟨false, L⟩, 3) := by unfold endJ; rw [if_neg (by simp), if_pos (by simpa using ho)]
    rw [e]
    exact xjo_back d b0 r s false hi (xret ⟨rfl, rfl⟩)
  have ho : ¬ (code < 0 ∨ code > 255) := by simpa using ho
  refine xif (fun hk => ?_) (fun hk => ?_)
  · have hn : lookM L id = none := by simpa using hk
    have e : endJ m ⟨false, L⟩ id code = (m, ⟨false, L⟩, 6) := by unfold endJ; rw [if_neg (by simp), if_neg ho]; simp only [hn]
    rw [e]
    exact xjo_back d b0 r s false hi (xret ⟨rfl, rfl⟩)
  obtain ⟨c, hc⟩ : ∃ c, lookM L id = some c := Option.isSome_iff_exists.1 (by simpa using hk)
  have hid : okId id = true := hi.ids _ (lookM_mem hc)
  rw [hc]
  refine xif_dec (fun hl => ?_) (fun hl => ?_)
  · have hl : c ≥ 0 := hl
    have e : endJ m ⟨false, L⟩ id code = (m, ⟨false, L⟩, 7) := by unfold endJ; rw [if_neg (by simp), if_neg ho]; simp only [hc]; rw [if_pos hl]
    rw [e]
    exact xjo_back d b0 r s false hi (xret ⟨rfl, rfl⟩)
  have hl : ¬ c ≥ 0 := hl
  have e : endJ m ⟨false, L⟩ id code = laidJ m ⟨false, L⟩ (rowJ id code) (setM L id code) := by unfold endJ; rw [if_neg (by simp), if_neg ho]; simp only [hc]; rw [if_neg hl]
  rw [e]
  have ec : IntKind.u8.wrap code = ((UInt8.ofNat code.toNat).toNat : Int) := by
    have := byte_of code.toNat
    rwa [show ((code.toNat : Nat) : Int) = code by omega] at this
  rw [ec]
  refine xnew fun b => ?_
  refine xfold1 (Q := Ar U8 ⟨some ⟨b, 0, none⟩, 1, 1⟩ [UInt8.ofNat code.toNat]) 0 (fun g hg => ⟨[], blk_ar [UInt8.ofNat code.toNat] 1 rfl rfl hg⟩) ?_
  refine xcl (entry_raw 2 id hid ⟨some ⟨b, 0, none⟩, 1, 1⟩ [UInt8.ofNat code.toNat] (by simp)) rdb ?_
  rintro ⟨s1, _⟩ _ rfl
  refine app1 (ca1 ?_)
  have er : [(2 : UInt8)] ++ be8 id.toNat ++ [UInt8.ofNat code.toNat] = rowJ id code := by unfold rowJ; rw [if_neg (by omega), if_neg (by omega)]
  rw [er]
  refine xjo_back d b0 r s false hi ?_
  refine xcl (lay_spec d (some ⟨b0, 0, none⟩) m L s1 (rowJ id code) (by rw [rowJ_len]; split <;> decide)) rdb ?_
  rintro ⟨r1, _⟩ _ ⟨h1, rfl⟩
  simp only at h1
  subst h1
  refine app2 (ca1 ?_)
  refine xif (fun h => ?_) (fun h => ?_)
  · have h : ¬ (layJ m (rowJ id code)).2 = 0 := by simpa using h
    unfold laidJ
    rw [if_neg h]
    exact xuse [JObj d (some ⟨b0, 0, none⟩) ⟨decide ((layJ m (rowJ id code)).2 = 10), L⟩, DevObj d (layJ m (rowJ id code)).1] (xret ⟨rfl, rfl⟩)
  · have h : (layJ m (rowJ id code)).2 = 0 := by simpa using h
    unfold laidJ
    rw [if_pos h, h]
    refine xjo 0 fun hi b1 r s hq => ?_
    cases hq
    refine xnil (xget (h := ?_))
    refine xupd (.int .i64) code (h := ?_)
    rw [← setM_keys (x := code) hc]
    refine xjo_back d b0 r s (decide ((0 : Int) = 10)) (jinv_end (code := code) hi hc ⟨by omega, by omega⟩) ?_
    exact xuse [JObj d (some ⟨b0, 0, none⟩) ⟨decide ((0 : Int) = 10), setM L id code⟩, DevObj d (layJ m (rowJ id code)).1] (xret ⟨rfl, rfl⟩)

theorem State_spec (d q : Option Addr) (J : JM) (id : Int) : Ct Pr F_orders_Journal_State [.pointer q, .int .i64 id] (.tup [none, none]) [.int .i64, .int .i64] [JObj d q J] emp
    (fun t Bs => t.1 = (stateJ J.L id).1 ∧ t.2.1 = (stateJ J.L id).2 ∧ Bs = [JObj d q J]) := by
  refine spec2 c_orders_Journal_State fun B _ => ?_
  unfold orders_Journal_State
  obtain ⟨dead, L⟩ := J
  refine xjo 0 fun hi b0 r s hq => ?_
  subst hq
  refine xnil (xget (h := ?_))
  refine xlook (.int .i64) ?_
  unfold stateJ
  cases hl : lookM L id with
  | none => exact xift rfl (xjo_back d b0 r s dead hi (xret ⟨rfl, rfl, rfl⟩))
  | some c =>
    refine xiff rfl (xif_dec (fun h => ?_) (fun h => ?_))
    · have h : c < 0 := h
      simp only [h, if_true]
      exact xjo_back d b0 r s dead hi (xret ⟨rfl, rfl, rfl⟩)
    · have h : ¬ c < 0 := h
      simp only [h, if_false]
      exact xjo_back d b0 r s dead hi (xret ⟨rfl, rfl, rfl⟩)

theorem Left_spec (d q : Option Addr) (J : JM) : Ct Pr F_orders_Journal_Left [.pointer q] .one [.slice] [JObj d q J] emp
    (fun t Bs => Bs = [JObj d q J, Ar I64 t.1 (leftJ J.L)]) := by
  refine spec1 c_orders_Journal_Left fun B _ => ?_
  unfold orders_Journal_Left
  obtain ⟨dead, L⟩ := J
  refine xjo 0 fun hi b0 r s hq => ?_
  subst hq
  have hll := hi.len
  refine xnil (xget (h := ?_))
  refine xlen s fun hsl _ => ?_
  simp only [List.length_map] at hsl
  refine xnone I64 ?_
  refine xloop2 (fun n l i As => ∃ k : Nat, i = (k : Int) ∧ n = L.length - k ∧ k ≤ L.length ∧ As = [Ar I64 l (((L.map (·.1)).take k).filter fun id => decide ((lookM L id).getD 0 < 0)), Blk b0 (jCells d r s dead), MapO (.int .i64) r L, Ar I64 s (L.map (·.1))]) L.length ⟨0, rfl, rfl, by omega, rfl⟩ ?_
  rintro n l _ _ K ⟨k, rfl, rfl, hk, rfl⟩ hK
  refine xif_dec (fun h => ?_) (fun h => ?_)
  · have hx := List.getElem?_eq_getElem (l := L.map (·.1)) (i := k) (by simp; omega)
    have htk : (L.map (·.1)).take (k + 1) = (L.map (·.1)).take k ++ [(L.map (·.1))[k]'(by simp; omega)] := by rw [List.take_add_one, hx]; rfl
    generalize (L.map (·.1))[k]'(by simp; omega) = id at hx htk
    have hfl : (((L.map (·.1)).take k).filter fun id => decide ((lookM L id).getD 0 < 0)).length ≤ k := by
      have := List.length_filter_le (fun id => decide ((lookM L id).getD 0 < 0)) ((L.map (·.1)).take k)
      simp at this ⊢; omega
    refine xidxn (h1 := by simp; omega) (h := fun _ _ => ?_)
    refine xgetE hx (h := ?_)
    refine xnil (xget (h := ?_))
    refine xlook1 (.int .i64) ?_
    refine xjoin (xif_dec (fun hneg => ?_) (fun hneg => ?_))
    · refine xnew fun b => ?_
      refine xapp1 id (hb := by omega) (h := fun s1 => ?_)
      rw [wrap_succ k (by omega)]
      refine hK (L.length - (k + 1)) _ _ _ (by omega) ⟨k + 1, rfl, rfl, by omega, ?_⟩
      rw [htk, List.filter_append, List.filter_cons_of_pos (by simpa using hneg)]; rfl
    · rw [wrap_succ k (by omega)]
      refine hK (L.length - (k + 1)) _ _ _ (by omega) ⟨k + 1, rfl, rfl, by omega, ?_⟩
      rw [htk, List.filter_append, List.filter_cons_of_neg (by simpa using hneg)]; simp
  · have hkl : k = L.length := by omega
    rw [List.take_of_length_le (by simp; omega), ← left_eq hi.nodup]
    exact xjo_back d b0 r s dead hi (xret rfl)

end Go.Cx

namespace Go.Cx
open Go Go.Cf
set_option linter.unusedVariables false
variable {B : Base} {As : List HP}

theorem takes_app : ∀ (xs ys : List (List UInt8)) (L : JL), takesJ L (xs ++ ys) = match takesJ L xs with | some L' => takesJ L' ys | none => none
  | [], _, _ => rfl
  | b :: xs, ys, L => by
    show (match takeJ L b with | some L' => takesJ L' (xs ++ ys) | none => none) = _
    show _ = (match (match takeJ L b with | some L' => takesJ L' xs | none => none) with | some L' => takesJ L' ys | none => none)
    cases takeJ L b with
    | none => rfl
    | some L' => exact takes_app xs ys L'
theorem takes_step {rows : List (List UInt8)} {k : Nat} {L L' : JL} {b : List UInt8} (h1 : takesJ [] (rows.take k) = some L) (h2 : rows[k]? = some b) (h3 : takeJ L b = some L') : takesJ [] (rows.take (k + 1)) = some L' := by
  rw [List.take_add_one, h2, takes_app, h1]
  show (match takeJ L b with | some L' => some L' | none => none) = _
  rw [h3]
theorem takes_fail {rows : List (List UInt8)} {k : Nat} {L : JL} {b : List UInt8} (h1 : takesJ [] (rows.take k) = some L) (h2 : rows[k]? = some b) (h3 : takeJ L b = none) : takesJ [] rows = none := by
  rw [← List.take_append_drop k rows, takes_app, h1]
  have hk := (List.getElem?_eq_some_iff.1 h2).1
  have e : rows.drop k = b :: rows.drop (k + 1) := by
    rw [List.drop_eq_getElem_cons hk]
    rw [List.getElem?_eq_getElem hk] at h2
    cases h2; rfl
  rw [e]
  show (match takeJ L b with | some L' => takesJ L' (rows.drop (k + 1)) | none => none) = _
  rw [h3]

theorem open_down {m : DM} (h : m.down = true) : openJ m = (m, 10, none) := by unfold openJ; rw [if_pos h]
theorem open_none {m : DM} (h : m.down = false) (h2 : (readM m cmdN).2 ≠ 0) : openJ m = (m, 0, some []) := by unfold openJ; rw [if_neg (by rw [h]; simp), if_pos h2]
theorem open_bad {m : DM} (h : m.down = false) (h2 : (readM m cmdN).2 = 0) (h3 : takesJ [] (scanN (readM m cmdN).1).1 = none) : openJ m = (m, 30, none) := by
  unfold openJ; rw [if_neg (by rw [h]; simp), if_neg (by rw [h2]; simp)]; simp only [h3]
theorem open_go {m : DM} (h : m.down = false) (h2 : (readM m cmdN).2 = 0) {L : JL} (h3 : takesJ [] (scanN (readM m cmdN).1).1 = some L) :
    openJ m = if (mendJ m (scanN (readM m cmdN).1).2 (readM m cmdN).1.length).2 = 0 then ((mendJ m (scanN (readM m cmdN).1).2 (readM m cmdN).1.length).1, 0, some L)
      else ((mendJ m (scanN (readM m cmdN).1).2 (readM m cmdN).1.length).1, (mendJ m (scanN (readM m cmdN).1).2 (readM m cmdN).1.length).2, none) := by
  unfold openJ; rw [if_neg (by rw [h]; simp), if_neg (by rw [h2]; simp)]; simp only [h3]
theorem open_err {m : DM} : ((openJ m).2.2 = none → (openJ m).2.1 ≠ 0) ∧ (∀ L, (openJ m).2.2 = some L → (openJ m).2.1 = 0) := by
  rcases Bool.eq_false_or_eq_true m.down with h | h
  · rw [open_down h]; simp
  by_cases h2 : (readM m cmdN).2 = 0
  · cases h3 : takesJ [] (scanN (readM m cmdN).1).1 with
    | none => rw [open_bad h h2 h3]; simp
    | some L =>
      rw [open_go h h2 h3]
      split
      · simp
      · rename_i h4; simp [h4]
  · rw [open_none h h2]; simp

def openPost (p : Option Addr) (m : DM) : Tup [.ptr, .int .i64] → List HP → Prop := fun t Bs =>
  (∃ L, (openJ m).2.2 = some L ∧ t.2.1 = 0 ∧ Bs = [DevObj p (openJ m).1, JObj p t.1 ⟨false, L⟩]) ∨ ((openJ m).2.2 = none ∧ t.1 = none ∧ t.2.1 = (openJ m).2.1 ∧ Bs = [DevObj p (openJ m).1])

theorem Open_spec (p : Option Addr) (m : DM) : Ct Pr F_orders_Open [.pointer p] (.tup [none, none]) [.ptr, .int .i64] [DevObj p m] emp (openPost p m) := by
  refine spec2 c_orders_Open fun B _ => ?_
  unfold orders_Open
  refine xfact 0 (fun g hg => (⟨hg.1, dev_some hg⟩ : DInv m ∧ ∃ b, p = some ⟨b, 0, none⟩)) fun hi => ?_
  obtain ⟨hi, bd, rfl⟩ := hi
  have hbl := body_le hi cmdN
  refine xnil ?_
  refine xcl (Down_spec (some ⟨bd, 0, none⟩) m) rdb ?_
  rintro ⟨c, _⟩ _ ⟨hc, rfl⟩
  simp only at hc
  subst hc
  refine app1 (ca1 (xif (fun hd => ?_) (fun hd => ?_)))
  · have e := open_down hd
    exact xret (.inr ⟨by rw [e], rfl, by rw [e], by rw [e]⟩)
  refine xmap (.int .i64) fun mb => ?_
  refine xnew fun b => ?_
  refine xnone I64 ?_
  refine xfold [Blk b [.pointer (some ⟨bd, 0, none⟩), .map (some mb), .slice none 0 0, .bool false], MapO (.int .i64) (some mb) [], Ar I64 ⟨none, 0, 0⟩ []] (JObj (some ⟨bd, 0, none⟩) (some ⟨b, 0, none⟩) ⟨false, []⟩) (fun g hg => ⟨jinv_nil, b, some mb, ⟨none, 0, 0⟩, rfl, hg⟩) ?_
  refine xcl (Read_spec (some ⟨bd, 0, none⟩) m cmdN) rdb ?_
  rintro ⟨s, r, _⟩ _ ⟨hr, rfl⟩
  simp only at hr
  subst hr
  refine app2 (ca2 (xif (fun h2 => ?_) (fun h2 => ?_)))
  · have h2 : (readM m cmdN).2 ≠ 0 := by simpa using h2
    have e := open_none hd h2
    refine xuse [DevObj (some ⟨bd, 0, none⟩) m, JObj (some ⟨bd, 0, none⟩) (some ⟨b, 0, none⟩) ⟨false, []⟩] (xret (.inl ⟨[], by rw [e], rfl, by rw [e]⟩))
  have h2 : (readM m cmdN).2 = 0 := by simpa using h2
  refine xlen s fun hsl hsc => ?_
  replace hsl : (readM m cmdN).1.length = s.n := hsl
  refine xcl (Scan_spec s (readM m cmdN).1 hbl hsc) rdb ?_
  rintro ⟨s1, r1, _⟩ _ ⟨h3, rs, rfl⟩
  simp only at h3
  subst h3
  refine app2 (ca2 ?_)
  have hbad := open_bad hd h2
  have hgo := fun {L} (h : takesJ [] (scanN (readM m cmdN).1).1 = some L) => open_go hd h2 h
  have hmax := (scan_used _ (readM m cmdN).1 (Nat.le_refl _)).2.1
  have hle := scan_len (readM m cmdN).1
  generalize hbs : (readM m cmdN).1 = bs at *
  generalize hrows : (scanN bs).1 = rows at *
  generalize (scanN bs).2 = u at *
  refine xlen s1 fun hrl _ => ?_
  refine xfact 1 (fun g hg => Each.length hg) fun hrr => ?_
  refine xuse [DevObj (some ⟨bd, 0, none⟩) m, JObj (some ⟨bd, 0, none⟩) (some ⟨b, 0, none⟩) ⟨false, []⟩, Ar SL s1 rs, Each (Ar U8) rs rows] ?_
  refine xloop1 (fun n i As => ∃ (k : Nat) (L : JL), i = (k : Int) ∧ n = rows.length - k ∧ k ≤ rows.length ∧ takesJ [] (rows.take k) = some L ∧ As = [DevObj (some ⟨bd, 0, none⟩) m, JObj (some ⟨bd, 0, none⟩) (some ⟨b, 0, none⟩) ⟨false, L⟩, Ar SL s1 rs, Each (Ar U8) rs rows]) rows.length ⟨0, [], rfl, rfl, by omega, rfl, ?_⟩ ?_
  · exact rfl
  rintro n _ _ K ⟨k, L, rfl, rfl, hk, htk, rfl⟩ hK
  refine xif_dec (fun h => ?_) (fun h => ?_)
  · have hx := List.getElem?_eq_getElem (l := rs) (i := k) (by omega)
    have hy := List.getElem?_eq_getElem (l := rows) (i := k) (by omega)
    generalize rs[k] = sl at hx
    generalize rows[k] = row at hy
    refine xidxn (h1 := by omega) (h := fun _ _ => ?_)
    refine xgetE hx (h := ?_)
    refine xfact 3 (fun g hg => each_read (R := Ar U8) (S := fun sl row (_ : Frag) => sl.n ≤ sl.c) (fun _ _ _ _ h _ => h) (fun _ _ _ h => by obtain ⟨_, h⟩ := h; exact h.cap) hg hx hy) fun hcap => ?_
    refine xcl (take_spec (some ⟨bd, 0, none⟩) (some ⟨b, 0, none⟩) false L sl row hcap) (rds_pick 2 (fun g hg => each_read (R := Ar U8) (S := fun sl row => RAr U8 sl row) (fun _ _ _ _ h s => h.mono s) (fun _ _ _ h => h.read) hg hx hy) (fun _ _ h s => h.mono s)) ?_
    rintro ⟨c, _⟩ _ (⟨hc, L', hL, rfl⟩ | ⟨hc, hL, rfl⟩)
    · obtain rfl : c = true := hc
      refine app1 (ca1 (xiff rfl ?_))
      rw [wrap_succ k (by omega)]
      exact xuse [DevObj (some ⟨bd, 0, none⟩) m, JObj (some ⟨bd, 0, none⟩) (some ⟨b, 0, none⟩) ⟨false, L'⟩, Ar SL s1 rs, Each (Ar U8) rs rows] (hK (rows.length - (k + 1)) _ _ (by omega) ⟨k + 1, L', rfl, rfl, by omega, takes_step htk hy hL, rfl⟩)
    · obtain rfl : c = false := hc
      have e := hbad (takes_fail htk hy hL)
      exact app0 (ca1 (xift rfl (xuse [DevObj (some ⟨bd, 0, none⟩) m] (xret (.inr ⟨by rw [e], rfl, by rw [e], by rw [e]⟩)))))
  have hkl : k = rows.length := by omega
  subst hkl
  rw [List.take_of_length_le (Nat.le_refl _)] at htk
  have e := hgo htk
  refine xuse [DevObj (some ⟨bd, 0, none⟩) m, JObj (some ⟨bd, 0, none⟩) (some ⟨b, 0, none⟩) ⟨false, L⟩] ?_
  have fin : ∀ m' : DM, (mendJ m u bs.length = syncM m' cmdN) → Ent B [DevObj (some ⟨bd, 0, none⟩) m', JObj (some ⟨bd, 0, none⟩) (some ⟨b, 0, none⟩) ⟨false, L⟩] (XCall Pr F_device_Device_Sync [.pointer (some ⟨bd, 0, none⟩), .string cmdN] .one [.int .i64] fun r3 => XIf (r3 != 0) (Ret B (openPost (some ⟨bd, 0, none⟩) m) (none, r3, ())) (Ret B (openPost (some ⟨bd, 0, none⟩) m) (some ⟨b, 0, none⟩, 0, ()))) := by
    intro m' hm
    rw [hm] at e
    refine xcl (Sync_spec (some ⟨bd, 0, none⟩) m' cmdN) rdb ?_
    rintro ⟨r3, _⟩ _ ⟨h3, rfl⟩
    simp only at h3
    subst h3
    refine app1 (ca1 (xif (fun h => ?_) (fun h => ?_)))
    · have h : ¬ (syncM m' cmdN).2 = 0 := by simpa using h
      rw [if_neg h] at e
      exact xuse [DevObj (some ⟨bd, 0, none⟩) (syncM m' cmdN).1] (xret (.inr ⟨by rw [e], rfl, by rw [e], by rw [e]⟩))
    · have h : (syncM m' cmdN).2 = 0 := by simpa using h
      rw [if_pos h] at e
      exact xret (.inl ⟨L, by rw [e], rfl, by rw [e]⟩)
  refine xjoin (xif_dec (fun hlt => ?_) (fun hlt => ?_))
  · have hlt : u < bs.length := by omega
    refine xcl (Truncate_spec (some ⟨bd, 0, none⟩) m cmdN (u : Int)) rdb ?_
    rintro ⟨r2, _⟩ _ ⟨h2, rfl⟩
    simp only at h2
    subst h2
    refine app1 (ca1 (xif (fun h => ?_) (fun h => ?_)))
    · have h : (truncM m cmdN u).2 ≠ 0 := by simpa using h
      have em : mendJ m u bs.length = truncM m cmdN u := by unfold mendJ; rw [if_pos hlt, if_pos h]
      rw [em, if_neg h] at e
      exact xuse [DevObj (some ⟨bd, 0, none⟩) (truncM m cmdN u).1] (xret (.inr ⟨by rw [e], rfl, by rw [e], by rw [e]⟩))
    · have h : ¬ (truncM m cmdN u).2 ≠ 0 := by simpa using h
      exact fin _ (by unfold mendJ; rw [if_pos hlt, if_neg h])
  · exact fin _ (by unfold mendJ; rw [if_neg (by omega)])

end Go.Cx

namespace Go.Cx
open Go Go.Cf
set_option linter.unusedVariables false
variable {B : Base} {As : List HP}

abbrev CE3 := Int × Bool × Int
def ENT : Enc CE3 := ⟨fun x => [.int .i64 x.1, .bool x.2.1, .int .i64 x.2.2], 3, fun _ => rfl, fun x v h => by simp at h; rcases h with rfl | rfl | rfl <;> rfl, by decide, (0, false, 0)⟩
def entOf (p : Int × Int) : CE3 := (p.1, decide (p.2 ≥ 0), if p.2 < 0 then 0 else p.2)
abbrev rjCells (d : Option Addr) (s : Sl) (dead : Bool) : List Value := [.pointer d, s.v, .bool dead]
def RefJ (d q : Option Addr) (J : JM) : HP := fun h => JInv J.L ∧ ∃ b s, q = some ⟨b, 0, none⟩ ∧ star [Blk b (rjCells d s J.dead), Ar ENT s (J.L.map entOf)] h

theorem xrj (i : Nat) {d q : Option Addr} {dead : Bool} {L : JL} {F : List HP} [p : Pick i As (RefJ d q ⟨dead, L⟩) F] {φ : WP}
    (k : JInv L → ∀ b s, q = some ⟨b, 0, none⟩ → Ent B (Blk b (rjCells d s dead) :: Ar ENT s (L.map entOf) :: F) φ) : Ent B As φ := by
  refine Ent.perm p.perm ?_
  intro w hw
  obtain ⟨g, ⟨a, c, ⟨hi, b, s, hp, pa⟩, pc, d, sa, sc⟩, hm, hu⟩ := hw
  exact k hi b s hp w ⟨g, (star_append [_, _] F).2 ⟨a, c, pa, pc, d, sa, sc⟩, hm, hu⟩

theorem xrj_back (d : Option Addr) (b : Nat) (s : Sl) (dead : Bool) {L : JL} {G : List HP} [q : Split [Blk b (rjCells d s dead), Ar ENT s (L.map entOf)] As G] {φ : WP}
    (hi : JInv L) (k : Ent B (RefJ d (some ⟨b, 0, none⟩) ⟨dead, L⟩ :: G) φ) : Ent B As φ :=
  xfold [Blk b (rjCells d s dead), Ar ENT s (L.map entOf)] (RefJ d (some ⟨b, 0, none⟩) ⟨dead, L⟩) (fun g hg => ⟨hi, b, s, rfl, hg⟩) k

theorem refj_some {d q : Option Addr} {J : JM} {g : Frag} (h : RefJ d q J g) : ∃ b, q = some ⟨b, 0, none⟩ := by
  obtain ⟨_, b, _, h, _⟩ := h
  exact ⟨b, h⟩

theorem find_at {id : Int} : ∀ {L : JL} {k : Nat} {v : Int}, L[k]? = some (id, v) → (∀ t p, t < k → L[t]? = some p → p.1 ≠ id) → lookM L id = some v ∧ ∀ x, setM L id x = L.set k (id, x)
  | [], _, _, h, _ => by simp at h
  | p :: L, 0, v, h, _ => by
    simp only [List.getElem?_cons_zero, Option.some.injEq] at h
    subst h
    exact ⟨by simp [lookM], fun x => by simp [setM]⟩
  | p :: L, k + 1, v, h, hn => by
    have h0 : ¬ id = p.1 := fun e => hn 0 p (by omega) rfl e.symm
    obtain ⟨h1, h2⟩ := find_at (L := L) (k := k) (v := v) (by simpa using h) (fun t q ht hq => hn (t + 1) q (by omega) (by simpa using hq))
    exact ⟨by simp [lookM, h0, h1], fun x => by simp [setM, h0, h2]⟩

def findPost (L : JL) (id : Int) (b : Nat) (d : Option Addr) (s : Sl) (dead : Bool) : Tup [.int .i64] → List HP → Prop := fun t Bs =>
  ((t.1 = -1 ∧ lookM L id = none) ∨ ∃ (j : Nat) (v : Int), t.1 = (j : Int) ∧ L[j]? = some (id, v) ∧ lookM L id = some v ∧ ∀ x, setM L id x = L.set j (id, x)) ∧ Bs = [Blk b (rjCells d s dead), Ar ENT s (L.map entOf)]

theorem rfind_raw (b : Nat) (d : Option Addr) (s : Sl) (dead : Bool) (L : JL) (id : Int) (hl : L.length ≤ 100000) : Ct Pr F_ref25_Journal_Find [.pointer (some ⟨b, 0, none⟩), .int .i64 id] .one [.int .i64] [Blk b (rjCells d s dead), Ar ENT s (L.map entOf)] emp (findPost L id b d s dead) := by
  refine spec1 c_ref25_Journal_Find fun B _ => ?_
  unfold ref25_Journal_Find
  refine xlen s fun hsl _ => ?_
  simp only [List.length_map] at hsl
  refine xloop1 (fun n i As => ∃ k : Nat, i = (k : Int) ∧ n = L.length - k ∧ k ≤ L.length ∧ (∀ t p, t < k → L[t]? = some p → p.1 ≠ id) ∧ As = [Blk b (rjCells d s dead), Ar ENT s (L.map entOf)]) L.length ⟨0, rfl, rfl, by omega, by omega, rfl⟩ ?_
  rintro n _ _ K ⟨k, rfl, rfl, hk, hne, rfl⟩ hK
  refine xnil (xget (h := ?_))
  refine xif_dec (fun h => ?_) (fun h => ?_)
  · have hkl : k < L.length := by omega
    have hp := List.getElem?_eq_getElem hkl
    generalize L[k] = p at hp
    have hx : (L.map entOf)[k]? = some (entOf p) := by rw [List.getElem?_map, hp]; rfl
    refine xnil (xget (h := ?_))
    refine xidxn (h1 := by simp; omega) (h := fun _ _ => ?_)
    refine xgetE hx (h := ?_)
    refine xif (fun he => ?_) (fun he => ?_)
    · have he : p.1 = id := by simpa [entOf] using he
      obtain ⟨i, v⟩ := p
      simp only at he
      subst he
      obtain ⟨h1, h2⟩ := find_at hp hne
      exact xret ⟨.inr ⟨k, v, rfl, hp, h1, h2⟩, rfl⟩
    · have he : ¬ p.1 = id := by simpa [entOf] using he
      rw [wrap_succ k (by omega)]
      refine hK (L.length - (k + 1)) _ _ (by omega) ⟨k + 1, rfl, rfl, by omega, ?_, rfl⟩
      intro t p' ht hp'
      rcases Nat.lt_or_ge t k with h' | h'
      · exact hne t p' h' hp'
      · obtain rfl : t = k := by omega
        rw [hp] at hp'; cases hp'; exact he
  · refine xret ⟨.inl ⟨rfl, lookM_none.2 fun p hp => ?_⟩, rfl⟩
    obtain ⟨t, ht, rfl⟩ := List.getElem_of_mem hp
    exact hne t _ (by omega) (List.getElem?_eq_getElem ht)

theorem shift8 : ∀ k : Nat, k < 8 → (2 : Int) ^ (min (Int.toNat (IntKind.u64.wrap (IntKind.i64.wrap (8 * (7 - (k : Int)))))) 64) = ((256 ^ (7 - k) : Nat) : Int) ∧ 0 ≤ IntKind.u64.wrap (IntKind.i64.wrap (8 * (7 - (k : Int)))) := by decide

theorem rRow_spec (id code : Int) (hid : okId id = true) (hc : -1 ≤ code ∧ code ≤ 255) : Ct Pr F_ref25_Row [.int .i64 id, .int .i64 code] .one [.slice] [] emp (fun t Bs => Bs = [Ar U8 t.1 (rowJ id code)]) := by
  refine spec1 c_ref25_Row fun B _ => ?_
  have hid' : 1 ≤ id ∧ id ≤ 1099511627776 := by simpa [okId] using hid
  unfold ref25_Row
  have hbl := be8_len id.toNat
  refine xnew fun b => ?_
  refine xfold1 (Q := Ar U8 ⟨some ⟨b, 0, none⟩, 1, 1⟩ [1]) 0 (fun g hg => ⟨[], blk_ar [1] 1 rfl rfl hg⟩) ?_
  refine xjoin0 (fun As' => As' = [Ar U8 ⟨some ⟨b, 0, none⟩, 1, 1⟩ (if code < 0 then [1] else [2])]) ?_ ?_
  · intro K hK
    refine xif_dec (fun h => ?_) (fun h => ?_)
    · refine xidxn (s := ⟨some ⟨b, 0, none⟩, 1, 1⟩) (k := 0) (h1 := by decide) (h := fun _ _ => ?_)
      refine xsetE (s := ⟨some ⟨b, 0, none⟩, 1, 1⟩) (x := 1) 2 rfl (hv := rfl) (h := ?_)
      exact hK _ (by rw [if_neg (by omega)]; rfl)
    · exact hK _ (by rw [if_pos (by omega)])
  rintro _ rfl
  have hl1 : (if code < 0 then [1] else [2] : List UInt8).length = 1 := by split <;> rfl
  generalize hpre : (if code < 0 then [1] else [2] : List UInt8) = pre at *
  refine xloop2 (fun n s i As => ∃ k : Nat, i = 7 - (k : Int) ∧ n = 8 - k ∧ k ≤ 8 ∧ As = [Ar U8 s (pre ++ (be8 id.toNat).take k)]) 8 ⟨0, rfl, rfl, by omega, by rw [List.take_zero, List.append_nil]⟩ ?_
  rintro n s _ _ K ⟨k, rfl, rfl, hk, rfl⟩ hK
  refine xif_dec (fun h => ?_) (fun h => ?_)
  · have hk8 : k < 8 := by omega
    obtain ⟨e1, e2⟩ := shift8 k hk8
    refine xasrt e2 (xnew fun b2 => ?_)
    have e3 : IntKind.u64.wrap id = ((id.toNat : Nat) : Int) := by
      have := wrap_u64 id.toNat (by omega)
      rwa [show ((id.toNat : Nat) : Int) = id by omega] at this ⊢
    rw [e1, e3, shr_eq _ _ _ rfl, byte_of]
    refine xapp1 (UInt8.ofNat (id.toNat / 256 ^ (7 - k))) (hb := by simp; omega) (h := fun s' => ?_)
    rw [show IntKind.i64.wrap (7 - (k : Int) - 1) = 7 - ((k + 1 : Nat) : Int) by rw [wrap_id _ (by omega) (by omega)]; omega]
    refine hK (8 - (k + 1)) _ _ _ (by omega) ⟨k + 1, rfl, rfl, by omega, ?_⟩
    rw [List.take_add_one, be8_get _ hk8, List.append_assoc]; rfl
  · have hk8 : k = 8 := by omega
    subst hk8
    rw [List.take_of_length_le (by omega)]
    refine xjoin (xif_dec (fun h => ?_) (fun h => ?_))
    · have ec : IntKind.u8.wrap code = ((UInt8.ofNat code.toNat).toNat : Int) := by
        have := byte_of code.toNat
        rwa [show ((code.toNat : Nat) : Int) = code by omega] at this
      rw [ec]
      refine xnew fun b3 => ?_
      refine xapp1 (UInt8.ofNat code.toNat) (hb := by simp; omega) (h := fun s1 => ?_)
      refine xret ?_
      unfold rowJ
      rw [← hpre, if_neg (show ¬ code < 0 by omega), if_neg (show ¬ code < 0 by omega)]
    · refine xret ?_
      unfold rowJ
      rw [← hpre, if_pos (show code < 0 by omega), if_pos (show code < 0 by omega), List.append_nil]

theorem rlay_spec (d q : Option Addr) (m : DM) (L : JL) (dead : Bool) (p : Sl) (xs : List UInt8) (hm : xs.length ≤ 1024) : Ct Pr F_ref25_Journal_lay [.pointer q, p.v] .one [.int .i64] [RefJ d q ⟨dead, L⟩, RefDev d m] (RAr U8 p xs)
    (fun t Bs => t.1 = (layJ m xs).2 ∧ Bs = [RefJ d q ⟨decide ((layJ m xs).2 = 10), L⟩, RefDev d (layJ m xs).1]) := by
  refine spec1 c_ref25_Journal_lay fun B hr => ?_
  have fb : Fro B p U8 xs := ⟨hr⟩
  unfold ref25_Journal_lay
  refine xcl (rPut13_spec p xs hm) rdb ?_
  rintro ⟨s, r, _⟩ _ ⟨_, rfl⟩
  refine app1 (ca2 ?_)
  refine xrj 1 fun hi b0 sb hq => ?_
  subst hq
  refine xnil (xget (h := ?_))
  refine xcl (rAppend_spec d m cmdN s (frameN xs)) rdb ?_
  rintro ⟨r1, _⟩ _ ⟨h1, rfl⟩
  simp only at h1
  subst h1
  refine app1 (ca1 ?_)
  refine xjoin1 (fun e As' => e = (layJ m xs).2 ∧ As' = [RefDev d (layJ m xs).1, Blk b0 (rjCells d sb dead), Ar ENT sb (L.map entOf)]) ?_ ?_
  · intro J hJ
    refine xif (fun h => ?_) (fun h => ?_)
    · have h : (appendM m cmdN (frameN xs)).2 = 0 := by simpa using h
      have e : layJ m xs = syncM (appendM m cmdN (frameN xs)).1 cmdN := by unfold layJ; rw [if_pos h]
      refine xnil (xget (h := ?_))
      refine xcl (rSync_spec d (appendM m cmdN (frameN xs)).1 cmdN) rdb ?_
      rintro ⟨r2, _⟩ _ ⟨h2, rfl⟩
      simp only at h2
      subst h2
      refine app1 (ca1 ?_)
      rw [← e]
      exact xuse [RefDev d (layJ m xs).1, Blk b0 (rjCells d sb dead), Ar ENT sb (L.map entOf)] (hJ _ _ ⟨rfl, rfl⟩)
    · have h : ¬ (appendM m cmdN (frameN xs)).2 = 0 := by simpa using h
      have e : layJ m xs = appendM m cmdN (frameN xs) := by unfold layJ; rw [if_neg h]
      rw [← e]
      exact xuse [RefDev d (layJ m xs).1, Blk b0 (rjCells d sb dead), Ar ENT sb (L.map entOf)] (hJ _ _ ⟨rfl, rfl⟩)
  · rintro _ _ ⟨rfl, rfl⟩
    refine xnil (xset (h := ?_))
    rw [show ((layJ m xs).2 == 10) = decide ((layJ m xs).2 = 10) from rfl]
    exact xrj_back d b0 sb (decide ((layJ m xs).2 = 10)) hi (xret ⟨rfl, rfl⟩)

theorem ent_new (id : Int) : entOf (id, -1) = (id, false, 0) := rfl
theorem ent_end (id code : Int) (h : 0 ≤ code) : entOf (id, code) = (id, true, code) := by
  unfold entOf
  rw [if_neg (by simp only; omega), decide_eq_true (by simp only; omega)]
theorem ent_ended (p : Int × Int) : (entOf p).2.1 = decide (p.2 ≥ 0) := rfl

theorem xset3 {s : Sl} {L : JL} {j : Nat} {id v code : Int} {G : List HP} {K : WP} (hj : L[j]? = some (id, v)) (hc : 0 ≤ code) (h : Ent B (Ar ENT s ((L.set j (id, code)).map entOf) :: G) K) :
    Ent B (Ar ENT s (L.map entOf) :: G) (XSet (s.at 3 j) (.int .i64 id) <| XSet ((s.at 3 j).add 1) (.bool true) <| XSet ((s.at 3 j).add 2) (.int .i64 code) <| K) := by
  have h0 : (L.map entOf)[j]? = some (entOf (id, v)) := by rw [List.getElem?_map, hj]; rfl
  have hjl : j < (L.map entOf).length := (List.getElem?_eq_some_iff.1 h0).1
  refine xsetE (x := entOf (id, v)) (entOf (id, v)) h0 (hv := rfl) (h := ?_)
  have h1 : ((L.map entOf).set j (entOf (id, v)))[j]? = some (entOf (id, v)) := List.getElem?_set_self hjl
  refine xsetEj (x := entOf (id, v)) (id, true, (entOf (id, v)).2.2) h1 (hj := by decide) (hv := rfl) (h := ?_)
  have h2 : (((L.map entOf).set j (entOf (id, v))).set j (id, true, (entOf (id, v)).2.2))[j]? = some (id, true, (entOf (id, v)).2.2) := List.getElem?_set_self (by simpa using hjl)
  refine xsetEj (x := (id, true, (entOf (id, v)).2.2)) (id, true, code) h2 (hj := by decide) (hv := rfl) (h := ?_)
  rw [List.map_set, ent_end id code hc] at h
  simpa using h

def rtakePost (d q : Option Addr) (dead : Bool) (L : JL) (xs : List UInt8) : Tup [.bool] → List HP → Prop := fun t Bs =>
  (t.1 = true ∧ ∃ L', takeJ L xs = some L' ∧ Bs = [RefJ d q ⟨dead, L'⟩]) ∨ (t.1 = false ∧ takeJ L xs = none ∧ Bs = [])

theorem rtake_spec (d q : Option Addr) (dead : Bool) (L : JL) (b : Sl) (xs : List UInt8) (hm : xs.length ≤ 1000000) :
    Ct Pr F_ref25_Journal_take [.pointer q, b.v] .one [.bool] [RefJ d q ⟨dead, L⟩] (RAr U8 b xs) (rtakePost d q dead L xs) := by
  refine spec1 c_ref25_Journal_take fun B hr => ?_
  have fb : Fro B b U8 xs := ⟨hr⟩
  have hb := hr.1
  unfold ref25_Journal_take
  have no : takeJ L xs = none → ∀ {As : List HP}, Ent B As (Ret B (rtakePost d q dead L xs) (false, ())) := fun h _ => xkeep (l := []) (xret (.inr ⟨rfl, h, rfl⟩))
  refine xjoin (xif_dec (fun h => xjoin (xift rfl (xjoin (xift rfl (xift rfl (no (by unfold takeJ; rw [if_pos (by omega)]))))))) (fun h9 => ?_))
  have hgo : takeJ L xs = if !(okId (idOf xs)) then none else if xs.getD 0 0 = 1 ∧ xs.length = 9 ∧ lookM L (idOf xs) = none ∧ L.length < 1024 then some (L ++ [((idOf xs : Int), -1)])
      else if xs.getD 0 0 = 2 ∧ xs.length = 10 ∧ (lookM L (idOf xs)).getD 0 < 0 then some (setM L (idOf xs) ((xs.getD 9 0).toNat : Int)) else none := by
    unfold takeJ; rw [if_neg (by omega)]
  have x0 := List.getElem?_eq_getElem (l := xs) (i := 0) (by omega)
  have g0 := getD_of x0
  have hy0 := (xs[0]'(by omega)).toNat_lt
  generalize xs[0] = y0 at x0 g0 hy0
  rw [g0] at hgo
  have e1 : y0 = 1 ↔ y0.toNat = 1 := ⟨fun h => by rw [h]; rfl, fun h => UInt8.toNat_inj.1 h⟩
  have e2 : y0 = 2 ↔ y0.toNat = 2 := ⟨fun h => by rw [h]; rfl, fun h => UInt8.toNat_inj.1 h⟩
  have bad : ¬ (xs.length = 8 + y0.toNat ∧ 1 ≤ y0.toNat ∧ y0.toNat ≤ 2) → takeJ L xs = none := fun h => by
    rw [hgo]
    split
    · rfl
    rw [if_neg fun h1 => h (by have := e1.1 h1.1; omega), if_neg fun h2 => h (by have := e2.1 h2.1; omega)]
  refine xidxn (k := 0) (h1 := by omega) (h := fun _ _ => ?_)
  refine xgetE x0 (h := ?_)
  rw [wrap_id ((y0.toNat : Nat) : Int) (by omega) (by omega), wrap_id (8 + ((y0.toNat : Nat) : Int)) (by omega) (by omega)]
  refine xjoin (xif (fun h => ?_) (fun h => ?_))
  · exact xjoin (xift rfl (xift rfl (no (bad (by simp at h; omega)))))
  have hlen : xs.length = 8 + y0.toNat := by simp at h; omega
  refine xidxn (k := 0) (h1 := by omega) (h := fun _ _ => ?_)
  refine xgetE x0 (h := ?_)
  refine xjoin (xif_dec (fun h => ?_) (fun h1 => ?_))
  · exact xift rfl (no (bad (by omega)))
  refine xidxn (k := 0) (h1 := by omega) (h := fun _ _ => ?_)
  refine xgetE x0 (h := ?_)
  refine xif_dec (fun h => no (bad (by omega))) (fun h2 => ?_)
  have hq8 := cut8_len (xs := xs) (a := 1) (by omega)
  have hg8 := fun k (hk : k < 8) => cut8_get (xs := xs) (a := 1) hk
  refine xloop2 (fun (n : Nat) (v : Int) (i : Int) As => ∃ k : Nat, i = 1 + (k : Int) ∧ v = ((beV ((cut8 xs 1).take k) : Nat) : Int) ∧ n = 8 - k ∧ k ≤ 8 ∧ As = [RefJ d q ⟨dead, L⟩]) 8 ⟨0, rfl, rfl, rfl, by omega, rfl⟩ ?_
  rintro n _ _ _ K ⟨k, rfl, rfl, rfl, hk, rfl⟩ hK
  refine xif_dec (fun h => ?_) (fun h => ?_)
  · have hk8 : k < 8 := by omega
    have hx := List.getElem?_eq_getElem (l := cut8 xs 1) (i := k) (by omega)
    have hx2 := (hg8 k hk8).symm.trans hx
    have hsm := beV_small hq8 hk8
    have hst := beV_step hx
    have hy := u8_lt (cut8 xs 1)[k]
    generalize (cut8 xs 1)[k] = y at *
    rw [show (1 : Int) + (k : Int) = ((1 + k : Nat) : Int) by omega]
    refine xasrt (by decide) ?_
    refine xidxn (h1 := by omega) (h := fun _ _ => ?_)
    refine xgetE hx2 (h := ?_)
    rw [show (2 : Int) ^ (min (Int.toNat 8) 64) = 256 by decide, show ((beV ((cut8 xs 1).take k) : Nat) : Int) * 256 = ((beV ((cut8 xs 1).take k) * 256 : Nat) : Int) by omega, wrap_u64 _ (by omega), wrap_u64 _ (by omega), show ((beV ((cut8 xs 1).take k) * 256 : Nat) : Int) + (y.toNat : Int) = ((beV ((cut8 xs 1).take k) * 256 + y.toNat : Nat) : Int) by omega, wrap_u64 _ (by omega), wrap_succ (1 + k) (by omega)]
    exact hK (8 - (k + 1)) _ _ _ (by omega) ⟨k + 1, by omega, by rw [hst], rfl, by omega, rfl⟩
  have hk8 : k = 8 := by omega
  subst hk8
  rw [List.take_of_length_le (by omega), show beV (cut8 xs 1) = idOf xs from rfl, okId_iff]
  refine xif (fun h => no ?_) (fun h => ?_)
  · rw [hgo, if_pos h]
  have hok : okId (idOf xs) = true := by simpa using h
  have hok' : 1 ≤ ((idOf xs : Nat) : Int) ∧ ((idOf xs : Nat) : Int) ≤ 1099511627776 := by simpa [okId] using hok
  have hw : IntKind.i64.wrap ((idOf xs : Nat) : Int) = ((idOf xs : Nat) : Int) := wrap_id _ (by omega) (by omega)
  rw [hw]
  rw [if_neg (by rw [hok]; simp)] at hgo
  generalize ((idOf xs : Nat) : Int) = id at *
  refine xrj 0 fun hi b0 s hq0 => ?_
  subst hq0
  have hll := hi.len
  refine xcl (rfind_raw b0 d s dead L id (by omega)) rdb ?_
  rintro ⟨r, _⟩ _ ⟨hf, rfl⟩
  simp only at hf
  refine app2 (ca1 ?_)
  refine xidxn (k := 0) (h1 := by omega) (h := fun _ _ => ?_)
  refine xgetE x0 (h := ?_)
  rw [show (((y0.toNat : Nat) : Int) == 1) = decide (y0 = 1) from u8_is y0 1 (by decide)]
  refine xif_dec (fun hA => ?_) (fun hA => ?_)
  · subst hA
    have hl9 : xs.length = 9 := hlen
    refine xnil (xget (h := ?_))
    refine xnew fun b1 => ?_
    refine xapp1 (E := ENT) (entOf (id, -1)) (hb := by simp; omega) (h := fun s1 => ?_)
    refine xnil (xset (h := ?_))
    refine xlen s1 fun hsl _ => ?_
    simp only [List.length_append, List.length_map, List.length_singleton] at hsl
    rcases hf with ⟨rfl, hn⟩ | ⟨j, v, rfl, _, hv, _⟩
    · refine xjoin (xift rfl (xnil (xget (h := ?_))))
      by_cases hlt : L.length < 1024
      · rw [if_pos ⟨rfl, hl9, hn, hlt⟩] at hgo
        rw [decide_eq_true (by omega)]
        rw [show L.map entOf ++ [entOf (id, -1)] = (L ++ [(id, -1)]).map entOf by simp]
        exact xrj_back d b0 s1 dead (jinv_begin hi hn hok hlt) (xret (.inl ⟨rfl, _, hgo, rfl⟩))
      · rw [decide_eq_false (by omega)]
        exact no (by rw [hgo, if_neg (fun h => hlt h.2.2.2), if_neg (fun h => absurd h.1 (by decide))])
    · refine xjoin (xiff (decide_eq_false (by omega)) ?_)
      exact no (by rw [hgo, if_neg (fun h => by rw [hv] at h; cases h.2.2.1), if_neg (fun h => absurd h.1 (by decide))])
  · rw [if_neg (fun h => hA h.1)] at hgo
    have hy2 : y0 = 2 := e2.2 (by have := mt e1.2 hA; omega)
    have hl10 : xs.length = 10 := by rw [hlen, hy2]; rfl
    rcases hf with ⟨rfl, hn⟩ | ⟨j, v, rfl, hj, hv, hset⟩
    · refine xjoin (xift rfl (xift rfl (no ?_)))
      rw [hgo, if_neg (fun h => by rw [hn] at h; exact absurd h.2.2 (by decide))]
    · refine xjoin (xiff (decide_eq_false (by omega)) (xnil (xget (h := ?_))))
      have hx : (L.map entOf)[j]? = some (entOf (id, v)) := by rw [List.getElem?_map, hj]; rfl
      have hjl := (List.getElem?_eq_some_iff.1 hx).1
      refine xidxn (h1 := hjl) (h := fun _ _ => ?_)
      refine xgetEj hx (h := ?_)
      rw [ent_ended]
      refine xif_dec (fun hge => no ?_) (fun hge => ?_)
      · have hge : v ≥ 0 := hge
        rw [hgo, if_neg (fun h => by rw [hv] at h; have : v < 0 := h.2.2; omega)]
      · have hge : v < 0 := by have : ¬ v ≥ 0 := hge; omega
        rw [if_pos ⟨hy2, hl10, by rw [hv]; exact hge⟩] at hgo
        have x9 := List.getElem?_eq_getElem (l := xs) (i := 9) (by omega)
        rw [getD_of x9] at hgo
        have hy9 := (xs[9]'(by omega)).toNat_lt
        generalize xs[9] = y9 at *
        refine xdraw (xnil (xget (h := ?_)))
        refine xidxn (k := 9) (h1 := by omega) (h := fun _ _ => ?_)
        refine xgetE x9 (h := ?_)
        refine xidxn (h1 := hjl) (h := fun _ _ => ?_)
        rw [wrap_id ((y9.toNat : Nat) : Int) (by omega) (by omega)]
        refine xfront 1 ?_
        refine xset3 hj (by omega) ?_
        rw [← hset]
        exact xrj_back d b0 s dead (jinv_end (code := ((y9.toNat : Nat) : Int)) hi hv ⟨by omega, by omega⟩) (xret (.inl ⟨rfl, _, hgo, rfl⟩))

theorem rBegin_spec (d q : Option Addr) (m : DM) (J : JM) (id : Int) : Ct Pr F_ref25_Journal_Begin [.pointer q, .int .i64 id] .one [.int .i64] [RefJ d q J, RefDev d m] emp
    (fun t Bs => t.1 = (beginJ m J id).2.2 ∧ Bs = [RefJ d q (beginJ m J id).2.1, RefDev d (beginJ m J id).1]) := by
  refine spec1 c_ref25_Journal_Begin fun B _ => ?_
  unfold ref25_Journal_Begin
  obtain ⟨dead, L⟩ := J
  refine xrj 0 fun hi b0 s hq => ?_
  subst hq
  have hll := hi.len
  refine xnil (xget (h := ?_))
  refine xif (fun hd => ?_) (fun hd => ?_)
  · have hd : dead = true := hd
    have e : beginJ m ⟨dead, L⟩ id = (m, ⟨dead, L⟩, 10) := by unfold beginJ; rw [if_pos hd]
    rw [e]
    exact xrj_back d b0 s dead hi (xret ⟨rfl, rfl⟩)
  have hd : dead = false := by simpa using hd
  subst hd
  rw [okId_iff]
  refine xif (fun ho => ?_) (fun ho => ?_)
  · have e : beginJ m ⟨false, L⟩ id = (m, ⟨false, L⟩, 3) := by unfold beginJ; rw [if_neg (by simp), if_pos ho]
    rw [e]
    exact xrj_back d b0 s false hi (xret ⟨rfl, rfl⟩)
  have ho' : okId id = true := by simpa using ho
  refine xcl (rfind_raw b0 d s false L id (by omega)) rdb ?_
  rintro ⟨r, _⟩ _ ⟨hf, rfl⟩
  simp only at hf
  refine app2 (ca1 ?_)
  rcases hf with ⟨rfl, hn⟩ | ⟨j, v, rfl, _, hv, _⟩
  case inr =>
    refine xift (decide_eq_true (by omega)) ?_
    have e : beginJ m ⟨false, L⟩ id = (m, ⟨false, L⟩, 7) := by unfold beginJ; rw [if_neg (by simp), if_neg (by simpa using ho), if_pos (by simp only [hv]; rfl)]
    rw [e]
    exact xrj_back d b0 s false hi (xret ⟨rfl, rfl⟩)
  refine xiff rfl (xnil (xget (h := ?_)))
  refine xlen s fun hsl _ => ?_
  simp only [List.length_map] at hsl
  have hk : (lookM L id).isSome = false := by rw [hn]; rfl
  refine xif_dec (fun hl => ?_) (fun hl => ?_)
  · have e : beginJ m ⟨false, L⟩ id = (m, ⟨false, L⟩, 34) := by unfold beginJ; rw [if_neg (by simp), if_neg (by simpa using ho), if_neg (by simpa using hk), if_pos (by simp only; omega)]
    rw [e]
    exact xrj_back d b0 s false hi (xret ⟨rfl, rfl⟩)
  have hl : L.length < 1024 := by omega
  have e : beginJ m ⟨false, L⟩ id = laidJ m ⟨false, L⟩ (rowJ id (-1)) (L ++ [(id, -1)]) := by unfold beginJ; rw [if_neg (by simp), if_neg (by simpa using ho), if_neg (by simpa using hk), if_neg (by simp only; omega)]
  rw [e]
  refine xcl (rRow_spec id (-1) ho' ⟨by decide, by decide⟩) rdb ?_
  rintro ⟨s1, _⟩ _ rfl
  refine app1 (ca1 ?_)
  refine xrj_back d b0 s false hi ?_
  refine xcl (rlay_spec d (some ⟨b0, 0, none⟩) m L false s1 (rowJ id (-1)) (by rw [rowJ_len]; decide)) rdb ?_
  rintro ⟨r1, _⟩ _ ⟨h1, rfl⟩
  simp only at h1
  subst h1
  refine app2 (ca1 ?_)
  refine xjoin (xif (fun h => ?_) (fun h => ?_))
  · have h : (layJ m (rowJ id (-1))).2 = 0 := by simpa using h
    unfold laidJ
    rw [if_pos h, h]
    refine xrj 0 fun hi b1 s hq => ?_
    cases hq
    refine xnil (xget (h := xnew fun b2 => ?_))
    refine xapp1 (E := ENT) (entOf (id, -1)) (hb := by simp; omega) (h := fun s3 => ?_)
    refine xnil (xset (h := ?_))
    rw [show L.map entOf ++ [entOf (id, -1)] = (L ++ [(id, -1)]).map entOf by simp]
    refine xrj_back d b0 s3 (decide ((0 : Int) = 10)) (jinv_begin hi hn ho' hl) ?_
    exact xuse [RefJ d (some ⟨b0, 0, none⟩) ⟨decide ((0 : Int) = 10), L ++ [(id, -1)]⟩, RefDev d (layJ m (rowJ id (-1))).1] (xret ⟨rfl, rfl⟩)
  · have h : ¬ (layJ m (rowJ id (-1))).2 = 0 := by simpa using h
    unfold laidJ
    rw [if_neg h]
    exact xuse [RefJ d (some ⟨b0, 0, none⟩) ⟨decide ((layJ m (rowJ id (-1))).2 = 10), L⟩, RefDev d (layJ m (rowJ id (-1))).1] (xret ⟨rfl, rfl⟩)

theorem rEnd_spec (d q : Option Addr) (m : DM) (J : JM) (id code : Int) : Ct Pr F_ref25_Journal_End [.pointer q, .int .i64 id, .int .i64 code] .one [.int .i64] [RefJ d q J, RefDev d m] emp
    (fun t Bs => t.1 = (endJ m J id code).2.2 ∧ Bs = [RefJ d q (endJ m J id code).2.1, RefDev d (endJ m J id code).1]) := by
  refine spec1 c_ref25_Journal_End fun B _ => ?_
  unfold ref25_Journal_End
  obtain ⟨dead, L⟩ := J
  refine xrj 0 fun hi b0 s hq => ?_
  subst hq
  have hll := hi.len
  refine xnil (xget (h := ?_))
  refine xif (fun hd => ?_) (fun hd => ?_)
  · have hd : dead = true := hd
    have e : endJ m ⟨dead, L⟩ id code = (m, ⟨dead, L⟩, 10) := by unfold endJ; rw [if_pos hd]
    rw [e]
    exact xrj_back d b0 s dead hi (xret ⟨rfl, rfl⟩)
  have hd : dead = false := by simpa using hd
  subst hd
  refine xif (fun ho => ?_) (fun ho => ?_)
  · have e : endJ m ⟨false, L⟩ id code = (m, ⟨false, L⟩, 3) := by unfold endJ; rw [if_neg (by simp), if_pos (by simpa using ho)]
    rw [e]
    exact xrj_back d b0 s false hi (xret ⟨rfl, rfl⟩)
  have ho : ¬ (code < 0 ∨ code > 255) := by simpa using ho
  refine xcl (rfind_raw b0 d s false L id (by omega)) rdb ?_
  rintro ⟨r, _⟩ _ ⟨hf, rfl⟩
  simp only at hf
  refine app2 (ca1 ?_)
  rcases hf with ⟨rfl, hn⟩ | ⟨j, c, rfl, hj, hc, hset⟩
  · refine xift rfl ?_
    have e : endJ m ⟨false, L⟩ id code = (m, ⟨false, L⟩, 6) := by unfold endJ; rw [if_neg (by simp), if_neg ho]; simp only [hn]
    rw [e]
    exact xrj_back d b0 s false hi (xret ⟨rfl, rfl⟩)
  have hid : okId id = true := hi.ids _ (lookM_mem hc)
  refine xiff (decide_eq_false (by omega)) (xnil (xget (h := ?_)))
  have hx : (L.map entOf)[j]? = some (entOf (id, c)) := by rw [List.getElem?_map, hj]; rfl
  have hjl := (List.getElem?_eq_some_iff.1 hx).1
  refine xidxn (h1 := hjl) (h := fun _ _ => ?_)
  refine xgetEj hx (h := ?_)
  rw [ent_ended]
  refine xif_dec (fun hl => ?_) (fun hl => ?_)
  · have hl : c ≥ 0 := hl
    have e : endJ m ⟨false, L⟩ id code = (m, ⟨false, L⟩, 7) := by unfold endJ; rw [if_neg (by simp), if_neg ho]; simp only [hc]; rw [if_pos hl]
    rw [e]
    exact xrj_back d b0 s false hi (xret ⟨rfl, rfl⟩)
  have hl : ¬ c ≥ 0 := hl
  have e : endJ m ⟨false, L⟩ id code = laidJ m ⟨false, L⟩ (rowJ id code) (setM L id code) := by unfold endJ; rw [if_neg (by simp), if_neg ho]; simp only [hc]; rw [if_neg hl]
  rw [e]
  refine xcl (rRow_spec id code hid ⟨by omega, by omega⟩) rdb ?_
  rintro ⟨s1, _⟩ _ rfl
  refine app1 (ca1 ?_)
  refine xrj_back d b0 s false hi ?_
  refine xcl (rlay_spec d (some ⟨b0, 0, none⟩) m L false s1 (rowJ id code) (by rw [rowJ_len]; split <;> decide)) rdb ?_
  rintro ⟨r1, _⟩ _ ⟨h1, rfl⟩
  simp only at h1
  subst h1
  refine app2 (ca1 ?_)
  refine xjoin (xif (fun h => ?_) (fun h => ?_))
  · have h : (layJ m (rowJ id code)).2 = 0 := by simpa using h
    unfold laidJ
    rw [if_pos h, h]
    refine xrj 0 fun hi b1 s hq => ?_
    cases hq
    refine xnil (xget (h := ?_))
    refine xidxn (h1 := hjl) (h := fun _ _ => ?_)
    refine xfront 1 ?_
    refine xset3 hj (by omega) ?_
    rw [← hset]
    refine xrj_back d b0 s (decide ((0 : Int) = 10)) (jinv_end (code := code) hi hc ⟨by omega, by omega⟩) ?_
    exact xuse [RefJ d (some ⟨b0, 0, none⟩) ⟨decide ((0 : Int) = 10), setM L id code⟩, RefDev d (layJ m (rowJ id code)).1] (xret ⟨rfl, rfl⟩)
  · have h : ¬ (layJ m (rowJ id code)).2 = 0 := by simpa using h
    unfold laidJ
    rw [if_neg h]
    exact xuse [RefJ d (some ⟨b0, 0, none⟩) ⟨decide ((layJ m (rowJ id code)).2 = 10), L⟩, RefDev d (layJ m (rowJ id code)).1] (xret ⟨rfl, rfl⟩)

theorem rState_spec (d q : Option Addr) (J : JM) (id : Int) : Ct Pr F_ref25_Journal_State [.pointer q, .int .i64 id] (.tup [none, none]) [.int .i64, .int .i64] [RefJ d q J] emp
    (fun t Bs => t.1 = (stateJ J.L id).1 ∧ t.2.1 = (stateJ J.L id).2 ∧ Bs = [RefJ d q J]) := by
  refine spec2 c_ref25_Journal_State fun B _ => ?_
  unfold ref25_Journal_State
  obtain ⟨dead, L⟩ := J
  refine xrj 0 fun hi b0 s hq => ?_
  subst hq
  have hll := hi.len
  refine xcl (rfind_raw b0 d s dead L id (by omega)) rdb ?_
  rintro ⟨r, _⟩ _ ⟨hf, rfl⟩
  simp only at hf
  refine app2 (ca1 ?_)
  unfold stateJ
  rcases hf with ⟨rfl, hn⟩ | ⟨j, c, rfl, hj, hc, hset⟩
  · simp only [hn]
    exact xift rfl (xrj_back d b0 s dead hi (xret ⟨rfl, rfl, rfl⟩))
  · simp only [hc]
    refine xiff (decide_eq_false (by omega)) (xnil (xget (h := ?_)))
    have hx : (L.map entOf)[j]? = some (entOf (id, c)) := by rw [List.getElem?_map, hj]; rfl
    have hjl := (List.getElem?_eq_some_iff.1 hx).1
    refine xidxn (h1 := hjl) (h := fun _ _ => ?_)
    refine xgetEj hx (h := ?_)
    rw [ent_ended]
    refine xif (fun h => ?_) (fun h => ?_)
    · have h : c < 0 := by simpa using h
      simp only [h, if_true]
      exact xrj_back d b0 s dead hi (xret ⟨rfl, rfl, rfl⟩)
    · have h : ¬ c < 0 := by simpa using h
      simp only [h, if_false]
      refine xdraw (xnil (xget (h := ?_)))
      refine xidxn (h1 := hjl) (h := fun _ _ => ?_)
      refine xgetEj hx (h := ?_)
      refine xrj_back d b0 s dead hi (xret ⟨rfl, ?_, rfl⟩)
      show (if c < 0 then 0 else c) = c
      rw [if_neg h]

theorem rLeft_spec (d q : Option Addr) (J : JM) : Ct Pr F_ref25_Journal_Left [.pointer q] .one [.slice] [RefJ d q J] emp
    (fun t Bs => Bs = [RefJ d q J, Ar I64 t.1 (leftJ J.L)]) := by
  refine spec1 c_ref25_Journal_Left fun B _ => ?_
  unfold ref25_Journal_Left
  obtain ⟨dead, L⟩ := J
  refine xrj 0 fun hi b0 s hq => ?_
  subst hq
  have hll := hi.len
  refine xlen s fun hsl _ => ?_
  simp only [List.length_map] at hsl
  refine xnone I64 ?_
  refine xloop2 (fun n l i As => ∃ k : Nat, i = (k : Int) ∧ n = L.length - k ∧ k ≤ L.length ∧ As = [Ar I64 l (leftJ (L.take k)), Blk b0 (rjCells d s dead), Ar ENT s (L.map entOf)]) L.length ⟨0, rfl, rfl, by omega, rfl⟩ ?_
  rintro n l _ _ K ⟨k, rfl, rfl, hk, rfl⟩ hK
  refine xnil (xget (h := ?_))
  refine xif_dec (fun h => ?_) (fun h => ?_)
  · have hp := List.getElem?_eq_getElem (l := L) (i := k) (by omega)
    have htk : L.take (k + 1) = L.take k ++ [L[k]'(by omega)] := by rw [List.take_add_one, hp]; rfl
    generalize L[k]'(by omega) = p at hp htk
    have hx : (L.map entOf)[k]? = some (entOf p) := by rw [List.getElem?_map, hp]; rfl
    have hfl : (leftJ (L.take k)).length ≤ k := by
      unfold leftJ
      have := List.length_filter_le (fun p : Int × Int => decide (p.2 < 0)) (L.take k)
      simp at this ⊢; omega
    refine xnil (xget (h := ?_))
    refine xidxn (h1 := by simp; omega) (h := fun _ _ => ?_)
    refine xgetEj hx (h := ?_)
    rw [ent_ended]
    refine xjoin (xif (fun hneg => ?_) (fun hneg => ?_))
    · have hneg : p.2 < 0 := by simpa using hneg
      refine xnil (xget (h := ?_))
      refine xidxn (h1 := by simp; omega) (h := fun _ _ => ?_)
      refine xgetE hx (h := ?_)
      refine xnew fun b => ?_
      refine xapp1 (E := I64) p.1 (hb := by omega) (h := fun s1 => ?_)
      rw [wrap_succ k (by omega)]
      refine hK (L.length - (k + 1)) _ _ _ (by omega) ⟨k + 1, rfl, rfl, by omega, ?_⟩
      rw [htk]
      unfold leftJ
      rw [List.filter_append, List.filter_cons_of_pos (by simpa using hneg), List.map_append]; rfl
    · have hneg : ¬ p.2 < 0 := by simpa using hneg
      rw [wrap_succ k (by omega)]
      refine hK (L.length - (k + 1)) _ _ _ (by omega) ⟨k + 1, rfl, rfl, by omega, ?_⟩
      rw [htk]
      unfold leftJ
      rw [List.filter_append, List.filter_cons_of_neg (by simpa using hneg)]; simp
  · have hkl : k = L.length := by omega
    rw [List.take_of_length_le (by omega)]
    exact xrj_back d b0 s dead hi (xret rfl)

def ropenPost (p : Option Addr) (m : DM) : Tup [.ptr, .int .i64] → List HP → Prop := fun t Bs =>
  (∃ L, (openJ m).2.2 = some L ∧ t.2.1 = 0 ∧ Bs = [RefDev p (openJ m).1, RefJ p t.1 ⟨false, L⟩]) ∨ ((openJ m).2.2 = none ∧ t.1 = none ∧ t.2.1 = (openJ m).2.1 ∧ Bs = [RefDev p (openJ m).1])

end Go.Cx

namespace Go.Cx
open Go Go.Cf
set_option linter.unusedVariables false
variable {B : Base} {As : List HP}

theorem rdev_some {p : Option Addr} {m : DM} {g : Frag} (h : RefDev p m g) : ∃ b, p = some ⟨b, 0, none⟩ := by
  obtain ⟨_, b, _, _, h, _⟩ := h
  exact ⟨b, h⟩

theorem rOpen_spec (p : Option Addr) (m : DM) : Ct Pr F_ref25_Open [.pointer p] (.tup [none, none]) [.ptr, .int .i64] [RefDev p m] emp (ropenPost p m) := by
  refine spec2 c_ref25_Open fun B _ => ?_
  unfold ref25_Open
  refine xfact 0 (fun g hg => (⟨hg.1, rdev_some hg⟩ : DInv m ∧ ∃ b, p = some ⟨b, 0, none⟩)) fun hi => ?_
  obtain ⟨hi, bd, rfl⟩ := hi
  have hbl := body_le hi cmdN
  refine xcl (rDown_spec (some ⟨bd, 0, none⟩) m) rdb ?_
  rintro ⟨c, _⟩ _ ⟨hc, rfl⟩
  simp only at hc
  subst hc
  refine app1 (ca1 (xif (fun hd => ?_) (fun hd => ?_)))
  · have e := open_down hd
    exact xret (.inr ⟨by rw [e], rfl, by rw [e], by rw [e]⟩)
  refine xnew fun b => ?_
  refine xnone ENT ?_
  refine xfold [Blk b [.pointer (some ⟨bd, 0, none⟩), .slice none 0 0, .bool false], Ar ENT ⟨none, 0, 0⟩ []] (RefJ (some ⟨bd, 0, none⟩) (some ⟨b, 0, none⟩) ⟨false, []⟩) (fun g hg => ⟨jinv_nil, b, ⟨none, 0, 0⟩, rfl, hg⟩) ?_
  refine xcl (rRead_spec (some ⟨bd, 0, none⟩) m cmdN) rdb ?_
  rintro ⟨s, r, _⟩ _ ⟨hr, rfl⟩
  simp only at hr
  subst hr
  refine app2 (ca2 (xif (fun h2 => ?_) (fun h2 => ?_)))
  · have h2 : (readM m cmdN).2 ≠ 0 := by simpa using h2
    have e := open_none hd h2
    refine xuse [RefDev (some ⟨bd, 0, none⟩) m, RefJ (some ⟨bd, 0, none⟩) (some ⟨b, 0, none⟩) ⟨false, []⟩] (xret (.inl ⟨[], by rw [e], rfl, by rw [e]⟩))
  have h2 : (readM m cmdN).2 = 0 := by simpa using h2
  refine xlen s fun hsl hsc => ?_
  replace hsl : (readM m cmdN).1.length = s.n := hsl
  refine xcl (rScan_spec s (readM m cmdN).1 hbl hsc) rdb ?_
  rintro ⟨s1, r1, _⟩ _ ⟨h3, rs, rfl⟩
  simp only at h3
  subst h3
  refine app2 (ca2 ?_)
  have hbad := open_bad hd h2
  have hgo := fun {L} (h : takesJ [] (scanN (readM m cmdN).1).1 = some L) => open_go hd h2 h
  have hmax := (scan_used _ (readM m cmdN).1 (Nat.le_refl _)).2.1
  have hmax2 := (scan_used _ (readM m cmdN).1 (Nat.le_refl _)).2.2
  have hle := scan_len (readM m cmdN).1
  generalize hbs : (readM m cmdN).1 = bs at *
  generalize hrows : (scanN bs).1 = rows at *
  generalize (scanN bs).2 = u at *
  refine xlen s1 fun hrl _ => ?_
  refine xfact 1 (fun g hg => Each.length hg) fun hrr => ?_
  refine xuse [RefDev (some ⟨bd, 0, none⟩) m, RefJ (some ⟨bd, 0, none⟩) (some ⟨b, 0, none⟩) ⟨false, []⟩, Ar SL s1 rs, Each (Ar U8) rs rows] ?_
  refine xloop1 (fun n i As => ∃ (k : Nat) (L : JL), i = (k : Int) ∧ n = rows.length - k ∧ k ≤ rows.length ∧ takesJ [] (rows.take k) = some L ∧ As = [RefDev (some ⟨bd, 0, none⟩) m, RefJ (some ⟨bd, 0, none⟩) (some ⟨b, 0, none⟩) ⟨false, L⟩, Ar SL s1 rs, Each (Ar U8) rs rows]) rows.length ⟨0, [], rfl, rfl, by omega, rfl, ?_⟩ ?_
  · exact rfl
  rintro n _ _ K ⟨k, L, rfl, rfl, hk, htk, rfl⟩ hK
  refine xif_dec (fun h => ?_) (fun h => ?_)
  · have hx := List.getElem?_eq_getElem (l := rs) (i := k) (by omega)
    have hy := List.getElem?_eq_getElem (l := rows) (i := k) (by omega)
    generalize rs[k] = sl at hx
    generalize rows[k] = row at hy
    refine xidxn (h1 := by omega) (h := fun _ _ => ?_)
    refine xgetE hx (h := ?_)
    have hrow : row.length ≤ 1000000 := by have := hmax2 row (List.mem_of_getElem? hy); omega
    refine xcl (rtake_spec (some ⟨bd, 0, none⟩) (some ⟨b, 0, none⟩) false L sl row hrow) (rds_pick 2 (fun g hg => each_read (R := Ar U8) (S := fun sl row => RAr U8 sl row) (fun _ _ _ _ h s => h.mono s) (fun _ _ _ h => h.read) hg hx hy) (fun _ _ h s => h.mono s)) ?_
    rintro ⟨c, _⟩ _ (⟨hc, L', hL, rfl⟩ | ⟨hc, hL, rfl⟩)
    · obtain rfl : c = true := hc
      refine app1 (ca1 (xiff rfl ?_))
      rw [wrap_succ k (by omega)]
      exact xuse [RefDev (some ⟨bd, 0, none⟩) m, RefJ (some ⟨bd, 0, none⟩) (some ⟨b, 0, none⟩) ⟨false, L'⟩, Ar SL s1 rs, Each (Ar U8) rs rows] (hK (rows.length - (k + 1)) _ _ (by omega) ⟨k + 1, L', rfl, rfl, by omega, takes_step htk hy hL, rfl⟩)
    · obtain rfl : c = false := hc
      have e := hbad (takes_fail htk hy hL)
      exact app0 (ca1 (xift rfl (xuse [RefDev (some ⟨bd, 0, none⟩) m] (xret (.inr ⟨by rw [e], rfl, by rw [e], by rw [e]⟩)))))
  have hkl : k = rows.length := by omega
  subst hkl
  rw [List.take_of_length_le (Nat.le_refl _)] at htk
  have e := hgo htk
  refine xuse [RefDev (some ⟨bd, 0, none⟩) m, RefJ (some ⟨bd, 0, none⟩) (some ⟨b, 0, none⟩) ⟨false, L⟩] ?_
  have fin : ∀ m' : DM, (mendJ m u bs.length = syncM m' cmdN) → Ent B [RefDev (some ⟨bd, 0, none⟩) m', RefJ (some ⟨bd, 0, none⟩) (some ⟨b, 0, none⟩) ⟨false, L⟩] (XCall Pr F_ref12_Device_Sync [.pointer (some ⟨bd, 0, none⟩), .string cmdN] .one [.int .i64] fun r3 => XIf (r3 != 0) (Ret B (ropenPost (some ⟨bd, 0, none⟩) m) (none, r3, ())) (Ret B (ropenPost (some ⟨bd, 0, none⟩) m) (some ⟨b, 0, none⟩, 0, ()))) := by
    intro m' hm
    rw [hm] at e
    refine xcl (rSync_spec (some ⟨bd, 0, none⟩) m' cmdN) rdb ?_
    rintro ⟨r3, _⟩ _ ⟨h3, rfl⟩
    simp only at h3
    subst h3
    refine app1 (ca1 (xif (fun h => ?_) (fun h => ?_)))
    · have h : ¬ (syncM m' cmdN).2 = 0 := by simpa using h
      rw [if_neg h] at e
      exact xuse [RefDev (some ⟨bd, 0, none⟩) (syncM m' cmdN).1] (xret (.inr ⟨by rw [e], rfl, by rw [e], by rw [e]⟩))
    · have h : (syncM m' cmdN).2 = 0 := by simpa using h
      rw [if_pos h] at e
      exact xret (.inl ⟨L, by rw [e], rfl, by rw [e]⟩)
  refine xjoin (xif_dec (fun hlt => ?_) (fun hlt => ?_))
  · have hlt : u < bs.length := by omega
    refine xcl (rTruncate_spec (some ⟨bd, 0, none⟩) m cmdN (u : Int)) rdb ?_
    rintro ⟨r2, _⟩ _ ⟨h2, rfl⟩
    simp only at h2
    subst h2
    refine app1 (ca1 (xif (fun h => ?_) (fun h => ?_)))
    · have h : (truncM m cmdN u).2 ≠ 0 := by simpa using h
      have em : mendJ m u bs.length = truncM m cmdN u := by unfold mendJ; rw [if_pos hlt, if_pos h]
      rw [em, if_neg h] at e
      exact xuse [RefDev (some ⟨bd, 0, none⟩) (truncM m cmdN u).1] (xret (.inr ⟨by rw [e], rfl, by rw [e], by rw [e]⟩))
    · have h : ¬ (truncM m cmdN u).2 ≠ 0 := by simpa using h
      exact fin _ (by unfold mendJ; rw [if_pos hlt, if_neg h])
  · exact fin _ (by unfold mendJ; rw [if_neg (by omega)])


end Go.Cx
