/-
  The document's journal.
-/
import Derived.Test.YthnfnfhcgpnkpaaOD
namespace Go.Cx
open Go Go.Cf
set_option linter.unusedVariables false
variable {B : Base} {As : List HP}

abbrev CE3 := Int × Bool × Int
def ENT : Enc CE3 := ⟨fun x => [.int .i64 x.1, .bool x.2.1, .int .i64 x.2.2], 3, fun _ => rfl, fun x v h => by simp at h; rcases h with rfl | rfl | rfl <;> rfl, by decide, (0, false, 0)⟩
def entOf (p : Int × Int) : CE3 := (p.1, decide (p.2 ≥ 0), if p.2 < 0 then 0 else p.2)
abbrev rjCells (d : Option Addr) (s : Sl) (dead : Bool) : List Value := [.pointer d, s.v, .bool dead]
def RefJ (d q : Option Addr) (J : JM) : HP := fun h => JInv J.L ∧ ∃ b s, q = some ⟨b, 0, none⟩ ∧ star [Blk b (rjCells d s J.dead), Ar ENT s (J.L.map entOf)] h

theorem xrj (i : Nat) {d q : Option Addr} {dead : Bool} {L : JL} {F : List HP} [p : Pick i As (RefJ d q ⟨dead, L⟩) F] {φ : WP}
    (k : JInv L → ∀ b s, q = some ⟨b, 0, none⟩ → Ent B (Blk b (rjCells d s dead) :: Ar ENT s (L.map entOf) :: F) φ) : Ent B As φ := by
  refine Ent.perm p.perm ?_
  intro w hw
  obtain ⟨g, ⟨a, c, ⟨hi, b, s, hp, pa⟩, pc, d, sa, sc⟩, hm, hu⟩ := hw
  exact k hi b s hp w ⟨g, (star_append [_, _] F).2 ⟨a, c, pa, pc, d, sa, sc⟩, hm, hu⟩

theorem xrj_back (d : Option Addr) (b : Nat) (s : Sl) (dead : Bool) {L : JL} {G : List HP} [q : Split [Blk b (rjCells d s dead), Ar ENT s (L.map entOf)] As G] {φ : WP}
    (hi : JInv L) (k : Ent B (RefJ d (some ⟨b, 0, none⟩) ⟨dead, L⟩ :: G) φ) : Ent B As φ :=
  xfold [Blk b (rjCells d s dead), Ar ENT s (L.map entOf)] (RefJ d (some ⟨b, 0, none⟩) ⟨dead, L⟩) (fun g hg => ⟨hi, b, s, rfl, hg⟩) k

theorem refj_some {d q : Option Addr} {J : JM} {g : Frag} (h : RefJ d q J g) : ∃ b, q = some ⟨b, 0, none⟩ := by
  obtain ⟨_, b, _, h, _⟩ := h
  exact ⟨b, h⟩

theorem find_at {id : Int} : ∀ {L : JL} {k : Nat} {v : Int}, L[k]? = some (id, v) → (∀ t p, t < k → L[t]? = some p → p.1 ≠ id) → lookM L id = some v ∧ ∀ x, setM L id x = L.set k (id, x)
  | [], _, _, h, _ => by simp at h
  | p :: L, 0, v, h, _ => by
    simp only [List.getElem?_cons_zero, Option.some.injEq] at h
    subst h
    exact ⟨by simp [lookM], fun x => by simp [setM]⟩
  | p :: L, k + 1, v, h, hn => by
    have h0 : ¬ id = p.1 := fun e => hn 0 p (by omega) rfl e.symm
    obtain ⟨h1, h2⟩ := find_at (L := L) (k := k) (v := v) (by simpa using h) (fun t q ht hq => hn (t + 1) q (by omega) (by simpa using hq))
    exact ⟨by simp [lookM, h0, h1], fun x => by simp [setM, h0, h2]⟩

def findPost (L : JL) (id : Int) (b : Nat) (d : Option Addr) (s : Sl) (dead : Bool) : Tup [.int .i64] → List HP → Prop := fun t Bs =>
  ((t.1 = -1 ∧ lookM L id = none) ∨ ∃ (j : Nat) (v : Int), t.1 = (j : Int) ∧ L[j]? = some (id, v) ∧ lookM L id = some v ∧ ∀ x, setM L id x = L.set j (id, x)) ∧ Bs = [Blk b (rjCells d s dead), Ar ENT s (L.map entOf)]

theorem rfind_raw (b : Nat) (d : Option Addr) (s : Sl) (dead : Bool) (L : JL) (id : Int) (hl : L.length ≤ 100000) : Ct Pr F_ref25_Journal_Find [.pointer (some ⟨b, 0, none⟩), .int .i64 id] .one [.int .i64] [Blk b (rjCells d s dead), Ar ENT s (L.map entOf)] emp (findPost L id b d s dead) := by
  refine spec1 c_ref25_Journal_Find fun B _ => ?_
  unfold ref25_Journal_Find
  refine xlen s fun hsl _ => ?_
  simp only [List.length_map] at hsl
  refine xloop1 (fun n i As => ∃ k : Nat, i = (k : Int) ∧ n = L.length - k ∧ k ≤ L.length ∧ (∀ t p, t < k → L[t]? = some p → p.1 ≠ id) ∧ As = [Blk b (rjCells d s dead), Ar ENT s (L.map entOf)]) L.length ⟨0, rfl, rfl, by omega, by omega, rfl⟩ ?_
  rintro n _ _ K ⟨k, rfl, rfl, hk, hne, rfl⟩ hK
  refine xnil (xget (h := ?_))
  refine xif_dec (fun h => ?_) (fun h => ?_)
  · have hkl : k < L.length := by omega
    have hp := List.getElem?_eq_getElem hkl
    generalize L[k] = p at hp
    have hx : (L.map entOf)[k]? = some (entOf p) := by rw [List.getElem?_map, hp]; rfl
    refine xnil (xget (h := ?_))
    refine xidxn (h1 := by simp; omega) (h := fun _ _ => ?_)
    refine xgetE hx (h := ?_)
    refine xif (fun he => ?_) (fun he => ?_)
    · have he : p.1 = id := by simpa [entOf] using he
      obtain ⟨i, v⟩ := p
      simp only at he
      subst he
      obtain ⟨h1, h2⟩ := find_at hp hne
      exact xret ⟨.inr ⟨k, v, rfl, hp, h1, h2⟩, rfl⟩
    · have he : ¬ p.1 = id := by simpa [entOf] using he
      rw [wrap_succ k (by omega)]
      refine hK (L.length - (k + 1)) _ _ (by omega) ⟨k + 1, rfl, rfl, by omega, ?_, rfl⟩
      intro t p' ht hp'
      rcases Nat.lt_or_ge t k with h' | h'
      · exact hne t p' h' hp'
      · obtain rfl : t = k := by omega
        rw [hp] at hp'; cases hp'; exact he
  · refine xret ⟨.inl ⟨rfl, lookM_none.2 fun p hp => ?_⟩, rfl⟩
    obtain ⟨t, ht, rfl⟩ := List.getElem_of_mem hp
    exact hne t _ (by omega) (List.getElem?_eq_getElem ht)

theorem shift8 : ∀ k : Nat, k < 8 → (2 : Int) ^ (min (Int.toNat (IntKind.u64.wrap (IntKind.i64.wrap (8 * (7 - (k : Int)))))) 64) = ((256 ^ (7 - k) : Nat) : Int) ∧ 0 ≤ IntKind.u64.wrap (IntKind.i64.wrap (8 * (7 - (k : Int)))) := by decide

theorem rRow_spec (id code : Int) (hid : okId id = true) (hc : -1 ≤ code ∧ code ≤ 255) : Ct Pr F_ref25_Row [.int .i64 id, .int .i64 code] .one [.slice] [] emp (fun t Bs => Bs = [Ar U8 t.1 (rowJ id code)]) := by
  refine spec1 c_ref25_Row fun B _ => ?_
  have hid' : 1 ≤ id ∧ id ≤ 1099511627776 := by simpa [okId] using hid
  unfold ref25_Row
  have hbl := be8_len id.toNat
  refine xnew fun b => ?_
  refine xfold1 (Q := Ar U8 ⟨some ⟨b, 0, none⟩, 1, 1⟩ [1]) 0 (fun g hg => ⟨[], blk_ar [1] 1 rfl rfl hg⟩) ?_
  refine xjoin0 (fun As' => As' = [Ar U8 ⟨some ⟨b, 0, none⟩, 1, 1⟩ (if code < 0 then [1] else [2])]) ?_ ?_
  · intro K hK
    refine xif_dec (fun h => ?_) (fun h => ?_)
    · refine xidxn (s := ⟨some ⟨b, 0, none⟩, 1, 1⟩) (k := 0) (h1 := by decide) (h := fun _ _ => ?_)
      refine xsetE (s := ⟨some ⟨b, 0, none⟩, 1, 1⟩) (x := 1) 2 rfl (hv := rfl) (h := ?_)
      exact hK _ (by rw [if_neg (by omega)]; rfl)
    · exact hK _ (by rw [if_pos (by omega)])
  rintro _ rfl
  have hl1 : (if code < 0 then [1] else [2] : List UInt8).length = 1 := by split <;> rfl
  generalize hpre : (if code < 0 then [1] else [2] : List UInt8) = pre at *
  refine xloop2 (fun n s i As => ∃ k : Nat, i = 7 - (k : Int) ∧ n = 8 - k ∧ k ≤ 8 ∧ As = [Ar U8 s (pre ++ (be8 id.toNat).take k)]) 8 ⟨0, rfl, rfl, by omega, by rw [List.take_zero, List.append_nil]⟩ ?_
  rintro n s _ _ K ⟨k, rfl, rfl, hk, rfl⟩ hK
  refine xif_dec (fun h => ?_) (fun h => ?_)
  · have hk8 : k < 8 := by omega
    obtain ⟨e1, e2⟩ := shift8 k hk8
    refine xasrt e2 (xnew fun b2 => ?_)
    have e3 : IntKind.u64.wrap id = ((id.toNat : Nat) : Int) := by
      have := wrap_u64 id.toNat (by omega)
      rwa [show ((id.toNat : Nat) : Int) = id by omega] at this ⊢
    rw [e1, e3, shr_eq _ _ _ rfl, byte_of]
    refine xapp1 (UInt8.ofNat (id.toNat / 256 ^ (7 - k))) (hb := by simp; omega) (h := fun s' => ?_)
    rw [show IntKind.i64.wrap (7 - (k : Int) - 1) = 7 - ((k + 1 : Nat) : Int) by rw [wrap_id _ (by omega) (by omega)]; omega]
    refine hK (8 - (k + 1)) _ _ _ (by omega) ⟨k + 1, rfl, rfl, by omega, ?_⟩
    rw [List.take_add_one, be8_get _ hk8, List.append_assoc]; rfl
  · have hk8 : k = 8 := by omega
    subst hk8
    rw [List.take_of_length_le (by omega)]
    refine xjoin (xif_dec (fun h => ?_) (fun h => ?_))
    · have ec : IntKind.u8.wrap code = ((UInt8.ofNat code.toNat).toNat : Int) := by
        have := byte_of code.toNat
        rwa [show ((code.toNat : Nat) : Int) = code by omega] at this
      rw [ec]
      refine xnew fun b3 => ?_
      refine xapp1 (UInt8.ofNat code.toNat) (hb := by simp; omega) (h := fun s1 => ?_)
      refine xret ?_
      unfold rowJ
      rw [← hpre, if_neg (show ¬ code < 0 by omega), if_neg (show ¬ code < 0 by omega)]
    · refine xret ?_
      unfold rowJ
      rw [← hpre, if_pos (show code < 0 by omega), if_pos (show code < 0 by omega), List.append_nil]

theorem rlay_spec (d q : Option Addr) (m : DM) (L : JL) (dead : Bool) (p : Sl) (xs : List UInt8) (hm : xs.length ≤ 1024) : Ct Pr F_ref25_Journal_lay [.pointer q, p.v] .one [.int .i64] [RefJ d q ⟨dead, L⟩, RefDev d m] (RAr U8 p xs)
    (fun t Bs => t.1 = (layJ m xs).2 ∧ Bs = [RefJ d q ⟨decide ((layJ m xs).2 = 10), L⟩, RefDev d (layJ m xs).1]) := by
  refine spec1 c_ref25_Journal_lay fun B hr => ?_
  have fb : Fro B p U8 xs := ⟨hr⟩
  unfold ref25_Journal_lay
  refine xcl (rPut13_spec p xs hm) rdb ?_
  rintro ⟨s, r, _⟩ _ ⟨_, rfl⟩
  refine app1 (ca2 ?_)
  refine xrj 1 fun hi b0 sb hq => ?_
  subst hq
  refine xnil (xget (h := ?_))
  refine xcl (rAppend_spec d m cmdN s (frameN xs)) rdb ?_
  rintro ⟨r1, _⟩ _ ⟨h1, rfl⟩
  simp only at h1
  subst h1
  refine app1 (ca1 ?_)
  refine xjoin1 (fun e As' => e = (layJ m xs).2 ∧ As' = [RefDev d (layJ m xs).1, Blk b0 (rjCells d sb dead), Ar ENT sb (L.map entOf)]) ?_ ?_
  · intro J hJ
    refine xif (fun h => ?_) (fun h => ?_)
    · have h : (appendM m cmdN (frameN xs)).2 = 0 := by simpa using h
      have e : layJ m xs = syncM (appendM m cmdN (frameN xs)).1 cmdN := by unfold layJ; rw [if_pos h]
      refine xnil (xget (h := ?_))
      refine xcl (rSync_spec d (appendM m cmdN (frameN xs)).1 cmdN) rdb ?_
      rintro ⟨r2, _⟩ _ ⟨h2, rfl⟩
      simp only at h2
      subst h2
      refine app1 (ca1 ?_)
      rw [← e]
      exact xuse [RefDev d (layJ m xs).1, Blk b0 (rjCells d sb dead), Ar ENT sb (L.map entOf)] (hJ _ _ ⟨rfl, rfl⟩)
    · have h : ¬ (appendM m cmdN (frameN xs)).2 = 0 := by simpa using h
      have e : layJ m xs = appendM m cmdN (frameN xs) := by unfold layJ; rw [if_neg h]
      rw [← e]
      exact xuse [RefDev d (layJ m xs).1, Blk b0 (rjCells d sb dead), Ar ENT sb (L.map entOf)] (hJ _ _ ⟨rfl, rfl⟩)
  · rintro _ _ ⟨rfl, rfl⟩
    refine xnil (xset (h := ?_))
    rw [show ((layJ m xs).2 == 10) = decide ((layJ m xs).2 = 10) from rfl]
    exact xrj_back d b0 sb (decide ((layJ m xs).2 = 10)) hi (xret ⟨rfl, rfl⟩)

theorem ent_new (id : Int) : entOf (id, -1) = (id, false, 0) := rfl
theorem ent_end (id code : Int) (h : 0 ≤ code) : entOf (id, code) = (id, true, code) := by
  unfold entOf
  rw [if_neg (by simp only; omega), decide_eq_true (by simp only; omega)]
theorem ent_ended (p : Int × Int) : (entOf p).2.1 = decide (p.2 ≥ 0) := rfl

theorem xset3 {s : Sl} {L : JL} {j : Nat} {id v code : Int} {G : List HP} {K : WP} (hj : L[j]? = some (id, v)) (hc : 0 ≤ code) (h : Ent B (Ar ENT s ((L.set j (id, code)).map entOf) :: G) K) :
    Ent B (Ar ENT s (L.map entOf) :: G) (XSet (s.at 3 j) (.int .i64 id) <| XSet ((s.at 3 j).add 1) (.bool true) <| XSet ((s.at 3 j).add 2) (.int .i64 code) <| K) := by
  have h0 : (L.map entOf)[j]? = some (entOf (id, v)) := by rw [List.getElem?_map, hj]; rfl
  have hjl : j < (L.map entOf).length := (List.getElem?_eq_some_iff.1 h0).1
  refine xsetE (x := entOf (id, v)) (entOf (id, v)) h0 (hv := rfl) (h := ?_)
  have h1 : ((L.map entOf).set j (entOf (id, v)))[j]? = some (entOf (id, v)) := List.getElem?_set_self hjl
  refine xsetEj (x := entOf (id, v)) (id, true, (entOf (id, v)).2.2) h1 (hj := by decide) (hv := rfl) (h := ?_)
  have h2 : (((L.map entOf).set j (entOf (id, v))).set j (id, true, (entOf (id, v)).2.2))[j]? = some (id, true, (entOf (id, v)).2.2) := List.getElem?_set_self (by simpa using hjl)
  refine xsetEj (x := (id, true, (entOf (id, v)).2.2)) (id, true, code) h2 (hj := by decide) (hv := rfl) (h := ?_)
  rw [List.map_set, ent_end id code hc] at h
  simpa using h

def rtakePost (d q : Option Addr) (dead : Bool) (L : JL) (xs : List UInt8) : Tup [.bool] → List HP → Prop := fun t Bs =>
  (t.1 = true ∧ ∃ L', takeJ L xs = some L' ∧ Bs = [RefJ d q ⟨dead, L'⟩]) ∨ (t.1 = false ∧ takeJ L xs = none ∧ Bs = [])

theorem rtake_spec (d q : Option Addr) (dead : Bool) (L : JL) (b : Sl) (xs : List UInt8) (hm : xs.length ≤ 1000000) :
    Ct Pr F_ref25_Journal_take [.pointer q, b.v] .one [.bool] [RefJ d q ⟨dead, L⟩] (RAr U8 b xs) (rtakePost d q dead L xs) := by
  refine spec1 c_ref25_Journal_take fun B hr => ?_
  have fb : Fro B b U8 xs := ⟨hr⟩
  have hb := hr.1
  unfold ref25_Journal_take
  have no : takeJ L xs = none → ∀ {As : List HP}, Ent B As (Ret B (rtakePost d q dead L xs) (false, ())) := fun h _ => xkeep (l := []) (xret (.inr ⟨rfl, h, rfl⟩))
  refine xjoin (xif_dec (fun h => xjoin (xift rfl (xjoin (xift rfl (xift rfl (no (by unfold takeJ; rw [if_pos (by omega)]))))))) (fun h9 => ?_))
  have hgo : takeJ L xs = if !(okId (idOf xs)) then none else if xs.getD 0 0 = 1 ∧ xs.length = 9 ∧ lookM L (idOf xs) = none ∧ L.length < 1024 then some (L ++ [((idOf xs : Int), -1)])
      else if xs.getD 0 0 = 2 ∧ xs.length = 10 ∧ (lookM L (idOf xs)).getD 0 < 0 then some (setM L (idOf xs) ((xs.getD 9 0).toNat : Int)) else none := by
    unfold takeJ; rw [if_neg (by omega)]
  have x0 := List.getElem?_eq_getElem (l := xs) (i := 0) (by omega)
  have g0 := getD_of x0
  have hy0 := (xs[0]'(by omega)).toNat_lt
  generalize xs[0] = y0 at x0 g0 hy0
  rw [g0] at hgo
  have e1 : y0 = 1 ↔ y0.toNat = 1 := ⟨fun h => by rw [h]; rfl, fun h => UInt8.toNat_inj.1 h⟩
  have e2 : y0 = 2 ↔ y0.toNat = 2 := ⟨fun h => by rw [h]; rfl, fun h => UInt8.toNat_inj.1 h⟩
  have bad : ¬ (xs.length = 8 + y0.toNat ∧ 1 ≤ y0.toNat ∧ y0.toNat ≤ 2) → takeJ L xs = none := fun h => by
    rw [hgo]
    split
    · rfl
    rw [if_neg fun h1 => h (by have := e1.1 h1.1; omega), if_neg fun h2 => h (by have := e2.1 h2.1; omega)]
  refine xidxn (k := 0) (h1 := by omega) (h := fun _ _ => ?_)
  refine xgetE x0 (h := ?_)
  rw [wrap_id ((y0.toNat : Nat) : Int) (by omega) (by omega), wrap_id (8 + ((y0.toNat : Nat) : Int)) (by omega) (by omega)]
  refine xjoin (xif (fun h => ?_) (fun h => ?_))
  · exact xjoin (xift rfl (xift rfl (no (bad (by simp at h; omega)))))
  have hlen : xs.length = 8 + y0.toNat := by simp at h; omega
  refine xidxn (k := 0) (h1 := by omega) (h := fun _ _ => ?_)
  refine xgetE x0 (h := ?_)
  refine xjoin (xif_dec (fun h => ?_) (fun h1 => ?_))
  · exact xift rfl (no (bad (by omega)))
  refine xidxn (k := 0) (h1 := by omega) (h := fun _ _ => ?_)
  refine xgetE x0 (h := ?_)
  refine xif_dec (fun h => no (bad (by omega))) (fun h2 => ?_)
  have hq8 := cut8_len (xs := xs) (a := 1) (by omega)
  have hg8 := fun k (hk : k < 8) => cut8_get (xs := xs) (a := 1) hk
  refine xloop2 (fun (n : Nat) (v : Int) (i : Int) As => ∃ k : Nat, i = 1 + (k : Int) ∧ v = ((beV ((cut8 xs 1).take k) : Nat) : Int) ∧ n = 8 - k ∧ k ≤ 8 ∧ As = [RefJ d q ⟨dead, L⟩]) 8 ⟨0, rfl, rfl, rfl, by omega, rfl⟩ ?_
  rintro n _ _ _ K ⟨k, rfl, rfl, rfl, hk, rfl⟩ hK
  refine xif_dec (fun h => ?_) (fun h => ?_)
  · have hk8 : k < 8 := by omega
    have hx := List.getElem?_eq_getElem (l := cut8 xs 1) (i := k) (by omega)
    have hx2 := (hg8 k hk8).symm.trans hx
    have hsm := beV_small hq8 hk8
    have hst := beV_step hx
    have hy := u8_lt (cut8 xs 1)[k]
    generalize (cut8 xs 1)[k] = y at *
    rw [show (1 : Int) + (k : Int) = ((1 + k : Nat) : Int) by omega]
    refine xasrt (by decide) ?_
    refine xidxn (h1 := by omega) (h := fun _ _ => ?_)
    refine xgetE hx2 (h := ?_)
    rw [show (2 : Int) ^ (min (Int.toNat 8) 64) = 256 by decide, show ((beV ((cut8 xs 1).take k) : Nat) : Int) * 256 = ((beV ((cut8 xs 1).take k) * 256 : Nat) : Int) by omega, wrap_u64 _ (by omega), wrap_u64 _ (by omega), show ((beV ((cut8 xs 1).take k) * 256 : Nat) : Int) + (y.toNat : Int) = ((beV ((cut8 xs 1).take k) * 256 + y.toNat : Nat) : Int) by omega, wrap_u64 _ (by omega), wrap_succ (1 + k) (by omega)]
    exact hK (8 - (k + 1)) _ _ _ (by omega) ⟨k + 1, by omega, by rw [hst], rfl, by omega, rfl⟩
  have hk8 : k = 8 := by omega
  subst hk8
  rw [List.take_of_length_le (by omega), show beV (cut8 xs 1) = idOf xs from rfl, okId_iff]
  refine xif (fun h => no ?_) (fun h => ?_)
  · rw [hgo, if_pos h]
  have hok : okId (idOf xs) = true := by simpa using h
  have hok' : 1 ≤ ((idOf xs : Nat) : Int) ∧ ((idOf xs : Nat) : Int) ≤ 1099511627776 := by simpa [okId] using hok
  have hw : IntKind.i64.wrap ((idOf xs : Nat) : Int) = ((idOf xs : Nat) : Int) := wrap_id _ (by omega) (by omega)
  rw [hw]
  rw [if_neg (by rw [hok]; simp)] at hgo
  generalize ((idOf xs : Nat) : Int) = id at *
  refine xrj 0 fun hi b0 s hq0 => ?_
  subst hq0
  have hll := hi.len
  refine xcl (rfind_raw b0 d s dead L id (by omega)) rdb ?_
  rintro ⟨r, _⟩ _ ⟨hf, rfl⟩
  simp only at hf
  refine app2 (ca1 ?_)
  refine xidxn (k := 0) (h1 := by omega) (h := fun _ _ => ?_)
  refine xgetE x0 (h := ?_)
  rw [show (((y0.toNat : Nat) : Int) == 1) = decide (y0 = 1) from u8_is y0 1 (by decide)]
  refine xif_dec (fun hA => ?_) (fun hA => ?_)
  · subst hA
    have hl9 : xs.length = 9 := hlen
    refine xnil (xget (h := ?_))
    refine xnew fun b1 => ?_
    refine xapp1 (E := ENT) (entOf (id, -1)) (hb := by simp; omega) (h := fun s1 => ?_)
    refine xnil (xset (h := ?_))
    refine xlen s1 fun hsl _ => ?_
    simp only [List.length_append, List.length_map, List.length_singleton] at hsl
    rcases hf with ⟨rfl, hn⟩ | ⟨j, v, rfl, _, hv, _⟩
    · refine xjoin (xift rfl (xnil (xget (h := ?_))))
      by_cases hlt : L.length < 1024
      · rw [if_pos ⟨rfl, hl9, hn, hlt⟩] at hgo
        rw [decide_eq_true (by omega)]
        rw [show L.map entOf ++ [entOf (id, -1)] = (L ++ [(id, -1)]).map entOf by simp]
        exact xrj_back d b0 s1 dead (jinv_begin hi hn hok hlt) (xret (.inl ⟨rfl, _, hgo, rfl⟩))
      · rw [decide_eq_false (by omega)]
        exact no (by rw [hgo, if_neg (fun h => hlt h.2.2.2), if_neg (fun h => absurd h.1 (by decide))])
    · refine xjoin (xiff (decide_eq_false (by omega)) ?_)
      exact no (by rw [hgo, if_neg (fun h => by rw [hv] at h; cases h.2.2.1), if_neg (fun h => absurd h.1 (by decide))])
  · rw [if_neg (fun h => hA h.1)] at hgo
    have hy2 : y0 = 2 := e2.2 (by have := mt e1.2 hA; omega)
    have hl10 : xs.length = 10 := by rw [hlen, hy2]; rfl
    rcases hf with ⟨rfl, hn⟩ | ⟨j, v, rfl, hj, hv, hset⟩
    · refine xjoin (xift rfl (xift rfl (no ?_)))
      rw [hgo, if_neg (fun h => by rw [hn] at h; exact absurd h.2.2 (by decide))]
    · refine xjoin (xiff (decide_eq_false (by omega)) (xnil (xget (h := ?_))))
      have hx : (L.map entOf)[j]? = some (entOf (id, v)) := by rw [List.getElem?_map, hj]; rfl
      have hjl := (List.getElem?_eq_some_iff.1 hx).1
      refine xidxn (h1 := hjl) (h := fun _ _ => ?_)
      refine xgetEj hx (h := ?_)
      rw [ent_ended]
      refine xif_dec (fun hge => no ?_) (fun hge => ?_)
      · have hge : v ≥ 0 := hge
        rw [hgo, if_neg (fun h => by rw [hv] at h; have : v < 0 := h.2.2; omega)]
      · have hge : v < 0 := by have : ¬ v ≥ 0 := hge; omega
        rw [if_pos ⟨hy2, hl10, by rw [hv]; exact hge⟩] at hgo
        have x9 := List.getElem?_eq_getElem (l := xs) (i := 9) (by omega)
        rw [getD_of x9] at hgo
        have hy9 := (xs[9]'(by omega)).toNat_lt
        generalize xs[9] = y9 at *
        refine xdraw (xnil (xget (h := ?_)))
        refine xidxn (k := 9) (h1 := by omega) (h := fun _ _ => ?_)
        refine xgetE x9 (h := ?_)
        refine xidxn (h1 := hjl) (h := fun _ _ => ?_)
        rw [wrap_id ((y9.toNat : Nat) : Int) (by omega) (by omega)]
        refine xfront 1 ?_
        refine xset3 hj (by omega) ?_
        rw [← hset]
        exact xrj_back d b0 s dead (jinv_end (code := ((y9.toNat : Nat) : Int)) hi hv ⟨by omega, by omega⟩) (xret (.inl ⟨rfl, _, hgo, rfl⟩))

theorem rBegin_spec (d q : Option Addr) (m : DM) (J : JM) (id : Int) : Ct Pr F_ref25_Journal_Begin [.pointer q, .int .i64 id] .one [.int .i64] [RefJ d q J, RefDev d m] emp
    (fun t Bs => t.1 = (beginJ m J id).2.2 ∧ Bs = [RefJ d q (beginJ m J id).2.1, RefDev d (beginJ m J id).1]) := by
  refine spec1 c_ref25_Journal_Begin fun B _ => ?_
  unfold ref25_Journal_Begin
  obtain ⟨dead, L⟩ := J
  refine xrj 0 fun hi b0 s hq => ?_
  subst hq
  have hll := hi.len
  refine xnil (xget (h := ?_))
  refine xif (fun hd => ?_) (fun hd => ?_)
  · have hd : dead = true := hd
    have e : beginJ m ⟨dead, L⟩ id = (m, ⟨dead, L⟩, 10) := by unfold beginJ; rw [if_pos hd]
    rw [e]
    exact xrj_back d b0 s dead hi (xret ⟨rfl, rfl⟩)
  have hd : dead = false := by simpa using hd
  subst hd
  rw [okId_iff]
  refine xif (fun ho => ?_) (fun ho => ?_)
  · have e : beginJ m ⟨false, L⟩ id = (m, ⟨false, L⟩, 3) := by unfold beginJ; rw [if_neg (by simp), if_pos ho]
    rw [e]
    exact xrj_back d b0 s false hi (xret ⟨rfl, rfl⟩)
  have ho' : okId id = true := by simpa using ho
  refine xcl (rfind_raw b0 d s false L id (by omega)) rdb ?_
  rintro ⟨r, _⟩ _ ⟨hf, rfl⟩
  simp only at hf
  refine app2 (ca1 ?_)
  rcases hf with ⟨rfl, hn⟩ | ⟨j, v, rfl, _, hv, _⟩
  case inr =>
    refine xift (decide_eq_true (by omega)) ?_
    have e : beginJ m ⟨false, L⟩ id = (m, ⟨false, L⟩, 7) := by unfold beginJ; rw [if_neg (by simp), if_neg (by simpa using ho), if_pos (by simp only [hv]; rfl)]
    rw [e]
    exact xrj_back d b0 s false hi (xret ⟨rfl, rfl⟩)
  refine xiff rfl (xnil (xget (h := ?_)))
  refine xlen s fun hsl _ => ?_
  simp only [List.length_map] at hsl
  have hk : (lookM L id).isSome = false := by rw [hn]; rfl
  refine xif_dec (fun hl => ?_) (fun hl => ?_)
  · have e : beginJ m ⟨false, L⟩ id = (m, ⟨false, L⟩, 34) := by unfold beginJ; rw [if_neg (by simp), if_neg (by simpa using ho), if_neg (by simpa using hk), if_pos (by simp only; omega)]
    rw [e]
    exact xrj_back d b0 s false hi (xret ⟨rfl, rfl⟩)
  have hl : L.length < 1024 := by omega
  have e : beginJ m ⟨false, L⟩ id = laidJ m ⟨false, L⟩ (rowJ id (-1)) (L ++ [(id, -1)]) := by unfold beginJ; rw [if_neg (by simp), if_neg (by simpa using ho), if_neg (by simpa using hk), if_neg (by simp only; omega)]
  rw [e]
  refine xcl (rRow_spec id (-1) ho' ⟨by decide, by decide⟩) rdb ?_
  rintro ⟨s1, _⟩ _ rfl
  refine app1 (ca1 ?_)
  refine xrj_back d b0 s false hi ?_
  refine xcl (rlay_spec d (some ⟨b0, 0, none⟩) m L false s1 (rowJ id (-1)) (by rw [rowJ_len]; decide)) rdb ?_
  rintro ⟨r1, _⟩ _ ⟨h1, rfl⟩
  simp only at h1
  subst h1
  refine app2 (ca1 ?_)
  refine xjoin (xif (fun h => ?_) (fun h => ?_))
  · have h : (layJ m (rowJ id (-1))).2 = 0 := by simpa using h
    unfold laidJ
    rw [if_pos h, h]
    refine xrj 0 fun hi b1 s hq => ?_
    cases hq
    refine xnil (xget (h := xnew fun b2 => ?_))
    refine xapp1 (E := ENT) (entOf (id, -1)) (hb := by simp; omega) (h := fun s3 => ?_)
    refine xnil (xset (h := ?_))
    rw [show L.map entOf ++ [entOf (id, -1)] = (L ++ [(id, -1)]).map entOf by simp]
    refine xrj_back d b0 s3 (decide ((0 : Int) = 10)) (jinv_begin hi hn ho' hl) ?_
    exact xuse [RefJ d (some ⟨b0, 0, none⟩) ⟨decide ((0 : Int) = 10), L ++ [(id, -1)]⟩, RefDev d (layJ m (rowJ id (-1))).1] (xret ⟨rfl, rfl⟩)
  · have h : ¬ (layJ m (rowJ id (-1))).2 = 0 := by simpa using h
    unfold laidJ
    rw [if_neg h]
    exact xuse [RefJ d (some ⟨b0, 0, none⟩) ⟨decide ((layJ m (rowJ id (-1))).2 = 10), L⟩, RefDev d (layJ m (rowJ id (-1))).1] (xret ⟨rfl, rfl⟩)

theorem rEnd_spec (d q : Option Addr) (m : DM) (J : JM) (id code : Int) : Ct Pr F_ref25_Journal_End [.pointer q, .int .i64 id, .int .i64 code] .one [.int .i64] [RefJ d q J, RefDev d m] emp
    (fun t Bs => t.1 = (endJ m J id code).2.2 ∧ Bs = [RefJ d q (endJ m J id code).2.1, RefDev d (endJ m J id code).1]) := by
  refine spec1 c_ref25_Journal_End fun B _ => ?_
  unfold ref25_Journal_End
  obtain ⟨dead, L⟩ := J
  refine xrj 0 fun hi b0 s hq => ?_
  subst hq
  have hll := hi.len
  refine xnil (xget (h := ?_))
  refine xif (fun hd => ?_) (fun hd => ?_)
  · have hd : dead = true := hd
    have e : endJ m ⟨dead, L⟩ id code = (m, ⟨dead, L⟩, 10) := by unfold endJ; rw [if_pos hd]
    rw [e]
    exact xrj_back d b0 s dead hi (xret ⟨rfl, rfl⟩)
  have hd : dead = false := by simpa using hd
  subst hd
  refine xif (fun ho => ?_) (fun ho => ?_)
  · have e : endJ m ⟨false, L⟩ id code = (m, ⟨false, L⟩, 3) := by unfold endJ; rw [if_neg (by simp), if_pos (by simpa using ho)]
    rw [e]
    exact xrj_back d b0 s false hi (xret ⟨rfl, rfl⟩)
  have ho : ¬ (code < 0 ∨ code > 255) := by simpa using ho
  refine xcl (rfind_raw b0 d s false L id (by omega)) rdb ?_
  rintro ⟨r, _⟩ _ ⟨hf, rfl⟩
  simp only at hf
  refine app2 (ca1 ?_)
  rcases hf with ⟨rfl, hn⟩ | ⟨j, c, rfl, hj, hc, hset⟩
  · refine xift rfl ?_
    have e : endJ m ⟨false, L⟩ id code = (m, ⟨false, L⟩, 6) := by unfold endJ; rw [if_neg (by simp), if_neg ho]; simp only [hn]
    rw [e]
    exact xrj_back d b0 s false hi (xret ⟨rfl, rfl⟩)
  have hid : okId id = true := hi.ids _ (lookM_mem hc)
  refine xiff (decide_eq_false (by omega)) (xnil (xget (h := ?_)))
  have hx : (L.map entOf)[j]? = some (entOf (id, c)) := by rw [List.getElem?_map, hj]; rfl
  have hjl := (List.getElem?_eq_some_iff.1 hx).1
  refine xidxn (h1 := hjl) (h := fun _ _ => ?_)
  refine xgetEj hx (h := ?_)
  rw [ent_ended]
  refine xif_dec (fun hl => ?_) (fun hl => ?_)
  · have hl : c ≥ 0 := hl
    have e : endJ m ⟨false, L⟩ id code = (m, ⟨false, L⟩, 7) := by unfold endJ; rw [if_neg (by simp), if_neg ho]; simp only [hc]; rw [if_pos hl]
    rw [e]
    exact xrj_back d b0 s false hi (xret ⟨rfl, rfl⟩)
  have hl : ¬ c ≥ 0 := hl
  have e : endJ m ⟨false, L⟩ id code = laidJ m ⟨false, L⟩ (rowJ id code) (setM L id code) := by unfold endJ; rw [if_neg (by simp), if_neg ho]; simp only [hc]; rw [if_neg hl]
  rw [e]
  refine xcl (rRow_spec id code hid ⟨by omega, by omega⟩) rdb ?_
  rintro ⟨s1, _⟩ _ rfl
  refine app1 (ca1 ?_)
  refine xrj_back d b0 s false hi ?_
  refine xcl (rlay_spec d (some ⟨b0, 0, none⟩) m L false s1 (rowJ id code) (by rw [rowJ_len]; split <;> decide)) rdb ?_
  rintro ⟨r1, _⟩ _ ⟨h1, rfl⟩
  simp only at h1
  subst h1
  refine app2 (ca1 ?_)
  refine xjoin (xif (fun h => ?_) (fun h => ?_))
  · have h : (layJ m (rowJ id code)).2 = 0 := by simpa using h
    unfold laidJ
    rw [if_pos h, h]
    refine xrj 0 fun hi b1 s hq => ?_
    cases hq
    refine xnil (xget (h := ?_))
    refine xidxn (h1 := hjl) (h := fun _ _ => ?_)
    refine xfront 1 ?_
    refine xset3 hj (by omega) ?_
    rw [← hset]
    refine xrj_back d b0 s (decide ((0 : Int) = 10)) (jinv_end (code := code) hi hc ⟨by omega, by omega⟩) ?_
    exact xuse [RefJ d (some ⟨b0, 0, none⟩) ⟨decide ((0 : Int) = 10), setM L id code⟩, RefDev d (layJ m (rowJ id code)).1] (xret ⟨rfl, rfl⟩)
  · have h : ¬ (layJ m (rowJ id code)).2 = 0 := by simpa using h
    unfold laidJ
    rw [if_neg h]
    exact xuse [RefJ d (some ⟨b0, 0, none⟩) ⟨decide ((layJ m (rowJ id code)).2 = 10), L⟩, RefDev d (layJ m (rowJ id code)).1] (xret ⟨rfl, rfl⟩)

theorem rState_spec (d q : Option Addr) (J : JM) (id : Int) : Ct Pr F_ref25_Journal_State [.pointer q, .int .i64 id] (.tup [none, none]) [.int .i64, .int .i64] [RefJ d q J] emp
    (fun t Bs => t.1 = (stateJ J.L id).1 ∧ t.2.1 = (stateJ J.L id).2 ∧ Bs = [RefJ d q J]) := by
  refine spec2 c_ref25_Journal_State fun B _ => ?_
  unfold ref25_Journal_State
  obtain ⟨dead, L⟩ := J
  refine xrj 0 fun hi b0 s hq => ?_
  subst hq
  have hll := hi.len
  refine xcl (rfind_raw b0 d s dead L id (by omega)) rdb ?_
  rintro ⟨r, _⟩ _ ⟨hf, rfl⟩
  simp only at hf
  refine app2 (ca1 ?_)
  unfold stateJ
  rcases hf with ⟨rfl, hn⟩ | ⟨j, c, rfl, hj, hc, hset⟩
  · simp only [hn]
    exact xift rfl (xrj_back d b0 s dead hi (xret ⟨rfl, rfl, rfl⟩))
  · simp only [hc]
    refine xiff (decide_eq_false (by omega)) (xnil (xget (h := ?_)))
    have hx : (L.map entOf)[j]? = some (entOf (id, c)) := by rw [List.getElem?_map, hj]; rfl
    have hjl := (List.getElem?_eq_some_iff.1 hx).1
    refine xidxn (h1 := hjl) (h := fun _ _ => ?_)
    refine xgetEj hx (h := ?_)
    rw [ent_ended]
    refine xif (fun h => ?_) (fun h => ?_)
    · have h : c < 0 := by simpa using h
      simp only [h, if_true]
      exact xrj_back d b0 s dead hi (xret ⟨rfl, rfl, rfl⟩)
    · have h : ¬ c < 0 := by simpa using h
      simp only [h, if_false]
      refine xdraw (xnil (xget (h := ?_)))
      refine xidxn (h1 := hjl) (h := fun _ _ => ?_)
      refine xgetEj hx (h := ?_)
      refine xrj_back d b0 s dead hi (xret ⟨rfl, ?_, rfl⟩)
      show (if c < 0 then 0 else c) = c
      rw [if_neg h]

theorem rLeft_spec (d q : Option Addr) (J : JM) : Ct Pr F_ref25_Journal_Left [.pointer q] .one [.slice] [RefJ d q J] emp
    (fun t Bs => Bs = [RefJ d q J, Ar I64 t.1 (leftJ J.L)]) := by
  refine spec1 c_ref25_Journal_Left fun B _ => ?_
  unfold ref25_Journal_Left
  obtain ⟨dead, L⟩ := J
  refine xrj 0 fun hi b0 s hq => ?_
  subst hq
  have hll := hi.len
  refine xlen s fun hsl _ => ?_
  simp only [List.length_map] at hsl
  refine xnone I64 ?_
  refine xloop2 (fun n l i As => ∃ k : Nat, i = (k : Int) ∧ n = L.length - k ∧ k ≤ L.length ∧ As = [Ar I64 l (leftJ (L.take k)), Blk b0 (rjCells d s dead), Ar ENT s (L.map entOf)]) L.length ⟨0, rfl, rfl, by omega, rfl⟩ ?_
  rintro n l _ _ K ⟨k, rfl, rfl, hk, rfl⟩ hK
  refine xnil (xget (h := ?_))
  refine xif_dec (fun h => ?_) (fun h => ?_)
  · have hp := List.getElem?_eq_getElem (l := L) (i := k) (by omega)
    have htk : L.take (k + 1) = L.take k ++ [L[k]'(by omega)] := by rw [List.take_add_one, hp]; rfl
    generalize L[k]'(by omega) = p at hp htk
    have hx : (L.map entOf)[k]? = some (entOf p) := by rw [List.getElem?_map, hp]; rfl
    have hfl : (leftJ (L.take k)).length ≤ k := by
      unfold leftJ
      have := List.length_filter_le (fun p : Int × Int => decide (p.2 < 0)) (L.take k)
      simp at this ⊢; omega
    refine xnil (xget (h := ?_))
    refine xidxn (h1 := by simp; omega) (h := fun _ _ => ?_)
    refine xgetEj hx (h := ?_)
    rw [ent_ended]
    refine xjoin (xif (fun hneg => ?_) (fun hneg => ?_))
    · have hneg : p.2 < 0 := by simpa using hneg
      refine xnil (xget (h := ?_))
      refine xidxn (h1 := by simp; omega) (h := fun _ _ => ?_)
      refine xgetE hx (h := ?_)
      refine xnew fun b => ?_
      refine xapp1 (E := I64) p.1 (hb := by omega) (h := fun s1 => ?_)
      rw [wrap_succ k (by omega)]
      refine hK (L.length - (k + 1)) _ _ _ (by omega) ⟨k + 1, rfl, rfl, by omega, ?_⟩
      rw [htk]
      unfold leftJ
      rw [List.filter_append, List.filter_cons_of_pos (by simpa using hneg), List.map_append]; rfl
    · have hneg : ¬ p.2 < 0 := by simpa using hneg
      rw [wrap_succ k (by omega)]
      refine hK (L.length - (k + 1)) _ _ _ (by omega) ⟨k + 1, rfl, rfl, by omega, ?_⟩
      rw [htk]
      unfold leftJ
      rw [List.filter_append, List.filter_cons_of_neg (by simpa using hneg)]; simp
  · have hkl : k = L.length := by omega
    rw [List.take_of_length_le (by omega)]
    exact xrj_back d b0 s dead hi (xret rfl)

def ropenPost (p : Option Addr) (m : DM) : Tup [.ptr, .int .i64] → List HP → Prop := fun t Bs =>
  (∃ L, (openJ m).2.2 = some L ∧ t.2.1 = 0 ∧ Bs = [RefDev p (openJ m).1, RefJ p t.1 ⟨false, L⟩]) ∨ ((openJ m).2.2 = none ∧ t.1 = none ∧ t.2.1 = (openJ m).2.1 ∧ Bs = [RefDev p (openJ m).1])

end Go.Cx
