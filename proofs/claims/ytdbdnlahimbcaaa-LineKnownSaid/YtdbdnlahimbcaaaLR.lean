/-
  The document's line: the same law of lists.
-/
import Derived.Test.YtdbdnlahimbcaaaLK
namespace Go.Cx
open Go Go.Cf
set_option linter.unusedVariables false
variable {B : Base} {As : List HP}

def RefObj (p : Option Addr) (L : Lm) : HP := fun h => L.length ≤ 64 ∧ (∀ l ∈ L, l.1.length ≤ 4096) ∧ ∃ b s t rs, p = some ⟨b, 0, none⟩ ∧ star [Blk b [s.v, t.v], Ar SL s rs, Ar BL t (L.map (·.2)), Each (Ar U8) rs (L.map (·.1))] h

theorem xref (i : Nat) {p : Option Addr} {L : Lm} {F : List HP} [q : Pick i As (RefObj p L) F] {φ : WP}
    (k : L.length ≤ 64 → (∀ l ∈ L, l.1.length ≤ 4096) → ∀ b s t rs, p = some ⟨b, 0, none⟩ → rs.length = L.length → Ent B (Blk b [s.v, t.v] :: Ar SL s rs :: Ar BL t (L.map (·.2)) :: Each (Ar U8) rs (L.map (·.1)) :: F) φ) : Ent B As φ := by
  refine Ent.perm q.perm ?_
  intro w hw
  obtain ⟨g, ⟨a, c, ⟨h64, hb, b, s, t, rs, hp, pa⟩, pc, d, sa, sc⟩, hm, hu⟩ := hw
  have hl : rs.length = L.length := by
    obtain ⟨_, _, _, ⟨_, _, _, ⟨_, _, _, ⟨_, _, pe, _⟩, _⟩, _⟩, _⟩ := pa
    simpa using pe.length
  exact k h64 hb b s t rs hp hl w ⟨g, (star_append [_, _, _, _] F).2 ⟨a, c, pa, pc, d, sa, sc⟩, hm, hu⟩

theorem xfold4 (i j l m : Nat) {P1 P2 P3 P4 Q : HP} {F F' F'' F3 : List HP} [p : Pick i As P1 F] [q : Pick j F P2 F'] [r : Pick l F' P3 F''] [r3 : Pick m F'' P4 F3] {φ : WP} (h : ∀ g, star [P1, P2, P3, P4] g → Q g) (k : Ent B (Q :: F3) φ) : Ent B As φ :=
  Ent.perm (p.perm.trans (((q.perm.trans (((r.perm.trans (r3.perm.cons P3))).cons P2))).cons P1)) (xclose (fun _ hg => star_fold1 (l := [P1, P2, P3, P4]) h hg) k)

theorem xref_back (i j l m : Nat) {b : Nat} {s t : Sl} {rs : List Sl} {L : Lm} {F F' F'' F3 : List HP} [p : Pick i As (Blk b [s.v, t.v]) F] [q : Pick j F (Ar SL s rs) F'] [r : Pick l F' (Ar BL t (L.map (·.2))) F''] [r3 : Pick m F'' (Each (Ar U8) rs (L.map (·.1))) F3] {φ : WP}
    (h64 : L.length ≤ 64) (hb : ∀ l ∈ L, l.1.length ≤ 4096) (k : Ent B (RefObj (some ⟨b, 0, none⟩) L :: F3) φ) : Ent B As φ :=
  xfold4 i j l m (fun g hg => ⟨h64, hb, b, s, t, rs, rfl, hg⟩) k

/-- lay, with the slices in hand: what is laid may be one of the rows. -/
theorem rlay_raw (b : Nat) (s t : Sl) (rs : List Sl) (fs : List Bool) (r : Sl) (bs : List UInt8) (c : Bool) (Q : HP) (hbs : bs.length ≤ 4096) (hf : fs.length = rs.length) (h64 : rs.length ≤ 64) : Ct Pr F_ref20_Line_lay [.pointer (some ⟨b, 0, none⟩), r.v, .bool c] .one [.int .i64] [Blk b [s.v, t.v], Ar SL s rs, Ar BL t fs, Q]
    (fun h => RAr U8 r bs h ∨ ∀ h', Q h' → RAr U8 r bs h')
    (fun r Bs => (rs.length ≠ 64 ∧ r.1 = 0 ∧ ∃ s' t' r', Bs = [Blk b [s'.v, t'.v], Ar SL s' (rs ++ [r']), Ar BL t' (fs ++ [c]), Ar U8 r' bs, Q]) ∨ (rs.length = 64 ∧ r.1 = 9 ∧ Bs = [Blk b [s.v, t.v], Ar SL s rs, Ar BL t fs, Q])) := by
  refine spec1 c_ref20_Line_lay fun B hr => ?_
  unfold ref20_Line_lay
  refine xlen s fun hn hc => ?_
  refine xnil (xget (h := xif (fun h => ?_) (fun h => ?_)))
  · have : (s.n : Int) = 64 := by simpa using h
    exact xret (.inr ⟨by omega, rfl, rfl⟩)
  have hne : ¬ (s.n : Int) = 64 := by simpa using h
  refine xdraw (xnil (xget (h := ?_)))
  have hrd : Rds B [Blk b [s.v, t.v], Ar SL s rs, Ar BL t fs, Q] (RAr U8 r bs) := by
    rcases hr with hr | hr
    · have : Fro B r U8 bs := ⟨hr⟩
      exact rdb
    · refine rds_of fun g _ hF hs hm => ?_
      obtain ⟨_, g1, _, ⟨_, g2, _, ⟨_, g3, _, ⟨g4, _, hq, _, _, s4, _⟩, _, _, s3⟩, _, _, s2⟩, _, _, s1⟩ := hs
      exact (hr _ hq).mono (((s4.trans s3).trans (s2.trans s1)).trans hm)
  refine xcall0 (CopyBytes_spec r bs (by omega)) hrd ?_
  rintro ⟨r', _⟩ _ rfl
  refine app1 (ca1 (xchk (h := xnew fun b1 => ?_)))
  refine xapp1 r' (hb := by omega) (h := fun s' => xnil (xset (h := xnil (xget (h := xnew fun b2 => ?_)))))
  refine xapp1 c (hb := by omega) (h := fun t' => xnil (xset (h := ?_)))
  exact Ent.perm (List.perm_cons_append_cons _ (List.Perm.refl _) (l₁ := [Blk b [s'.v, t'.v], Ar SL s' (rs ++ [r']), Ar BL t' (fs ++ [c])]) (l₂ := [Q])) (xret (.inl ⟨by omega, rfl, s', t', r', rfl⟩))

theorem each_lay1 {rs : List Sl} {L : Lm} {r : Sl} {bs : List UInt8} {t : Bool} {g : Frag} (h : star [Ar U8 r bs, Each (Ar U8) rs (L.map (·.1))] g) : Each (Ar U8) (rs ++ [r]) ((L ++ [(bs, t)]).map (·.1)) g := by
  rw [List.map_append]
  exact each_snoc (star_swap h)

theorem rPut_spec (p : Option Addr) (L : Lm) (r : Sl) (bs : List UInt8) (hbs : bs.length ≤ 4096) : Ct Pr F_ref20_Line_Put [.pointer p, r.v] .one [.int .i64] [RefObj p L] (RAr U8 r bs)
    (fun t Bs => t.1 = (layL L (bs, false)).2 ∧ Bs = [RefObj p (layL L (bs, false)).1]) := by
  refine spec1 c_ref20_Line_Put fun B hr => ?_
  unfold ref20_Line_Put
  refine xref 0 fun h64 hb b s t rs hp hl => ?_
  subst hp
  refine xcall (rlay_raw b s t rs _ r bs false (Each (Ar U8) rs (L.map (·.1))) hbs (by simp [hl]) (by omega)) (F := []) (List.Perm.refl _) (rds_of fun g hs _ _ _ => .inl (hr.mono hs)) ?_
  rintro ⟨c, _⟩ _ (⟨h1, h2, s', t', r', rfl⟩ | ⟨h1, h2, rfl⟩)
  · simp only at h2
    subst h2
    refine ca1 ?_
    show Ent B [Blk b [s'.v, t'.v], Ar SL s' (rs ++ [r']), Ar BL t' (L.map (·.2) ++ [false]), Ar U8 r' bs, Each (Ar U8) rs (L.map (·.1))] _
    refine xfold2 3 3 (fun g hg => each_lay1 (t := false) hg) ?_
    have e : L.map (·.2) ++ [false] = (L ++ [(bs, false)]).map (·.2) := by simp
    rw [e]
    refine xref_back 1 1 1 0 (by simp; omega) ?_ (xret ?_)
    · intro l hl'
      rcases List.mem_append.1 hl' with h | h
      · exact hb l h
      · simp at h; subst h; exact hbs
    · simp only [layL, if_pos (show L.length < 64 by omega), and_self]
  · simp only at h2
    subst h2
    refine ca1 ?_
    show Ent B [Blk b [s.v, t.v], Ar SL s rs, Ar BL t (L.map (·.2)), Each (Ar U8) rs (L.map (·.1))] _
    refine xref_back 0 0 0 0 h64 hb (xret ?_)
    simp only [layL, if_neg (show ¬ L.length < 64 by omega), and_self]

theorem there_spec (b : Nat) (s t : Sl) (i : Int) : Ct Pr F_ref20_Line_there [.pointer (some ⟨b, 0, none⟩), .int .i64 i] .one [.bool] [Blk b [s.v, t.v]] emp (fun r Bs => r.1 = (decide (i ≥ 0) && decide (i < s.n)) ∧ Bs = [Blk b [s.v, t.v]]) := by
  refine spec1 c_ref20_Line_there fun B _ => ?_
  unfold ref20_Line_there
  refine xjoin (xif_dec (fun h => ?_) (fun h => ?_))
  · exact xnil (xget (h := xret ⟨by simp [h], rfl⟩))
  · exact xret ⟨by simp [h], rfl⟩


theorem take_erase {α : Type} (l : List α) (k i : Nat) (hk : k < l.length) : (l.take (k + 1)).eraseIdx i = if k = i then (l.take k).eraseIdx i else (l.take k).eraseIdx i ++ [l[k]] := by
  have hl : (l.take k).length = k := by simp; omega
  rw [List.take_add_one, List.getElem?_eq_getElem hk]
  simp only [Option.toList_some]
  by_cases h1 : k ≤ i
  · rw [List.eraseIdx_append_of_length_le (by omega), List.eraseIdx_of_length_le (l := l.take k) (by omega), hl]
    split
    · subst_vars; simp
    · obtain ⟨j, hj⟩ : ∃ j, i - k = j + 1 := ⟨i - k - 1, by omega⟩
      rw [hj]; rfl
  · rw [List.eraseIdx_append_of_lt_length (by omega), if_neg (by omega)]

theorem eraseIdx_map {α β : Type} (f : α → β) (l : List α) (i : Nat) : (l.map f).eraseIdx i = (l.eraseIdx i).map f := by
  induction l generalizing i with
  | nil => rfl
  | cons x l ih => cases i <;> simp [ih]

theorem rTake_spec (p : Option Addr) (L : Lm) (i : Int) : Ct Pr F_ref20_Line_Take [.pointer p, .int .i64 i] (.tup [none, none]) [.slice, .int .i64] [RefObj p L] emp
    (fun t Bs => t.2.1 = (takeL L i).2.2 ∧ Bs = [RefObj p (takeL L i).1, Ar U8 t.1 (takeL L i).2.1]) := by
  refine spec2 c_ref20_Line_Take fun B _ => ?_
  unfold ref20_Line_Take
  refine xref 0 fun h64 hb b s t rs hp hl => ?_
  subst hp
  refine xlen s fun hn hc => ?_
  refine xlen t fun htn _ => ?_
  rw [List.length_map] at htn
  refine xcall1 0 (there_spec b s t i) rdb ?_
  rintro ⟨c, _⟩ _ ⟨h1, rfl⟩
  simp only at h1
  have h1' : c = inL L i := by rw [h1, inL, ← hl, hn]
  refine app1 (ca1 (xif (fun h => ?_) (fun h => ?_)))
  · have hf : inL L i = false := by rw [← h1']; simpa using h
    refine xnone U8 ?_
    refine xref_back 1 1 1 1 h64 hb (xret ?_)
    simp only [takeL, hf, Bool.false_eq_true, if_false, and_self]
  have hf : inL L i = true := by rw [← h1']; simpa using h
  have hi : 0 ≤ i ∧ i < L.length := by simpa [inL] using hf
  obtain ⟨k0, rfl⟩ : ∃ k : Nat, i = k := ⟨i.toNat, by omega⟩
  have hx := List.getElem?_eq_getElem (l := rs) (i := k0) (by omega)
  have hy : (L.map fun x : List UInt8 × Bool => x.1)[k0]? = some (L[k0]'(by omega)).1 := by rw [List.getElem?_map, List.getElem?_eq_getElem (by omega)]; rfl
  refine xnil (xget (h := ?_))
  refine xidxn (h1 := by omega) (h := fun _ _ => ?_)
  refine xgetE hx (h := ?_)
  refine xnone SL (xnone BL ?_)
  refine xloop3 (fun n r u i As => ∃ k : Nat, i = (k : Int) ∧ n = L.length - k ∧ k ≤ L.length ∧ As = [Ar BL u (((L.map fun x : List UInt8 × Bool => x.2).take k).eraseIdx k0), Ar SL r ((rs.take k).eraseIdx k0), Blk b [s.v, t.v], Ar SL s rs, Ar BL t (L.map fun x : List UInt8 × Bool => x.2), Each (Ar U8) rs (L.map fun x : List UInt8 × Bool => x.1)]) L.length ⟨0, rfl, rfl, by omega, rfl⟩ ?_
  rintro n r u _ _ K ⟨k, rfl, rfl, hk, rfl⟩ hK
  refine xnil (xget (h := xif_dec (fun h => ?_) (fun h => ?_)))
  · have hkL : k < L.length := by omega
    have gr := List.getElem?_eq_getElem (l := rs) (i := k) (by omega)
    have gt : (L.map fun x : List UInt8 × Bool => x.2)[k]? = some L[k].2 := by rw [List.getElem?_map, List.getElem?_eq_getElem hkL]; rfl
    have er := take_erase rs k k0 (by omega)
    have et := take_erase (L.map fun x : List UInt8 × Bool => x.2) k k0 (by simpa using hkL)
    refine xjoin (xif (fun g => ?_) (fun g => ?_))
    · have hne : ¬ k = k0 := by have : ¬ (k : Int) = (k0 : Int) := by simpa using g
                                omega
      rw [if_neg hne] at er et
      refine xnil (xget (h := ?_))
      refine xidxn (h1 := by omega) (h := fun _ _ => ?_)
      refine xgetE gr (h := xnew fun b1 => ?_)
      refine xapp1 rs[k] (hb := by have : ((rs.take k).eraseIdx k0).length ≤ (rs.take k).length := List.length_eraseIdx_le ..
                                   simp only [List.length_take] at this; omega) (h := fun r' => ?_)
      refine xnil (xget (h := ?_))
      refine xidxn (h1 := by simp; omega) (h := fun _ _ => ?_)
      refine xgetE gt (h := xnew fun b2 => ?_)
      refine xapp1 L[k].2 (hb := by have : (((L.map fun x : List UInt8 × Bool => x.2).take k).eraseIdx k0).length ≤ ((L.map fun x : List UInt8 × Bool => x.2).take k).length := List.length_eraseIdx_le ..
                                    simp only [List.length_take, List.length_map] at this; omega) (h := fun u' => ?_)
      rw [wrap_succ k (by omega)]
      refine hK (L.length - (k + 1)) _ _ _ _ (by omega) ⟨k + 1, rfl, rfl, by omega, ?_⟩
      rw [er, et]; simp
    · have he : k = k0 := by have : (k : Int) = (k0 : Int) := by simpa using g
                             omega
      rw [if_pos he] at er et
      rw [wrap_succ k (by omega)]
      refine hK (L.length - (k + 1)) _ _ _ _ (by omega) ⟨k + 1, rfl, rfl, by omega, ?_⟩
      rw [er, et]
  · have hk' : k = L.length := by omega
    subst hk'
    rw [List.take_of_length_le (l := rs) (by omega), List.take_of_length_le (by simp), eraseIdx_map]
    refine xnil (xset (h := xnil (xset (h := ?_))))
    refine xunf 5 [Ar U8 rs[k0] L[k0].1, Each (Ar U8) (rs.eraseIdx k0) ((L.map fun x : List UInt8 × Bool => x.1).eraseIdx k0)] (fun g hg => each_pick hg hx hy) (app2 ?_)
    rw [eraseIdx_map]
    refine xdrop 5 (xdrop 5 ?_)
    refine xref_back 4 3 2 1 (by rw [List.length_eraseIdx]; split <;> omega) (fun l hl => hb l (List.mem_of_mem_eraseIdx hl)) (xret ?_)
    have hy2 := List.getElem?_eq_getElem (l := L) (i := k0) (by omega)
    simp [takeL, hf, hy2]

theorem rDouble_spec (p : Option Addr) (L : Lm) (i : Int) : Ct Pr F_ref20_Line_Double [.pointer p, .int .i64 i] .one [.int .i64] [RefObj p L] emp
    (fun t Bs => t.1 = (doubleL L i).2 ∧ Bs = [RefObj p (doubleL L i).1]) := by
  refine spec1 c_ref20_Line_Double fun B _ => ?_
  unfold ref20_Line_Double
  refine xref 0 fun h64 hb b s t rs hp hl => ?_
  subst hp
  refine xlen s fun hn hc => ?_
  refine xlen t fun htn _ => ?_
  rw [List.length_map] at htn
  refine xcall1 0 (there_spec b s t i) rdb ?_
  rintro ⟨c, _⟩ _ ⟨h1, rfl⟩
  simp only at h1
  have h1' : c = inL L i := by rw [h1, inL, ← hl, hn]
  refine app1 (ca1 (xif (fun h => ?_) (fun h => ?_)))
  · have hf : inL L i = false := by rw [← h1']; simpa using h
    refine xref_back 0 0 0 0 h64 hb (xret ?_)
    simp only [doubleL, hf, Bool.false_eq_true, if_false, and_self]
  have hf : inL L i = true := by rw [← h1']; simpa using h
  have hi : 0 ≤ i ∧ i < L.length := by simpa [inL] using hf
  obtain ⟨k, rfl⟩ : ∃ k : Nat, i = k := ⟨i.toNat, by omega⟩
  have hkL : k < L.length := by omega
  have hg : L.getD k ([], false) = L[k] := by simp [hkL]
  have gr := List.getElem?_eq_getElem (l := rs) (i := k) (by omega)
  have hy : (L.map fun x : List UInt8 × Bool => x.1)[k]? = some L[k].1 := by rw [List.getElem?_map, List.getElem?_eq_getElem hkL]; rfl
  have gt : (L.map fun x : List UInt8 × Bool => x.2)[k]? = some L[k].2 := by rw [List.getElem?_map, List.getElem?_eq_getElem hkL]; rfl
  refine xdraw (xnil (xget (h := ?_)))
  refine xidxn (h1 := by omega) (h := fun _ _ => ?_)
  refine xgetE gr (h := xnil (xget (h := ?_)))
  refine xidxn (h1 := by simp; omega) (h := fun _ _ => ?_)
  refine xgetE gt (h := ?_)
  refine xcall (rlay_raw b s t rs _ rs[k] L[k].1 L[k].2 (Each (Ar U8) rs (L.map (·.1))) (hb _ (List.getElem_mem _)) (by simp [hl]) (by omega)) (F := []) (List.Perm.refl _) (rds_of fun g _ _ _ _ => .inr fun g' hg' => ?_) ?_
  · exact each_read (S := RAr U8) (fun _ _ _ _ h s => h.mono s) (fun _ _ _ h => h.read) hg' gr hy
  have hbk : L[k].1.length ≤ 4096 := hb _ (List.getElem_mem _)
  rintro ⟨c, _⟩ _ (⟨h1, h2, s', t', r', rfl⟩ | ⟨h1, h2, rfl⟩)
  · simp only at h2
    subst h2
    refine ca1 ?_
    show Ent B [Blk b [s'.v, t'.v], Ar SL s' (rs ++ [r']), Ar BL t' (L.map (·.2) ++ [L[k].2]), Ar U8 r' L[k].1, Each (Ar U8) rs (L.map (·.1))] _
    refine xfold2 3 3 (fun g hg => each_lay1 (t := L[k].2) hg) ?_
    have e : L.map (·.2) ++ [L[k].2] = (L ++ [(L[k].1, L[k].2)]).map (·.2) := by simp
    rw [e]
    refine xref_back 1 1 1 0 (by simp; omega) ?_ (xret ?_)
    · intro l hl'
      rcases List.mem_append.1 hl' with h | h
      · exact hb l h
      · simp at h; subst h; exact hbk
    · simp only [doubleL, hf, if_true, Int.toNat_natCast, hg, layL, if_pos (show L.length < 64 by omega), and_self]
  · simp only at h2
    subst h2
    refine ca1 ?_
    show Ent B [Blk b [s.v, t.v], Ar SL s rs, Ar BL t (L.map (·.2)), Each (Ar U8) rs (L.map (·.1))] _
    refine xref_back 0 0 0 0 h64 hb (xret ?_)
    simp only [doubleL, hf, if_true, Int.toNat_natCast, hg, layL, if_neg (show ¬ L.length < 64 by omega), and_self]


/-- The document's way to turn a bit. -/
def turnN (y w : Int) : Int := if ((IntKind.i64.wrap ((IntKind.i64.wrap y).tdiv w)).tmod 2) == 1 then IntKind.i64.wrap ((IntKind.i64.wrap y) - w) else IntKind.i64.wrap ((IntKind.i64.wrap y) + w)

theorem turnN_eq (y : UInt8) (m : Nat) (hm : m < 8) : IntKind.u8.wrap (turnN (y.toNat : Int) ((2 ^ m : Nat) : Int)) = ((xorB y m).toNat : Int) := by
  have : ∀ n : Nat, n < 256 → ∀ m : Nat, m < 8 → IntKind.u8.wrap (turnN (n : Int) ((2 ^ m : Nat) : Int)) = ((xorB (UInt8.ofNat n) m).toNat : Int) := by decide +kernel
  have h := this y.toNat y.toNat_lt m hm
  simpa using h

theorem rTurn_spec (p : Option Addr) (L : Lm) (i bit : Int) (hb1 : i64 bit) : Ct Pr F_ref20_Line_Turn [.pointer p, .int .i64 i, .int .i64 bit] .one [.int .i64] [RefObj p L] emp
    (fun t Bs => t.1 = (turnL L i bit).2 ∧ Bs = [RefObj p (turnL L i bit).1]) := by
  refine spec1 c_ref20_Line_Turn fun B _ => ?_
  unfold ref20_Line_Turn
  obtain ⟨hbl, hbh⟩ := hb1
  refine xref 0 fun h64 hb b s t rs hp hl => ?_
  subst hp
  refine xlen s fun hn hc => ?_
  refine xlen t fun htn _ => ?_
  rw [List.length_map] at htn
  refine xcall1 0 (there_spec b s t i) rdb ?_
  rintro ⟨c, _⟩ _ ⟨h1, rfl⟩
  simp only at h1
  have h1' : c = inL L i := by rw [h1, inL, ← hl, hn]
  refine app1 (ca1 (xif (fun h => ?_) (fun h => ?_)))
  · have hf : inL L i = false := by rw [← h1']; simpa using h
    refine xref_back 0 0 0 0 h64 hb (xret ?_)
    simp only [turnL, hf, Bool.false_eq_true, if_false, and_self]
  have hf : inL L i = true := by rw [← h1']; simpa using h
  have hi : 0 ≤ i ∧ i < L.length := by simpa [inL] using hf
  obtain ⟨k, rfl⟩ : ∃ k : Nat, i = k := ⟨i.toNat, by omega⟩
  have hkL : k < L.length := by omega
  have hg : L.getD k ([], false) = L[k] := by simp [hkL]
  have gr := List.getElem?_eq_getElem (l := rs) (i := k) (by omega)
  have hy : (L.map fun x : List UInt8 × Bool => x.1)[k]? = some L[k].1 := by rw [List.getElem?_map, List.getElem?_eq_getElem hkL]; rfl
  have gt : (L.map fun x : List UInt8 × Bool => x.2)[k]? = some L[k].2 := by rw [List.getElem?_map, List.getElem?_eq_getElem hkL]; rfl
  refine xunf 3 [Ar U8 rs[k] L[k].1, Each (Ar U8) (rs.eraseIdx k) ((L.map fun x : List UInt8 × Bool => x.1).eraseIdx k)] (fun g hg => each_pick hg gr hy) (app2 ?_)
  refine xlen rs[k] fun hbn hbc => ?_
  have hbk : L[k].1.length ≤ 4096 := hb _ (List.getElem_mem _)
  have hback : ∀ {φ : WP}, Ent B [RefObj (some ⟨b, 0, none⟩) L] φ → Ent B [Ar U8 rs[k] L[k].1, Each (Ar U8) (rs.eraseIdx k) ((L.map fun x : List UInt8 × Bool => x.1).eraseIdx k), Blk b [s.v, t.v], Ar SL s rs, Ar BL t (L.map fun x : List UInt8 × Bool => x.2)] φ := fun {φ} hφ => by
    refine xfold2 (Q := Each (Ar U8) rs (L.map fun x : List UInt8 × Bool => x.1)) 0 0 (fun g hg => ?_) ?_
    · have := each_put (x := rs[k]) (y := L[k].1) (i := k) (by omega) (by simpa using hkL) hg
      rw [List.set_getElem_self] at this
      have e : (L.map fun x : List UInt8 × Bool => x.1).set k L[k].1 = L.map fun x : List UInt8 × Bool => x.1 := by
        apply List.ext_getElem?
        intro j
        by_cases hj : k = j
        · subst hj; rw [List.getElem?_set_self (by simpa using hkL), hy]
        · rw [List.getElem?_set_ne hj]
      rwa [e] at this
    · exact xref_back 1 1 1 0 h64 hb hφ
  have hq : 0 ≤ bit → IntKind.i64.wrap (bit.tdiv 8) = ((bit.toNat / 8 : Nat) : Int) := fun h => by
    have : bit.tdiv 8 = ((bit.toNat / 8 : Nat) : Int) := by
      rw [Int.tdiv_eq_ediv_of_nonneg (by omega)]; omega
    rw [this, wrap_id _ (by omega) (by omega)]
  refine xjoin1 (fun x As' => x = decide (bit < 0 ∨ L[k].1.length ≤ bit.toNat / 8) ∧ As' = [Ar U8 rs[k] L[k].1, Each (Ar U8) (rs.eraseIdx k) ((L.map fun x : List UInt8 × Bool => x.1).eraseIdx k), Blk b [s.v, t.v], Ar SL s rs, Ar BL t (L.map fun x : List UInt8 × Bool => x.2)]) ?_ ?_
  · intro K hK
    refine xif_dec (fun h => hK _ _ ⟨by simp [h], rfl⟩) (fun h => ?_)
    refine xasrt (by decide) (xnil (xget (h := ?_)))
    refine xidxn (h1 := by omega) (h := fun _ _ => ?_)
    refine xgetE gr (h := ?_)
    refine hK _ _ ⟨?_, rfl⟩
    rw [hq (by omega), ← hbn]
    simp [h]
    omega
  rintro _ _ ⟨rfl, rfl⟩
  refine xif_dec (fun h => ?_) (fun h => ?_)
  · refine hback (xret ?_)
    have h' : bit < 0 ∨ (L.getD k ([], false)).1.length ≤ bit.toNat / 8 := by rw [hg]; exact h
    simp only [turnL, hf, if_true, Int.toNat_natCast, if_pos h', and_self]
  have h' : ¬ (bit < 0 ∨ (L.getD k ([], false)).1.length ≤ bit.toNat / 8) := by rw [hg]; exact h
  have hR := h
  refine xnil (xget (h := ?_))
  refine xidxn (h1 := by simp; omega) (h := fun _ _ => ?_)
  refine xgetE gt (h := xif (fun h7 => ?_) (fun h7 => ?_))
  · refine hback (xret ?_)
    simp only [turnL, hf, if_true, Int.toNat_natCast, hg, if_neg h, h7, and_self]
  have hm : bit.tmod 8 = ((bit.toNat % 8 : Nat) : Int) := by
    rw [Int.tmod_eq_emod_of_nonneg (by omega)]; omega
  rw [hm, hq (by omega)]
  refine xloop2 (fun n w j As => ∃ m : Nat, j = (m : Int) ∧ w = ((2 ^ m : Nat) : Int) ∧ n = 8 - m ∧ m ≤ bit.toNat % 8 ∧ As = [Ar U8 rs[k] L[k].1, Each (Ar U8) (rs.eraseIdx k) ((L.map fun x : List UInt8 × Bool => x.1).eraseIdx k), Blk b [s.v, t.v], Ar SL s rs, Ar BL t (L.map fun x : List UInt8 × Bool => x.2)]) 8 ⟨0, rfl, rfl, rfl, by omega, rfl⟩ ?_
  rintro n _ _ _ K ⟨m, rfl, rfl, rfl, hm8, rfl⟩ hK
  have hpow : 2 ^ m ≤ 2 ^ 7 := Nat.pow_le_pow_right (by omega) (by omega)
  have hpos : 0 < 2 ^ m := Nat.pow_pos (by omega)
  refine xasrt (by decide) (xif_dec (fun h => ?_) (fun h => ?_))
  · rw [wrap_succ m (by omega), wrap_id _ (by omega) (by omega)]
    refine hK (8 - (m + 1)) _ _ _ (by omega) ⟨m + 1, rfl, ?_, rfl, by omega, rfl⟩
    rw [Nat.pow_succ]; show (_ : Int) = _; omega
  have hmm : m = bit.toNat % 8 := by omega
  subst hmm
  refine xnil (xget (h := ?_))
  refine xidxn (h1 := by omega) (h := fun _ _ => ?_)
  refine xgetE gr (h := xasrt (by decide) ?_)
  refine xidxn (h1 := by omega) (h := fun y hyy => ?_)
  refine xgetE hyy (h := xasrt (by omega) (xasrt (by decide) ?_))
  refine xjoin1 (fun x As' => x = turnN (y.toNat : Int) ((2 ^ (bit.toNat % 8) : Nat) : Int) ∧ As' = [Ar U8 rs[k] L[k].1, Each (Ar U8) (rs.eraseIdx k) ((L.map fun x : List UInt8 × Bool => x.1).eraseIdx k), Blk b [s.v, t.v], Ar SL s rs, Ar BL t (L.map fun x : List UInt8 × Bool => x.2)]) ?_ ?_
  · intro J hJ
    refine xif (fun g => hJ _ _ ⟨?_, rfl⟩) (fun g => hJ _ _ ⟨?_, rfl⟩)
    · rw [turnN, if_pos g]
    · rw [turnN, if_neg (by rw [g]; simp)]
  rintro _ _ ⟨rfl, rfl⟩
  refine xnil (xget (h := ?_))
  refine xidxn (h1 := by omega) (h := fun _ _ => ?_)
  refine xgetE gr (h := xasrt (by decide) ?_)
  refine xidxn (h1 := by omega) (h := fun _ _ => ?_)
  rw [turnN_eq _ _ (by omega)]
  refine xsetE (xorB y (bit.toNat % 8)) hyy (hv := rfl) (h := xnil (xget (h := ?_)))
  refine xidxn (h1 := by simp; omega) (h := fun _ _ => ?_)
  refine xsetE true gt (hv := rfl) (h := ?_)
  have hfl : L[k].1.set (bit.toNat / 8) (xorB y (bit.toNat % 8)) = flipB L[k].1 bit.toNat := by
    simp [flipB, hyy]
  rw [hfl]
  refine xfold2 (Q := Each (Ar U8) rs ((L.set k (flipB L[k].1 bit.toNat, true)).map fun x : List UInt8 × Bool => x.1)) 0 0 (fun g hg => ?_) ?_
  · have := each_put (x := rs[k]) (y := flipB L[k].1 bit.toNat) (i := k) (by omega) (by simpa using hkL) hg
    rw [List.set_getElem_self] at this
    rw [List.map_set]; exact this
  have e2 : (L.map fun x : List UInt8 × Bool => x.2).set k true = (L.set k (flipB L[k].1 bit.toNat, true)).map fun x : List UInt8 × Bool => x.2 := by rw [List.map_set]
  rw [e2]
  refine xref_back 1 1 1 0 (by simpa using h64) ?_ (xret ?_)
  · intro l hl'
    rcases List.mem_or_eq_of_mem_set hl' with h | h
    · exact hb l h
    · subst h; simpa [flipB] using hbk
  · simp only [turnL, hf, if_true, Int.toNat_natCast, hg, if_neg hR, h7, Bool.false_eq_true, if_false, and_self]

end Go.Cx
