/-
  The line.
-/
import Derived.Test.YtdbdnlahimbcaaaK
namespace Go.Cx
open Go Go.Cf
set_option linter.unusedVariables false

variable {B : Base} {As : List HP}

theorem xcall3 (i j k : Nat) {P : Program} {f : FuncId} {args : List Value} {rs : Rs} {ss : List Sh} {rd : HP} {post : Tup ss → List HP → Prop} {K : Cur ss} {P1 P2 P3 : HP} {F F' F'' : List HP} [p : Pick i As P1 F] [q : Pick j F P2 F'] [r : Pick k F' P3 F'']
    (sp : Ct P f args rs ss [P1, P2, P3] rd post) (hrd : Rds B F'' rd) (h : ∀ t Bs, post t Bs → Ent B (Bs ++ F'') (Cur.app ss K t)) : Ent B As (XCall P f args rs ss K) :=
  xcall sp (p.perm.trans (((q.perm.trans (r.perm.cons P2))).cons P1)) hrd h

def ROW : Enc (Sl × Bool) := ⟨fun x => [x.1.v, .bool x.2], 2, fun _ => rfl, fun x v h => by simp at h; rcases h with rfl | rfl <;> rfl, by decide, (⟨none, 0, 0⟩, false)⟩

theorem has_spec (b : Nat) (s : Sl) (i : Int) : Ct Pr F_line_queue_line_row__has [.pointer (some ⟨b, 0, none⟩), .int .i64 i] .one [.bool] [Blk b [s.v]] emp (fun t Bs => t.1 = (decide (i ≥ 0) && decide (i < s.n)) ∧ Bs = [Blk b [s.v]]) := by
  refine spec1 c_line_queue_line_row__has fun B _ => ?_
  unfold line_queue_line_row__has
  refine xjoin (xif_dec (fun h => ?_) (fun h => ?_))
  · exact xnil (xget (h := xret ⟨by simp [h], rfl⟩))
  · exact xret ⟨by simp [h], rfl⟩

theorem put_spec (b : Nat) (s : Sl) (rs : List (Sl × Bool)) (x : Sl) (t : Bool) : Ct Pr F_line_queue_line_row__put [.pointer (some ⟨b, 0, none⟩), .agg #[x.v, .bool t]] .one [.bool] [Blk b [s.v], Ar ROW s rs] emp
    (fun r Bs => (rs.length < 64 ∧ r.1 = true ∧ ∃ s', Bs = [Blk b [s'.v], Ar ROW s' (rs ++ [(x, t)])]) ∨ (64 ≤ rs.length ∧ r.1 = false ∧ Bs = [Blk b [s.v], Ar ROW s rs])) := by
  refine spec1 c_line_queue_line_row__put fun B _ => ?_
  unfold line_queue_line_row__put
  refine xlen s fun hl hc => ?_
  refine xnew fun b1 => xnil (xget (h := xif_dec (fun h => ?_) (fun h => ?_)))
  · exact xdrop 0 (xret (.inr ⟨by omega, rfl, rfl⟩))
  · refine xdraw (xnil (xget (h := xget (h := xget (h := xnew fun b2 => ?_)))))
    refine xapp1 (x, t) (hb := by omega) (h := fun s' => xnil (xset (h := ?_)))
    exact xdrop 0 (xret (.inl ⟨by omega, rfl, s', rfl⟩))

theorem Delete_spec (s : Sl) (rs : List (Sl × Bool)) (k : Nat) (hk : k < rs.length) (h63 : rs.length ≤ 9223372036854775807) : Ct Pr F_slices_Delete_L_line_row_line_row_ [s.v, .int .i64 (k : Int), .int .i64 ((k + 1 : Nat) : Int)] .one [.slice] [Ar ROW s rs] emp
    (fun t Bs => Bs = [Ar ROW t.1 (rs.eraseIdx k)]) := by
  refine spec1 c_slices_Delete_L_line_row_line_row_ fun B _ => ?_
  unfold slices_Delete_L_line_row_line_row_
  refine xlen s fun hl hc => ?_
  refine xslc (by omega) (by omega) (by omega) (by omega) ?_
  refine xiff (by simp; omega) (xdraw ?_)
  refine xslc (by omega) (by omega) (by omega) (by omega) ?_
  refine xslc (by omega) (by omega) (by omega) (by omega) ?_
  refine xars 0 fun zs _ hzl => ?_
  obtain ⟨p, n, c⟩ := s
  simp only at hl hc hzl
  refine xshift k (rs.take k) (rs.drop k ++ zs) (by rw [← List.append_assoc, List.take_append_drop]) (by simp; omega) ?_
  have e1 : (⟨p, n, c⟩ : Sl).cut (Int.toNat 0) (Int.toNat (k : Int)) (Int.toNat ((c : Nat) : Int)) 2 = ⟨p, k, c⟩ := cut_zero ⟨p, n, c⟩ k 2
  rw [e1]
  show Ent B (Ars ROW ⟨p, k, c⟩ (rs.take k) (rs.drop k ++ zs) :: []) _
  refine xapp_in (ys := rs.drop (k + 1)) (fun g hg => ?_) (by simp; omega) (by omega) (h := ?_)
  · have h1 : Ars ROW ⟨p, n, c⟩ rs zs g := hg.shift (by rw [← List.append_assoc, List.take_append_drop]) hl
    have h2 := h1.read.cut (k + 1) n c (by omega) hc (by omega)
    rw [List.take_of_length_le (by omega)] at h2
    exact h2
  have e2 : k + ((⟨p, n, c⟩ : Sl).cut (Int.toNat ((k + 1 : Nat) : Int)) (Int.toNat (n : Int)) (Int.toNat (c : Int)) 2).n = n - 1 := by
    show k + ((n : Int).toNat - ((k + 1 : Nat) : Int).toNat) = n - 1
    omega
  rw [e2]
  refine xslc (by simp) (by simp only; omega) (by simp only; omega) (by simp) ?_
  have hlen : (rs.take k ++ rs.drop (k + 1)).length = n - 1 := by simp; omega
  have e3 : Int.toNat (((n - 1 : Nat)) : Int) = (rs.take k ++ rs.drop (k + 1)).length := by rw [hlen]; rfl
  show Ent B _ (XClear Pr T_L_line_row T___ (Sl.cut ⟨p, n - 1, c⟩ (Int.toNat ((n - 1 : Nat) : Int)) (Int.toNat (n : Int)) (Int.toNat (c : Int)) 2).v _)
  rw [e3]
  refine xclr (by rw [hlen]; simp only [Int.toNat_natCast]; omega) (by rw [hlen]; simp only [Int.toNat_natCast]; omega) (by rw [hlen]; simp only [Int.toNat_natCast, List.length_drop, List.length_append]; omega) (by simp only; omega) (h := ?_)
  refine xret ?_
  rw [List.eraseIdx_eq_take_drop_succ]

theorem take_spec (b : Nat) (s : Sl) (rs : List (Sl × Bool)) (k : Nat) (x : Sl × Bool) (hx : rs[k]? = some x) (h63 : rs.length < 9223372036854775807) : Ct Pr F_line_queue_line_row__take [.pointer (some ⟨b, 0, none⟩), .int .i64 (k : Int)] .agg [.slice, .bool] [Blk b [s.v], Ar ROW s rs] emp
    (fun r Bs => r.1 = x.1 ∧ r.2.1 = x.2 ∧ ∃ s', Bs = [Blk b [s'.v], Ar ROW s' (rs.eraseIdx k)]) := by
  have hk : k < rs.length := (List.getElem?_eq_some_iff.1 hx).1
  refine spec2 c_line_queue_line_row__take fun B _ => ?_
  unfold line_queue_line_row__take
  refine xnew fun b1 => xnil (xget (h := ?_))
  refine xidxn (h1 := hk) (h := fun y hy => ?_)
  obtain rfl : x = y := by rw [hx] at hy; exact Option.some.inj hy
  refine xgetE hx (h := ?_)
  refine xgetEj hx (h := xnew fun b2 => xset (h := ?_))
  refine xset (h := xnil (xget (h := ?_)))
  rw [wrap_succ k (by omega)]
  refine xcall1 3 (Delete_spec s rs k hk (by omega)) rdb ?_
  rintro ⟨s', _⟩ _ rfl
  refine app1 (xnil (xset (h := ?_)))
  refine xget (h := xget (h := xset (h := ?_)))
  refine xset (h := xget (h := xget (h := ?_)))
  refine xdrop 1 (xdrop 1 (Ent.perm (List.Perm.swap _ _ _) (xret ⟨rfl, rfl, s', rfl⟩)))

/-! The line as a whole. -/
def RowR (r : Sl × Bool) (l : List UInt8 × Bool) : HP := fun h => r.2 = l.2 ∧ Ar U8 r.1 l.1 h

def LineRaw (b : Nat) (L : List (List UInt8 × Bool)) (s : Sl) (rs : List (Sl × Bool)) : List HP := [Blk b [s.v], Ar ROW s rs, Each RowR rs L]

def LineObj (p : Option Addr) (L : List (List UInt8 × Bool)) : HP := fun h => L.length ≤ 64 ∧ (∀ l ∈ L, l.1.length ≤ 4096) ∧ ∃ b s rs, p = some ⟨b, 0, none⟩ ∧ star [Blk b [s.v], Ar ROW s rs, Each RowR rs L] h

theorem xline (i : Nat) {p : Option Addr} {L : List (List UInt8 × Bool)} {F : List HP} [q : Pick i As (LineObj p L) F] {φ : WP}
    (k : L.length ≤ 64 → (∀ l ∈ L, l.1.length ≤ 4096) → ∀ b s rs, p = some ⟨b, 0, none⟩ → rs.length = L.length → Ent B (Blk b [s.v] :: Ar ROW s rs :: Each RowR rs L :: F) φ) : Ent B As φ := by
  refine Ent.perm q.perm ?_
  intro w hw
  obtain ⟨g, ⟨a, c, ⟨h64, hb, b, s, rs, hp, pa⟩, pc, d, sa, sc⟩, hm, hu⟩ := hw
  have hl : rs.length = L.length := by
    obtain ⟨_, _, _, ⟨_, _, _, ⟨_, _, pe, _⟩, _⟩, _⟩ := pa
    exact pe.length
  exact k h64 hb b s rs hp hl w ⟨g, (star_append [_, _, _] F).2 ⟨a, c, pa, pc, d, sa, sc⟩, hm, hu⟩

theorem xline_back (i j l : Nat) {b : Nat} {s : Sl} {rs : List (Sl × Bool)} {L : List (List UInt8 × Bool)} {F F' F'' : List HP} [p : Pick i As (Blk b [s.v]) F] [q : Pick j F (Ar ROW s rs) F'] [r : Pick l F' (Each RowR rs L) F''] {φ : WP}
    (h64 : L.length ≤ 64) (hb : ∀ l ∈ L, l.1.length ≤ 4096) (k : Ent B (LineObj (some ⟨b, 0, none⟩) L :: F'') φ) : Ent B As φ :=
  xfold3 i j l (fun g hg => ⟨h64, hb, b, s, rs, rfl, hg⟩) k

theorem lay_raw (b : Nat) (s : Sl) (rs : List (Sl × Bool)) (r : Sl) (bs : List UInt8) (t : Bool) (Q : HP) (hbs : bs.length ≤ 4096) : Ct Pr F_line_Line_lay [.pointer (some ⟨b, 0, none⟩), .agg #[r.v, .bool t]] .one [.int .i64] [Blk b [s.v], Ar ROW s rs, Q]
    (fun h => RAr U8 r bs h ∨ ∀ h', Q h' → RAr U8 r bs h')
    (fun r Bs => (rs.length < 64 ∧ r.1 = 0 ∧ ∃ s' r', Bs = [Blk b [s'.v], Ar ROW s' (rs ++ [(r', t)]), Ar U8 r' bs, Q]) ∨ (64 ≤ rs.length ∧ r.1 = 9 ∧ Bs = [Blk b [s.v], Ar ROW s rs, Q])) := by
  refine spec1 c_line_Line_lay fun B hr => ?_
  unfold line_Line_lay
  refine xnew fun b1 => xdraw (xnil (xget (h := xget (h := ?_))))
  have hrd : Rds B [Blk b1 [r.v, .bool t], Blk b [s.v], Ar ROW s rs, Q] (RAr U8 r bs) := by
    rcases hr with hr | hr
    · have : Fro B r U8 bs := ⟨hr⟩
      exact rdb
    · refine rds_of fun g _ hF hs hm => ?_
      obtain ⟨_, g1, _, ⟨_, g2, _, ⟨_, g3, _, ⟨g4, _, hq, _, _, s4, _⟩, _, _, s3⟩, _, _, s2⟩, _, _, s1⟩ := hs
      exact (hr _ hq).mono (((s4.trans s3).trans (s2.trans s1)).trans hm)
  refine xcall0 (Clone_spec r bs (by omega)) hrd ?_
  rintro ⟨r', _⟩ _ rfl
  refine app1 (xchk (h := ?_))
  refine xcall2 2 2 (put_spec b s rs r' t) rdb ?_
  rintro ⟨c, _⟩ _ (⟨h1, h2, s', rfl⟩ | ⟨h1, h2, rfl⟩)
  · simp only at h2
    subst h2
    refine app2 (xiff (by rfl) ?_)
    exact xdrop 3 (xret (.inl ⟨h1, rfl, s', r', rfl⟩))
  · simp only at h2
    subst h2
    refine app2 (xift (by rfl) ?_)
    exact xdrop 3 (xdrop 2 (xret (.inr ⟨h1, rfl, rfl⟩)))

/-! What a line does, as a law of lists. -/
abbrev Lm := List (List UInt8 × Bool)
def inL (L : Lm) (i : Int) : Bool := decide (i ≥ 0) && decide (i < L.length)
def layL (L : Lm) (x : List UInt8 × Bool) : Lm × Int := if L.length < 64 then (L ++ [x], 0) else (L, 9)
def takeL (L : Lm) (i : Int) : Lm × List UInt8 × Int := if inL L i then (L.eraseIdx i.toNat, (L.getD i.toNat ([], false)).1, 0) else (L, [], 6)
def doubleL (L : Lm) (i : Int) : Lm × Int := if inL L i then layL L (L.getD i.toNat ([], false)) else (L, 6)

theorem New_spec : Ct Pr F_line_New [] .one [.ptr] [] emp (fun r Bs => (∃ b, r.1 = some ⟨b, 0, none⟩) ∧ Bs = [LineObj r.1 []]) := by
  refine spec1 c_line_New fun B _ => ?_
  unfold line_New
  refine xnew fun b => xnone ROW ?_
  refine xclose (As' := [LineObj (some ⟨b, 0, none⟩) []]) (fun g hg => star_in ⟨by simp, by simp, b, ⟨none, 0, 0⟩, [], rfl, ?_⟩) (xret ⟨⟨b, rfl⟩, rfl⟩)
  have h2 := star_swap hg
  obtain ⟨a, c, pa, ⟨a2, c2, pa2, pc2, d2, sa2, sc2⟩, d, sa, sc⟩ := h2
  exact ⟨a, c, pa, ⟨a2, c2, pa2, ⟨c2, fun _ => none, trivial, trivial, fun _ => .inr rfl, Sub.refl _, fun _ _ e => by cases e⟩, d2, sa2, sc2⟩, d, sa, sc⟩

theorem Len_spec (p : Option Addr) (L : Lm) : Ct Pr F_line_Line_Len [.pointer p] .one [.int .i64] [LineObj p L] emp (fun r Bs => r.1 = L.length ∧ Bs = [LineObj p L]) := by
  refine spec1 c_line_Line_Len fun B _ => ?_
  unfold line_Line_Len
  refine xline 0 fun h64 hb b s rs hp hl => ?_
  subst hp
  refine xlen s fun hn hc => xnil (xget (h := ?_))
  refine xline_back 0 0 0 h64 hb (xret ⟨by rw [← hn, hl], rfl⟩)

theorem each_lay {rs : List (Sl × Bool)} {L : Lm} {r : Sl} {bs : List UInt8} {t : Bool} {g : Frag} (h : star [Ar U8 r bs, Each RowR rs L] g) : Each RowR (rs ++ [(r, t)]) (L ++ [(bs, t)]) g := by
  refine each_snoc ?_
  exact star_swap (star_imp (fun q hq => ⟨rfl, hq⟩) h)

theorem Put_spec (p : Option Addr) (L : Lm) (r : Sl) (bs : List UInt8) (hbs : bs.length ≤ 4096) : Ct Pr F_line_Line_Put [.pointer p, r.v] .one [.int .i64] [LineObj p L] (RAr U8 r bs)
    (fun t Bs => t.1 = (layL L (bs, false)).2 ∧ Bs = [LineObj p (layL L (bs, false)).1]) := by
  refine spec1 c_line_Line_Put fun B hr => ?_
  unfold line_Line_Put
  refine xline 0 fun h64 hb b s rs hp hl => ?_
  subst hp
  refine xcall3 0 0 0 (lay_raw b s rs r bs false (Each RowR rs L) hbs) (rds_of fun g hs _ _ _ => .inl (hr.mono hs)) ?_
  rintro ⟨c, _⟩ _ (⟨h1, h2, s', r', rfl⟩ | ⟨h1, h2, rfl⟩)
  · simp only at h2
    subst h2
    refine app4 (ca1 (xfold2 2 2 (fun g hg => each_lay (t := false) hg) ?_))
    refine xline_back 1 1 0 (by simp; omega) ?_ (xret ?_)
    · intro l hl'
      rcases List.mem_append.1 hl' with h | h
      · exact hb l h
      · simp at h; subst h; exact hbs
    · simp only [layL, ← hl, if_pos h1, and_self]
  · simp only at h2
    subst h2
    refine app3 (ca1 (xline_back 0 0 0 h64 hb (xret ?_)))
    simp only [layL, ← hl, if_neg (show ¬ rs.length < 64 by omega), and_self]

theorem Take_spec (p : Option Addr) (L : Lm) (i : Int) : Ct Pr F_line_Line_Take [.pointer p, .int .i64 i] (.tup [none, none]) [.slice, .int .i64] [LineObj p L] emp
    (fun t Bs => t.2.1 = (takeL L i).2.2 ∧ Bs = [LineObj p (takeL L i).1, Ar U8 t.1 (takeL L i).2.1]) := by
  refine spec2 c_line_Line_Take fun B _ => ?_
  unfold line_Line_Take
  refine xline 0 fun h64 hb b s rs hp hl => ?_
  subst hp
  refine xlen s fun hn hc => xnil ?_
  refine xcall1 0 (has_spec b s i) rdb ?_
  rintro ⟨c, _⟩ _ ⟨h1, rfl⟩
  simp only at h1
  have h1' : c = inL L i := by rw [h1, inL, ← hl, hn]
  refine app1 (xif (fun h => ?_) (fun h => ?_))
  · have hf : inL L i = false := by rw [← h1']; simpa using h
    refine xnone U8 ?_
    refine xline_back 1 1 1 h64 hb (xret ?_)
    simp only [takeL, hf, Bool.false_eq_true, if_false, and_self]
  · have hf : inL L i = true := by rw [← h1']; simpa using h
    have hi : 0 ≤ i ∧ i < L.length := by simpa [inL] using hf
    obtain ⟨k, rfl⟩ : ∃ k : Nat, i = k := ⟨i.toNat, by omega⟩
    have hx := List.getElem?_eq_getElem (l := rs) (i := k) (by omega)
    have hy := List.getElem?_eq_getElem (l := L) (i := k) (by omega)
    refine xnil ?_
    refine xcall2 0 0 (take_spec b s rs k rs[k] hx (by omega)) rdb ?_
    rintro ⟨u, t, _⟩ _ ⟨hu, ht, s', rfl⟩
    simp only at hu ht
    subst hu ht
    refine app2 (ca2 (xunf 2 [RowR rs[k] L[k], Each RowR (rs.eraseIdx k) (L.eraseIdx k)] (fun g hg => each_pick hg hx hy) (app2 ?_)))
    refine xfold1 (Q := Ar U8 rs[k].1 L[k].1) 0 (fun g hg => hg.2) ?_
    refine xline_back 2 2 1 (by rw [List.length_eraseIdx]; split <;> omega) (fun l hl => hb l (List.mem_of_mem_eraseIdx hl)) (xret ?_)
    simp [takeL, hf, hy]

theorem Lose_spec (p : Option Addr) (L : Lm) (i : Int) : Ct Pr F_line_Line_Lose [.pointer p, .int .i64 i] .one [.int .i64] [LineObj p L] emp
    (fun t Bs => t.1 = (takeL L i).2.2 ∧ Bs = [LineObj p (takeL L i).1]) := by
  refine spec1 c_line_Line_Lose fun B _ => ?_
  unfold line_Line_Lose
  refine xcall1 0 (Take_spec p L i) rdb ?_
  rintro ⟨u, t, _⟩ _ ⟨h1, rfl⟩
  exact app2 (ca2 (xdrop 1 (xret ⟨h1, rfl⟩)))

theorem Double_spec (p : Option Addr) (L : Lm) (i : Int) : Ct Pr F_line_Line_Double [.pointer p, .int .i64 i] .one [.int .i64] [LineObj p L] emp
    (fun t Bs => t.1 = (doubleL L i).2 ∧ Bs = [LineObj p (doubleL L i).1]) := by
  refine spec1 c_line_Line_Double fun B _ => ?_
  unfold line_Line_Double
  refine xline 0 fun h64 hb b s rs hp hl => ?_
  subst hp
  refine xlen s fun hn hc => xnil ?_
  refine xcall1 0 (has_spec b s i) rdb ?_
  rintro ⟨c, _⟩ _ ⟨h1, rfl⟩
  simp only at h1
  have h1' : c = inL L i := by rw [h1, inL, ← hl, hn]
  refine app1 (xif (fun h => ?_) (fun h => ?_))
  · have hf : inL L i = false := by rw [← h1']; simpa using h
    refine xline_back 0 0 0 h64 hb (xret ?_)
    simp only [doubleL, hf, Bool.false_eq_true, if_false, and_self]
  · have hf : inL L i = true := by rw [← h1']; simpa using h
    have hi : 0 ≤ i ∧ i < L.length := by simpa [inL] using hf
    obtain ⟨k, rfl⟩ : ∃ k : Nat, i = k := ⟨i.toNat, by omega⟩
    have hx := List.getElem?_eq_getElem (l := rs) (i := k) (by omega)
    have hy := List.getElem?_eq_getElem (l := L) (i := k) (by omega)
    refine xnil (xget (h := ?_))
    refine xidxn (h1 := by omega) (h := fun y hy' => ?_)
    obtain rfl : rs[k] = y := by rw [hx] at hy'; exact Option.some.inj hy'
    refine xgetE hx (h := ?_)
    refine xgetEj hx (h := ?_)
    have hbk : L[k].1.length ≤ 4096 := hb _ (List.getElem_mem _)
    refine xfact 2 (fun g hg => (each_read (R := RowR) (S := fun (r : Sl × Bool) (l : List UInt8 × Bool) (_ : Frag) => r.2 = l.2) (fun _ _ _ _ h _ => h) (fun _ _ _ h => h.1) hg hx hy)) fun ht => ?_
    refine xcall3 0 0 0 (lay_raw b s rs rs[k].1 L[k].1 rs[k].2 (Each RowR rs L) hbk) (rds_of fun g _ _ _ _ => .inr fun g' hg' => ?_) ?_
    · exact each_read (S := fun r l => RAr U8 r.1 l.1) (fun _ _ _ _ h s => h.mono s) (fun _ _ _ h => h.2.read) hg' hx hy
    rw [ht]
    rintro ⟨c, _⟩ _ (⟨h1, h2, s', r', rfl⟩ | ⟨h1, h2, rfl⟩)
    · simp only at h2
      subst h2
      refine app4 (ca1 (xfold2 2 2 (fun g hg => each_lay (t := L[k].2) hg) ?_))
      refine xline_back 1 1 0 (by simp; omega) ?_ (xret ?_)
      · intro l hl'
        rcases List.mem_append.1 hl' with h | h
        · exact hb l h
        · simp at h; subst h; exact hbk
      · have : L.length < 64 := by omega
        simp [doubleL, hf, layL, this, hy]
    · simp only at h2
      subst h2
      refine app3 (ca1 (xline_back 0 0 0 h64 hb (xret ?_)))
      have : ¬ L.length < 64 := by omega
      simp only [doubleL, hf, layL, if_neg this, if_true, and_self]

end Go.Cx
