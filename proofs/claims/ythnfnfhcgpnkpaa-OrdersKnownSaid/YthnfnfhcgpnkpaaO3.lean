/-
  A journal's file: what is laid is taken again.
  OrdersLeft.
  OrdersKept.
-/
import Derived.Test.YthnfnfhcgpnkpaaO2
namespace Go.Cx
open Go Go.Cf
set_option linter.unusedVariables false

theorem beV_be8 (v : Nat) (hv : v < 18446744073709551616) : beV (be8 v) = v := by
  have h : ∀ k, k ≤ 8 → beV ((be8 v).take k) = v / 256 ^ (8 - k) := by
    intro k
    induction k with
    | zero =>
      intro _
      have : v / 256 ^ 8 = 0 := Nat.div_eq_of_lt (by omega)
      show beV [] = v / 256 ^ 8
      rw [this]; rfl
    | succ k ih =>
      intro hk
      rw [beV_step (be8_get v (by omega)), ih (by omega), UInt8.toNat_ofNat', show 8 - k = (7 - k) + 1 by omega, show 8 - (k + 1) = 7 - k by omega, Nat.pow_succ, ← Nat.div_div_eq_div_mul]
      omega
  have := h 8 (by omega)
  rw [List.take_of_length_le (by rw [be8_len]; omega)] at this
  simpa using this

theorem frame_len (p : List UInt8) : (frameN p).length = 6 + p.length := by unfold frameN; rw [List.length_append]; rfl

theorem frLen_app (p q : List UInt8) (hp : p.length ≤ 1024) : frLen (frameN p ++ q) = p.length := by
  show (UInt8.ofNat (p.length / 256)).toNat * 256 + (UInt8.ofNat p.length).toNat = p.length
  rw [UInt8.toNat_ofNat', UInt8.toNat_ofNat']
  omega

theorem get_app (p q : List UInt8) (hp : p.length ≤ 1024) : getN (frameN p ++ q) = (p, 6 + p.length, 0) := by
  have hl : (frameN p ++ q).length = 6 + p.length + q.length := by rw [List.length_append, frame_len]
  have hf := frLen_app p q hp
  have hd : ((frameN p ++ q).take (6 + p.length)).drop 6 = p := by
    rw [List.take_append_of_le_length (by rw [frame_len]; exact Nat.le_refl _), List.take_of_length_le (by rw [frame_len]; exact Nat.le_refl _)]
    rfl
  have hc : crcOf (frameN p ++ q) = sumN p := (crc_iff (frameN p ++ q) p (by omega)).2 fun j _ hj => by
    rw [List.getElem?_append_left (by rw [frame_len]; omega)]
  unfold getN
  rw [if_neg (by omega), if_neg (by omega), if_neg (by omega), hf, hd, if_pos hc]

theorem get_part (p : List UInt8) (k : Nat) (hp : p.length ≤ 1024) (hk : k < 6 + p.length) : ¬ (getN ((frameN p).take k)).2.2 = 0 := by
  have hl : ((frameN p).take k).length = k := by rw [List.length_take, frame_len]; omega
  unfold getN
  by_cases h6 : k < 6
  · rw [if_pos (by omega)]; show ¬ (1 : Int) = 0; decide
  · have hf : frLen ((frameN p).take k) = p.length := by
      have := frLen_app p [] hp
      rw [List.append_nil] at this
      rw [← this]
      unfold frLen
      simp only [List.getD_eq_getElem?_getD]
      rw [List.getElem?_take_of_lt (by omega), List.getElem?_take_of_lt (by omega)]
    rw [if_neg (by omega), if_neg (by omega), if_pos (by omega)]; show ¬ (1 : Int) = 0; decide

def catF (H : List (List UInt8)) : List UInt8 := (H.map frameN).flatten
theorem catF_cons (p : List UInt8) (H : List (List UInt8)) : catF (p :: H) = frameN p ++ catF H := rfl
theorem catF_snoc (p : List UInt8) (H : List (List UInt8)) : catF (H ++ [p]) = catF H ++ frameN p := by simp [catF]

theorem scan_cat : ∀ (H : List (List UInt8)) (q : List UInt8), (∀ p ∈ H, p.length ≤ 1024) → scanN (catF H ++ q) = (H ++ (scanN q).1, (catF H).length + (scanN q).2)
  | [], q, _ => by simp [catF]
  | p :: H, q, h => by
    have hp := h p (List.mem_cons_self ..)
    have ih := scan_cat H q (fun p' hp' => h p' (List.mem_cons_of_mem _ hp'))
    rw [catF_cons, List.append_assoc]
    have hg := get_app p (catF H ++ q) hp
    have hd : (frameN p ++ (catF H ++ q)).drop (6 + p.length) = catF H ++ q := by
      rw [List.drop_left' (frame_len p)]
    rw [scan_ok (by rw [hg]), hg]
    dsimp only
    rw [hd, ih]
    simp [frame_len]; omega

theorem scan_part (p : List UInt8) (k : Nat) (hp : p.length ≤ 1024) (hk : k < 6 + p.length) : scanN ((frameN p).take k) = ([], 0) := scan_no (get_part p k hp hk)
theorem scan_whole (p : List UInt8) (hp : p.length ≤ 1024) : scanN (frameN p) = ([p], 6 + p.length) := by
  have := scan_cat [p] [] (by simpa using hp)
  simp only [catF, List.map_cons, List.map_nil, List.flatten_cons, List.flatten_nil, List.append_nil] at this
  rw [this]
  have e : scanN [] = ([], 0) := scan_no (by decide)
  rw [e, frame_len]; rfl

/-! Entries. -/
theorem cut_row (x : UInt8) (n : Nat) (ys : List UInt8) : cut8 (x :: (be8 n ++ ys)) 1 = be8 n := by
  unfold cut8
  show ((x :: (be8 n ++ ys)).take 9).drop 1 = be8 n
  rw [List.take_succ_cons]
  show (be8 n ++ ys).take 8 = be8 n
  rw [List.take_append_of_le_length (by rw [be8_len]; exact Nat.le_refl _), List.take_of_length_le (by rw [be8_len]; exact Nat.le_refl _)]

theorem row_begin (id : Int) : rowJ id (-1) = 1 :: (be8 id.toNat ++ []) := by unfold rowJ; simp
theorem row_end (id code : Int) (h : 0 ≤ code) : rowJ id code = 2 :: (be8 id.toNat ++ [UInt8.ofNat code.toNat]) := by
  unfold rowJ; rw [if_neg (by omega), if_neg (by omega)]; simp

theorem idOf_row (x : UInt8) {id : Int} (ys : List UInt8) (h : okId id = true) : ((idOf (x :: (be8 id.toNat ++ ys)) : Nat) : Int) = id := by
  have h' : 1 ≤ id ∧ id ≤ 1099511627776 := by simpa [okId] using h
  unfold idOf
  rw [cut_row, beV_be8 _ (by omega)]; omega

theorem take_begin {L : JL} {id : Int} (h : okId id = true) (h1 : lookM L id = none) (h2 : L.length < 1024) : takeJ L (rowJ id (-1)) = some (L ++ [(id, -1)]) := by
  have hl := rowJ_len id (-1)
  rw [if_pos (by decide)] at hl
  have hid := idOf_row 1 [] h
  rw [← row_begin] at hid
  unfold takeJ
  rw [hid, if_neg (by omega), if_neg (by rw [h]; simp), if_pos ⟨rfl, hl, h1, h2⟩]

theorem take_end {L : JL} {id c code : Int} (h : okId id = true) (h1 : lookM L id = some c) (h2 : c < 0) (h3 : 0 ≤ code) (h4 : code ≤ 255) : takeJ L (rowJ id code) = some (setM L id code) := by
  have hl := rowJ_len id code
  rw [if_neg (by omega)] at hl
  have hid := idOf_row 2 [UInt8.ofNat code.toNat] h
  rw [← row_end id code h3] at hid
  have h9 : (rowJ id code).getD 9 0 = UInt8.ofNat code.toNat := by
    rw [row_end id code h3]
    show (be8 id.toNat ++ [UInt8.ofNat code.toNat]).getD 8 0 = _
    rw [List.getD_eq_getElem?_getD, List.getElem?_append_right (by rw [be8_len]; exact Nat.le_refl _), be8_len]; rfl
  have h0 : (rowJ id code).getD 0 0 = 2 := by rw [row_end id code h3]; rfl
  unfold takeJ
  rw [hid, h0, h9, if_neg (by omega), if_neg (by rw [h]; simp), if_neg (fun h => absurd h.1 (by decide)), if_pos ⟨rfl, hl, by rw [h1]; exact h2⟩]
  rw [show (((UInt8.ofNat code.toNat).toNat : Nat) : Int) = code by rw [UInt8.toNat_ofNat']; omega]

theorem row_small (id code : Int) : (rowJ id code).length ≤ 10 := by rw [rowJ_len]; split <;> omega

theorem takes_snoc {H : List (List UInt8)} {L L' : JL} {p : List UInt8} (h : takesJ [] H = some L) (h' : takeJ L p = some L') : takesJ [] (H ++ [p]) = some L' := by
  rw [takes_app, h]
  show (match takeJ L p with | some L' => some L' | none => none) = _
  rw [h']

/-! The file. -/
theorem kcmd : cmdN.toList = [99, 109, 100] := key_lit [99, 109, 100]
theorem nmCmd : namedB cmdN = true := by decide
/-- A device that holds the frames of H, and q behind them, of which what is ahead of q is safe. -/
def FJ (m : DM) (H : List (List UInt8)) (q : List UInt8) : Prop := (m.fs = [] ∧ H = [] ∧ q = []) ∨ ∃ sy : Int, m.fs = [⟨cmdN, catF H ++ q, sy⟩] ∧ ((catF H).length : Int) ≤ sy ∧ sy ≤ ((catF H ++ q).length : Int)

theorem fj_whole {m : DM} {H : List (List UInt8)} (h : m.fs = [⟨cmdN, catF H, ((catF H).length : Int)⟩]) : FJ m H [] :=
  .inr ⟨((catF H).length : Int), by rw [h, List.append_nil], Int.le_refl _, by rw [List.append_nil]; exact Int.le_refl _⟩

theorem cmd_there (b : List UInt8) (sy : Int) : thereL [⟨cmdN, b, sy⟩] cmdN.toList = true ∧ findL [⟨cmdN, b, sy⟩] cmdN.toList = 0 := by
  simp [thereL, findL, DF.key, lt_irrefl]

theorem spend_cases (m : DM) : ((spendM m).2 = true ∧ (spendM m).1.down = m.down) ∨ ((spendM m).2 = false ∧ (spendM m).1.down = true) := by
  unfold spendM
  split
  · exact .inr ⟨rfl, rfl⟩
  split
  · exact .inl ⟨rfl, rfl⟩
  · exact .inl ⟨rfl, rfl⟩

theorem sync_cmd {m : DM} {b : List UInt8} {sy : Int} (hd : m.down = false) (hf : m.fs = [⟨cmdN, b, sy⟩]) :
    ((syncM m cmdN).2 = 0 ∧ (syncM m cmdN).1.down = false ∧ (syncM m cmdN).1.room = m.room ∧ (syncM m cmdN).1.fs = [⟨cmdN, b, b.length⟩]) ∨
    ((syncM m cmdN).2 = 10 ∧ (syncM m cmdN).1.down = true ∧ (syncM m cmdN).1.room = m.room ∧ (syncM m cmdN).1.fs = m.fs) := by
  obtain ⟨h1, h2⟩ := cmd_there b sy
  obtain ⟨q1, q2⟩ := spendM_fs m
  unfold syncM
  rw [onFile_ok hd (by rw [hf]; exact h1), hf, h2]
  unfold spent
  rcases spend_cases m with ⟨o, o'⟩ | ⟨o, o'⟩
  · rw [o]
    refine .inl ⟨rfl, o'.trans hd, q2, ?_⟩
    simp [q1, hf]
  · rw [o]
    exact .inr ⟨rfl, o', q2, q1.trans hf⟩

theorem trunc_cmd {m : DM} {b : List UInt8} {sy : Int} {n : Nat} (hd : m.down = false) (hf : m.fs = [⟨cmdN, b, sy⟩]) (hn : n ≤ b.length) :
    ((truncM m cmdN n).2 = 0 ∧ (truncM m cmdN n).1.down = false ∧ (truncM m cmdN n).1.room = m.room ∧ (truncM m cmdN n).1.fs = [⟨cmdN, b.take n, if (n : Int) < sy then n else sy⟩]) ∨
    ((truncM m cmdN n).2 = 10 ∧ (truncM m cmdN n).1.down = true ∧ (truncM m cmdN n).1.room = m.room ∧ (truncM m cmdN n).1.fs = m.fs) := by
  obtain ⟨h1, h2⟩ := cmd_there b sy
  obtain ⟨q1, q2⟩ := spendM_fs m
  unfold truncM
  rw [onFile_ok hd (by rw [hf]; exact h1), hf, h2]
  have hb : ¬ ((n : Int) < 0 ∨ (n : Int) > (([⟨cmdN, b, sy⟩] : List DF).getD 0 ⟨cmdN, [], 0⟩).b.length) := by
    show ¬ ((n : Int) < 0 ∨ (n : Int) > (b.length : Int)); omega
  simp only [hb, if_false]
  unfold spent
  rcases spend_cases m with ⟨o, o'⟩ | ⟨o, o'⟩
  · rw [o]
    refine .inl ⟨rfl, o'.trans hd, q2, ?_⟩
    simp [q1, hf]
  · rw [o]
    exact .inr ⟨rfl, o', q2, q1.trans hf⟩

theorem append_cmd {m : DM} {H : List (List UInt8)} {p : List UInt8} (hd : m.down = false) (hf : FJ m H []) (hr : ((catF H).length : Int) + (frameN p).length ≤ m.room) :
    (∃ sy : Int, (appendM m cmdN (frameN p)).2 = 0 ∧ (appendM m cmdN (frameN p)).1.down = false ∧ (appendM m cmdN (frameN p)).1.room = m.room ∧ (appendM m cmdN (frameN p)).1.fs = [⟨cmdN, catF H ++ frameN p, sy⟩] ∧ sy = (catF H).length) ∨
    ((appendM m cmdN (frameN p)).2 = 10 ∧ (appendM m cmdN (frameN p)).1.down = true ∧ (appendM m cmdN (frameN p)).1.room = m.room ∧ (appendM m cmdN (frameN p)).1.fs = m.fs) := by
  obtain ⟨q1, q2⟩ := spendM_fs m
  unfold appendM
  rw [nmCmd, hd]
  rcases hf with ⟨hf, rfl, _⟩ | ⟨sy, hf, hs1, hs2⟩
  · have ht : thereL m.fs cmdN.toList = false := by rw [hf]; rfl
    have hi : findL m.fs cmdN.toList = 0 := by rw [hf]; rfl
    have e1 : decide ((m.fs.length : Int) ≥ 64) = false := by rw [hf]; rfl
    have e2 : decide (((frameN p).length : Int) > m.room - (usedN m.fs : Int)) = false := decide_eq_false (by rw [hf]; simp [usedN, catF] at hr ⊢; omega)
    rw [ht, e1, e2, hi]
    rcases spend_cases m with ⟨o, o'⟩ | ⟨o, o'⟩
    · rw [o]
      refine .inl ⟨0, rfl, o'.trans hd, q2, ?_, rfl⟩
      simp [hf, insL, catF]
    · rw [o]
      exact .inr ⟨rfl, o', q2, q1⟩
  · rw [List.append_nil] at hf hs2
    obtain ⟨h1, h2⟩ := cmd_there (catF H) sy
    have hsy : sy = (catF H).length := by omega
    have ht : thereL m.fs cmdN.toList = true := by rw [hf]; exact h1
    have hi : findL m.fs cmdN.toList = 0 := by rw [hf]; exact h2
    have e2 : decide (((frameN p).length : Int) > m.room - (usedN m.fs : Int)) = false := decide_eq_false (by rw [hf]; simp [usedN]; omega)
    rw [ht, e2, hi]
    rcases spend_cases m with ⟨o, o'⟩ | ⟨o, o'⟩
    · rw [o]
      refine .inl ⟨sy, rfl, o'.trans hd, q2, ?_, hsy⟩
      simp [hf]
    · rw [o]
      exact .inr ⟨rfl, o', q2, q1⟩

theorem lay_cmd {m : DM} {H : List (List UInt8)} {p : List UInt8} (hd : m.down = false) (hf : FJ m H []) (hr : ((catF H).length : Int) + (frameN p).length ≤ m.room) :
    ((layJ m p).2 = 0 ∧ (layJ m p).1.down = false ∧ (layJ m p).1.room = m.room ∧ FJ (layJ m p).1 (H ++ [p]) []) ∨
    ((layJ m p).2 = 10 ∧ (layJ m p).1.down = true ∧ (layJ m p).1.room = m.room ∧ ∃ k, FJ (layJ m p).1 H ((frameN p).take k)) := by
  unfold layJ
  rcases append_cmd hd hf hr with ⟨sy, a1, a2, a3, a4, a5⟩ | ⟨a1, a2, a3, a4⟩
  · rw [if_pos a1]
    rcases sync_cmd a2 a4 with ⟨b1, b2, b3, b4⟩ | ⟨b1, b2, b3, b4⟩
    · exact .inl ⟨b1, b2, b3.trans a3, fj_whole (by rw [b4, catF_snoc])⟩
    · refine .inr ⟨b1, b2, b3.trans a3, (frameN p).length, .inr ⟨sy, ?_, by omega, ?_⟩⟩
      · rw [b4, a4, List.take_of_length_le (Nat.le_refl _)]
      · rw [List.length_append]; omega
  · rw [if_neg (by rw [a1]; decide)]
    refine .inr ⟨a1, a2, a3, 0, ?_⟩
    rcases hf with ⟨hf, h1, h2⟩ | ⟨sy, hf, h1, h2⟩
    · exact .inl ⟨a4.trans hf, h1, rfl⟩
    · exact .inr ⟨sy, a4.trans hf, h1, h2⟩

theorem wake_cmd {m : DM} {H : List (List UInt8)} {p : List UInt8} {k : Nat} (keep : Int) (hf : FJ m H ((frameN p).take k)) : ∃ k', FJ (wakeM m keep) H ((frameN p).take k') := by
  rcases hf with ⟨hf, h1, h2⟩ | ⟨sy, hf, h1, h2⟩
  · exact ⟨0, .inl ⟨by show m.fs.map _ = []; rw [hf]; rfl, h1, rfl⟩⟩
  · have hkp := keepN_le (f := ⟨cmdN, catF H ++ (frameN p).take k, sy⟩) ⟨by show (0 : Int) ≤ sy; omega, h2⟩ keep
    have hk1 : sy ≤ keepN keep ⟨cmdN, catF H ++ (frameN p).take k, sy⟩ := hkp.1
    have hk2 : keepN keep ⟨cmdN, catF H ++ (frameN p).take k, sy⟩ ≤ ((catF H ++ (frameN p).take k).length : Int) := hkp.2
    generalize hkn : keepN keep ⟨cmdN, catF H ++ (frameN p).take k, sy⟩ = kn at *
    have e : (catF H ++ (frameN p).take k).take kn.toNat = catF H ++ (frameN p).take (min (kn.toNat - (catF H).length) k) := by
      rw [List.take_append, List.take_of_length_le (by omega), List.take_take]
    refine ⟨min (kn.toNat - (catF H).length) k, .inr ⟨kn, ?_, by omega, ?_⟩⟩
    · show m.fs.map (wakeF keep) = _
      rw [hf]
      show [(⟨cmdN, (catF H ++ (frameN p).take k).take (keepN keep ⟨cmdN, catF H ++ (frameN p).take k, sy⟩).toNat, keepN keep ⟨cmdN, catF H ++ (frameN p).take k, sy⟩⟩ : DF)] = _
      rw [hkn, e]
    · rw [← e, List.length_take]; omega

theorem read_cmd {m : DM} {b : List UInt8} {sy : Int} (hf : m.fs = [⟨cmdN, b, sy⟩]) : readM m cmdN = (b, 0) := by
  obtain ⟨h1, h2⟩ := cmd_there b sy
  unfold readM
  rw [hf, h1, h2]; rfl

/-- An opening behind a failure of the power: the one list, or the other. -/
theorem open_cmd {m : DM} {H : List (List UInt8)} {p : List UInt8} {k : Nat} {L0 L1 : JL} (hd : m.down = false) (hf : FJ m H ((frameN p).take k)) (hp : p.length ≤ 1024) (hH : ∀ r ∈ H, r.length ≤ 1024) (h0 : takesJ [] H = some L0) (h1 : 6 + p.length ≤ k → takeJ L0 p = some L1) :
    (∃ H' L, (H' = H ∧ L = L0 ∨ 6 + p.length ≤ k ∧ H' = H ++ [p] ∧ L = L1) ∧ (openJ m).2.1 = 0 ∧ (openJ m).2.2 = some L ∧ (openJ m).1.down = false ∧ (openJ m).1.room = m.room ∧ FJ (openJ m).1 H' []) ∨
    ((openJ m).2.1 = 10 ∧ (openJ m).2.2 = none ∧ (openJ m).1.down = true ∧ (openJ m).1.room = m.room ∧ ∃ k', FJ (openJ m).1 H ((frameN p).take k')) := by
  rcases hf with ⟨hf, rfl, h2⟩ | ⟨sy, hf, hs1, hs2⟩
  · have e : openJ m = (m, 0, some []) := open_none hd (by unfold readM; rw [hf]; decide)
    rw [e]
    cases h0
    exact .inl ⟨[], [], .inl ⟨rfl, rfl⟩, rfl, rfl, hd, rfl, .inl ⟨hf, rfl, rfl⟩⟩
  have hread := read_cmd hf
  have hr2 : (readM m cmdN).2 = 0 := by rw [hread]
  have hl := frame_len p
  by_cases hk : k < 6 + p.length
  · have hsc : scanN (readM m cmdN).1 = (H, (catF H).length) := by
      rw [hread]; dsimp only
      rw [scan_cat H _ hH, scan_part p k hp hk]; simp
    have hgo := open_go hd hr2 (L := L0) (by rw [hsc]; exact h0)
    rw [hsc, hread] at hgo
    dsimp only at hgo
    have hlen : (catF H ++ (frameN p).take k).length = (catF H).length + k := by rw [List.length_append, List.length_take]; omega
    by_cases hk0 : (catF H).length < (catF H ++ (frameN p).take k).length
    · rcases trunc_cmd (n := (catF H).length) hd hf (by omega) with ⟨a1, a2, a3, a4⟩ | ⟨a1, a2, a3, a4⟩
      · have em : mendJ m (catF H).length (catF H ++ (frameN p).take k).length = syncM (truncM m cmdN (catF H).length).1 cmdN := by unfold mendJ; rw [if_pos hk0, if_neg (by rw [a1]; decide)]
        rw [em] at hgo
        rw [List.take_append_of_le_length (Nat.le_refl _), List.take_of_length_le (Nat.le_refl _)] at a4
        rcases sync_cmd a2 a4 with ⟨b1, b2, b3, b4⟩ | ⟨b1, b2, b3, b4⟩
        · rw [if_pos b1] at hgo
          rw [hgo]
          exact .inl ⟨H, L0, .inl ⟨rfl, rfl⟩, rfl, rfl, b2, b3.trans a3, fj_whole b4⟩
        · rw [if_neg (by rw [b1]; decide)] at hgo
          rw [hgo]
          refine .inr ⟨b1, rfl, b2, b3.trans a3, 0, .inr ⟨_, by rw [b4, a4, List.take_zero, List.append_nil], ?_, ?_⟩⟩
          · split <;> omega
          · rw [List.take_zero, List.append_nil]; split <;> omega
      · have em : mendJ m (catF H).length (catF H ++ (frameN p).take k).length = truncM m cmdN (catF H).length := by unfold mendJ; rw [if_pos hk0, if_pos (by rw [a1]; decide)]
        rw [em, if_neg (by rw [a1]; decide)] at hgo
        rw [hgo]
        exact .inr ⟨a1, rfl, a2, a3, k, .inr ⟨sy, a4.trans hf, hs1, hs2⟩⟩
    · have em : mendJ m (catF H).length (catF H ++ (frameN p).take k).length = syncM m cmdN := by unfold mendJ; rw [if_neg hk0]
      rw [em] at hgo
      have hk00 : k = 0 := by omega
      subst hk00
      rcases sync_cmd hd hf with ⟨b1, b2, b3, b4⟩ | ⟨b1, b2, b3, b4⟩
      · rw [if_pos b1] at hgo
        rw [hgo]
        rw [List.take_zero, List.append_nil] at b4
        exact .inl ⟨H, L0, .inl ⟨rfl, rfl⟩, rfl, rfl, b2, b3, fj_whole b4⟩
      · rw [if_neg (by rw [b1]; decide)] at hgo
        rw [hgo]
        exact .inr ⟨b1, rfl, b2, b3, 0, .inr ⟨sy, b4.trans hf, hs1, hs2⟩⟩
  · have hw : (frameN p).take k = frameN p := List.take_of_length_le (by omega)
    rw [hw] at hf hs2 hread
    have hsc : scanN (readM m cmdN).1 = (H ++ [p], (catF H ++ frameN p).length) := by
      rw [hread]; dsimp only
      rw [scan_cat H _ hH, scan_whole p hp, List.length_append, frame_len]
    have hgo := open_go hd hr2 (L := L1) (by rw [hsc]; exact takes_snoc h0 (h1 (by omega)))
    rw [hsc, hread] at hgo
    dsimp only at hgo
    have em : mendJ m (catF H ++ frameN p).length (catF H ++ frameN p).length = syncM m cmdN := by unfold mendJ; rw [if_neg (Nat.lt_irrefl _)]
    rw [em] at hgo
    rcases sync_cmd hd hf with ⟨b1, b2, b3, b4⟩ | ⟨b1, b2, b3, b4⟩
    · rw [if_pos b1] at hgo
      rw [hgo]
      exact .inl ⟨H ++ [p], L1, .inr ⟨by omega, rfl, rfl⟩, rfl, rfl, b2, b3, fj_whole (by rw [b4, catF_snoc])⟩
    · rw [if_neg (by rw [b1]; decide)] at hgo
      rw [hgo]
      exact .inr ⟨b1, rfl, b2, b3, k, .inr ⟨sy, by rw [b4, hf, hw], hs1, by rw [hw]; exact hs2⟩⟩

theorem catF_small : ∀ (H : List (List UInt8)), (∀ r ∈ H, r.length ≤ 10) → (catF H).length ≤ 16 * H.length
  | [], _ => Nat.le_refl _
  | p :: H, h => by
    have ih := catF_small H (fun r hr => h r (List.mem_cons_of_mem _ hr))
    have hp := h p (List.mem_cons_self ..)
    rw [catF_cons, List.length_append, frame_len, List.length_cons]
    omega

/-- What is so of a journal and its device. -/
structure KeptJ (m : DM) (H : List (List UInt8)) (L : JL) : Prop where
  up : m.down = false
  file : FJ m H []
  takes : takesJ [] H = some L
  small : ∀ r ∈ H, r.length ≤ 10

theorem kept_inv {m : DM} {H : List (List UInt8)} {L : JL} (h : KeptJ m H L) : JInv L := jinv_takes jinv_nil h.takes

/-- A call that lays. -/
theorem laid_kept {m : DM} {H : List (List UInt8)} {L L' : JL} {p : List UInt8} (h : KeptJ m H L) (hp : p.length ≤ 10) (ht : takeJ L p = some L') (hr : (16 * H.length + 16 : Int) ≤ m.room) :
    ((laidJ m ⟨false, L⟩ p L').2.2 = 0 ∧ (laidJ m ⟨false, L⟩ p L').2.1 = ⟨false, L'⟩ ∧ (laidJ m ⟨false, L⟩ p L').1.room = m.room ∧ KeptJ (laidJ m ⟨false, L⟩ p L').1 (H ++ [p]) L') ∨
    ((laidJ m ⟨false, L⟩ p L').2.2 = 10 ∧ (laidJ m ⟨false, L⟩ p L').2.1 = ⟨true, L⟩ ∧ (laidJ m ⟨false, L⟩ p L').1.room = m.room ∧ (laidJ m ⟨false, L⟩ p L').1.down = true ∧ ∃ k, FJ (laidJ m ⟨false, L⟩ p L').1 H ((frameN p).take k)) := by
  have hc := catF_small H h.small
  have hl := frame_len p
  unfold laidJ
  rcases lay_cmd (p := p) h.up h.file (by omega) with ⟨a1, a2, a3, a4⟩ | ⟨a1, a2, a3, a4⟩
  · rw [if_pos a1]
    exact .inl ⟨rfl, rfl, a3, a2, a4, takes_snoc h.takes ht, fun r hr => by
      simp only [List.mem_append, List.mem_singleton] at hr
      rcases hr with hr | rfl
      · exact h.small r hr
      · exact hp⟩
  · rw [if_neg (by rw [a1]; decide)]
    refine .inr ⟨a1, ?_, a3, a2, a4⟩
    rw [a1]; rfl

theorem begin_kept {m : DM} {H : List (List UInt8)} {L : JL} {id : Int} (h : KeptJ m H L) (hid : okId id = true) (hlen : L.length < 1024) :
    (∃ v, lookM L id = some v ∧ beginJ m ⟨false, L⟩ id = (m, ⟨false, L⟩, 7)) ∨ (lookM L id = none ∧ beginJ m ⟨false, L⟩ id = laidJ m ⟨false, L⟩ (rowJ id (-1)) (L ++ [(id, -1)]) ∧ takeJ L (rowJ id (-1)) = some (L ++ [(id, -1)])) := by
  cases hl : lookM L id with
  | some v =>
    refine .inl ⟨v, rfl, ?_⟩
    unfold beginJ
    rw [if_neg (by simp), if_neg (by rw [hid]; simp), if_pos (by simp only [hl]; rfl)]
  | none =>
    refine .inr ⟨rfl, ?_, take_begin hid hl hlen⟩
    unfold beginJ
    rw [if_neg (by simp), if_neg (by rw [hid]; simp), if_neg (by simp only [hl]; decide), if_neg (by simp only; omega)]

theorem end_kept {m : DM} {H : List (List UInt8)} {L : JL} {id code : Int} (h : KeptJ m H L) (h1 : 0 ≤ code) (h2 : code ≤ 255) :
    (lookM L id = none ∧ endJ m ⟨false, L⟩ id code = (m, ⟨false, L⟩, 6)) ∨ (∃ v, lookM L id = some v ∧ 0 ≤ v ∧ endJ m ⟨false, L⟩ id code = (m, ⟨false, L⟩, 7)) ∨
    (∃ v, lookM L id = some v ∧ v < 0 ∧ endJ m ⟨false, L⟩ id code = laidJ m ⟨false, L⟩ (rowJ id code) (setM L id code) ∧ takeJ L (rowJ id code) = some (setM L id code)) := by
  cases hl : lookM L id with
  | none =>
    refine .inl ⟨rfl, ?_⟩
    unfold endJ
    rw [if_neg (by simp), if_neg (by omega)]; simp only [hl]
  | some v =>
    have hid : okId id = true := (kept_inv h).ids _ (lookM_mem hl)
    by_cases hv : v ≥ 0
    · refine .inr (.inl ⟨v, rfl, hv, ?_⟩)
      unfold endJ
      rw [if_neg (by simp), if_neg (by omega)]; simp only [hl]; rw [if_pos hv]
    · refine .inr (.inr ⟨v, rfl, by omega, ?_, take_end hid hl (by omega) h1 h2⟩)
      unfold endJ
      rw [if_neg (by simp), if_neg (by omega)]; simp only [hl]; rw [if_neg hv]

theorem len_takes : ∀ {H : List (List UInt8)} {L L' : JL}, takesJ L H = some L' → L'.length ≤ L.length + H.length
  | [], L, L', h => by cases h; simp
  | p :: H, L, L', h => by
    unfold takesJ at h
    split at h
    · rename_i L1 h1
      have ih := len_takes h
      have : L1.length ≤ L.length + 1 := by
        unfold takeJ at h1
        split at h1
        · cases h1
        split at h1
        · cases h1
        split at h1
        · cases h1; simp
        split at h1
        · rename_i h4
          cases h1
          cases hl : lookM L (idOf p) with
          | none => rw [hl] at h4; exact absurd h4.2.2 (by decide)
          | some v => rw [setM_len hl]; omega
        · cases h1
      simp only [List.length_cons]; omega
    · cases h

end Go.Cx

namespace Go.Cx
open Go Go.Cf
set_option linter.unusedVariables false
variable {B : Base} {As : List HP}

theorem spend_no {m : DM} (h : m.armed = false) : spendM m = (m, true) := by simp [spendM, h]

/-- A device that is not armed does not fail. -/
theorem spent_free {m : DM} (h : m.armed = false) (g : DM → DM) : spent m g = (g m, 0) := by unfold spent; rw [spend_no h]; rfl
theorem sync_free {m : DM} (h : m.armed = false) {nm : ByteArray} : (syncM m nm).1.armed = false ∧ (m.down = false → (syncM m nm).2 ≠ 10) := by
  unfold syncM onFile
  split
  · exact ⟨h, fun hd => by simp_all⟩
  split
  · exact ⟨h, fun _ => by simp⟩
  dsimp only
  rw [spent_free h]
  exact ⟨h, fun _ => by simp⟩
theorem append_free {m : DM} (h : m.armed = false) {nm : ByteArray} {b : List UInt8} : (appendM m nm b).1.armed = false ∧ (m.down = false → (appendM m nm b).2 ≠ 10) := by
  unfold appendM
  split
  · exact ⟨h, fun _ => by simp⟩
  split
  · exact ⟨h, fun hd => by simp_all⟩
  split
  · exact ⟨h, fun _ => by simp⟩
  rw [spend_no h]
  exact ⟨h, fun _ => by simp⟩
theorem trunc_free {m : DM} (h : m.armed = false) {nm : ByteArray} {n : Int} : (truncM m nm n).1.armed = false ∧ (m.down = false → (truncM m nm n).2 ≠ 10) := by
  unfold truncM onFile
  split
  · exact ⟨h, fun hd => by simp_all⟩
  split
  · exact ⟨h, fun _ => by simp⟩
  dsimp only
  split
  · exact ⟨h, fun _ => by simp⟩
  rw [spent_free h]
  exact ⟨h, fun _ => by simp⟩
theorem lay_free {m : DM} (h : m.armed = false) (hd : m.down = false) {p : List UInt8} : (layJ m p).1.armed = false ∧ ((appendM m cmdN (frameN p)).2 = 0 → (appendM m cmdN (frameN p)).1.down = false → (layJ m p).2 ≠ 10) ∧ ((appendM m cmdN (frameN p)).2 ≠ 0 → (layJ m p).2 ≠ 10) := by
  have a := append_free h (nm := cmdN) (b := frameN p)
  unfold layJ
  split
  · rename_i h0
    have s := sync_free a.1 (nm := cmdN)
    exact ⟨s.1, fun _ h2 => s.2 h2, fun h2 => absurd h0 h2⟩
  · rename_i h0
    exact ⟨a.1, fun h2 => absurd h2 h0, fun _ => a.2 hd⟩

theorem append_down {m : DM} {nm : ByteArray} {b : List UInt8} (h : (appendM m nm b).2 = 0) : (appendM m nm b).1.down = m.down := by
  unfold appendM at h ⊢
  split
  · rfl
  split
  · rfl
  split
  · rfl
  rename_i h1 h2 h3
  rw [if_neg h1, if_neg h2, if_neg h3] at h
  rcases spend_cases m with ⟨o, o'⟩ | ⟨o, o'⟩
  · rw [o]; exact o'
  · rw [o] at h; simp at h

theorem lay_free' {m : DM} (h : m.armed = false) (hd : m.down = false) {p : List UInt8} : (layJ m p).1.armed = false ∧ (layJ m p).2 ≠ 10 := by
  obtain ⟨a, b, c⟩ := lay_free h hd (p := p)
  refine ⟨a, ?_⟩
  by_cases h0 : (appendM m cmdN (frameN p)).2 = 0
  · exact b h0 ((append_down h0).trans hd)
  · exact c h0

/-- .. so what is laid there is laid. -/
theorem laid_free {m : DM} {H : List (List UInt8)} {L L' : JL} {p : List UInt8} (h : KeptJ m H L) (hf : m.armed = false) (hp : p.length ≤ 10) (ht : takeJ L p = some L') (hr : (16 * H.length + 16 : Int) ≤ m.room) :
    (laidJ m ⟨false, L⟩ p L').2.2 = 0 ∧ (laidJ m ⟨false, L⟩ p L').2.1 = ⟨false, L'⟩ ∧ (laidJ m ⟨false, L⟩ p L').1.room = m.room ∧ KeptJ (laidJ m ⟨false, L⟩ p L').1 (H ++ [p]) L' ∧ (laidJ m ⟨false, L⟩ p L').1.armed = false := by
  obtain ⟨a, b⟩ := lay_free' hf h.up (p := p)
  have hne : (laidJ m ⟨false, L⟩ p L').2.2 ≠ 10 ∧ (laidJ m ⟨false, L⟩ p L').1.armed = false := by
    unfold laidJ
    split
    · exact ⟨by simp, a⟩
    · exact ⟨b, a⟩
  rcases laid_kept h hp ht hr with ⟨h1, h2, h3, h4⟩ | ⟨h1, _⟩
  · exact ⟨h1, h2, h3, h4, hne.2⟩
  · exact absurd h1 hne.1

theorem trunc_down {m : DM} {nm : ByteArray} {n : Int} (h : (truncM m nm n).2 = 0) : (truncM m nm n).1.down = m.down := by
  unfold truncM onFile at h ⊢
  split
  · rfl
  split
  · rfl
  rename_i h1 h2
  rw [if_neg h1, if_neg h2] at h
  dsimp only at h ⊢
  split
  · rfl
  rename_i h3
  rw [if_neg h3] at h
  unfold spent at h ⊢
  rcases spend_cases m with ⟨o, o'⟩ | ⟨o, o'⟩
  · rw [o]; exact o'
  · rw [o] at h; simp at h

theorem open_free {m : DM} (h : m.armed = false) (hd : m.down = false) : (openJ m).1.armed = false ∧ (openJ m).2.1 ≠ 10 := by
  have key : ∀ n len, (mendJ m n len).1.armed = false ∧ (mendJ m n len).2 ≠ 10 := by
    intro n len
    unfold mendJ
    have t := trunc_free h (nm := cmdN) (n := (n : Int))
    split
    · split
      · exact ⟨t.1, t.2 hd⟩
      · rename_i h2
        have s := sync_free t.1 (nm := cmdN)
        exact ⟨s.1, s.2 ((trunc_down (by omega)).trans hd)⟩
    · have s := sync_free h (nm := cmdN)
      exact ⟨s.1, s.2 hd⟩
  by_cases h2 : (readM m cmdN).2 = 0
  · cases h3 : takesJ [] (scanN (readM m cmdN).1).1 with
    | none => rw [open_bad hd h2 h3]; exact ⟨h, by simp⟩
    | some L =>
      rw [open_go hd h2 h3]
      have k := key (scanN (readM m cmdN).1).2 (readM m cmdN).1.length
      split
      · exact ⟨k.1, by simp⟩
      · exact k
  · rw [open_none hd h2]; exact ⟨h, by simp⟩

theorem left_begin (L : JL) (id : Int) : leftJ (L ++ [(id, -1)]) = leftJ L ++ [id] := by
  unfold leftJ
  rw [List.filter_append, List.map_append]; rfl

theorem left_end {id v code : Int} (hc : 0 ≤ code) : ∀ {L : JL}, (L.map (·.1)).Nodup → lookM L id = some v → v < 0 → leftJ (setM L id code) = (leftJ L).filter (fun x => decide (x ≠ id)) ∧ (leftJ (setM L id code)).length + 1 = (leftJ L).length
  | [], _, h, _ => by cases h
  | p :: L, hn, hl, hv => by
    simp only [List.map_cons, List.nodup_cons] at hn
    have same : ∀ {x : Int} {M : JL}, x ∉ M.map (·.1) → (leftJ M).filter (fun y => decide (y ≠ x)) = leftJ M := by
      intro x M hx
      rw [List.filter_eq_self]
      intro y hy
      unfold leftJ at hy
      obtain ⟨q, hq, rfl⟩ := List.mem_map.1 hy
      have := (List.mem_filter.1 hq).1
      simp only [decide_eq_true_eq]
      exact fun e => hx (by rw [← e]; exact List.mem_map_of_mem this)
    unfold lookM at hl
    by_cases e : id = p.1
    · rw [if_pos e] at hl
      simp only [Option.some.injEq] at hl
      have e1 : setM (p :: L) id code = (id, code) :: L := by unfold setM; rw [if_pos e]
      have e2 : leftJ ((id, code) :: L) = leftJ L := by unfold leftJ; rw [List.filter_cons_of_neg (by simp; omega)]
      have e3 : leftJ (p :: L) = p.1 :: leftJ L := by unfold leftJ; rw [List.filter_cons_of_pos (by simp; omega)]; rfl
      rw [e1, e2, e3, ← e]
      refine ⟨?_, by simp⟩
      rw [List.filter_cons_of_neg (by simp)]
      exact (same (by rw [e]; exact hn.1)).symm
    · rw [if_neg e] at hl
      obtain ⟨h1, h2⟩ := left_end hc hn.2 hl hv
      have e1 : setM (p :: L) id code = p :: setM L id code := by conv => lhs; unfold setM; rw [if_neg e]
      rw [e1]
      by_cases hp : p.2 < 0
      · have f1 : ∀ M : JL, leftJ (p :: M) = p.1 :: leftJ M := fun M => by unfold leftJ; rw [List.filter_cons_of_pos (by simpa using hp)]; rfl
        rw [f1, f1, List.filter_cons_of_pos (by simpa using fun h => e h.symm), h1]
        refine ⟨rfl, ?_⟩
        rw [List.length_cons, List.length_cons, ← h1]; omega
      · have f1 : ∀ M : JL, leftJ (p :: M) = leftJ M := fun M => by unfold leftJ; rw [List.filter_cons_of_neg (by simpa using hp)]
        rw [f1, f1]
        exact ⟨h1, h2⟩

theorem OrdersLeft_spec (b e : Sl) (xs ys : List Int) (hx : ∀ x ∈ xs, i64 x) (hy : ∀ y ∈ ys, i64 y) : Ct Pr F_law25_OrdersLeft [b.v, e.v] .one [.bool] [] ((RAr I64 b xs).and (RAr I64 e ys)) (fun t Bs => t.1 = true ∧ Bs = []) := by
  refine spec1 c_law25_OrdersLeft fun B hr => ?_
  have fb : Fro B b I64 xs := ⟨hr.1⟩
  have fe : Fro B e I64 ys := ⟨hr.2⟩
  have hbl := hr.1.1
  have hel := hr.2.1
  unfold law25_OrdersLeft
  refine xcl (New_spec 65536) rdb ?_
  rintro ⟨q, r, _⟩ _ (⟨h, _⟩ | ⟨_, _, h5, ⟨b0, h4⟩, rfl⟩)
  · omega
  simp only at h4 h5
  subst h4 h5
  refine app1 (ca2 (xiff rfl ?_))
  have e0 : openJ ⟨false, false, 0, 65536, []⟩ = (⟨false, false, 0, 65536, []⟩, 0, some []) := open_none rfl (by decide +kernel)
  refine xcl (Open_spec (some ⟨b0, 0, none⟩) ⟨false, false, 0, 65536, []⟩) rdb ?_
  rintro ⟨q1, r, _⟩ _ (⟨L, hL, hr, rfl⟩ | ⟨hL, _⟩)
  case inr => rw [e0] at hL; cases hL
  simp only at hr
  subst hr
  rw [e0] at hL ⊢
  cases hL
  refine app2 (ca2 ?_)
  refine xfact 1 (fun g hg => jobj_some hg) fun hj => ?_
  obtain ⟨bj, hj⟩ := hj
  simp only at hj
  subst hj
  refine xjoin (xiff rfl (xiff rfl ?_))
  refine xnone I64 ?_
  refine xloop2 (fun n l i As => ∃ (k : Nat) (m : DM) (H : List (List UInt8)) (L : JL), i = (k : Int) ∧ n = xs.length - k ∧ k ≤ xs.length ∧ k ≤ 200 ∧ H.length ≤ k ∧ KeptJ m H L ∧ m.armed = false ∧ m.room = 65536 ∧ As = [Ar I64 l (leftJ L), DevObj (some ⟨b0, 0, none⟩) m, JObj (some ⟨b0, 0, none⟩) (some ⟨bj, 0, none⟩) ⟨false, L⟩]) xs.length ⟨0, _, [], [], rfl, rfl, by omega, by omega, by decide, ⟨rfl, .inl ⟨rfl, rfl, rfl⟩, rfl, by simp⟩, rfl, rfl, rfl⟩ ?_
  rintro n want _ _ K ⟨k, m, H, L, rfl, rfl, hk, hk2, hHk, hkept, harm, hroom, rfl⟩ hK
  have hLl : L.length ≤ H.length := by have := len_takes hkept.takes; simpa using this
  refine xif (fun hlt => ?_) (fun hlt => ?_)
  · have hlt : k < xs.length ∧ k < 200 := by simp at hlt; omega
    have hxk := List.getElem?_eq_getElem (l := xs) (i := k) (by omega)
    have hx64 := hx _ (List.getElem_mem (l := xs) (n := k) (by omega))
    generalize xs[k]'(by omega) = x at hxk hx64
    refine xidxn (h1 := by omega) (h := fun _ _ => ?_)
    refine xgetE hxk (h := ?_)
    refine xcl (Pick_spec x 300 hx64 ⟨by decide, by decide⟩) rdb ?_
    rintro ⟨r, _⟩ _ ⟨hp, rfl⟩
    have hp := pick_use r 300 hp (by decide)
    obtain ⟨rn, hrn⟩ := Int.eq_ofNat_of_zero_le hp.1
    obtain rfl : r = (rn : Int) := hrn
    have hrn : rn < 300 := by omega
    refine app0 (ca1 ?_)
    rw [show IntKind.i64.wrap (1 + (rn : Int)) = ((1 + rn : Nat) : Int) by rw [wrap_id _ (by omega) (by omega)]; omega]
    have hid : okId ((1 + rn : Nat) : Int) = true := by simp [okId]; omega
    generalize ((1 + rn : Nat) : Int) = id at hid
    refine xcl (Begin_spec (some ⟨b0, 0, none⟩) (some ⟨bj, 0, none⟩) m ⟨false, L⟩ id) rdb ?_
    rintro ⟨r, _⟩ _ ⟨hr, rfl⟩
    simp only at hr
    subst hr
    refine app2 (ca1 ?_)
    rw [wrap_succ k (by omega)]
    rcases begin_kept hkept hid (by omega) with ⟨v, hv, e⟩ | ⟨hv, e, ht⟩
    · rw [e]
      refine xjoin (xiff rfl ?_)
      exact xuse [Ar I64 want (leftJ L), DevObj (some ⟨b0, 0, none⟩) m, JObj (some ⟨b0, 0, none⟩) (some ⟨bj, 0, none⟩) ⟨false, L⟩] (hK (xs.length - (k + 1)) _ _ _ (by omega) ⟨k + 1, m, H, L, rfl, rfl, by omega, by omega, by omega, hkept, harm, hroom, rfl⟩)
    · rw [e]
      obtain ⟨a1, a2, a3, a4, a5⟩ := laid_free hkept harm (row_small id (-1)) ht (by omega)
      rw [a1, a2]
      refine xjoin (xift rfl (xnew fun b1 => ?_))
      have hle := left_len (L := L)
      refine xapp1 id (hb := by omega) (h := fun s => ?_)
      rw [← left_begin]
      exact xuse [Ar I64 s (leftJ (L ++ [(id, -1)])), DevObj (some ⟨b0, 0, none⟩) (laidJ m ⟨false, L⟩ (rowJ id (-1)) (L ++ [(id, -1)])).1, JObj (some ⟨b0, 0, none⟩) (some ⟨bj, 0, none⟩) ⟨false, L ++ [(id, -1)]⟩] (hK (xs.length - (k + 1)) _ _ _ (by omega) ⟨k + 1, _, _, _, rfl, rfl, by omega, by omega, by simp; omega, a4, a5, a3.trans hroom, rfl⟩)
  clear hK hlt hk
  refine xloop2 (fun n l i As => ∃ (t : Nat) (m : DM) (H : List (List UInt8)) (L : JL), i = (t : Int) ∧ n = ys.length - t ∧ t ≤ ys.length ∧ t ≤ 200 ∧ H.length ≤ k + t ∧ KeptJ m H L ∧ m.armed = false ∧ m.room = 65536 ∧ As = [Ar I64 l (leftJ L), DevObj (some ⟨b0, 0, none⟩) m, JObj (some ⟨b0, 0, none⟩) (some ⟨bj, 0, none⟩) ⟨false, L⟩]) ys.length ⟨0, m, H, L, rfl, rfl, by omega, by omega, by omega, hkept, harm, hroom, rfl⟩ ?_
  clear hkept harm hroom hLl hHk
  rintro n want _ _ K ⟨t, m, H, L, rfl, rfl, ht, ht2, hHk, hkept, harm, hroom, rfl⟩ hK
  have hLl : L.length ≤ H.length := by have := len_takes hkept.takes; simpa using this
  have hle := left_len (L := L)
  refine xif (fun hlt => ?_) (fun hlt => ?_)
  · have hlt : t < ys.length ∧ t < 200 := by simp at hlt; omega
    have hyk := List.getElem?_eq_getElem (l := ys) (i := t) (by omega)
    have hy64 := hy _ (List.getElem_mem (l := ys) (n := t) (by omega))
    generalize ys[t]'(by omega) = y at hyk hy64
    refine xjoin1 (fun l As' => ∃ (m : DM) (H : List (List UInt8)) (L : JL), H.length ≤ k + (t + 1) ∧ KeptJ m H L ∧ m.armed = false ∧ m.room = 65536 ∧ As' = [Ar I64 l (leftJ L), DevObj (some ⟨b0, 0, none⟩) m, JObj (some ⟨b0, 0, none⟩) (some ⟨bj, 0, none⟩) ⟨false, L⟩]) ?_ ?_
    · intro J hJ
      refine xidxn (h1 := by omega) (h := fun _ _ => ?_)
      refine xgetE hyk (h := ?_)
      refine xcl (Pick_spec y 300 hy64 ⟨by decide, by decide⟩) rdb ?_
      rintro ⟨r, _⟩ _ ⟨hp, rfl⟩
      have hp := pick_use r 300 hp (by decide)
      obtain ⟨rn, hrn⟩ := Int.eq_ofNat_of_zero_le hp.1
      obtain rfl : r = (rn : Int) := hrn
      have hrn : rn < 300 := by omega
      refine app0 (ca1 ?_)
      rw [show IntKind.i64.wrap (1 + (rn : Int)) = ((1 + rn : Nat) : Int) by rw [wrap_id _ (by omega) (by omega)]; omega]
      generalize ((1 + rn : Nat) : Int) = id
      refine xcl (End_spec (some ⟨b0, 0, none⟩) (some ⟨bj, 0, none⟩) m ⟨false, L⟩ id t) rdb ?_
      rintro ⟨r, _⟩ _ ⟨hr, rfl⟩
      simp only at hr
      subst hr
      refine app2 (ca1 ?_)
      rcases end_kept (id := id) (code := (t : Int)) hkept (by omega) (by omega) with ⟨hv, e⟩ | ⟨v, hv, h0, e⟩ | ⟨v, hv, h0, e, htk⟩
      · rw [e]
        exact xift rfl (xuse [Ar I64 want (leftJ L), DevObj (some ⟨b0, 0, none⟩) m, JObj (some ⟨b0, 0, none⟩) (some ⟨bj, 0, none⟩) ⟨false, L⟩] (hJ _ _ ⟨m, H, L, by omega, hkept, harm, hroom, rfl⟩))
      · rw [e]
        exact xift rfl (xuse [Ar I64 want (leftJ L), DevObj (some ⟨b0, 0, none⟩) m, JObj (some ⟨b0, 0, none⟩) (some ⟨bj, 0, none⟩) ⟨false, L⟩] (hJ _ _ ⟨m, H, L, by omega, hkept, harm, hroom, rfl⟩))
      · rw [e]
        obtain ⟨a1, a2, a3, a4, a5⟩ := laid_free hkept harm (row_small id t) htk (by omega)
        obtain ⟨f1, f2⟩ := left_end (code := (t : Int)) (by omega) (kept_inv hkept).nodup hv h0
        rw [a1, a2]
        refine xiff rfl ?_
        generalize hm' : (laidJ m ⟨false, L⟩ (rowJ id t) (setM L id t)).1 = m' at *
        refine xlen want fun hwl _ => ?_
        refine xnone I64 ?_
        refine xloop2 (fun n l i As => ∃ (s : Nat), i = (s : Int) ∧ n = (leftJ L).length - s ∧ s ≤ (leftJ L).length ∧ As = [Ar I64 l (((leftJ L).take s).filter fun x => decide (x ≠ id)), JObj (some ⟨b0, 0, none⟩) (some ⟨bj, 0, none⟩) ⟨false, setM L id t⟩, DevObj (some ⟨b0, 0, none⟩) m', Ar I64 want (leftJ L)]) (leftJ L).length ⟨0, rfl, rfl, by omega, rfl⟩ ?_
        rintro n rest _ _ K2 ⟨s, rfl, rfl, hs, rfl⟩ hK2
        refine xif_dec (fun h => ?_) (fun h => ?_)
        · have hz := List.getElem?_eq_getElem (l := leftJ L) (i := s) (by omega)
          have htk2 : (leftJ L).take (s + 1) = (leftJ L).take s ++ [(leftJ L)[s]'(by omega)] := by rw [List.take_add_one, hz]; rfl
          generalize (leftJ L)[s]'(by omega) = z at hz htk2
          have hfl : (((leftJ L).take s).filter fun x => decide (x ≠ id)).length ≤ s := by
            have := List.length_filter_le (fun x : Int => decide (x ≠ id)) ((leftJ L).take s)
            simp at this ⊢; omega
          refine xidxn (h1 := by omega) (h := fun _ _ => ?_)
          refine xgetE hz (h := ?_)
          rw [wrap_succ s (by omega)]
          refine xjoin (xif (fun hne => ?_) (fun hne => ?_))
          · refine xidxn (h1 := by omega) (h := fun _ _ => ?_)
            refine xgetE hz (h := xnew fun b1 => ?_)
            refine xapp1 (s := rest) z (hb := by omega) (h := fun s1 => ?_)
            refine hK2 ((leftJ L).length - (s + 1)) _ _ _ (by omega) ⟨s + 1, rfl, rfl, by omega, ?_⟩
            rw [htk2, List.filter_append, List.filter_cons_of_pos (by simpa using hne)]; rfl
          · refine hK2 ((leftJ L).length - (s + 1)) _ _ _ (by omega) ⟨s + 1, rfl, rfl, by omega, ?_⟩
            rw [htk2, List.filter_append, List.filter_cons_of_neg (by simpa using hne)]; simp
        · have hsl : s = (leftJ L).length := by omega
          rw [List.take_of_length_le (by omega), ← f1]
          refine xlen rest fun hrl _ => ?_
          refine xiff ?_ ?_
          · rw [wrap_id _ (by omega) (by omega)]
            simp; omega
          · exact xuse [Ar I64 rest (leftJ (setM L id t)), DevObj (some ⟨b0, 0, none⟩) m', JObj (some ⟨b0, 0, none⟩) (some ⟨bj, 0, none⟩) ⟨false, setM L id t⟩] (hJ _ _ ⟨m', _, _, by simp; omega, a4, a5, a3.trans hroom, rfl⟩)
    · rintro l _ ⟨m, H, L, h1, h2, h3, h4, rfl⟩
      rw [wrap_succ t (by omega)]
      exact hK (ys.length - (t + 1)) _ _ _ (by omega) ⟨t + 1, m, H, L, rfl, rfl, by omega, by omega, by omega, h2, h3, h4, rfl⟩
  clear hK
  have hfree := (open_free harm hkept.up).2
  have h1024 : ∀ r ∈ H, r.length ≤ 1024 := fun r hr => by have := hkept.small r hr; omega
  have hopen : (openJ m).2.2 = some L := by
    rcases open_cmd (p := []) (k := 0) (L1 := L) hkept.up (by rw [List.take_zero]; exact hkept.file) (by decide) h1024 hkept.takes (fun h => absurd h (by decide)) with ⟨H', L', h1, _, h2, _⟩ | ⟨h1, _⟩
    · rcases h1 with ⟨_, rfl⟩ | ⟨h, _⟩
      · exact h2
      · exact absurd h (by decide)
    · exact absurd h1 hfree
  have hlen := (kept_inv hkept).len
  refine xcl (Open_spec (some ⟨b0, 0, none⟩) m) rdb ?_
  rintro ⟨q2, r, _⟩ _ (⟨L', hL, hr, rfl⟩ | ⟨hL, _⟩)
  case inr => rw [hopen] at hL; cases hL
  simp only at hr
  subst hr
  rw [hopen] at hL
  cases hL
  refine app2 (ca2 ?_)
  refine xfact 1 (fun g hg => jobj_some hg) fun hj => ?_
  obtain ⟨bk, hj⟩ := hj
  simp only at hj
  subst hj
  refine xjoin (xift rfl (xjoin (xift rfl ?_)))
  refine xcl (Left_spec (some ⟨b0, 0, none⟩) (some ⟨bj, 0, none⟩) ⟨false, L⟩) rdb ?_
  rintro ⟨s2, _⟩ _ rfl
  refine app2 (ca1 ?_)
  refine xcl (SameInts_spec s2 want (leftJ L) (leftJ L) (by omega)) (rds_and rdb rdb) ?_
  rintro ⟨c, _⟩ _ ⟨hc, rfl⟩
  obtain rfl : c = true := by simpa using hc
  refine app0 (ca1 (xjoin (xift rfl ?_)))
  refine xcl (Left_spec (some ⟨b0, 0, none⟩) (some ⟨bk, 0, none⟩) ⟨false, L⟩) rdb ?_
  rintro ⟨s3, _⟩ _ rfl
  refine app2 (ca1 ?_)
  refine xcl (SameInts_spec s3 want (leftJ L) (leftJ L) (by omega)) (rds_and rdb rdb) ?_
  rintro ⟨c, _⟩ _ ⟨hc, rfl⟩
  obtain rfl : c = true := by simpa using hc
  exact app0 (ca1 (xjoin (xift rfl wk25)))

end Go.Cx

namespace Go.Cf
open Go
set_option linter.unusedVariables false
variable {B : Base} {As : List HP}
/-! Numbers that lie in a block of their own. -/
theorem xidxA {b o n i : Nat} {K : Addr → WP} (hi : i < n) (h : Ent B As (K ⟨b, o + i, none⟩)) : Ent B As (XIdx (some ⟨b, o, none⟩) n (i : Int) 1 K) := fun w hw =>
  ⟨_, rfl, by omega, by omega, by simpa [add_none] using h w hw⟩
theorem tget {b off : Nat} {T : List Int} {upd : List Value → List HP} {rest : List HP} [o : Own b As (T.map (Value.int .i64)) upd rest] {v : Int} {K : Int → WP} (h : T[off]? = some v) (hk : Ent B As (K v)) : Ent B As (XGet (.int .i64) ⟨b, off, none⟩ K) :=
  xget (s := .int .i64) (cs := T.map (Value.int .i64)) (hv := by rw [List.getElem?_map, h]; rfl) hk
theorem tset {b off : Nat} {T : List Int} {upd : List Value → List HP} {rest : List HP} [o : Own b As (T.map (Value.int .i64)) upd rest] {v : Int} {K : WP} (h : off < T.length) (hk : Ent B (upd ((T.set off v).map (Value.int .i64))) K) : Ent B As (XSet ⟨b, off, none⟩ (.int .i64 v) K) :=
  xset_gen (cs := T.map (Value.int .i64)) (rest := rest) (by rw [o.eq]; exact o.perm _) (by simpa using h) rfl (by rw [← List.map_set]; exact (o.perm _).symm) hk
end Go.Cf
namespace Go.Cx
open Go Go.Cf
set_option linter.unusedVariables false
variable {B : Base} {As : List HP}

def stN (L : JL) (id : Int) : Int := match lookM L id with
  | none => 0
  | some c => if c < 0 then 1 else 2 + c
abbrev TB (b : Nat) (T : List Int) : HP := Blk b (T.map (Value.int .i64))

theorem stN_none {L : JL} {id : Int} (h : lookM L id = none) : stN L id = 0 := by unfold stN; rw [h]
theorem stN_neg {L : JL} {id v : Int} (h : lookM L id = some v) (hv : v < 0) : stN L id = 1 := by unfold stN; rw [h]; simp [hv]
theorem stN_end {L : JL} {id v : Int} (h : lookM L id = some v) (hv : 0 ≤ v) : stN L id = 2 + v := by unfold stN; rw [h]; simp; omega
theorem stN_begun {L : JL} {id : Int} (h : lookM L id = none) (j : Int) : stN (L ++ [(id, -1)]) j = if j = id then 1 else stN L j := by
  unfold stN
  rw [lookM_app]
  by_cases e : j = id
  · subst e; rw [h]; simp
  · cases lookM L j with
    | none => simp [e]
    | some c => simp [e]
theorem stN_set {L : JL} {id code : Int} (hc : 0 ≤ code) (j : Int) : stN (setM L id code) j = if j = id then 2 + code else stN L j := by
  unfold stN
  rw [lookM_set]
  by_cases e : j = id
  · rw [if_pos e, if_pos e]; simp; omega
  · rw [if_neg e, if_neg e]

theorem state_spec (d q : Option Addr) (J : JM) (id : Int) : Ct Pr F_law25_state [.pointer q, .int .i64 id] .one [.int .i64] [JObj d q J] emp (fun t Bs => t.1 = stN J.L id ∧ Bs = [JObj d q J]) := by
  refine spec1 c_law25_state fun B _ => ?_
  unfold law25_state
  refine xfact 0 (fun g hg => (show JInv J.L from hg.1)) fun hi => ?_
  refine xcl (State_spec d q J id) rdb ?_
  rintro ⟨r, r1, _⟩ _ ⟨h1, h2, rfl⟩
  simp only at h1 h2
  subst h1 h2
  refine app1 (ca2 ?_)
  unfold stateJ stN
  cases hl : lookM J.L id with
  | none => exact xiff rfl (xret ⟨rfl, rfl⟩)
  | some c =>
    have hc := hi.codes _ (lookM_mem hl)
    simp only at hc ⊢
    by_cases h : c < 0
    · simp only [h, if_true]
      exact xiff rfl (xret ⟨rfl, rfl⟩)
    · simp only [h, if_false]
      refine xift rfl ?_
      rw [wrap_id _ (by omega) (by omega)]
      exact xret ⟨rfl, rfl⟩

/-- What is told is what is so. -/
def TInv (T : List Int) (L : JL) : Prop := T.length = 62 ∧ ∀ id : Nat, 1 ≤ id → id ≤ 30 → T[id]? = some (stN L id)

theorem look_spec (b : Nat) (d q : Option Addr) (J : JM) (T : List Int) (hl : T.length = 62) (hT : ∀ id : Nat, 1 ≤ id → id ≤ 30 → T[id]? = some (stN J.L id) ∨ T[31 + id]? = some (stN J.L id)) :
    Ct Pr F_law25_told_look [.pointer (some ⟨b, 0, none⟩), .pointer q] .one [.bool] [TB b T, JObj d q J] emp (fun t Bs => t.1 = true ∧ ∃ T', TInv T' J.L ∧ Bs = [TB b T', JObj d q J]) := by
  refine spec1 c_law25_told_look fun B _ => ?_
  unfold law25_told_look
  refine xloop1 (fun n i As => ∃ (k : Nat) (T' : List Int), i = (k : Int) ∧ n = 31 - k ∧ 1 ≤ k ∧ k ≤ 31 ∧ T'.length = 62 ∧ (∀ id : Nat, 1 ≤ id → id < k → T'[id]? = some (stN J.L id)) ∧ (∀ id : Nat, k ≤ id → id ≤ 30 → T'[id]? = T[id]? ∧ T'[31 + id]? = T[31 + id]?) ∧ As = [TB b T', JObj d q J]) 30 ⟨1, T, rfl, rfl, by omega, by omega, hl, by omega, fun _ _ _ => ⟨rfl, rfl⟩, rfl⟩ ?_
  rintro n _ _ K ⟨k, T', rfl, rfl, hk1, hk, hl', h1, h2, rfl⟩ hK
  refine xif_dec (fun h => ?_) (fun h => ?_)
  · have hk30 : k ≤ 30 := by omega
    refine xcl (state_spec d q J k) rdb ?_
    rintro ⟨r, _⟩ _ ⟨hr, rfl⟩
    simp only at hr
    subst hr
    refine app1 (ca1 (xnil (xidxA (by omega) ?_)))
    rw [Nat.zero_add]
    obtain ⟨e1, e2⟩ := h2 k (Nat.le_refl _) hk30
    have g1 := List.getElem?_eq_getElem (l := T') (i := k) (by omega)
    generalize T'[k]'(by omega) = v1 at g1
    refine tget g1 ?_
    have g2 := List.getElem?_eq_getElem (l := T') (i := 31 + k) (by omega)
    generalize T'[31 + k]'(by omega) = v2 at g2
    have hor := hT k hk1 hk30
    rw [← e1, ← e2, g1, g2] at hor
    have fin : Ent B [JObj d q J, TB b T'] (XIf false (Ret B (ss := [.bool]) (fun t Bs => t.1 = true ∧ ∃ T', TInv T' J.L ∧ Bs = [TB b T', JObj d q J]) (false, ())) (XNil (some ⟨b, 0, none⟩) fun a4 => XIdx (some a4) 31 (k : Int) 1 fun a5 => XSet a5 (.int .i64 (stN J.L k)) <| XNil (some ⟨b, 0, none⟩) fun a6 => XIdx (some (a6.add 31)) 31 (k : Int) 1 fun a7 => XSet a7 (.int .i64 (stN J.L k)) <| K (IntKind.i64.wrap ((k : Int) + 1)))) := by
      refine xiff rfl (xnil (xidxA (by omega) ?_))
      rw [Nat.zero_add]
      refine tset (by omega) (xnil (xidxA (o := 31) (by omega) ?_))
      refine tset (by simp; omega) ?_
      rw [wrap_succ k (by omega)]
      refine xfront 1 (hK (31 - (k + 1)) _ _ (by omega) ⟨k + 1, _, rfl, rfl, by omega, by omega, by simpa using hl', ?_, ?_, rfl⟩)
      · intro id hid hlt
        rw [List.getElem?_set_ne (by omega)]
        rcases Nat.lt_or_ge id k with h' | h'
        · rw [List.getElem?_set_ne (by omega)]; exact h1 id hid h'
        · obtain rfl : id = k := by omega
          rw [List.getElem?_set_self (by omega)]
      · intro id hid hlt
        rw [List.getElem?_set_ne (by omega), List.getElem?_set_ne (by omega), List.getElem?_set_ne (by omega), List.getElem?_set_ne (by omega)]
        exact h2 id (by omega) hlt
    refine xjoin (xif (fun hne => ?_) (fun _ => fin))
    refine xnil (xidxA (o := 31) (by omega) ?_)
    refine tget g2 ?_
    rcases hor with h' | h'
    · simp only [Option.some.injEq] at h'
      rw [h'] at hne
      simp at hne
    · simp only [Option.some.injEq] at h'
      rw [h', show (stN J.L k != stN J.L k) = false by simp]
      exact fin
  · exact xret ⟨rfl, T', ⟨hl', fun id h3 h4 => h1 id h3 (by omega)⟩, rfl⟩

def DeedPost (b : Nat) (d q : Option Addr) (H : List (List UInt8)) (L : JL) (Bs : List HP) : Prop :=
  ∃ T' m' J', Bs = [TB b T', DevObj d m', JObj d q J'] ∧ T'.length = 62 ∧ m'.room = 20000 ∧
    ((∃ H' L', J' = ⟨false, L'⟩ ∧ KeptJ m' H' L' ∧ H'.length ≤ H.length + 1 ∧ TInv T' L') ∨
     (∃ L1 p k, J' = ⟨true, L⟩ ∧ m'.down = true ∧ FJ m' H ((frameN p).take k) ∧ p.length ≤ 10 ∧ takeJ L p = some L1 ∧ ∀ id : Nat, 1 ≤ id → id ≤ 30 → T'[id]? = some (stN L id) ∧ (T'[31 + id]? = some (stN L1 id) ∨ stN L1 id = stN L id)))

theorem deed_spec (b : Nat) (d q : Option Addr) (m : DM) (H : List (List UInt8)) (L : JL) (T : List Int) (x : Int × Int × Int × Int) (hk : KeptJ m H L) (hT : TInv T L) (hr : m.room = 20000) (hH : H.length ≤ 100) (hx : i64 x.1) (hx1 : i64 x.2.1) :
    Ct Pr F_law25_told_deed [.pointer (some ⟨b, 0, none⟩), .pointer d, .pointer q, .agg #[.int .i64 x.1, .int .i64 x.2.1, .int .i64 x.2.2.1, .int .i64 x.2.2.2]] .one [.bool] [TB b T, DevObj d m, JObj d q ⟨false, L⟩] emp (fun t Bs => t.1 = true ∧ DeedPost b d q H L Bs) := by
  refine spec1 c_law25_told_deed fun B _ => ?_
  obtain ⟨x0, x1, x2, x3⟩ := x
  dsimp only at hx hx1 ⊢
  obtain ⟨hTl, hTs⟩ := hT
  unfold law25_told_deed
  refine xnew fun bx => xget (h := ?_)
  refine xcl (Pick_spec x0 30 hx ⟨by decide, by decide⟩) rdb ?_
  rintro ⟨r, _⟩ _ ⟨hp, rfl⟩
  have hp := pick_use r 30 hp (by decide)
  obtain ⟨rn, hrn⟩ := Int.eq_ofNat_of_zero_le hp.1
  obtain rfl : r = (rn : Int) := hrn
  have hrn : rn < 30 := by omega
  refine app0 (ca1 ?_)
  rw [show IntKind.i64.wrap (1 + (rn : Int)) = ((1 + rn : Nat) : Int) by rw [wrap_id _ (by omega) (by omega)]; omega]
  have hid : okId ((1 + rn : Nat) : Int) = true := by simp [okId]; omega
  have hn1 : 1 ≤ 1 + rn := by omega
  have hn30 : 1 + rn ≤ 30 := by omega
  generalize 1 + rn = id at hid hn1 hn30
  have hLl : L.length ≤ H.length := by have := len_takes hk.takes; simpa using this
  refine xnil (xidxA (by omega) ?_)
  rw [Nat.zero_add]
  refine tget (hTs id hn1 hn30) ?_
  refine xget (h := ?_)
  -- what follows a call
  have down : ∀ {m' : DM} {p : List UInt8} {L1 : JL} {k : Nat} {th e : Int} {c : Bool} {K1 K2 : WP}, m'.down = true → m'.room = 20000 → FJ m' H ((frameN p).take k) → p.length ≤ 10 → takeJ L p = some L1 → (∀ j : Nat, stN L1 j = if j = id then th else stN L j) → c = true →
      Ent B [JObj d q ⟨true, L⟩, DevObj d m', Blk bx [.int .i64 x0, .int .i64 x1, .int .i64 x2, .int .i64 x3], TB b T]
        (XJoin [] (fun K'2 => XIf c (XNil (some ⟨b, 0, none⟩) fun a2 => XIdx (some (a2.add 31)) 31 (id : Int) 1 fun a3 => XSet a3 (.int .i64 th) <| K'2) (K'2)) <| XNil d fun a4 => XCall Pr F_device_power_Down [.pointer (some a4)] .one [.bool] <| fun (c1 : Bool) => Ret B (ss := [.bool]) (fun t Bs => t.1 = true ∧ DeedPost b d q H L Bs) (c1, ())) := by
    intro m' p L1 k th e c K1 K2 h1 h2 h3 h4 h5 h6 hc
    subst hc
    refine xjoin (xift rfl (xnil (xidxA (o := 31) (by omega) ?_)))
    refine tset (by omega) ?_
    refine xfact 1 (fun g hg => dev_some hg) fun hd => ?_
    obtain ⟨bd, rfl⟩ := hd
    refine xnil ?_
    refine xcl (Down_spec (some ⟨bd, 0, none⟩) m') rdb ?_
    rintro ⟨c1, _⟩ _ ⟨hc1, rfl⟩
    simp only at hc1
    refine app1 (ca1 ?_)
    refine xuse [TB b (T.set (31 + id) th), DevObj (some ⟨bd, 0, none⟩) m', JObj (some ⟨bd, 0, none⟩) q ⟨true, L⟩] (xret ⟨hc1.trans h1, T.set (31 + id) th, m', ⟨true, L⟩, rfl, by simpa using hTl, h2, .inr ⟨L1, p, k, rfl, h1, h3, h4, h5, fun j hj1 hj30 => ?_⟩⟩)
    refine ⟨by rw [List.getElem?_set_ne (by omega)]; exact hTs j hj1 hj30, ?_⟩
    by_cases e : j = id
    · subst e
      left
      rw [List.getElem?_set_self (by omega), h6 j, if_pos rfl]
    · right
      rw [h6 j, if_neg e]
  have done : ∀ {m' : DM} {H' : List (List UInt8)} {L' : JL} {th : Int} {c : Bool}, m'.room = 20000 → KeptJ m' H' L' → H'.length ≤ H.length + 1 → (∀ j : Nat, stN L' j = if j = id then th else stN L j) → c = true →
      Ent B [JObj d q ⟨false, L'⟩, DevObj d m', Blk bx [.int .i64 x0, .int .i64 x1, .int .i64 x2, .int .i64 x3], TB b T]
        (XNil (some ⟨b, 0, none⟩) fun a5 => XIdx (some a5) 31 (id : Int) 1 fun a6 => XSet a6 (.int .i64 th) <| XNil (some ⟨b, 0, none⟩) fun a7 => XIdx (some (a7.add 31)) 31 (id : Int) 1 fun a8 => XSet a8 (.int .i64 th) <| Ret B (ss := [.bool]) (fun t Bs => t.1 = true ∧ DeedPost b d q H L Bs) (c, ())) := by
    intro m' H' L' th c h2 h3 h4 h6 hc
    subst hc
    refine xnil (xidxA (by omega) ?_)
    rw [Nat.zero_add]
    refine tset (by omega) (xnil (xidxA (o := 31) (by omega) ?_))
    refine tset (by simp; omega) ?_
    refine xuse [TB b ((T.set id th).set (31 + id) th), DevObj d m', JObj d q ⟨false, L'⟩] (xret ⟨rfl, _, m', ⟨false, L'⟩, rfl, by simpa using hTl, h2, .inl ⟨H', L', rfl, h3, h4, by simpa using hTl, fun j hj1 hj30 => ?_⟩⟩)
    rw [List.getElem?_set_ne (by omega), h6 j]
    by_cases e : j = id
    · subst e; rw [List.getElem?_set_self (by omega), if_pos rfl]
    · rw [List.getElem?_set_ne (by omega), if_neg e]; exact hTs j hj1 hj30
  have same : Ent B [JObj d q ⟨false, L⟩, DevObj d m, Blk bx [.int .i64 x0, .int .i64 x1, .int .i64 x2, .int .i64 x3], TB b T] (Ret B (ss := [.bool]) (fun t Bs => t.1 = true ∧ DeedPost b d q H L Bs) (true, ())) :=
    xuse [TB b T, DevObj d m, JObj d q ⟨false, L⟩] (xret ⟨rfl, T, m, ⟨false, L⟩, rfl, hTl, hr, .inl ⟨H, L, rfl, hk, by omega, hTl, hTs⟩⟩)
  refine xjoin (xif_dec (fun hneg => ?_) (fun hneg => ?_))
  · refine xcl (Begin_spec d q m ⟨false, L⟩ id) rdb ?_
    rintro ⟨r, _⟩ _ ⟨hr', rfl⟩
    simp only at hr'
    subst hr'
    refine app2 (ca1 (xget (h := ?_)))
    rcases begin_kept hk hid (by omega) with ⟨v, hv, e⟩ | ⟨hv, e, ht⟩
    · rw [e]
      have hs : 1 ≤ stN L id := by
        rcases Int.lt_or_le v 0 with h | h
        · rw [stN_neg hv h]; omega
        · rw [stN_end hv h]; omega
      refine xjoin (xif (fun h => ?_) (fun h => ?_))
      · have h : x1 < 0 ∧ stN L id = 0 := by simpa using h
        omega
      refine xget (h := xiff rfl (xiff rfl (xget (h := xift (decide_eq_true hneg) ?_))))
      rw [decide_eq_true (show stN L id > 0 by omega)]
      exact same
    · rw [e]
      have hs : stN L id = 0 := stN_none hv
      have hc : (decide (x1 < 0) && (stN L id == 0)) = true := by rw [hs, decide_eq_true hneg]; rfl
      have h6 : ∀ j : Nat, stN (L ++ [((id : Int), -1)]) j = if j = id then 1 else stN L j := fun j => by
        rw [stN_begun hv]
        by_cases e : j = id
        · rw [if_pos e, if_pos (by omega)]
        · rw [if_neg e, if_neg (by omega)]
      refine xjoin (xift hc ?_)
      rcases laid_kept hk (row_small id (-1)) ht (by omega) with ⟨a1, a2, a3, a4⟩ | ⟨a1, a2, a3, a4, k, a5⟩
      · rw [a1, a2]
        refine xiff rfl (xift rfl ?_)
        exact done (a3.trans hr) a4 (by simp) h6 rfl
      · rw [a1, a2]
        refine xift rfl ?_
        exact down (e := 0) (K1 := bad) (K2 := bad) a4 (a3.trans hr) a5 (row_small id (-1)) ht h6 rfl
  · refine xget (h := ?_)
    refine xcl (Pick_spec x1 256 hx1 ⟨by decide, by decide⟩) rdb ?_
    rintro ⟨r, _⟩ _ ⟨hp, rfl⟩
    have hp := pick_use r 256 hp (by decide)
    obtain ⟨cn, hcn⟩ := Int.eq_ofNat_of_zero_le hp.1
    obtain rfl : r = (cn : Int) := hcn
    have hcn : cn < 256 := by omega
    refine app0 (ca1 ?_)
    rw [show IntKind.i64.wrap (2 + (cn : Int)) = 2 + (cn : Int) by rw [wrap_id _ (by omega) (by omega)], show IntKind.i64.wrap (2 + (cn : Int) - 2) = (cn : Int) by rw [wrap_id _ (by omega) (by omega)]; omega]
    refine xcl (End_spec d q m ⟨false, L⟩ id cn) rdb ?_
    rintro ⟨r, _⟩ _ ⟨hr', rfl⟩
    simp only at hr'
    subst hr'
    refine app2 (ca1 (xget (h := ?_)))
    have hnn : (decide (x1 < 0)) = false := decide_eq_false hneg
    have hge : (decide (x1 ≥ 0)) = true := decide_eq_true (by omega)
    rw [hnn]
    refine xjoin (xiff rfl (xget (h := ?_)))
    rw [hge]
    rcases end_kept (id := (id : Int)) (code := (cn : Int)) hk (by omega) (by omega) with ⟨hv, e⟩ | ⟨v, hv, h0, e⟩ | ⟨v, hv, h0, e, ht⟩
    · rw [e, stN_none hv]
      refine xiff rfl (xiff rfl (xget (h := xiff (decide_eq_false hneg) (xjoin (xift rfl same)))))
    · rw [e, stN_end hv h0]
      refine xiff rfl (xiff rfl (xget (h := xiff (decide_eq_false hneg) (xjoin (xiff rfl ?_)))))
      rw [decide_eq_true (show 2 + v > 1 by omega)]
      exact same
    · rw [e, stN_neg hv h0]
      have h6 : ∀ j : Nat, stN (setM L id cn) j = if j = id then 2 + (cn : Int) else stN L j := fun j => by
        rw [stN_set (by omega)]
        by_cases e : j = id
        · rw [if_pos e, if_pos (by omega)]
        · rw [if_neg e, if_neg (by omega)]
      rcases laid_kept hk (row_small id cn) ht (by omega) with ⟨a1, a2, a3, a4⟩ | ⟨a1, a2, a3, a4, k, a5⟩
      · rw [a1, a2]
        refine xiff rfl (xift rfl ?_)
        exact done (a3.trans hr) a4 (by simp) h6 rfl
      · rw [a1, a2]
        refine xift rfl ?_
        exact down (e := 0) (K1 := bad) (K2 := bad) a4 (a3.trans hr) a5 (row_small id cn) ht h6 rfl

theorem opened_spec (d : Option Addr) (m : DM) (H : List (List UInt8)) (L L1 : JL) (p : List UInt8) (k : Nat) (x : Int × Int × Int × Int) (hf : FJ m H ((frameN p).take k)) (hp : p.length ≤ 10) (hs : ∀ r ∈ H, r.length ≤ 10) (h0 : takesJ [] H = some L) (h1 : takeJ L p = some L1) (hr : m.room = 20000) (hx2 : i64 x.2.2.1) :
    Ct Pr F_law25_opened [.pointer d, .agg #[.int .i64 x.1, .int .i64 x.2.1, .int .i64 x.2.2.1, .int .i64 x.2.2.2]] .one [.ptr] [DevObj d m] emp (fun t Bs => ∃ m' H' L', (L' = L ∨ L' = L1) ∧ KeptJ m' H' L' ∧ H'.length ≤ H.length + 1 ∧ m'.room = 20000 ∧ Bs = [DevObj d m', JObj d t.1 ⟨false, L'⟩]) := by
  refine spec1 c_law25_opened fun B _ => ?_
  obtain ⟨x0, x1, x2, x3⟩ := x
  dsimp only at hx2 ⊢
  have h1024 : ∀ r ∈ H, r.length ≤ 1024 := fun r hr => by have := hs r hr; omega
  have kept : ∀ {m' : DM} {H' : List (List UInt8)} {L' : JL}, (H' = H ∧ L' = L ∨ 6 + p.length ≤ k ∧ H' = H ++ [p] ∧ L' = L1) → True := fun _ => trivial
  have fin : ∀ {m1 m' : DM} {H' : List (List UInt8)} {L' : JL} {k1 : Nat}, (H' = H ∧ L' = L ∨ 6 + p.length ≤ k1 ∧ H' = H ++ [p] ∧ L' = L1) → m'.down = false → FJ m' H' [] → (L' = L ∨ L' = L1) ∧ KeptJ m' H' L' ∧ H'.length ≤ H.length + 1 := by
    intro m1 m' H' L' k1 h hd hf2
    rcases h with ⟨rfl, rfl⟩ | ⟨_, rfl, rfl⟩
    · exact ⟨.inl rfl, ⟨hd, hf2, h0, hs⟩, by omega⟩
    · refine ⟨.inr rfl, ⟨hd, hf2, takes_snoc h0 h1, fun r hr => ?_⟩, by simp⟩
      simp only [List.mem_append, List.mem_singleton] at hr
      rcases hr with hr | rfl
      · exact hs r hr
      · exact hp
  unfold law25_opened
  refine xnew fun bx => ?_
  refine xloop1 (fun n i As => ∃ (t : Nat) (m : DM) (k : Nat), i = (t : Int) ∧ n = 2 - t ∧ t ≤ 2 ∧ FJ m H ((frameN p).take k) ∧ m.room = 20000 ∧ As = [Blk bx [.int .i64 x0, .int .i64 x1, .int .i64 x2, .int .i64 x3], DevObj d m]) 2 ⟨0, m, k, rfl, rfl, by omega, hf, hr, rfl⟩ ?_
  rintro n _ _ K ⟨t, m, k, rfl, rfl, ht, hf, hr, rfl⟩ hK
  refine xif_dec (fun h => ?_) (fun h => ?_)
  · refine xget (h := ?_)
    refine xcl (Wake_spec d m x3) rdb ?_
    rintro _ _ rfl
    refine app1 (ca0 (xdraw ?_))
    obtain ⟨k1, hf1⟩ := wake_cmd x3 hf
    refine xfact 0 (fun g hg => dev_some hg) fun hd => ?_
    obtain ⟨bd, rfl⟩ := hd
    refine xnil (xget (h := ?_))
    refine xcl (Pick_spec x2 4 hx2 ⟨by decide, by decide⟩) rdb ?_
    rintro ⟨r, _⟩ _ ⟨hp', rfl⟩
    have hp' := pick_use r 4 hp' (by decide)
    obtain ⟨rn, hrn⟩ := Int.eq_ofNat_of_zero_le hp'.1
    obtain rfl : r = (rn : Int) := hrn
    have hrn : rn < 4 := by omega
    refine app0 (ca1 ?_)
    rw [show IntKind.i64.wrap (IntKind.i64.wrap ((rn : Int) - 1) + (t : Int)) = (rn : Int) - 1 + t by rw [wrap_id ((rn : Int) - 1) (by omega) (by omega), wrap_id _ (by omega) (by omega)]]
    generalize hc : (rn : Int) - 1 + t = c
    have hc64 : i64 c := ⟨by omega, by omega⟩
    refine xcl (Arm_spec (some ⟨bd, 0, none⟩) (wakeM m x3) c hc64) rdb ?_
    rintro _ _ rfl
    refine app1 (ca0 ?_)
    have hf2 : FJ (armM (wakeM m x3) c) H ((frameN p).take k1) := hf1
    have hd2 : (armM (wakeM m x3) c).down = false := rfl
    have hr2 : (armM (wakeM m x3) c).room = 20000 := hr
    generalize armM (wakeM m x3) c = m2 at *
    refine xcl (Open_spec (some ⟨bd, 0, none⟩) m2) rdb ?_
    rcases open_cmd hd2 hf2 (by omega) h1024 h0 (fun _ => h1) with ⟨H', L', hor, e1, e2, e3, e4, e5⟩ | ⟨e1, e2, e3, e4, k2, e5⟩
    · obtain ⟨f1, f2, f3⟩ := fin (m1 := m2) hor e3 e5
      rintro ⟨q, r, _⟩ _ (⟨L2, hL, hr', rfl⟩ | ⟨hL, _⟩)
      case inr => rw [e2] at hL; cases hL
      simp only at hr'
      subst hr'
      rw [e2] at hL
      cases hL
      refine app2 (ca2 (xift rfl (xnil ?_)))
      refine xcl (Arm_spec (some ⟨bd, 0, none⟩) (openJ m2).1 (-1) ⟨by decide, by decide⟩) rdb ?_
      rintro _ _ rfl
      refine app1 (ca0 ?_)
      refine xuse [DevObj (some ⟨bd, 0, none⟩) (armM (openJ m2).1 (-1)), JObj (some ⟨bd, 0, none⟩) q ⟨false, L'⟩] (xret ⟨armM (openJ m2).1 (-1), H', L', f1, ⟨f2.up, f2.file, f2.takes, f2.small⟩, f3, e4.trans hr2, rfl⟩)
    · rintro ⟨q, r, _⟩ _ (⟨L2, hL, _⟩ | ⟨hL, hq, hr', rfl⟩)
      · rw [e2] at hL; cases hL
      simp only at hr' hq
      subst hr' hq
      rw [e1]
      refine app1 (ca2 (xiff rfl (xiff rfl ?_)))
      rw [wrap_succ t (by omega)]
      exact xfront 1 (hK (2 - (t + 1)) _ _ (by omega) ⟨t + 1, (openJ m2).1, k2, rfl, rfl, by omega, e5, e4.trans hr2, rfl⟩)
  · refine xget (h := ?_)
    refine xcl (Wake_spec d m x3) rdb ?_
    rintro _ _ rfl
    refine app1 (ca0 ?_)
    obtain ⟨k1, hf1⟩ := wake_cmd x3 hf
    have hd2 : (wakeM m x3).down = false := rfl
    have ha2 : (wakeM m x3).armed = false := rfl
    have hr2 : (wakeM m x3).room = 20000 := hr
    generalize wakeM m x3 = m2 at *
    refine xcl (Open_spec d m2) rdb ?_
    rcases open_cmd hd2 hf1 (by omega) h1024 h0 (fun _ => h1) with ⟨H', L', hor, e1, e2, e3, e4, e5⟩ | ⟨e1, _⟩
    · obtain ⟨f1, f2, f3⟩ := fin (m1 := m2) hor e3 e5
      rintro ⟨q, r, _⟩ _ (⟨L2, hL, hr', rfl⟩ | ⟨hL, _⟩)
      case inr => rw [e2] at hL; cases hL
      rw [e2] at hL
      cases hL
      refine app2 (ca2 ?_)
      exact xuse [DevObj d (openJ m2).1, JObj d q ⟨false, L'⟩] (xret ⟨(openJ m2).1, H', L', f1, f2, f3, e4.trans hr2, rfl⟩)
    · exact absurd e1 (open_free ha2 hd2).2

theorem OrdersKept_spec (l : Sl) (xs : List (Int × Int × Int × Int)) (hx : ∀ x ∈ xs, DOk x) : Ct Pr F_law25_OrdersKept [l.v] .one [.bool] [] (RAr DEED l xs) (fun t Bs => t.1 = true ∧ Bs = []) := by
  refine spec1 c_law25_OrdersKept fun B hr => ?_
  have fl : Fro B l DEED xs := ⟨hr⟩
  have hll := hr.1
  unfold law25_OrdersKept
  refine xcl (New_spec 20000) rdb ?_
  rintro ⟨q, r, _⟩ _ (⟨h, _⟩ | ⟨_, _, h5, ⟨b0, h4⟩, rfl⟩)
  · omega
  simp only at h4 h5
  subst h4 h5
  refine app1 (ca2 (xiff rfl ?_))
  have e0 : openJ ⟨false, false, 0, 20000, []⟩ = (⟨false, false, 0, 20000, []⟩, 0, some []) := open_none rfl (by decide +kernel)
  refine xcl (Open_spec (some ⟨b0, 0, none⟩) ⟨false, false, 0, 20000, []⟩) rdb ?_
  rintro ⟨q1, r, _⟩ _ (⟨L, hL, hr, rfl⟩ | ⟨hL, _⟩)
  case inr => rw [e0] at hL; cases hL
  simp only at hr
  subst hr
  rw [e0] at hL ⊢
  cases hL
  refine app2 (ca2 ?_)
  refine xfact 1 (fun g hg => jobj_some hg) fun hj => ?_
  obtain ⟨bj, hj⟩ := hj
  simp only at hj
  subst hj
  refine xjoin (xiff rfl (xiff rfl ?_))
  refine xnew fun b => ?_
  refine xloop2 (fun n j i As => ∃ (k : Nat) (m : DM) (H : List (List UInt8)) (L : JL) (T : List Int), i = (k : Int) ∧ n = xs.length - k ∧ k ≤ xs.length ∧ k ≤ 60 ∧ H.length ≤ k ∧ KeptJ m H L ∧ TInv T L ∧ m.room = 20000 ∧ As = [TB b T, DevObj (some ⟨b0, 0, none⟩) m, JObj (some ⟨b0, 0, none⟩) j ⟨false, L⟩]) xs.length ⟨0, _, [], [], List.replicate 62 0, rfl, rfl, by omega, by omega, by decide, ⟨rfl, .inl ⟨rfl, rfl, rfl⟩, rfl, by simp⟩, ⟨by simp, fun id h1 h2 => by rw [List.getElem?_replicate, if_pos (by omega)]; rfl⟩, rfl, rfl⟩ ?_
  rintro n j _ _ K ⟨k, m, H, L, T, rfl, rfl, hk, hk2, hHk, hkept, hT, hroom, rfl⟩ hK
  refine xif (fun hlt => ?_) (fun _ => wk25)
  have hlt : k < xs.length ∧ k < 60 := by simp at hlt; omega
  refine xjoin1 (fun j As' => ∃ (m : DM) (H : List (List UInt8)) (L : JL) (T : List Int), H.length ≤ k + 1 ∧ KeptJ m H L ∧ TInv T L ∧ m.room = 20000 ∧ As' = [TB b T, DevObj (some ⟨b0, 0, none⟩) m, JObj (some ⟨b0, 0, none⟩) j ⟨false, L⟩]) ?_ ?_
  · intro J hJ
    have hxk := List.getElem?_eq_getElem (l := xs) (i := k) (by omega)
    have hx64 := hx _ (List.getElem_mem (l := xs) (n := k) (by omega))
    generalize xs[k]'(by omega) = x at hxk hx64
    obtain ⟨x0, x1, x2, x3⟩ := x
    obtain ⟨i0, i1, i2, i3⟩ := hx64
    simp only at i0 i1 i2 i3
    refine xidxn (h1 := by omega) (h := fun _ _ => ?_)
    refine xgetE hxk (h := ?_)
    refine xgetEj hxk (h := ?_)
    refine xgetEj hxk (h := ?_)
    refine xgetEj hxk (h := ?_)
    dsimp only
    refine xnew fun bx => xset (h := xset (h := xset (h := xset (h := xget (h := ?_)))))
    refine xjoin0 (fun As' => ∃ m : DM, KeptJ m H L ∧ m.room = 20000 ∧ As' = [Blk bx [.int .i64 x0, .int .i64 x1, .int .i64 x2, .int .i64 x3], TB b T, DevObj (some ⟨b0, 0, none⟩) m, JObj (some ⟨b0, 0, none⟩) j ⟨false, L⟩]) ?_ ?_
    · intro K3 hK3
      refine xif_dec (fun hpos => ?_) (fun _ => ?_)
      · refine xdraw (xnil (xget (h := xasrt (by decide) ?_)))
        obtain ⟨c, hc⟩ : ∃ c : Nat, x2 - 1 = (c : Int) := ⟨(x2 - 1).toNat, by omega⟩
        have e : (IntKind.i64.wrap (x2 - 1)).tmod 4 = ((c % 4 : Nat) : Int) := by
          rw [wrap_id _ (by have := i2.1; omega) (by have := i2.2; omega), hc]; exact tmod_eq c 4
        rw [e]
        refine xcl (Arm_spec (some ⟨b0, 0, none⟩) m ((c % 4 : Nat) : Int) ⟨by omega, by omega⟩) rdb ?_
        rintro _ _ rfl
        refine app1 (ca0 ?_)
        exact xuse [Blk bx [.int .i64 x0, .int .i64 x1, .int .i64 x2, .int .i64 x3], TB b T, DevObj (some ⟨b0, 0, none⟩) (armM m ((c % 4 : Nat) : Int)), JObj (some ⟨b0, 0, none⟩) j ⟨false, L⟩] (hK3 _ ⟨armM m ((c % 4 : Nat) : Int), ⟨hkept.up, hkept.file, hkept.takes, hkept.small⟩, hroom, rfl⟩)
      · exact hK3 _ ⟨m, hkept, hroom, rfl⟩
    clear hkept hroom
    rintro _ ⟨m, hkept, hroom, rfl⟩
    refine xget (h := xget (h := xget (h := xget (h := ?_))))
    refine xcl (deed_spec b (some ⟨b0, 0, none⟩) j m H L T (x0, x1, x2, x3) hkept hT hroom (by omega) i0 i1) rdb ?_
    rintro ⟨c, _⟩ _ ⟨hc, T', m', J', rfl, hTl, hr', hor⟩
    obtain rfl : c = true := hc
    refine app3 (ca1 (xiff rfl (xnil ?_)))
    refine xcl (Down_spec (some ⟨b0, 0, none⟩) m') rdb ?_
    rintro ⟨c, _⟩ _ ⟨hc, rfl⟩
    simp only at hc
    subst hc
    refine app1 (ca1 ?_)
    rcases hor with ⟨H', L', rfl, hk', hH', hT'⟩ | ⟨L1, p, kk, rfl, hd, hf, hp, ht, hTs⟩
    · refine xift (by rw [hk'.up]; rfl) (xnil ?_)
      refine xcl (Arm_spec (some ⟨b0, 0, none⟩) m' (-1) ⟨by decide, by decide⟩) rdb ?_
      rintro _ _ rfl
      refine app1 (ca0 ?_)
      refine xcl (look_spec b (some ⟨b0, 0, none⟩) j ⟨false, L'⟩ T' hT'.1 (fun id h1 h2 => .inl (hT'.2 id h1 h2))) rdb ?_
      rintro ⟨c, _⟩ _ ⟨hc, T2, hT2, rfl⟩
      obtain rfl : c = true := hc
      refine app2 (ca1 (xiff rfl ?_))
      exact xuse [TB b T2, DevObj (some ⟨b0, 0, none⟩) (armM m' (-1)), JObj (some ⟨b0, 0, none⟩) j ⟨false, L'⟩] (hJ _ _ ⟨armM m' (-1), H', L', T2, by omega, ⟨hk'.up, hk'.file, hk'.takes, hk'.small⟩, hT2, hr', rfl⟩)
    · refine xiff (by rw [hd]; rfl) ?_
      refine xcl (Begin_spec (some ⟨b0, 0, none⟩) j m' ⟨true, L⟩ 1) rdb ?_
      have e1 : beginJ m' ⟨true, L⟩ 1 = (m', ⟨true, L⟩, 10) := by unfold beginJ; rw [if_pos rfl]
      have e2 : endJ m' ⟨true, L⟩ 1 0 = (m', ⟨true, L⟩, 10) := by unfold endJ; rw [if_pos rfl]
      rw [e1]
      rintro ⟨r, _⟩ _ ⟨hr, rfl⟩
      simp only at hr
      subst hr
      refine app2 (ca1 (xjoin (xiff rfl ?_)))
      refine xcl (End_spec (some ⟨b0, 0, none⟩) j m' ⟨true, L⟩ 1 0) rdb ?_
      rw [e2]
      rintro ⟨r, _⟩ _ ⟨hr, rfl⟩
      simp only at hr
      subst hr
      refine app2 (ca1 (xiff rfl ?_))
      refine xget (h := xget (h := xget (h := xget (h := ?_))))
      refine xcl (opened_spec (some ⟨b0, 0, none⟩) m' H L L1 p kk (x0, x1, x2, x3) hf hp hkept.small hkept.takes ht hr' i2) rdb ?_
      rintro ⟨q2, _⟩ _ ⟨m2, H2, L2, hL2, hk2', hH2, hr2, rfl⟩
      refine app2 (ca1 ?_)
      refine xfact 1 (fun g hg => jobj_some hg) fun hj => ?_
      obtain ⟨bk, hj⟩ := hj
      simp only at hj
      subst hj
      refine xjoin (xiff rfl ?_)
      refine xcl (look_spec b (some ⟨b0, 0, none⟩) (some ⟨bk, 0, none⟩) ⟨false, L2⟩ T' hTl (fun id h1 h2 => ?_)) rdb ?_
      · obtain ⟨t1, t2⟩ := hTs id h1 h2
        rcases hL2 with rfl | rfl
        · exact .inl t1
        · rcases t2 with t2 | t2
          · exact .inr t2
          · left; rw [t1, t2]
      rintro ⟨c, _⟩ _ ⟨hc, T2, hT2, rfl⟩
      obtain rfl : c = true := hc
      refine app2 (ca1 (xiff rfl ?_))
      exact xuse [TB b T2, DevObj (some ⟨b0, 0, none⟩) m2, JObj (some ⟨b0, 0, none⟩) (some ⟨bk, 0, none⟩) ⟨false, L2⟩] (hJ _ _ ⟨m2, H2, L2, T2, by omega, hk2', hT2, hr2, rfl⟩)
  · rintro j _ ⟨m, H, L, T, h1, h2, h3, h4, rfl⟩
    rw [wrap_succ k (by omega)]
    exact hK (xs.length - (k + 1)) _ _ _ (by omega) ⟨k + 1, m, H, L, T, rfl, rfl, by omega, by omega, by omega, h2, h3, h4, rfl⟩

end Go.Cx
