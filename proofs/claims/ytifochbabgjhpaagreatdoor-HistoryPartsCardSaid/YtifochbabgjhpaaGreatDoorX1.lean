/-
  The index: its calls.
  What an index holds that was opened over a log.
  A log that is filled.
-/
import Derived.Test.YtifochbabgjhpaaGreatDoorT1
import Derived.Test.YtifochbabgjhpaaGreatDoorR1
import Derived.Test.YtifochbabgjhpaaGreatDoorSN
namespace Go.Cx
open Go Go.Cf
set_option linter.unusedVariables false
set_option maxRecDepth 100000
variable {B : Base} {As F : List HP}

theorem app6 {A1 A2 A3 A4 A5 A6 : HP} {F : List HP} {φ : WP} (h : Ent B (A1 :: A2 :: A3 :: A4 :: A5 :: A6 :: F) φ) : Ent B ([A1, A2, A3, A4, A5, A6] ++ F) φ := h
structure XM where
  L : List KY
  last : Int
abbrev xm0 : XM := ⟨[], -1⟩
abbrev putX (x : XM) (t n : Int) : XM := ⟨insK (t, n) x.L, if n > x.last then n else x.last⟩
def stepX (l : LM) (x : XM) (n : Int) : XM := if (getM (getL l n).1).2 = 0 then putX x (getM (getL l n).1).1.time n else x
def openTo (l : LM) (k : Nat) : XM := (List.range k).foldl (fun x (i : Nat) => stepX l x (l.lo + i)) xm0
def openX (l : LM) : XM := openTo l (l.next - l.lo).toNat
theorem openTo_succ (l : LM) (k : Nat) : openTo l (k + 1) = stepX l (openTo l k) (l.lo + k) := by
  unfold openTo; rw [List.range_succ, List.foldl_append]; rfl
theorem openTo_len (l : LM) : ∀ k : Nat, (openTo l k).L.length ≤ k
  | 0 => by simp [openTo]
  | k + 1 => by
    have ih := openTo_len l k
    rw [openTo_succ]
    unfold stepX
    split
    · unfold putX
      simp only
      by_cases hm : ((getM (getL l (l.lo + k)).1).1.time, (l.lo + k : Int)) ∈ (openTo l k).L
      · rw [ins_mem hm]; omega
      · rw [ins_len hm]; omega
    · omega

def IdxObj (x d l : Option Addr) (m : XM) : HP := fun h => ∃ b q, x = some ⟨b, 0, none⟩ ∧ star [Blk b [.pointer d, .pointer l, .pointer q, .int .i64 m.last], TreeObj q m.L] h
theorem xindex (i : Nat) {x d l : Option Addr} {m : XM} {F : List HP} [p : Pick i As (IdxObj x d l m) F] {φ : WP}
    (k : ∀ b q, x = some ⟨b, 0, none⟩ → Ent B (Blk b [.pointer d, .pointer l, .pointer q, .int .i64 m.last] :: TreeObj q m.L :: F) φ) : Ent B As φ := by
  refine Ent.perm p.perm ?_
  rintro w ⟨g, ⟨a, c, ⟨b, q, hq, pa⟩, pc, d, sa, sc⟩, hm, hu⟩
  exact k b q hq w ⟨g, (star_append [_, _] F).2 ⟨a, c, pa, pc, d, sa, sc⟩, hm, hu⟩
theorem xindex_back (b : Nat) (q d l : Option Addr) (m : XM) {G : List HP} [p : Split [Blk b [.pointer d, .pointer l, .pointer q, .int .i64 m.last], TreeObj q m.L] As G] {φ : WP}
    (k : Ent B (IdxObj (some ⟨b, 0, none⟩) d l m :: G) φ) : Ent B As φ :=
  xfold [Blk b [.pointer d, .pointer l, .pointer q, .int .i64 m.last], TreeObj q m.L] (IdxObj (some ⟨b, 0, none⟩) d l m) (fun g hg => ⟨b, q, rfl, hg⟩) k

theorem putX_spec (x d l : Option Addr) (m : XM) (t n : Int) (hL : m.L.length ≤ 4000000000000000) : Ct Pr F_index_Index_put [.pointer x, .int .i64 t, .int .i64 n] (.tup []) [] [IdxObj x d l m] emp (fun _ Bs => Bs = [IdxObj x d l (putX m t n)]) := by
  refine spec0 c_index_Index_put fun B _ => ?_
  unfold index_Index_put
  refine xindex 0 fun b q hx => ?_
  subst hx
  refine xnil (xget (h := ?_))
  refine xcl (Put_tree q m.L (t, n) n hL) rdb ?_
  rintro ⟨c, _⟩ _ rfl
  refine app1 (ca1 (xnil (xget (h := xnil (xset (h := ?_))))))
  exact xindex_back b q d l (putX m t n) (xret rfl)

theorem clear_spec (b : Nat) (d l q : Option Addr) (n : Int) : Ct Pr F_index_Index_clear [.pointer (some ⟨b, 0, none⟩)] (.tup []) [] [Blk b [.pointer d, .pointer l, .pointer q, .int .i64 n]] emp (fun _ Bs => Bs = [IdxObj (some ⟨b, 0, none⟩) d l xm0]) := by
  refine spec0 c_index_Index_clear fun B _ => ?_
  unfold index_Index_clear
  refine xcl New_tree rdb ?_
  rintro ⟨q', e, _⟩ _ ⟨_, rfl⟩
  refine app1 (ca2 (xnil (xset (h := xnil (xset (h := ?_))))))
  exact xindex_back b q' d l xm0 (xret rfl)

theorem idrop_spec (p : Option Addr) (m : DM) (nm : ByteArray) : Ct Pr F_index_drop [.pointer p, .string nm] .one [.int .i64] [DevObj p m] emp (fun t Bs => t.1 = (dropM m nm).2 ∧ Bs = [DevObj p (dropM m nm).1]) := by
  refine spec1 c_index_drop fun B _ => ?_
  unfold index_drop
  refine xcl (Remove_spec p m nm) rdb ?_
  rintro ⟨t, _⟩ _ ⟨ht, rfl⟩
  simp only at ht; subst ht
  unfold dropM
  refine app1 (ca1 (xif (fun h => ?_) (fun h => ?_)))
  · have h : ¬ (removeM m nm).2 = 6 := by simpa using h
    rw [if_neg h]; exact xret ⟨rfl, rfl⟩
  · have h : (removeM m nm).2 = 6 := by simpa using h
    rw [if_pos h]; exact xret ⟨rfl, rfl⟩

theorem LInv.lo {l : LM} (h : LInv l) : 0 ≤ l.lo ∧ l.lo ≤ 4000000000000 := by
  unfold LM.lo
  cases e : l.segs with
  | nil => have := h.first; simp only; omega
  | cons s r => have := (h.segs s (by rw [e]; simp)).2.1; simp only; omega

theorem getL_len {l : LM} (hi : LInv l) (n : Int) : (getL l n).1.length ≤ 1024 := by
  unfold getL
  split
  · simp
  · split
    · rename_i s hs
      have hm := (hi.segs s (List.mem_of_find?_eq_some hs)).2.2.2.2
      cases e : s.ps[(n - s.first).toNat]? with
      | none => simp
      | some p => exact hm p (List.mem_of_getElem? e)
    · simp

/-- A record that was got. -/
theorem xgot {s : Sl} {xs : List UInt8} {F : List HP} {K : Int → Int → ByteArray → Int → Int → Int → WP} (hl : xs.length ≤ 1000000) (h : Ent B (Ar U8 s xs :: F) (K (getM xs).1.kind (getM xs).1.time (getM xs).1.tag (getM xs).1.val (getM xs).1.id (getM xs).2)) :
    Ent B (Ar U8 s xs :: F) (XCall Pr F_record_Get [s.v] (.tup [some 5, none]) [.int .i64, .int .i64, .str, .int .i64, .int .i64, .int .i64] K) := by
  refine xlen (E := U8) (xs := xs) s fun _ hc => ?_
  refine xcall0 (Get_rec s xs hc (by omega)) rdb ?_
  rintro ⟨k, t, g, v, i, e, _⟩ _ ⟨h1, h2, h3, h4, h5, h6, rfl⟩
  simp only at h1 h2 h3 h4 h5 h6
  subst h1 h2 h3 h4 h5 h6
  exact h

abbrev idxNew : ByteArray := ⟨#[105, 100, 120, 46, 110, 101, 119]⟩
theorem iOpen_spec (d l : Option Addr) (m : DM) (lm : LM) : Ct Pr F_index_Open [.pointer d, .pointer l] (.tup [none, none]) [.ptr, .int .i64] [DevObj d m, LogObj l d lm] emp
    (fun t Bs => t.2.1 = (dropM m idxNew).2 ∧ ((dropM m idxNew).2 ≠ 0 → t.1 = none ∧ Bs = [DevObj d (dropM m idxNew).1, LogObj l d lm]) ∧
      ((dropM m idxNew).2 = 0 → t.1 ≠ none ∧ Bs = [DevObj d (dropM m idxNew).1, LogObj l d lm, IdxObj t.1 d l (openX lm)])) := by
  refine spec2 c_index_Open fun B _ => ?_
  unfold index_Open
  refine xcl (idrop_spec d m idxNew) rdb ?_
  rintro ⟨e, _⟩ _ ⟨he, rfl⟩
  simp only at he; subst he
  refine app1 (ca1 (xif (fun h => ?_) (fun h => ?_)))
  · have h' : (dropM m idxNew).2 ≠ 0 := by simpa using h
    exact xret ⟨rfl, fun _ => ⟨rfl, rfl⟩, fun e => absurd e h'⟩
  have h' : (dropM m idxNew).2 = 0 := by simpa using h
  refine xnew fun b => ?_
  refine xcl (clear_spec b d l none 0) rdb ?_
  rintro _ _ rfl
  refine app1 (ca0 ?_)
  refine xcl (sFirst_spec l d lm) rdb ?_
  rintro ⟨t, _⟩ _ ⟨ht, rfl⟩
  simp only at ht; subst ht
  refine app1 (ca1 ?_)
  refine xfact 0 (P1 := LogObj l d lm) (fun g hg => hg.1) fun hi => ?_
  have hnx := hi.next
  refine xuse [DevObj d (dropM m idxNew).1, LogObj l d lm, IdxObj (some ⟨b, 0, none⟩) d l xm0] ?_
  have hlo := hi.lo
  refine xloop1 (fun n (x : Int) As' => ∃ k : Nat, x = lm.lo + k ∧ n = (lm.next - lm.lo).toNat - k ∧ k ≤ (lm.next - lm.lo).toNat ∧ As' = [DevObj d (dropM m idxNew).1, LogObj l d lm, IdxObj (some ⟨b, 0, none⟩) d l (openTo lm k)]) (lm.next - lm.lo).toNat ⟨0, by simp, rfl, by omega, rfl⟩ ?_
  rintro n x As' K ⟨k, rfl, rfl, hk, rfl⟩ hK
  refine xcl (sNext_spec l d lm) rdb ?_
  rintro ⟨t, _⟩ _ ⟨ht, rfl⟩
  simp only at ht; subst ht
  refine app1 (ca1 (xif_dec (fun h1 => ?_) (fun h1 => ?_)))
  · refine xcl (sGet_spec l d lm (lm.lo + k) ⟨by omega, by omega⟩) rdb ?_
    rintro ⟨s, e, _⟩ _ ⟨_, rfl⟩
    refine app2 (ca2 (xfront 1 (xgot (by have := getL_len hi (lm.lo + k); omega) (xnew fun b1 => ?_))))
    iterate 5 (refine xset (h := ?_))
    refine xjoin0 (fun As' => As' = [DevObj d (dropM m idxNew).1, LogObj l d lm, IdxObj (some ⟨b, 0, none⟩) d l (openTo lm (k + 1))]) (fun K1 hK1 => ?_) ?_
    · rw [openTo_succ] at hK1
      refine xif (fun h2 => ?_) (fun h2 => ?_)
      · have e0 : stepX lm (openTo lm k) (lm.lo + k) = putX (openTo lm k) (getM (getL lm (lm.lo + k)).1).1.time (lm.lo + k) := by unfold stepX; rw [if_pos (eq_of_beq h2)]
        rw [e0] at hK1
        refine xget (h := ?_)
        have hlen := openTo_len lm k
        refine xcl (putX_spec (some ⟨b, 0, none⟩) d l (openTo lm k) _ _ (by omega)) rdb ?_
        rintro _ _ rfl
        exact app1 (ca0 (xuse' (hK1 _ rfl)))
      · have e0 : stepX lm (openTo lm k) (lm.lo + k) = openTo lm k := by unfold stepX; rw [if_neg (by simpa using h2)]
        rw [e0] at hK1
        exact xuse' (hK1 _ rfl)
    · rintro _ rfl
      rw [wrap_id _ (by omega) (by omega)]
      exact hK ((lm.next - lm.lo).toNat - (k + 1)) _ _ (by omega) ⟨k + 1, by omega, rfl, by omega, rfl⟩
  · have e : k = (lm.next - lm.lo).toNat := by omega
    refine xuse [DevObj d (dropM m idxNew).1, LogObj l d lm, IdxObj (some ⟨b, 0, none⟩) d l (openTo lm k)] (xret ⟨h'.symm, fun e => absurd h' e, fun _ => ⟨by simp, ?_⟩⟩)
    rw [e]; rfl

def selK (floor : Int) (d : List KY) : List Int := (d.filter fun k => decide (k.2 ≥ floor)).map (·.2)
theorem selK_snoc (floor : Int) (d : List KY) (k : KY) : selK floor (d ++ [k]) = if k.2 ≥ floor then selK floor d ++ [k.2] else selK floor d := by
  unfold selK
  rw [List.filter_append, List.map_append]
  by_cases h : k.2 ≥ floor
  · rw [if_pos h, List.filter_cons_of_pos (by simpa using h)]; rfl
  · rw [if_neg h, List.filter_cons_of_neg (by simpa using h)]; simp
def rngX (m : XM) (a b floor : Int) : List Int := selK floor (rngK (a, 0) (b, 0) m.L)

theorem iRange_spec (x d l : Option Addr) (m : XM) (a b floor : Int) (hL : m.L.length ≤ 4000000000000) : Ct Pr F_index_Index_Range [.pointer x, .int .i64 a, .int .i64 b, .int .i64 floor] .one [.slice] [IdxObj x d l m] emp
    (fun t Bs => Bs = [IdxObj x d l m, Ar I64 t.1 (rngX m a b floor)]) := by
  refine spec1 c_index_Index_Range fun B _ => ?_
  unfold index_Index_Range
  refine xnew fun b2 => xnew fun b3 => xindex 2 fun xb q hx => ?_
  subst hx
  refine xnil (xget (h := ?_))
  refine xcall0 (Range_tree (to := (b, 0)) q (a, 0)) rdb ?_
  rintro ⟨v, _⟩ _ ⟨fb, tb, qb, hv, rfl⟩
  simp only at hv; subst hv
  refine app3 (ca1 (xrfv hb_range (xrf fun lp D rec hr hn hct => ?_)))
  show Ent B _ (XCall Pr F_tree_Tree_Range_1 [yieldV lp, pv fb, pv tb, pv qb] (.tup []) [] _)
  let St : List KY → HP := fun d h => ∃ s : Sl, star [Blk b3 [s.v], Blk b2 [.int .i64 floor], Ar I64 s (selK floor d)] h
  have hopen : ∀ (d : List KY) g, St d g → ∃ Bs, (∃ s : Sl, Bs = [Blk b3 [s.v], Blk b2 [.int .i64 floor], Ar I64 s (selK floor d)]) ∧ star Bs g := fun d g ⟨s, hs⟩ => ⟨_, ⟨s, rfl⟩, hs⟩
  have hN : (rngK (a, 0) (b, 0) m.L).length ≤ m.L.length := List.length_filter_le _ _
  have hY : YOk lp rec (rngK (a, 0) (b, 0) m.L).length St := by
    intro d k v hd
    refine hct _ [St d] emp (fun Cs => Cs = [St (d ++ [k])]) rfl fun B' _ => ?_
    rw [t_index_Index_Range_rb]
    refine xnew fun c => xset (h := xset (h := ?_))
    refine xbusy 1 hr (xget (h := ?_))
    refine xopen 2 (P1 := St d) _ (hopen d) ?_
    rintro _ ⟨s, rfl⟩
    refine app3 (xget (h := ?_))
    refine xjoin0 (fun As' => ∃ s : Sl, As' = [LoopP lp { rec with state := .busy }, Blk b3 [s.v], Blk b2 [.int .i64 floor], Ar I64 s (selK floor (d ++ [k]))]) (fun K1 hK1 => ?_) ?_
    · rw [selK_snoc] at hK1
      refine xif_dec (fun h => ?_) (fun h => ?_)
      · rw [if_pos h] at hK1
        refine xget (h := xget (h := xnew fun b1 => ?_))
        have hsl : (selK floor d).length ≤ d.length := by
          unfold selK; rw [List.length_map]; exact List.length_filter_le _ _
        refine xapp1 (E := I64) k.2 (hb := by omega) (h := fun s' => xset (h := ?_))
        exact xuse' (hK1 _ ⟨s', rfl⟩)
      · rw [if_neg h] at hK1
        exact xuse' (hK1 _ ⟨s, rfl⟩)
    · rintro _ ⟨s, rfl⟩
      refine xready 0 hr hn ?_
      refine xfold [Blk b3 [s.v], Blk b2 [.int .i64 floor], Ar I64 s (selK floor (d ++ [k]))] (St (d ++ [k])) (fun g hg => ⟨s, hg⟩) ?_
      exact xuse [LoopP lp rec, St (d ++ [k])] fun w hw => ⟨_, rfl, hw⟩
  refine xnone I64 ?_
  refine xfold [Blk b3 [.slice none 0 0], Blk b2 [.int .i64 floor], Ar I64 ⟨none, 0, 0⟩ []] (St []) (fun g hg => ⟨⟨none, 0, 0⟩, hg⟩) ?_
  refine xcl (range1_spec lp rec _ St hY fb tb qb (a, 0) (b, 0) q m.L [] (by simp)) rdb ?_
  rintro _ _ rfl
  refine app6 (ca0 (xendloop 0 hr hn ?_))
  refine xopen 0 (P1 := St ([] ++ rngK (a, 0) (b, 0) m.L)) _ (hopen _) ?_
  rintro _ ⟨s, rfl⟩
  refine app3 (xget (h := ?_))
  refine xfront (P := DefP D) 7 ?_
  refine xtake 0 ?_
  refine xindex_back xb q d l m ?_
  exact xuse [IdxObj (some ⟨xb, 0, none⟩) d l m, Ar I64 s (selK floor ([] ++ rngK (a, 0) (b, 0) m.L))] (xret rfl)
end Go.Cx

namespace Go.Cx
open Go Go.Cf
set_option linter.unusedVariables false
set_option maxRecDepth 100000

theorem part_filter {k : KY} {Q : KY → Bool} : ∀ (l : List KY), k ∉ l → ((l.filter (ltK · k)).filter Q).length + ((l.filter (ltK k ·)).filter Q).length = (l.filter Q).length
  | [], _ => rfl
  | y :: r, hk => by
    have hr : k ∉ r := fun h => hk (List.mem_cons_of_mem _ h)
    have ih := part_filter (Q := Q) r hr
    have hy : y ≠ k := fun e => hk (by rw [e]; simp)
    rcases ltK_tri y k with h | h | h
    · have h2 := ltK_asym h
      rw [List.filter_cons_of_pos (p := (ltK · k)) h, List.filter_cons_of_neg (p := (ltK k ·)) (by rw [h2]; simp)]
      cases hq : Q y
      · rw [List.filter_cons_of_neg (p := Q) (by rw [hq]; simp), List.filter_cons_of_neg (p := Q) (by rw [hq]; simp)]; exact ih
      · rw [List.filter_cons_of_pos (p := Q) hq, List.filter_cons_of_pos (p := Q) hq, List.length_cons, List.length_cons]; omega
    · exact absurd h hy
    · have h2 := ltK_asym h
      rw [List.filter_cons_of_neg (p := (ltK · k)) (by rw [h2]; simp), List.filter_cons_of_pos (p := (ltK k ·)) h]
      cases hq : Q y
      · rw [List.filter_cons_of_neg (p := Q) (by rw [hq]; simp), List.filter_cons_of_neg (p := Q) (by rw [hq]; simp)]; exact ih
      · rw [List.filter_cons_of_pos (p := Q) hq, List.filter_cons_of_pos (p := Q) hq, List.length_cons, List.length_cons]; omega
theorem ins_filter {k : KY} {l : List KY} (h : k ∉ l) (Q : KY → Bool) : ((insK k l).filter Q).length = (l.filter Q).length + (if Q k = true then 1 else 0) := by
  unfold insK
  rw [if_neg h, List.filter_append, List.length_append, ← part_filter (Q := Q) l h]
  cases hq : Q k
  · rw [List.filter_cons_of_neg (by rw [hq]; simp), if_neg (by simp)]; omega
  · rw [List.filter_cons_of_pos hq, if_pos rfl, List.length_cons]; omega

def okE (ps : List (List UInt8)) (i : Nat) : Bool := (getM (ps.getD i [])).2 == 0
abbrev timeE (ps : List (List UInt8)) (i : Nat) : Int := (getM (ps.getD i [])).1.time
abbrev keyE (ps : List (List UInt8)) (i : Nat) : KY := (timeE ps i, (i : Int))

theorem open_law (gs : List (List (List UInt8))) (safe : Int) : ∀ k : Nat, k ≤ gs.flatten.length → SrtK (openTo (logOf gs safe) k).L ∧ (∀ y, y ∈ (openTo (logOf gs safe) k).L ↔ ∃ i, i < k ∧ okE gs.flatten i = true ∧ y = keyE gs.flatten i) ∧
    ∀ Q : KY → Bool, ((openTo (logOf gs safe) k).L.filter Q).length = ((List.range k).filter fun i => okE gs.flatten i && Q (keyE gs.flatten i)).length
  | 0, _ => ⟨List.Pairwise.nil, fun y => ⟨fun h => by simp [openTo] at h, fun ⟨i, h, _⟩ => by omega⟩, fun Q => rfl⟩
  | k + 1, hk => by
    obtain ⟨h1, h2, h3⟩ := open_law gs safe k (by omega)
    have hp := List.getElem?_eq_getElem (l := gs.flatten) (i := k) (by omega)
    have hget := get_of (safe := safe.toNat) hp
    have e1 : getL (logOf gs safe) (0 + (k : Int)) = (gs.flatten.getD k [], 0) := by
      rw [List.getD_eq_getElem?_getD, hp, Int.zero_add]
      unfold getL at hget ⊢
      exact hget
    rw [openTo_succ, lo_of]
    unfold stepX
    rw [e1]
    have hnot : keyE gs.flatten k ∉ (openTo (logOf gs safe) k).L := fun h => by
      obtain ⟨i, hi, _, e⟩ := (h2 _).1 h
      have : (k : Int) = i := congrArg Prod.snd e
      omega
    have e2 : (timeE gs.flatten k, (0 + (k : Int))) = keyE gs.flatten k := by rw [Int.zero_add]
    have e2' : ((getM (gs.flatten.getD k [])).1.time, (0 + (k : Int))) = keyE gs.flatten k := e2
    by_cases hok : (getM (gs.flatten.getD k [])).2 = 0
    · have hb : okE gs.flatten k = true := by unfold okE; rw [hok]; rfl
      rw [if_pos hok]
      simp only
      rw [e2']
      refine ⟨ins_srt h1, fun y => ?_, fun Q => ?_⟩
      · rw [ins_iff h1, h2]
        constructor
        · rintro (rfl | ⟨i, a, b, c⟩)
          · exact ⟨k, by omega, hb, rfl⟩
          · exact ⟨i, by omega, b, c⟩
        · rintro ⟨i, a, b, rfl⟩
          by_cases e : i = k
          · subst e; exact .inl rfl
          · exact .inr ⟨i, by omega, b, rfl⟩
      · rw [ins_filter hnot, h3, List.range_succ, List.filter_append, List.length_append]
        cases hq : Q (keyE gs.flatten k)
        · rw [if_neg (by simp), List.filter_cons_of_neg (by rw [hq]; simp)]; rfl
        · rw [if_pos rfl, List.filter_cons_of_pos (by rw [hq, hb]; rfl)]; rfl
    · have hb : okE gs.flatten k = false := by unfold okE; simpa using hok
      rw [if_neg hok]
      refine ⟨h1, fun y => ?_, fun Q => ?_⟩
      · rw [h2]
        constructor
        · rintro ⟨i, a, b, c⟩; exact ⟨i, by omega, b, c⟩
        · rintro ⟨i, a, b, rfl⟩
          by_cases e : i = k
          · subst e; rw [hb] at b; cases b
          · exact ⟨i, by omega, b, rfl⟩
      · rw [h3, List.range_succ, List.filter_append, List.length_append, List.filter_cons_of_neg (by rw [hb]; simp)]; rfl

theorem openX_of (gs : List (List (List UInt8))) (safe : Int) : openX (logOf gs safe) = openTo (logOf gs safe) gs.flatten.length := by
  unfold openX; rw [next_of, lo_of]; congr 1

/-- A record that was read has a time. -/
theorem checkR_time {r : RE} (h : checkR r = 0) : 0 ≤ r.time ∧ r.time ≤ 1099511627776 := by
  unfold checkR at h
  split at h
  · cases h
  · split at h
    · cases h
    · split at h
      · cases h
      · rename_i h2
        simp only [withinB, Bool.not_eq_true', Bool.and_eq_false_imp, decide_eq_true_eq, decide_eq_false_iff_not] at h2
        omega
theorem finM_ok {r : RE} {rest : List UInt8} {sh : Bool} (h : (finM r rest sh).2 = 0) : (finM r rest sh).1 = r ∧ checkR r = 0 := by
  unfold finM at h ⊢
  split at h
  · cases h
  · rename_i h1
    rw [if_neg h1]
    split at h
    · cases h
    · rename_i h2
      rw [if_neg h2]
      split at h
      · rename_i h3; exact absurd h h3
      · rename_i h3
        rw [if_neg h3]
        exact ⟨rfl, by simpa using h3⟩
theorem getM_check {bs : List UInt8} (h : (getM bs).2 = 0) : checkR (getM bs).1 = 0 := by
  have fm : ∀ {r : RE} {rest : List UInt8} {sh : Bool}, (finM r rest sh).2 = 0 → checkR (finM r rest sh).1 = 0 := fun h => by
    obtain ⟨h1, h2⟩ := finM_ok h; rw [h1]; exact h2
  cases bs with
  | nil => cases h
  | cons k rest =>
    cases hw : withinB (k.toNat : Int) 1 6 with
    | false => rw [getM_bad hw] at h; cases h
    | true =>
      rw [getM_ok hw] at h ⊢
      generalize numM rest false = a at *
      unfold getK at h ⊢
      split at h
      · rename_i h1
        rw [if_pos h1]
        unfold tagged at h ⊢
        cases he : a.2.1 with
        | nil => rw [he] at h; cases h
        | cons n r2 =>
          rw [he] at h
          simp only at h ⊢
          split at h
          · cases h
          · rename_i h2
            rw [if_neg h2]; exact fm h
      · rename_i h1
        rw [if_neg h1]
        split at h
        · rename_i h2; rw [if_pos h2]; exact fm h
        · rename_i h2
          rw [if_neg h2]
          split at h
          · rename_i h3; rw [if_pos h3]; exact fm h
          · rename_i h3; rw [if_neg h3]; exact fm h
end Go.Cx

namespace Go.Cx
open Go Go.Cf
set_option linter.unusedVariables false
set_option maxRecDepth 100000
variable {B : Base} {As F : List HP}

theorem drop_up {m : DM} (nm : ByteArray) (hd : m.down = false) (ha : m.armed = false) : (dropM m nm).2 = 0 := by
  have hs : spendM m = (m, true) := by unfold spendM; rw [ha]; rfl
  have h1 : (removeM m nm).2 = 0 ∨ (removeM m nm).2 = 6 := by
    unfold removeM onFile spent
    dsimp only
    rw [hs, if_neg (by rw [hd]; simp)]
    cases thereL m.fs nm.toList
    · right; rfl
    · left; rfl
  unfold dropM
  rcases h1 with h1 | h1
  · rw [if_neg (by rw [h1]; decide)]; exact h1
  · rw [if_pos h1]

def RowsAt (s : Sl) (rs : List Sl) (bss : List (List UInt8)) : HP := fun h => RAr SL s rs h ∧ rs.length = bss.length ∧ ∀ (i : Nat) (r : Sl) (bs : List UInt8), rs[i]? = some r → bss[i]? = some bs → RAr U8 r bs h

/-! A log of payloads, and its index. -/
abbrev k20 : DM := ⟨false, false, 0, 1048576, []⟩
def fillM (x : DM × LM) (ps : List (List UInt8)) : DM × LM := ps.foldl (fun x p => ((appendL x.1 x.2 p).1, (appendL x.1 x.2 p).2.1)) x
abbrev fill0 (ps : List (List UInt8)) : DM × LM := fillM (k20, logOf [] 0) ps
theorem k20_inv : DInv k20 := ⟨List.Pairwise.nil, fun f hf => by simp at hf, fun f hf => by simp at hf, by simp [usedN], by decide, by simp, ⟨⟨by simp, by simp⟩, fun h => by cases h⟩⟩
theorem fill_snoc (x : DM × LM) (ps : List (List UInt8)) (p : List UInt8) : fillM x (ps ++ [p]) = ((appendL (fillM x ps).1 (fillM x ps).2 p).1, (appendL (fillM x ps).1 (fillM x ps).2 p).2.1) := by
  unfold fillM; rw [List.foldl_append]; rfl
theorem fill_relN : ∀ (n : Nat) (ps : List (List UInt8)), ps.length = n → n ≤ 100000 → ∃ (gs : List (List (List UInt8))) (safe : Nat), (fill0 ps).2 = logOf gs safe ∧ Rel (fill0 ps).1 gs safe ∧ gs.flatten.length ≤ ps.length ∧ (fill0 ps).1.armed = false ∧ (fill0 ps).1.down = false := by
  intro n
  induction n with
  | zero =>
    intro ps h0 _
    obtain rfl := List.eq_nil_of_length_eq_zero h0
    exact ⟨[], 0, rfl, rel_empty k20_inv rfl, by simp, rfl, rfl⟩
  | succ n ih =>
    intro ps0 h0 hl
    rcases List.eq_nil_or_concat ps0 with rfl | ⟨ps, p, rfl⟩
    · simp at h0
    rw [List.concat_eq_append] at h0 ⊢
    rw [List.length_append, List.length_singleton] at h0
    obtain ⟨gs, safe, e1, e2, e3, e4, e5⟩ := ih ps (by omega) (by omega)
    obtain ⟨gs', safe', s1, s2, s3, s4, s5, s6⟩ := e2.step p (by omega)
    rw [← e1] at s1 s2 s5
    have e7 : fill0 (ps ++ [p]) = ((appendL (fill0 ps).1 (fill0 ps).2 p).1, (appendL (fill0 ps).1 (fill0 ps).2 p).2.1) := fill_snoc _ ps p
    rw [e7]
    refine ⟨gs', safe', s1, s2, ?_, s5 e4 e5⟩
    rw [List.length_append, List.length_singleton]
    rcases s6 with ⟨_, _, e⟩ | ⟨_, _, e⟩ <;> rw [e]
    · rw [List.length_append, List.length_singleton]; omega
    · omega

theorem fill_rel (ps : List (List UInt8)) (h : ps.length ≤ 100000) : ∃ (gs : List (List (List UInt8))) (safe : Nat), (fill0 ps).2 = logOf gs safe ∧ Rel (fill0 ps).1 gs safe ∧ gs.flatten.length ≤ ps.length ∧ (fill0 ps).1.armed = false ∧ (fill0 ps).1.down = false := fill_relN _ ps rfl h

end Go.Cx
