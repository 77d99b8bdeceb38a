/-
  The index: its calls.
  What an index holds that was opened over a log.
  The law of an index: what it calls.
  The law of an index.
  What the listed variables give.
-/
import Derived.Test.YtlcnhajfgilipaaGreatDoorT1
import Derived.Test.YtlcnhajfgilipaaGreatDoorR1
import Derived.Test.YtlcnhajfgilipaaGreatDoorSN
import Derived.Test.YtlcnhajfgilipaaGreatDoorCfZ
import Derived.Lib.LaidTab
import Derived.LaidLaws
namespace Go.Cx
open Go Go.Cf
set_option linter.unusedVariables false
set_option maxRecDepth 100000
variable {B : Base} {As F : List HP}

theorem app6 {A1 A2 A3 A4 A5 A6 : HP} {F : List HP} {φ : WP} (h : Ent B (A1 :: A2 :: A3 :: A4 :: A5 :: A6 :: F) φ) : Ent B ([A1, A2, A3, A4, A5, A6] ++ F) φ := h
structure XM where
  L : List KY
  last : Int
abbrev xm0 : XM := ⟨[], -1⟩
abbrev putX (x : XM) (t n : Int) : XM := ⟨insK (t, n) x.L, if n > x.last then n else x.last⟩
def stepX (l : LM) (x : XM) (n : Int) : XM := if (getM (getL l n).1).2 = 0 then putX x (getM (getL l n).1).1.time n else x
def openTo (l : LM) (k : Nat) : XM := (List.range k).foldl (fun x (i : Nat) => stepX l x (l.lo + i)) xm0
def openX (l : LM) : XM := openTo l (l.next - l.lo).toNat
theorem openTo_succ (l : LM) (k : Nat) : openTo l (k + 1) = stepX l (openTo l k) (l.lo + k) := by
  unfold openTo; rw [List.range_succ, List.foldl_append]; rfl
theorem openTo_len (l : LM) : ∀ k : Nat, (openTo l k).L.length ≤ k
  | 0 => by simp [openTo]
  | k + 1 => by
    have ih := openTo_len l k
    rw [openTo_succ]
    unfold stepX
    split
    · unfold putX
      simp only
      by_cases hm : ((getM (getL l (l.lo + k)).1).1.time, (l.lo + k : Int)) ∈ (openTo l k).L
      · rw [ins_mem hm]; omega
      · rw [ins_len hm]; omega
    · omega

def IdxObj (x d l : Option Addr) (m : XM) : HP := fun h => ∃ b q, x = some ⟨b, 0, none⟩ ∧ star [Blk b [.pointer d, .pointer l, .pointer q, .int .i64 m.last], TreeObj q m.L] h
theorem xindex (i : Nat) {x d l : Option Addr} {m : XM} {F : List HP} [p : Pick i As (IdxObj x d l m) F] {φ : WP}
    (k : ∀ b q, x = some ⟨b, 0, none⟩ → Ent B (Blk b [.pointer d, .pointer l, .pointer q, .int .i64 m.last] :: TreeObj q m.L :: F) φ) : Ent B As φ := by
  refine Ent.perm p.perm ?_
  rintro w ⟨g, ⟨a, c, ⟨b, q, hq, pa⟩, pc, d, sa, sc⟩, hm, hu⟩
  exact k b q hq w ⟨g, (star_append [_, _] F).2 ⟨a, c, pa, pc, d, sa, sc⟩, hm, hu⟩
theorem xindex_back (b : Nat) (q d l : Option Addr) (m : XM) {G : List HP} [p : Split [Blk b [.pointer d, .pointer l, .pointer q, .int .i64 m.last], TreeObj q m.L] As G] {φ : WP}
    (k : Ent B (IdxObj (some ⟨b, 0, none⟩) d l m :: G) φ) : Ent B As φ :=
  xfold [Blk b [.pointer d, .pointer l, .pointer q, .int .i64 m.last], TreeObj q m.L] (IdxObj (some ⟨b, 0, none⟩) d l m) (fun g hg => ⟨b, q, rfl, hg⟩) k

theorem putX_spec (x d l : Option Addr) (m : XM) (t n : Int) (hL : m.L.length ≤ 4000000000000000) : Ct Pr F_index_Index_put [.pointer x, .int .i64 t, .int .i64 n] (.tup []) [] [IdxObj x d l m] emp (fun _ Bs => Bs = [IdxObj x d l (putX m t n)]) := by
  refine spec0 c_index_Index_put fun B _ => ?_
  unfold index_Index_put
  refine xindex 0 fun b q hx => ?_
  subst hx
  refine xnil (xget (h := ?_))
  refine xcl (Put_tree q m.L (t, n) n hL) rdb ?_
  rintro ⟨c, _⟩ _ rfl
  refine app1 (ca1 (xnil (xget (h := xnil (xset (h := ?_))))))
  exact xindex_back b q d l (putX m t n) (xret rfl)

theorem clear_spec (b : Nat) (d l q : Option Addr) (n : Int) : Ct Pr F_index_Index_clear [.pointer (some ⟨b, 0, none⟩)] (.tup []) [] [Blk b [.pointer d, .pointer l, .pointer q, .int .i64 n]] emp (fun _ Bs => Bs = [IdxObj (some ⟨b, 0, none⟩) d l xm0]) := by
  refine spec0 c_index_Index_clear fun B _ => ?_
  unfold index_Index_clear
  refine xcl New_tree rdb ?_
  rintro ⟨q', e, _⟩ _ ⟨_, rfl⟩
  refine app1 (ca2 (xnil (xset (h := xnil (xset (h := ?_))))))
  exact xindex_back b q' d l xm0 (xret rfl)

theorem idrop_spec (p : Option Addr) (m : DM) (nm : ByteArray) : Ct Pr F_index_drop [.pointer p, .string nm] .one [.int .i64] [DevObj p m] emp (fun t Bs => t.1 = (dropM m nm).2 ∧ Bs = [DevObj p (dropM m nm).1]) := by
  refine spec1 c_index_drop fun B _ => ?_
  unfold index_drop
  refine xcl (Remove_spec p m nm) rdb ?_
  rintro ⟨t, _⟩ _ ⟨ht, rfl⟩
  simp only at ht; subst ht
  unfold dropM
  refine app1 (ca1 (xif (fun h => ?_) (fun h => ?_)))
  · have h : ¬ (removeM m nm).2 = 6 := by simpa using h
    rw [if_neg h]; exact xret ⟨rfl, rfl⟩
  · have h : (removeM m nm).2 = 6 := by simpa using h
    rw [if_pos h]; exact xret ⟨rfl, rfl⟩

theorem LInv.lo {l : LM} (h : LInv l) : 0 ≤ l.lo ∧ l.lo ≤ 4000000000000 := by
  unfold LM.lo
  cases e : l.segs with
  | nil => have := h.first; simp only; omega
  | cons s r => have := (h.segs s (by rw [e]; simp)).2.1; simp only; omega

theorem getL_len {l : LM} (hi : LInv l) (n : Int) : (getL l n).1.length ≤ 1024 := by
  unfold getL
  split
  · simp
  · split
    · rename_i s hs
      have hm := (hi.segs s (List.mem_of_find?_eq_some hs)).2.2.2.2
      cases e : s.ps[(n - s.first).toNat]? with
      | none => simp
      | some p => exact hm p (List.mem_of_getElem? e)
    · simp

/-- A record that was got. -/
theorem xgot {s : Sl} {xs : List UInt8} {F : List HP} {K : Int → Int → ByteArray → Int → Int → Int → WP} (hl : xs.length ≤ 1000000) (h : Ent B (Ar U8 s xs :: F) (K (getM xs).1.kind (getM xs).1.time (getM xs).1.tag (getM xs).1.val (getM xs).1.id (getM xs).2)) :
    Ent B (Ar U8 s xs :: F) (XCall Pr F_record_Get [s.v] (.tup [some 5, none]) [.int .i64, .int .i64, .str, .int .i64, .int .i64, .int .i64] K) := by
  refine xlen (E := U8) (xs := xs) s fun _ hc => ?_
  refine xcall0 (Get_rec s xs hc (by omega)) rdb ?_
  rintro ⟨k, t, g, v, i, e, _⟩ _ ⟨h1, h2, h3, h4, h5, h6, rfl⟩
  simp only at h1 h2 h3 h4 h5 h6
  subst h1 h2 h3 h4 h5 h6
  exact h

abbrev idxNew : ByteArray := ⟨#[105, 100, 120, 46, 110, 101, 119]⟩
theorem iOpen_spec (d l : Option Addr) (m : DM) (lm : LM) : Ct Pr F_index_Open [.pointer d, .pointer l] (.tup [none, none]) [.ptr, .int .i64] [DevObj d m, LogObj l d lm] emp
    (fun t Bs => t.2.1 = (dropM m idxNew).2 ∧ ((dropM m idxNew).2 ≠ 0 → t.1 = none ∧ Bs = [DevObj d (dropM m idxNew).1, LogObj l d lm]) ∧
      ((dropM m idxNew).2 = 0 → t.1 ≠ none ∧ Bs = [DevObj d (dropM m idxNew).1, LogObj l d lm, IdxObj t.1 d l (openX lm)])) := by
  refine spec2 c_index_Open fun B _ => ?_
  unfold index_Open
  refine xcl (idrop_spec d m idxNew) rdb ?_
  rintro ⟨e, _⟩ _ ⟨he, rfl⟩
  simp only at he; subst he
  refine app1 (ca1 (xif (fun h => ?_) (fun h => ?_)))
  · have h' : (dropM m idxNew).2 ≠ 0 := by simpa using h
    exact xret ⟨rfl, fun _ => ⟨rfl, rfl⟩, fun e => absurd e h'⟩
  have h' : (dropM m idxNew).2 = 0 := by simpa using h
  refine xnew fun b => ?_
  refine xcl (clear_spec b d l none 0) rdb ?_
  rintro _ _ rfl
  refine app1 (ca0 ?_)
  refine xcl (sFirst_spec l d lm) rdb ?_
  rintro ⟨t, _⟩ _ ⟨ht, rfl⟩
  simp only at ht; subst ht
  refine app1 (ca1 ?_)
  refine xfact 0 (P1 := LogObj l d lm) (fun g hg => hg.1) fun hi => ?_
  have hnx := hi.next
  refine xuse [DevObj d (dropM m idxNew).1, LogObj l d lm, IdxObj (some ⟨b, 0, none⟩) d l xm0] ?_
  have hlo := hi.lo
  refine xloop1 (fun n (x : Int) As' => ∃ k : Nat, x = lm.lo + k ∧ n = (lm.next - lm.lo).toNat - k ∧ k ≤ (lm.next - lm.lo).toNat ∧ As' = [DevObj d (dropM m idxNew).1, LogObj l d lm, IdxObj (some ⟨b, 0, none⟩) d l (openTo lm k)]) (lm.next - lm.lo).toNat ⟨0, by simp, rfl, by omega, rfl⟩ ?_
  rintro n x As' K ⟨k, rfl, rfl, hk, rfl⟩ hK
  refine xcl (sNext_spec l d lm) rdb ?_
  rintro ⟨t, _⟩ _ ⟨ht, rfl⟩
  simp only at ht; subst ht
  refine app1 (ca1 (xif_dec (fun h1 => ?_) (fun h1 => ?_)))
  · refine xcl (sGet_spec l d lm (lm.lo + k) ⟨by omega, by omega⟩) rdb ?_
    rintro ⟨s, e, _⟩ _ ⟨_, rfl⟩
    refine app2 (ca2 (xfront 1 (xgot (by have := getL_len hi (lm.lo + k); omega) (xnew fun b1 => ?_))))
    iterate 5 (refine xset (h := ?_))
    refine xjoin0 (fun As' => As' = [DevObj d (dropM m idxNew).1, LogObj l d lm, IdxObj (some ⟨b, 0, none⟩) d l (openTo lm (k + 1))]) (fun K1 hK1 => ?_) ?_
    · rw [openTo_succ] at hK1
      refine xif (fun h2 => ?_) (fun h2 => ?_)
      · have e0 : stepX lm (openTo lm k) (lm.lo + k) = putX (openTo lm k) (getM (getL lm (lm.lo + k)).1).1.time (lm.lo + k) := by unfold stepX; rw [if_pos (eq_of_beq h2)]
        rw [e0] at hK1
        refine xget (h := ?_)
        have hlen := openTo_len lm k
        refine xcl (putX_spec (some ⟨b, 0, none⟩) d l (openTo lm k) _ _ (by omega)) rdb ?_
        rintro _ _ rfl
        exact app1 (ca0 (xuse' (hK1 _ rfl)))
      · have e0 : stepX lm (openTo lm k) (lm.lo + k) = openTo lm k := by unfold stepX; rw [if_neg (by simpa using h2)]
        rw [e0] at hK1
        exact xuse' (hK1 _ rfl)
    · rintro _ rfl
      rw [wrap_id _ (by omega) (by omega)]
      exact hK ((lm.next - lm.lo).toNat - (k + 1)) _ _ (by omega) ⟨k + 1, by omega, rfl, by omega, rfl⟩
  · have e : k = (lm.next - lm.lo).toNat := by omega
    refine xuse [DevObj d (dropM m idxNew).1, LogObj l d lm, IdxObj (some ⟨b, 0, none⟩) d l (openTo lm k)] (xret ⟨h'.symm, fun e => absurd h' e, fun _ => ⟨by simp, ?_⟩⟩)
    rw [e]; rfl

def selK (floor : Int) (d : List KY) : List Int := (d.filter fun k => decide (k.2 ≥ floor)).map (·.2)
theorem selK_snoc (floor : Int) (d : List KY) (k : KY) : selK floor (d ++ [k]) = if k.2 ≥ floor then selK floor d ++ [k.2] else selK floor d := by
  unfold selK
  rw [List.filter_append, List.map_append]
  by_cases h : k.2 ≥ floor
  · rw [if_pos h, List.filter_cons_of_pos (by simpa using h)]; rfl
  · rw [if_neg h, List.filter_cons_of_neg (by simpa using h)]; simp
def rngX (m : XM) (a b floor : Int) : List Int := selK floor (rngK (a, 0) (b, 0) m.L)

theorem iRange_spec (x d l : Option Addr) (m : XM) (a b floor : Int) (hL : m.L.length ≤ 4000000000000) : Ct Pr F_index_Index_Range [.pointer x, .int .i64 a, .int .i64 b, .int .i64 floor] .one [.slice] [IdxObj x d l m] emp
    (fun t Bs => Bs = [IdxObj x d l m, Ar I64 t.1 (rngX m a b floor)]) := by
  refine spec1 c_index_Index_Range fun B _ => ?_
  unfold index_Index_Range
  refine xnew fun b2 => xnew fun b3 => xindex 2 fun xb q hx => ?_
  subst hx
  refine xnil (xget (h := ?_))
  refine xcall0 (Range_tree (to := (b, 0)) q (a, 0)) rdb ?_
  rintro ⟨v, _⟩ _ ⟨fb, tb, qb, hv, rfl⟩
  simp only at hv; subst hv
  refine app3 (ca1 (xrfv hb_range (xrf fun lp D rec hr hn hct => ?_)))
  show Ent B _ (XCall Pr F_tree_Tree_Range_1 [yieldV lp, pv fb, pv tb, pv qb] (.tup []) [] _)
  let St : List KY → HP := fun d h => ∃ s : Sl, star [Blk b3 [s.v], Blk b2 [.int .i64 floor], Ar I64 s (selK floor d)] h
  have hopen : ∀ (d : List KY) g, St d g → ∃ Bs, (∃ s : Sl, Bs = [Blk b3 [s.v], Blk b2 [.int .i64 floor], Ar I64 s (selK floor d)]) ∧ star Bs g := fun d g ⟨s, hs⟩ => ⟨_, ⟨s, rfl⟩, hs⟩
  have hN : (rngK (a, 0) (b, 0) m.L).length ≤ m.L.length := List.length_filter_le _ _
  have hY : YOk lp rec (rngK (a, 0) (b, 0) m.L).length St := by
    intro d k v hd
    refine hct _ [St d] emp (fun Cs => Cs = [St (d ++ [k])]) rfl fun B' _ => ?_
    rw [t_index_Index_Range_rb]
    refine xnew fun c => xset (h := xset (h := ?_))
    refine xbusy 1 hr (xget (h := ?_))
    refine xopen 2 (P1 := St d) _ (hopen d) ?_
    rintro _ ⟨s, rfl⟩
    refine app3 (xget (h := ?_))
    refine xjoin0 (fun As' => ∃ s : Sl, As' = [LoopP lp { rec with state := .busy }, Blk b3 [s.v], Blk b2 [.int .i64 floor], Ar I64 s (selK floor (d ++ [k]))]) (fun K1 hK1 => ?_) ?_
    · rw [selK_snoc] at hK1
      refine xif_dec (fun h => ?_) (fun h => ?_)
      · rw [if_pos h] at hK1
        refine xget (h := xget (h := xnew fun b1 => ?_))
        have hsl : (selK floor d).length ≤ d.length := by
          unfold selK; rw [List.length_map]; exact List.length_filter_le _ _
        refine xapp1 (E := I64) k.2 (hb := by omega) (h := fun s' => xset (h := ?_))
        exact xuse' (hK1 _ ⟨s', rfl⟩)
      · rw [if_neg h] at hK1
        exact xuse' (hK1 _ ⟨s, rfl⟩)
    · rintro _ ⟨s, rfl⟩
      refine xready 0 hr hn ?_
      refine xfold [Blk b3 [s.v], Blk b2 [.int .i64 floor], Ar I64 s (selK floor (d ++ [k]))] (St (d ++ [k])) (fun g hg => ⟨s, hg⟩) ?_
      exact xuse [LoopP lp rec, St (d ++ [k])] fun w hw => ⟨_, rfl, hw⟩
  refine xnone I64 ?_
  refine xfold [Blk b3 [.slice none 0 0], Blk b2 [.int .i64 floor], Ar I64 ⟨none, 0, 0⟩ []] (St []) (fun g hg => ⟨⟨none, 0, 0⟩, hg⟩) ?_
  refine xcl (range1_spec lp rec _ St hY fb tb qb (a, 0) (b, 0) q m.L [] (by simp)) rdb ?_
  rintro _ _ rfl
  refine app6 (ca0 (xendloop 0 hr hn ?_))
  refine xopen 0 (P1 := St ([] ++ rngK (a, 0) (b, 0) m.L)) _ (hopen _) ?_
  rintro _ ⟨s, rfl⟩
  refine app3 (xget (h := ?_))
  refine xfront (P := DefP D) 7 ?_
  refine xtake 0 ?_
  refine xindex_back xb q d l m ?_
  exact xuse [IdxObj (some ⟨xb, 0, none⟩) d l m, Ar I64 s (selK floor ([] ++ rngK (a, 0) (b, 0) m.L))] (xret rfl)
end Go.Cx

namespace Go.Cx
open Go Go.Cf
set_option linter.unusedVariables false
set_option maxRecDepth 100000

theorem part_filter {k : KY} {Q : KY → Bool} : ∀ (l : List KY), k ∉ l → ((l.filter (ltK · k)).filter Q).length + ((l.filter (ltK k ·)).filter Q).length = (l.filter Q).length
  | [], _ => rfl
  | y :: r, hk => by
    have hr : k ∉ r := fun h => hk (List.mem_cons_of_mem _ h)
    have ih := part_filter (Q := Q) r hr
    have hy : y ≠ k := fun e => hk (by rw [e]; simp)
    rcases ltK_tri y k with h | h | h
    · have h2 := ltK_asym h
      rw [List.filter_cons_of_pos (p := (ltK · k)) h, List.filter_cons_of_neg (p := (ltK k ·)) (by rw [h2]; simp)]
      cases hq : Q y
      · rw [List.filter_cons_of_neg (p := Q) (by rw [hq]; simp), List.filter_cons_of_neg (p := Q) (by rw [hq]; simp)]; exact ih
      · rw [List.filter_cons_of_pos (p := Q) hq, List.filter_cons_of_pos (p := Q) hq, List.length_cons, List.length_cons]; omega
    · exact absurd h hy
    · have h2 := ltK_asym h
      rw [List.filter_cons_of_neg (p := (ltK · k)) (by rw [h2]; simp), List.filter_cons_of_pos (p := (ltK k ·)) h]
      cases hq : Q y
      · rw [List.filter_cons_of_neg (p := Q) (by rw [hq]; simp), List.filter_cons_of_neg (p := Q) (by rw [hq]; simp)]; exact ih
      · rw [List.filter_cons_of_pos (p := Q) hq, List.filter_cons_of_pos (p := Q) hq, List.length_cons, List.length_cons]; omega
theorem ins_filter {k : KY} {l : List KY} (h : k ∉ l) (Q : KY → Bool) : ((insK k l).filter Q).length = (l.filter Q).length + (if Q k = true then 1 else 0) := by
  unfold insK
  rw [if_neg h, List.filter_append, List.length_append, ← part_filter (Q := Q) l h]
  cases hq : Q k
  · rw [List.filter_cons_of_neg (by rw [hq]; simp), if_neg (by simp)]; omega
  · rw [List.filter_cons_of_pos hq, if_pos rfl, List.length_cons]; omega

def okE (ps : List (List UInt8)) (i : Nat) : Bool := (getM (ps.getD i [])).2 == 0
abbrev timeE (ps : List (List UInt8)) (i : Nat) : Int := (getM (ps.getD i [])).1.time
abbrev keyE (ps : List (List UInt8)) (i : Nat) : KY := (timeE ps i, (i : Int))

theorem open_law (gs : List (List (List UInt8))) (safe : Int) : ∀ k : Nat, k ≤ gs.flatten.length → SrtK (openTo (logOf gs safe) k).L ∧ (∀ y, y ∈ (openTo (logOf gs safe) k).L ↔ ∃ i, i < k ∧ okE gs.flatten i = true ∧ y = keyE gs.flatten i) ∧
    ∀ Q : KY → Bool, ((openTo (logOf gs safe) k).L.filter Q).length = ((List.range k).filter fun i => okE gs.flatten i && Q (keyE gs.flatten i)).length
  | 0, _ => ⟨List.Pairwise.nil, fun y => ⟨fun h => by simp [openTo] at h, fun ⟨i, h, _⟩ => by omega⟩, fun Q => rfl⟩
  | k + 1, hk => by
    obtain ⟨h1, h2, h3⟩ := open_law gs safe k (by omega)
    have hp := List.getElem?_eq_getElem (l := gs.flatten) (i := k) (by omega)
    have hget := get_of (safe := safe.toNat) hp
    have e1 : getL (logOf gs safe) (0 + (k : Int)) = (gs.flatten.getD k [], 0) := by
      rw [List.getD_eq_getElem?_getD, hp, Int.zero_add]
      unfold getL at hget ⊢
      exact hget
    rw [openTo_succ, lo_of]
    unfold stepX
    rw [e1]
    have hnot : keyE gs.flatten k ∉ (openTo (logOf gs safe) k).L := fun h => by
      obtain ⟨i, hi, _, e⟩ := (h2 _).1 h
      have : (k : Int) = i := congrArg Prod.snd e
      omega
    have e2 : (timeE gs.flatten k, (0 + (k : Int))) = keyE gs.flatten k := by rw [Int.zero_add]
    have e2' : ((getM (gs.flatten.getD k [])).1.time, (0 + (k : Int))) = keyE gs.flatten k := e2
    by_cases hok : (getM (gs.flatten.getD k [])).2 = 0
    · have hb : okE gs.flatten k = true := by unfold okE; rw [hok]; rfl
      rw [if_pos hok]
      simp only
      rw [e2']
      refine ⟨ins_srt h1, fun y => ?_, fun Q => ?_⟩
      · rw [ins_iff h1, h2]
        constructor
        · rintro (rfl | ⟨i, a, b, c⟩)
          · exact ⟨k, by omega, hb, rfl⟩
          · exact ⟨i, by omega, b, c⟩
        · rintro ⟨i, a, b, rfl⟩
          by_cases e : i = k
          · subst e; exact .inl rfl
          · exact .inr ⟨i, by omega, b, rfl⟩
      · rw [ins_filter hnot, h3, List.range_succ, List.filter_append, List.length_append]
        cases hq : Q (keyE gs.flatten k)
        · rw [if_neg (by simp), List.filter_cons_of_neg (by rw [hq]; simp)]; rfl
        · rw [if_pos rfl, List.filter_cons_of_pos (by rw [hq, hb]; rfl)]; rfl
    · have hb : okE gs.flatten k = false := by unfold okE; simpa using hok
      rw [if_neg hok]
      refine ⟨h1, fun y => ?_, fun Q => ?_⟩
      · rw [h2]
        constructor
        · rintro ⟨i, a, b, c⟩; exact ⟨i, by omega, b, c⟩
        · rintro ⟨i, a, b, rfl⟩
          by_cases e : i = k
          · subst e; rw [hb] at b; cases b
          · exact ⟨i, by omega, b, rfl⟩
      · rw [h3, List.range_succ, List.filter_append, List.length_append, List.filter_cons_of_neg (by rw [hb]; simp)]; rfl

theorem openX_of (gs : List (List (List UInt8))) (safe : Int) : openX (logOf gs safe) = openTo (logOf gs safe) gs.flatten.length := by
  unfold openX; rw [next_of, lo_of]; congr 1

/-- A record that was read has a time. -/
theorem checkR_time {r : RE} (h : checkR r = 0) : 0 ≤ r.time ∧ r.time ≤ 1099511627776 := by
  unfold checkR at h
  split at h
  · cases h
  · split at h
    · cases h
    · split at h
      · cases h
      · rename_i h2
        simp only [withinB, Bool.not_eq_true', Bool.and_eq_false_imp, decide_eq_true_eq, decide_eq_false_iff_not] at h2
        omega
theorem finM_ok {r : RE} {rest : List UInt8} {sh : Bool} (h : (finM r rest sh).2 = 0) : (finM r rest sh).1 = r ∧ checkR r = 0 := by
  unfold finM at h ⊢
  split at h
  · cases h
  · rename_i h1
    rw [if_neg h1]
    split at h
    · cases h
    · rename_i h2
      rw [if_neg h2]
      split at h
      · rename_i h3; exact absurd h h3
      · rename_i h3
        rw [if_neg h3]
        exact ⟨rfl, by simpa using h3⟩
theorem getM_check {bs : List UInt8} (h : (getM bs).2 = 0) : checkR (getM bs).1 = 0 := by
  have fm : ∀ {r : RE} {rest : List UInt8} {sh : Bool}, (finM r rest sh).2 = 0 → checkR (finM r rest sh).1 = 0 := fun h => by
    obtain ⟨h1, h2⟩ := finM_ok h; rw [h1]; exact h2
  cases bs with
  | nil => cases h
  | cons k rest =>
    cases hw : withinB (k.toNat : Int) 1 6 with
    | false => rw [getM_bad hw] at h; cases h
    | true =>
      rw [getM_ok hw] at h ⊢
      generalize numM rest false = a at *
      unfold getK at h ⊢
      split at h
      · rename_i h1
        rw [if_pos h1]
        unfold tagged at h ⊢
        cases he : a.2.1 with
        | nil => rw [he] at h; cases h
        | cons n r2 =>
          rw [he] at h
          simp only at h ⊢
          split at h
          · cases h
          · rename_i h2
            rw [if_neg h2]; exact fm h
      · rename_i h1
        rw [if_neg h1]
        split at h
        · rename_i h2; rw [if_pos h2]; exact fm h
        · rename_i h2
          rw [if_neg h2]
          split at h
          · rename_i h3; rw [if_pos h3]; exact fm h
          · rename_i h3; rw [if_neg h3]; exact fm h
end Go.Cx

namespace Go.Cx
open Go Go.Cf
set_option linter.unusedVariables false
set_option maxRecDepth 100000
variable {B : Base} {As F : List HP}

theorem SameInts_spec (a b : Sl) (xs ys : List Int) (hm : xs.length ≤ 140737488355328) :
    Ct Pr F_kit_SameInts [a.v, b.v] .one [.bool] [] ((RAr I64 a xs).and (RAr I64 b ys)) (fun t Bs => t.1 = decide (xs = ys) ∧ Bs = []) := by
  refine spec1 c_kit_SameInts fun B hr => ?_
  have fa : Fro B a I64 xs := ⟨hr.1⟩
  have fb : Fro B b I64 ys := ⟨hr.2⟩
  have ha := hr.1.1
  have hb := hr.2.1
  unfold kit_SameInts
  refine xif (fun h => ?_) (fun h => ?_)
  · refine xret ⟨?_, rfl⟩
    have : xs ≠ ys := fun e => by subst e; simp [← ha, ← hb] at h
    simp [this]
  · have hl : xs.length = ys.length := by simp at h; omega
    refine xloop1 (fun n i As => ∃ k : Nat, i = (k : Int) ∧ n = xs.length - k ∧ k ≤ xs.length ∧ xs.take k = ys.take k ∧ As = []) xs.length ⟨0, rfl, rfl, by omega, rfl, rfl⟩ ?_
    rintro n _ _ K ⟨k, rfl, rfl, hk, he, rfl⟩ hK
    refine xif_dec (fun h => ?_) (fun h => ?_)
    · refine xdraw (xidxn rfl (by omega) fun x hx => xgetE hx rfl rfl (xidxn rfl (by omega) fun y hy => xgetE hy rfl rfl ?_))
      refine xif (fun h => ?_) (fun h => ?_)
      · refine xret ⟨?_, rfl⟩
        have : xs ≠ ys := fun e => by subst e; rw [hx] at hy; simp at hy h; exact h hy
        simp [this]
      · rw [wrap_succ k (by omega)]
        refine hK (xs.length - (k + 1)) _ _ (by omega) ⟨k + 1, rfl, rfl, by omega, ?_, rfl⟩
        rw [List.take_add_one, List.take_add_one, he, hx, hy]
        simp at h
        rw [h]
    · have : k = xs.length := by omega
      subst this
      rw [List.take_of_length_le (Nat.le_refl _), List.take_of_length_le (by omega)] at he
      exact xret ⟨by simp [he], rfl⟩

theorem iLen_spec (x d l : Option Addr) (m : XM) : Ct Pr F_index_Index_Len [.pointer x] .one [.int .i64] [IdxObj x d l m] emp (fun t Bs => t.1 = (m.L.length : Int) ∧ Bs = [IdxObj x d l m]) := by
  refine spec1 c_index_Index_Len fun B _ => ?_
  unfold index_Index_Len
  refine xindex 0 fun b q hx => ?_
  subst hx
  refine xnil (xget (h := ?_))
  refine xcl (Len_tree q m.L) rdb ?_
  rintro ⟨t, _⟩ _ ⟨ht, rfl⟩
  simp only at ht; subst ht
  exact app1 (ca1 (xindex_back b q d l m (xret ⟨rfl, rfl⟩)))

theorem drop_up {m : DM} (nm : ByteArray) (hd : m.down = false) (ha : m.armed = false) : (dropM m nm).2 = 0 := by
  have hs : spendM m = (m, true) := by unfold spendM; rw [ha]; rfl
  have h1 : (removeM m nm).2 = 0 ∨ (removeM m nm).2 = 6 := by
    unfold removeM onFile spent
    dsimp only
    rw [hs, if_neg (by rw [hd]; simp)]
    cases thereL m.fs nm.toList
    · right; rfl
    · left; rfl
  unfold dropM
  rcases h1 with h1 | h1
  · rw [if_neg (by rw [h1]; decide)]; exact h1
  · rw [if_pos h1]

abbrev aB : ByteArray := ⟨#[97]⟩
abbrev smp (t : Int) : RE := ⟨1, t, aB, 1, 0⟩
theorem sample_spec (t : Int) : Ct Pr F_law16_sample [.int .i64 t] .agg [.int .i64, .int .i64, .str, .int .i64, .int .i64] [] emp (fun r Bs => r = (1, t, aB, 1, 0, ()) ∧ Bs = []) := by
  refine spec_gen (ss := [.int .i64, .int .i64, .str, .int .i64, .int .i64]) c_law16_sample fun B _ => ?_
  show Ent B [] (law16_sample t fun a b c d e => Ret B (ss := [.int .i64, .int .i64, .str, .int .i64, .int .i64]) (fun r Bs => r = (1, t, aB, 1, 0, ()) ∧ Bs = []) (a, b, c, d, e, ()))
  unfold law16_sample
  refine xnew fun b => ?_
  iterate 5 (refine xset (h := ?_))
  iterate 5 (refine xget (h := ?_))
  exact xkeep (l := []) (xret ⟨rfl, rfl⟩)

def RowsAt (s : Sl) (rs : List Sl) (bss : List (List UInt8)) : HP := fun h => RAr SL s rs h ∧ rs.length = bss.length ∧ ∀ (i : Nat) (r : Sl) (bs : List UInt8), rs[i]? = some r → bss[i]? = some bs → RAr U8 r bs h

theorem great_spec (p : Sl) (rs : List Sl) (ps : List (List UInt8)) : Ct Pr F_law16_great [p.v] .one [.bool] [] (RowsAt p rs ps) (fun t Bs => (t.1 = false → ps.length ≤ 200) ∧ Bs = []) := by
  refine spec1 c_law16_great fun B hr => ?_
  obtain ⟨ha, hl, hrow⟩ := hr
  haveI : Fro B p SL rs := ⟨ha⟩
  have h1 := ha.1
  unfold law16_great
  refine xif_dec (fun h => xret ⟨fun e => by (cases e), rfl⟩) (fun h => ?_)
  refine xloop2 (fun m (n : Int) (x : Int) As' => ∃ k : Nat, x = (k : Int) ∧ m = rs.length - k ∧ k ≤ rs.length ∧ As' = []) rs.length ⟨0, rfl, rfl, by omega, rfl⟩ ?_
  rintro m n x As' K ⟨k, rfl, rfl, hk, rfl⟩ hK
  refine xif_dec (fun hp => ?_) (fun hp => xret ⟨fun _ => by omega, rfl⟩)
  refine xidxn (E := SL) (xs := rs) (s := p) (h1 := by omega) (h := fun r hr => ?_)
  refine xgetE (E := SL) (xs := rs) hr (h := xif_dec (fun h2 => xret ⟨fun e => by (cases e), rfl⟩) (fun h2 => ?_))
  refine xidxn (E := SL) (xs := rs) (s := p) (h1 := by omega) (h := fun r' hr' => ?_)
  refine xgetE (E := SL) (xs := rs) hr' (h := xif_dec (fun h2 => xret ⟨fun e => by (cases e), rfl⟩) (fun h2 => ?_))
  rw [wrap_succ k (by omega)]
  exact hK _ _ _ _ (by omega) ⟨k + 1, rfl, rfl, by omega, rfl⟩

/-! A log of payloads, and its index. -/
abbrev k20 : DM := ⟨false, false, 0, 1048576, []⟩
def fillM (x : DM × LM) (ps : List (List UInt8)) : DM × LM := ps.foldl (fun x p => ((appendL x.1 x.2 p).1, (appendL x.1 x.2 p).2.1)) x
abbrev fill0 (ps : List (List UInt8)) : DM × LM := fillM (k20, logOf [] 0) ps
theorem k20_inv : DInv k20 := ⟨List.Pairwise.nil, fun f hf => by simp at hf, fun f hf => by simp at hf, by simp [usedN], by decide, by simp, ⟨⟨by simp, by simp⟩, fun h => by cases h⟩⟩
theorem fill_snoc (x : DM × LM) (ps : List (List UInt8)) (p : List UInt8) : fillM x (ps ++ [p]) = ((appendL (fillM x ps).1 (fillM x ps).2 p).1, (appendL (fillM x ps).1 (fillM x ps).2 p).2.1) := by
  unfold fillM; rw [List.foldl_append]; rfl
theorem fill_relN : ∀ (n : Nat) (ps : List (List UInt8)), ps.length = n → n ≤ 100000 → ∃ (gs : List (List (List UInt8))) (safe : Nat), (fill0 ps).2 = logOf gs safe ∧ Rel (fill0 ps).1 gs safe ∧ gs.flatten.length ≤ ps.length ∧ (fill0 ps).1.armed = false ∧ (fill0 ps).1.down = false := by
  intro n
  induction n with
  | zero =>
    intro ps h0 _
    obtain rfl := List.eq_nil_of_length_eq_zero h0
    exact ⟨[], 0, rfl, rel_empty k20_inv rfl, by simp, rfl, rfl⟩
  | succ n ih =>
    intro ps0 h0 hl
    rcases List.eq_nil_or_concat ps0 with rfl | ⟨ps, p, rfl⟩
    · simp at h0
    rw [List.concat_eq_append] at h0 ⊢
    rw [List.length_append, List.length_singleton] at h0
    obtain ⟨gs, safe, e1, e2, e3, e4, e5⟩ := ih ps (by omega) (by omega)
    obtain ⟨gs', safe', s1, s2, s3, s4, s5, s6⟩ := e2.step p (by omega)
    rw [← e1] at s1 s2 s5
    have e7 : fill0 (ps ++ [p]) = ((appendL (fill0 ps).1 (fill0 ps).2 p).1, (appendL (fill0 ps).1 (fill0 ps).2 p).2.1) := fill_snoc _ ps p
    rw [e7]
    refine ⟨gs', safe', s1, s2, ?_, s5 e4 e5⟩
    rw [List.length_append, List.length_singleton]
    rcases s6 with ⟨_, _, e⟩ | ⟨_, _, e⟩ <;> rw [e]
    · rw [List.length_append, List.length_singleton]; omega
    · omega

theorem fill_rel (ps : List (List UInt8)) (h : ps.length ≤ 100000) : ∃ (gs : List (List (List UInt8))) (safe : Nat), (fill0 ps).2 = logOf gs safe ∧ Rel (fill0 ps).1 gs safe ∧ gs.flatten.length ≤ ps.length ∧ (fill0 ps).1.armed = false ∧ (fill0 ps).1.down = false := fill_relN _ ps rfl h

theorem laid_spec (p : Sl) (rs : List Sl) (ps : List (List UInt8)) (hps : ps.length ≤ 1000) : Ct Pr F_law16_laid [p.v] (.tup [none, none, none, none]) [.ptr, .ptr, .ptr, .bool] [] ((RowsAt p rs ps).and GTab)
    (fun t Bs => t.2.2.2.1 = true ∧ ∃ m, Bs = [DevObj t.1 m, LogObj t.2.1 t.1 (fill0 ps).2, IdxObj t.2.2.1 t.1 t.2.1 (openX (fill0 ps).2)]) := by
  refine spec4 c_law16_laid fun B hr => ?_
  obtain ⟨⟨ha, hl, hrow⟩, hg⟩ := hr
  haveI : Fro B p SL rs := ⟨ha⟩
  haveI : FroP B GTab := ⟨hg, fun _ _ h s => GTab.mono _ _ h s⟩
  have h1 := ha.1
  unfold law16_laid
  refine xcall0 (New_spec 1048576) rdb ?_
  rintro ⟨q, r, _⟩ _ (⟨h, _⟩ | ⟨_, _, h1, ⟨b, h2⟩, rfl⟩)
  · omega
  simp only at h1 h2; subst h1 h2
  refine app1 (ca2 ?_)
  refine xcl (sOpen_spec (some ⟨b, 0, none⟩) k20) rdb ?_
  have he := open_empty k20_inv rfl rfl
  rintro ⟨q1, r1, _⟩ _ (⟨l, b1, e1, e2, e3, e4, rfl⟩ | ⟨e1, _⟩)
  rotate_left
  · rw [he] at e1; cases e1
  simp only at e3 e4; subst e3 e4
  rw [he] at e1
  obtain rfl := Option.some.inj e1
  rw [he]
  refine app2 (ca2 (xjoin (xiff rfl (xiff rfl ?_))))
  refine xloop1 (fun n (x : Int) As' => ∃ k : Nat, x = (k : Int) ∧ n = rs.length - k ∧ k ≤ rs.length ∧ As' = [LogObj (some ⟨b1, 0, none⟩) (some ⟨b, 0, none⟩) (fill0 (ps.take k)).2, DevObj (some ⟨b, 0, none⟩) (fill0 (ps.take k)).1]) rs.length ⟨0, rfl, rfl, by omega, rfl⟩ ?_
  rintro n x As' K ⟨k, rfl, rfl, hk, rfl⟩ hK
  have htl : (ps.take k).length ≤ ps.length := by simp; omega
  obtain ⟨gs, safe, f1, f2, f3, f4, f5⟩ := fill_rel (ps.take k) (by omega)
  refine xif_dec (fun h => ?_) (fun h => ?_)
  · have hlt : k < rs.length := by omega
    obtain ⟨y, hy⟩ : ∃ y, ps[k]? = some y := ⟨_, List.getElem?_eq_getElem (by omega)⟩
    refine xidxn (E := SL) (xs := rs) (s := p) (h1 := hlt) (h := fun r hr => ?_)
    haveI : Fro B r U8 y := ⟨hrow k r y hr hy⟩
    refine xgetE (E := SL) (xs := rs) hr (h := ?_)
    obtain ⟨gs1, safe1, s1, s2, _⟩ := f2.step y (by omega)
    have hgl := fill_rel (ps.take (k + 1)) (by simp; omega)
    have etake : ps.take (k + 1) = ps.take k ++ [y] := by rw [List.take_add_one, hy]; rfl
    have e6 : fill0 (ps.take (k + 1)) = ((appendL (fill0 (ps.take k)).1 (fill0 (ps.take k)).2 y).1, (appendL (fill0 (ps.take k)).1 (fill0 (ps.take k)).2 y).2.1) := by rw [etake]; exact fill_snoc _ _ _
    obtain ⟨gs2, safe2, g1, g2, g3, _⟩ := hgl
    have htl2 : (ps.take (k + 1)).length ≤ ps.length := by simp; omega
    refine xcl (sAppend_spec (some ⟨b1, 0, none⟩) (some ⟨b, 0, none⟩) (fill0 (ps.take k)).1 (fill0 (ps.take k)).2 r y (by rw [f1]; exact f2.calm) ?_) (rds_and rdb rdb) ?_
    · have : (appendL (fill0 (ps.take k)).1 (fill0 (ps.take k)).2 y).2.1 = (fill0 (ps.take (k + 1))).2 := by rw [e6]
      rw [this, g1]
      exact g2.linv (by omega)
    rintro ⟨t, t1, _⟩ _ ⟨_, _, rfl⟩
    refine app2 (ca2 ?_)
    rw [wrap_succ k (by omega)]
    refine hK _ _ _ (by omega) ⟨k + 1, rfl, rfl, by omega, ?_⟩
    rw [e6]
  · have hk : k = ps.length := by omega
    have e : ps.take k = ps := List.take_of_length_le (by omega)
    rw [e] at f1 f2 f3 f4 f5 ⊢
    refine xcl (iOpen_spec (some ⟨b, 0, none⟩) (some ⟨b1, 0, none⟩) (fill0 ps).1 (fill0 ps).2) rdb ?_
    have hdr := drop_up (m := (fill0 ps).1) idxNew f5 f4
    rintro ⟨q2, r4, _⟩ _ ⟨h3, _, h5⟩
    obtain ⟨h6, rfl⟩ := h5 hdr
    simp only at h3 h6
    rw [hdr] at h3
    subst h3
    refine app3 (ca2 (xjoin (xift rfl (xret ⟨?_, _, rfl⟩))))
    cases q2 with
    | none => exact absurd rfl h6
    | some a => rfl
end Go.Cx

namespace Go.Cx
open Go Go.Cf
set_option linter.unusedVariables false
set_option maxRecDepth 100000
variable {B : Base} {As F : List HP}

/-! What each asks. -/
abbrev wps : List (List UInt8) := [(putE (smp 5)).1, (putE (smp 3)).1, (putE (smp 5)).1, [7]]
theorem kn16 : (openX (fill0 wps).2).L = [(3, 1), (5, 0), (5, 2)] := by decide +kernel

theorem works16_spec : Ct Pr F_law16_works [] .one [.bool] [] GTab (fun t Bs => t.1 = true ∧ Bs = []) := by
  refine spec1 c_law16_works fun B hr => ?_
  haveI : FroP B GTab := ⟨hr, fun _ _ h s => GTab.mono _ _ h s⟩
  unfold law16_works
  refine xcall0 (sample_spec 5) rdb ?_
  rintro _ _ ⟨rfl, rfl⟩
  refine app0 ?_
  show Ent B [] (XCall Pr F_record_Put [(smp 5).v] (.tup [none, none]) [.slice, .int .i64] _)
  refine xcall0 (Put_rec (smp 5) (by decide)) rdb ?_
  rintro ⟨s, r, _⟩ _ ⟨_, rfl⟩
  refine app1 (ca2 ?_)
  refine xcall0 (sample_spec 3) rdb ?_
  rintro _ _ ⟨rfl, rfl⟩
  refine app0 ?_
  show Ent B _ (XCall Pr F_record_Put [(smp 3).v] (.tup [none, none]) [.slice, .int .i64] _)
  refine xcall0 (Put_rec (smp 3) (by decide)) rdb ?_
  rintro ⟨s1, r1, _⟩ _ ⟨_, rfl⟩
  refine app1 (ca2 (xnew fun b => xnew fun b1 => ?_))
  simp only
  refine xfold1 0 (Q := Ar SL ⟨some ⟨b1, 0, none⟩, 4, 4⟩ [s, s1, s, ⟨some ⟨b, 0, none⟩, 1, 1⟩]) (fun g hg => ⟨[], blk_ar _ 4 rfl rfl hg⟩) ?_
  refine xfold1 1 (Q := Ar U8 ⟨some ⟨b, 0, none⟩, 1, 1⟩ [7]) (fun g hg => ⟨[], blk_ar [7] 1 rfl rfl hg⟩) ?_
  have hrows : Rds B [Ar U8 ⟨some ⟨b, 0, none⟩, 1, 1⟩ [7], Ar SL ⟨some ⟨b1, 0, none⟩, 4, 4⟩ [s, s1, s, ⟨some ⟨b, 0, none⟩, 1, 1⟩], Ar U8 s1 (putE (smp 3)).1, Ar U8 s (putE (smp 5)).1]
      (RowsAt ⟨some ⟨b1, 0, none⟩, 4, 4⟩ [s, s1, s, ⟨some ⟨b, 0, none⟩, 1, 1⟩] wps) := by
    refine rds_of fun g hg hF hs hm => ?_
    obtain ⟨a1, c1, p1, ⟨a2, c2, p2, ⟨a3, c3, p3, ⟨a4, c4, p4, _, _, t4, _⟩, _, t3, u3⟩, _, t2, u2⟩, _, t1, u1⟩ := hs
    refine ⟨p2.read.mono (t2.trans (u1.trans hm)), rfl, fun i r x hr hx => ?_⟩
    have q1 := p1.read.mono (t1.trans hm)
    have q3 := p3.read.mono (t3.trans (u2.trans (u1.trans hm)))
    have q4 := p4.read.mono (t4.trans (u3.trans (u2.trans (u1.trans hm))))
    rcases i with _ | _ | _ | _ | i
    · obtain rfl := Option.some.inj hr; obtain rfl := Option.some.inj hx; exact q4
    · obtain rfl := Option.some.inj hr; obtain rfl := Option.some.inj hx; exact q3
    · obtain rfl := Option.some.inj hr; obtain rfl := Option.some.inj hx; exact q4
    · obtain rfl := Option.some.inj hr; obtain rfl := Option.some.inj hx; exact q1
    · simp at hr
  refine xcall0 (laid_spec ⟨some ⟨b1, 0, none⟩, 4, 4⟩ [s, s1, s, ⟨some ⟨b, 0, none⟩, 1, 1⟩] wps (by decide)) (rds_and hrows rdb) ?_
  rintro ⟨q, q1, q2, c, _⟩ _ ⟨hc, m, rfl⟩
  simp only at hc; subst hc
  have hL := kn16
  have hlen : (openX (fill0 wps).2).L.length = 3 := by rw [hL]; rfl
  refine app3 (ca4 ?_)
  simp only
  refine xuse [IdxObj q2 q q1 (openX (fill0 wps).2)] ?_
  refine xjoin (xift rfl ?_)
  refine xcl (iLen_spec q2 q q1 (openX (fill0 wps).2)) rdb ?_
  rintro ⟨t, _⟩ _ ⟨ht, rfl⟩
  simp only [hlen] at ht; subst ht
  refine app1 (ca1 (xjoin (xift rfl ?_)))
  refine xcl (iRange_spec q2 q q1 (openX (fill0 wps).2) 0 9 0 (by rw [hlen]; decide)) rdb ?_
  rintro ⟨s2, _⟩ _ rfl
  have e1 : rngX (openX (fill0 wps).2) 0 9 0 = [1, 0, 2] := by unfold rngX; rw [hL]; decide
  rw [e1]
  refine app2 (ca1 (xnew fun b2 => ?_))
  refine xfold1 0 (Q := Ar I64 ⟨some ⟨b2, 0, none⟩, 3, 3⟩ [1, 0, 2]) (fun g hg => ⟨[], blk_ar [1, 0, 2] 3 rfl rfl hg⟩) ?_
  refine xcl (pre := []) (SameInts_spec s2 ⟨some ⟨b2, 0, none⟩, 3, 3⟩ [1, 0, 2] [1, 0, 2] (by decide)) (rds_and rdb rdb) ?_
  rintro ⟨c, _⟩ _ ⟨hc, rfl⟩
  obtain rfl : c = true := by rw [show c = _ from hc]; rfl
  refine app0 (ca1 (xjoin (xift rfl ?_)))
  refine xcl (iRange_spec q2 q q1 (openX (fill0 wps).2) 5 6 1 (by rw [hlen]; decide)) rdb ?_
  rintro ⟨s3, _⟩ _ rfl
  have e2 : rngX (openX (fill0 wps).2) 5 6 1 = [2] := by unfold rngX; rw [hL]; decide
  rw [e2]
  refine app2 (ca1 (xnew fun b3 => ?_))
  refine xfold1 0 (Q := Ar I64 ⟨some ⟨b3, 0, none⟩, 1, 1⟩ [2]) (fun g hg => ⟨[], blk_ar [2] 1 rfl rfl hg⟩) ?_
  refine xcl (pre := []) (SameInts_spec s3 ⟨some ⟨b3, 0, none⟩, 1, 1⟩ [2] [2] (by decide)) (rds_and rdb rdb) ?_
  rintro ⟨c, _⟩ _ ⟨hc, rfl⟩
  obtain rfl : c = true := by rw [show c = _ from hc]; rfl
  exact app0 (ca1 (xkeep (l := []) (xret ⟨rfl, rfl⟩)))

theorem xjoin2 {s t : Sh} {body : (s.ty → t.ty → WP) → WP} {rest : s.ty → t.ty → WP} (J : s.ty → t.ty → List HP → Prop) (h1 : ∀ K : s.ty → t.ty → WP, (∀ x y As', J x y As' → Ent B As' (K x y)) → Ent B As (body K)) (h2 : ∀ x y As', J x y As' → Ent B As' (rest x y)) :
    Ent B As (XJoin [s, t] body rest) := h1 rest h2

/-- What a span has, of the entries. -/
def inB (a b floor : Int) (y : KY) : Bool := (!(ltK y (a, 0)) && ltK y (b, 0)) && decide (y.2 ≥ floor)
theorem in_iff {a b floor : Int} {ps : List (List UInt8)} {i : Nat} : inB a b floor (keyE ps i) = (decide (timeE ps i ≥ a) && decide (timeE ps i < b) && decide ((i : Int) ≥ floor)) := by
  have h1 : ltK (keyE ps i) (a, 0) = decide (timeE ps i < a) := by
    rw [Bool.eq_iff_iff, ltK_iff, decide_eq_true_eq]
    show timeE ps i < a ∨ (timeE ps i = a ∧ (i : Int) < 0) ↔ _
    omega
  have h2 : ltK (keyE ps i) (b, 0) = decide (timeE ps i < b) := by
    rw [Bool.eq_iff_iff, ltK_iff, decide_eq_true_eq]
    show timeE ps i < b ∨ (timeE ps i = b ∧ (i : Int) < 0) ↔ _
    omega
  have h3 : (!decide (timeE ps i < a)) = decide (timeE ps i ≥ a) := by
    by_cases h : timeE ps i < a
    · rw [decide_eq_true h, decide_eq_false (by omega)]; rfl
    · rw [decide_eq_false h, decide_eq_true (by omega)]; rfl
  unfold inB
  rw [h1, h2, h3]
def sndK (ks : List KY) : List Int := ks.map fun y => y.2
theorem sndK_len (ks : List KY) : (sndK ks).length = ks.length := by simp [sndK]
theorem sndK_get {ks : List KY} {k : Nat} {y : KY} (h : ks[k]? = some y) : (sndK ks)[k]? = some y.2 := by unfold sndK; rw [List.getElem?_map, h]; rfl
theorem rng_keys (m : XM) (a b floor : Int) : rngX m a b floor = sndK (m.L.filter (inB a b floor)) := by
  unfold rngX selK rngK sndK
  rw [List.filter_filter]
  congr 2
  funext y
  unfold inB
  rw [Bool.and_comm]
/-- How many there are. -/
def cntE (ps : List (List UInt8)) (Q : KY → Bool) (k : Nat) : Nat := ((List.range k).filter fun i => okE ps i && Q (keyE ps i)).length
theorem cntE_succ (ps : List (List UInt8)) (Q : KY → Bool) (k : Nat) : cntE ps Q (k + 1) = cntE ps Q k + (if (okE ps k && Q (keyE ps k)) = true then 1 else 0) := by
  unfold cntE
  rw [List.range_succ, List.filter_append, List.length_append]
  by_cases h : (okE ps k && Q (keyE ps k)) = true
  · rw [if_pos h, List.filter_cons_of_pos (by simpa using h)]; rfl
  · rw [if_neg h, List.filter_cons_of_neg (by simpa using h)]; rfl
theorem cntE_le (ps : List (List UInt8)) (Q : KY → Bool) (k : Nat) : cntE ps Q k ≤ k := by
  unfold cntE
  have := List.length_filter_le (fun i => okE ps i && Q (keyE ps i)) (List.range k)
  simpa using this

theorem says_spec (p : Sl) (rs : List Sl) (ps : List (List UInt8)) (a b floor : Int) : Ct Pr F_law16_IndexSays [p.v, .int .i64 a, .int .i64 b, .int .i64 floor] .one [.bool] [] ((RowsAt p rs ps).and GTab) (fun t Bs => t.1 = true ∧ Bs = []) := by
  refine spec1 c_law16_IndexSays fun B hr => ?_
  obtain ⟨hrows, hg⟩ := hr
  haveI : FroP B GTab := ⟨hg, fun _ _ h s => GTab.mono _ _ h s⟩
  haveI : FroP B (RowsAt p rs ps) := ⟨hrows, fun g h ⟨x1, x2, x3⟩ s => ⟨x1.mono s, x2, fun i r x hr hx => (x3 i r x hr hx).mono s⟩⟩
  unfold law16_IndexSays
  refine xcall0 works16_spec rdb ?_
  rintro ⟨c, _⟩ _ ⟨hc, rfl⟩
  simp only at hc; subst hc
  refine app0 (ca1 (xiff rfl ?_))
  refine xcall0 (great_spec p rs ps) rdb ?_
  rintro ⟨c, _⟩ _ ⟨hc, rfl⟩
  refine app0 (ca1 (xif (fun h => xret ⟨rfl, rfl⟩) (fun h => ?_)))
  have hps := hc h
  refine xcall0 (laid_spec p rs ps (by omega)) (rds_and rdb rdb) ?_
  rintro ⟨d, l, x, c2, _⟩ _ ⟨hc2, m, rfl⟩
  simp only at hc2; subst hc2
  refine app3 (ca4 (xiff rfl ?_))
  simp only
  obtain ⟨gs, safe, f1, f2, f3, _⟩ := fill_rel ps (by omega)
  rw [f1]
  obtain ⟨o1, o2, o3⟩ := open_law gs safe gs.flatten.length (Nat.le_refl _)
  rw [← openX_of] at o1 o2 o3
  generalize hX : openX (logOf gs safe) = X at *
  generalize hps2 : gs.flatten = qs at *
  have hXl : X.L.length = cntE qs (fun _ => true) qs.length := by
    have := o3 fun _ => true
    rw [List.filter_eq_self.2 (fun _ _ => rfl)] at this
    exact this
  have hXlen : X.L.length ≤ 200 := by rw [hXl]; have := cntE_le qs (fun _ => true) qs.length; omega
  refine xcl (iRange_spec x d l X a b floor (by omega)) rdb ?_
  rintro ⟨s, _⟩ _ rfl
  refine app2 (ca1 (xnew fun bb => xset (h := xset (h := ?_))))
  simp only
  rw [rng_keys]
  have hsk : SrtK (X.L.filter (inB a b floor)) := o1.sublist List.filter_sublist
  have hin : ∀ y ∈ X.L.filter (inB a b floor), ∃ i, i < qs.length ∧ okE qs i = true ∧ y = keyE qs i ∧ inB a b floor (keyE qs i) = true := fun y hy => by
    obtain ⟨h1, h2⟩ := List.mem_filter.1 hy
    obtain ⟨i, a1, a2, rfl⟩ := (o2 y).1 h1
    exact ⟨i, a1, a2, rfl, h2⟩
  have hKl : (X.L.filter (inB a b floor)).length = cntE qs (inB a b floor) qs.length := o3 _
  generalize hK : X.L.filter (inB a b floor) = ks at *
  have hk200 : ks.length ≤ 200 := by rw [hKl]; have := cntE_le qs (inB a b floor) qs.length; omega
  have hget : ∀ i : Nat, i < qs.length → getL (logOf gs safe) (i : Int) = (qs.getD i [], 0) := fun i hi => by
    have hp := List.getElem?_eq_getElem hi
    have := get_of (gs := gs) (safe := safe) (k := i) (p := qs[i]) (by rw [hps2]; exact hp)
    rw [this, List.getD_eq_getElem?_getD, hp]; rfl
  have hlin : LInv (logOf gs safe) := f2.linv (by rw [hps2]; omega)
  have hnext : (logOf gs safe).next = qs.length := by rw [next_of, hps2]
  have hlo := lo_of gs safe
  have hq1 : ∀ i : Nat, (qs.getD i []).length ≤ 1000000 := fun i => by
    by_cases hi : i < qs.length
    · have := getL_len hlin (i : Int)
      rw [hget i hi] at this
      have h' : (qs.getD i []).length ≤ 1024 := this
      omega
    · rw [List.getD_eq_getElem?_getD, List.getElem?_eq_none (by omega)]; simp
  generalize hlog : logOf gs (safe : Int) = lg at *
  refine xuse [Blk bb [.int .i64 (-1), .int .i64 0], Ar I64 s (sndK ks), LogObj l d lg, IdxObj x d l X] ?_
  refine xlen (E := I64) (xs := sndK ks) s fun hsn _ => ?_
  have hsn' : ks.length = s.n := by rw [← sndK_len]; exact hsn
  refine xloop1 (fun n (i : Int) As' => ∃ (k : Nat) (bt bs : Int), i = (k : Int) ∧ n = ks.length - k ∧ k ≤ ks.length ∧ (k = 0 → bt = -1) ∧ (∀ j, k = j + 1 → ks[j]? = some (bt, bs)) ∧ As' = [Blk bb [.int .i64 bt, .int .i64 bs], Ar I64 s (sndK ks), LogObj l d lg, IdxObj x d l X])
    ks.length ⟨0, -1, 0, rfl, rfl, by omega, fun _ => rfl, fun j h => by omega, rfl⟩ ?_
  rintro n _ _ K ⟨k, bt, bs, rfl, rfl, hk, hb0, hb1, rfl⟩ hK
  refine xif_dec (fun hlt => ?_) (fun hlt => ?_)
  · have hkl : k < ks.length := by omega
    obtain ⟨y, hy⟩ : ∃ y, ks[k]? = some y := ⟨_, List.getElem?_eq_getElem hkl⟩
    have hym := sndK_get hy
    obtain ⟨i, hi1, hi2, rfl, hi3⟩ := hin y (List.mem_of_getElem? hy)
    rw [in_iff] at hi3
    simp only [Bool.and_eq_true, decide_eq_true_eq] at hi3
    obtain ⟨⟨t1, t2⟩, t3⟩ := hi3
    have hok : (getM (qs.getD i [])).2 = 0 := eq_of_beq hi2
    have htime : 0 ≤ timeE qs i := (checkR_time (getM_check hok)).1
    refine xidxn (E := I64) (xs := sndK ks) (s := s) (h1 := by rw [sndK_len]; exact hkl) (h := fun _ _ => ?_)
    refine xgetE (E := I64) (xs := sndK ks) hym (h := ?_)
    refine xcl (sGet_spec l d lg (i : Int) ⟨by omega, by omega⟩) rdb ?_
    rintro ⟨s1, e1, _⟩ _ ⟨he1, rfl⟩
    simp only at he1; subst he1
    rw [hget i hi1]
    refine app2 (ca2 (xfront 1 (xgot (hq1 i) (xnew fun b1 => ?_))))
    rw [hok]
    iterate 5 (refine xset (h := ?_))
    have hbt : bt ≤ timeE qs i ∧ (bt = timeE qs i → bs < i) := by
      cases k with
      | zero => rw [hb0 rfl]; exact ⟨by omega, fun e => by omega⟩
      | succ j =>
        have hj := hb1 j rfl
        have hjl : j < ks.length := by omega
        have := List.pairwise_iff_getElem.1 hsk j (j + 1) hjl hkl (by omega)
        have ej : ks[j] = (bt, bs) := by rw [List.getElem?_eq_getElem hjl] at hj; exact Option.some.inj hj
        have ek : ks[j + 1] = keyE qs i := by rw [List.getElem?_eq_getElem hkl] at hy; exact Option.some.inj hy
        rw [ej, ek, ltK_iff] at this
        show bt ≤ timeE qs i ∧ _
        have h' : bt < timeE qs i ∨ (bt = timeE qs i ∧ bs < (i : Int)) := this
        omega
    refine xdraw (xjoin1 (fun (c : Bool) As' => c = false ∧ ∃ kk tg vv ii, As' = [Blk b1 [.int .i64 kk, .int .i64 (timeE qs i), .string tg, .int .i64 vv, .int .i64 ii], Blk bb [.int .i64 bt, .int .i64 bs], Ar I64 s (sndK ks), LogObj l d lg, IdxObj x d l X]) (fun K1 hK1 => ?_) ?_)
    · have done : ∀ {As' : List HP} {G : List HP} [q : Split [Blk b1 [.int .i64 (getM (qs.getD i [])).1.kind, .int .i64 (timeE qs i), .string (getM (qs.getD i [])).1.tag, .int .i64 (getM (qs.getD i [])).1.val, .int .i64 (getM (qs.getD i [])).1.id], Blk bb [.int .i64 bt, .int .i64 bs], Ar I64 s (sndK ks), LogObj l d lg, IdxObj x d l X] As' G], Ent B As' (K1 false) := by
        intro As' G q
        exact xuse' (hK1 _ _ ⟨rfl, (getM (qs.getD i [])).1.kind, (getM (qs.getD i [])).1.tag, (getM (qs.getD i [])).1.val, (getM (qs.getD i [])).1.id, rfl⟩)
      refine xiff rfl (xiff rfl ?_)
      refine xidxn (E := I64) (xs := sndK ks) (s := s) (h1 := by rw [sndK_len]; exact hkl) (h := fun _ _ => ?_)
      refine xgetE (E := I64) (xs := sndK ks) hym (h := xiff ?_ ?_)
      · rw [decide_eq_false_iff_not]; show ¬ ((i : Int) < floor); omega
      refine xget (h := xiff ?_ (xget (h := xiff ?_ (xget (h := xget (h := xiff ?_ (xget (h := xget (h := xif (fun he => ?_) (fun he => done))))))))))
      · rw [decide_eq_false_iff_not]; show ¬ (timeE qs i < a); omega
      · rw [decide_eq_false_iff_not]; show ¬ (timeE qs i ≥ b); omega
      · rw [decide_eq_false_iff_not]; show ¬ (timeE qs i < bt); omega
      · refine xidxn (E := I64) (xs := sndK ks) (s := s) (h1 := by rw [sndK_len]; exact hkl) (h := fun _ _ => ?_)
        refine xgetE (E := I64) (xs := sndK ks) hym (h := xget (h := ?_))
        have h9 : (decide ((keyE qs i).2 ≤ bs)) = false := by
          have := hbt.2 (eq_of_beq he).symm
          rw [decide_eq_false_iff_not]; show ¬ ((i : Int) ≤ bs); omega
        rw [h9]
        exact done
    · rintro c _ ⟨rfl, kk, tg, vv, ii, rfl⟩
      refine xiff rfl (xdraw (xget (h := ?_)))
      refine xidxn (E := I64) (xs := sndK ks) (s := s) (h1 := by rw [sndK_len]; exact hkl) (h := fun _ _ => ?_)
      refine xgetE (E := I64) (xs := sndK ks) hym (h := xset (h := xset (h := ?_)))
      rw [wrap_succ k (by omega)]
      refine xuse' (hK (ks.length - (k + 1)) _ _ (by omega) ⟨k + 1, timeE qs i, (i : Int), rfl, rfl, by omega, fun h => by omega, fun j hj => ?_, rfl⟩)
      obtain rfl : j = k := by omega
      exact hy
  · have hke : k = ks.length := by omega
    refine xcl (sFirst_spec l d lg) rdb ?_
    rintro ⟨t, _⟩ _ ⟨ht, rfl⟩
    simp only [hlo] at ht; subst ht
    refine app1 (ca1 ?_)
    refine xuse [LogObj l d lg, IdxObj x d l X] ?_
    refine xloop3 (fun n (al : Int) (so : Int) (i : Int) As' => ∃ j : Nat, i = (j : Int) ∧ n = qs.length - j ∧ j ≤ qs.length ∧ al = (cntE qs (fun _ => true) j : Int) ∧ so = (cntE qs (inB a b floor) j : Int) ∧ As' = [LogObj l d lg, IdxObj x d l X]) qs.length ⟨0, rfl, rfl, by omega, rfl, rfl, rfl⟩ ?_
    rintro n _ _ _ _ K ⟨j, rfl, rfl, hj, rfl, rfl, rfl⟩ hK
    refine xcl (sNext_spec l d lg) rdb ?_
    rintro ⟨t, _⟩ _ ⟨ht, rfl⟩
    simp only [hnext] at ht; subst ht
    have hc1 := cntE_le qs (fun _ => true) j
    have hc2 := cntE_le qs (inB a b floor) j
    refine app1 (ca1 (xif_dec (fun hlt => ?_) (fun hlt => ?_)))
    · have hjl : j < qs.length := by omega
      refine xjoin2 (fun (al so : Int) As' => al = (cntE qs (fun _ => true) (j + 1) : Int) ∧ so = (cntE qs (inB a b floor) (j + 1) : Int) ∧ As' = [LogObj l d lg, IdxObj x d l X]) (fun K1 hK1 => ?_) ?_
      · refine xcl (sGet_spec l d lg (j : Int) ⟨by omega, by omega⟩) rdb ?_
        rintro ⟨s1, e1, _⟩ _ ⟨_, rfl⟩
        rw [hget j hjl]
        refine app2 (ca2 (xfront 1 (xgot (hq1 j) (xnew fun b1 => ?_))))
        iterate 5 (refine xset (h := ?_))
        refine xif (fun h2 => ?_) (fun h2 => ?_)
        · have hno : okE qs j = false := by unfold okE; simpa using h2
          refine xuse' (hK1 _ _ _ ⟨?_, ?_, rfl⟩)
          · rw [cntE_succ, hno]; rfl
          · rw [cntE_succ, hno]; rfl
        · have hyes : okE qs j = true := by unfold okE; simpa using h2
          have ein : inB a b floor (keyE qs j) = ((decide (timeE qs j ≥ a) && decide (timeE qs j < b)) && decide ((j : Int) ≥ floor)) := in_iff
          refine xget (h := ?_)
          refine xjoin1 (fun (c : Bool) As' => c = (decide (timeE qs j ≥ a) && decide (timeE qs j < b)) ∧ As' = [LogObj l d lg, IdxObj x d l X]) (fun K2 hK2 => xif (fun h3 => xget (h := xuse' (hK2 _ _ ⟨?_, rfl⟩))) (fun h3 => xuse' (hK2 _ _ ⟨?_, rfl⟩))) ?_
          · have h3' : decide (timeE qs j ≥ a) = true := h3
            rw [h3']; rfl
          · have h3' : decide (timeE qs j ≥ a) = false := h3
            rw [h3']; rfl
          rintro _ _ ⟨rfl, rfl⟩
          have e1 : cntE qs (fun _ => true) (j + 1) = cntE qs (fun _ => true) j + 1 := by rw [cntE_succ, hyes]; rfl
          refine xjoin1 (fun (so : Int) As' => so = (cntE qs (inB a b floor) (j + 1) : Int) ∧ As' = [LogObj l d lg, IdxObj x d l X]) (fun K2 hK2 => xif (fun h3 => hK2 _ _ ⟨?_, rfl⟩) (fun h3 => hK2 _ _ ⟨?_, rfl⟩)) ?_
          · rw [cntE_succ, hyes, ein, h3, wrap_succ _ (by omega)]; rfl
          · rw [cntE_succ, hyes, ein, h3]; rfl
          rintro _ _ ⟨rfl, rfl⟩
          refine hK1 _ _ _ ⟨?_, rfl, rfl⟩
          rw [e1, wrap_succ _ (by omega)]
      · rintro _ _ _ ⟨rfl, rfl, rfl⟩
        rw [wrap_succ j (by omega)]
        exact hK (qs.length - (j + 1)) _ _ _ _ (by omega) ⟨j + 1, rfl, rfl, by omega, rfl, rfl, rfl⟩
    · have hje : j = qs.length := by omega
      subst hje
      refine xjoin (xift ?_ ?_)
      · rw [beq_iff_eq, ← hKl, hsn']
      refine xcl (iLen_spec x d l X) rdb ?_
      rintro ⟨t, _⟩ _ ⟨ht, rfl⟩
      simp only at ht; subst ht
      refine app1 (ca1 (xkeep (l := []) (xret ⟨?_, rfl⟩)))
      rw [hXl]; simp
end Go.Cx

namespace Go.Cx
open Go Go.Cf Go.RowKit Go.ChangeShapes Go.WideShapes Go.Deep
set_option linter.unusedVariables false
set_option maxRecDepth 100000
theorem tabType : (Pr.globals[1]?).map (·.type) = some 219 := by kernel_rfl
theorem cU : Pr.cellsOf 74 = 1 := by kernel_rfl
theorem cA : Pr.cellsOf 219 = 20 := by kernel_rfl
theorem GTab_of {W : World} (h : Lib.TabIs Pr W "internal/strconv.uint64pow10" .u64 Lib.pow10Tab) : GTab (mem W) := by
  unfold Lib.TabIs World.var? at h
  rw [globTab] at h
  simp only [Option.bind_some] at h
  show ∃ e fr, W.heap[_]? = some _
  split at h
  · rename_i cs e fr hh
    obtain rfl := Option.some.inj h
    exact ⟨e, fr, hh⟩
  · cases h
theorem GTab_of_laid {W : World} {a b : String × DataW Unit} {rest : List (String × DataW Unit)} (h : laidMet Pr (a :: b :: ("internal/strconv.uint64pow10", Lib.tabData .u64 Lib.pow10Tab) :: rest) W) : GTab (mem W) := by
  obtain ⟨ps, hv, _⟩ := h
  obtain ⟨n1, d1⟩ := a
  obtain ⟨n2, d2⟩ := b
  obtain ⟨g1, t1, cs1, fu1, p1, q1, hg1, ht1, hvar1, hd1, hv2, _⟩ := hv
  obtain ⟨g2, t2, cs2, fu2, p2, q2, hg2, ht2, hvar2, hd2, hv3, _⟩ := hv2
  obtain ⟨g3, t3, cs3, fu3, p3, q3, hg3, ht3, hvar3, hd3, _, _⟩ := hv3
  obtain rfl := Option.some.inj (globTab.symm.trans hg3)
  obtain rfl := Option.some.inj (tabType.symm.trans ht3)
  refine GTab_of ?_
  unfold Lib.TabIs
  rw [hvar3]
  have := Lib.cells_of_tab (by kernel_rfl : Pr.underlying 219 = some (.array 20 74)) (by kernel_rfl : Pr.underlying 74 = some (.int .u64)) cU cA hd3
  rw [← this]

end Go.Cx
