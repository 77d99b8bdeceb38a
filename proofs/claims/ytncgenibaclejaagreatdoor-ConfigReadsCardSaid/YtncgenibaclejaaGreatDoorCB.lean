/-
  The text of a configuration: by both programs.
-/
import Derived.Test.YtncgenibaclejaaGreatDoorCA
namespace Go.Cx
open Go Go.Cf
set_option linter.unusedVariables false
set_option maxRecDepth 100000
variable {B : Base} {As F : List HP}

theorem lit_size (l : List UInt8) : (ByteArray.mk l.toArray).size = l.length := by simp [ByteArray.size]
def lineL (ws : List (List UInt8)) : List UInt8 := Lib.join ws [32] ++ [10]
def kindL (k : Int) : List UInt8 := if k = 1 then [99, 111, 105, 108] else if k = 2 then [105, 110, 112, 117, 116] else if k = 3 then [104, 111, 108, 100, 105, 110, 103] else [114, 101, 103, 105, 115, 116, 101, 114]
def flagL (w s x : Bool) : List UInt8 := if w = false ∧ s = false ∧ x = false then [45] else (if w then [119] else []) ++ (if s then [115] else []) ++ (if x then [120] else [])
def boundL (v : Int) (use : Bool) : List UInt8 := if use then Lib.itoa v else [45]
def latchL (b : Bool) : List UInt8 := if b then [108, 97, 116, 99, 104] else [45]
def headW (c : Cfg) : List (List UInt8) := [[103, 97, 116, 101, 119, 97, 121], Lib.itoa c.timeout, Lib.itoa c.retries, Lib.itoa c.window, Lib.itoa c.resend, Lib.itoa c.span, Lib.itoa c.keep]
def tagW (t : Tag) : List (List UInt8) := [[116, 97, 103], t.name.data.toList, Lib.itoa t.unit, kindL t.kind, Lib.itoa t.addr, Lib.itoa t.every, flagL t.wide t.sgn t.swap, Lib.itoa t.mul, Lib.itoa t.div, Lib.itoa t.add, Lib.itoa t.dead, Lib.itoa t.quiet, boundL t.low t.ulow, boundL t.high t.uhigh, Lib.itoa t.hyst, latchL t.latch]
def textK (c : Cfg) (k : Nat) : List UInt8 := lineL (headW c) ++ ((c.tags.take k).map fun t => lineL (tagW t)).flatten
def textL (c : Cfg) : List UInt8 := textK c c.tags.length

theorem take_snoc27 {α : Type} {xs : List α} {k : Nat} {x : α} (h : xs[k]? = some x) : xs.take k ++ [x] = xs.take (k + 1) := by
  rw [List.take_add_one, h]; rfl
theorem textK_succ {c : Cfg} {k : Nat} {t : Tag} (h : c.tags[k]? = some t) : textK c (k + 1) = textK c k ++ lineL (tagW t) := by
  unfold textK
  rw [← take_snoc27 h]
  simp

structure TagOK (t : Tag) : Prop where
  name : t.name.size ≤ 16
  unit : 1 ≤ t.unit ∧ t.unit ≤ 247
  kind : 1 ≤ t.kind ∧ t.kind ≤ 4
  addr : 0 ≤ t.addr ∧ t.addr ≤ 65535
  every : 1 ≤ t.every ∧ t.every ≤ 1048576
  mul : -1000000 ≤ t.mul ∧ t.mul ≤ 1000000
  div : 1 ≤ t.div ∧ t.div ≤ 1000000
  add : -1099511627776 ≤ t.add ∧ t.add ≤ 1099511627776
  dead : 0 ≤ t.dead ∧ t.dead ≤ 1099511627776
  quiet : 0 ≤ t.quiet ∧ t.quiet ≤ 1099511627776
  low : -1099511627776 ≤ t.low ∧ t.low ≤ 1099511627776
  high : -1099511627776 ≤ t.high ∧ t.high ≤ 1099511627776
  hyst : 0 ≤ t.hyst ∧ t.hyst ≤ 1099511627776

theorem boundOk_iff {u : Bool} {v : Int} (h : boundOk u v = true) : -1099511627776 ≤ v ∧ v ≤ 1099511627776 := by
  unfold boundOk at h
  simp only [Bool.or_eq_true, Bool.and_eq_true, decide_eq_true_eq, beq_iff_eq] at h
  omega

theorem tag_all {t : Tag} (h : tagE t = 0) : TagOK t := by
  have hw := width_or t
  unfold tagE at h
  split at h
  · cases h
  rename_i h0
  split at h
  · cases h
  rename_i h1
  split at h
  · cases h
  rename_i h2
  split at h
  · cases h
  rename_i h3
  split at h
  · cases h
  rename_i h4
  split at h
  · rename_i h5; exact absurd h h5
  rename_i h5
  split at h
  · cases h
  rename_i h6
  split at h
  · rename_i h7; exact absurd h h7
  rename_i h7
  have hs : scaleE t.wide t.swap t.mul t.div t.add = 0 := by simpa using h5
  have hb : bandE t.dead t.quiet = 0 := by simpa using h7
  have hn : nameOk t.name = true := by simpa using h0
  unfold scaleE at hs
  split at hs
  · cases hs
  rename_i h8
  unfold bandE at hb
  split at hb
  · cases hb
  rename_i h9
  unfold limE at h
  split at h
  · cases h
  rename_i h10
  have hlo : boundOk t.ulow t.low = true := by
    cases e : boundOk t.ulow t.low
    · exact absurd (.inr (.inr (.inl e))) h10
    · rfl
  have hhi : boundOk t.uhigh t.high = true := by
    cases e : boundOk t.uhigh t.high
    · exact absurd (.inr (.inr (.inr (.inl e)))) h10
    · rfl
  have hlo := boundOk_iff hlo
  have hhi := boundOk_iff hhi
  have hn2 : t.name.size ≤ 16 := by
    unfold nameOk at hn
    simp only [Bool.and_eq_true, decide_eq_true_eq] at hn
    omega
  exact ⟨hn2, by omega, by omega, by omega, by omega, by omega, by omega, by omega, by omega, by omega, hlo, hhi, by omega⟩

/-! The document's text. -/
def kindsL : List ByteArray := [BA [99, 111, 105, 108], BA [105, 110, 112, 117, 116], BA [104, 111, 108, 100, 105, 110, 103], BA [114, 101, 103, 105, 115, 116, 101, 114]]
def flagsL : List ByteArray := [BA [45], BA [119], BA [115], BA [119, 115], BA [120], BA [119, 120], BA [115, 120], BA [119, 115, 120]]
theorem kinds_spec : Ct Pr F_ref27_kinds [] .one [.slice] [] emp (fun t Bs => Bs = [Ar Cf.ST t.1 kindsL]) := by
  refine spec1 c_ref27_kinds fun B hr => ?_
  unfold ref27_kinds
  refine xnew fun b => ?_
  refine xfold1 (Q := Ar Cf.ST ⟨some ⟨b, 0, none⟩, 4, 4⟩ kindsL) 0 (fun g hg => ⟨[], blk_ar kindsL 4 rfl rfl hg⟩) ?_
  exact xret rfl
theorem flags_spec : Ct Pr F_ref27_flags [] .one [.slice] [] emp (fun t Bs => Bs = [Ar Cf.ST t.1 flagsL]) := by
  refine spec1 c_ref27_flags fun B hr => ?_
  unfold ref27_flags
  refine xnew fun b => ?_
  refine xfold1 (Q := Ar Cf.ST ⟨some ⟨b, 0, none⟩, 8, 8⟩ flagsL) 0 (fun g hg => ⟨[], blk_ar flagsL 8 rfl rfl hg⟩) ?_
  exact xret rfl
theorem kinds_get {k : Int} (h : 1 ≤ k ∧ k ≤ 4) : kindsL[(k - 1).toNat]? = some (BA (kindL k)) := by
  have : k = 1 ∨ k = 2 ∨ k = 3 ∨ k = 4 := by omega
  rcases this with rfl | rfl | rfl | rfl <;> rfl
theorem kindL_len (k : Int) : (kindL k).length ≤ 8 := by unfold kindL; (repeat' split) <;> decide
theorem flagL_len (w s x : Bool) : (flagL w s x).length ≤ 3 := by cases w <;> cases s <;> cases x <;> decide
theorem boundL_len {v : Int} (u : Bool) (h0 : -1099511627776 ≤ v) (h1 : v ≤ 1099511627776) : (boundL v u).length ≤ 21 := by
  unfold boundL
  have := itoa_len (n := v) (by omega) (by omega)
  split <;> simp <;> omega
theorem latchL_len (b : Bool) : (latchL b).length ≤ 5 := by cases b <;> decide
theorem name_len {t : Tag} (h : t.name.size ≤ 16) : t.name.data.toList.length ≤ 16 := by
  have e : t.name.data.toList.length = t.name.size := by rw [Array.length_toList]; rfl
  omega

theorem join_len : ∀ (ws : List (List UInt8)) (m : Nat), (∀ w ∈ ws, w.length ≤ m) → (Lib.join ws [32]).length ≤ ws.length * (m + 1)
  | [], _, _ => by simp [Lib.join, List.intercalate]
  | [w], m, h => by have := h w (by simp); simp [Lib.join, List.intercalate]; omega
  | w :: v :: r, m, h => by
    have h1 := h w (by simp)
    have h2 := join_len (v :: r) m (fun x hx => h x (by simp [hx]))
    have e : Lib.join (w :: v :: r) [32] = w ++ ([32] ++ Lib.join (v :: r) [32]) := by simp [Lib.join, List.intercalate]
    rw [e]
    simp only [List.length_append, List.length_cons, List.length_nil] at *
    rw [Nat.add_mul] 
    omega

theorem tagW_len {t : Tag} (h : TagOK t) : (lineL (tagW t)).length ≤ 400 := by
  have hw : ∀ w ∈ tagW t, w.length ≤ 21 := by
    intro w hw
    simp only [tagW, List.mem_cons, List.not_mem_nil, or_false] at hw
    obtain ⟨n0, ⟨u1, u2⟩, _, ⟨a1, a2⟩, ⟨e1, e2⟩, ⟨m1, m2⟩, ⟨d1, d2⟩, ⟨p1, p2⟩, ⟨q1, q2⟩, ⟨r1, r2⟩, ⟨l1, l2⟩, ⟨g1, g2⟩, ⟨y1, y2⟩⟩ := h
    rcases hw with rfl | rfl | rfl | rfl | rfl | rfl | rfl | rfl | rfl | rfl | rfl | rfl | rfl | rfl | rfl | rfl
    · decide
    · have := name_len n0; omega
    · exact itoa_len (by omega) (by omega)
    · have := kindL_len t.kind; omega
    · exact itoa_len (by omega) (by omega)
    · exact itoa_len (by omega) (by omega)
    · have := flagL_len t.wide t.sgn t.swap; omega
    · exact itoa_len (by omega) (by omega)
    · exact itoa_len (by omega) (by omega)
    · exact itoa_len (by omega) (by omega)
    · exact itoa_len (by omega) (by omega)
    · exact itoa_len (by omega) (by omega)
    · exact boundL_len _ l1 l2
    · exact boundL_len _ g1 g2
    · exact itoa_len (by omega) (by omega)
    · have := latchL_len t.latch; omega
  have := join_len (tagW t) 21 hw
  simp only [lineL, List.length_append, List.length_cons, List.length_nil]
  have e : (tagW t).length = 16 := rfl
  rw [e] at this; omega

theorem own_all {c : Cfg} (h : ownB c = true) : 1 ≤ c.timeout ∧ c.timeout ≤ 1048576 ∧ 0 ≤ c.retries ∧ c.retries ≤ 5 ∧ 1 ≤ c.window ∧ c.window ≤ 16 ∧ 1 ≤ c.resend ∧ c.resend ≤ 1048576 ∧ 1 ≤ c.span ∧ c.span ≤ 1048576 ∧ 1 ≤ c.keep ∧ c.keep ≤ 16 := by
  simpa [ownB] using h
theorem cfg_ok {c : Cfg} (h : cfgE c = 0) : ownB c = true ∧ (allE c.tags).1 = 0 := by
  unfold cfgE at h
  split at h
  · rename_i h1; exact ⟨h1, h⟩
  · cases h
theorem headW_len {c : Cfg} (h : ownB c = true) : (lineL (headW c)).length ≤ 200 := by
  obtain ⟨a1, a2, b1, b2, c1, c2, d1, d2, e1, e2, f1, f2⟩ := own_all h
  have hw : ∀ w ∈ headW c, w.length ≤ 21 := by
    intro w hw
    simp only [headW, List.mem_cons, List.not_mem_nil, or_false] at hw
    rcases hw with rfl | rfl | rfl | rfl | rfl | rfl | rfl
    · decide
    all_goals exact itoa_len (by omega) (by omega)
  have := join_len (headW c) 21 hw
  simp only [lineL, List.length_append, List.length_cons, List.length_nil]
  have e : (headW c).length = 7 := rfl
  rw [e] at this; omega
theorem textK_len {c : Cfg} (h : cfgE c = 0) : ∀ k, k ≤ c.tags.length → (textK c k).length ≤ 200 + 400 * k
  | 0, _ => by
    have := headW_len (cfg_ok h).1
    simpa [textK] using this
  | k + 1, hk => by
    have ih := textK_len h k (by omega)
    have ht : c.tags[k]? = some c.tags[k] := List.getElem?_eq_getElem (by omega)
    have := tagW_len (tag_all (allE_tag (cfg_ok h).2 ht))
    rw [textK_succ ht, List.length_append]; omega

end Go.Cx
