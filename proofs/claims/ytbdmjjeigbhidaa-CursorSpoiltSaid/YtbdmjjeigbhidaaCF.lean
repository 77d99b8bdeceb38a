/-
  A cursor is saved.
-/
import Derived.Test.YtbdmjjeigbhidaaCE
namespace Go.Cf
open Go
variable {B : Base} {As : List HP}
theorem ca3 {s t u : Sh} {K : s.ty → t.ty → u.ty → WP} {x : s.ty} {y : t.ty} {z : u.ty} {v : Unit} (h : Ent B As (K x y z)) : Ent B As (Cur.app [s, t, u] K (x, y, z, v)) := h
theorem ca4 {s t u r : Sh} {K : s.ty → t.ty → u.ty → r.ty → WP} {x : s.ty} {y : t.ty} {z : u.ty} {q : r.ty} {v : Unit} (h : Ent B As (K x y z q)) : Ent B As (Cur.app [s, t, u, r] K (x, y, z, q, v)) := h
theorem spec4 {P : Program} {f : FuncId} {args : List Value} {rs : Rs} {s t u r : Sh} {pre : List HP} {rd : HP} {post : Tup [s, t, u, r] → List HP → Prop} {φ : (s.ty → t.ty → u.ty → r.ty → WP) → WP} (c : ∀ {K : s.ty → t.ty → u.ty → r.ty → WP} {w : World}, φ K w → XCall P f args rs [s, t, u, r] K w)
    (h : ∀ B : Base, rd (frz B.W B.h0) → Ent B pre (φ fun x y z q => Ret B post (x, y, z, q, ()))) : Ct P f args rs [s, t, u, r] pre rd post := spec_gen (ss := [s, t, u, r]) c h
end Go.Cf

namespace Go.Cx
open Go Go.Cf
set_option linter.unusedVariables false
variable {B : Base} {As : List HP}

def curN : ByteArray := ⟨#[99, 117, 114]⟩
def newN : ByteArray := ⟨#[99, 117, 114, 46, 110, 101, 119]⟩
def preC (c : Cu) : Nat → List UInt8
  | 0 => []
  | 1 => be8 c.a.toNat
  | 2 => be8 c.a.toNat ++ be8 c.b.toNat
  | _ => be8 c.a.toNat ++ be8 c.b.toNat ++ be8 c.c.toNat
abbrev cu3 (c : Cu) : List UInt8 := preC c 3
def fileC (c : Cu) : List UInt8 := frameN (cu3 c)
theorem preC_len (c : Cu) : ∀ k, k ≤ 3 → (preC c k).length = 8 * k := by
  intro k hk
  have : k = 0 ∨ k = 1 ∨ k = 2 ∨ k = 3 := by omega
  rcases this with rfl | rfl | rfl | rfl <;> simp [preC, be8_len]

def saveM (m : DM) (c : Cu) : DM × Int :=
  if !(mayC c) then (m, 3)
  else if (removeM m newN).2 = 10 then ((removeM m newN).1, 10)
  else if (appendM (removeM m newN).1 newN (fileC c)).2 ≠ 0 then appendM (removeM m newN).1 newN (fileC c)
  else if (syncM (appendM (removeM m newN).1 newN (fileC c)).1 newN).2 ≠ 0 then syncM (appendM (removeM m newN).1 newN (fileC c)).1 newN
  else renameM (syncM (appendM (removeM m newN).1 newN (fileC c)).1 newN).1 newN curN

theorem ok_nat {x : Int} (h : okN x = true) : IntKind.u64.wrap x = ((x.toNat : Nat) : Int) ∧ x.toNat < 18446744073709551616 ∧ ((x.toNat : Nat) : Int) = x ∧ x ≤ 1099511627776 := by
  have h' : 0 ≤ x ∧ x ≤ 1099511627776 := by simpa [okN] using h
  have e : ((x.toNat : Nat) : Int) = x := by omega
  refine ⟨?_, by omega, e, h'.2⟩
  have := wrap_u64 x.toNat (by omega)
  rw [e] at this ⊢
  exact this

theorem may_of {c : Cu} (h : mayC c = true) : okN c.a = true ∧ okN c.b = true ∧ okN c.c = true := by simpa [mayC] using h

theorem Save_spec (p : Option Addr) (m : DM) (c : Cu) : Ct Pr F_cursor_Save [.pointer p, c.v] .one [.int .i64] [DevObj p m] emp (fun t Bs => t.1 = (saveM m c).2 ∧ Bs = [DevObj p (saveM m c).1]) := by
  refine spec1 c_cursor_Save fun B _ => ?_
  unfold cursor_Save
  refine xnew fun b => xget (h := xget (h := xget (h := ?_)))
  refine xcl (numbersOf_spec c) rdb ?_
  rintro ⟨r, r1, r2, _⟩ _ ⟨h1, h2, h3, rfl⟩
  simp only at h1 h2 h3
  subst h1 h2 h3
  refine app0 (ca3 ?_)
  refine xnew fun b1 => xset (h := xset (h := xset (h := xget (h := xget (h := xget (h := ?_))))))
  refine xcl (nmay_spec c) rdb ?_
  rintro ⟨g, _⟩ _ ⟨hg, rfl⟩
  simp only at hg
  subst hg
  refine app0 (ca1 (xif (fun hm => ?_) (fun hm => ?_)))
  · have e : saveM m c = (m, 3) := by unfold saveM; rw [if_pos hm]
    rw [e]
    exact xuse [DevObj p m] (xret ⟨rfl, rfl⟩)
  have hmay : mayC c = true := by simpa using hm
  obtain ⟨ha, hb, hc⟩ := may_of hmay
  refine xcl (Remove_spec p m newN) rdb ?_
  rintro ⟨r, _⟩ _ ⟨hr, rfl⟩
  simp only at hr
  subst hr
  refine app1 (ca1 (xif (fun h10 => ?_) (fun h10 => ?_)))
  · have h10 : (removeM m newN).2 = 10 := by simpa using h10
    have e : saveM m c = ((removeM m newN).1, 10) := by unfold saveM; rw [if_neg (by simpa using hmay), if_pos h10]
    rw [e]
    exact xuse [DevObj p (removeM m newN).1] (xret ⟨h10, rfl⟩)
  have h10 : ¬ (removeM m newN).2 = 10 := by simpa using h10
  have e : saveM m c = if (appendM (removeM m newN).1 newN (fileC c)).2 ≠ 0 then appendM (removeM m newN).1 newN (fileC c)
      else if (syncM (appendM (removeM m newN).1 newN (fileC c)).1 newN).2 ≠ 0 then syncM (appendM (removeM m newN).1 newN (fileC c)).1 newN
      else renameM (syncM (appendM (removeM m newN).1 newN (fileC c)).1 newN).1 newN curN := by
    unfold saveM; rw [if_neg (by simpa using hmay), if_neg h10]
  rw [e]
  generalize (removeM m newN).1 = m1
  refine xget (h := xget (h := xget (h := xnone U8 ?_)))
  refine xuse [Ar U8 ⟨none, 0, 0⟩ [], DevObj p m1] ?_
  refine xloop2 (fun n o i As => ∃ k : Nat, i = (k : Int) ∧ n = 3 - k ∧ k ≤ 3 ∧ As = [Ar U8 o (preC c k), DevObj p m1]) 3 ⟨0, rfl, rfl, by omega, rfl⟩ ?_
  rintro n o _ _ K ⟨k, rfl, rfl, hk, rfl⟩ hK
  have hlen := preC_len c k hk
  refine xif_dec (fun h => ?_) (fun h => ?_)
  · have step : ∀ x : Int, okN x = true → preC c (k + 1) = preC c k ++ be8 x.toNat → Ent B [Ar U8 o (preC c k), DevObj p m1] (XCall Pr F_pack_Put [o.v, .int .u64 (IntKind.u64.wrap x), .int .i64 8] (.tup [none, none]) [.slice, .int .i64] fun s r4 => K s (IntKind.i64.wrap ((k : Int) + 1))) := by
      intro x hx hp
      obtain ⟨e1, e2, _, _⟩ := ok_nat hx
      rw [e1]
      refine xcl (packPut_spec o (preC c k) x.toNat e2 (by omega)) rdb ?_
      rintro ⟨s, r, _⟩ _ ⟨_, rfl⟩
      refine app1 (ca2 ?_)
      rw [wrap_succ k (by omega), ← hp]
      exact xuse [Ar U8 s (preC c (k + 1)), DevObj p m1] (hK (3 - (k + 1)) _ _ _ (by omega) ⟨k + 1, rfl, rfl, by omega, rfl⟩)
    have : k = 0 ∨ k = 1 ∨ k = 2 := by omega
    rcases this with rfl | rfl | rfl
    · refine xcell (x := c.a) rfl (by omega) ?_
      exact step c.a ha (by simp [preC])
    · refine xcell (x := c.b) rfl (by omega) ?_
      exact step c.b hb (by simp [preC])
    · refine xcell (x := c.c) rfl (by omega) ?_
      exact step c.c hc (by simp [preC])
  have hk3 : k = 3 := by omega
  subst hk3
  refine xcl (chunkPut_spec o (preC c 3) (by omega)) rdb ?_
  rintro ⟨s, r, _⟩ _ ⟨_, rfl⟩
  refine app1 (ca2 ?_)
  rw [show frameN (preC c 3) = fileC c from rfl]
  refine xcl (Append_spec p m1 newN s (fileC c)) rdb ?_
  rintro ⟨r, _⟩ _ ⟨hr, rfl⟩
  simp only at hr
  subst hr
  refine app1 (ca1 (xif (fun h2 => ?_) (fun h2 => ?_)))
  · have h2 : (appendM m1 newN (fileC c)).2 ≠ 0 := by simpa using h2
    rw [if_pos h2]
    exact xuse [DevObj p (appendM m1 newN (fileC c)).1] (xret ⟨rfl, rfl⟩)
  have h2 : ¬ (appendM m1 newN (fileC c)).2 ≠ 0 := by simpa using h2
  rw [if_neg h2]
  refine xcl (Sync_spec p (appendM m1 newN (fileC c)).1 newN) rdb ?_
  rintro ⟨r, _⟩ _ ⟨hr, rfl⟩
  simp only at hr
  subst hr
  refine app1 (ca1 (xif (fun h3 => ?_) (fun h3 => ?_)))
  · have h3 : (syncM (appendM m1 newN (fileC c)).1 newN).2 ≠ 0 := by simpa using h3
    rw [if_pos h3]
    exact xuse [DevObj p (syncM (appendM m1 newN (fileC c)).1 newN).1] (xret ⟨rfl, rfl⟩)
  have h3 : ¬ (syncM (appendM m1 newN (fileC c)).1 newN).2 ≠ 0 := by simpa using h3
  rw [if_neg h3]
  refine xcl (Rename_spec p (syncM (appendM m1 newN (fileC c)).1 newN).1 newN curN) rdb ?_
  rintro ⟨r, _⟩ _ ⟨hr, rfl⟩
  exact app1 (ca1 (xuse [DevObj p (renameM (syncM (appendM m1 newN (fileC c)).1 newN).1 newN curN).1] (xret ⟨hr, rfl⟩)))

end Go.Cx
