/-
  Calls that are done one behind the other: long, run.
-/
import Derived.Test.YtdbdnlahimbcaaaO
import Derived.Test.YtdbdnlahimbcaaaCfZ
namespace Go.Cx
open Go Go.Cf
set_option linter.unusedVariables false
variable {B : Base} {As : List HP}

structure MOp where
  kind : Int
  i : Int
  bit : Int
  data : List UInt8

abbrev COp := Int × Int × Int × Sl
def OP : Enc COp := ⟨fun x => [.int .i64 x.1, .int .i64 x.2.1, .int .i64 x.2.2.1, x.2.2.2.v], 4, fun _ => rfl, fun x v h => by simp at h; rcases h with rfl | rfl | rfl | rfl <;> rfl, by decide, (0, 0, 0, ⟨none, 0, 0⟩)⟩

def OpOk (o : COp) (m : MOp) (h : Frag) : Prop := o.1 = m.kind ∧ o.2.1 = m.i ∧ o.2.2.1 = m.bit ∧ i64 m.kind ∧ i64 m.i ∧ i64 m.bit ∧ RAr U8 o.2.2.2 m.data h
def ROps (s : Sl) (ops : List MOp) : HP := fun h => s.n ≤ s.c ∧ ∃ os : List COp, RAr OP s os h ∧ os.length = ops.length ∧ ∀ (i : Nat) (o : COp) (m : MOp), os[i]? = some o → ops[i]? = some m → OpOk o m h

theorem OpOk.mono {o : COp} {m : MOp} {h g : Frag} (hr : OpOk o m h) (hs : Sub h g) : OpOk o m g :=
  ⟨hr.1, hr.2.1, hr.2.2.1, hr.2.2.2.1, hr.2.2.2.2.1, hr.2.2.2.2.2.1, hr.2.2.2.2.2.2.mono hs⟩
theorem ROps.mono {s : Sl} {ops : List MOp} {h g : Frag} (hr : ROps s ops h) (hs : Sub h g) : ROps s ops g := by
  obtain ⟨h0, os, h1, h2, h3⟩ := hr
  exact ⟨h0, os, h1.mono hs, h2, fun i o m a b => (h3 i o m a b).mono hs⟩

def longB (ops : List MOp) : Bool := decide (300 < ops.length) || ops.any fun m => decide (4096 < m.data.length)

theorem long_spec (s : Sl) (ops : List MOp) : Ct Pr F_law20_long [s.v] .one [.bool] [] (ROps s ops) (fun t Bs => t.1 = longB ops ∧ Bs = []) := by
  refine spec1 c_law20_long fun B hr => ?_
  obtain ⟨hc, os, h1, h2, h3⟩ := hr
  have fa : Fro B s OP os := ⟨h1⟩
  have hn := h1.1
  unfold law20_long
  refine xif_dec (fun h => xret ⟨?_, rfl⟩) (fun h => ?_)
  · have : 300 < ops.length := by omega
    simp [longB, this]
  have h300 : ¬ 300 < ops.length := by omega
  refine xloop1 (fun n i As => ∃ k : Nat, i = (k : Int) ∧ n = ops.length - k ∧ k ≤ ops.length ∧ (∀ m ∈ ops.take k, m.data.length ≤ 4096) ∧ As = []) ops.length ⟨0, rfl, rfl, by omega, by simp, rfl⟩ ?_
  rintro n _ _ K ⟨k, rfl, rfl, hk, hall, rfl⟩ hK
  refine xif_dec (fun h => ?_) (fun h => ?_)
  · refine xidxn (h1 := by omega) (h := fun o ho => ?_)
    have hm := List.getElem?_eq_getElem (l := ops) (i := k) (by omega)
    have hok := h3 k o _ ho hm
    have hlen := hok.2.2.2.2.2.2.1
    refine xgetEj ho (h := xif_dec (fun h4 => ?_) (fun h4 => ?_))
    · refine xret ⟨?_, rfl⟩
      have : ops.any (fun m => decide (4096 < m.data.length)) = true := List.any_eq_true.2 ⟨ops[k], List.getElem_mem _, by simp; omega⟩
      simp only [longB, this, Bool.or_true]
    · rw [wrap_succ k (by omega)]
      refine hK (ops.length - (k + 1)) _ _ (by omega) ⟨k + 1, rfl, rfl, by omega, ?_, rfl⟩
      intro m hm'
      rw [List.take_add_one, hm] at hm'
      rcases List.mem_append.1 hm' with h | h
      · exact hall m h
      · simp at h; subst h; omega
  · have : k = ops.length := by omega
    subst this
    rw [List.take_length] at hall
    refine xret ⟨?_, rfl⟩
    have h0 : ops.any (fun m => decide (4096 < m.data.length)) = false := by
      rw [List.any_eq_false]; intro m hm; have := hall m hm; simp; omega
    simp only [longB, h0, Bool.or_false]
    simp; omega

/-- One call, as a law of lists. -/
def stepL (L : Lm) (m : MOp) : Lm :=
  if m.kind = 0 then (layL L (m.data, false)).1
  else if m.kind = 1 then (takeL L m.i).1
  else if m.kind = 2 then (takeL L m.i).1
  else if m.kind = 3 then (doubleL L m.i).1
  else if m.kind = 4 then (turnL L m.i m.bit).1
  else L

theorem run_spec (p : Option Addr) (L : Lm) (s : Sl) (ops : List MOp) (hb : ∀ m ∈ ops, m.data.length ≤ 4096) (hl : ops.length ≤ 300) : Ct Pr F_law20_run [.pointer p, s.v] (.tup []) [] [LineObj p L] (ROps s ops) (fun t Bs => Bs = [LineObj p (ops.foldl stepL L)]) := by
  refine spec0 c_law20_run fun B hr => ?_
  obtain ⟨hc, os, h1, h2, h3⟩ := hr
  have fa : Fro B s OP os := ⟨h1⟩
  have hn := h1.1
  unfold law20_run
  refine xloop1 (fun n i As => ∃ k : Nat, i = (k : Int) ∧ n = ops.length - k ∧ k ≤ ops.length ∧ As = [LineObj p ((ops.take k).foldl stepL L)]) ops.length ⟨0, rfl, rfl, by omega, rfl⟩ ?_
  rintro n _ _ K ⟨k, rfl, rfl, hk, rfl⟩ hK
  refine xif_dec (fun h => ?_) (fun h => ?_)
  · have hm := List.getElem?_eq_getElem (l := ops) (i := k) (by omega)
    have hstep : (ops.take (k + 1)).foldl stepL L = stepL ((ops.take k).foldl stepL L) ops[k] := by
      rw [List.take_add_one, hm, List.foldl_append]; rfl
    generalize hM : (ops.take k).foldl stepL L = M at hstep ⊢
    refine xidxn (h1 := by omega) (h := fun o ho => ?_)
    obtain ⟨e1, e2, e3, _, _, hbit, hdata⟩ := h3 k o _ ho hm
    have hmb := hb _ (List.getElem_mem (l := ops) (n := k) (by omega))
    obtain ⟨o1, o2, o3, o4⟩ := o
    simp only at e1 e2 e3 hdata
    have fd : Fro B o4 U8 ops[k].data := ⟨hdata⟩
    refine xgetE ho (h := ?_)
    refine xgetEj ho (h := ?_)
    refine xgetEj ho (h := ?_)
    refine xgetEj ho (h := xnew fun b => xset (h := ?_))
    refine xset (h := xset (h := ?_))
    refine xset (h := xget (h := ?_))
    have hend : ∀ L', L' = stepL M ops[k] → Ent B [LineObj p L'] (K (IntKind.i64.wrap ((k : Int) + 1))) := fun L' e => by
      rw [wrap_succ k (by omega)]
      exact hK (ops.length - (k + 1)) _ _ (by omega) ⟨k + 1, rfl, rfl, by omega, by rw [hstep, e]⟩
    refine xjoin (xif (fun g => ?_) (fun g => ?_))
    · have hk0 : ops[k].kind = 0 := by rw [← e1]; simpa using g
      refine xget (h := ?_)
      refine xcall1 1 (Put_spec p M o4 ops[k].data hmb) rdb ?_
      rintro ⟨r, _⟩ _ ⟨_, rfl⟩
      exact app1 (ca1 (xdrop 1 (hend _ (by simp [stepL, hk0]))))
    have n0 : ops[k].kind ≠ 0 := by rw [← e1]; simpa using g
    refine xjoin (xif (fun g => ?_) (fun g => ?_))
    · have hk0 : ops[k].kind = 1 := by rw [← e1]; simpa using g
      refine xget (h := ?_)
      refine xcall1 1 (Take_spec p M o2) rdb ?_
      rintro ⟨r, r', _⟩ _ ⟨_, rfl⟩
      exact app2 (ca2 (xdrop 1 (xdrop 1 (hend _ (by simp [stepL, hk0, e2])))))
    have n1 : ops[k].kind ≠ 1 := by rw [← e1]; simpa using g
    refine xjoin (xif (fun g => ?_) (fun g => ?_))
    · have hk0 : ops[k].kind = 2 := by rw [← e1]; simpa using g
      refine xget (h := ?_)
      refine xcall1 1 (Lose_spec p M o2) rdb ?_
      rintro ⟨r, _⟩ _ ⟨_, rfl⟩
      exact app1 (ca1 (xdrop 1 (hend _ (by simp [stepL, hk0, e2]))))
    have n2 : ops[k].kind ≠ 2 := by rw [← e1]; simpa using g
    refine xjoin (xif (fun g => ?_) (fun g => ?_))
    · have hk0 : ops[k].kind = 3 := by rw [← e1]; simpa using g
      refine xget (h := ?_)
      refine xcall1 1 (Double_spec p M o2) rdb ?_
      rintro ⟨r, _⟩ _ ⟨_, rfl⟩
      exact app1 (ca1 (xdrop 1 (hend _ (by simp [stepL, hk0, e2]))))
    have n3 : ops[k].kind ≠ 3 := by rw [← e1]; simpa using g
    refine xjoin (xif (fun g => ?_) (fun g => ?_))
    · have hk0 : ops[k].kind = 4 := by rw [← e1]; simpa using g
      refine xget (h := xget (h := ?_))
      refine xcall1 1 (Turn_spec p M o2 o3 (by rw [e3]; exact hbit.1) (by rw [e3]; exact hbit.2)) rdb ?_
      rintro ⟨r, _⟩ _ ⟨_, rfl⟩
      exact app1 (ca1 (xdrop 1 (hend _ (by simp [stepL, hk0, e2, e3]))))
    have n4 : ops[k].kind ≠ 4 := by rw [← e1]; simpa using g
    exact xdrop 0 (hend _ (by simp [stepL, n0, n1, n2, n3, n4]))
  · have : k = ops.length := by omega
    subst this
    rw [List.take_length]
    exact xret rfl

end Go.Cx
