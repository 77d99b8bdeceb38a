/-
  The law GatewayCounts of package outstationlaw28 answers true at every input, and its arguments read afterwards as they read before: no condition but the given ties of the listed tables.
-/
import Derived.Test.YthbhbkjkclhkgaaGreatDoorCl
import Derived.Test.YthbhbkjkclhkgaaGreatDoorXK
import Derived.Test.YthbhbkjkclhkgaaGreatDoorAX
import Derived.Test.YthbhbkjkclhkgaaGreatDoorCards
import Derived.Test.YthbhbkjkclhkgaaGreatDoorTie
import Derived.WalkKit
import Derived.ChangeMaps5
import Derived.ProofKit
import Derived.OpenShut
import Derived.SizedLaws
import Derived.Deep.DeepHandedRow
import Derived.Lay

namespace Go.Proofs.YthbhbkjkclhkgaaGreatDoor.counts
open Go.ChangeShapes Go.WideShapes Go.ChangeAt Go.RowKit Go.Cf Go.Cx
set_option linter.unusedVariables false

theorem own : ownKnob Tryz.prog.godebug = Option.none := by kernel_rfl
theorem QbS : laidOutB Tryz.prog = true := by kernel_rfl

set_option maxRecDepth 100000 in
theorem contract (H : Type) (enc : TypeId × Value → H) (W : World) (base : Nat) (args : Array Value) (ds gs : List (DataW H)) (before : List MemPlace)
    (hval : ∀ (j : Nat) t v, Tryz.f5.params[j]? = some t → args[j]? = some v → Value.okWide Tryz.prog W .any base t v)
    (hW : DataW.Whole enc Tryz.prog Tryz.f5.params.toList Rows.gatewayCountsSpec.vars false W args.toList ds gs before)
    (hsz : (DataW.weightsEach Tryz.prog (Tryz.f5.params.toList ++ Rows.gatewayCountsSpec.plain.varTypes Tryz.prog) (ds ++ gs)).all (· ≤ reachBytes) = true)
    (hL : laidMetH Tryz.prog Rows.gatewayCountsRow.laid W) (hS : W.ShapedOpen Tryz.prog) :
    Calls Tryz.prog 5 args W fun e W' => ∃ v, e = .returned v ∧ Rows.gatewayCountsSpec.post enc Tryz.prog Tryz.f5 false true false false W args v W' := by
  have hW' := hW
  obtain ⟨p, q, hA0, hV, rfl, hfz, hnd⟩ := hW
  have hA : DataW.TrodAll enc Tryz.prog W 0 (fun _ => true) true Tryz.f5.params.toList args.toList ds p := hA0
  rw [Tryz.params5] at hA hval
  obtain ⟨v0, vs0, d0, ds0, p0, q0, hargs, rfl, rfl, h0, r0⟩ := trodAll_cons hA
  obtain ⟨v1, vs1, d1, ds1, p1, q1, rfl, rfl, rfl, h1, r1⟩ := trodAll_cons r0
  obtain ⟨rfl, rfl, rfl⟩ := trodAll_nil r1
  obtain rfl : args = #[v0, v1] := by cases args; simp_all
  obtain ⟨rfl, rfl⟩ := trodVars_none hV
  rw [Tryz.params5] at hsz
  simp only [List.cons_append, List.nil_append, DataW.weightsEach, List.append_nil] at hsz
  have h0o := open_int Tryz.underlying3 (hval 0 3 v0 rfl rfl) h0
  obtain ⟨a1, len1, cap1, rfl⟩ := okWide_slice Tryz.underlying22 (hval 1 22 v1 rfl rfl)
  have h0k := h0
  have h1k := h1
  obtain ⟨n0, e0, _, _, w0⟩ := h0o
  obtain ⟨fuel1, hf1⟩ := h1
  clear hA0
  simp only [List.append_nil] at hW'
  have hlt0 : ∀ x ∈ p0, x.block < W.heap.size := fun x hx => hW'.lt x (by simp [hx])
  have hback0 : ∀ (W' : World), Below W.heap.size W W' → DataW.Trod enc Tryz.prog W' 0 (fun b => decide (b < W.heap.size)) true 3 v0 d0 p0 :=
    fun W' hn => Below.trod QbS (by kernel_rfl) (of_decide_eq_true (by kernel_rfl)) h0k hn hlt0
  have hlt1 : ∀ x ∈ p1, x.block < W.heap.size := fun x hx => hW'.lt x (by simp [hx])
  have hback1 : ∀ (W' : World), Below W.heap.size W W' → DataW.Trod enc Tryz.prog W' 0 (fun b => decide (b < W.heap.size)) true 22 (.slice a1 len1 cap1) d1 p1 :=
    fun W' hn => Below.trod QbS (by kernel_rfl) (of_decide_eq_true (by kernel_rfl)) h1k hn hlt1
  have rg0 := Qa9 w0
  subst e0
  obtain ⟨s, ms, hs, hro⟩ := Qhs hf1
  have hs' : (⟨a1, len1, cap1⟩ : Sl) = s := by
    have e : Value.slice a1 len1 cap1 = Value.slice s.p s.n s.c := (List.cons.inj hs).1
    injection e with h1 h2 h3
    cases s; cases h1; cases h2; cases h3; rfl
  subst hs'
  have hT : (GTab.and GBeh) (mem W) := ⟨QS7 hL, QSu hL⟩
  refine ((QXb n0 ⟨a1, len1, cap1⟩ ms).top W ⟨hT, hro⟩).mono fun e W' ⟨t, Bs, he, ⟨ht, _⟩, hb⟩ => ?_
  obtain ⟨t1, _⟩ := t
  simp only at ht
  subst ht
  subst he
  refine ⟨_, rfl, _, _, _, [], (p0 ++ (p1 ++ [])), [], hW', ?_, ?_, rfl, hb.frame _, fun h => by cases h⟩
  · exact trodAll_cons_mk (shut_bool Tryz.underlying4 _) trodAll_mk0
  · exact (trodAll_cons_mk (hback0 _ hb) (trodAll_cons_mk (hback1 _ hb) trodAll_mk0))


/-- A world for the witness: the settled one, the listed variables holding what their text lays. -/
noncomputable def QNt (os : Os) : World :=
  World.laidAll Tryz.prog os Rows.gatewayCountsRow.laid
theorem Qca (os : Os) : laidMet Tryz.prog Rows.gatewayCountsRow.laid ((QNt os).forCall (fun _ _ => 0) ⟨#[], #[.int .i64 0, .slice Option.none 0 0], []⟩).memory :=
  laidMet_laidAll _ (by kernel_rfl) (by kernel_rfl)
theorem reads (os : Os) {H : Type} (enc : TypeId × Value → H) : ∃ places, DataW.whole enc Tryz.prog ((QNt os).forCall (fun _ _ => 0) ⟨#[], #[.int .i64 0, .slice Option.none 0 0], []⟩).memory Tryz.f5.params.toList Rows.gatewayCountsSpec.vars false (#[.int .i64 0, .slice Option.none 0 0] : Array Value).toList 8 = some ([.lit (.int .i64 0), .nil], [], places) :=
  ⟨[], by kernel_rfl⟩

set_option maxRecDepth 100000 in
theorem lifted (os : Os) (started : os.Started) (H : Type) (enc : TypeId × Value → H) (F : Stop.Interp) :
    ReturnsInHanded {} Tryz.checked os 5 .any ((OpenSpec.ofChange Rows.gatewayCountsSpec).preRow enc Tryz.prog Tryz.f5 Rows.gatewayCountsRow.domain false Rows.gatewayCountsRow.laid) (((OpenSpec.ofChange Rows.gatewayCountsSpec).at F).post enc Tryz.prog Tryz.f5 false true false false) := by
  obtain ⟨places, hx⟩ := reads os enc
  refine returnsInHanded_of_row (C := Tryz.checked) (s := OpenSpec.ofChange Rows.gatewayCountsSpec) own started (by kernel_rfl) Tryz.func5
    (witness_row_at (enc := enc) (C := Tryz.checked) false (QNt os) #[.int .i64 0, .slice Option.none 0 0] (World.laidAll_os _ _ _) (by kernel_rfl) (by kernel_rfl) (by kernel_rfl)
      (OpenSpec.preRow_of_cond 8 hx (by kernel_rfl) (fun k hk => by cases hk) (by kernel_rfl) (Qca os))) ?_
  intro W base args ds gs before hval hW _ _ hsz hL hS _
  exact contract H enc W base args ds gs before hval hW hsz hL hS

theorem inPlaceQ : Rows.gatewayCountsRow.inPlace = Tryz.prog.inPlace 5 := by unfold Program.inPlace; rw [QQ8]; kernel_rfl
theorem unfollowedQ : Rows.gatewayCountsRow.unfollowed = Tryz.prog.unfollowed 5 := by unfold Program.unfollowed; rw [QQ8]; kernel_rfl
theorem recursesQ : Rows.gatewayCountsRow.recurses = Tryz.prog.recurses 5 := by unfold Program.recurses; rw [← unfollowedQ]; rfl
theorem namedQ : Rows.gatewayCountsRow.named = Tryz.prog.varsNamed 5 := by unfold Program.varsNamed; rw [QQ8]; kernel_rfl
theorem QdJ : Tryz.pinned.checked.prog.inPlace 5 = Rows.gatewayCountsRow.inPlace := inPlaceQ.symm
theorem QVC : Tryz.pinned.checked.prog.unfollowed 5 = Rows.gatewayCountsRow.unfollowed := unfollowedQ.symm
theorem Qa1 : Tryz.pinned.checked.prog.recurses 5 = Rows.gatewayCountsRow.recurses := recursesQ.symm
theorem QhB : Tryz.pinned.checked.prog.varsNamed 5 = Rows.gatewayCountsRow.named := namedQ.symm
theorem j1 : laidOutB Tryz.pinned.checked.prog = true := by kernel_rfl
theorem j2 : mapsRowed Tryz.pinned.checked.prog = true := by kernel_rfl
theorem j3 : Tryz.pinned.checked.prog.stopsHeard = true := by kernel_rfl
theorem j4 : Tryz.pinned.checked.prog.mayEnter = true := by kernel_rfl
theorem j5 : (Rows.gatewayCountsRow.lifted == Tryz.pinned.checked.prog.liftsFinal) = true := by kernel_rfl
theorem j6 : (Rows.gatewayCountsRow.plainKeys == Tryz.pinned.checked.prog.plainKeys) = true := by kernel_rfl
theorem j7 : (Tryz.pinned.checked.prog.make == some Rows.gatewayCountsRow.make) = true := by kernel_rfl
theorem closed : joinedFacts Tryz.pinned.checked.prog 5 Tryz.f5 (OpenSpec.ofChange Rows.gatewayCountsSpec).bare Rows.gatewayCountsRow = true := by
  unfold joinedFacts
  rw [QdJ, QVC, Qa1, QhB, j1, j2, j3, j4, j5, j6, j7]
  kernel_rfl

theorem QkO : Rows.GatewayCountsSaid :=
  OpenClaim.holds_of_cond 5 Tryz.f5 rfl rfl rfl rfl rfl rfl rfl ⟨rfl, rfl, rfl, rfl, rfl⟩ rfl rfl rfl rfl rfl (by kernel_rfl) Tryz.func5 closed
    (of_decide_eq_true (by kernel_rfl)) (by unfold Func.isWrapper; first | (rw [if_pos (by decide +kernel)]; kernel_rfl) | (rw [if_neg (by decide +kernel)]; exact ⟨rfl, rfl⟩))
    (fun os started H enc _ F => by rw [OpenClaim.pre_eq_preRow]; exact lifted os started H enc F)

theorem plain (f : FuncId) (fn : Func) (hf : Tryz.pinned.checked.prog.funcNamed Rows.gatewayCountsRow.func = some f) (hfn : Tryz.pinned.checked.prog.funcs[f]? = some fn) :
    true = Tryz.pinned.checked.prog.looks [] ∧ ∀ (j : Nat) t, fn.params[j]? = some t → Tryz.pinned.checked.prog.wantsStandIn t = false := by
  obtain rfl : f = 5 := Option.some.inj ((show Tryz.prog.funcNamed Rows.gatewayCountsRow.func = some 5 by kernel_rfl).symm.trans hf) |>.symm
  obtain rfl : fn = Tryz.f5 := (Option.some.inj (Tryz.func5.symm.trans hfn)).symm
  refine ⟨by kernel_rfl, fun j t ht => ?_⟩
  rw [Tryz.params5] at ht
  have hm := Array.mem_of_getElem? ht
  simp only [List.mem_toArray, List.mem_cons, List.not_mem_nil, or_false] at hm
  rcases hm with rfl | rfl
  · exact (show Tryz.prog.wantsStandIn 3 = false by kernel_rfl)
  · exact (show Tryz.prog.wantsStandIn 22 = false by kernel_rfl)

theorem proved : Rows.GatewayCountsCardSaid :=
  Claim7.holds_tied_plain_at .later [] _ _ _ _ QkO (fun _ h => by cases h) (by kernel_rfl) (fun _ h => by cases h) gatewayCounts_row_tie rfl ⟨rfl, rfl⟩ (by kernel_rfl) rfl plain (QU2 QkU rfl)

end Go.Proofs.YthbhbkjkclhkgaaGreatDoor.counts
