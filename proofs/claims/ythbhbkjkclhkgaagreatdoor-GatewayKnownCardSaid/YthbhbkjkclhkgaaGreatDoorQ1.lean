import Derived.Test.YthbhbkjkclhkgaaGreatDoorCl
import Derived.Test.YthbhbkjkclhkgaaGreatDoorBK
import Derived.Test.YthbhbkjkclhkgaaGreatDoorAX
import Derived.Test.YthbhbkjkclhkgaaGreatDoorCards
import Derived.Test.YthbhbkjkclhkgaaGreatDoorTie
import Derived.WalkKit
import Derived.ChangeMaps5
import Derived.ProofKit
import Derived.OpenShut
import Derived.SizedLaws
import Derived.Deep.DeepHandedRow
import Derived.Lay

namespace Go.Proofs.YthbhbkjkclhkgaaGreatDoor.known
open Go.ChangeShapes Go.WideShapes Go.ChangeAt Go.RowKit Go.Cf Go.Cx
set_option linter.unusedVariables false

theorem own : ownKnob Tryz.prog.godebug = Option.none := by kernel_rfl
theorem Qf1 : laidOutB Tryz.prog = true := by kernel_rfl

set_option maxRecDepth 100000 in
theorem contract (H : Type) (enc : TypeId × Value → H) (W : World) (base : Nat) (args : Array Value) (ds gs : List (DataW H)) (before : List MemPlace)
    (hval : ∀ (j : Nat) t v, Tryz.f9.params[j]? = some t → args[j]? = some v → Value.okWide Tryz.prog W .any base t v)
    (hW : DataW.Whole enc Tryz.prog Tryz.f9.params.toList Rows.gatewayKnownSpec.vars false W args.toList ds gs before)
    (hsz : (DataW.weightsEach Tryz.prog (Tryz.f9.params.toList ++ Rows.gatewayKnownSpec.plain.varTypes Tryz.prog) (ds ++ gs)).all (· ≤ reachBytes) = true)
    (hL : laidMetH Tryz.prog Rows.gatewayKnownRow.laid W) (hS : W.ShapedOpen Tryz.prog) :
    Calls Tryz.prog 9 args W fun e W' => ∃ v, e = .returned v ∧ Rows.gatewayKnownSpec.post enc Tryz.prog Tryz.f9 false true false false W args v W' := by
  have hW' := hW
  obtain ⟨p, q, hA0, hV, rfl, hfz, hnd⟩ := hW
  have hA : DataW.TrodAll enc Tryz.prog W 0 (fun _ => true) true Tryz.f9.params.toList args.toList ds p := hA0
  rw [Tryz.params9] at hA hval
  obtain ⟨hargs, rfl, rfl⟩ := trodAll_nil hA
  obtain rfl : args = #[] := by cases args; simp_all
  obtain ⟨rfl, rfl⟩ := trodVars_none hV
  clear hA0
  simp only [List.append_nil] at hW'
  have hT : (GTab.and GBeh) (mem W) := ⟨QRP hL, QRZ hL⟩
  refine ((QXA ).top W hT).mono fun e W' ⟨t, Bs, he, ⟨ht, _⟩, hb⟩ => ?_
  obtain ⟨t1, _⟩ := t
  simp only at ht
  subst ht
  subst he
  refine ⟨_, rfl, _, _, _, [], [], [], hW', ?_, ?_, rfl, hb.frame _, fun h => by cases h⟩
  · exact trodAll_cons_mk (shut_bool Tryz.underlying4 _) trodAll_mk0
  · exact trodAll_mk0


noncomputable def QLa (os : Os) : World :=
  World.laidAll Tryz.prog os Rows.gatewayKnownRow.laid
theorem QaT (os : Os) : laidMet Tryz.prog Rows.gatewayKnownRow.laid ((QLa os).forCall (fun _ _ => 0) ⟨#[], #[], []⟩).memory :=
  laidMet_laidAll _ (by kernel_rfl) (by kernel_rfl)
theorem reads (os : Os) {H : Type} (enc : TypeId × Value → H) : ∃ places, DataW.whole enc Tryz.prog ((QLa os).forCall (fun _ _ => 0) ⟨#[], #[], []⟩).memory Tryz.f9.params.toList Rows.gatewayKnownSpec.vars false (#[] : Array Value).toList 8 = some ([], [], places) :=
  ⟨[], by kernel_rfl⟩

set_option maxRecDepth 100000 in
theorem lifted (os : Os) (started : os.Started) (H : Type) (enc : TypeId × Value → H) (F : Stop.Interp) :
    ReturnsInHanded {} Tryz.checked os 9 .any ((OpenSpec.ofChange Rows.gatewayKnownSpec).preRow enc Tryz.prog Tryz.f9 Rows.gatewayKnownRow.domain false Rows.gatewayKnownRow.laid) (((OpenSpec.ofChange Rows.gatewayKnownSpec).at F).post enc Tryz.prog Tryz.f9 false true false false) := by
  obtain ⟨places, hx⟩ := reads os enc
  refine returnsInHanded_of_row (C := Tryz.checked) (s := OpenSpec.ofChange Rows.gatewayKnownSpec) own started (by kernel_rfl) Tryz.func9
    (witness_row_at (enc := enc) (C := Tryz.checked) false (QLa os) #[] (World.laidAll_os _ _ _) (by kernel_rfl) (by kernel_rfl) (by kernel_rfl)
      (OpenSpec.preRow_of_cond 8 hx (by kernel_rfl) (fun k hk => by cases hk) (by kernel_rfl) (QaT os))) ?_
  intro W base args ds gs before hval hW _ _ hsz hL hS _
  exact contract H enc W base args ds gs before hval hW hsz hL hS

theorem inPlaceQ : Rows.gatewayKnownRow.inPlace = Tryz.prog.inPlace 9 := by unfold Program.inPlace; rw [QPR]; kernel_rfl
theorem unfollowedQ : Rows.gatewayKnownRow.unfollowed = Tryz.prog.unfollowed 9 := by unfold Program.unfollowed; rw [QPR]; kernel_rfl
theorem recursesQ : Rows.gatewayKnownRow.recurses = Tryz.prog.recurses 9 := by unfold Program.recurses; rw [← unfollowedQ]; rfl
theorem namedQ : Rows.gatewayKnownRow.named = Tryz.prog.varsNamed 9 := by unfold Program.varsNamed; rw [QPR]; kernel_rfl
theorem Qba : Tryz.pinned.checked.prog.inPlace 9 = Rows.gatewayKnownRow.inPlace := inPlaceQ.symm
theorem QSf : Tryz.pinned.checked.prog.unfollowed 9 = Rows.gatewayKnownRow.unfollowed := unfollowedQ.symm
theorem QYB : Tryz.pinned.checked.prog.recurses 9 = Rows.gatewayKnownRow.recurses := recursesQ.symm
theorem QeZ : Tryz.pinned.checked.prog.varsNamed 9 = Rows.gatewayKnownRow.named := namedQ.symm
theorem j1 : laidOutB Tryz.pinned.checked.prog = true := by kernel_rfl
theorem j2 : mapsRowed Tryz.pinned.checked.prog = true := by kernel_rfl
theorem j3 : Tryz.pinned.checked.prog.stopsHeard = true := by kernel_rfl
theorem j4 : Tryz.pinned.checked.prog.mayEnter = true := by kernel_rfl
theorem j5 : (Rows.gatewayKnownRow.lifted == Tryz.pinned.checked.prog.liftsFinal) = true := by kernel_rfl
theorem j6 : (Rows.gatewayKnownRow.plainKeys == Tryz.pinned.checked.prog.plainKeys) = true := by kernel_rfl
theorem j7 : (Tryz.pinned.checked.prog.make == some Rows.gatewayKnownRow.make) = true := by kernel_rfl
theorem closed : joinedFacts Tryz.pinned.checked.prog 9 Tryz.f9 (OpenSpec.ofChange Rows.gatewayKnownSpec).bare Rows.gatewayKnownRow = true := by
  unfold joinedFacts
  rw [Qba, QSf, QYB, QeZ, j1, j2, j3, j4, j5, j6, j7]
  kernel_rfl

theorem QhQ : Rows.GatewayKnownSaid :=
  OpenClaim.holds_of_cond 9 Tryz.f9 rfl rfl rfl rfl rfl rfl rfl ⟨rfl, rfl, rfl, rfl, rfl⟩ rfl rfl rfl rfl rfl (by kernel_rfl) Tryz.func9 closed
    (of_decide_eq_true (by kernel_rfl)) (by unfold Func.isWrapper; first | (rw [if_pos (by decide +kernel)]; kernel_rfl) | (rw [if_neg (by decide +kernel)]; exact ⟨rfl, rfl⟩))
    (fun os started H enc _ F => by rw [OpenClaim.pre_eq_preRow]; exact lifted os started H enc F)

theorem plain (f : FuncId) (fn : Func) (hf : Tryz.pinned.checked.prog.funcNamed Rows.gatewayKnownRow.func = some f) (hfn : Tryz.pinned.checked.prog.funcs[f]? = some fn) :
    true = Tryz.pinned.checked.prog.looks [] ∧ ∀ (j : Nat) t, fn.params[j]? = some t → Tryz.pinned.checked.prog.wantsStandIn t = false := by
  obtain rfl : f = 9 := Option.some.inj ((show Tryz.prog.funcNamed Rows.gatewayKnownRow.func = some 9 by kernel_rfl).symm.trans hf) |>.symm
  obtain rfl : fn = Tryz.f9 := (Option.some.inj (Tryz.func9.symm.trans hfn)).symm
  refine ⟨by kernel_rfl, fun j t ht => ?_⟩
  rw [Tryz.params9] at ht
  simp at ht

theorem proved : Rows.GatewayKnownCardSaid :=
  Claim7.holds_tied_plain_at .later [] _ _ _ _ QhQ (fun _ h => by cases h) (by kernel_rfl) (fun _ h => by cases h) gatewayKnown_row_tie rfl ⟨rfl, rfl⟩ (by kernel_rfl) rfl plain (QTe QhL rfl)

end Go.Proofs.YthbhbkjkclhkgaaGreatDoor.known
