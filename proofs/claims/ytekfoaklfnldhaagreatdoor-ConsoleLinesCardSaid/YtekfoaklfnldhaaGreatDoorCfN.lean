/-
  A long function's formula, part by part.
-/
import Derived.Test.YtekfoaklfnldhaaGreatDoorCfM
namespace Go.Cf
open Go
set_option linter.unusedVariables false

def seqs : Code → List Code
  | .seq a b => seqs a ++ seqs b
  | c => [c]

def wpLs (P : Program) (N : Nat) (dp : List Nat) (dr : List Oper → Env → (Env → WP) → WP) : List Code → Env → (Env → WP) → List (Nat × (Env → WP)) → (Env → WP) → WP
  | [], ρ, KN, _, _ => KN ρ
  | c :: cs, ρ, KN, KX, KR => wpC P N dp dr c ρ (fun ρ' => wpLs P N dp dr cs ρ' KN KX KR) KX KR

theorem wpLs_app (P : Program) (N : Nat) (dp : List Nat) (dr : List Oper → Env → (Env → WP) → WP) : ∀ (xs ys : List Code) (ρ : Env) (KN : Env → WP) (KX : List (Nat × (Env → WP))) (KR : Env → WP),
    wpLs P N dp dr (xs ++ ys) ρ KN KX KR = wpLs P N dp dr xs ρ (fun ρ' => wpLs P N dp dr ys ρ' KN KX KR) KX KR
  | [], _, _, _, _, _ => rfl
  | c :: cs, ys, ρ, KN, KX, KR => by
    show wpC P N dp dr c ρ (fun ρ' => wpLs P N dp dr (cs ++ ys) ρ' KN KX KR) KX KR = wpC P N dp dr c ρ (fun ρ' => wpLs P N dp dr cs ρ' (fun ρ' => wpLs P N dp dr ys ρ' KN KX KR) KX KR) KX KR
    congr 1
    funext ρ'
    exact wpLs_app P N dp dr cs ys ρ' KN KX KR

theorem wpC_seqs (P : Program) (N : Nat) (dp : List Nat) (dr : List Oper → Env → (Env → WP) → WP) (c : Code) : ∀ (ρ : Env) (KN : Env → WP) (KX : List (Nat × (Env → WP))) (KR : Env → WP),
    wpC P N dp dr c ρ KN KX KR = wpLs P N dp dr (seqs c) ρ KN KX KR := by
  induction c with
  | seq a b iha ihb =>
    intro ρ KN KX KR
    show wpC P N dp dr a ρ (fun ρ' => wpC P N dp dr b ρ' KN KX KR) KX KR = wpLs P N dp dr (seqs a ++ seqs b) ρ KN KX KR
    rw [wpLs_app, iha]
    congr 1
    funext ρ'
    exact ihb ρ' KN KX KR
  | _ => intro ρ KN KX KR; rfl

/-- What a function's results are. -/
def wpRet (P : Program) (fn : Func) (ss : List Sh) (R : Cur ss) : Env → WP := fun ρ => wpRes P (fn.results.toList.zip fn.resultTypes.toList) ρ [] fun vs => Cur.appV ss R vs

/-- The parts of a function's text from one place on, so many. -/
def partC (fn : Func) (k n : Nat) : List Code := match fn.body with
  | some c => ((seqs c).drop k).take n
  | none => []
def restC (fn : Func) (k : Nat) : List Code := match fn.body with
  | some c => (seqs c).drop k
  | none => []

/-- The rest of a function. -/
def wpRest (P : Program) (fn : Func) (dp : List Nat) (ss : List Sh) (R : Cur ss) (k : Nat) (ρ : Env) : WP :=
  wpLs P fn.ntmps dp (wpDr P fn fn.ntmps) (restC fn k) ρ (wpRet P fn ss R) [] (wpRet P fn ss R)

theorem rest_part {P : Program} {fn : Func} {dp : List Nat} {ss : List Sh} {R : Cur ss} {k n : Nat} {ρ : Env} :
    wpRest P fn dp ss R k ρ = wpLs P fn.ntmps dp (wpDr P fn fn.ntmps) (partC fn k n) ρ (wpRest P fn dp ss R (k + n)) [] (wpRet P fn ss R) := by
  have e : restC fn k = partC fn k n ++ restC fn (k + n) := by
    unfold restC partC
    cases fn.body with
    | none => rfl
    | some c =>
      show (seqs c).drop k = ((seqs c).drop k).take n ++ (seqs c).drop (k + n)
      rw [← List.drop_drop, List.take_append_drop]
  unfold wpRest
  rw [e, wpLs_app]

theorem xcall_cut {P : Program} (hng : NoGor P) (hm : P.follows .mixedOrders = true) {f : FuncId} {fn : Func} (hf : P.funcs[f]? = some fn) {dp : List Nat} {args : List Value} {rs : Rs} {ss : List Sh}
    (hrs : rsOfTypes P fn.resultTypes.toList = (rs, ss)) (hok : (fn.body.isSome && (Nat.beq fn.results.toList.length fn.resultTypes.toList.length && Nat.ble args.length fn.ntmps)) = true) {K : Cur ss} {w : World} (h : wpRest P fn dp ss K 0 (argsE args 0) w) : XCall P f args rs ss K w := by
  refine xcall_of (dp := dp) hng hm hf hrs ?_
  unfold wpF
  cases hb : fn.body with
  | none => rw [hb] at hok; simp at hok
  | some c =>
    rw [hb] at hok
    simp only [Option.isSome_some, Bool.true_and] at hok
    simp only [hok, cond_true]
    rw [wpC_seqs]
    unfold wpRest restC at h
    rw [hb] at h
    exact h

variable {B : Base} {As : List HP}
theorem xeq {φ ψ : WP} (e : φ = ψ) (h : Ent B As ψ) : Ent B As φ := by rw [e]; exact h

end Go.Cf
