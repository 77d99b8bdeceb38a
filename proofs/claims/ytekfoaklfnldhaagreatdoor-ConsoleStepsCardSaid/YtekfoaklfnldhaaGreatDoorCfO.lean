/-
  Calls of function values that were loaded; contracts of the library's functions, as the kit proves them, brought into these rules.
-/
import Derived.Test.YtekfoaklfnldhaaGreatDoorCfN
namespace Go.Cf
open Go
set_option linter.unusedVariables false

/-- A call of a function value that was loaded; it has no result. -/
def XDyn0 (P : Program) (v : Value) (args : List Value) (K : WP) : WP :=
  match callee [] (.value (.const v)) with
  | some (g, first, cap) => bif hasBody P g then XCall P g (first ++ args ++ cap) (.tup []) [] K else bad
  | none => match yieldee [] (.value (.const v)) with
    | some (l, first) => bad
    | none => bad

/-- The same, with one result. -/
def XDyn1 (P : Program) (v : Value) (args : List Value) (s : Sh) (K : s.ty → WP) : WP :=
  match callee [] (.value (.const v)) with
  | some (g, first, cap) => bif hasBody P g then XCall P g (first ++ args ++ cap) .one [s] K else XExt P g (first ++ args ++ cap) s K
  | none => match yieldee [] (.value (.const v)) with
    | some (l, first) => (match s, K with
      | .bool, K => XYield P l (first ++ args) K
      | _, _ => bad)
    | none => bad

variable {B : Base} {As F : List HP}

theorem xdyn {P : Program} {g : FuncId} {first cap : Array Value} {args : List Value} {K : WP} (hb : hasBody P g = true)
    (h : Ent B As (XCall P g (first.toList ++ args ++ cap.toList) (.tup []) [] K)) : Ent B As (XDyn0 P (.func (.func g) first cap) args K) := by
  intro w hw
  show (bif hasBody P g then XCall P g (first.toList ++ args ++ cap.toList) (.tup []) [] K else bad) w
  rw [hb]; exact h w hw

theorem xdyn1 {P : Program} {g : FuncId} {first cap : Array Value} {args : List Value} {s : Sh} {K : s.ty → WP} (hb : hasBody P g = true)
    (h : Ent B As (XCall P g (first.toList ++ args ++ cap.toList) .one [s] K)) : Ent B As (XDyn1 P (.func (.func g) first cap) args s K) := by
  intro w hw
  show (bif hasBody P g then XCall P g (first.toList ++ args ++ cap.toList) .one [s] K else XExt P g (first.toList ++ args ++ cap.toList) s K) w
  rw [hb]; exact h w hw

end Go.Cf
