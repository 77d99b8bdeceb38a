/-
  All formulas; the plain laws.
-/
import Derived.Test.YtffoldlhonbafaaDoorF
import Derived.Test.YtffoldlhonbafaaDoorCgE
