/-
  The framework.
-/
import Derived.Test.YtffoldlhonbafaaGreatDoorA3
import Derived.Test.YtffoldlhonbafaaGreatDoorA4

