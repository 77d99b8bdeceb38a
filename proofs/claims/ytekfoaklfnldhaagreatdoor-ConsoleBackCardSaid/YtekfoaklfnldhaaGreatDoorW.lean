/-
  What this seat's texts lean on.
-/
import Derived.Test.YtekfoaklfnldhaaGreatDoorCfR
import Derived.Test.YtekfoaklfnldhaaGreatDoorCfQ
import Derived.Test.YtekfoaklfnldhaaGreatDoorCgA
