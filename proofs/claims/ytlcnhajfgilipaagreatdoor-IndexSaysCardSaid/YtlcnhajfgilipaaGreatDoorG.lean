/-
  All formulas; the plain laws.
-/
import Derived.Test.YtlcnhajfgilipaaGreatDoorF
import Derived.Test.YtlcnhajfgilipaaGreatDoorFB
import Derived.Test.YtlcnhajfgilipaaGreatDoorFC
import Derived.Test.YtlcnhajfgilipaaGreatDoorFD
import Derived.Test.YtlcnhajfgilipaaGreatDoorCgE
import Derived.Test.YtlcnhajfgilipaaGreatDoorCfN
import Derived.Test.YtlcnhajfgilipaaGreatDoorCfO
