/-
  All formulas; the plain laws.
-/
import Derived.Test.YtifochbabgjhpaaGreatDoorF
import Derived.Test.YtifochbabgjhpaaGreatDoorFB
import Derived.Test.YtifochbabgjhpaaGreatDoorFC
import Derived.Test.YtifochbabgjhpaaGreatDoorFD
import Derived.Test.YtifochbabgjhpaaGreatDoorFE
import Derived.Test.YtifochbabgjhpaaGreatDoorFF
import Derived.Test.YtifochbabgjhpaaGreatDoorCgE
import Derived.Test.YtifochbabgjhpaaGreatDoorCfN
import Derived.Test.YtifochbabgjhpaaGreatDoorCfO
