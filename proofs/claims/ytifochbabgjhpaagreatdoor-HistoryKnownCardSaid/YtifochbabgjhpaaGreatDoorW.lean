/-

-/
import Derived.Test.YtifochbabgjhpaaGreatDoorA3
import Derived.Test.YtifochbabgjhpaaGreatDoorA4

