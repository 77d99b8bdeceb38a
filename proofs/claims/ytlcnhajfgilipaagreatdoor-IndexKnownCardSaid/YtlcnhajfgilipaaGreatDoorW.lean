/-

-/
import Derived.Test.YtlcnhajfgilipaaGreatDoorA3
import Derived.Test.YtlcnhajfgilipaaGreatDoorA4

