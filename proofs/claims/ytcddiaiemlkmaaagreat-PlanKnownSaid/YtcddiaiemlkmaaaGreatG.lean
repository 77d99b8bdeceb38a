/- All formulas of this seat's functions. -/
import Derived.Test.YtcddiaiemlkmaaaGreatF
import Derived.Test.YtcddiaiemlkmaaaGreatFB
import Derived.Test.YtcddiaiemlkmaaaGreatFC
import Derived.Test.YtcddiaiemlkmaaaGreatFD
import Derived.Test.YtcddiaiemlkmaaaGreatFK1
import Derived.Test.YtcddiaiemlkmaaaGreatCfN
