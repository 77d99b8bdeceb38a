/- All formulas of this seat's functions. -/
import Derived.Test.YtcddiaiemlkmaaaF
import Derived.Test.YtcddiaiemlkmaaaFB
import Derived.Test.YtcddiaiemlkmaaaFC
import Derived.Test.YtcddiaiemlkmaaaFK1
import Derived.Test.YtcddiaiemlkmaaaCfN
