/- The framework. -/
import Derived.Test.YtbdmjjeigbhidaaCfI
