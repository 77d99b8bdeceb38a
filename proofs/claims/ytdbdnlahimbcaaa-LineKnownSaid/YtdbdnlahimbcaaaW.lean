/- The framework. -/
import Derived.Test.YtdbdnlahimbcaaaCfV
