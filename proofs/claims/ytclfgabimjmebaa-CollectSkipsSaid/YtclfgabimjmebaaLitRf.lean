/- umbrella -/
import Derived.Test.YtclfgabimjmebaaLitRf2
set_option linter.all false

