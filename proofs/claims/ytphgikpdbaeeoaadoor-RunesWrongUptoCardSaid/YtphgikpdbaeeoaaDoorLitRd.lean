/- umbrella -/
import Derived.Test.YtphgikpdbaeeoaaDoorLitRd2
set_option linter.all false

