/- umbrella -/
import Derived.Test.YtjbdnbnfjnahlaaGreatDoorLitRd2
set_option linter.all false

