import Derived.Test.YtocngckbmjfddaaRbC
set_option linter.all false
set_option linter.unusedVariables false
set_option linter.unusedSimpArgs false
set_option maxRecDepth 100000
namespace T
open Go Go.Aes Go.Proofs
theorem cg_12_0 (a b : Int) : okT (cgR a b 12 0) = true := by kernel_rfl
theorem cg_12_1 (a b : Int) : okT (cgR a b 12 1) = true := by kernel_rfl
theorem cg_12_2 (a b : Int) : okT (cgR a b 12 2) = true := by kernel_rfl
theorem cg_13_0 (a b : Int) : okT (cgR a b 13 0) = true := by kernel_rfl
theorem cg_13_1 (a b : Int) : okT (cgR a b 13 1) = true := by kernel_rfl
theorem cg_13_2 (a b : Int) : okT (cgR a b 13 2) = true := by kernel_rfl
end T
