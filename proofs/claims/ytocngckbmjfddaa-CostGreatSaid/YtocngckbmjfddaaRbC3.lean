import Derived.Test.YtocngckbmjfddaaRbC
set_option linter.all false
set_option linter.unusedVariables false
set_option linter.unusedSimpArgs false
set_option maxRecDepth 100000
namespace T
open Go Go.Aes Go.Proofs
theorem cg_10_0 (a b : Int) : okT (cgR a b 10 0) = true := by kernel_rfl
theorem cg_10_1 (a b : Int) : okT (cgR a b 10 1) = true := by kernel_rfl
theorem cg_10_2 (a b : Int) : okT (cgR a b 10 2) = true := by kernel_rfl
theorem cg_11_0 (a b : Int) : okT (cgR a b 11 0) = true := by kernel_rfl
theorem cg_11_1 (a b : Int) : okT (cgR a b 11 1) = true := by kernel_rfl
theorem cg_11_2 (a b : Int) : okT (cgR a b 11 2) = true := by kernel_rfl
end T
