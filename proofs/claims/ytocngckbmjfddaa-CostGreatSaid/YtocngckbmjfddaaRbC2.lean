import Derived.Test.YtocngckbmjfddaaRbC
set_option linter.all false
set_option linter.unusedVariables false
set_option linter.unusedSimpArgs false
set_option maxRecDepth 100000
namespace T
open Go Go.Aes Go.Proofs
theorem cg_6_0 (a b : Int) : okT (cgR a b 6 0) = true := by kernel_rfl
theorem cg_6_1 (a b : Int) : okT (cgR a b 6 1) = true := by kernel_rfl
theorem cg_6_2 (a b : Int) : okT (cgR a b 6 2) = true := by kernel_rfl
theorem cg_7_0 (a b : Int) : okT (cgR a b 7 0) = true := by kernel_rfl
theorem cg_7_1 (a b : Int) : okT (cgR a b 7 1) = true := by kernel_rfl
theorem cg_7_2 (a b : Int) : okT (cgR a b 7 2) = true := by kernel_rfl
theorem cg_8_0 (a b : Int) : okT (cgR a b 8 0) = true := by kernel_rfl
theorem cg_8_1 (a b : Int) : okT (cgR a b 8 1) = true := by kernel_rfl
theorem cg_8_2 (a b : Int) : okT (cgR a b 8 2) = true := by kernel_rfl
theorem cg_9_0 (a b : Int) : okT (cgR a b 9 0) = true := by kernel_rfl
theorem cg_9_1 (a b : Int) : okT (cgR a b 9 1) = true := by kernel_rfl
theorem cg_9_2 (a b : Int) : okT (cgR a b 9 2) = true := by kernel_rfl
end T
