import Derived.Test.YtocngckbmjfddaaRbC
set_option linter.all false
set_option linter.unusedVariables false
set_option linter.unusedSimpArgs false
set_option maxRecDepth 100000
namespace T
open Go Go.Aes Go.Proofs
theorem cg_0_0 (a b : Int) : okT (cgR a b 0 0) = true := by kernel_rfl
theorem cg_0_1 (a b : Int) : okT (cgR a b 0 1) = true := by kernel_rfl
theorem cg_0_2 (a b : Int) : okT (cgR a b 0 2) = true := by kernel_rfl
theorem cg_1_0 (a b : Int) : okT (cgR a b 1 0) = true := by kernel_rfl
theorem cg_1_1 (a b : Int) : okT (cgR a b 1 1) = true := by kernel_rfl
theorem cg_1_2 (a b : Int) : okT (cgR a b 1 2) = true := by kernel_rfl
theorem cg_2_0 (a b : Int) : okT (cgR a b 2 0) = true := by kernel_rfl
theorem cg_2_1 (a b : Int) : okT (cgR a b 2 1) = true := by kernel_rfl
theorem cg_2_2 (a b : Int) : okT (cgR a b 2 2) = true := by kernel_rfl
theorem cg_3_0 (a b : Int) : okT (cgR a b 3 0) = true := by kernel_rfl
theorem cg_3_1 (a b : Int) : okT (cgR a b 3 1) = true := by kernel_rfl
theorem cg_3_2 (a b : Int) : okT (cgR a b 3 2) = true := by kernel_rfl
theorem cg_4_0 (a b : Int) : okT (cgR a b 4 0) = true := by kernel_rfl
theorem cg_4_1 (a b : Int) : okT (cgR a b 4 1) = true := by kernel_rfl
theorem cg_4_2 (a b : Int) : okT (cgR a b 4 2) = true := by kernel_rfl
theorem cg_5_0 (a b : Int) : okT (cgR a b 5 0) = true := by kernel_rfl
theorem cg_5_1 (a b : Int) : okT (cgR a b 5 1) = true := by kernel_rfl
theorem cg_5_2 (a b : Int) : okT (cgR a b 5 2) = true := by kernel_rfl
end T
