import Derived.Test.YtclfgabimjmebaaTabRf
import Derived.Test.YtclfgabimjmebaaS9
set_option linter.all false
namespace T
open Go Go.Aes Go.Proofs
theorem own : ownKnob Try.prog.godebug = none := by kernel_rfl
theorem laid : laidOutB Try.prog = true := by kernel_rfl
theorem rr3 : Try.prog.readableRec 3 = true ∧ 3 < Try.prog.types.size := ⟨by kernel_rfl, by decide +kernel⟩
theorem rr4 : Try.prog.readableRec 4 = true ∧ 4 < Try.prog.types.size := ⟨by kernel_rfl, by decide +kernel⟩
end T
