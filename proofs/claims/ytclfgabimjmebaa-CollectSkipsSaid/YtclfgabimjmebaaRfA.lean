import Derived.Test.YtclfgabimjmebaaRfS
set_option linter.all false
set_option linter.unusedVariables false
set_option linter.unusedSimpArgs false
set_option maxRecDepth 100000
namespace T
open Go Go.Aes Go.Proofs

noncomputable def tb0 : List Ent := [⟨5, [.int .i64 1], schV⟩]
theorem tb0_ok : ∀ e ∈ tb0, PEnt Try.prog e.g e.as e.v := by
  intro e h
  rcases List.mem_cons.1 h with rfl | h
  · exact sch_ent
  · cases h
theorem aw8 : PEnt Try.prog 8 [] (.bool true) := comp2 (n := 100) (l := tb0) tb0_ok (by kernel_rfl) (by kernel_rfl) (by kernel_rfl)
end T
