import Derived.Test.YtphgikpdbaeeoaaDoorOrX1
import Derived.Test.YtphgikpdbaeeoaaDoorCevRd
set_option linter.all false
set_option linter.unusedVariables false
set_option linter.unusedSimpArgs false
set_option maxRecDepth 100000
namespace T
open Go Go.Aes Go.Proofs

/-! ### the documents' examples: computed -/
theorem awk14 : PEntT Tryd.prog Tb 14 [] (.bool true) := PEntT.comp prOk tbOk OF_ok cTabs (n := 30) ⟨_, Tryd.func14, by kernel_rfl, by kernel_rfl⟩ rfl rfl (by kernel_rfl)
theorem awk28 : PEntT Tryd.prog Tb 28 [] (.bool true) := PEntT.comp prOk tbOk OF_ok cTabs (n := 30) ⟨_, Tryd.func28, by kernel_rfl, by kernel_rfl⟩ rfl rfl (by kernel_rfl)

noncomputable def tbE : List Ent := [⟨14, [], .bool true⟩, ⟨28, [], .bool true⟩]
theorem tbE_ok : ∀ e ∈ tbE, PEntT Tryd.prog Tb e.g e.as e.v := by
  intro e h
  rcases List.mem_cons.1 h with rfl | h
  · exact awk14
  · rcases List.mem_cons.1 h with rfl | h
    · exact awk28
    · cases h

def OE (g : Nat) : Bool := g.beq 14 || g.beq 28
def OD2 (g : Nat) : Bool := OE g || OD g
noncomputable def OF2 : CallF := orO OE (tabO tbE) OF
theorem OF2_ok (B : Nat) (W : World) (ht : Tb B W) : CallOk Tryd.prog B W OF2 := orO_ok (tabO_okT ht tbE tbE_ok) (OF_ok B W ht)
end T
