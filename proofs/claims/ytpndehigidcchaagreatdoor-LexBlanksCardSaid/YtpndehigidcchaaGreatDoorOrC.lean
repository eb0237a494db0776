import Derived.Test.YtpndehigidcchaaGreatDoorOrX1
import Derived.Test.YtpndehigidcchaaGreatDoorCevRd
set_option linter.all false
set_option linter.unusedVariables false
set_option linter.unusedSimpArgs false
set_option maxRecDepth 100000
namespace T
open Go Go.Aes Go.Proofs
theorem awk9 : PEntT Tryz.prog Tb 5 [] (.bool true) := PEntT.comp prOk tbOk OF_ok cTabs (n := 60) ⟨_, Tryz.func5, by kernel_rfl, by kernel_rfl⟩ rfl rfl (by kernel_rfl)
noncomputable def tbE : List Ent := [⟨5, [], .bool true⟩]
theorem tbE_ok : ∀ e ∈ tbE, PEntT Tryz.prog Tb e.g e.as e.v := by
  intro e h
  rcases List.mem_cons.1 h with rfl | h
  · exact awk9
  · cases h
def OE (g : Nat) : Bool := g.beq 5
def OD2 (g : Nat) : Bool := OE g || OD g
noncomputable def OF2 : CallF := orO OE (tabO tbE) OF
theorem OF2_ok (B : Nat) (W : World) (ht : Tb B W) : CallOk Tryz.prog B W OF2 := orO_ok (tabO_okT ht tbE tbE_ok) (OF_ok B W ht)
end T
