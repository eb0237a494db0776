import Derived.Test.YtnmljkjdflfdoaaDoorOrX1
import Derived.Test.YtnmljkjdflfdoaaDoorCevRd
set_option linter.all false
set_option linter.unusedVariables false
set_option linter.unusedSimpArgs false
set_option maxRecDepth 100000
namespace T
open Go Go.Aes Go.Proofs

def OD2 (g : Nat) : Bool := OD g
def OF2 : CallF := OF
theorem OF2_ok (B : Nat) (W : World) (ht : Tb B W) : CallOk Tryd.prog B W OF2 := OF_ok B W ht
end T
