import Derived.Test.YtjbdnbnfjnahlaaGreatDoorOrB
import Derived.Test.YtjbdnbnfjnahlaaGreatDoorCevRd
set_option linter.all false
set_option linter.unusedVariables false
set_option linter.unusedSimpArgs false
set_option maxRecDepth 100000
namespace T
open Go Go.Aes Go.Proofs

noncomputable def CE0 (n : Nat) : CallF := cev OF (runT cT) n
end T
