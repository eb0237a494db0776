import Derived.Test.YtpndehigidcchaaGreatDoorSeatF
import Derived.Test.YtpndehigidcchaaGreatDoorOrE
import Derived.Shelf.Vars
set_option linter.all false
set_option linter.unusedVariables false
set_option maxRecDepth 100000
namespace T
open Go Go.Aes Go.Proofs Go.Shelf Go.Lib
open Go.Proofs.YtpndehigidcchaaGreatDoor in
theorem tb4_of {W : World} (h3 : Tb3 W.heap.size W) (hS : W.ShapedOpen Tryz.checked.prog) : Tb4 W.heap.size W :=
  ⟨h3, cell_of_shapedOpen_int (g := 0) (t := 3) (zero := #[.int .i64 0]) (k := .i64) hS (by decide +kernel) (by kernel_rfl) rfl (by kernel_rfl) (by kernel_rfl) Tryz.underlying3⟩
end T
