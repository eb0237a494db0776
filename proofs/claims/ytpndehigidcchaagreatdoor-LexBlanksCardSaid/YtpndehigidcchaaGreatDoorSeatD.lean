import Derived.Test.YtpndehigidcchaaGreatDoorOrC
import Derived.Test.YtpndehigidcchaaGreatDoorS9
import Derived.Test.YtpndehigidcchaaGreatDoorRows
import Derived.Lib.LaidIn
import Derived.Lib.LaidU8T
import Derived.Deep.DeepHandedRow
import Derived.Deep.DeepWitnessRowRef
import Derived.ProofKit
set_option linter.all false
set_option linter.unusedVariables false
set_option maxRecDepth 100000
namespace T
open Go Go.Aes Go.Proofs Go.Shelf Go.Lib
theorem own : ownKnob Tryz.prog.godebug = none := by kernel_rfl
theorem laid : laidOutB Tryz.prog = true := by kernel_rfl
theorem rr3 : Tryz.prog.readableRec 3 = true ∧ 3 < Tryz.prog.types.size := ⟨by kernel_rfl, by decide +kernel⟩
theorem rr9 : Tryz.prog.readableRec 9 = true ∧ 9 < Tryz.prog.types.size := ⟨by kernel_rfl, by decide +kernel⟩
noncomputable def laidWorld (os : Os) : World :=
  let w0 := World.holding Tryz.prog os ⟨#[], #[], []⟩
  let put (h : Array Obj) (g : Nat) (cs : Array Value) : Array Obj := h.modify g fun
    | .cells _ t frozen => .cells cs t frozen
    | o => o
  let h1 := put w0.heap 1 (Lib.firstTab.map fun z => Value.int .u8 z).toArray
  let h2 := put h1 2 ((List.range 16).flatMap fun i => [Value.int .u8 (Lib.accLo i), Value.int .u8 (Lib.accHi i)]).toArray
  { w0 with heap := h2 }
open Go.Proofs.YtpndehigidcchaaGreatDoor in
theorem tb_of {W : World} {l : List (String × DataW Unit)} (hL : laidMet Tryz.prog l W) (h1 : ("unicode/utf8.first", Rows.laid_unicode_utf8_first) ∈ l) (h2 : ("unicode/utf8.acceptRanges", Rows.laid_unicode_utf8_acceptRanges) ∈ l) : Tb W.heap.size W := by
  have h3 : VarReads Tryz.prog W "unicode/utf8.first" firstData := Lib.laidMet.reads hL h1
  have h4 : VarReads Tryz.prog W "unicode/utf8.acceptRanges" acceptData := Lib.laidMet.reads hL h2
  have h5 : Lib.Utf8Tabs 1 2 W := utf8Tabs_of_readsT (U8Types.of196 Tryz.laysValid) ⟨by kernel_rfl, by kernel_rfl, by kernel_rfl, by kernel_rfl, by kernel_rfl, by kernel_rfl, by kernel_rfl⟩ h3 h4
  exact ⟨h5, World.block_lt_of_cell? W _ (h5.2 0 (by omega)).1⟩
end T
