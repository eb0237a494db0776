/-
  DERIVED. GIVEN WITH THE SEED: THE CARDS: each row of YtjbdnbnfjnahlaaGreatDoorRows.lean that lists a variable, with what it lists TIED to the program's text (the seventh form; the later family's looks); each row that meets fmt, with fmt's text TOLD by the authors' own Lean function (tested against real Go, not proved from fmt's source: count such statements apart). THE CARD IS WHAT COUNTS. Prove the row's statement (the work); the ties are given (YtjbdnbnfjnahlaaGreatDoorTie.lean); close each card by the builder's one call (the guide's Derived/Test/ToyasCard.lean, 'card_holds'). Laid BY PROGRAM, IN A SANDBOX (cutbox-door.mjs). By AI agents, Wed Nov 11 2026. No macro, syntax, notation, axiom, sorry.
-/
import Derived.Test.YtjbdnbnfjnahlaaGreatDoorRows
import GoSem.ClaimSeven
namespace Go.Proofs.YtjbdnbnfjnahlaaGreatDoor
namespace Rows

/-- THE TIED CARD OF 'refectorylaw09.SchemaOrder'. -/
def schemaOrderCard : Claim7 := { stood := { row := schemaOrderRow, standIns := [], harness := (true, "8ef8eb17e0d8a2106defa590c6ebf3d23ea7ce8d6055747ad3bb1d9de68c1285"), looks := false }, kinds := [], alts := [], laidByText := true, laidKinds := [.data, .pinned], laidTests := true, laidLooks := .later }
def SchemaOrderCardSaid : Prop := Claim7.holds Tryz.pinned (.plain (OpenSpec.ofChange schemaOrderSpec)) schemaOrderCard

/-- THE TIED CARD OF 'refectorylaw09.SchemaAll'. -/
def schemaAllCard : Claim7 := { stood := { row := schemaAllRow, standIns := [], harness := (true, "8ef8eb17e0d8a2106defa590c6ebf3d23ea7ce8d6055747ad3bb1d9de68c1285"), looks := false }, kinds := [], alts := [], laidByText := true, laidKinds := [.data, .pinned], laidTests := true, laidLooks := .later }
def SchemaAllCardSaid : Prop := Claim7.holds Tryz.pinned (.plain (OpenSpec.ofChange schemaAllSpec)) schemaAllCard

/-- THE TIED CARD OF 'refectorylaw09.SchemaNumbers'. -/
def schemaNumbersCard : Claim7 := { stood := { row := schemaNumbersRow, standIns := [], harness := (true, "8ef8eb17e0d8a2106defa590c6ebf3d23ea7ce8d6055747ad3bb1d9de68c1285"), looks := false }, kinds := [], alts := [], laidByText := true, laidKinds := [.data, .pinned], laidTests := true, laidLooks := .later }
def SchemaNumbersCardSaid : Prop := Claim7.holds Tryz.pinned (.plain (OpenSpec.ofChange schemaNumbersSpec)) schemaNumbersCard

/-- THE SECOND FORM's CARD OF 'refectorylaw09.SchemaOrder'. -/
def schemaOrderUptoCard : Claim7 := { stood := { row := schemaOrderUptoRow, standIns := [], harness := (true, "8ef8eb17e0d8a2106defa590c6ebf3d23ea7ce8d6055747ad3bb1d9de68c1285"), looks := false }, kinds := [], alts := [], laidByText := true, laidKinds := [.data, .pinned], laidTests := true, laidLooks := .later }
def SchemaOrderUptoCardSaid : Prop := Claim7.holds Tryz.pinned (.plain (OpenSpec.upto schemaOrderSpec)) schemaOrderUptoCard

/-- THE SECOND FORM's CARD OF 'refectorylaw09.SchemaAll'. -/
def schemaAllUptoCard : Claim7 := { stood := { row := schemaAllUptoRow, standIns := [], harness := (true, "8ef8eb17e0d8a2106defa590c6ebf3d23ea7ce8d6055747ad3bb1d9de68c1285"), looks := false }, kinds := [], alts := [], laidByText := true, laidKinds := [.data, .pinned], laidTests := true, laidLooks := .later }
def SchemaAllUptoCardSaid : Prop := Claim7.holds Tryz.pinned (.plain (OpenSpec.upto schemaAllSpec)) schemaAllUptoCard

/-- THE SECOND FORM's CARD OF 'refectorylaw09.SchemaNumbers'. -/
def schemaNumbersUptoCard : Claim7 := { stood := { row := schemaNumbersUptoRow, standIns := [], harness := (true, "8ef8eb17e0d8a2106defa590c6ebf3d23ea7ce8d6055747ad3bb1d9de68c1285"), looks := false }, kinds := [], alts := [], laidByText := true, laidKinds := [.data, .pinned], laidTests := true, laidLooks := .later }
def SchemaNumbersUptoCardSaid : Prop := Claim7.holds Tryz.pinned (.plain (OpenSpec.upto schemaNumbersSpec)) schemaNumbersUptoCard
end Rows
end Go.Proofs.YtjbdnbnfjnahlaaGreatDoor
