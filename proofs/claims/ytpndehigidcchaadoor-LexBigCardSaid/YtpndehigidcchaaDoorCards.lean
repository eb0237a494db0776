/-
  DERIVED. GIVEN WITH THE SEED: THE CARDS: each row of YtpndehigidcchaaDoorRows.lean that lists a variable, with what it lists TIED to the program's text (the seventh form; the later family's looks); each row that meets fmt, with fmt's text TOLD by the authors' own Lean function (tested against real Go, not proved from fmt's source: count such statements apart). THE CARD IS WHAT COUNTS. Prove the row's statement (the work); the ties are given (YtpndehigidcchaaDoorTie.lean); close each card by the builder's one call (the guide's Derived/Test/ToyasCard.lean, 'card_holds'). Laid BY PROGRAM, IN A SANDBOX (cutbox-door.mjs). By AI agents, Wed Nov 11 2026. No macro, syntax, notation, axiom, sorry.
-/
import Derived.Test.YtpndehigidcchaaDoorRows
import GoSem.ClaimSeven
namespace Go.Proofs.YtpndehigidcchaaDoor
namespace Rows

/-- THE TIED CARD OF 'refectorylaw04.LexTexts'. -/
def lexTextsCard : Claim7 := { stood := { row := lexTextsRow, standIns := [], harness := (true, "29524de77d1e4a312e9f15cb4f86e83b58a4cd500189393ebc8028cf80d39d36"), looks := false }, kinds := [], alts := [], laidByText := true, laidKinds := [.data, .pinned, .pinned], laidTests := true, laidLooks := .later }
def LexTextsCardSaid : Prop := Claim7.holds Tryd.pinned (.plain (OpenSpec.ofChange lexTextsSpec)) lexTextsCard

/-- THE TIED CARD OF 'refectorylaw04.LexWrong'. -/
def lexWrongCard : Claim7 := { stood := { row := lexWrongRow, standIns := [], harness := (true, "29524de77d1e4a312e9f15cb4f86e83b58a4cd500189393ebc8028cf80d39d36"), looks := false }, kinds := [], alts := [], laidByText := true, laidKinds := [.data, .pinned, .pinned], laidTests := true, laidLooks := .later }
def LexWrongCardSaid : Prop := Claim7.holds Tryd.pinned (.plain (OpenSpec.ofChange lexWrongSpec)) lexWrongCard

/-- THE TIED CARD OF 'refectorylaw04.LexBig'. -/
def lexBigCard : Claim7 := { stood := { row := lexBigRow, standIns := [], harness := (true, "29524de77d1e4a312e9f15cb4f86e83b58a4cd500189393ebc8028cf80d39d36"), looks := false }, kinds := [], alts := [], laidByText := true, laidKinds := [.data, .pinned, .pinned], laidTests := true, laidLooks := .later }
def LexBigCardSaid : Prop := Claim7.holds Tryd.pinned (.plain (OpenSpec.ofChange lexBigSpec)) lexBigCard

/-- THE TIED CARD OF 'refectorylaw04.LexRemarks'. -/
def lexRemarksCard : Claim7 := { stood := { row := lexRemarksRow, standIns := [], harness := (true, "29524de77d1e4a312e9f15cb4f86e83b58a4cd500189393ebc8028cf80d39d36"), looks := false }, kinds := [], alts := [], laidByText := true, laidKinds := [.data, .pinned, .pinned], laidTests := true, laidLooks := .later }
def LexRemarksCardSaid : Prop := Claim7.holds Tryd.pinned (.plain (OpenSpec.ofChange lexRemarksSpec)) lexRemarksCard

/-- THE SECOND FORM's CARD OF 'refectorylaw04.LexTexts'. -/
def lexTextsUptoCard : Claim7 := { stood := { row := lexTextsUptoRow, standIns := [], harness := (true, "29524de77d1e4a312e9f15cb4f86e83b58a4cd500189393ebc8028cf80d39d36"), looks := false }, kinds := [], alts := [], laidByText := true, laidKinds := [.data, .pinned, .pinned], laidTests := true, laidLooks := .later }
def LexTextsUptoCardSaid : Prop := Claim7.holds Tryd.pinned (.plain (OpenSpec.upto lexTextsSpec)) lexTextsUptoCard

/-- THE SECOND FORM's CARD OF 'refectorylaw04.LexWrong'. -/
def lexWrongUptoCard : Claim7 := { stood := { row := lexWrongUptoRow, standIns := [], harness := (true, "29524de77d1e4a312e9f15cb4f86e83b58a4cd500189393ebc8028cf80d39d36"), looks := false }, kinds := [], alts := [], laidByText := true, laidKinds := [.data, .pinned, .pinned], laidTests := true, laidLooks := .later }
def LexWrongUptoCardSaid : Prop := Claim7.holds Tryd.pinned (.plain (OpenSpec.upto lexWrongSpec)) lexWrongUptoCard

/-- THE SECOND FORM's CARD OF 'refectorylaw04.LexBig'. -/
def lexBigUptoCard : Claim7 := { stood := { row := lexBigUptoRow, standIns := [], harness := (true, "29524de77d1e4a312e9f15cb4f86e83b58a4cd500189393ebc8028cf80d39d36"), looks := false }, kinds := [], alts := [], laidByText := true, laidKinds := [.data, .pinned, .pinned], laidTests := true, laidLooks := .later }
def LexBigUptoCardSaid : Prop := Claim7.holds Tryd.pinned (.plain (OpenSpec.upto lexBigSpec)) lexBigUptoCard

/-- THE SECOND FORM's CARD OF 'refectorylaw04.LexRemarks'. -/
def lexRemarksUptoCard : Claim7 := { stood := { row := lexRemarksUptoRow, standIns := [], harness := (true, "29524de77d1e4a312e9f15cb4f86e83b58a4cd500189393ebc8028cf80d39d36"), looks := false }, kinds := [], alts := [], laidByText := true, laidKinds := [.data, .pinned, .pinned], laidTests := true, laidLooks := .later }
def LexRemarksUptoCardSaid : Prop := Claim7.holds Tryd.pinned (.plain (OpenSpec.upto lexRemarksSpec)) lexRemarksUptoCard
end Rows
end Go.Proofs.YtpndehigidcchaaDoor
