/-
  DERIVED. GIVEN WITH THE SEED: THE CARDS: each row of YtnmljkjdflfdoaaDoorRows.lean that lists a variable, with what it lists TIED to the program's text (the seventh form; the later family's looks); each row that meets fmt, with fmt's text TOLD by the authors' own Lean function (tested against real Go, not proved from fmt's source: count such statements apart). THE CARD IS WHAT COUNTS. Prove the row's statement (the work); the ties are given (YtnmljkjdflfdoaaDoorTie.lean); close each card by the builder's one call (the guide's Derived/Test/ToyasCard.lean, 'card_holds'). Laid BY PROGRAM, IN A SANDBOX (cutbox-door.mjs). By AI agents, Wed Nov 11 2026. No macro, syntax, notation, axiom, sorry.
-/
import Derived.Test.YtnmljkjdflfdoaaDoorRows
import GoSem.ClaimSeven
namespace Go.Proofs.YtnmljkjdflfdoaaDoor
namespace Rows

/-- THE TIED CARD OF 'refectorylaw03.JreadAll'. -/
def jreadAllCard : Claim7 := { stood := { row := jreadAllRow, standIns := [], harness := (true, "55601719daceac3d47ba785c1b9fcd3d8aad8d75aea5f55d2a43464f8f3b176b"), looks := true }, kinds := [], alts := [], laidByText := true, laidKinds := [.data, .pinned, .pinned], laidTests := true, laidLooks := .later }
def JreadAllCardSaid : Prop := Claim7.holds Tryd.pinned (.plain (OpenSpec.ofChange jreadAllSpec)) jreadAllCard

/-- THE TIED CARD OF 'refectorylaw03.JreadBack'. -/
def jreadBackCard : Claim7 := { stood := { row := jreadBackRow, standIns := [], harness := (true, "55601719daceac3d47ba785c1b9fcd3d8aad8d75aea5f55d2a43464f8f3b176b"), looks := true }, kinds := [], alts := [], laidByText := true, laidKinds := [.data, .pinned, .pinned], laidTests := true, laidLooks := .later }
def JreadBackCardSaid : Prop := Claim7.holds Tryd.pinned (.plain (OpenSpec.ofChange jreadBackSpec)) jreadBackCard

/-- THE TIED CARD OF 'refectorylaw03.JreadDeep'. -/
def jreadDeepCard : Claim7 := { stood := { row := jreadDeepRow, standIns := [], harness := (true, "55601719daceac3d47ba785c1b9fcd3d8aad8d75aea5f55d2a43464f8f3b176b"), looks := true }, kinds := [], alts := [], laidByText := true, laidKinds := [.data, .pinned, .pinned], laidTests := true, laidLooks := .later }
def JreadDeepCardSaid : Prop := Claim7.holds Tryd.pinned (.plain (OpenSpec.ofChange jreadDeepSpec)) jreadDeepCard

/-- THE TIED CARD OF 'refectorylaw03.JreadNumbers'. -/
def jreadNumbersCard : Claim7 := { stood := { row := jreadNumbersRow, standIns := [], harness := (true, "55601719daceac3d47ba785c1b9fcd3d8aad8d75aea5f55d2a43464f8f3b176b"), looks := true }, kinds := [], alts := [], laidByText := true, laidKinds := [.data, .pinned, .pinned], laidTests := true, laidLooks := .later }
def JreadNumbersCardSaid : Prop := Claim7.holds Tryd.pinned (.plain (OpenSpec.ofChange jreadNumbersSpec)) jreadNumbersCard

/-- THE SECOND FORM's CARD OF 'refectorylaw03.JreadAll'. -/
def jreadAllUptoCard : Claim7 := { stood := { row := jreadAllUptoRow, standIns := [], harness := (true, "55601719daceac3d47ba785c1b9fcd3d8aad8d75aea5f55d2a43464f8f3b176b"), looks := true }, kinds := [], alts := [], laidByText := true, laidKinds := [.data, .pinned, .pinned], laidTests := true, laidLooks := .later }
def JreadAllUptoCardSaid : Prop := Claim7.holds Tryd.pinned (.plain (OpenSpec.upto jreadAllSpec)) jreadAllUptoCard

/-- THE SECOND FORM's CARD OF 'refectorylaw03.JreadBack'. -/
def jreadBackUptoCard : Claim7 := { stood := { row := jreadBackUptoRow, standIns := [], harness := (true, "55601719daceac3d47ba785c1b9fcd3d8aad8d75aea5f55d2a43464f8f3b176b"), looks := true }, kinds := [], alts := [], laidByText := true, laidKinds := [.data, .pinned, .pinned], laidTests := true, laidLooks := .later }
def JreadBackUptoCardSaid : Prop := Claim7.holds Tryd.pinned (.plain (OpenSpec.upto jreadBackSpec)) jreadBackUptoCard

/-- THE SECOND FORM's CARD OF 'refectorylaw03.JreadDeep'. -/
def jreadDeepUptoCard : Claim7 := { stood := { row := jreadDeepUptoRow, standIns := [], harness := (true, "55601719daceac3d47ba785c1b9fcd3d8aad8d75aea5f55d2a43464f8f3b176b"), looks := true }, kinds := [], alts := [], laidByText := true, laidKinds := [.data, .pinned, .pinned], laidTests := true, laidLooks := .later }
def JreadDeepUptoCardSaid : Prop := Claim7.holds Tryd.pinned (.plain (OpenSpec.upto jreadDeepSpec)) jreadDeepUptoCard

/-- THE SECOND FORM's CARD OF 'refectorylaw03.JreadNumbers'. -/
def jreadNumbersUptoCard : Claim7 := { stood := { row := jreadNumbersUptoRow, standIns := [], harness := (true, "55601719daceac3d47ba785c1b9fcd3d8aad8d75aea5f55d2a43464f8f3b176b"), looks := true }, kinds := [], alts := [], laidByText := true, laidKinds := [.data, .pinned, .pinned], laidTests := true, laidLooks := .later }
def JreadNumbersUptoCardSaid : Prop := Claim7.holds Tryd.pinned (.plain (OpenSpec.upto jreadNumbersSpec)) jreadNumbersUptoCard
end Rows
end Go.Proofs.YtnmljkjdflfdoaaDoor
