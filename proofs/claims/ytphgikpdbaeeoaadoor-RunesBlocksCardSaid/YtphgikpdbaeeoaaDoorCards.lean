/-
  DERIVED. GIVEN WITH THE SEED: THE CARDS: each row of YtphgikpdbaeeoaaDoorRows.lean that lists a variable, with what it lists TIED to the program's text (the seventh form; the later family's looks); each row that meets fmt, with fmt's text TOLD by the authors' own Lean function (tested against real Go, not proved from fmt's source: count such statements apart). THE CARD IS WHAT COUNTS. Prove the row's statement (the work); the ties are given (YtphgikpdbaeeoaaDoorTie.lean); close each card by the builder's one call (the guide's Derived/Test/ToyasCard.lean, 'card_holds'). Laid BY PROGRAM, IN A SANDBOX (cutbox-door.mjs). By AI agents, Wed Nov 11 2026. No macro, syntax, notation, axiom, sorry.
-/
import Derived.Test.YtphgikpdbaeeoaaDoorRows
import GoSem.ClaimSeven
namespace Go.Proofs.YtphgikpdbaeeoaaDoor
namespace Rows

/-- THE TIED CARD OF 'refectorylaw02.JvalAll'. -/
def jvalAllCard : Claim7 := { stood := { row := jvalAllRow, standIns := [], harness := (true, "7ceae8104338242a0862c510de4602586d9cac7f14a11461db18285eef56715f"), looks := false }, kinds := [], alts := [], laidByText := true, laidKinds := [.data, .pinned], laidTests := true, laidLooks := .later }
def JvalAllCardSaid : Prop := Claim7.holds Tryd.pinned (.plain (OpenSpec.ofChange jvalAllSpec)) jvalAllCard

/-- THE TIED CARD OF 'refectorylaw02.JvalNumbers'. -/
def jvalNumbersCard : Claim7 := { stood := { row := jvalNumbersRow, standIns := [], harness := (true, "7ceae8104338242a0862c510de4602586d9cac7f14a11461db18285eef56715f"), looks := false }, kinds := [], alts := [], laidByText := true, laidKinds := [.data, .pinned], laidTests := true, laidLooks := .later }
def JvalNumbersCardSaid : Prop := Claim7.holds Tryd.pinned (.plain (OpenSpec.ofChange jvalNumbersSpec)) jvalNumbersCard

/-- THE TIED CARD OF 'refectorylaw02.JvalWrong'. -/
def jvalWrongCard : Claim7 := { stood := { row := jvalWrongRow, standIns := [], harness := (true, "7ceae8104338242a0862c510de4602586d9cac7f14a11461db18285eef56715f"), looks := false }, kinds := [], alts := [], laidByText := true, laidKinds := [.data, .pinned], laidTests := true, laidLooks := .later }
def JvalWrongCardSaid : Prop := Claim7.holds Tryd.pinned (.plain (OpenSpec.ofChange jvalWrongSpec)) jvalWrongCard

/-- THE TIED CARD OF 'refectorylaw02.JvalForms'. -/
def jvalFormsCard : Claim7 := { stood := { row := jvalFormsRow, standIns := [], harness := (true, "7ceae8104338242a0862c510de4602586d9cac7f14a11461db18285eef56715f"), looks := false }, kinds := [], alts := [], laidByText := true, laidKinds := [.data, .pinned], laidTests := true, laidLooks := .later }
def JvalFormsCardSaid : Prop := Claim7.holds Tryd.pinned (.plain (OpenSpec.ofChange jvalFormsSpec)) jvalFormsCard

/-- THE TIED CARD OF 'refectorylaw01.RunesBack'. -/
def runesBackCard : Claim7 := { stood := { row := runesBackRow, standIns := [], harness := (true, "7ceae8104338242a0862c510de4602586d9cac7f14a11461db18285eef56715f"), looks := false }, kinds := [], alts := [], laidByText := true, laidKinds := [.data, .pinned, .pinned], laidTests := true, laidLooks := .later }
def RunesBackCardSaid : Prop := Claim7.holds Tryd.pinned (.plain (OpenSpec.ofChange runesBackSpec)) runesBackCard

/-- THE TIED CARD OF 'refectorylaw01.RunesPoints'. -/
def runesPointsCard : Claim7 := { stood := { row := runesPointsRow, standIns := [], harness := (true, "7ceae8104338242a0862c510de4602586d9cac7f14a11461db18285eef56715f"), looks := false }, kinds := [], alts := [], laidByText := true, laidKinds := [.data, .pinned, .pinned], laidTests := true, laidLooks := .later }
def RunesPointsCardSaid : Prop := Claim7.holds Tryd.pinned (.plain (OpenSpec.ofChange runesPointsSpec)) runesPointsCard

/-- THE TIED CARD OF 'refectorylaw01.RunesNames'. -/
def runesNamesCard : Claim7 := { stood := { row := runesNamesRow, standIns := [], harness := (true, "7ceae8104338242a0862c510de4602586d9cac7f14a11461db18285eef56715f"), looks := false }, kinds := [], alts := [], laidByText := true, laidKinds := [.data, .pinned, .pinned], laidTests := true, laidLooks := .later }
def RunesNamesCardSaid : Prop := Claim7.holds Tryd.pinned (.plain (OpenSpec.ofChange runesNamesSpec)) runesNamesCard

/-- THE TIED CARD OF 'refectorylaw01.RunesWrong'. -/
def runesWrongCard : Claim7 := { stood := { row := runesWrongRow, standIns := [], harness := (true, "7ceae8104338242a0862c510de4602586d9cac7f14a11461db18285eef56715f"), looks := false }, kinds := [], alts := [], laidByText := true, laidKinds := [.data, .pinned, .pinned], laidTests := true, laidLooks := .later }
def RunesWrongCardSaid : Prop := Claim7.holds Tryd.pinned (.plain (OpenSpec.ofChange runesWrongSpec)) runesWrongCard

/-- THE TIED CARD OF 'refectorylaw01.RunesAll'. -/
def runesAllCard : Claim7 := { stood := { row := runesAllRow, standIns := [], harness := (true, "7ceae8104338242a0862c510de4602586d9cac7f14a11461db18285eef56715f"), looks := false }, kinds := [], alts := [], laidByText := true, laidKinds := [.data, .pinned, .pinned], laidTests := true, laidLooks := .later }
def RunesAllCardSaid : Prop := Claim7.holds Tryd.pinned (.plain (OpenSpec.ofChange runesAllSpec)) runesAllCard

/-- THE TIED CARD OF 'refectorylaw01.RunesBlocks'. -/
def runesBlocksCard : Claim7 := { stood := { row := runesBlocksRow, standIns := [], harness := (true, "7ceae8104338242a0862c510de4602586d9cac7f14a11461db18285eef56715f"), looks := false }, kinds := [], alts := [], laidByText := true, laidKinds := [.data, .pinned, .pinned], laidTests := true, laidLooks := .later }
def RunesBlocksCardSaid : Prop := Claim7.holds Tryd.pinned (.plain (OpenSpec.ofChange runesBlocksSpec)) runesBlocksCard

/-- THE SECOND FORM's CARD OF 'refectorylaw02.JvalAll'. -/
def jvalAllUptoCard : Claim7 := { stood := { row := jvalAllUptoRow, standIns := [], harness := (true, "7ceae8104338242a0862c510de4602586d9cac7f14a11461db18285eef56715f"), looks := false }, kinds := [], alts := [], laidByText := true, laidKinds := [.data, .pinned], laidTests := true, laidLooks := .later }
def JvalAllUptoCardSaid : Prop := Claim7.holds Tryd.pinned (.plain (OpenSpec.upto jvalAllSpec)) jvalAllUptoCard

/-- THE SECOND FORM's CARD OF 'refectorylaw02.JvalNumbers'. -/
def jvalNumbersUptoCard : Claim7 := { stood := { row := jvalNumbersUptoRow, standIns := [], harness := (true, "7ceae8104338242a0862c510de4602586d9cac7f14a11461db18285eef56715f"), looks := false }, kinds := [], alts := [], laidByText := true, laidKinds := [.data, .pinned], laidTests := true, laidLooks := .later }
def JvalNumbersUptoCardSaid : Prop := Claim7.holds Tryd.pinned (.plain (OpenSpec.upto jvalNumbersSpec)) jvalNumbersUptoCard

/-- THE SECOND FORM's CARD OF 'refectorylaw02.JvalWrong'. -/
def jvalWrongUptoCard : Claim7 := { stood := { row := jvalWrongUptoRow, standIns := [], harness := (true, "7ceae8104338242a0862c510de4602586d9cac7f14a11461db18285eef56715f"), looks := false }, kinds := [], alts := [], laidByText := true, laidKinds := [.data, .pinned], laidTests := true, laidLooks := .later }
def JvalWrongUptoCardSaid : Prop := Claim7.holds Tryd.pinned (.plain (OpenSpec.upto jvalWrongSpec)) jvalWrongUptoCard

/-- THE SECOND FORM's CARD OF 'refectorylaw02.JvalForms'. -/
def jvalFormsUptoCard : Claim7 := { stood := { row := jvalFormsUptoRow, standIns := [], harness := (true, "7ceae8104338242a0862c510de4602586d9cac7f14a11461db18285eef56715f"), looks := false }, kinds := [], alts := [], laidByText := true, laidKinds := [.data, .pinned], laidTests := true, laidLooks := .later }
def JvalFormsUptoCardSaid : Prop := Claim7.holds Tryd.pinned (.plain (OpenSpec.upto jvalFormsSpec)) jvalFormsUptoCard

/-- THE SECOND FORM's CARD OF 'refectorylaw01.RunesBack'. -/
def runesBackUptoCard : Claim7 := { stood := { row := runesBackUptoRow, standIns := [], harness := (true, "7ceae8104338242a0862c510de4602586d9cac7f14a11461db18285eef56715f"), looks := false }, kinds := [], alts := [], laidByText := true, laidKinds := [.data, .pinned, .pinned], laidTests := true, laidLooks := .later }
def RunesBackUptoCardSaid : Prop := Claim7.holds Tryd.pinned (.plain (OpenSpec.upto runesBackSpec)) runesBackUptoCard

/-- THE SECOND FORM's CARD OF 'refectorylaw01.RunesPoints'. -/
def runesPointsUptoCard : Claim7 := { stood := { row := runesPointsUptoRow, standIns := [], harness := (true, "7ceae8104338242a0862c510de4602586d9cac7f14a11461db18285eef56715f"), looks := false }, kinds := [], alts := [], laidByText := true, laidKinds := [.data, .pinned, .pinned], laidTests := true, laidLooks := .later }
def RunesPointsUptoCardSaid : Prop := Claim7.holds Tryd.pinned (.plain (OpenSpec.upto runesPointsSpec)) runesPointsUptoCard

/-- THE SECOND FORM's CARD OF 'refectorylaw01.RunesNames'. -/
def runesNamesUptoCard : Claim7 := { stood := { row := runesNamesUptoRow, standIns := [], harness := (true, "7ceae8104338242a0862c510de4602586d9cac7f14a11461db18285eef56715f"), looks := false }, kinds := [], alts := [], laidByText := true, laidKinds := [.data, .pinned, .pinned], laidTests := true, laidLooks := .later }
def RunesNamesUptoCardSaid : Prop := Claim7.holds Tryd.pinned (.plain (OpenSpec.upto runesNamesSpec)) runesNamesUptoCard

/-- THE SECOND FORM's CARD OF 'refectorylaw01.RunesWrong'. -/
def runesWrongUptoCard : Claim7 := { stood := { row := runesWrongUptoRow, standIns := [], harness := (true, "7ceae8104338242a0862c510de4602586d9cac7f14a11461db18285eef56715f"), looks := false }, kinds := [], alts := [], laidByText := true, laidKinds := [.data, .pinned, .pinned], laidTests := true, laidLooks := .later }
def RunesWrongUptoCardSaid : Prop := Claim7.holds Tryd.pinned (.plain (OpenSpec.upto runesWrongSpec)) runesWrongUptoCard

/-- THE SECOND FORM's CARD OF 'refectorylaw01.RunesAll'. -/
def runesAllUptoCard : Claim7 := { stood := { row := runesAllUptoRow, standIns := [], harness := (true, "7ceae8104338242a0862c510de4602586d9cac7f14a11461db18285eef56715f"), looks := false }, kinds := [], alts := [], laidByText := true, laidKinds := [.data, .pinned, .pinned], laidTests := true, laidLooks := .later }
def RunesAllUptoCardSaid : Prop := Claim7.holds Tryd.pinned (.plain (OpenSpec.upto runesAllSpec)) runesAllUptoCard

/-- THE SECOND FORM's CARD OF 'refectorylaw01.RunesBlocks'. -/
def runesBlocksUptoCard : Claim7 := { stood := { row := runesBlocksUptoRow, standIns := [], harness := (true, "7ceae8104338242a0862c510de4602586d9cac7f14a11461db18285eef56715f"), looks := false }, kinds := [], alts := [], laidByText := true, laidKinds := [.data, .pinned, .pinned], laidTests := true, laidLooks := .later }
def RunesBlocksUptoCardSaid : Prop := Claim7.holds Tryd.pinned (.plain (OpenSpec.upto runesBlocksSpec)) runesBlocksUptoCard
end Rows
end Go.Proofs.YtphgikpdbaeeoaaDoor
