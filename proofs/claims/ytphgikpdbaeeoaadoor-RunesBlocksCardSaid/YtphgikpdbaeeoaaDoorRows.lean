/-
  NARROWER THAN 'FOR EVERY INPUT', by the rows' own cells (each row's printed sentence says how): JvalAll: loops, laid · JvalNumbers: laid · JvalWrong: laid · JvalForms: laid · RunesBack: laid · RunesPoints: laid · RunesNames: laid · RunesWrong: laid · RunesAll: laid · RunesBlocks: laid.
  DERIVED. THE GIVEN ROWS OF THIS SEAT. 10 by the template 'for every input the law returns true; each argument reads behind the call as it read before'; 0 by the template 'total and deterministic' (their statements: YtphgikpdbaeeoaaDoorTotals.lean).
  GIVEN WITH THE SEED: the statements are not yours to turn. If you find one false, say at which input.
  Laid BY PROGRAM, IN A SANDBOX (cutbox-rows.mjs): the forced cells as the released guide's own fill.sh prints them over the translation c727b45d5aed934d… (all of the seat's roots in one cut). By AI agents, Wed Nov 11 2026. No macro, syntax, notation, axiom, sorry.
-/
import Derived.Test.YtphgikpdbaeeoaaDoorChecked
import GoSem.PinnedTables
import GoSem.Claim
import GoSem.ClaimJoined
import GoSem.ClaimMapViews
import Derived.JoinedTies
import Derived.KernelRfl
namespace Go.Proofs.YtphgikpdbaeeoaaDoor
/- THE CELL 'sum', in the pinned program and in every row, IS THE sha256 OF THE DUMP (.gsa) THAT YtphgikpdbaeeoaaDoorProg.lean LOADS. Nothing in Lean hashes anything: it is a label: what it is worth is what the hold of that sum in a sandbox is worth. -/
noncomputable def Tryd.pinned : Pinned := { name := "ytphgikpdbaeeoaadoor", sum := "c727b45d5aed934d209db66c885c128e2f506ef26a28fa7aa725e639bce8b6b4", checked := Tryd.checked }
namespace Rows
def none {H : Type} : Left H := { results := [], args := [] }

/- WHAT THE LISTED PACKAGE-LEVEL VARIABLES READ AS WHEN THE CALL BEGINS. Each datum BY PROGRAM (the guide's laid-datum.mjs) off the statement by which the dump's own 'gosem.cut.vars' lays the variable. In a bare row this is a premise. The card (YtphgikpdbaeeoaaDoorCards.lean) ties it to the program's text. -/
def laid_unicode_utf8_acceptRanges {H : Type} : DataW H := .agg [.agg [.lit (.int .u8 128), .lit (.int .u8 191)], .agg [.lit (.int .u8 160), .lit (.int .u8 191)], .agg [.lit (.int .u8 128), .lit (.int .u8 159)], .agg [.lit (.int .u8 144), .lit (.int .u8 191)], .agg [.lit (.int .u8 128), .lit (.int .u8 143)], .agg [.lit (.int .u8 0), .lit (.int .u8 0)], .agg [.lit (.int .u8 0), .lit (.int .u8 0)], .agg [.lit (.int .u8 0), .lit (.int .u8 0)], .agg [.lit (.int .u8 0), .lit (.int .u8 0)], .agg [.lit (.int .u8 0), .lit (.int .u8 0)], .agg [.lit (.int .u8 0), .lit (.int .u8 0)], .agg [.lit (.int .u8 0), .lit (.int .u8 0)], .agg [.lit (.int .u8 0), .lit (.int .u8 0)], .agg [.lit (.int .u8 0), .lit (.int .u8 0)], .agg [.lit (.int .u8 0), .lit (.int .u8 0)], .agg [.lit (.int .u8 0), .lit (.int .u8 0)]]
/-- One of Go's own tables, pinned by name: the form's constant. -/
def laid_unicode_utf8_first : DataW Unit := Go.Pinned.utf8First
/-- One of Go's own tables, pinned by name: the form's constant. -/
def laid_unicode_CaseRanges : DataW Unit := Go.Pinned.caseRanges

/-- 'refectorylaw02.JvalAll': WHATEVER THE INPUT: true; the input reads as it did. -/
def jvalAllSpec : ChangeSpec := { name := "jvalAll", fn := fun _ => fun
  | [d1, d2, d3] => { results := [.lit (.bool true)], args := [d1, d2, d3] }
  | _ => none }
def jvalAllRow : OpenClaim := { program := "ytphgikpdbaeeoaadoor", sum := "c727b45d5aed934d209db66c885c128e2f506ef26a28fa7aa725e639bce8b6b4", func := "refectory/refectorylaw02.JvalAll", spec := "jvalAll", inPlace := ["internal/bytealg.IndexByteString", "internal/bytealg.IndexString", "internal/abi.NoEscape"], recurses := true, named := ["unicode/utf8.first", "unicode/utf8.acceptRanges", "internal/bytealg.MaxLen"], loops := true, apart := false, laid := [("unicode/utf8.acceptRanges", laid_unicode_utf8_acceptRanges), ("unicode/utf8.first", laid_unicode_utf8_first)] }
def JvalAllSaid : Prop := jvalAllRow.holds Tryd.pinned (OpenSpec.ofChange jvalAllSpec)

/-- ITS FALSE NEIGHBOUR: 'it returns false'. Refute it at one input. -/
def jvalAllWrong : ChangeSpec := { name := "jvalAll", fn := fun _ => fun
  | [d1, d2, d3] => { results := [.lit (.bool false)], args := [d1, d2, d3] }
  | _ => none }
def JvalAllWrongFalsely : Prop := jvalAllRow.holds Tryd.pinned (OpenSpec.ofChange jvalAllWrong)

/-- 'refectorylaw02.JvalNumbers': WHATEVER THE INPUT: true; the input reads as it did. -/
def jvalNumbersSpec : ChangeSpec := { name := "jvalNumbers", fn := fun _ => fun
  | [d1, d2] => { results := [.lit (.bool true)], args := [d1, d2] }
  | _ => none }
def jvalNumbersRow : OpenClaim := { program := "ytphgikpdbaeeoaadoor", sum := "c727b45d5aed934d209db66c885c128e2f506ef26a28fa7aa725e639bce8b6b4", func := "refectory/refectorylaw02.JvalNumbers", spec := "jvalNumbers", inPlace := ["internal/bytealg.IndexByteString", "internal/bytealg.IndexString", "internal/abi.NoEscape"], recurses := true, named := ["unicode/utf8.first", "unicode/utf8.acceptRanges", "internal/bytealg.MaxLen"], apart := false, laid := [("unicode/utf8.acceptRanges", laid_unicode_utf8_acceptRanges), ("unicode/utf8.first", laid_unicode_utf8_first)] }
def JvalNumbersSaid : Prop := jvalNumbersRow.holds Tryd.pinned (OpenSpec.ofChange jvalNumbersSpec)

/-- ITS FALSE NEIGHBOUR: 'it returns false'. Refute it at one input. -/
def jvalNumbersWrong : ChangeSpec := { name := "jvalNumbers", fn := fun _ => fun
  | [d1, d2] => { results := [.lit (.bool false)], args := [d1, d2] }
  | _ => none }
def JvalNumbersWrongFalsely : Prop := jvalNumbersRow.holds Tryd.pinned (OpenSpec.ofChange jvalNumbersWrong)

/-- 'refectorylaw02.JvalWrong': WHATEVER THE INPUT: true; the input reads as it did. -/
def jvalWrongSpec : ChangeSpec := { name := "jvalWrong", fn := fun _ => fun
  | [d1, d2] => { results := [.lit (.bool true)], args := [d1, d2] }
  | _ => none }
def jvalWrongRow : OpenClaim := { program := "ytphgikpdbaeeoaadoor", sum := "c727b45d5aed934d209db66c885c128e2f506ef26a28fa7aa725e639bce8b6b4", func := "refectory/refectorylaw02.JvalWrong", spec := "jvalWrong", inPlace := ["internal/bytealg.IndexByteString", "internal/bytealg.IndexString", "internal/abi.NoEscape"], recurses := true, named := ["unicode/utf8.first", "unicode/utf8.acceptRanges", "internal/bytealg.MaxLen"], apart := false, laid := [("unicode/utf8.acceptRanges", laid_unicode_utf8_acceptRanges), ("unicode/utf8.first", laid_unicode_utf8_first)] }
def JvalWrongSaid : Prop := jvalWrongRow.holds Tryd.pinned (OpenSpec.ofChange jvalWrongSpec)

/-- ITS FALSE NEIGHBOUR: 'it returns false'. Refute it at one input. -/
def jvalWrongWrong : ChangeSpec := { name := "jvalWrong", fn := fun _ => fun
  | [d1, d2] => { results := [.lit (.bool false)], args := [d1, d2] }
  | _ => none }
def JvalWrongWrongFalsely : Prop := jvalWrongRow.holds Tryd.pinned (OpenSpec.ofChange jvalWrongWrong)

/-- 'refectorylaw02.JvalForms': WHATEVER THE INPUT: true; the input reads as it did. -/
def jvalFormsSpec : ChangeSpec := { name := "jvalForms", fn := fun _ => fun
  | [d1, d2, d3, d4] => { results := [.lit (.bool true)], args := [d1, d2, d3, d4] }
  | _ => none }
def jvalFormsRow : OpenClaim := { program := "ytphgikpdbaeeoaadoor", sum := "c727b45d5aed934d209db66c885c128e2f506ef26a28fa7aa725e639bce8b6b4", func := "refectory/refectorylaw02.JvalForms", spec := "jvalForms", inPlace := ["internal/bytealg.IndexByteString", "internal/bytealg.IndexString", "internal/abi.NoEscape"], recurses := true, named := ["unicode/utf8.first", "unicode/utf8.acceptRanges", "internal/bytealg.MaxLen"], apart := false, laid := [("unicode/utf8.acceptRanges", laid_unicode_utf8_acceptRanges), ("unicode/utf8.first", laid_unicode_utf8_first)] }
def JvalFormsSaid : Prop := jvalFormsRow.holds Tryd.pinned (OpenSpec.ofChange jvalFormsSpec)

/-- ITS FALSE NEIGHBOUR: 'it returns false'. Refute it at one input. -/
def jvalFormsWrong : ChangeSpec := { name := "jvalForms", fn := fun _ => fun
  | [d1, d2, d3, d4] => { results := [.lit (.bool false)], args := [d1, d2, d3, d4] }
  | _ => none }
def JvalFormsWrongFalsely : Prop := jvalFormsRow.holds Tryd.pinned (OpenSpec.ofChange jvalFormsWrong)

/-- 'refectorylaw01.RunesBack': WHATEVER THE INPUT: true; the input reads as it did. -/
def runesBackSpec : ChangeSpec := { name := "runesBack", fn := fun _ => fun
  | [d1, d2] => { results := [.lit (.bool true)], args := [d1, d2] }
  | _ => none }
def runesBackRow : OpenClaim := { program := "ytphgikpdbaeeoaadoor", sum := "c727b45d5aed934d209db66c885c128e2f506ef26a28fa7aa725e639bce8b6b4", func := "refectory/refectorylaw01.RunesBack", spec := "runesBack", inPlace := ["internal/abi.NoEscape", "internal/bytealg.MakeNoZero", "internal/bytealg.IndexByteString", "internal/bytealg.IndexString"], unfollowed := true, recurses := true, named := ["unicode/utf8.first", "unicode/utf8.acceptRanges", "unicode.CaseRanges", "internal/bytealg.MaxLen"], apart := false, laid := [("unicode/utf8.acceptRanges", laid_unicode_utf8_acceptRanges), ("unicode.CaseRanges", laid_unicode_CaseRanges), ("unicode/utf8.first", laid_unicode_utf8_first)] }
def RunesBackSaid : Prop := runesBackRow.holds Tryd.pinned (OpenSpec.ofChange runesBackSpec)

/-- ITS FALSE NEIGHBOUR: 'it returns false'. Refute it at one input. -/
def runesBackWrong : ChangeSpec := { name := "runesBack", fn := fun _ => fun
  | [d1, d2] => { results := [.lit (.bool false)], args := [d1, d2] }
  | _ => none }
def RunesBackWrongFalsely : Prop := runesBackRow.holds Tryd.pinned (OpenSpec.ofChange runesBackWrong)

/-- 'refectorylaw01.RunesPoints': WHATEVER THE INPUT: true; the input reads as it did. -/
def runesPointsSpec : ChangeSpec := { name := "runesPoints", fn := fun _ => fun
  | [d1, d2] => { results := [.lit (.bool true)], args := [d1, d2] }
  | _ => none }
def runesPointsRow : OpenClaim := { program := "ytphgikpdbaeeoaadoor", sum := "c727b45d5aed934d209db66c885c128e2f506ef26a28fa7aa725e639bce8b6b4", func := "refectory/refectorylaw01.RunesPoints", spec := "runesPoints", inPlace := ["internal/abi.NoEscape", "internal/bytealg.MakeNoZero", "internal/bytealg.IndexByteString", "internal/bytealg.IndexString"], unfollowed := true, recurses := true, named := ["unicode/utf8.first", "unicode/utf8.acceptRanges", "unicode.CaseRanges", "internal/bytealg.MaxLen"], apart := false, laid := [("unicode/utf8.acceptRanges", laid_unicode_utf8_acceptRanges), ("unicode.CaseRanges", laid_unicode_CaseRanges), ("unicode/utf8.first", laid_unicode_utf8_first)] }
def RunesPointsSaid : Prop := runesPointsRow.holds Tryd.pinned (OpenSpec.ofChange runesPointsSpec)

/-- ITS FALSE NEIGHBOUR: 'it returns false'. Refute it at one input. -/
def runesPointsWrong : ChangeSpec := { name := "runesPoints", fn := fun _ => fun
  | [d1, d2] => { results := [.lit (.bool false)], args := [d1, d2] }
  | _ => none }
def RunesPointsWrongFalsely : Prop := runesPointsRow.holds Tryd.pinned (OpenSpec.ofChange runesPointsWrong)

/-- 'refectorylaw01.RunesNames': WHATEVER THE INPUT: true; the input reads as it did. -/
def runesNamesSpec : ChangeSpec := { name := "runesNames", fn := fun _ => fun
  | [d1, d2] => { results := [.lit (.bool true)], args := [d1, d2] }
  | _ => none }
def runesNamesRow : OpenClaim := { program := "ytphgikpdbaeeoaadoor", sum := "c727b45d5aed934d209db66c885c128e2f506ef26a28fa7aa725e639bce8b6b4", func := "refectory/refectorylaw01.RunesNames", spec := "runesNames", inPlace := ["internal/abi.NoEscape", "internal/bytealg.MakeNoZero", "internal/bytealg.IndexByteString", "internal/bytealg.IndexString"], unfollowed := true, recurses := true, named := ["unicode/utf8.first", "unicode/utf8.acceptRanges", "unicode.CaseRanges", "internal/bytealg.MaxLen"], apart := false, laid := [("unicode/utf8.acceptRanges", laid_unicode_utf8_acceptRanges), ("unicode.CaseRanges", laid_unicode_CaseRanges), ("unicode/utf8.first", laid_unicode_utf8_first)] }
def RunesNamesSaid : Prop := runesNamesRow.holds Tryd.pinned (OpenSpec.ofChange runesNamesSpec)

/-- ITS FALSE NEIGHBOUR: 'it returns false'. Refute it at one input. -/
def runesNamesWrong : ChangeSpec := { name := "runesNames", fn := fun _ => fun
  | [d1, d2] => { results := [.lit (.bool false)], args := [d1, d2] }
  | _ => none }
def RunesNamesWrongFalsely : Prop := runesNamesRow.holds Tryd.pinned (OpenSpec.ofChange runesNamesWrong)

/-- 'refectorylaw01.RunesWrong': WHATEVER THE INPUT: true; the input reads as it did. -/
def runesWrongSpec : ChangeSpec := { name := "runesWrong", fn := fun _ => fun
  | [d1, d2, d3] => { results := [.lit (.bool true)], args := [d1, d2, d3] }
  | _ => none }
def runesWrongRow : OpenClaim := { program := "ytphgikpdbaeeoaadoor", sum := "c727b45d5aed934d209db66c885c128e2f506ef26a28fa7aa725e639bce8b6b4", func := "refectory/refectorylaw01.RunesWrong", spec := "runesWrong", inPlace := ["internal/abi.NoEscape", "internal/bytealg.MakeNoZero", "internal/bytealg.IndexByteString", "internal/bytealg.IndexString"], unfollowed := true, recurses := true, named := ["unicode/utf8.first", "unicode/utf8.acceptRanges", "unicode.CaseRanges", "internal/bytealg.MaxLen"], apart := false, laid := [("unicode/utf8.acceptRanges", laid_unicode_utf8_acceptRanges), ("unicode.CaseRanges", laid_unicode_CaseRanges), ("unicode/utf8.first", laid_unicode_utf8_first)] }
def RunesWrongSaid : Prop := runesWrongRow.holds Tryd.pinned (OpenSpec.ofChange runesWrongSpec)

/-- ITS FALSE NEIGHBOUR: 'it returns false'. Refute it at one input. -/
def runesWrongWrong : ChangeSpec := { name := "runesWrong", fn := fun _ => fun
  | [d1, d2, d3] => { results := [.lit (.bool false)], args := [d1, d2, d3] }
  | _ => none }
def RunesWrongWrongFalsely : Prop := runesWrongRow.holds Tryd.pinned (OpenSpec.ofChange runesWrongWrong)

/-- 'refectorylaw01.RunesAll': WHATEVER THE INPUT: true; the input reads as it did. -/
def runesAllSpec : ChangeSpec := { name := "runesAll", fn := fun _ => fun
  | [d] => { results := [.lit (.bool true)], args := [d] }
  | _ => none }
def runesAllRow : OpenClaim := { program := "ytphgikpdbaeeoaadoor", sum := "c727b45d5aed934d209db66c885c128e2f506ef26a28fa7aa725e639bce8b6b4", func := "refectory/refectorylaw01.RunesAll", spec := "runesAll", inPlace := ["internal/abi.NoEscape", "internal/bytealg.MakeNoZero", "internal/bytealg.IndexByteString", "internal/bytealg.IndexString", "internal/bytealg.CountString"], unfollowed := true, recurses := true, named := ["unicode/utf8.first", "unicode/utf8.acceptRanges", "unicode.CaseRanges", "internal/bytealg.MaxLen"], apart := false, laid := [("unicode/utf8.acceptRanges", laid_unicode_utf8_acceptRanges), ("unicode.CaseRanges", laid_unicode_CaseRanges), ("unicode/utf8.first", laid_unicode_utf8_first)] }
def RunesAllSaid : Prop := runesAllRow.holds Tryd.pinned (OpenSpec.ofChange runesAllSpec)

/-- ITS FALSE NEIGHBOUR: 'it returns false'. Refute it at one input. -/
def runesAllWrong : ChangeSpec := { name := "runesAll", fn := fun _ => fun
  | [d] => { results := [.lit (.bool false)], args := [d] }
  | _ => none }
def RunesAllWrongFalsely : Prop := runesAllRow.holds Tryd.pinned (OpenSpec.ofChange runesAllWrong)

/-- 'refectorylaw01.RunesBlocks': WHATEVER THE INPUT: true; the input reads as it did. -/
def runesBlocksSpec : ChangeSpec := { name := "runesBlocks", fn := fun _ => fun
  | [d1, d2] => { results := [.lit (.bool true)], args := [d1, d2] }
  | _ => none }
def runesBlocksRow : OpenClaim := { program := "ytphgikpdbaeeoaadoor", sum := "c727b45d5aed934d209db66c885c128e2f506ef26a28fa7aa725e639bce8b6b4", func := "refectory/refectorylaw01.RunesBlocks", spec := "runesBlocks", inPlace := ["internal/bytealg.CountString", "internal/bytealg.IndexByteString", "internal/bytealg.IndexString", "internal/abi.NoEscape", "internal/bytealg.MakeNoZero"], unfollowed := true, recurses := true, named := ["internal/bytealg.MaxLen", "unicode/utf8.first", "unicode/utf8.acceptRanges", "unicode.CaseRanges"], apart := false, laid := [("unicode/utf8.acceptRanges", laid_unicode_utf8_acceptRanges), ("unicode.CaseRanges", laid_unicode_CaseRanges), ("unicode/utf8.first", laid_unicode_utf8_first)] }
def RunesBlocksSaid : Prop := runesBlocksRow.holds Tryd.pinned (OpenSpec.ofChange runesBlocksSpec)

/-- ITS FALSE NEIGHBOUR: 'it returns false'. Refute it at one input. -/
def runesBlocksWrong : ChangeSpec := { name := "runesBlocks", fn := fun _ => fun
  | [d1, d2] => { results := [.lit (.bool false)], args := [d1, d2] }
  | _ => none }
def RunesBlocksWrongFalsely : Prop := runesBlocksRow.holds Tryd.pinned (OpenSpec.ofChange runesBlocksWrong)

/- THE SECOND FORM. 'bulk': how many values and letters a reading holds, each counted each time it is reached (what is shared counts as often as it is met; a slice's spare places count too). A statement '..UptoSaid' is the law's where the arguments, and the package variables that the reading takes, are together of bulk at most 1048576: NARROWER than '..Said'. Prove '..Said' where nothing that the law and all that it calls make is longer than what came in: it says more and counts as full. Else prove '..UptoSaid'. A law counts once. -/
mutual
def uptoBulk {H : Type} : DataW H → Nat
  | .lit (.string bytes) => bytes.length + 1
  | .lit _ => 1
  | .nil => 1
  | .ptr d => uptoBulk d + 1
  | .slice elems spare => uptoBulkAll elems + uptoBulkAll spare + 1
  | .agg parts => uptoBulkAll parts + 1
  | .iface _ d => uptoBulk d + 1
  | .map entries => uptoBulkEntries entries + 1
  | .held _ => 1
def uptoBulkAll {H : Type} : List (DataW H) → Nat
  | [] => 0
  | d :: r => uptoBulk d + uptoBulkAll r
def uptoBulkEntries {H : Type} : List (Lit × DataW H) → Nat
  | [] => 0
  | x :: r => uptoBulkEntry x + uptoBulkEntries r
def uptoBulkEntry {H : Type} : Lit × DataW H → Nat
  | (.string bytes, d) => bytes.length + uptoBulk d + 1
  | (_, d) => uptoBulk d + 1
 end
def uptoSmall : (H : Type) → List (DataW H) → Bool := fun _ ds => decide (uptoBulkAll ds ≤ 1048576)
def OpenSpec.upto (s : _root_.Go.ChangeSpec) : _root_.Go.OpenSpec := { _root_.Go.OpenSpec.ofChange s with cond := some uptoSmall }

/-- 'refectorylaw02.JvalAll', WHERE WHAT IT READS IS OF BULK AT MOST 1048576: true; the input reads as it did. -/
def jvalAllUptoRow : OpenClaim := { program := "ytphgikpdbaeeoaadoor", sum := "c727b45d5aed934d209db66c885c128e2f506ef26a28fa7aa725e639bce8b6b4", func := "refectory/refectorylaw02.JvalAll", spec := "jvalAll", inPlace := ["internal/bytealg.IndexByteString", "internal/bytealg.IndexString", "internal/abi.NoEscape"], recurses := true, named := ["unicode/utf8.first", "unicode/utf8.acceptRanges", "internal/bytealg.MaxLen"], loops := true, apart := false, laid := [("unicode/utf8.acceptRanges", laid_unicode_utf8_acceptRanges), ("unicode/utf8.first", laid_unicode_utf8_first)], narrowed := true }
def JvalAllUptoSaid : Prop := jvalAllUptoRow.holds Tryd.pinned (OpenSpec.upto jvalAllSpec)

/-- 'refectorylaw02.JvalNumbers', WHERE WHAT IT READS IS OF BULK AT MOST 1048576: true; the input reads as it did. -/
def jvalNumbersUptoRow : OpenClaim := { program := "ytphgikpdbaeeoaadoor", sum := "c727b45d5aed934d209db66c885c128e2f506ef26a28fa7aa725e639bce8b6b4", func := "refectory/refectorylaw02.JvalNumbers", spec := "jvalNumbers", inPlace := ["internal/bytealg.IndexByteString", "internal/bytealg.IndexString", "internal/abi.NoEscape"], recurses := true, named := ["unicode/utf8.first", "unicode/utf8.acceptRanges", "internal/bytealg.MaxLen"], apart := false, laid := [("unicode/utf8.acceptRanges", laid_unicode_utf8_acceptRanges), ("unicode/utf8.first", laid_unicode_utf8_first)], narrowed := true }
def JvalNumbersUptoSaid : Prop := jvalNumbersUptoRow.holds Tryd.pinned (OpenSpec.upto jvalNumbersSpec)

/-- 'refectorylaw02.JvalWrong', WHERE WHAT IT READS IS OF BULK AT MOST 1048576: true; the input reads as it did. -/
def jvalWrongUptoRow : OpenClaim := { program := "ytphgikpdbaeeoaadoor", sum := "c727b45d5aed934d209db66c885c128e2f506ef26a28fa7aa725e639bce8b6b4", func := "refectory/refectorylaw02.JvalWrong", spec := "jvalWrong", inPlace := ["internal/bytealg.IndexByteString", "internal/bytealg.IndexString", "internal/abi.NoEscape"], recurses := true, named := ["unicode/utf8.first", "unicode/utf8.acceptRanges", "internal/bytealg.MaxLen"], apart := false, laid := [("unicode/utf8.acceptRanges", laid_unicode_utf8_acceptRanges), ("unicode/utf8.first", laid_unicode_utf8_first)], narrowed := true }
def JvalWrongUptoSaid : Prop := jvalWrongUptoRow.holds Tryd.pinned (OpenSpec.upto jvalWrongSpec)

/-- 'refectorylaw02.JvalForms', WHERE WHAT IT READS IS OF BULK AT MOST 1048576: true; the input reads as it did. -/
def jvalFormsUptoRow : OpenClaim := { program := "ytphgikpdbaeeoaadoor", sum := "c727b45d5aed934d209db66c885c128e2f506ef26a28fa7aa725e639bce8b6b4", func := "refectory/refectorylaw02.JvalForms", spec := "jvalForms", inPlace := ["internal/bytealg.IndexByteString", "internal/bytealg.IndexString", "internal/abi.NoEscape"], recurses := true, named := ["unicode/utf8.first", "unicode/utf8.acceptRanges", "internal/bytealg.MaxLen"], apart := false, laid := [("unicode/utf8.acceptRanges", laid_unicode_utf8_acceptRanges), ("unicode/utf8.first", laid_unicode_utf8_first)], narrowed := true }
def JvalFormsUptoSaid : Prop := jvalFormsUptoRow.holds Tryd.pinned (OpenSpec.upto jvalFormsSpec)

/-- 'refectorylaw01.RunesBack', WHERE WHAT IT READS IS OF BULK AT MOST 1048576: true; the input reads as it did. -/
def runesBackUptoRow : OpenClaim := { program := "ytphgikpdbaeeoaadoor", sum := "c727b45d5aed934d209db66c885c128e2f506ef26a28fa7aa725e639bce8b6b4", func := "refectory/refectorylaw01.RunesBack", spec := "runesBack", inPlace := ["internal/abi.NoEscape", "internal/bytealg.MakeNoZero", "internal/bytealg.IndexByteString", "internal/bytealg.IndexString"], unfollowed := true, recurses := true, named := ["unicode/utf8.first", "unicode/utf8.acceptRanges", "unicode.CaseRanges", "internal/bytealg.MaxLen"], apart := false, laid := [("unicode/utf8.acceptRanges", laid_unicode_utf8_acceptRanges), ("unicode.CaseRanges", laid_unicode_CaseRanges), ("unicode/utf8.first", laid_unicode_utf8_first)], narrowed := true }
def RunesBackUptoSaid : Prop := runesBackUptoRow.holds Tryd.pinned (OpenSpec.upto runesBackSpec)

/-- 'refectorylaw01.RunesPoints', WHERE WHAT IT READS IS OF BULK AT MOST 1048576: true; the input reads as it did. -/
def runesPointsUptoRow : OpenClaim := { program := "ytphgikpdbaeeoaadoor", sum := "c727b45d5aed934d209db66c885c128e2f506ef26a28fa7aa725e639bce8b6b4", func := "refectory/refectorylaw01.RunesPoints", spec := "runesPoints", inPlace := ["internal/abi.NoEscape", "internal/bytealg.MakeNoZero", "internal/bytealg.IndexByteString", "internal/bytealg.IndexString"], unfollowed := true, recurses := true, named := ["unicode/utf8.first", "unicode/utf8.acceptRanges", "unicode.CaseRanges", "internal/bytealg.MaxLen"], apart := false, laid := [("unicode/utf8.acceptRanges", laid_unicode_utf8_acceptRanges), ("unicode.CaseRanges", laid_unicode_CaseRanges), ("unicode/utf8.first", laid_unicode_utf8_first)], narrowed := true }
def RunesPointsUptoSaid : Prop := runesPointsUptoRow.holds Tryd.pinned (OpenSpec.upto runesPointsSpec)

/-- 'refectorylaw01.RunesNames', WHERE WHAT IT READS IS OF BULK AT MOST 1048576: true; the input reads as it did. -/
def runesNamesUptoRow : OpenClaim := { program := "ytphgikpdbaeeoaadoor", sum := "c727b45d5aed934d209db66c885c128e2f506ef26a28fa7aa725e639bce8b6b4", func := "refectory/refectorylaw01.RunesNames", spec := "runesNames", inPlace := ["internal/abi.NoEscape", "internal/bytealg.MakeNoZero", "internal/bytealg.IndexByteString", "internal/bytealg.IndexString"], unfollowed := true, recurses := true, named := ["unicode/utf8.first", "unicode/utf8.acceptRanges", "unicode.CaseRanges", "internal/bytealg.MaxLen"], apart := false, laid := [("unicode/utf8.acceptRanges", laid_unicode_utf8_acceptRanges), ("unicode.CaseRanges", laid_unicode_CaseRanges), ("unicode/utf8.first", laid_unicode_utf8_first)], narrowed := true }
def RunesNamesUptoSaid : Prop := runesNamesUptoRow.holds Tryd.pinned (OpenSpec.upto runesNamesSpec)

/-- 'refectorylaw01.RunesWrong', WHERE WHAT IT READS IS OF BULK AT MOST 1048576: true; the input reads as it did. -/
def runesWrongUptoRow : OpenClaim := { program := "ytphgikpdbaeeoaadoor", sum := "c727b45d5aed934d209db66c885c128e2f506ef26a28fa7aa725e639bce8b6b4", func := "refectory/refectorylaw01.RunesWrong", spec := "runesWrong", inPlace := ["internal/abi.NoEscape", "internal/bytealg.MakeNoZero", "internal/bytealg.IndexByteString", "internal/bytealg.IndexString"], unfollowed := true, recurses := true, named := ["unicode/utf8.first", "unicode/utf8.acceptRanges", "unicode.CaseRanges", "internal/bytealg.MaxLen"], apart := false, laid := [("unicode/utf8.acceptRanges", laid_unicode_utf8_acceptRanges), ("unicode.CaseRanges", laid_unicode_CaseRanges), ("unicode/utf8.first", laid_unicode_utf8_first)], narrowed := true }
def RunesWrongUptoSaid : Prop := runesWrongUptoRow.holds Tryd.pinned (OpenSpec.upto runesWrongSpec)

/-- 'refectorylaw01.RunesAll', WHERE WHAT IT READS IS OF BULK AT MOST 1048576: true; the input reads as it did. -/
def runesAllUptoRow : OpenClaim := { program := "ytphgikpdbaeeoaadoor", sum := "c727b45d5aed934d209db66c885c128e2f506ef26a28fa7aa725e639bce8b6b4", func := "refectory/refectorylaw01.RunesAll", spec := "runesAll", inPlace := ["internal/abi.NoEscape", "internal/bytealg.MakeNoZero", "internal/bytealg.IndexByteString", "internal/bytealg.IndexString", "internal/bytealg.CountString"], unfollowed := true, recurses := true, named := ["unicode/utf8.first", "unicode/utf8.acceptRanges", "unicode.CaseRanges", "internal/bytealg.MaxLen"], apart := false, laid := [("unicode/utf8.acceptRanges", laid_unicode_utf8_acceptRanges), ("unicode.CaseRanges", laid_unicode_CaseRanges), ("unicode/utf8.first", laid_unicode_utf8_first)], narrowed := true }
def RunesAllUptoSaid : Prop := runesAllUptoRow.holds Tryd.pinned (OpenSpec.upto runesAllSpec)

/-- 'refectorylaw01.RunesBlocks', WHERE WHAT IT READS IS OF BULK AT MOST 1048576: true; the input reads as it did. -/
def runesBlocksUptoRow : OpenClaim := { program := "ytphgikpdbaeeoaadoor", sum := "c727b45d5aed934d209db66c885c128e2f506ef26a28fa7aa725e639bce8b6b4", func := "refectory/refectorylaw01.RunesBlocks", spec := "runesBlocks", inPlace := ["internal/bytealg.CountString", "internal/bytealg.IndexByteString", "internal/bytealg.IndexString", "internal/abi.NoEscape", "internal/bytealg.MakeNoZero"], unfollowed := true, recurses := true, named := ["internal/bytealg.MaxLen", "unicode/utf8.first", "unicode/utf8.acceptRanges", "unicode.CaseRanges"], apart := false, laid := [("unicode/utf8.acceptRanges", laid_unicode_utf8_acceptRanges), ("unicode.CaseRanges", laid_unicode_CaseRanges), ("unicode/utf8.first", laid_unicode_utf8_first)], narrowed := true }
def RunesBlocksUptoSaid : Prop := runesBlocksUptoRow.holds Tryd.pinned (OpenSpec.upto runesBlocksSpec)

end Rows
end Go.Proofs.YtphgikpdbaeeoaaDoor
