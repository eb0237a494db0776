/-
  NARROWER THAN 'FOR EVERY INPUT', by the rows' own cells (each row's printed sentence says how): FillAll: loops.
  DERIVED. THE GIVEN ROWS OF THIS SEAT. 12 by the template 'for every input the law returns true; each argument reads behind the call as it read before'; 0 by the template 'total and deterministic' (their statements: YtgmifbbimcblcaaTotals.lean).
  GIVEN WITH THE SEED: the statements are not yours to turn. If you find one false, say at which input.
  Laid BY PROGRAM, IN A SANDBOX (cutbox-rows.mjs): the forced cells as the released guide's own fill.sh prints them over the translation 705f9fe3d6ba32ce… (all of the seat's roots in one cut). By AI agents, Wed Nov 11 2026. No macro, syntax, notation, axiom, sorry.
-/
import Derived.Test.YtgmifbbimcblcaaChecked
import GoSem.Claim
import GoSem.ClaimJoined
import GoSem.ClaimMapViews
import Derived.JoinedTies
import Derived.KernelRfl
namespace Go.Proofs.Ytgmifbbimcblcaa
/- THE CELL 'sum', in the pinned program and in every row, IS THE sha256 OF THE DUMP (.gsa) THAT YtgmifbbimcblcaaProg.lean LOADS. Nothing in Lean hashes anything: it is a label: what it is worth is what the hold of that sum in a sandbox is worth. -/
noncomputable def Try.pinned : Pinned := { name := "ytgmifbbimcblcaa", sum := "705f9fe3d6ba32ceade4847bc59d0effd4b79ef6e868c0bfd95f5bef2c3386f2", checked := Try.checked }
namespace Rows
def none {H : Type} : Left H := { results := [], args := [] }

/-- 'refectorylaw22.BucketPlays': WHATEVER THE INPUT: true; the input reads as it did. -/
def bucketPlaysSpec : ChangeSpec := { name := "bucketPlays", fn := fun _ => fun
  | [d1, d2, d3] => { results := [.lit (.bool true)], args := [d1, d2, d3] }
  | _ => none }
def bucketPlaysRow : OpenClaim := { program := "ytgmifbbimcblcaa", sum := "705f9fe3d6ba32ceade4847bc59d0effd4b79ef6e868c0bfd95f5bef2c3386f2", func := "refectory/refectorylaw22.BucketPlays", spec := "bucketPlays", unfollowed := true, recurses := true, apart := false }
def BucketPlaysSaid : Prop := bucketPlaysRow.holds Try.pinned (OpenSpec.ofChange bucketPlaysSpec)

/-- ITS FALSE NEIGHBOUR: 'it returns false'. Refute it at one input. -/
def bucketPlaysWrong : ChangeSpec := { name := "bucketPlays", fn := fun _ => fun
  | [d1, d2, d3] => { results := [.lit (.bool false)], args := [d1, d2, d3] }
  | _ => none }
def BucketPlaysWrongFalsely : Prop := bucketPlaysRow.holds Try.pinned (OpenSpec.ofChange bucketPlaysWrong)

/-- 'refectorylaw22.BucketWindow': WHATEVER THE INPUT: true; the input reads as it did. -/
def bucketWindowSpec : ChangeSpec := { name := "bucketWindow", fn := fun _ => fun
  | [d1, d2, d3, d4, d5] => { results := [.lit (.bool true)], args := [d1, d2, d3, d4, d5] }
  | _ => none }
def bucketWindowRow : OpenClaim := { program := "ytgmifbbimcblcaa", sum := "705f9fe3d6ba32ceade4847bc59d0effd4b79ef6e868c0bfd95f5bef2c3386f2", func := "refectory/refectorylaw22.BucketWindow", spec := "bucketWindow", unfollowed := true, recurses := true, apart := false }
def BucketWindowSaid : Prop := bucketWindowRow.holds Try.pinned (OpenSpec.ofChange bucketWindowSpec)

/-- ITS FALSE NEIGHBOUR: 'it returns false'. Refute it at one input. -/
def bucketWindowWrong : ChangeSpec := { name := "bucketWindow", fn := fun _ => fun
  | [d1, d2, d3, d4, d5] => { results := [.lit (.bool false)], args := [d1, d2, d3, d4, d5] }
  | _ => none }
def BucketWindowWrongFalsely : Prop := bucketWindowRow.holds Try.pinned (OpenSpec.ofChange bucketWindowWrong)

/-- 'refectorylaw22.BucketEdges': WHATEVER THE INPUT: true; the input reads as it did. -/
def bucketEdgesSpec : ChangeSpec := { name := "bucketEdges", fn := fun _ => fun
  | [d1, d2, d3] => { results := [.lit (.bool true)], args := [d1, d2, d3] }
  | _ => none }
def bucketEdgesRow : OpenClaim := { program := "ytgmifbbimcblcaa", sum := "705f9fe3d6ba32ceade4847bc59d0effd4b79ef6e868c0bfd95f5bef2c3386f2", func := "refectory/refectorylaw22.BucketEdges", spec := "bucketEdges", unfollowed := true, recurses := true, apart := false }
def BucketEdgesSaid : Prop := bucketEdgesRow.holds Try.pinned (OpenSpec.ofChange bucketEdgesSpec)

/-- ITS FALSE NEIGHBOUR: 'it returns false'. Refute it at one input. -/
def bucketEdgesWrong : ChangeSpec := { name := "bucketEdges", fn := fun _ => fun
  | [d1, d2, d3] => { results := [.lit (.bool false)], args := [d1, d2, d3] }
  | _ => none }
def BucketEdgesWrongFalsely : Prop := bucketEdgesRow.holds Try.pinned (OpenSpec.ofChange bucketEdgesWrong)

/-- 'refectorylaw24.SharePlays': WHATEVER THE INPUT: true; the input reads as it did. -/
def sharePlaysSpec : ChangeSpec := { name := "sharePlays", fn := fun _ => fun
  | [d1, d2, d3] => { results := [.lit (.bool true)], args := [d1, d2, d3] }
  | _ => none }
def sharePlaysRow : OpenClaim := { program := "ytgmifbbimcblcaa", sum := "705f9fe3d6ba32ceade4847bc59d0effd4b79ef6e868c0bfd95f5bef2c3386f2", func := "refectory/refectorylaw24.SharePlays", spec := "sharePlays", apart := false }
def SharePlaysSaid : Prop := sharePlaysRow.holds Try.pinned (OpenSpec.ofChange sharePlaysSpec)

/-- ITS FALSE NEIGHBOUR: 'it returns false'. Refute it at one input. -/
def sharePlaysWrong : ChangeSpec := { name := "sharePlays", fn := fun _ => fun
  | [d1, d2, d3] => { results := [.lit (.bool false)], args := [d1, d2, d3] }
  | _ => none }
def SharePlaysWrongFalsely : Prop := sharePlaysRow.holds Try.pinned (OpenSpec.ofChange sharePlaysWrong)

/-- 'refectorylaw24.ShareFair': WHATEVER THE INPUT: true; the input reads as it did. -/
def shareFairSpec : ChangeSpec := { name := "shareFair", fn := fun _ => fun
  | [d1, d2, d3, d4, d5] => { results := [.lit (.bool true)], args := [d1, d2, d3, d4, d5] }
  | _ => none }
def shareFairRow : OpenClaim := { program := "ytgmifbbimcblcaa", sum := "705f9fe3d6ba32ceade4847bc59d0effd4b79ef6e868c0bfd95f5bef2c3386f2", func := "refectory/refectorylaw24.ShareFair", spec := "shareFair", apart := false }
def ShareFairSaid : Prop := shareFairRow.holds Try.pinned (OpenSpec.ofChange shareFairSpec)

/-- ITS FALSE NEIGHBOUR: 'it returns false'. Refute it at one input. -/
def shareFairWrong : ChangeSpec := { name := "shareFair", fn := fun _ => fun
  | [d1, d2, d3, d4, d5] => { results := [.lit (.bool false)], args := [d1, d2, d3, d4, d5] }
  | _ => none }
def ShareFairWrongFalsely : Prop := shareFairRow.holds Try.pinned (OpenSpec.ofChange shareFairWrong)

/-- 'refectorylaw24.ShareWorks': WHATEVER THE INPUT: true; the input reads as it did. -/
def shareWorksSpec : ChangeSpec := { name := "shareWorks", fn := fun _ => fun
  | [d1, d2, d3] => { results := [.lit (.bool true)], args := [d1, d2, d3] }
  | _ => none }
def shareWorksRow : OpenClaim := { program := "ytgmifbbimcblcaa", sum := "705f9fe3d6ba32ceade4847bc59d0effd4b79ef6e868c0bfd95f5bef2c3386f2", func := "refectory/refectorylaw24.ShareWorks", spec := "shareWorks", apart := false }
def ShareWorksSaid : Prop := shareWorksRow.holds Try.pinned (OpenSpec.ofChange shareWorksSpec)

/-- ITS FALSE NEIGHBOUR: 'it returns false'. Refute it at one input. -/
def shareWorksWrong : ChangeSpec := { name := "shareWorks", fn := fun _ => fun
  | [d1, d2, d3] => { results := [.lit (.bool false)], args := [d1, d2, d3] }
  | _ => none }
def ShareWorksWrongFalsely : Prop := shareWorksRow.holds Try.pinned (OpenSpec.ofChange shareWorksWrong)

/-- 'refectorylaw24.ShareRounds': WHATEVER THE INPUT: true; the input reads as it did. -/
def shareRoundsSpec : ChangeSpec := { name := "shareRounds", fn := fun _ => fun
  | [d1, d2, d3] => { results := [.lit (.bool true)], args := [d1, d2, d3] }
  | _ => none }
def shareRoundsRow : OpenClaim := { program := "ytgmifbbimcblcaa", sum := "705f9fe3d6ba32ceade4847bc59d0effd4b79ef6e868c0bfd95f5bef2c3386f2", func := "refectory/refectorylaw24.ShareRounds", spec := "shareRounds", apart := false }
def ShareRoundsSaid : Prop := shareRoundsRow.holds Try.pinned (OpenSpec.ofChange shareRoundsSpec)

/-- ITS FALSE NEIGHBOUR: 'it returns false'. Refute it at one input. -/
def shareRoundsWrong : ChangeSpec := { name := "shareRounds", fn := fun _ => fun
  | [d1, d2, d3] => { results := [.lit (.bool false)], args := [d1, d2, d3] }
  | _ => none }
def ShareRoundsWrongFalsely : Prop := shareRoundsRow.holds Try.pinned (OpenSpec.ofChange shareRoundsWrong)

/-- 'refectorylaw24.ShareIdle': WHATEVER THE INPUT: true; the input reads as it did. -/
def shareIdleSpec : ChangeSpec := { name := "shareIdle", fn := fun _ => fun
  | [d1, d2, d3] => { results := [.lit (.bool true)], args := [d1, d2, d3] }
  | _ => none }
def shareIdleRow : OpenClaim := { program := "ytgmifbbimcblcaa", sum := "705f9fe3d6ba32ceade4847bc59d0effd4b79ef6e868c0bfd95f5bef2c3386f2", func := "refectory/refectorylaw24.ShareIdle", spec := "shareIdle", apart := false }
def ShareIdleSaid : Prop := shareIdleRow.holds Try.pinned (OpenSpec.ofChange shareIdleSpec)

/-- ITS FALSE NEIGHBOUR: 'it returns false'. Refute it at one input. -/
def shareIdleWrong : ChangeSpec := { name := "shareIdle", fn := fun _ => fun
  | [d1, d2, d3] => { results := [.lit (.bool false)], args := [d1, d2, d3] }
  | _ => none }
def ShareIdleWrongFalsely : Prop := shareIdleRow.holds Try.pinned (OpenSpec.ofChange shareIdleWrong)

/-- 'refectorylaw19.FillFalls': WHATEVER THE INPUT: true; the input reads as it did. -/
def fillFallsSpec : ChangeSpec := { name := "fillFalls", fn := fun _ => fun
  | [d1, d2, d3] => { results := [.lit (.bool true)], args := [d1, d2, d3] }
  | _ => none }
def fillFallsRow : OpenClaim := { program := "ytgmifbbimcblcaa", sum := "705f9fe3d6ba32ceade4847bc59d0effd4b79ef6e868c0bfd95f5bef2c3386f2", func := "refectory/refectorylaw19.FillFalls", spec := "fillFalls", recurses := true, apart := false }
def FillFallsSaid : Prop := fillFallsRow.holds Try.pinned (OpenSpec.ofChange fillFallsSpec)

/-- ITS FALSE NEIGHBOUR: 'it returns false'. Refute it at one input. -/
def fillFallsWrong : ChangeSpec := { name := "fillFalls", fn := fun _ => fun
  | [d1, d2, d3] => { results := [.lit (.bool false)], args := [d1, d2, d3] }
  | _ => none }
def FillFallsWrongFalsely : Prop := fillFallsRow.holds Try.pinned (OpenSpec.ofChange fillFallsWrong)

/-- 'refectorylaw19.FillPaths': WHATEVER THE INPUT: true; the input reads as it did. -/
def fillPathsSpec : ChangeSpec := { name := "fillPaths", fn := fun _ => fun
  | [d1, d2, d3] => { results := [.lit (.bool true)], args := [d1, d2, d3] }
  | _ => none }
def fillPathsRow : OpenClaim := { program := "ytgmifbbimcblcaa", sum := "705f9fe3d6ba32ceade4847bc59d0effd4b79ef6e868c0bfd95f5bef2c3386f2", func := "refectory/refectorylaw19.FillPaths", spec := "fillPaths", recurses := true, apart := false }
def FillPathsSaid : Prop := fillPathsRow.holds Try.pinned (OpenSpec.ofChange fillPathsSpec)

/-- ITS FALSE NEIGHBOUR: 'it returns false'. Refute it at one input. -/
def fillPathsWrong : ChangeSpec := { name := "fillPaths", fn := fun _ => fun
  | [d1, d2, d3] => { results := [.lit (.bool false)], args := [d1, d2, d3] }
  | _ => none }
def FillPathsWrongFalsely : Prop := fillPathsRow.holds Try.pinned (OpenSpec.ofChange fillPathsWrong)

/-- 'refectorylaw19.FillAll': WHATEVER THE INPUT: true; the input reads as it did. -/
def fillAllSpec : ChangeSpec := { name := "fillAll", fn := fun _ => fun
  | [d] => { results := [.lit (.bool true)], args := [d] }
  | _ => none }
def fillAllRow : OpenClaim := { program := "ytgmifbbimcblcaa", sum := "705f9fe3d6ba32ceade4847bc59d0effd4b79ef6e868c0bfd95f5bef2c3386f2", func := "refectory/refectorylaw19.FillAll", spec := "fillAll", recurses := true, loops := true, apart := false }
def FillAllSaid : Prop := fillAllRow.holds Try.pinned (OpenSpec.ofChange fillAllSpec)

/-- ITS FALSE NEIGHBOUR: 'it returns false'. Refute it at one input. -/
def fillAllWrong : ChangeSpec := { name := "fillAll", fn := fun _ => fun
  | [d] => { results := [.lit (.bool false)], args := [d] }
  | _ => none }
def FillAllWrongFalsely : Prop := fillAllRow.holds Try.pinned (OpenSpec.ofChange fillAllWrong)

/-- 'refectorylaw19.FillNumbers': WHATEVER THE INPUT: true; the input reads as it did. -/
def fillNumbersSpec : ChangeSpec := { name := "fillNumbers", fn := fun _ => fun
  | [d] => { results := [.lit (.bool true)], args := [d] }
  | _ => none }
def fillNumbersRow : OpenClaim := { program := "ytgmifbbimcblcaa", sum := "705f9fe3d6ba32ceade4847bc59d0effd4b79ef6e868c0bfd95f5bef2c3386f2", func := "refectory/refectorylaw19.FillNumbers", spec := "fillNumbers", recurses := true, apart := false }
def FillNumbersSaid : Prop := fillNumbersRow.holds Try.pinned (OpenSpec.ofChange fillNumbersSpec)

/-- ITS FALSE NEIGHBOUR: 'it returns false'. Refute it at one input. -/
def fillNumbersWrong : ChangeSpec := { name := "fillNumbers", fn := fun _ => fun
  | [d] => { results := [.lit (.bool false)], args := [d] }
  | _ => none }
def FillNumbersWrongFalsely : Prop := fillNumbersRow.holds Try.pinned (OpenSpec.ofChange fillNumbersWrong)

/- THE SECOND FORM. 'bulk': how many values and letters a reading holds, each counted each time it is reached (what is shared counts as often as it is met; a slice's spare places count too). A statement '..UptoSaid' is the law's where the arguments, and the package variables that the reading takes, are together of bulk at most 1048576: NARROWER than '..Said'. Prove '..Said' where nothing that the law and all that it calls make is longer than what came in: it says more and counts as full. Else prove '..UptoSaid'. A law counts once. -/
mutual
def uptoBulk {H : Type} : DataW H → Nat
  | .lit (.string bytes) => bytes.length + 1
  | .lit _ => 1
  | .nil => 1
  | .ptr d => uptoBulk d + 1
  | .slice elems spare => uptoBulkAll elems + uptoBulkAll spare + 1
  | .agg parts => uptoBulkAll parts + 1
  | .iface _ d => uptoBulk d + 1
  | .map entries => uptoBulkEntries entries + 1
  | .held _ => 1
def uptoBulkAll {H : Type} : List (DataW H) → Nat
  | [] => 0
  | d :: r => uptoBulk d + uptoBulkAll r
def uptoBulkEntries {H : Type} : List (Lit × DataW H) → Nat
  | [] => 0
  | x :: r => uptoBulkEntry x + uptoBulkEntries r
def uptoBulkEntry {H : Type} : Lit × DataW H → Nat
  | (.string bytes, d) => bytes.length + uptoBulk d + 1
  | (_, d) => uptoBulk d + 1
 end
def uptoSmall : (H : Type) → List (DataW H) → Bool := fun _ ds => decide (uptoBulkAll ds ≤ 1048576)
def OpenSpec.upto (s : _root_.Go.ChangeSpec) : _root_.Go.OpenSpec := { _root_.Go.OpenSpec.ofChange s with cond := some uptoSmall }

/-- 'refectorylaw22.BucketPlays', WHERE WHAT IT READS IS OF BULK AT MOST 1048576: true; the input reads as it did. -/
def bucketPlaysUptoRow : OpenClaim := { program := "ytgmifbbimcblcaa", sum := "705f9fe3d6ba32ceade4847bc59d0effd4b79ef6e868c0bfd95f5bef2c3386f2", func := "refectory/refectorylaw22.BucketPlays", spec := "bucketPlays", unfollowed := true, recurses := true, apart := false, narrowed := true }
def BucketPlaysUptoSaid : Prop := bucketPlaysUptoRow.holds Try.pinned (OpenSpec.upto bucketPlaysSpec)

/-- 'refectorylaw22.BucketWindow', WHERE WHAT IT READS IS OF BULK AT MOST 1048576: true; the input reads as it did. -/
def bucketWindowUptoRow : OpenClaim := { program := "ytgmifbbimcblcaa", sum := "705f9fe3d6ba32ceade4847bc59d0effd4b79ef6e868c0bfd95f5bef2c3386f2", func := "refectory/refectorylaw22.BucketWindow", spec := "bucketWindow", unfollowed := true, recurses := true, apart := false, narrowed := true }
def BucketWindowUptoSaid : Prop := bucketWindowUptoRow.holds Try.pinned (OpenSpec.upto bucketWindowSpec)

/-- 'refectorylaw22.BucketEdges', WHERE WHAT IT READS IS OF BULK AT MOST 1048576: true; the input reads as it did. -/
def bucketEdgesUptoRow : OpenClaim := { program := "ytgmifbbimcblcaa", sum := "705f9fe3d6ba32ceade4847bc59d0effd4b79ef6e868c0bfd95f5bef2c3386f2", func := "refectory/refectorylaw22.BucketEdges", spec := "bucketEdges", unfollowed := true, recurses := true, apart := false, narrowed := true }
def BucketEdgesUptoSaid : Prop := bucketEdgesUptoRow.holds Try.pinned (OpenSpec.upto bucketEdgesSpec)

/-- 'refectorylaw24.SharePlays', WHERE WHAT IT READS IS OF BULK AT MOST 1048576: true; the input reads as it did. -/
def sharePlaysUptoRow : OpenClaim := { program := "ytgmifbbimcblcaa", sum := "705f9fe3d6ba32ceade4847bc59d0effd4b79ef6e868c0bfd95f5bef2c3386f2", func := "refectory/refectorylaw24.SharePlays", spec := "sharePlays", apart := false, narrowed := true }
def SharePlaysUptoSaid : Prop := sharePlaysUptoRow.holds Try.pinned (OpenSpec.upto sharePlaysSpec)

/-- 'refectorylaw24.ShareFair', WHERE WHAT IT READS IS OF BULK AT MOST 1048576: true; the input reads as it did. -/
def shareFairUptoRow : OpenClaim := { program := "ytgmifbbimcblcaa", sum := "705f9fe3d6ba32ceade4847bc59d0effd4b79ef6e868c0bfd95f5bef2c3386f2", func := "refectory/refectorylaw24.ShareFair", spec := "shareFair", apart := false, narrowed := true }
def ShareFairUptoSaid : Prop := shareFairUptoRow.holds Try.pinned (OpenSpec.upto shareFairSpec)

/-- 'refectorylaw24.ShareWorks', WHERE WHAT IT READS IS OF BULK AT MOST 1048576: true; the input reads as it did. -/
def shareWorksUptoRow : OpenClaim := { program := "ytgmifbbimcblcaa", sum := "705f9fe3d6ba32ceade4847bc59d0effd4b79ef6e868c0bfd95f5bef2c3386f2", func := "refectory/refectorylaw24.ShareWorks", spec := "shareWorks", apart := false, narrowed := true }
def ShareWorksUptoSaid : Prop := shareWorksUptoRow.holds Try.pinned (OpenSpec.upto shareWorksSpec)

/-- 'refectorylaw24.ShareRounds', WHERE WHAT IT READS IS OF BULK AT MOST 1048576: true; the input reads as it did. -/
def shareRoundsUptoRow : OpenClaim := { program := "ytgmifbbimcblcaa", sum := "705f9fe3d6ba32ceade4847bc59d0effd4b79ef6e868c0bfd95f5bef2c3386f2", func := "refectory/refectorylaw24.ShareRounds", spec := "shareRounds", apart := false, narrowed := true }
def ShareRoundsUptoSaid : Prop := shareRoundsUptoRow.holds Try.pinned (OpenSpec.upto shareRoundsSpec)

/-- 'refectorylaw24.ShareIdle', WHERE WHAT IT READS IS OF BULK AT MOST 1048576: true; the input reads as it did. -/
def shareIdleUptoRow : OpenClaim := { program := "ytgmifbbimcblcaa", sum := "705f9fe3d6ba32ceade4847bc59d0effd4b79ef6e868c0bfd95f5bef2c3386f2", func := "refectory/refectorylaw24.ShareIdle", spec := "shareIdle", apart := false, narrowed := true }
def ShareIdleUptoSaid : Prop := shareIdleUptoRow.holds Try.pinned (OpenSpec.upto shareIdleSpec)

/-- 'refectorylaw19.FillFalls', WHERE WHAT IT READS IS OF BULK AT MOST 1048576: true; the input reads as it did. -/
def fillFallsUptoRow : OpenClaim := { program := "ytgmifbbimcblcaa", sum := "705f9fe3d6ba32ceade4847bc59d0effd4b79ef6e868c0bfd95f5bef2c3386f2", func := "refectory/refectorylaw19.FillFalls", spec := "fillFalls", recurses := true, apart := false, narrowed := true }
def FillFallsUptoSaid : Prop := fillFallsUptoRow.holds Try.pinned (OpenSpec.upto fillFallsSpec)

/-- 'refectorylaw19.FillPaths', WHERE WHAT IT READS IS OF BULK AT MOST 1048576: true; the input reads as it did. -/
def fillPathsUptoRow : OpenClaim := { program := "ytgmifbbimcblcaa", sum := "705f9fe3d6ba32ceade4847bc59d0effd4b79ef6e868c0bfd95f5bef2c3386f2", func := "refectory/refectorylaw19.FillPaths", spec := "fillPaths", recurses := true, apart := false, narrowed := true }
def FillPathsUptoSaid : Prop := fillPathsUptoRow.holds Try.pinned (OpenSpec.upto fillPathsSpec)

/-- 'refectorylaw19.FillAll', WHERE WHAT IT READS IS OF BULK AT MOST 1048576: true; the input reads as it did. -/
def fillAllUptoRow : OpenClaim := { program := "ytgmifbbimcblcaa", sum := "705f9fe3d6ba32ceade4847bc59d0effd4b79ef6e868c0bfd95f5bef2c3386f2", func := "refectory/refectorylaw19.FillAll", spec := "fillAll", recurses := true, loops := true, apart := false, narrowed := true }
def FillAllUptoSaid : Prop := fillAllUptoRow.holds Try.pinned (OpenSpec.upto fillAllSpec)

/-- 'refectorylaw19.FillNumbers', WHERE WHAT IT READS IS OF BULK AT MOST 1048576: true; the input reads as it did. -/
def fillNumbersUptoRow : OpenClaim := { program := "ytgmifbbimcblcaa", sum := "705f9fe3d6ba32ceade4847bc59d0effd4b79ef6e868c0bfd95f5bef2c3386f2", func := "refectory/refectorylaw19.FillNumbers", spec := "fillNumbers", recurses := true, apart := false, narrowed := true }
def FillNumbersUptoSaid : Prop := fillNumbersUptoRow.holds Try.pinned (OpenSpec.upto fillNumbersSpec)

end Rows
end Go.Proofs.Ytgmifbbimcblcaa
