/-
  No cell of these rows narrows 'for every input' (looked for: loops, veiled, ifaces, maps, wideKeys, modest, calm, conditions, laid).
  DERIVED. THE GIVEN ROWS OF THIS SEAT. 10 by the template 'for every input the law returns true; each argument reads behind the call as it read before'; 0 by the template 'total and deterministic' (their statements: YtocngckbmjfddaaTotals.lean).
  GIVEN WITH THE SEED: the statements are not yours to turn. If you find one false, say at which input.
  Laid BY PROGRAM, IN A SANDBOX (cutbox-rows.mjs): the forced cells as the released guide's own fill.sh prints them over the translation de4c16fe4a3ca182… (all of the seat's roots in one cut). By AI agents, Wed Nov 11 2026. No macro, syntax, notation, axiom, sorry.
-/
import Derived.Test.YtocngckbmjfddaaChecked
import GoSem.Claim
import GoSem.ClaimJoined
import GoSem.ClaimMapViews
import Derived.JoinedTies
import Derived.KernelRfl
namespace Go.Proofs.Ytocngckbmjfddaa
/- THE CELL 'sum', in the pinned program and in every row, IS THE sha256 OF THE DUMP (.gsa) THAT YtocngckbmjfddaaProg.lean LOADS. Nothing in Lean hashes anything: it is a label: what it is worth is what the hold of that sum in a sandbox is worth. -/
noncomputable def Try.pinned : Pinned := { name := "ytocngckbmjfddaa", sum := "de4c16fe4a3ca182b1f60d0d37a183aed8f800d7607d49c5f1decdceab51d38f", checked := Try.checked }
namespace Rows
def none {H : Type} : Left H := { results := [], args := [] }

/-- 'refectorylaw17.CollectSkips': WHATEVER THE INPUT: true; the input reads as it did. -/
def collectSkipsSpec : ChangeSpec := { name := "collectSkips", fn := fun _ => fun
  | [d1, d2] => { results := [.lit (.bool true)], args := [d1, d2] }
  | _ => none }
def collectSkipsRow : OpenClaim := { program := "ytocngckbmjfddaa", sum := "de4c16fe4a3ca182b1f60d0d37a183aed8f800d7607d49c5f1decdceab51d38f", func := "refectory/refectorylaw17.CollectSkips", spec := "collectSkips", unfollowed := true, recurses := true, plainKeys := false, apart := false }
def CollectSkipsSaid : Prop := collectSkipsRow.holds Try.pinned (OpenSpec.ofChange collectSkipsSpec)

/-- ITS FALSE NEIGHBOUR: 'it returns false'. Refute it at one input. -/
def collectSkipsWrong : ChangeSpec := { name := "collectSkips", fn := fun _ => fun
  | [d1, d2] => { results := [.lit (.bool false)], args := [d1, d2] }
  | _ => none }
def CollectSkipsWrongFalsely : Prop := collectSkipsRow.holds Try.pinned (OpenSpec.ofChange collectSkipsWrong)

/-- 'refectorylaw17.CollectOrder': WHATEVER THE INPUT: true; the input reads as it did. -/
def collectOrderSpec : ChangeSpec := { name := "collectOrder", fn := fun _ => fun
  | [d] => { results := [.lit (.bool true)], args := [d] }
  | _ => none }
def collectOrderRow : OpenClaim := { program := "ytocngckbmjfddaa", sum := "de4c16fe4a3ca182b1f60d0d37a183aed8f800d7607d49c5f1decdceab51d38f", func := "refectory/refectorylaw17.CollectOrder", spec := "collectOrder", unfollowed := true, recurses := true, plainKeys := false, apart := false }
def CollectOrderSaid : Prop := collectOrderRow.holds Try.pinned (OpenSpec.ofChange collectOrderSpec)

/-- ITS FALSE NEIGHBOUR: 'it returns false'. Refute it at one input. -/
def collectOrderWrong : ChangeSpec := { name := "collectOrder", fn := fun _ => fun
  | [d] => { results := [.lit (.bool false)], args := [d] }
  | _ => none }
def CollectOrderWrongFalsely : Prop := collectOrderRow.holds Try.pinned (OpenSpec.ofChange collectOrderWrong)

/-- 'refectorylaw12.FragsWrong': WHATEVER THE INPUT: true; the input reads as it did. -/
def fragsWrongSpec : ChangeSpec := { name := "fragsWrong", fn := fun _ => fun
  | [d] => { results := [.lit (.bool true)], args := [d] }
  | _ => none }
def fragsWrongRow : OpenClaim := { program := "ytocngckbmjfddaa", sum := "de4c16fe4a3ca182b1f60d0d37a183aed8f800d7607d49c5f1decdceab51d38f", func := "refectory/refectorylaw12.FragsWrong", spec := "fragsWrong", unfollowed := true, recurses := true, plainKeys := false, apart := false }
def FragsWrongSaid : Prop := fragsWrongRow.holds Try.pinned (OpenSpec.ofChange fragsWrongSpec)

/-- ITS FALSE NEIGHBOUR: 'it returns false'. Refute it at one input. -/
def fragsWrongWrong : ChangeSpec := { name := "fragsWrong", fn := fun _ => fun
  | [d] => { results := [.lit (.bool false)], args := [d] }
  | _ => none }
def FragsWrongWrongFalsely : Prop := fragsWrongRow.holds Try.pinned (OpenSpec.ofChange fragsWrongWrong)

/-- 'refectorylaw12.FragsChains': WHATEVER THE INPUT: true; the input reads as it did. -/
def fragsChainsSpec : ChangeSpec := { name := "fragsChains", fn := fun _ => fun
  | [d1, d2, d3] => { results := [.lit (.bool true)], args := [d1, d2, d3] }
  | _ => none }
def fragsChainsRow : OpenClaim := { program := "ytocngckbmjfddaa", sum := "de4c16fe4a3ca182b1f60d0d37a183aed8f800d7607d49c5f1decdceab51d38f", func := "refectory/refectorylaw12.FragsChains", spec := "fragsChains", unfollowed := true, recurses := true, plainKeys := false, apart := false }
def FragsChainsSaid : Prop := fragsChainsRow.holds Try.pinned (OpenSpec.ofChange fragsChainsSpec)

/-- ITS FALSE NEIGHBOUR: 'it returns false'. Refute it at one input. -/
def fragsChainsWrong : ChangeSpec := { name := "fragsChains", fn := fun _ => fun
  | [d1, d2, d3] => { results := [.lit (.bool false)], args := [d1, d2, d3] }
  | _ => none }
def FragsChainsWrongFalsely : Prop := fragsChainsRow.holds Try.pinned (OpenSpec.ofChange fragsChainsWrong)

/-- 'refectorylaw12.FragsMeets': WHATEVER THE INPUT: true; the input reads as it did. -/
def fragsMeetsSpec : ChangeSpec := { name := "fragsMeets", fn := fun _ => fun
  | [d1, d2] => { results := [.lit (.bool true)], args := [d1, d2] }
  | _ => none }
def fragsMeetsRow : OpenClaim := { program := "ytocngckbmjfddaa", sum := "de4c16fe4a3ca182b1f60d0d37a183aed8f800d7607d49c5f1decdceab51d38f", func := "refectory/refectorylaw12.FragsMeets", spec := "fragsMeets", unfollowed := true, recurses := true, plainKeys := false, apart := false }
def FragsMeetsSaid : Prop := fragsMeetsRow.holds Try.pinned (OpenSpec.ofChange fragsMeetsSpec)

/-- ITS FALSE NEIGHBOUR: 'it returns false'. Refute it at one input. -/
def fragsMeetsWrong : ChangeSpec := { name := "fragsMeets", fn := fun _ => fun
  | [d1, d2] => { results := [.lit (.bool false)], args := [d1, d2] }
  | _ => none }
def FragsMeetsWrongFalsely : Prop := fragsMeetsRow.holds Try.pinned (OpenSpec.ofChange fragsMeetsWrong)

/-- 'refectorylaw14.MergeTwice': WHATEVER THE INPUT: true; the input reads as it did. -/
def mergeTwiceSpec : ChangeSpec := { name := "mergeTwice", fn := fun _ => fun
  | [d1, d2, d3] => { results := [.lit (.bool true)], args := [d1, d2, d3] }
  | _ => none }
def mergeTwiceRow : OpenClaim := { program := "ytocngckbmjfddaa", sum := "de4c16fe4a3ca182b1f60d0d37a183aed8f800d7607d49c5f1decdceab51d38f", func := "refectory/refectorylaw14.MergeTwice", spec := "mergeTwice", unfollowed := true, recurses := true, plainKeys := false, apart := false }
def MergeTwiceSaid : Prop := mergeTwiceRow.holds Try.pinned (OpenSpec.ofChange mergeTwiceSpec)

/-- ITS FALSE NEIGHBOUR: 'it returns false'. Refute it at one input. -/
def mergeTwiceWrong : ChangeSpec := { name := "mergeTwice", fn := fun _ => fun
  | [d1, d2, d3] => { results := [.lit (.bool false)], args := [d1, d2, d3] }
  | _ => none }
def MergeTwiceWrongFalsely : Prop := mergeTwiceRow.holds Try.pinned (OpenSpec.ofChange mergeTwiceWrong)

/-- 'refectorylaw14.MergeKnown': WHATEVER THE INPUT: true; the input reads as it did. -/
def mergeKnownSpec : ChangeSpec := { name := "mergeKnown", fn := fun _ => fun
  | [d] => { results := [.lit (.bool true)], args := [d] }
  | _ => none }
def mergeKnownRow : OpenClaim := { program := "ytocngckbmjfddaa", sum := "de4c16fe4a3ca182b1f60d0d37a183aed8f800d7607d49c5f1decdceab51d38f", func := "refectory/refectorylaw14.MergeKnown", spec := "mergeKnown", unfollowed := true, recurses := true, plainKeys := false, apart := false }
def MergeKnownSaid : Prop := mergeKnownRow.holds Try.pinned (OpenSpec.ofChange mergeKnownSpec)

/-- ITS FALSE NEIGHBOUR: 'it returns false'. Refute it at one input. -/
def mergeKnownWrong : ChangeSpec := { name := "mergeKnown", fn := fun _ => fun
  | [d] => { results := [.lit (.bool false)], args := [d] }
  | _ => none }
def MergeKnownWrongFalsely : Prop := mergeKnownRow.holds Try.pinned (OpenSpec.ofChange mergeKnownWrong)

/-- 'refectorylaw14.MergeDeep': WHATEVER THE INPUT: true; the input reads as it did. -/
def mergeDeepSpec : ChangeSpec := { name := "mergeDeep", fn := fun _ => fun
  | [d1, d2, d3] => { results := [.lit (.bool true)], args := [d1, d2, d3] }
  | _ => none }
def mergeDeepRow : OpenClaim := { program := "ytocngckbmjfddaa", sum := "de4c16fe4a3ca182b1f60d0d37a183aed8f800d7607d49c5f1decdceab51d38f", func := "refectory/refectorylaw14.MergeDeep", spec := "mergeDeep", unfollowed := true, recurses := true, plainKeys := false, apart := false }
def MergeDeepSaid : Prop := mergeDeepRow.holds Try.pinned (OpenSpec.ofChange mergeDeepSpec)

/-- ITS FALSE NEIGHBOUR: 'it returns false'. Refute it at one input. -/
def mergeDeepWrong : ChangeSpec := { name := "mergeDeep", fn := fun _ => fun
  | [d1, d2, d3] => { results := [.lit (.bool false)], args := [d1, d2, d3] }
  | _ => none }
def MergeDeepWrongFalsely : Prop := mergeDeepRow.holds Try.pinned (OpenSpec.ofChange mergeDeepWrong)

/-- 'refectorylaw16.CostGreat': WHATEVER THE INPUT: true; the input reads as it did. -/
def costGreatSpec : ChangeSpec := { name := "costGreat", fn := fun _ => fun
  | [d1, d2] => { results := [.lit (.bool true)], args := [d1, d2] }
  | _ => none }
def costGreatRow : OpenClaim := { program := "ytocngckbmjfddaa", sum := "de4c16fe4a3ca182b1f60d0d37a183aed8f800d7607d49c5f1decdceab51d38f", func := "refectory/refectorylaw16.CostGreat", spec := "costGreat", inPlace := ["internal/bytealg.CountString", "internal/bytealg.IndexByteString", "internal/bytealg.IndexString"], unfollowed := true, recurses := true, named := ["internal/bytealg.MaxLen"], plainKeys := false, apart := false }
def CostGreatSaid : Prop := costGreatRow.holds Try.pinned (OpenSpec.ofChange costGreatSpec)

/-- ITS FALSE NEIGHBOUR: 'it returns false'. Refute it at one input. -/
def costGreatWrong : ChangeSpec := { name := "costGreat", fn := fun _ => fun
  | [d1, d2] => { results := [.lit (.bool false)], args := [d1, d2] }
  | _ => none }
def CostGreatWrongFalsely : Prop := costGreatRow.holds Try.pinned (OpenSpec.ofChange costGreatWrong)

/-- 'refectorylaw16.CostAdds': WHATEVER THE INPUT: true; the input reads as it did. -/
def costAddsSpec : ChangeSpec := { name := "costAdds", fn := fun _ => fun
  | [d1, d2, d3] => { results := [.lit (.bool true)], args := [d1, d2, d3] }
  | _ => none }
def costAddsRow : OpenClaim := { program := "ytocngckbmjfddaa", sum := "de4c16fe4a3ca182b1f60d0d37a183aed8f800d7607d49c5f1decdceab51d38f", func := "refectory/refectorylaw16.CostAdds", spec := "costAdds", inPlace := ["internal/bytealg.CountString", "internal/bytealg.IndexByteString", "internal/bytealg.IndexString"], unfollowed := true, recurses := true, named := ["internal/bytealg.MaxLen"], plainKeys := false, apart := false }
def CostAddsSaid : Prop := costAddsRow.holds Try.pinned (OpenSpec.ofChange costAddsSpec)

/-- ITS FALSE NEIGHBOUR: 'it returns false'. Refute it at one input. -/
def costAddsWrong : ChangeSpec := { name := "costAdds", fn := fun _ => fun
  | [d1, d2, d3] => { results := [.lit (.bool false)], args := [d1, d2, d3] }
  | _ => none }
def CostAddsWrongFalsely : Prop := costAddsRow.holds Try.pinned (OpenSpec.ofChange costAddsWrong)

/- THE SECOND FORM. 'bulk': how many values and letters a reading holds, each counted each time it is reached (what is shared counts as often as it is met; a slice's spare places count too). A statement '..UptoSaid' is the law's where the arguments, and the package variables that the reading takes, are together of bulk at most 1048576: NARROWER than '..Said'. Prove '..Said' where nothing that the law and all that it calls make is longer than what came in: it says more and counts as full. Else prove '..UptoSaid'. A law counts once. -/
mutual
def uptoBulk {H : Type} : DataW H → Nat
  | .lit (.string bytes) => bytes.length + 1
  | .lit _ => 1
  | .nil => 1
  | .ptr d => uptoBulk d + 1
  | .slice elems spare => uptoBulkAll elems + uptoBulkAll spare + 1
  | .agg parts => uptoBulkAll parts + 1
  | .iface _ d => uptoBulk d + 1
  | .map entries => uptoBulkEntries entries + 1
  | .held _ => 1
def uptoBulkAll {H : Type} : List (DataW H) → Nat
  | [] => 0
  | d :: r => uptoBulk d + uptoBulkAll r
def uptoBulkEntries {H : Type} : List (Lit × DataW H) → Nat
  | [] => 0
  | x :: r => uptoBulkEntry x + uptoBulkEntries r
def uptoBulkEntry {H : Type} : Lit × DataW H → Nat
  | (.string bytes, d) => bytes.length + uptoBulk d + 1
  | (_, d) => uptoBulk d + 1
 end
def uptoSmall : (H : Type) → List (DataW H) → Bool := fun _ ds => decide (uptoBulkAll ds ≤ 1048576)
def OpenSpec.upto (s : _root_.Go.ChangeSpec) : _root_.Go.OpenSpec := { _root_.Go.OpenSpec.ofChange s with cond := some uptoSmall }

/-- 'refectorylaw17.CollectSkips', WHERE WHAT IT READS IS OF BULK AT MOST 1048576: true; the input reads as it did. -/
def collectSkipsUptoRow : OpenClaim := { program := "ytocngckbmjfddaa", sum := "de4c16fe4a3ca182b1f60d0d37a183aed8f800d7607d49c5f1decdceab51d38f", func := "refectory/refectorylaw17.CollectSkips", spec := "collectSkips", unfollowed := true, recurses := true, plainKeys := false, apart := false, narrowed := true }
def CollectSkipsUptoSaid : Prop := collectSkipsUptoRow.holds Try.pinned (OpenSpec.upto collectSkipsSpec)

/-- 'refectorylaw17.CollectOrder', WHERE WHAT IT READS IS OF BULK AT MOST 1048576: true; the input reads as it did. -/
def collectOrderUptoRow : OpenClaim := { program := "ytocngckbmjfddaa", sum := "de4c16fe4a3ca182b1f60d0d37a183aed8f800d7607d49c5f1decdceab51d38f", func := "refectory/refectorylaw17.CollectOrder", spec := "collectOrder", unfollowed := true, recurses := true, plainKeys := false, apart := false, narrowed := true }
def CollectOrderUptoSaid : Prop := collectOrderUptoRow.holds Try.pinned (OpenSpec.upto collectOrderSpec)

/-- 'refectorylaw12.FragsWrong', WHERE WHAT IT READS IS OF BULK AT MOST 1048576: true; the input reads as it did. -/
def fragsWrongUptoRow : OpenClaim := { program := "ytocngckbmjfddaa", sum := "de4c16fe4a3ca182b1f60d0d37a183aed8f800d7607d49c5f1decdceab51d38f", func := "refectory/refectorylaw12.FragsWrong", spec := "fragsWrong", unfollowed := true, recurses := true, plainKeys := false, apart := false, narrowed := true }
def FragsWrongUptoSaid : Prop := fragsWrongUptoRow.holds Try.pinned (OpenSpec.upto fragsWrongSpec)

/-- 'refectorylaw12.FragsChains', WHERE WHAT IT READS IS OF BULK AT MOST 1048576: true; the input reads as it did. -/
def fragsChainsUptoRow : OpenClaim := { program := "ytocngckbmjfddaa", sum := "de4c16fe4a3ca182b1f60d0d37a183aed8f800d7607d49c5f1decdceab51d38f", func := "refectory/refectorylaw12.FragsChains", spec := "fragsChains", unfollowed := true, recurses := true, plainKeys := false, apart := false, narrowed := true }
def FragsChainsUptoSaid : Prop := fragsChainsUptoRow.holds Try.pinned (OpenSpec.upto fragsChainsSpec)

/-- 'refectorylaw12.FragsMeets', WHERE WHAT IT READS IS OF BULK AT MOST 1048576: true; the input reads as it did. -/
def fragsMeetsUptoRow : OpenClaim := { program := "ytocngckbmjfddaa", sum := "de4c16fe4a3ca182b1f60d0d37a183aed8f800d7607d49c5f1decdceab51d38f", func := "refectory/refectorylaw12.FragsMeets", spec := "fragsMeets", unfollowed := true, recurses := true, plainKeys := false, apart := false, narrowed := true }
def FragsMeetsUptoSaid : Prop := fragsMeetsUptoRow.holds Try.pinned (OpenSpec.upto fragsMeetsSpec)

/-- 'refectorylaw14.MergeTwice', WHERE WHAT IT READS IS OF BULK AT MOST 1048576: true; the input reads as it did. -/
def mergeTwiceUptoRow : OpenClaim := { program := "ytocngckbmjfddaa", sum := "de4c16fe4a3ca182b1f60d0d37a183aed8f800d7607d49c5f1decdceab51d38f", func := "refectory/refectorylaw14.MergeTwice", spec := "mergeTwice", unfollowed := true, recurses := true, plainKeys := false, apart := false, narrowed := true }
def MergeTwiceUptoSaid : Prop := mergeTwiceUptoRow.holds Try.pinned (OpenSpec.upto mergeTwiceSpec)

/-- 'refectorylaw14.MergeKnown', WHERE WHAT IT READS IS OF BULK AT MOST 1048576: true; the input reads as it did. -/
def mergeKnownUptoRow : OpenClaim := { program := "ytocngckbmjfddaa", sum := "de4c16fe4a3ca182b1f60d0d37a183aed8f800d7607d49c5f1decdceab51d38f", func := "refectory/refectorylaw14.MergeKnown", spec := "mergeKnown", unfollowed := true, recurses := true, plainKeys := false, apart := false, narrowed := true }
def MergeKnownUptoSaid : Prop := mergeKnownUptoRow.holds Try.pinned (OpenSpec.upto mergeKnownSpec)

/-- 'refectorylaw14.MergeDeep', WHERE WHAT IT READS IS OF BULK AT MOST 1048576: true; the input reads as it did. -/
def mergeDeepUptoRow : OpenClaim := { program := "ytocngckbmjfddaa", sum := "de4c16fe4a3ca182b1f60d0d37a183aed8f800d7607d49c5f1decdceab51d38f", func := "refectory/refectorylaw14.MergeDeep", spec := "mergeDeep", unfollowed := true, recurses := true, plainKeys := false, apart := false, narrowed := true }
def MergeDeepUptoSaid : Prop := mergeDeepUptoRow.holds Try.pinned (OpenSpec.upto mergeDeepSpec)

/-- 'refectorylaw16.CostGreat', WHERE WHAT IT READS IS OF BULK AT MOST 1048576: true; the input reads as it did. -/
def costGreatUptoRow : OpenClaim := { program := "ytocngckbmjfddaa", sum := "de4c16fe4a3ca182b1f60d0d37a183aed8f800d7607d49c5f1decdceab51d38f", func := "refectory/refectorylaw16.CostGreat", spec := "costGreat", inPlace := ["internal/bytealg.CountString", "internal/bytealg.IndexByteString", "internal/bytealg.IndexString"], unfollowed := true, recurses := true, named := ["internal/bytealg.MaxLen"], plainKeys := false, apart := false, narrowed := true }
def CostGreatUptoSaid : Prop := costGreatUptoRow.holds Try.pinned (OpenSpec.upto costGreatSpec)

/-- 'refectorylaw16.CostAdds', WHERE WHAT IT READS IS OF BULK AT MOST 1048576: true; the input reads as it did. -/
def costAddsUptoRow : OpenClaim := { program := "ytocngckbmjfddaa", sum := "de4c16fe4a3ca182b1f60d0d37a183aed8f800d7607d49c5f1decdceab51d38f", func := "refectory/refectorylaw16.CostAdds", spec := "costAdds", inPlace := ["internal/bytealg.CountString", "internal/bytealg.IndexByteString", "internal/bytealg.IndexString"], unfollowed := true, recurses := true, named := ["internal/bytealg.MaxLen"], plainKeys := false, apart := false, narrowed := true }
def CostAddsUptoSaid : Prop := costAddsUptoRow.holds Try.pinned (OpenSpec.upto costAddsSpec)

end Rows
end Go.Proofs.Ytocngckbmjfddaa
