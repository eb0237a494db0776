import Derived.Test.YtnmljkjdflfdoaaDoorSeatE
import Derived.Test.YtnmljkjdflfdoaaDoorOrD
set_option linter.all false
set_option linter.unusedVariables false
set_option maxRecDepth 100000
namespace T
open Go Go.Aes Go.Proofs Go.Shelf Go.Lib
open Go.Proofs.YtnmljkjdflfdoaaDoor in
/-- the tables, with that of the cases, out of what the row lists -/
theorem tb3_of {W : World} (hL : laidMet Tryd.prog [("unicode/utf8.acceptRanges", Rows.laid_unicode_utf8_acceptRanges), ("unicode.CaseRanges", Go.Pinned.caseRanges), ("unicode/utf8.first", Rows.laid_unicode_utf8_first)] W) : Tb3 W.heap.size W := by
  have h1 : Tb W.heap.size W := tb_of hL (.tail _ (.tail _ (.head _))) (.head _)
  have h2 : VarReads Tryd.prog W "unicode.CaseRanges" Go.Pinned.caseRanges := Lib.laidMet.reads hL (.tail _ (.head _))
  rw [caseEq] at h2
  exact Tb3.of h1 (caseVar_of_reads Tryd.laysLook (by kernel_rfl) Tryd.caseExtra h2)
end T
