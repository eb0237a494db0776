import Derived.Test.YtnmljkjdflfdoaaDoorSeatD
import Derived.Test.YtnmljkjdflfdoaaDoorRows
import Derived.Lib.LaidIn
import Derived.Lib.LaidCaseMet
import Derived.Lib.LaidU8T
import Derived.Deep.DeepHandedRow
import Derived.Deep.DeepWitnessRowRef
import Derived.ProofKit
set_option linter.all false
set_option linter.unusedVariables false
set_option maxRecDepth 100000

namespace Go.Proofs
open Go.RowKit Go.Shelf Go.Lib
def Tryd.laysLook_ren : Go.Shelf.Ren := ⟨fun | 274 => 101 | n => n, fun | 21 => 21 | 162 => 130 | 160 => 131 | 3 => 3 | 4 => 4 | 46 => 103 | 0 => 0 | 208 => 137 | 51 => 115 | 206 => 135 | n => n, fun | 13 => 3 | n => n⟩
theorem Tryd.laysLook : Go.Proofs.Lays.n274 Tryd.prog Tryd.laysLook_ren := {
  mixed := by kernel_rfl
  f274 := Tryd.func101.trans (congrArg some (by kernel_rfl))
  t0 := Tryd.underlying0
  a0 := Tryd.isAgg0
  z0 := Tryd.sizeOf0
  v0 := Tryd.zeroValue0
  t3 := Tryd.underlying3
  a3 := Tryd.isAgg3
  z3 := Tryd.sizeOf3
  v3 := Tryd.zeroValue3
  t4 := Tryd.underlying4
  a4 := Tryd.isAgg4
  z4 := Tryd.sizeOf4
  v4 := Tryd.zeroValue4
  t21 := Tryd.underlying21
  a21 := Tryd.isAgg21
  z21 := Tryd.sizeOf21
  v21 := Tryd.zeroValue21
  t46 := Tryd.underlying103
  a46 := Tryd.isAgg103
  z46 := Tryd.sizeOf103
  v46 := Tryd.zeroValue103
  t51 := Tryd.underlying115
  a51 := Tryd.isAgg115
  z51 := Tryd.sizeOf115
  v51 := Tryd.zeroValue115
  t160 := Tryd.underlying131
  a160 := Tryd.isAgg131
  z160 := Tryd.sizeOf131
  v160 := Tryd.zeroValue131
  t162 := Tryd.underlying130
  a162 := Tryd.isAgg130
  z162 := Tryd.sizeOf130
  v162 := Tryd.zeroValue130
  t208 := Tryd.underlying137
  a208 := Tryd.isAgg137
  z208 := Tryd.sizeOf137
  v208 := Tryd.zeroValue137 }


theorem Tryd.caseExtra : CaseExtra Tryd.prog Tryd.laysLook_ren := ⟨by kernel_rfl, by kernel_rfl, by kernel_rfl, by kernel_rfl, by kernel_rfl, by kernel_rfl⟩

theorem laidMet_swap {P : Program} {w : World} {a b c : String × DataW Unit} (h : laidMet P [a, b, c] w) : laidMet P [a, c, b] w := by
  obtain ⟨ps, h1, h2, h3⟩ := h
  obtain ⟨g1, t1, cs1, fuel1, p1, q1, x1, x2, x3, x4, h1, rfl⟩ := h1
  obtain ⟨g2, t2, cs2, fuel2, p2, q2, y1, y2, y3, y4, h1, rfl⟩ := h1
  obtain ⟨g3, t3, cs3, fuel3, p3, q3, z1, z2, z3, z4, h1, rfl⟩ := h1
  obtain rfl : q3 = [] := h1
  have e : (MemPlace.row ⟨g1, 0, none⟩ cs1.size ++ p1 ++ (MemPlace.row ⟨g2, 0, none⟩ cs2.size ++ p2 ++ (MemPlace.row ⟨g3, 0, none⟩ cs3.size ++ p3 ++ []))).Perm
      (MemPlace.row ⟨g1, 0, none⟩ cs1.size ++ p1 ++ (MemPlace.row ⟨g3, 0, none⟩ cs3.size ++ p3 ++ (MemPlace.row ⟨g2, 0, none⟩ cs2.size ++ p2 ++ []))) := by
    refine List.Perm.append_left _ ?_
    rw [List.append_nil, List.append_nil]
    exact List.perm_append_comm
  exact ⟨_, ⟨g1, t1, cs1, fuel1, p1, _, x1, x2, x3, x4, ⟨g3, t3, cs3, fuel3, p3, _, z1, z2, z3, z4, ⟨g2, t2, cs2, fuel2, p2, [], y1, y2, y3, y4, rfl, rfl⟩, rfl⟩, rfl⟩, e.nodup_iff.1 h2, fun b off hp => h3 b off (e.mem_iff.2 hp)⟩
end Go.Proofs
namespace T
open Go Go.Aes Go.Proofs Go.Shelf Go.Lib
/-- a world for the witness, with the table of the cases -/
noncomputable def laidWorld3 (os : Os) : World :=
  let w0 := laidWorld os
  { w0 with heap := (w0.heap.modify 3 fun o => match o with
    | .cells _ t frozen => .cells #[.slice (some ⟨9, 0, none⟩) caseA.size caseA.size] t frozen
    | o => o).push (.cells caseCells5 137 (0, 0)) }

theorem caseEq : Go.Pinned.caseRanges = caseData := by kernel_rfl
theorem laid_met3' (os : Os) (args : Array Value) : laidMet Tryd.prog [("unicode/utf8.acceptRanges", Go.Proofs.YtnmljkjdflfdoaaDoor.Rows.laid_unicode_utf8_acceptRanges), ("unicode.CaseRanges", caseData), ("unicode/utf8.first", Go.Proofs.YtnmljkjdflfdoaaDoor.Rows.laid_unicode_utf8_first)] ((laidWorld3 os).forCall (fun _ _ => 0) ⟨#[], args, []⟩).memory := by
  refine laidMet_swap (laidMet_with_case (l := [("unicode/utf8.acceptRanges", Go.Proofs.YtnmljkjdflfdoaaDoor.Rows.laid_unicode_utf8_acceptRanges), ("unicode/utf8.first", Go.Proofs.YtnmljkjdflfdoaaDoor.Rows.laid_unicode_utf8_first)]) Tryd.laysLook (by kernel_rfl) Tryd.caseExtra 8 (by kernel_rfl) (by kernel_rfl) (by kernel_rfl) 9 137 (by decide) (by kernel_rfl) ?_ ?_)
  · kernel_rfl
  · kernel_rfl
theorem laid_met3 (os : Os) (args : Array Value) : laidMet Tryd.prog [("unicode/utf8.acceptRanges", Go.Proofs.YtnmljkjdflfdoaaDoor.Rows.laid_unicode_utf8_acceptRanges), ("unicode.CaseRanges", Go.Pinned.caseRanges), ("unicode/utf8.first", Go.Proofs.YtnmljkjdflfdoaaDoor.Rows.laid_unicode_utf8_first)] ((laidWorld3 os).forCall (fun _ _ => 0) ⟨#[], args, []⟩).memory := by
  rw [caseEq]; exact laid_met3' os args
theorem rr5 : Tryd.prog.readableRec 5 = true ∧ 5 < Tryd.prog.types.size := ⟨by kernel_rfl, by decide +kernel⟩
end T
