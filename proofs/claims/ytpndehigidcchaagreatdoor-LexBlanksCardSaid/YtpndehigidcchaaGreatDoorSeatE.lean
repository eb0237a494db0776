import Derived.Test.YtpndehigidcchaaGreatDoorSeatD
import Derived.Test.YtpndehigidcchaaGreatDoorRows
import Derived.Lib.LaidIn
import Derived.Lib.LaidCaseMet
import Derived.Lib.LaidU8T
import Derived.Deep.DeepHandedRow
import Derived.Deep.DeepWitnessRowRef
import Derived.ProofKit
set_option linter.all false
set_option linter.unusedVariables false
set_option maxRecDepth 100000

namespace Go.Proofs
open Go.RowKit Go.Shelf Go.Lib
def Tryz.laysLook_ren : Go.Shelf.Ren := ⟨fun | 274 => 103 | n => n, fun | 21 => 21 | 162 => 122 | 160 => 123 | 3 => 3 | 4 => 4 | 46 => 96 | 0 => 0 | 208 => 129 | 51 => 110 | 206 => 127 | n => n, fun | 13 => 3 | n => n⟩
theorem Tryz.laysLook : Go.Proofs.Lays.n274 Tryz.prog Tryz.laysLook_ren := {
  mixed := by kernel_rfl
  f274 := Tryz.func103.trans (congrArg some (by kernel_rfl))
  t0 := Tryz.underlying0
  a0 := Tryz.isAgg0
  z0 := Tryz.sizeOf0
  v0 := Tryz.zeroValue0
  t3 := Tryz.underlying3
  a3 := Tryz.isAgg3
  z3 := Tryz.sizeOf3
  v3 := Tryz.zeroValue3
  t4 := Tryz.underlying4
  a4 := Tryz.isAgg4
  z4 := Tryz.sizeOf4
  v4 := Tryz.zeroValue4
  t21 := Tryz.underlying21
  a21 := Tryz.isAgg21
  z21 := Tryz.sizeOf21
  v21 := Tryz.zeroValue21
  t46 := Tryz.underlying96
  a46 := Tryz.isAgg96
  z46 := Tryz.sizeOf96
  v46 := Tryz.zeroValue96
  t51 := Tryz.underlying110
  a51 := Tryz.isAgg110
  z51 := Tryz.sizeOf110
  v51 := Tryz.zeroValue110
  t160 := Tryz.underlying123
  a160 := Tryz.isAgg123
  z160 := Tryz.sizeOf123
  v160 := Tryz.zeroValue123
  t162 := Tryz.underlying122
  a162 := Tryz.isAgg122
  z162 := Tryz.sizeOf122
  v162 := Tryz.zeroValue122
  t208 := Tryz.underlying129
  a208 := Tryz.isAgg129
  z208 := Tryz.sizeOf129
  v208 := Tryz.zeroValue129 }
theorem Tryz.caseExtra : CaseExtra Tryz.prog Tryz.laysLook_ren := ⟨by kernel_rfl, by kernel_rfl, by kernel_rfl, by kernel_rfl, by kernel_rfl, by kernel_rfl⟩
theorem laidMet_swap {P : Program} {w : World} {a b c : String × DataW Unit} (h : laidMet P [a, b, c] w) : laidMet P [a, c, b] w := by
  obtain ⟨ps, h1, h2, h3⟩ := h
  obtain ⟨g1, t1, cs1, fuel1, p1, q1, x1, x2, x3, x4, h1, rfl⟩ := h1
  obtain ⟨g2, t2, cs2, fuel2, p2, q2, y1, y2, y3, y4, h1, rfl⟩ := h1
  obtain ⟨g3, t3, cs3, fuel3, p3, q3, z1, z2, z3, z4, h1, rfl⟩ := h1
  obtain rfl : q3 = [] := h1
  have e : (MemPlace.row ⟨g1, 0, none⟩ cs1.size ++ p1 ++ (MemPlace.row ⟨g2, 0, none⟩ cs2.size ++ p2 ++ (MemPlace.row ⟨g3, 0, none⟩ cs3.size ++ p3 ++ []))).Perm
      (MemPlace.row ⟨g1, 0, none⟩ cs1.size ++ p1 ++ (MemPlace.row ⟨g3, 0, none⟩ cs3.size ++ p3 ++ (MemPlace.row ⟨g2, 0, none⟩ cs2.size ++ p2 ++ []))) := by
    refine List.Perm.append_left _ ?_
    rw [List.append_nil, List.append_nil]
    exact List.perm_append_comm
  exact ⟨_, ⟨g1, t1, cs1, fuel1, p1, _, x1, x2, x3, x4, ⟨g3, t3, cs3, fuel3, p3, _, z1, z2, z3, z4, ⟨g2, t2, cs2, fuel2, p2, [], y1, y2, y3, y4, rfl, rfl⟩, rfl⟩, rfl⟩, e.nodup_iff.1 h2, fun b off hp => h3 b off (e.mem_iff.2 hp)⟩
end Go.Proofs
namespace T
open Go Go.Aes Go.Proofs Go.Shelf Go.Lib
noncomputable def laidWorld3 (os : Os) : World :=
  let w0 := laidWorld os
  { w0 with heap := (w0.heap.modify 3 fun o => match o with
    | .cells _ t frozen => .cells #[.slice (some ⟨9, 0, none⟩) caseA.size caseA.size] t frozen
    | o => o).push (.cells caseCells5 129 (0, 0)) }
theorem caseEq : Go.Pinned.caseRanges = caseData := by kernel_rfl
theorem laid_met3' (os : Os) (args : Array Value) : laidMet Tryz.prog [("unicode/utf8.acceptRanges", Go.Proofs.YtpndehigidcchaaGreatDoor.Rows.laid_unicode_utf8_acceptRanges), ("unicode.CaseRanges", caseData), ("unicode/utf8.first", Go.Proofs.YtpndehigidcchaaGreatDoor.Rows.laid_unicode_utf8_first)] ((laidWorld3 os).forCall (fun _ _ => 0) ⟨#[], args, []⟩).memory := by
  refine laidMet_swap (laidMet_with_case (l := [("unicode/utf8.acceptRanges", Go.Proofs.YtpndehigidcchaaGreatDoor.Rows.laid_unicode_utf8_acceptRanges), ("unicode/utf8.first", Go.Proofs.YtpndehigidcchaaGreatDoor.Rows.laid_unicode_utf8_first)]) Tryz.laysLook (by kernel_rfl) Tryz.caseExtra 8 (by kernel_rfl) (by kernel_rfl) (by kernel_rfl) 9 129 (by decide) (by kernel_rfl) ?_ ?_)
  · kernel_rfl
  · kernel_rfl
theorem laid_met3 (os : Os) (args : Array Value) : laidMet Tryz.prog [("unicode/utf8.acceptRanges", Go.Proofs.YtpndehigidcchaaGreatDoor.Rows.laid_unicode_utf8_acceptRanges), ("unicode.CaseRanges", Go.Pinned.caseRanges), ("unicode/utf8.first", Go.Proofs.YtpndehigidcchaaGreatDoor.Rows.laid_unicode_utf8_first)] ((laidWorld3 os).forCall (fun _ _ => 0) ⟨#[], args, []⟩).memory := by
  rw [caseEq]; exact laid_met3' os args
end T
