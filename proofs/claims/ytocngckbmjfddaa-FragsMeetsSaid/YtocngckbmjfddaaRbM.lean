import Derived.Test.YtocngckbmjfddaaRbF
set_option linter.all false
set_option linter.unusedVariables false
set_option linter.unusedSimpArgs false
set_option maxRecDepth 100000
namespace T
open Go Go.Aes Go.Proofs

/-- one thing more, in a heap to compute with -/
def pT (H : AH) (o : AO) : AH :=
  match H with
  | .tr h nx => .tr (h.put (some o) 40 nx) (nx + 1)
  | H => H
noncomputable def mH1 : AH := (pT HT (.cells z24)).set 0 (some (.cells schV.cells))
noncomputable def mN : List AV := [.str [81,117,101,114,121], .str [78,111,100,101], .str [65], .str [66], .str [84,104,105,110,103]]
noncomputable def mH2 : AH := (pT mH1 (.cells z70)).set 1 (some (.cells mN))
noncomputable def mK : List AV := [.int .i64 1, .int .i64 6, .int .i64 2, .int .i64 4, .int .i64 6]
noncomputable def mH3 : AH := (pT mH2 (.cells z71)).set 2 (some (.cells mK))

theorem ev_fm (a b : Int) : ∃ H', CE tbF 101 7 [.int .i64 a, .int .i64 b] HT = some (.val (.bool true) H') := by
  apply okT_inv
  have h1 : CE tbF 101 7 [.int .i64 a, .int .i64 b] HT = c7 (CE tbF 100) [.int .i64 a, .int .i64 b] HT (fun v H => some (.val v H)) := by kernel_rfl
  rw [h1]
  obtain ⟨x, hx, hx2⟩ : ∃ x : Nat, a % 5 = (x : Int) ∧ x < 5 := ⟨(a % 5).toNat, by omega, by omega⟩
  obtain ⟨y, hy, hy2⟩ : ∃ y : Nat, b % 5 = (y : Int) ∧ y < 5 := ⟨(b % 5).toNat, by omega, by omega⟩
  have hp := fun (H : AH) => ce_place (l := tbF) (by kernel_rfl) 99 a 5 (by decide) (by decide) H
  have hq := fun (H : AH) => ce_place (l := tbF) (by kernel_rfl) 99 b 5 (by decide) (by decide) H
  rw [hx] at hp
  rw [hy] at hq
  have e13 : CE tbF 100 13 [.int .i64 1] HT = some (.val schV HT) := by kernel_rfl
  have n1 : ∀ k : AV → AH → Option Res, qNew (.cells z24) .ptr HT k = k (.ptr 0 0) (pT HT (.cells z24)) := fun k => by kernel_rfl
  have s1 : ∀ k : AV → AH → Option Res, qSt 3 (.ptr 0 0) schV (pT HT (.cells z24)) k = k undef mH1 := fun k => by kernel_rfl
  have b2 : ∀ k : AV → Option Res, qBld z70 [(0, 1, (.str [81,117,101,114,121])), (1, 1, (.str [78,111,100,101])), (2, 1, (.str [65])), (3, 1, (.str [66])), (4, 1, (.str [84,104,105,110,103]))] k = k (.agg mN) := fun k => by kernel_rfl
  have n2 : ∀ k : AV → AH → Option Res, qNew (.cells z70) .ptr mH1 k = k (.ptr 1 0) (pT mH1 (.cells z70)) := fun k => by kernel_rfl
  have s2 : ∀ k : AV → AH → Option Res, qSt 5 (.ptr 1 0) (.agg mN) (pT mH1 (.cells z70)) k = k undef mH2 := fun k => by kernel_rfl
  have b3 : ∀ k : AV → Option Res, qBld z71 [(0, 1, (.int .i64 1)), (1, 1, (.int .i64 6)), (2, 1, (.int .i64 2)), (3, 1, (.int .i64 4)), (4, 1, (.int .i64 6))] k = k (.agg mK) := fun k => by kernel_rfl
  have n3 : ∀ k : AV → AH → Option Res, qNew (.cells z71) .ptr mH2 k = k (.ptr 2 0) (pT mH2 (.cells z71)) := fun k => by kernel_rfl
  have s3 : ∀ k : AV → AH → Option Res, qSt 5 (.ptr 2 0) (.agg mK) (pT mH2 (.cells z71)) k = k undef mH3 := fun k => by kernel_rfl
  simp -implicitDefEqProofs only [c7, r7_0, r7_1, r7_2, r7_3, r7_4, opn_z, opn_s, sel_z, sel_s, qCd_eq, qIf_true, qIf_false, qFn_eq, qBl_eq, qO_some, qRes_val, qHp_some, qPick_true, qPick_false, qG_tt, qG_ff, qG_tf, qG_ft, cellsK_some, qLd_ptr, qLd_vptr, qLdA_ptr, qLdA_vptr, qFa_ptr, qFa_vptr, qNc_ptr, qNc_vptr, qNc_fn, qNot_bool, qExt_tup, qCallV_fn, qLss_int, qLeq_int, qGtr_int, qGeq_int, qEql_int, qNeq_int, qAdd_int, qSub_int, qMul_int, qConvI_int, qLenL_sl, qLenL_hsl, qLenS_str, foldO, min2_int, max2_int, qSame_refl, Nat.zero_add, List.getElem?_cons_zero, List.getElem?_cons_succ, List.nil_append, List.cons_append, List.append_nil, one_bool, one_int, one_str, one_nilp, one_ptr, one_sl, one_hsl, one_map, one_fn, List.length_cons, List.length_nil, List.set_cons_zero, List.set_cons_succ, Nat.reduceLT, Nat.reduceAdd, e13, n1, s1, b2, n2, s2, b3, n3, s3, hp, hq]
  have tx : x = 0 ∨ x = 1 ∨ x = 2 ∨ x = 3 ∨ x = 4 := by omega
  have ty : y = 0 ∨ y = 1 ∨ y = 2 ∨ y = 3 ∨ y = 4 := by omega
  clear hx hx2 hy hy2 hp hq h1 e13 n1 s1 b2 n2 s2 b3 n3 s3
  rcases tx with rfl | rfl | rfl | rfl | rfl <;> rcases ty with rfl | rfl | rfl | rfl | rfl <;> (refine (?_ : okT _ = true); kernel_rfl)

end T
