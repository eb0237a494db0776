import Derived.Test.YtocngckbmjfddaaRbC1
import Derived.Test.YtocngckbmjfddaaRbC2
import Derived.Test.YtocngckbmjfddaaRbC3
import Derived.Test.YtocngckbmjfddaaRbC4
set_option linter.all false
set_option linter.unusedVariables false
set_option linter.unusedSimpArgs false
set_option maxRecDepth 100000
namespace T
open Go Go.Aes Go.Proofs

theorem ev_cg (a b : Int) : ∃ H', CE tbC 101 11 [.int .i64 a, .int .i64 b] HT = some (.val (.bool true) H') := by
  apply okT_inv
  have h1 : CE tbC 101 11 [.int .i64 a, .int .i64 b] HT = c11 (CE tbC 100) [.int .i64 a, .int .i64 b] HT (fun v H => some (.val v H)) := by kernel_rfl
  rw [h1]
  obtain ⟨x, hx, hx2⟩ : ∃ x : Nat, a % 14 = (x : Int) ∧ x < 14 := ⟨(a % 14).toNat, by omega, by omega⟩
  obtain ⟨y, hy, hy2⟩ : ∃ y : Nat, b % 3 = (y : Int) ∧ y < 3 := ⟨(b % 3).toNat, by omega, by omega⟩
  have hp := fun (H : AH) => ce_place (l := tbC) (by kernel_rfl) 99 a 14 (by decide) (by decide) H
  have hq := fun (H : AH) => ce_place (l := tbC) (by kernel_rfl) 99 b 3 (by decide) (by decide) H
  rw [hx] at hp
  rw [hy] at hq
  have e13 : CE tbC 100 13 [.int .i64 1] HT = some (.val schV HT) := by kernel_rfl
  have n1 : ∀ k : AV → AH → Option Res, qNew (.cells z24) .ptr HT k = k (.ptr 0 0) (pTc HT (.cells z24)) := fun k => by kernel_rfl
  have s1 : ∀ k : AV → AH → Option Res, qSt 3 (.ptr 0 0) schV (pTc HT (.cells z24)) k = k undef cH1 := fun k => by kernel_rfl
  simp -implicitDefEqProofs only [c11, r11_0, r11_1, r11_2, opn_z, opn_s, sel_z, sel_s, qCd_eq, qIf_true, qIf_false, qFn_eq, qBl_eq, qO_some, qRes_val, qHp_some, qPick_true, qPick_false, qG_tt, qG_ff, qG_tf, qG_ft, cellsK_some, qLd_ptr, qLd_vptr, qLdA_ptr, qLdA_vptr, qFa_ptr, qFa_vptr, qNc_ptr, qNc_vptr, qNc_fn, qNot_bool, qExt_tup, qCallV_fn, qLss_int, qLeq_int, qGtr_int, qGeq_int, qEql_int, qNeq_int, qAdd_int, qSub_int, qMul_int, qConvI_int, qLenL_sl, qLenL_hsl, qLenS_str, foldO, min2_int, max2_int, qSame_refl, Nat.zero_add, List.getElem?_cons_zero, List.getElem?_cons_succ, List.nil_append, List.cons_append, List.append_nil, one_bool, one_int, one_str, one_nilp, one_ptr, one_sl, one_hsl, one_map, one_fn, List.length_cons, List.length_nil, List.set_cons_zero, List.set_cons_succ, Nat.reduceLT, Nat.reduceAdd, e13, n1, s1, hp, hq]
  show okT (cgR a b x y) = true
  have tx : x = 0 ∨ x = 1 ∨ x = 2 ∨ x = 3 ∨ x = 4 ∨ x = 5 ∨ x = 6 ∨ x = 7 ∨ x = 8 ∨ x = 9 ∨ x = 10 ∨ x = 11 ∨ x = 12 ∨ x = 13 := by omega
  have ty : y = 0 ∨ y = 1 ∨ y = 2 := by omega
  clear hx hx2 hy hy2 hp hq h1 e13 n1 s1
  rcases tx with rfl | rfl | rfl | rfl | rfl | rfl | rfl | rfl | rfl | rfl | rfl | rfl | rfl | rfl
  · rcases ty with rfl | rfl | rfl
    · exact cg_0_0 a b
    · exact cg_0_1 a b
    · exact cg_0_2 a b
  · rcases ty with rfl | rfl | rfl
    · exact cg_1_0 a b
    · exact cg_1_1 a b
    · exact cg_1_2 a b
  · rcases ty with rfl | rfl | rfl
    · exact cg_2_0 a b
    · exact cg_2_1 a b
    · exact cg_2_2 a b
  · rcases ty with rfl | rfl | rfl
    · exact cg_3_0 a b
    · exact cg_3_1 a b
    · exact cg_3_2 a b
  · rcases ty with rfl | rfl | rfl
    · exact cg_4_0 a b
    · exact cg_4_1 a b
    · exact cg_4_2 a b
  · rcases ty with rfl | rfl | rfl
    · exact cg_5_0 a b
    · exact cg_5_1 a b
    · exact cg_5_2 a b
  · rcases ty with rfl | rfl | rfl
    · exact cg_6_0 a b
    · exact cg_6_1 a b
    · exact cg_6_2 a b
  · rcases ty with rfl | rfl | rfl
    · exact cg_7_0 a b
    · exact cg_7_1 a b
    · exact cg_7_2 a b
  · rcases ty with rfl | rfl | rfl
    · exact cg_8_0 a b
    · exact cg_8_1 a b
    · exact cg_8_2 a b
  · rcases ty with rfl | rfl | rfl
    · exact cg_9_0 a b
    · exact cg_9_1 a b
    · exact cg_9_2 a b
  · rcases ty with rfl | rfl | rfl
    · exact cg_10_0 a b
    · exact cg_10_1 a b
    · exact cg_10_2 a b
  · rcases ty with rfl | rfl | rfl
    · exact cg_11_0 a b
    · exact cg_11_1 a b
    · exact cg_11_2 a b
  · rcases ty with rfl | rfl | rfl
    · exact cg_12_0 a b
    · exact cg_12_1 a b
    · exact cg_12_2 a b
  · rcases ty with rfl | rfl | rfl
    · exact cg_13_0 a b
    · exact cg_13_1 a b
    · exact cg_13_2 a b

end T
