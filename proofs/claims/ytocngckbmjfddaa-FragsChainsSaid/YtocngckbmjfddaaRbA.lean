import Derived.Test.YtocngckbmjfddaaRbS
set_option linter.all false
set_option linter.unusedVariables false
set_option linter.unusedSimpArgs false
set_option maxRecDepth 100000
namespace T
open Go Go.Aes Go.Proofs

noncomputable def tb0 : List Ent := [⟨13, [.int .i64 1], schV⟩]
theorem tb0_ok : ∀ e ∈ tb0, PEnt Try.prog e.g e.as e.v := by
  intro e h
  rcases List.mem_cons.1 h with rfl | h
  · exact sch_ent
  · cases h

/-! ### a place -/
theorem place_eq (v n : Int) (hn : 0 < n) : (if v.tmod n < 0 then v.tmod n + n else v.tmod n) = v % n := by
  have h1 := Int.tmod_eq_emod (a := v) (b := n)
  have h2 := Int.emod_nonneg v (by omega : n ≠ 0)
  have h3 := Int.emod_lt_of_pos v hn
  split at h1 <;> split <;> omega

theorem place_c (C : CallF) (v n : Int) (hn : 0 < n) (hn2 : n ≤ 4611686018427387904) (H : AH) (k : AV → AH → Option Res) : c14 C [.int .i64 v, .int .i64 n] H k = k (.int .i64 (v % n)) H := by
  have h0 := place_eq v n hn
  have hrem := fun k => qRem_int (R := Option Res) X 3 .i64 v n k (by omega)
  have h2 := Int.emod_nonneg v (by omega : n ≠ 0)
  have h3 := Int.emod_lt_of_pos v hn
  by_cases h : v.tmod n < 0
  · rw [if_pos h] at h0
    have hi : IntKind.i64.wrap (v.tmod n + n) = v % n := by rw [h0]; exact IntWalk.i64_in _ (by omega)
    simp -implicitDefEqProofs only [c14, r14_0, r14_1, r14_2, r14_3, r14_4, opn_z, opn_s, sel_z, sel_s, qCd_eq, qIf_true, qIf_false, qFn_eq, qBl_eq, qO_some, qRes_val, qHp_some, qPick_true, qPick_false, qG_tt, qG_ff, qG_tf, qG_ft, cellsK_some, qLd_ptr, qLd_vptr, qLdA_ptr, qLdA_vptr, qFa_ptr, qFa_vptr, qNc_ptr, qNc_vptr, qNc_fn, qNot_bool, qExt_tup, qCallV_fn, qLss_int, qLeq_int, qGtr_int, qGeq_int, qEql_int, qNeq_int, qAdd_int, qSub_int, qMul_int, qConvI_int, qLenL_sl, qLenL_hsl, qLenS_str, foldO, min2_int, max2_int, qSame_refl, Nat.zero_add, List.getElem?_cons_zero, List.getElem?_cons_succ, List.nil_append, List.cons_append, List.append_nil, one_bool, one_int, one_str, one_nilp, one_ptr, one_sl, one_hsl, one_map, one_fn, List.length_cons, List.length_nil, List.set_cons_zero, List.set_cons_succ, Nat.reduceLT, Nat.reduceAdd, hrem, h, decide_true, hi]
  · rw [if_neg h] at h0
    simp -implicitDefEqProofs only [c14, r14_0, r14_1, r14_2, r14_3, r14_4, opn_z, opn_s, sel_z, sel_s, qCd_eq, qIf_true, qIf_false, qFn_eq, qBl_eq, qO_some, qRes_val, qHp_some, qPick_true, qPick_false, qG_tt, qG_ff, qG_tf, qG_ft, cellsK_some, qLd_ptr, qLd_vptr, qLdA_ptr, qLdA_vptr, qFa_ptr, qFa_vptr, qNc_ptr, qNc_vptr, qNc_fn, qNot_bool, qExt_tup, qCallV_fn, qLss_int, qLeq_int, qGtr_int, qGeq_int, qEql_int, qNeq_int, qAdd_int, qSub_int, qMul_int, qConvI_int, qLenL_sl, qLenL_hsl, qLenS_str, foldO, min2_int, max2_int, qSame_refl, Nat.zero_add, List.getElem?_cons_zero, List.getElem?_cons_succ, List.nil_append, List.cons_append, List.append_nil, one_bool, one_int, one_str, one_nilp, one_ptr, one_sl, one_hsl, one_map, one_fn, List.length_cons, List.length_nil, List.set_cons_zero, List.set_cons_succ, Nat.reduceLT, Nat.reduceAdd, hrem, h, decide_false]
    rw [h0]

theorem ce_place {l : List Ent} (hl : (l.all fun e => !(14 : Nat).beq e.g) = true) (n : Nat) (v k : Int) (hn : 0 < k) (hn2 : k ≤ 4611686018427387904) (H : AH) : CE l (n + 1) 14 [.int .i64 v, .int .i64 k] H = some (.val (.int .i64 (v % k)) H) := by
  have h0 : tabO l 14 [.int .i64 v, .int .i64 k] H = none := by
    induction l with
    | nil => rfl
    | cons e r ih =>
      simp only [List.all_cons, Bool.and_eq_true] at hl
      unfold tabO
      have : (14 : Nat).beq e.g = false := by simpa using hl.1
      rw [this]
      exact ih hl.2
  show (match tabO l 14 [.int .i64 v, .int .i64 k] H with
    | some r => some r
    | none => runT cT 14 (CE l n) [.int .i64 v, .int .i64 k] H) = _
  rw [h0]
  have h1 : runT cT 14 (CE l n) [.int .i64 v, .int .i64 k] H = c14 (CE l n) [.int .i64 v, .int .i64 k] H (fun v H => some (.val v H)) := by kernel_rfl
  show runT cT 14 (CE l n) [.int .i64 v, .int .i64 k] H = _
  rw [h1, place_c _ v k hn hn2]

end T
