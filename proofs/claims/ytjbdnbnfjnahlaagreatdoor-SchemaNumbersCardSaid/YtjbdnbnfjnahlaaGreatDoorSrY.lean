import Derived.Test.YtjbdnbnfjnahlaaGreatDoorSrVX
set_option linter.all false
set_option linter.unusedVariables false
set_option linter.unusedSimpArgs false
set_option maxRecDepth 10000
namespace T
open Go Go.Aes Go.Proofs

/-! ### a place, a schema, a type by a number -/
theorem place_eq (v n : Int) (hn : 0 < n) : (if v.tmod n < 0 then v.tmod n + n else v.tmod n) = v % n := by
  have h1 := Int.tmod_eq_emod (a := v) (b := n)
  have h2 := Int.emod_nonneg v (by omega : n ≠ 0)
  have h3 := Int.emod_lt_of_pos v hn
  split at h1 <;> split <;> omega
theorem ep15 (v n : Int) (hn : 0 < n) (hn2 : n ≤ 4611686018427387904) (H : AH) : EP 15 [.int .i64 v, .int .i64 n] H = some (.val (.int .i64 (v % n)) H) := by
  refine uo_form (X := X) (D := ODs) (O := OFs) (S := PS) (al := [.int .i64 v, .int .i64 n]) e15 xf15 rfl rfl rfl rfl ?_ H
  simp only [AV.kills, AV.kill]
  have h0 := place_eq v n hn
  have hrem := fun k => qRem_int (R := Prop) X 3 .i64 v n k (by omega)
  have h2 := Int.emod_nonneg v (by omega : n ≠ 0)
  have h3 := Int.emod_lt_of_pos v hn
  by_cases h : v.tmod n < 0
  · rw [if_pos h] at h0
    have hi : IntKind.i64.wrap (v.tmod n + n) = v % n := by rw [h0]; exact IntWalk.i64_in _ (by omega)
    simp -implicitDefEqProofs only [c15, r15_0, r15_1, r15_2, r15_3, r15_4, opn_z, opn_s, sel_z, sel_s, qCd_eq, qIf_true, qIf_false, qFn_eq, qBl_eq, qO_some, qRes_val, qHp_some, qPick_true, qPick_false, qG_tt, qG_ff, qG_tf, qG_ft, cellsK_some, qLd_ptr, qLd_vptr, qLdA_ptr, qLdA_vptr, qFa_ptr, qFa_vptr, qNc_ptr, qNc_vptr, qNc_fn, qNot_bool, qExt_tup, qCallV_fn, qLss_int, qLeq_int, qGtr_int, qGeq_int, qEql_int, qNeq_int, qAdd_int, qSub_int, qMul_int, qConvI_int, qLenL_sl, qLenL_hsl, qLenS_str, foldO, min2_int, max2_int, qSame_refl, Nat.zero_add, List.getElem?_cons_zero, List.getElem?_cons_succ, List.nil_append, List.cons_append, List.append_nil, one_bool, one_int, one_str, one_nilp, one_ptr, one_sl, one_hsl, one_map, one_fn, List.length_cons, List.length_nil, List.set_cons_zero, List.set_cons_succ, Nat.reduceLT, Nat.reduceAdd, qG_un, AV.kill, AV.kills, Tk.kill, hrem, h, decide_true, hi]
  · rw [if_neg h] at h0
    simp -implicitDefEqProofs only [c15, r15_0, r15_1, r15_2, r15_3, r15_4, opn_z, opn_s, sel_z, sel_s, qCd_eq, qIf_true, qIf_false, qFn_eq, qBl_eq, qO_some, qRes_val, qHp_some, qPick_true, qPick_false, qG_tt, qG_ff, qG_tf, qG_ft, cellsK_some, qLd_ptr, qLd_vptr, qLdA_ptr, qLdA_vptr, qFa_ptr, qFa_vptr, qNc_ptr, qNc_vptr, qNc_fn, qNot_bool, qExt_tup, qCallV_fn, qLss_int, qLeq_int, qGtr_int, qGeq_int, qEql_int, qNeq_int, qAdd_int, qSub_int, qMul_int, qConvI_int, qLenL_sl, qLenL_hsl, qLenS_str, foldO, min2_int, max2_int, qSame_refl, Nat.zero_add, List.getElem?_cons_zero, List.getElem?_cons_succ, List.nil_append, List.cons_append, List.append_nil, one_bool, one_int, one_str, one_nilp, one_ptr, one_sl, one_hsl, one_map, one_fn, List.length_cons, List.length_nil, List.set_cons_zero, List.set_cons_succ, Nat.reduceLT, Nat.reduceAdd, qG_un, AV.kill, AV.kills, Tk.kill, hrem, h, decide_false]
    rw [h0]

theorem ep6 (v : Int) (H : AH) : EP 6 [.int .i64 v] H = some (.val (sch (decide (v % 4 = 0))) H) := by
  obtain ⟨o, hv⟩ : ∃ o, o = decide (v % 4 = 0) := ⟨_, rfl⟩
  rw [← hv]
  obtain ⟨cs, hcs, h3, ho, hf⟩ := sch_agg o
  have hck : (AV.agg cs).kill = .agg cs := by rw [← hcs]; exact sch_kill o
  refine uo_form (X := X) (D := ODs) (O := OFs) (S := PS) (al := [.int .i64 v]) e6 xf6 rfl rfl rfl (by rw [hcs]; exact hf) ?_ H
  simp only [AV.kills, AV.kill]
  have hp := fun H => ep15 v 4 (by decide) (by decide) H
  have h12 := fun H => ep12 o H
  rw [hcs] at h12 ⊢
  have e1 : ((v % 4 == (0 : Int)) : Bool) = o := by rw [hv]; rfl
  obtain ⟨K0, hK0⟩ : ∃ K, K = H0.push (.cells z24) := ⟨_, rfl⟩
  have i0 : IsFn K0 := by subst hK0; exact inferInstance
  have g0 : K0.get 0 = some (.cells z24) := by subst hK0; simp [get_push_i, H0_nx]
  have n0 : ∀ k : AV → AH → Prop, qNew (.cells z24) .ptr H0 k = k (.ptr 0 0) K0 := fun k => by rw [qNew_i, hK0]; rfl
  have x0 : K0.nx = 1 := by rw [hK0, nx_push_i, H0_nx]
  obtain ⟨K1, hK1⟩ : ∃ K, K = K0.push (.cells z24) := ⟨_, rfl⟩
  have i1 : IsFn K1 := by subst hK1; exact inferInstance
  have g1 : K1.get 1 = some (.cells z24) := by subst hK1; simp [get_push_i, x0]
  have g10 : K1.get 0 = some (.cells z24) := by subst hK1; simp [get_push_i, x0, g0]
  have n1 : ∀ k : AV → AH → Prop, qNew (.cells z24) .ptr K0 k = k (.ptr 1 0) K1 := fun k => by rw [qNew_i, hK1, x0]; rfl
  have s1 := fun (k : AV → AH → Prop) => qSt_whole (n := 3) (l := cs) g1 rfl h3 ho k
  obtain ⟨K2, hK2⟩ : ∃ K, K = K1.set 1 (some (.cells cs)) := ⟨_, rfl⟩
  rw [← hK2] at s1
  have i2 : IsFn K2 := by subst hK2; exact inferInstance
  have y1 : K2.get 1 = some (.cells cs) := by subst hK2; rw [get_set_i (lt_i g1)]; rfl
  have y0 : K2.get 0 = some (.cells z24) := by subst hK2; rw [get_set_i (lt_i g1)]; exact g10
  have l1 := fun (k : AV → Prop) => qLdA_whole (n := 3) y1 h3 k
  have s2 := fun (k : AV → AH → Prop) => qSt_whole (n := 3) (l := cs) y0 rfl h3 ho k
  obtain ⟨K3, hK3⟩ : ∃ K, K = K2.set 0 (some (.cells cs)) := ⟨_, rfl⟩
  rw [← hK3] at s2
  have w0 : K3.get 0 = some (.cells cs) := by subst hK3; rw [get_set_i (lt_i y0)]; rfl
  have l2 := fun (k : AV → Prop) => qLdA_whole (n := 3) w0 h3 k
  cases o with
  | true =>
    simp -implicitDefEqProofs only [if_true, otherT] at h12
    simp -implicitDefEqProofs only [c6, r6_0, r6_1, r6_2, r6_3, r6_4, r6_5, opn_z, opn_s, sel_z, sel_s, qCd_eq, qIf_true, qIf_false, qFn_eq, qBl_eq, qO_some, qRes_val, qHp_some, qPick_true, qPick_false, qG_tt, qG_ff, qG_tf, qG_ft, cellsK_some, qLd_vptr, qLdA_vptr, qFa_ptr, qFa_vptr, qNc_ptr, qNc_vptr, qNc_fn, qNot_bool, qExt_tup, qCallV_fn, qLss_int, qLeq_int, qGtr_int, qGeq_int, qEql_int, qNeq_int, qAdd_int, qSub_int, qMul_int, qConvI_int, qLenL_sl, qLenL_hsl, qLenS_str, foldO, min2_int, max2_int, qSame_refl, Nat.zero_add, List.getElem?_cons_zero, List.getElem?_cons_succ, List.nil_append, List.cons_append, List.append_nil, one_bool, one_int, one_str, one_nilp, one_ptr, one_sl, one_hsl, one_map, one_fn, List.length_cons, List.length_nil, List.set_cons_zero, List.set_cons_succ, Nat.reduceLT, Nat.reduceAdd, qG_un, n0, hp, e1, h12, n1, s1, l1, s2, l2, qPtr_ptr, hck]
  | false =>
    simp -implicitDefEqProofs only [Bool.false_eq_true, if_false, baseT] at h12
    simp -implicitDefEqProofs only [c6, r6_0, r6_1, r6_2, r6_3, r6_4, r6_5, opn_z, opn_s, sel_z, sel_s, qCd_eq, qIf_true, qIf_false, qFn_eq, qBl_eq, qO_some, qRes_val, qHp_some, qPick_true, qPick_false, qG_tt, qG_ff, qG_tf, qG_ft, cellsK_some, qLd_vptr, qLdA_vptr, qFa_ptr, qFa_vptr, qNc_ptr, qNc_vptr, qNc_fn, qNot_bool, qExt_tup, qCallV_fn, qLss_int, qLeq_int, qGtr_int, qGeq_int, qEql_int, qNeq_int, qAdd_int, qSub_int, qMul_int, qConvI_int, qLenL_sl, qLenL_hsl, qLenS_str, foldO, min2_int, max2_int, qSame_refl, Nat.zero_add, List.getElem?_cons_zero, List.getElem?_cons_succ, List.nil_append, List.cons_append, List.append_nil, one_bool, one_int, one_str, one_nilp, one_ptr, one_sl, one_hsl, one_map, one_fn, List.length_cons, List.length_nil, List.set_cons_zero, List.set_cons_succ, Nat.reduceLT, Nat.reduceAdd, qG_un, n0, hp, e1, h12, n1, s1, l1, s2, l2, qPtr_ptr, hck]

/-- a type by a number: its name, what is around it -/
def tn (a : Int) : Str := N12.getD ((a % 1048576).toNat % 12) []
def tw (a : Int) : Str := W8.getD ((a % 1048576).toNat / 12 % 8) []
theorem tn_mem (a : Int) : tn a ∈ N12 := by
  have h : (a % 1048576).toNat % 12 < N12.length := Nat.mod_lt _ (by decide)
  unfold tn
  rw [List.getD_eq_getElem?_getD, List.getElem?_eq_getElem h]; exact List.getElem_mem h
theorem tw_mem (a : Int) : tw a ∈ W8 := by
  have h : (a % 1048576).toNat / 12 % 8 < W8.length := Nat.mod_lt _ (by decide)
  unfold tw
  rw [List.getD_eq_getElem?_getD, List.getElem?_eq_getElem h]; exact List.getElem_mem h
theorem ix12 (i : Nat) (h : i < 12) : indexOf X 43 (.agg (N12.map .str)) (.int .i64 (i : Int)) = some (.str (N12.getD i [])) := by
  have : i = 0 ∨ i = 1 ∨ i = 2 ∨ i = 3 ∨ i = 4 ∨ i = 5 ∨ i = 6 ∨ i = 7 ∨ i = 8 ∨ i = 9 ∨ i = 10 ∨ i = 11 := by omega
  rcases this with rfl | rfl | rfl | rfl | rfl | rfl | rfl | rfl | rfl | rfl | rfl | rfl <;> (show _ = _; kernel_rfl)
theorem ix8 (i : Nat) (h : i < 8) : indexOf X 44 (.agg (W8.map .str)) (.int .i64 (i : Int)) = some (.str (W8.getD i [])) := by
  have : i = 0 ∨ i = 1 ∨ i = 2 ∨ i = 3 ∨ i = 4 ∨ i = 5 ∨ i = 6 ∨ i = 7 := by omega
  rcases this with rfl | rfl | rfl | rfl | rfl | rfl | rfl | rfl <;> (show _ = _; kernel_rfl)
theorem ep7 (a : Int) (H : AH) : EP 7 [.int .i64 a] H = some (.val (ty (tn a) (tw a)) H) := by
  refine uo_form (X := X) (D := ODs) (O := OFs) (S := PS) (al := [.int .i64 a]) e7 xf7 rfl rfl rfl rfl ?_ H
  simp only [AV.kills, AV.kill]
  have hp := fun H => ep15 a 1048576 (by decide) (by decide) H
  have h0 := Int.emod_nonneg a (by decide : (1048576 : Int) ≠ 0)
  have h1 := Int.emod_lt_of_pos a (by decide : (0 : Int) < 1048576)
  unfold tn tw ty
  obtain ⟨k, hk⟩ : ∃ k : Nat, a % 1048576 = (k : Int) := ⟨(a % 1048576).toNat, by omega⟩
  rw [hk] at hp h1 ⊢
  have hkn : ((k : Int)).toNat = k := by simp
  rw [hkn]
  have hr1 := fun k' => qRem_int (R := Prop) X 3 .i64 (k : Int) 12 k' (by decide)
  have hq := fun k' => qQuo_int (R := Prop) X 3 .i64 (k : Int) 12 k' (by decide)
  have e1 : (k : Int).tmod 12 = ((k % 12 : Nat) : Int) := by rw [Int.tmod_eq_emod_of_nonneg (by omega)]; omega
  have e2 : IntKind.i64.wrap ((k : Int).tdiv 12) = ((k / 12 : Nat) : Int) := by
    rw [Int.tdiv_eq_ediv_of_nonneg (by omega)]; exact i64_in' (by omega)
  rw [e1] at hr1
  rw [e2] at hq
  have hr2 := fun k' => qRem_int (R := Prop) X 3 .i64 ((k / 12 : Nat) : Int) 8 k' (by decide)
  have e3 : ((k / 12 : Nat) : Int).tmod 8 = ((k / 12 % 8 : Nat) : Int) := by rw [Int.tmod_eq_emod_of_nonneg (by omega)]; omega
  rw [e3] at hr2
  have hx := ix12 (k % 12) (Nat.mod_lt _ (by decide))
  have hy := ix8 (k / 12 % 8) (Nat.mod_lt _ (by decide))
  obtain ⟨K0, hK0⟩ : ∃ K, K = H0.push (.cells z27) := ⟨_, rfl⟩
  have i0 : IsFn K0 := by subst hK0; exact inferInstance
  have g0 : K0.get 0 = some (.cells z27) := by subst hK0; simp [get_push_i, H0_nx]
  have n0 : ∀ k : AV → AH → Prop, qNew (.cells z27) .ptr H0 k = k (.ptr 0 0) K0 := fun k => by rw [qNew_i, hK0]; rfl
  generalize N12.getD (k % 12) [] = n at *
  generalize W8.getD (k / 12 % 8) [] = w at *
  have s1 := fun (k : AV → AH → Prop) => qSt_whole (n := 2) (l := [.str n, .str w]) g0 rfl rfl rfl k
  obtain ⟨K2, hK2⟩ : ∃ K, K = K0.set 0 (some (.cells [.str n, .str w])) := ⟨_, rfl⟩
  rw [← hK2] at s1
  have y1 : K2.get 0 = some (.cells [.str n, .str w]) := by subst hK2; rw [get_set_i (lt_i g0)]; rfl
  have l1 := fun (k : AV → Prop) => qLdA_whole (n := 2) y1 rfl k
  have b1 : ∀ k : AV → Prop, qBld z43 [(0, 1, (.str [73,110,116])), (1, 1, (.str [83,116,114,105,110,103])), (2, 1, (.str [78,111,100,101])), (3, 1, (.str [65])), (4, 1, (.str [66])), (5, 1, (.str [84,104,105,110,103])), (6, 1, (.str [75,105,110,100])), (7, 1, (.str [73,110])), (8, 1, (.str [81,117,101,114,121])), (9, 1, (.str [65,110,121])), (10, 1, (.str [78,111,110,101])), (11, 1, (.str [76,101,97,102]))] k = k (.agg (N12.map .str)) := fun k => by kernel_rfl
  have b2 : ∀ k : AV → Prop, qBld z44 [(0, 1, (.str [])), (1, 1, (.str [33])), (2, 1, (.str [93])), (3, 1, (.str [93,33])), (4, 1, (.str [33,93])), (5, 1, (.str [33,93,33])), (6, 1, (.str [93,93])), (7, 1, (.str [33,33]))] k = k (.agg (W8.map .str)) := fun k => by kernel_rfl
  have b3 : ∀ k : AV → Prop, qBld z27 [(0, 1, .str n), (1, 1, .str w)] k = k (.agg [.str n, .str w]) := fun k => by kernel_rfl
  simp -implicitDefEqProofs only [c7, r7_0, r7_1, r7_2, opn_z, opn_s, sel_z, sel_s, qCd_eq, qIf_true, qIf_false, qFn_eq, qBl_eq, qO_some, qRes_val, qHp_some, qPick_true, qPick_false, qG_tt, qG_ff, qG_tf, qG_ft, cellsK_some, qLd_vptr, qLdA_vptr, qFa_ptr, qFa_vptr, qNc_ptr, qNc_vptr, qNc_fn, qNot_bool, qExt_tup, qCallV_fn, qLss_int, qLeq_int, qGtr_int, qGeq_int, qEql_int, qNeq_int, qAdd_int, qSub_int, qMul_int, qConvI_int, qLenL_sl, qLenL_hsl, qLenS_str, foldO, min2_int, max2_int, qSame_refl, Nat.zero_add, List.getElem?_cons_zero, List.getElem?_cons_succ, List.nil_append, List.cons_append, List.append_nil, one_bool, one_int, one_str, one_nilp, one_ptr, one_sl, one_hsl, one_map, one_fn, List.length_cons, List.length_nil, List.set_cons_zero, List.set_cons_succ, Nat.reduceLT, Nat.reduceAdd, qG_un, n0, hp, b1, hr1, hx, b2, hq, hr2, hy, b3, s1, l1, qPtr_ptr, AV.kill, AV.kills]
end T
