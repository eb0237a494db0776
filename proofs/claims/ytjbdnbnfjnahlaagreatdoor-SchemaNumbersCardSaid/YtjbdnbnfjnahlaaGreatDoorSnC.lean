import Derived.Test.YtjbdnbnfjnahlaaGreatDoorSnB
set_option linter.all false
set_option linter.unusedVariables false
set_option linter.unusedSimpArgs false
set_option maxRecDepth 100000
namespace T
open Go Go.Aes Go.Proofs

set_option maxHeartbeats 2000000 in
theorem ep91 (o : Bool) {n1 n2 : Str} (m1 : n1 ∈ N12) (m2 : n2 ∈ N12) : ∀ (n : Nat) (wa wb : Str), wa.length + wb.length < n → n < 1000 → ∀ H, E2 91 [sch o, ty n1 wa, ty n2 wb] H = some (.val (.bool (subR (cR o n1 n2) n wa wb)) H) := by
  obtain ⟨cs, hcs, h3, ho, hf⟩ := sch_agg o
  obtain ⟨b1, c1, d1, e1, k1, f1, p1, p2, p3, p4, q1⟩ := find_n o m1
  obtain ⟨b2, c2, d2, e2, k2, f2, r1, r2, r3, r4, q2⟩ := find_n o m2
  have q12 := q1 _ m2
  have q21 := q2 _ m1
  have hck : (AV.agg cs).kill = .agg cs := by rw [← hcs]; exact sch_kill o
  rw [hcs] at f1 f2
  intro n
  induction n with
  | zero => intro wa wb h; omega
  | succ n ih =>
  intro wa wb hn hn2 H
  have hla : wa.length < 1000 := by omega
  have hlb : wb.length < 1000 := by omega
  rw [hcs] at ih ⊢
  have hks : AV.kills [.agg cs, ty n1 wa, ty n2 wb] = [.agg cs, ty n1 wa, ty n2 wb] := by simp only [AV.kills, hck]; rfl
  refine uo_form (X := X) (D := D2) (O := O2) (S := PS2) (al := [.agg cs, ty n1 wa, ty n2 wb]) e91 xf91 rfl rfl (by rw [hks]; simp [AV.frees, hf, ty, AV.free]) rfl ?_ H
  rw [hks]
  obtain ⟨K, hK⟩ : ∃ K, K = ((H0.push (.cells cs)).push (.cells [.str n1, .str wa])).push (.cells [.str n2, .str wb]) := ⟨_, rfl⟩
  have iK : IsFn K := by subst hK; exact inferInstance
  have g0 : K.get 0 = some (.cells cs) := by subst hK; simp [get_push_i, nx_push_i, H0_nx]
  have g1 : K.get 1 = some (.cells [.str n1, .str wa]) := by subst hK; simp [get_push_i, nx_push_i, H0_nx]
  have g2 : K.get 2 = some (.cells [.str n2, .str wb]) := by subst hK; simp [get_push_i, nx_push_i, H0_nx]
  have x0 : K.nx = 3 := by subst hK; simp [nx_push_i, H0_nx]
  have l0 := fun (k : AV → Prop) => ldA (n := 3) g0 0 (l := cs) (slice_whole cs 3 h3) k
  have l1 := fun (k : AV → Prop) => ldA (n := 2) g1 0 (l := [.str n1, .str wa]) rfl k
  have l2 := fun (k : AV → Prop) => ldA (n := 2) g2 0 (l := [.str n2, .str wb]) rfl k
  have t1 := ep112 n1 wa hla
  have t2 := ep112 n2 wb hlb
  have u1 := ep115 n1 wa hla
  have u2 := ep115 n2 wb hlb
  have ia := fun (wa' wb' : Str) (h : wa'.length + wb'.length < n) (H : AH) => ih wa' wb' h (by omega) H
  unfold ty at t1 t2 u1 u2 ia ⊢
  have hb0 : ∀ k : AV → AH → Prop, qBox (.agg cs) H0 k = k (.ptr 0 0) (H0.push (.cells cs)) := fun k => by rw [qBox_i, cells_agg, ho]; rfl
  have hb1 : ∀ k : AV → AH → Prop, qBox (.agg [.str n1, .str wa]) (H0.push (.cells cs)) k = k (.ptr 1 0) ((H0.push (.cells cs)).push (.cells [.str n1, .str wa])) := fun k => by rw [qBox_i]; rfl
  have hb2 : ∀ k : AV → AH → Prop, qBox (.agg [.str n2, .str wb]) ((H0.push (.cells cs)).push (.cells [.str n1, .str wa])) k = k (.ptr 2 0) K := fun k => by rw [qBox_i, hK]; rfl
  have hla' := ini_len wa
  have hlb' := ini_len wb
  rw [subR]
  by_cases c33 : lst wb = 33
  · have p33 := lst_pos c33 (by decide)
    by_cases a33 : lst wa = 33
    · have i1 := ia (ini wa) (ini wb) (by omega)
      simp -implicitDefEqProofs only [c91, r91_0, r91_1, r91_2, opn_z, opn_s, sel_z, sel_s, qCd_eq, qIf_true, qIf_false, qFn_eq, qBl_eq, qO_some, qRes_val, qHp_some, qPick_true, qPick_false, qG_tt, qG_ff, qG_tf, qG_ft, cellsK_some, qLd_vptr, qLdA_vptr, qFa_ptr, qFa_vptr, qNc_ptr, qNc_vptr, qNc_fn, qNot_bool, qExt_tup, qCallV_fn, qLss_int, qLeq_int, qGtr_int, qGeq_int, qEql_int, qNeq_int, qAdd_int, qSub_int, qMul_int, qConvI_int, qLenL_sl, qLenL_hsl, qLenS_str, foldO, min2_int, max2_int, qSame_refl, Nat.zero_add, List.getElem?_cons_zero, List.getElem?_cons_succ, List.nil_append, List.cons_append, List.append_nil, one_bool, one_int, one_str, one_nilp, one_ptr, one_sl, one_hsl, one_map, one_fn, List.length_cons, List.length_nil, List.set_cons_zero, List.set_cons_succ, Nat.reduceLT, Nat.reduceAdd, qG_un, hb0, hb1, hb2, l0, l1, l2, t1, t2, u1, u2, u8_33, c33, a33, decide_true, i1, if_true, Bool.true_and, AV.kill]
    · simp -implicitDefEqProofs only [c91, r91_0, r91_1, r91_2, opn_z, opn_s, sel_z, sel_s, qCd_eq, qIf_true, qIf_false, qFn_eq, qBl_eq, qO_some, qRes_val, qHp_some, qPick_true, qPick_false, qG_tt, qG_ff, qG_tf, qG_ft, cellsK_some, qLd_vptr, qLdA_vptr, qFa_ptr, qFa_vptr, qNc_ptr, qNc_vptr, qNc_fn, qNot_bool, qExt_tup, qCallV_fn, qLss_int, qLeq_int, qGtr_int, qGeq_int, qEql_int, qNeq_int, qAdd_int, qSub_int, qMul_int, qConvI_int, qLenL_sl, qLenL_hsl, qLenS_str, foldO, min2_int, max2_int, qSame_refl, Nat.zero_add, List.getElem?_cons_zero, List.getElem?_cons_succ, List.nil_append, List.cons_append, List.append_nil, one_bool, one_int, one_str, one_nilp, one_ptr, one_sl, one_hsl, one_map, one_fn, List.length_cons, List.length_nil, List.set_cons_zero, List.set_cons_succ, Nat.reduceLT, Nat.reduceAdd, qG_un, hb0, hb1, hb2, l0, l1, l2, t1, t2, u8_33, c33, a33, decide_true, decide_false, if_true, Bool.false_and, AV.kill]
  · by_cases a33 : lst wa = 33
    · have p33 := lst_pos a33 (by decide)
      have i1 := ia (ini wa) wb (by omega)
      simp -implicitDefEqProofs only [c91, r91_0, r91_1, r91_3, r91_4, opn_z, opn_s, sel_z, sel_s, qCd_eq, qIf_true, qIf_false, qFn_eq, qBl_eq, qO_some, qRes_val, qHp_some, qPick_true, qPick_false, qG_tt, qG_ff, qG_tf, qG_ft, cellsK_some, qLd_vptr, qLdA_vptr, qFa_ptr, qFa_vptr, qNc_ptr, qNc_vptr, qNc_fn, qNot_bool, qExt_tup, qCallV_fn, qLss_int, qLeq_int, qGtr_int, qGeq_int, qEql_int, qNeq_int, qAdd_int, qSub_int, qMul_int, qConvI_int, qLenL_sl, qLenL_hsl, qLenS_str, foldO, min2_int, max2_int, qSame_refl, Nat.zero_add, List.getElem?_cons_zero, List.getElem?_cons_succ, List.nil_append, List.cons_append, List.append_nil, one_bool, one_int, one_str, one_nilp, one_ptr, one_sl, one_hsl, one_map, one_fn, List.length_cons, List.length_nil, List.set_cons_zero, List.set_cons_succ, Nat.reduceLT, Nat.reduceAdd, qG_un, hb0, hb1, hb2, l0, l1, l2, t1, t2, u1, u2, u8_33, c33, a33, decide_true, decide_false, i1, if_true, if_false, AV.kill]
    · by_cases a93 : lst wa = 93
      · have p93 := lst_pos a93 (by decide)
        by_cases c93 : lst wb = 93
        · have i1 := ia (ini wa) (ini wb) (by omega)
          have hq : (((lst wa).toNat : Int) == ((lst wb).toNat : Int)) = true := by rw [u8_eq, a93, c93]; rfl
          have a93d : decide (lst wa = 93) = true := by rw [a93]; rfl
          simp -implicitDefEqProofs only [c91, r91_0, r91_1, r91_3, r91_5, r91_6, opn_z, opn_s, sel_z, sel_s, qCd_eq, qIf_true, qIf_false, qFn_eq, qBl_eq, qO_some, qRes_val, qHp_some, qPick_true, qPick_false, qG_tt, qG_ff, qG_tf, qG_ft, cellsK_some, qLd_vptr, qLdA_vptr, qFa_ptr, qFa_vptr, qNc_ptr, qNc_vptr, qNc_fn, qNot_bool, qExt_tup, qCallV_fn, qLss_int, qLeq_int, qGtr_int, qGeq_int, qEql_int, qNeq_int, qAdd_int, qSub_int, qMul_int, qConvI_int, qLenL_sl, qLenL_hsl, qLenS_str, foldO, min2_int, max2_int, qSame_refl, Nat.zero_add, List.getElem?_cons_zero, List.getElem?_cons_succ, List.nil_append, List.cons_append, List.append_nil, one_bool, one_int, one_str, one_nilp, one_ptr, one_sl, one_hsl, one_map, one_fn, List.length_cons, List.length_nil, List.set_cons_zero, List.set_cons_succ, Nat.reduceLT, Nat.reduceAdd, qG_un, hb0, hb1, hb2, l0, l1, l2, t1, t2, u1, u2, u8_33, u8_93, c33, a33, a93d, hq, decide_true, decide_false, i1]
          simp [a93, c93, AV.kill]
        · have hq : (((lst wa).toNat : Int) == ((lst wb).toNat : Int)) = false := by rw [u8_eq, a93]; exact decide_eq_false (fun h => c93 h.symm)
          have hd : ¬ lst wa = lst wb := by rw [a93]; exact fun h => c93 h.symm
          have a93d : decide (lst wa = 93) = true := by rw [a93]; rfl
          simp -implicitDefEqProofs only [c91, r91_0, r91_1, r91_3, r91_5, r91_6, opn_z, opn_s, sel_z, sel_s, qCd_eq, qIf_true, qIf_false, qFn_eq, qBl_eq, qO_some, qRes_val, qHp_some, qPick_true, qPick_false, qG_tt, qG_ff, qG_tf, qG_ft, cellsK_some, qLd_vptr, qLdA_vptr, qFa_ptr, qFa_vptr, qNc_ptr, qNc_vptr, qNc_fn, qNot_bool, qExt_tup, qCallV_fn, qLss_int, qLeq_int, qGtr_int, qGeq_int, qEql_int, qNeq_int, qAdd_int, qSub_int, qMul_int, qConvI_int, qLenL_sl, qLenL_hsl, qLenS_str, foldO, min2_int, max2_int, qSame_refl, Nat.zero_add, List.getElem?_cons_zero, List.getElem?_cons_succ, List.nil_append, List.cons_append, List.append_nil, one_bool, one_int, one_str, one_nilp, one_ptr, one_sl, one_hsl, one_map, one_fn, List.length_cons, List.length_nil, List.set_cons_zero, List.set_cons_succ, Nat.reduceLT, Nat.reduceAdd, qG_un, hb0, hb1, hb2, l0, l1, l2, t1, t2, u8_33, u8_93, c33, a33, a93d, hq, decide_true, decide_false]
          simp [a93, c93, hd, AV.kill]
          exact fun h => absurd h.symm c93
      · by_cases c93 : lst wb = 93
        · have hq : (((lst wa).toNat : Int) == ((lst wb).toNat : Int)) = false := by rw [u8_eq, c93]; exact decide_eq_false a93
          have c93d : decide (lst wb = 93) = true := by rw [c93]; rfl
          have a93d : decide (lst wa = 93) = false := decide_eq_false a93
          have c33d : decide (lst wb = 33) = false := decide_eq_false c33
          have a33d : decide (lst wa = 33) = false := decide_eq_false a33
          simp -implicitDefEqProofs only [c91, r91_0, r91_1, r91_3, r91_5, r91_6, opn_z, opn_s, sel_z, sel_s, qCd_eq, qIf_true, qIf_false, qFn_eq, qBl_eq, qO_some, qRes_val, qHp_some, qPick_true, qPick_false, qG_tt, qG_ff, qG_tf, qG_ft, cellsK_some, qLd_vptr, qLdA_vptr, qFa_ptr, qFa_vptr, qNc_ptr, qNc_vptr, qNc_fn, qNot_bool, qExt_tup, qCallV_fn, qLss_int, qLeq_int, qGtr_int, qGeq_int, qEql_int, qNeq_int, qAdd_int, qSub_int, qMul_int, qConvI_int, qLenL_sl, qLenL_hsl, qLenS_str, foldO, min2_int, max2_int, qSame_refl, Nat.zero_add, List.getElem?_cons_zero, List.getElem?_cons_succ, List.nil_append, List.cons_append, List.append_nil, one_bool, one_int, one_str, one_nilp, one_ptr, one_sl, one_hsl, one_map, one_fn, List.length_cons, List.length_nil, List.set_cons_zero, List.set_cons_succ, Nat.reduceLT, Nat.reduceAdd, qG_un, hb0, hb1, hb2, l0, l1, l2, t1, t2, u8_33, u8_93, c33d, a33d, a93d, c93d, hq]
          simp [c93, a93, a33, AV.kill]
        · have y1 := fun (k : AV → Prop) => ld1 g1 0 (.str n1) rfl k
          have y2 := fun (k : AV → Prop) => ld1 g2 0 (.str n2) rfl k
          have hno : ¬ (lst wa = 93 ∨ lst wb = 93) := fun h => h.elim a93 c93
          rw [if_neg c33, if_neg a33, if_neg hno]
          unfold cR
          by_cases hnn : n1 = n2
          · rw [if_pos hnn]
            have hnd : decide (n1 = n2) = true := by simp [hnn]
            simp -implicitDefEqProofs only [c91, r91_0, r91_1, r91_3, r91_5, r91_7, r91_8, opn_z, opn_s, sel_z, sel_s, qCd_eq, qIf_true, qIf_false, qFn_eq, qBl_eq, qO_some, qRes_val, qHp_some, qPick_true, qPick_false, qG_tt, qG_ff, qG_tf, qG_ft, cellsK_some, qLd_vptr, qLdA_vptr, qFa_ptr, qFa_vptr, qNc_ptr, qNc_vptr, qNc_fn, qNot_bool, qExt_tup, qCallV_fn, qLss_int, qLeq_int, qGtr_int, qGeq_int, qEql_int, qNeq_int, qAdd_int, qSub_int, qMul_int, qConvI_int, qLenL_sl, qLenL_hsl, qLenS_str, foldO, min2_int, max2_int, qSame_refl, Nat.zero_add, List.getElem?_cons_zero, List.getElem?_cons_succ, List.nil_append, List.cons_append, List.append_nil, one_bool, one_int, one_str, one_nilp, one_ptr, one_sl, one_hsl, one_map, one_fn, List.length_cons, List.length_nil, List.set_cons_zero, List.set_cons_succ, Nat.reduceLT, Nat.reduceAdd, qG_un, hb0, hb1, hb2, l0, l1, l2, t1, t2, y1, y2, u8_33, u8_93, c33, a33, a93, c93, qEql_str, hnd, decide_true, decide_false, AV.kill]
          · rw [if_neg hnn]
            have hnd : decide (n1 = n2) = false := by simp [hnn]
            obtain ⟨K1, hK1⟩ : ∃ K', K' = (K.push (.cells z71)).set 3 (some (.cells [.int .i64 (kn o n1), b1, c1, d1, e1])) := ⟨_, rfl⟩
            have j3 : (K.push (.cells z71)).get 3 = some (.cells z71) := by rw [← x0]; exact get_push_at _
            have nn3 : ∀ k : AV → AH → Prop, qNew (.cells z71) .ptr K k = k (.ptr 3 0) (K.push (.cells z71)) := fun k => by rw [qNew_i, x0]; rfl
            have ss3 : ∀ k : AV → AH → Prop, qSt 5 (.ptr 3 0) (.agg [.int .i64 (kn o n1), b1, c1, d1, e1]) (K.push (.cells z71)) k = k undef K1 := fun k => by rw [hK1]; exact qSt_whole (n := 5) (l := [.int .i64 (kn o n1), b1, c1, d1, e1]) j3 rfl rfl (by simp [allOne, p1, p2, p3, p4, one_int]) k
            have i1 : IsFn K1 := by subst hK1; exact inferInstance
            have x1 : K1.nx = 4 := by rw [hK1, AH.nx_set, nx_push_i, x0]
            have lt3 := lt_i j3
            have w3 : K1.get 3 = some (.cells [.int .i64 (kn o n1), b1, c1, d1, e1]) := by rw [hK1, get_set_i lt3, if_pos rfl]
            have kp1 : ∀ j, j < 3 → K1.get j = K.get j := fun j hj => by rw [hK1, get_set_i lt3, if_neg (by omega), get_push_lt _ (by omega)]
            have w0 : K1.get 0 = some (.cells cs) := (kp1 0 (by decide)).trans g0
            have w2 : K1.get 2 = some (.cells [.str n2, .str wb]) := (kp1 2 (by decide)).trans g2
            have w1 : K1.get 1 = some (.cells [.str n1, .str wa]) := (kp1 1 (by decide)).trans g1
            have m0 := fun (k : AV → Prop) => ldA (n := 3) w0 0 (l := cs) (slice_whole cs 3 h3) k
            have m2' := fun (k : AV → Prop) => ld1 w2 0 (.str n2) rfl k
            obtain ⟨K2, hK2⟩ : ∃ K', K' = (K1.push (.cells z71)).set 4 (some (.cells [.int .i64 (kn o n2), b2, c2, d2, e2])) := ⟨_, rfl⟩
            have j4 : (K1.push (.cells z71)).get 4 = some (.cells z71) := by rw [← x1]; exact get_push_at _
            have nn4 : ∀ k : AV → AH → Prop, qNew (.cells z71) .ptr K1 k = k (.ptr 4 0) (K1.push (.cells z71)) := fun k => by rw [qNew_i, x1]; rfl
            have ss4 : ∀ k : AV → AH → Prop, qSt 5 (.ptr 4 0) (.agg [.int .i64 (kn o n2), b2, c2, d2, e2]) (K1.push (.cells z71)) k = k undef K2 := fun k => by rw [hK2]; exact qSt_whole (n := 5) (l := [.int .i64 (kn o n2), b2, c2, d2, e2]) j4 rfl rfl (by simp [allOne, r1, r2, r3, r4, one_int]) k
            have i2 : IsFn K2 := by subst hK2; exact inferInstance
            have lt4 := lt_i j4
            have v4 : K2.get 4 = some (.cells [.int .i64 (kn o n2), b2, c2, d2, e2]) := by rw [hK2, get_set_i lt4, if_pos rfl]
            have kp2 : ∀ j, j < 4 → K2.get j = K1.get j := fun j hj => by rw [hK2, get_set_i lt4, if_neg (by omega), get_push_lt _ (by omega)]
            have a40 := fun (k : AV → Prop) => ld1 v4 0 (.int .i64 (kn o n2)) rfl k
            have a42 := fun (k : AV → Prop) => ld1 v4 2 c2 rfl k
            have a30 := fun (k : AV → Prop) => ld1 ((kp2 3 (by decide)).trans w3) 0 (.int .i64 (kn o n1)) rfl k
            have a32 := fun (k : AV → Prop) => ld1 ((kp2 3 (by decide)).trans w3) 2 c1 rfl k
            have a10 := fun (k : AV → Prop) => ld1 ((kp2 1 (by decide)).trans w1) 0 (.str n1) rfl k
            have a20 := fun (k : AV → Prop) => ld1 ((kp2 2 (by decide)).trans w2) 0 (.str n2) rfl k
            by_cases f3 : kn o n2 = 3
            · rw [if_pos f3]
              have f3b : ((kn o n2) == (3 : Int)) = true := by simp [f3]
              cases hx : (decide (kn o n1 = 2) || decide (kn o n1 = 3)) with
              | false =>
                simp only [Bool.or_eq_false_iff, decide_eq_false_iff_not] at hx
                have f1b : ((kn o n1) == (2 : Int)) = false := by simp [hx.1]
                have f2b : ((kn o n1) == (3 : Int)) = false := by simp [hx.2]
                simp -implicitDefEqProofs only [c91, r91_0, r91_1, r91_3, r91_5, r91_7, r91_9, r91_10, r91_11, r91_12, opn_z, opn_s, sel_z, sel_s, qCd_eq, qIf_true, qIf_false, qFn_eq, qBl_eq, qO_some, qRes_val, qHp_some, qPick_true, qPick_false, qG_tt, qG_ff, qG_tf, qG_ft, cellsK_some, qLd_vptr, qLdA_vptr, qFa_ptr, qFa_vptr, qNc_ptr, qNc_vptr, qNc_fn, qNot_bool, qExt_tup, qCallV_fn, qLss_int, qLeq_int, qGtr_int, qGeq_int, qEql_int, qNeq_int, qAdd_int, qSub_int, qMul_int, qConvI_int, qLenL_sl, qLenL_hsl, qLenS_str, foldO, min2_int, max2_int, qSame_refl, Nat.zero_add, List.getElem?_cons_zero, List.getElem?_cons_succ, List.nil_append, List.cons_append, List.append_nil, one_bool, one_int, one_str, one_nilp, one_ptr, one_sl, one_hsl, one_map, one_fn, List.length_cons, List.length_nil, List.set_cons_zero, List.set_cons_succ, Nat.reduceLT, Nat.reduceAdd, qG_un, hb0, hb1, hb2, l0, l1, l2, t1, t2, y1, y2, u8_33, u8_93, c33, a33, a93, c93, qEql_str, hnd, decide_true, decide_false, f1, f2, nn3, ss3, m0, m2', nn4, ss4, a40, a42, a30, a32, a10, a20, f3b, f1b, f2b, q12, q21, Bool.false_and, AV.kill]
              | true =>
                by_cases g2' : kn o n1 = 2
                · have f1b : ((kn o n1) == (2 : Int)) = true := by simp [g2']
                  simp -implicitDefEqProofs only [c91, r91_0, r91_1, r91_3, r91_5, r91_7, r91_9, r91_10, r91_11, r91_12, opn_z, opn_s, sel_z, sel_s, qCd_eq, qIf_true, qIf_false, qFn_eq, qBl_eq, qO_some, qRes_val, qHp_some, qPick_true, qPick_false, qG_tt, qG_ff, qG_tf, qG_ft, cellsK_some, qLd_vptr, qLdA_vptr, qFa_ptr, qFa_vptr, qNc_ptr, qNc_vptr, qNc_fn, qNot_bool, qExt_tup, qCallV_fn, qLss_int, qLeq_int, qGtr_int, qGeq_int, qEql_int, qNeq_int, qAdd_int, qSub_int, qMul_int, qConvI_int, qLenL_sl, qLenL_hsl, qLenS_str, foldO, min2_int, max2_int, qSame_refl, Nat.zero_add, List.getElem?_cons_zero, List.getElem?_cons_succ, List.nil_append, List.cons_append, List.append_nil, one_bool, one_int, one_str, one_nilp, one_ptr, one_sl, one_hsl, one_map, one_fn, List.length_cons, List.length_nil, List.set_cons_zero, List.set_cons_succ, Nat.reduceLT, Nat.reduceAdd, qG_un, hb0, hb1, hb2, l0, l1, l2, t1, t2, y1, y2, u8_33, u8_93, c33, a33, a93, c93, qEql_str, hnd, decide_true, decide_false, f1, f2, nn3, ss3, m0, m2', nn4, ss4, a40, a42, a30, a32, a10, a20, f3b, f1b, q12, q21, Bool.true_and, AV.kill]
                · have f1b : ((kn o n1) == (2 : Int)) = false := by simp [g2']
                  have f2b : ((kn o n1) == (3 : Int)) = true := by simpa [g2'] using hx
                  simp -implicitDefEqProofs only [c91, r91_0, r91_1, r91_3, r91_5, r91_7, r91_9, r91_10, r91_11, r91_12, opn_z, opn_s, sel_z, sel_s, qCd_eq, qIf_true, qIf_false, qFn_eq, qBl_eq, qO_some, qRes_val, qHp_some, qPick_true, qPick_false, qG_tt, qG_ff, qG_tf, qG_ft, cellsK_some, qLd_vptr, qLdA_vptr, qFa_ptr, qFa_vptr, qNc_ptr, qNc_vptr, qNc_fn, qNot_bool, qExt_tup, qCallV_fn, qLss_int, qLeq_int, qGtr_int, qGeq_int, qEql_int, qNeq_int, qAdd_int, qSub_int, qMul_int, qConvI_int, qLenL_sl, qLenL_hsl, qLenS_str, foldO, min2_int, max2_int, qSame_refl, Nat.zero_add, List.getElem?_cons_zero, List.getElem?_cons_succ, List.nil_append, List.cons_append, List.append_nil, one_bool, one_int, one_str, one_nilp, one_ptr, one_sl, one_hsl, one_map, one_fn, List.length_cons, List.length_nil, List.set_cons_zero, List.set_cons_succ, Nat.reduceLT, Nat.reduceAdd, qG_un, hb0, hb1, hb2, l0, l1, l2, t1, t2, y1, y2, u8_33, u8_93, c33, a33, a93, c93, qEql_str, hnd, decide_true, decide_false, f1, f2, nn3, ss3, m0, m2', nn4, ss4, a40, a42, a30, a32, a10, a20, f3b, f1b, f2b, q12, q21, Bool.true_and, AV.kill]
            · rw [if_neg f3]
              have f3b : ((kn o n2) == (3 : Int)) = false := by simp [f3]
              by_cases f4 : kn o n2 = 4
              · have f4b : ((kn o n2) == (4 : Int)) = true := by simp [f4]
                by_cases g2' : kn o n1 = 2
                · have f1b : ((kn o n1) == (2 : Int)) = true := by simp [g2']
                  simp -implicitDefEqProofs only [c91, r91_0, r91_1, r91_3, r91_5, r91_7, r91_9, r91_10, r91_11, r91_13, opn_z, opn_s, sel_z, sel_s, qCd_eq, qIf_true, qIf_false, qFn_eq, qBl_eq, qO_some, qRes_val, qHp_some, qPick_true, qPick_false, qG_tt, qG_ff, qG_tf, qG_ft, cellsK_some, qLd_vptr, qLdA_vptr, qFa_ptr, qFa_vptr, qNc_ptr, qNc_vptr, qNc_fn, qNot_bool, qExt_tup, qCallV_fn, qLss_int, qLeq_int, qGtr_int, qGeq_int, qEql_int, qNeq_int, qAdd_int, qSub_int, qMul_int, qConvI_int, qLenL_sl, qLenL_hsl, qLenS_str, foldO, min2_int, max2_int, qSame_refl, Nat.zero_add, List.getElem?_cons_zero, List.getElem?_cons_succ, List.nil_append, List.cons_append, List.append_nil, one_bool, one_int, one_str, one_nilp, one_ptr, one_sl, one_hsl, one_map, one_fn, List.length_cons, List.length_nil, List.set_cons_zero, List.set_cons_succ, Nat.reduceLT, Nat.reduceAdd, qG_un, hb0, hb1, hb2, l0, l1, l2, t1, t2, y1, y2, u8_33, u8_93, c33, a33, a93, c93, qEql_str, hnd, decide_true, decide_false, f1, f2, nn3, ss3, m0, m2', nn4, ss4, a40, a42, a30, a32, a10, a20, f3b, f4b, f1b, q12, q21, AV.kill]
                  simp [f4, g2']
                · have f1b : ((kn o n1) == (2 : Int)) = false := by simp [g2']
                  simp -implicitDefEqProofs only [c91, r91_0, r91_1, r91_3, r91_5, r91_7, r91_9, r91_10, r91_11, r91_13, opn_z, opn_s, sel_z, sel_s, qCd_eq, qIf_true, qIf_false, qFn_eq, qBl_eq, qO_some, qRes_val, qHp_some, qPick_true, qPick_false, qG_tt, qG_ff, qG_tf, qG_ft, cellsK_some, qLd_vptr, qLdA_vptr, qFa_ptr, qFa_vptr, qNc_ptr, qNc_vptr, qNc_fn, qNot_bool, qExt_tup, qCallV_fn, qLss_int, qLeq_int, qGtr_int, qGeq_int, qEql_int, qNeq_int, qAdd_int, qSub_int, qMul_int, qConvI_int, qLenL_sl, qLenL_hsl, qLenS_str, foldO, min2_int, max2_int, qSame_refl, Nat.zero_add, List.getElem?_cons_zero, List.getElem?_cons_succ, List.nil_append, List.cons_append, List.append_nil, one_bool, one_int, one_str, one_nilp, one_ptr, one_sl, one_hsl, one_map, one_fn, List.length_cons, List.length_nil, List.set_cons_zero, List.set_cons_succ, Nat.reduceLT, Nat.reduceAdd, qG_un, hb0, hb1, hb2, l0, l1, l2, t1, t2, y1, y2, u8_33, u8_93, c33, a33, a93, c93, qEql_str, hnd, decide_true, decide_false, f1, f2, nn3, ss3, m0, m2', nn4, ss4, a40, a42, a30, a32, a10, a20, f3b, f4b, f1b, q12, q21, AV.kill]
                  simp [g2']
              · have f4b : ((kn o n2) == (4 : Int)) = false := by simp [f4]
                simp -implicitDefEqProofs only [c91, r91_0, r91_1, r91_3, r91_5, r91_7, r91_9, r91_10, r91_11, r91_13, opn_z, opn_s, sel_z, sel_s, qCd_eq, qIf_true, qIf_false, qFn_eq, qBl_eq, qO_some, qRes_val, qHp_some, qPick_true, qPick_false, qG_tt, qG_ff, qG_tf, qG_ft, cellsK_some, qLd_vptr, qLdA_vptr, qFa_ptr, qFa_vptr, qNc_ptr, qNc_vptr, qNc_fn, qNot_bool, qExt_tup, qCallV_fn, qLss_int, qLeq_int, qGtr_int, qGeq_int, qEql_int, qNeq_int, qAdd_int, qSub_int, qMul_int, qConvI_int, qLenL_sl, qLenL_hsl, qLenS_str, foldO, min2_int, max2_int, qSame_refl, Nat.zero_add, List.getElem?_cons_zero, List.getElem?_cons_succ, List.nil_append, List.cons_append, List.append_nil, one_bool, one_int, one_str, one_nilp, one_ptr, one_sl, one_hsl, one_map, one_fn, List.length_cons, List.length_nil, List.set_cons_zero, List.set_cons_succ, Nat.reduceLT, Nat.reduceAdd, qG_un, hb0, hb1, hb2, l0, l1, l2, t1, t2, y1, y2, u8_33, u8_93, c33, a33, a93, c93, qEql_str, hnd, decide_true, decide_false, f1, f2, nn3, ss3, m0, m2', nn4, ss4, a40, a42, a30, a32, a10, a20, f3b, f4b, q12, q21, AV.kill]
                simp [f4]
end T
