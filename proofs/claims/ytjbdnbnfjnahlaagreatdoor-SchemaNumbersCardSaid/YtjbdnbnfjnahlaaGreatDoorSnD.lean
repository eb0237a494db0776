import Derived.Test.YtjbdnbnfjnahlaaGreatDoorSnC
set_option linter.all false
set_option linter.unusedVariables false
set_option linter.unusedSimpArgs false
set_option maxRecDepth 100000
namespace T
open Go Go.Aes Go.Proofs

theorem subR_eq {c : Bool} {w1 w2 : Str} (m1 : w1 ∈ W8) (m2 : w2 ∈ W8) (h1 : okW w1 = true) (h2 : okW w2 = true) : subR c 30 w1 w2 = subF c (w2.length + 1) w1 w2 := by
  have key : ([true, false].all fun c => W8.all fun a => W8.all fun b => !(okW a && okW b) || (subR c 30 a b == subF c (b.length + 1) a b)) = true := by kernel_rfl
  have := List.all_eq_true.1 (List.all_eq_true.1 (List.all_eq_true.1 key c (by cases c <;> simp)) w1 m1) w2 m2
  simpa [h1, h2] using this
theorem p9 {n w : Str} (hn : n ∈ N12) (hw : w ∈ W8) (H : AH) : E2 9 [ty n w] H = some (.val (.bool (okW w)) H) := evO_O rfl (show EP 9 _ H = _ from ep9 hn hw H)
theorem p8 (o : Bool) {n1 w1 n2 w2 : Str} (a1 : n1 ∈ N12) (a2 : n2 ∈ N12) (m1 : w1 ∈ W8) (m2 : w2 ∈ W8) (H : AH) : E2 8 [sch o, ty n1 w1, ty n2 w2] H = some (.val (.bool (subO o n1 w1 n2 w2)) H) :=
  evO_O rfl (show EP 8 _ H = _ from ep8 o a1 a2 m1 m2 H)
theorem p6 (v : Int) (H : AH) : E2 6 [.int .i64 v] H = some (.val (sch (decide (v % 4 = 0))) H) := evO_O rfl (show EP 6 _ H = _ from ep6 v H)
theorem p7 (v : Int) (H : AH) : E2 7 [.int .i64 v] H = some (.val (ty (tn v) (tw v)) H) := evO_O rfl (show EP 7 _ H = _ from ep7 v H)
theorem p10 (H : AH) : E2 10 [] H = some (.val (.bool true) H) := evO_O rfl (show EP 10 _ H = _ from ep10 H)
theorem p15 (v n : Int) (hn : 0 < n) (hn2 : n ≤ 4611686018427387904) (H : AH) : E2 15 [.int .i64 v, .int .i64 n] H = some (.val (.int .i64 (v % n)) H) := evO_O rfl (show EP 15 _ H = _ from ep15 v n hn hn2 H)
theorem p11 (o : Bool) {a b : Str} (ha : a ∈ N19) (hb : b ∈ N19) (H : AH) : E2 11 [sch o, .str a, .str b] H = some (.val (.bool (mts o a b)) H) := evO_O rfl (show EP 11 _ H = _ from ep11 o ha hb H)
theorem p48 (o : Bool) {a b : Str} (ha : a ∈ N19) (hb : b ∈ N19) (H : AH) : E2 48 [sch o, .str a, .str b] H = some (.val (.bool (mts o a b)) H) := by
  refine evO_O rfl ?_
  show (bif (Nat.beq 48 48) && dXAB (AV.kills [sch o, .str a, .str b]) then some (Res.val (fMe (AV.kills [sch o, .str a, .str b])) H) else none) = _
  have hk : AV.kills [sch o, .str a, .str b] = [sch o, .str a, .str b] := by simp only [AV.kills, AV.kill, sch_kill]
  have : dXAB [sch o, .str a, .str b] = true := by
    show (beqV (sch o) (sch (isO (sch o))) && (memB N19 a && memB N19 b)) = true
    rw [isO_sch, beqV_refl, memB_iff.2 ha, memB_iff.2 hb]; rfl
  rw [hk, this, fMe_sch]; rfl
theorem p23 (o : Bool) {a : Str} (ha : a ∈ N19) (H : AH) : E2 23 [sch o, .str a] H = some (.val (strL (pos o a)) H) :=
  evO_O rfl (show compO 23 _ H = _ from compO_of (List.all_eq_true.1 (List.all_eq_true.1 po_chk o (by cases o <;> simp)) a ha) H)
theorem p47 (o : Bool) {a : Str} (ha : a ∈ N19) (H : AH) : E2 47 [sch o, .str a] H = some (.val (strL (pos o a)) H) :=
  evO_O rfl (show compO 47 _ H = _ from compO_of (List.all_eq_true.1 (List.all_eq_true.1 rpo_chk o (by cases o <;> simp)) a ha) H)

/-- the reference's: the same -/
theorem p49 (o : Bool) {n1 w1 n2 w2 : Str} (a1 : n1 ∈ N12) (a2 : n2 ∈ N12) (m1 : w1 ∈ W8) (m2 : w2 ∈ W8) (H : AH) : E2 49 [sch o, ty n1 w1, ty n2 w2] H = some (.val (.bool (subO o n1 w1 n2 w2)) H) := by
  obtain ⟨cs, hcs, h3, ho, hf⟩ := sch_agg o
  have hck : (AV.agg cs).kill = .agg cs := by rw [← hcs]; exact sch_kill o
  have k1 := w8_len m1
  have k2 := w8_len m2
  have h91 := fun H => ep91 o a1 a2 30 w1 w2 (by omega) (by omega) H
  have t1 := fun H => p9 a1 m1 H
  have t2 := fun H => p9 a2 m2 H
  rw [hcs] at h91 ⊢
  have hks : AV.kills [.agg cs, ty n1 w1, ty n2 w2] = [.agg cs, ty n1 w1, ty n2 w2] := by simp only [AV.kills, hck]; rfl
  refine uo_form (X := X) (D := D2) (O := O2) (S := PS2) (al := [.agg cs, ty n1 w1, ty n2 w2]) e49 xf49 rfl rfl (by rw [hks]; simp [AV.frees, hf, ty, AV.free]) rfl ?_ H
  rw [hks]
  obtain ⟨K, hK⟩ : ∃ K, K = ((H0.push (.cells cs)).push (.cells [.str n1, .str w1])).push (.cells [.str n2, .str w2]) := ⟨_, rfl⟩
  have iK : IsFn K := by subst hK; exact inferInstance
  have g0 : K.get 0 = some (.cells cs) := by subst hK; simp [get_push_i, nx_push_i, H0_nx]
  have g1 : K.get 1 = some (.cells [.str n1, .str w1]) := by subst hK; simp [get_push_i, nx_push_i, H0_nx]
  have g2 : K.get 2 = some (.cells [.str n2, .str w2]) := by subst hK; simp [get_push_i, nx_push_i, H0_nx]
  have l0 := fun (k : AV → Prop) => ldA (n := 3) g0 0 (l := cs) (slice_whole cs 3 h3) k
  have l1 := fun (k : AV → Prop) => ldA (n := 2) g1 0 (l := [.str n1, .str w1]) rfl k
  have l2 := fun (k : AV → Prop) => ldA (n := 2) g2 0 (l := [.str n2, .str w2]) rfl k
  unfold ty at h91 t1 t2 ⊢
  have hb0 : ∀ k : AV → AH → Prop, qBox (.agg cs) H0 k = k (.ptr 0 0) (H0.push (.cells cs)) := fun k => by rw [qBox_i, cells_agg, ho]; rfl
  have hb1 : ∀ k : AV → AH → Prop, qBox (.agg [.str n1, .str w1]) (H0.push (.cells cs)) k = k (.ptr 1 0) ((H0.push (.cells cs)).push (.cells [.str n1, .str w1])) := fun k => by rw [qBox_i]; rfl
  have hb2 : ∀ k : AV → AH → Prop, qBox (.agg [.str n2, .str w2]) ((H0.push (.cells cs)).push (.cells [.str n1, .str w1])) k = k (.ptr 2 0) K := fun k => by rw [qBox_i, hK]; rfl
  unfold subO
  cases b1 : okW w1 with
  | false =>
    rw [b1] at t1
    simp -implicitDefEqProofs only [c49, r49_0, r49_1, opn_z, opn_s, sel_z, sel_s, qCd_eq, qIf_true, qIf_false, qFn_eq, qBl_eq, qO_some, qRes_val, qHp_some, qPick_true, qPick_false, qG_tt, qG_ff, qG_tf, qG_ft, cellsK_some, qLd_vptr, qLdA_vptr, qFa_ptr, qFa_vptr, qNc_ptr, qNc_vptr, qNc_fn, qNot_bool, qExt_tup, qCallV_fn, qLss_int, qLeq_int, qGtr_int, qGeq_int, qEql_int, qNeq_int, qAdd_int, qSub_int, qMul_int, qConvI_int, qLenL_sl, qLenL_hsl, qLenS_str, foldO, min2_int, max2_int, qSame_refl, Nat.zero_add, List.getElem?_cons_zero, List.getElem?_cons_succ, List.nil_append, List.cons_append, List.append_nil, one_bool, one_int, one_str, one_nilp, one_ptr, one_sl, one_hsl, one_map, one_fn, List.length_cons, List.length_nil, List.set_cons_zero, List.set_cons_succ, Nat.reduceLT, Nat.reduceAdd, qG_un, hb0, hb1, hb2, l0, l1, l2, t1, qG_un, Bool.false_and, AV.kill]
  | true =>
    rw [b1] at t1
    cases b2 : okW w2 with
    | false =>
      rw [b2] at t2
      simp -implicitDefEqProofs only [c49, r49_0, r49_1, opn_z, opn_s, sel_z, sel_s, qCd_eq, qIf_true, qIf_false, qFn_eq, qBl_eq, qO_some, qRes_val, qHp_some, qPick_true, qPick_false, qG_tt, qG_ff, qG_tf, qG_ft, cellsK_some, qLd_vptr, qLdA_vptr, qFa_ptr, qFa_vptr, qNc_ptr, qNc_vptr, qNc_fn, qNot_bool, qExt_tup, qCallV_fn, qLss_int, qLeq_int, qGtr_int, qGeq_int, qEql_int, qNeq_int, qAdd_int, qSub_int, qMul_int, qConvI_int, qLenL_sl, qLenL_hsl, qLenS_str, foldO, min2_int, max2_int, qSame_refl, Nat.zero_add, List.getElem?_cons_zero, List.getElem?_cons_succ, List.nil_append, List.cons_append, List.append_nil, one_bool, one_int, one_str, one_nilp, one_ptr, one_sl, one_hsl, one_map, one_fn, List.length_cons, List.length_nil, List.set_cons_zero, List.set_cons_succ, Nat.reduceLT, Nat.reduceAdd, qG_un, hb0, hb1, hb2, l0, l1, l2, t1, t2, qG_un, Bool.and_false, Bool.false_and, AV.kill]
    | true =>
      rw [b2] at t2
      rw [subR_eq m1 m2 b1 b2, cR_eq o a1 a2] at h91
      simp -implicitDefEqProofs only [c49, r49_0, r49_1, opn_z, opn_s, sel_z, sel_s, qCd_eq, qIf_true, qIf_false, qFn_eq, qBl_eq, qO_some, qRes_val, qHp_some, qPick_true, qPick_false, qG_tt, qG_ff, qG_tf, qG_ft, cellsK_some, qLd_vptr, qLdA_vptr, qFa_ptr, qFa_vptr, qNc_ptr, qNc_vptr, qNc_fn, qNot_bool, qExt_tup, qCallV_fn, qLss_int, qLeq_int, qGtr_int, qGeq_int, qEql_int, qNeq_int, qAdd_int, qSub_int, qMul_int, qConvI_int, qLenL_sl, qLenL_hsl, qLenS_str, foldO, min2_int, max2_int, qSame_refl, Nat.zero_add, List.getElem?_cons_zero, List.getElem?_cons_succ, List.nil_append, List.cons_append, List.append_nil, one_bool, one_int, one_str, one_nilp, one_ptr, one_sl, one_hsl, one_map, one_fn, List.length_cons, List.length_nil, List.set_cons_zero, List.set_cons_succ, Nat.reduceLT, Nat.reduceAdd, qG_un, hb0, hb1, hb2, l0, l1, l2, t1, t2, h91, Bool.true_and, Bool.and_self, AV.kill]
end T
