import Derived.Test.YtjbdnbnfjnahlaaGreatDoorSrY
set_option linter.all false
set_option linter.unusedVariables false
set_option linter.unusedSimpArgs false
set_option maxRecDepth 100000
namespace T
open Go Go.Aes Go.Proofs

/-! ### the law, plainly -/
/-- may a type stand for another one? -/
def subO (o : Bool) (n1 w1 n2 w2 : Str) : Bool := okW w1 && okW w2 && subF (bel o n1 n2) (w2.length + 1) w1 w2
theorem n12_19 {n : Str} (h : n ∈ N12) : n ∈ N19 := by
  have : (N12.all fun n => memB N19 n) = true := by kernel_rfl
  exact memB_iff.1 (List.all_eq_true.1 this n h)
theorem w8_len {w : Str} (h : w ∈ W8) : w.length < 10 := by
  have : (W8.all fun w => decide (w.length < 10)) = true := by kernel_rfl
  exact of_decide_eq_true (List.all_eq_true.1 this w h)
theorem subF_and (c : Bool) : ∀ n wa wb, subF c n wa wb = (subF true n wa wb && c)
  | 0, _, _ => by cases c <;> rfl
  | n + 1, wa, wb => by
    unfold subF
    split
    · rfl
    split
    · rfl
    split
    · rfl
    · exact subF_and c n _ _
theorem w_trans {a b c : Str} (ha : a ∈ W8) (hb : b ∈ W8) (hc : c ∈ W8) (h1 : subF true (b.length + 1) a b = true) (h2 : subF true (c.length + 1) b c = true) (h3 : okW a = true) (h4 : okW b = true) (h5 : okW c = true) : subF true (c.length + 1) a c = true := by
  have key : (W8.all fun a => W8.all fun b => W8.all fun c => !(subF true (b.length + 1) a b && subF true (c.length + 1) b c && okW a && okW b && okW c) || subF true (c.length + 1) a c) = true := by kernel_rfl
  have := List.all_eq_true.1 (List.all_eq_true.1 (List.all_eq_true.1 key a ha) b hb) c hc
  simpa [h1, h2, h3, h4, h5] using this
theorem bel_trans {o : Bool} {a b c : Str} (h1 : bel o a b = true) (h2 : bel o b c = true) : bel o a c = true := by
  cases o with
  | true => simp [bel] at *; rw [h1, h2]
  | false =>
    simp only [bel, Bool.false_eq_true, if_false, belB, Bool.or_eq_true, Bool.and_eq_true, decide_eq_true_eq] at *
    rcases h1 with rfl | ⟨h3, h4⟩
    · exact h2
    · rcases h2 with rfl | ⟨h5, h6⟩
      · exact .inr ⟨h3, h4⟩
      · exfalso
        rcases h4 with h | h <;> rcases h5 with h' | h' <;> rw [h] at h' <;> simp at h'
theorem bel_refl (o : Bool) (a : Str) : bel o a a = true := by cases o <;> simp [bel, belB]
theorem sub_trans {o : Bool} {n1 w1 n2 w2 n3 w3 : Str} (m1 : w1 ∈ W8) (m2 : w2 ∈ W8) (m3 : w3 ∈ W8) (h1 : subO o n1 w1 n2 w2 = true) (h2 : subO o n2 w2 n3 w3 = true) : subO o n1 w1 n3 w3 = true := by
  unfold subO at *
  rw [subF_and] at h1 h2 ⊢
  simp only [Bool.and_eq_true] at *
  exact ⟨⟨h1.1.1, h2.1.2⟩, w_trans m1 m2 m3 h1.2.1 h2.2.1 h1.1.1 h1.1.2 h2.1.2, bel_trans h1.2.2 h2.2.2⟩
theorem sub_self {o : Bool} {n w : Str} (m : w ∈ W8) : subO o n w n w = okW w := by
  have key : (W8.all fun w => decide ((okW w && okW w && subF true (w.length + 1) w w) = okW w)) = true := by kernel_rfl
  unfold subO
  rw [bel_refl]
  exact of_decide_eq_true (List.all_eq_true.1 key w m)
/-- a ! at the end, left out -/
theorem w_cut {w : Str} (m : w ∈ W8) (h1 : okW w = true) (h2 : w[w.length - 1]? = some 33) : w.take (w.length - 1) ∈ W8 ∧ (∀ o n, subO o n w n (w.take (w.length - 1)) = true ∧ subO o n (w.take (w.length - 1)) n w = false) := by
  have key : (W8.all fun w => !(okW w && decide (w[w.length - 1]? = some 33)) || (memB W8 (w.take (w.length - 1)) && ((okW w && okW (w.take (w.length - 1)) && subF true ((w.take (w.length - 1)).length + 1) w (w.take (w.length - 1))) &&
      !(okW (w.take (w.length - 1)) && okW w && subF true (w.length + 1) (w.take (w.length - 1)) w)))) = true := by kernel_rfl
  have := List.all_eq_true.1 key w m
  simp only [h1, h2, decide_true, Bool.and_self, Bool.not_true, Bool.false_or, Bool.and_eq_true, memB_iff] at this
  refine ⟨this.1, fun o n => ?_⟩
  unfold subO
  rw [bel_refl]
  refine ⟨?_, by have h := this.2.2; simp only [Bool.not_eq_true'] at h; rw [h1]; exact h⟩
  simpa [h1] using this.2.1

/-! ### the law, walked -/
theorem ep8 (o : Bool) {n1 w1 n2 w2 : Str} (a1 : n1 ∈ N12) (a2 : n2 ∈ N12) (m1 : w1 ∈ W8) (m2 : w2 ∈ W8) (H : AH) :
    EP 8 [sch o, ty n1 w1, ty n2 w2] H = some (.val (.bool (subO o n1 w1 n2 w2)) H) := by
  obtain ⟨cs, hcs, h3, ho, hf⟩ := sch_agg o
  have hk := sch_kill o
  have l1 := w8_len m1
  have l2 := w8_len m2
  have h19 := fun H => ep19 o a1 a2 H
  rw [hcs] at hk h19 ⊢
  exact sub_walk h3 ho hk hf (by omega) (by omega) (fun H => ep16 a1 m1 H) (fun H => ep16 a2 m2 H) h19 H

theorem ev_order (v a b c : Int) : ∃ H', EP 3 [.int .i64 v, .int .i64 a, .int .i64 b, .int .i64 c] H0 = some (.val (.bool true) H') := by
  suffices h : ∃ x H', EP 3 [.int .i64 v, .int .i64 a, .int .i64 b, .int .i64 c] H0 = some (.val x H') ∧ x = .bool true by
    obtain ⟨x, H', h1, rfl⟩ := h; exact ⟨H', h1⟩
  refine ao_form (X := X) (D := ODs) (O := OFs) (S := PS) (Q := fun x _ => x = .bool true) e3 xf3 rfl rfl ?_
  have e6 := fun H => ep6 v H
  generalize decide (v % 4 = 0) = o at e6
  have ma := tn_mem a
  have mb := tn_mem b
  have mc := tn_mem c
  have va := tw_mem a
  have vb := tw_mem b
  have vc := tw_mem c
  have ea := fun H => ep7 a H
  have eb := fun H => ep7 b H
  have ec := fun H => ep7 c H
  generalize tn a = na at *
  generalize tn b = nb at *
  generalize tn c = nc at *
  generalize tw a = wa at *
  generalize tw b = wb at *
  generalize tw c = wc at *
  have s1 := fun H => ep8 o ma mb va vb H
  have s2 := fun H => ep8 o mb mc vb vc H
  have s3 := fun H => ep8 o ma mc va vc H
  have s4 := fun H => ep8 o ma ma va va H
  have t9 := fun H => ep9 ma va H
  have m1 := fun H => ep11 o (n12_19 ma) (n12_19 mb) H
  have m2 := fun H => ep11 o (n12_19 mb) (n12_19 ma) H
  rw [mts_comm o nb na] at m2
  obtain ⟨cs, hcs, h3, ho, hf⟩ := sch_agg o
  have s5 := fun (n1 w1 n2 w2 : Str) (a1 : n1 ∈ N12) (a2 : n2 ∈ N12) (m1 : w1 ∈ W8) (m2 : w2 ∈ W8) H => ep8 o a1 a2 m1 m2 H
  rw [hcs] at e6 s1 s2 s3 s4 m1 m2 s5
  have hsf := sub_self (o := o) (n := na) va
  unfold ty at ea eb ec s1 s2 s3 s4 t9 s5
  obtain ⟨K0, hK0⟩ : ∃ K, K = H0.push (.cells z24) := ⟨_, rfl⟩
  have i0 : IsFn K0 := by subst hK0; exact inferInstance
  have n0 : ∀ k : AV → AH → Prop, qNew (.cells z24) .ptr H0 k = k (.ptr 0 0) K0 := fun k => by rw [qNew_i, hK0]; rfl
  have g0 : K0.get 0 = some (.cells z24) := by subst hK0; simp [get_push_i, H0_nx]
  have x0 : K0.nx = 1 := by rw [hK0, nx_push_i, H0_nx]
  obtain ⟨K1, hK1⟩ : ∃ K, K = K0.set 0 (some (.cells cs)) := ⟨_, rfl⟩
  have st0 : ∀ k : AV → AH → Prop, qSt 3 (.ptr 0 0) (.agg cs) K0 k = k undef K1 := fun k => by rw [hK1]; exact qSt_whole g0 rfl h3 ho k
  have i1 : IsFn K1 := by subst hK1; exact inferInstance
  have x1 : K1.nx = 1 := by rw [hK1, AH.nx_set, x0]
  have g1 : K1.get 0 = some (.cells cs) := by subst hK1; rw [get_set_i (lt_i g0)]; rfl
  obtain ⟨K2, hK2⟩ : ∃ K, K = ((((((K1.push (.cells z27)).push (.cells z27)).push (.cells z27)).set 1 (some (.cells [.str na, .str wa]))).set 2 (some (.cells [.str nb, .str wb]))).set 3 (some (.cells [.str nc, .str wc]))) := ⟨_, rfl⟩
  have i2 : IsFn K2 := by subst hK2; exact inferInstance
  have nx3 : ((K1.push (.cells z27)).push (.cells z27)).nx = 3 := by simp [nx_push_i, x1]
  have nx2 : (K1.push (.cells z27)).nx = 2 := by simp [nx_push_i, x1]
  have nx4 : (((K1.push (.cells z27)).push (.cells z27)).push (.cells z27)).nx = 4 := by simp [nx_push_i, x1]
  have n1 : ∀ k : AV → AH → Prop, qNew (.cells z27) .ptr K1 k = k (.ptr 1 0) (K1.push (.cells z27)) := fun k => by rw [qNew_i, x1]; rfl
  have n2 : ∀ k : AV → AH → Prop, qNew (.cells z27) .ptr (K1.push (.cells z27)) k = k (.ptr 2 0) ((K1.push (.cells z27)).push (.cells z27)) := fun k => by rw [qNew_i, nx2]; rfl
  have n3 : ∀ k : AV → AH → Prop, qNew (.cells z27) .ptr ((K1.push (.cells z27)).push (.cells z27)) k = k (.ptr 3 0) (((K1.push (.cells z27)).push (.cells z27)).push (.cells z27)) := fun k => by rw [qNew_i, nx3]; rfl
  have q1 : (((K1.push (.cells z27)).push (.cells z27)).push (.cells z27)).get 1 = some (.cells z27) := by simp [get_push_i, nx_push_i, x1]
  have st1 : ∀ k : AV → AH → Prop, qSt 2 (.ptr 1 0) (.agg [.str na, .str wa]) (((K1.push (.cells z27)).push (.cells z27)).push (.cells z27)) k = k undef ((((K1.push (.cells z27)).push (.cells z27)).push (.cells z27)).set 1 (some (.cells [.str na, .str wa]))) := fun k => qSt_whole (n := 2) (l := [.str na, .str wa]) q1 rfl rfl rfl k
  have q2 : ((((K1.push (.cells z27)).push (.cells z27)).push (.cells z27)).set 1 (some (.cells [.str na, .str wa]))).get 2 = some (.cells z27) := by rw [get_set_i (by omega)]; simp [get_push_i, nx_push_i, x1]
  have st2 : ∀ k : AV → AH → Prop, qSt 2 (.ptr 2 0) (.agg [.str nb, .str wb]) ((((K1.push (.cells z27)).push (.cells z27)).push (.cells z27)).set 1 (some (.cells [.str na, .str wa]))) k = k undef (((((K1.push (.cells z27)).push (.cells z27)).push (.cells z27)).set 1 (some (.cells [.str na, .str wa]))).set 2 (some (.cells [.str nb, .str wb]))) := fun k => qSt_whole (n := 2) (l := [.str nb, .str wb]) q2 rfl rfl rfl k
  have nx5 : ((((K1.push (.cells z27)).push (.cells z27)).push (.cells z27)).set 1 (some (.cells [.str na, .str wa]))).nx = 4 := by rw [AH.nx_set, nx4]
  have q3 : (((((K1.push (.cells z27)).push (.cells z27)).push (.cells z27)).set 1 (some (.cells [.str na, .str wa]))).set 2 (some (.cells [.str nb, .str wb]))).get 3 = some (.cells z27) := by rw [get_set_i (by omega), if_neg (by decide), get_set_i (by omega)]; simp [get_push_i, nx_push_i, x1]
  have st3 : ∀ k : AV → AH → Prop, qSt 2 (.ptr 3 0) (.agg [.str nc, .str wc]) (((((K1.push (.cells z27)).push (.cells z27)).push (.cells z27)).set 1 (some (.cells [.str na, .str wa]))).set 2 (some (.cells [.str nb, .str wb]))) k = k undef K2 := fun k => by rw [hK2]; exact qSt_whole (n := 2) (l := [.str nc, .str wc]) q3 rfl rfl rfl k
  have nx6 : (((((K1.push (.cells z27)).push (.cells z27)).push (.cells z27)).set 1 (some (.cells [.str na, .str wa]))).set 2 (some (.cells [.str nb, .str wb]))).nx = 4 := by rw [AH.nx_set, nx5]
  have p0 : K2.get 0 = some (.cells cs) := by
    rw [hK2, get_set_i (by omega), if_neg (by decide), get_set_i (by omega), if_neg (by decide), get_set_i (by omega), if_neg (by decide)]
    simp [get_push_i, nx_push_i, x1, g1]
  have p1 : K2.get 1 = some (.cells [.str na, .str wa]) := by
    rw [hK2, get_set_i (by omega), if_neg (by decide), get_set_i (by omega), if_neg (by decide), get_set_i (by omega), if_pos rfl]
  have p2 : K2.get 2 = some (.cells [.str nb, .str wb]) := by
    rw [hK2, get_set_i (by omega), if_neg (by decide), get_set_i (by omega), if_pos rfl]
  have p3 : K2.get 3 = some (.cells [.str nc, .str wc]) := by
    rw [hK2, get_set_i (by omega), if_pos rfl]
  have l0 := fun (k : AV → Prop) => qLdA_whole (n := 3) p0 h3 k
  have l1 := fun (k : AV → Prop) => qLdA_whole (n := 2) p1 rfl k
  have l2 := fun (k : AV → Prop) => qLdA_whole (n := 2) p2 rfl k
  have l3 := fun (k : AV → Prop) => qLdA_whole (n := 2) p3 rfl k
  have d10 := fun (k : AV → Prop) => ld1 p1 0 (.str na) rfl k
  have d11 := fun (k : AV → Prop) => ld1 p1 1 (.str wa) rfl k
  have d20 := fun (k : AV → Prop) => ld1 p2 0 (.str nb) rfl k
  have lw := w8_len va
  -- transitive
  have tr : (subO o na wa nb wb && subO o nb wb nc wc && !subO o na wa nc wc) = false := by
    cases h1 : subO o na wa nb wb <;> cases h2 : subO o nb wb nc wc <;> simp
    exact sub_trans va vb vc h1 h2
  have tb : ∀ k : AV → Prop, qNeq X 4 (.bool (okW wa)) (.bool (okW wa)) k = k (.bool false) := fun k => by cases okW wa <;> rfl
  rw [hsf] at s4
  have meq : ∀ k : AV → Prop, qEql X 4 (.bool (mts o na nb)) (.bool (mts o na nb)) k = k (.bool true) := fun k => by cases mts o na nb <;> rfl
  have l55 : ∀ k : AV → Prop, qLd (.ptr 2 0) K2 k = k (.str nb) := d20
  -- the end, where nothing is left out
  have fin : ∀ (x8 x12 x13 x14 x15 x40 x48 x64 : AV), r3_12 EP (fun fr H => sel 4 fr = .bool true) [.int .i64 v, .int .i64 a, .int .i64 b, .int .i64 c, x8, .ptr 0 0, .ptr 1 0, .ptr 2 0, x12, x13, x14, x15, x40, x48, x64] K2 := by
    intro x8 x12 x13 x14 x15 x40 x48 x64
    simp -implicitDefEqProofs only [r3_12, opn_z, opn_s, sel_z, sel_s, qCd_eq, qIf_true, qIf_false, qFn_eq, qBl_eq, qO_some, qRes_val, qHp_some, qPick_true, qPick_false, qG_tt, qG_ff, qG_tf, qG_ft, cellsK_some, qLd_vptr, qLdA_vptr, qFa_ptr, qFa_vptr, qNc_ptr, qNc_vptr, qNc_fn, qNot_bool, qExt_tup, qCallV_fn, qLss_int, qLeq_int, qGtr_int, qGeq_int, qEql_int, qNeq_int, qAdd_int, qSub_int, qMul_int, qConvI_int, qLenL_sl, qLenL_hsl, qLenS_str, foldO, min2_int, max2_int, qSame_refl, Nat.zero_add, List.getElem?_cons_zero, List.getElem?_cons_succ, List.nil_append, List.cons_append, List.append_nil, one_bool, one_int, one_str, one_nilp, one_ptr, one_sl, one_hsl, one_map, one_fn, List.length_cons, List.length_nil, List.set_cons_zero, List.set_cons_succ, Nat.reduceLT, Nat.reduceAdd, qG_un, l0, d10, d20, m1, m2, meq, ep10]
  -- behind the first question
  have rest : ∀ (x8 x13 x14 x15 x40 x48 x64 : AV), (r3_5 EP (r3_6 EP (qCd (sel 13) (fun _ => (r3_7 (fun fr H => sel 4 fr = AV.bool true))) (fun k2 => k2) (r3_8 (r3_9 (qCd (sel 14) (fun _ => (r3_10 (r3_11 EP (fun fr H => sel 4 fr = AV.bool true)))) (fun k1 => k1) (r3_12 EP (fun fr H => sel 4 fr = AV.bool true)))))))) [.int .i64 v, .int .i64 a, .int .i64 b, .int .i64 c, x8, .ptr 0 0, .ptr 1 0, .ptr 2 0, .ptr 3 0, x13, x14, x15, x40, x48, x64] K2 := by
    intro x8 x13 x14 x15 x40 x48 x64
    cases hok : okW wa with
    | false =>
      rw [hok] at t9 s4 tb
      simp -implicitDefEqProofs only [r3_5, r3_6, r3_8, r3_9, opn_z, opn_s, sel_z, sel_s, qCd_eq, qIf_true, qIf_false, qFn_eq, qBl_eq, qO_some, qRes_val, qHp_some, qPick_true, qPick_false, qG_tt, qG_ff, qG_tf, qG_ft, cellsK_some, qLd_vptr, qLdA_vptr, qFa_ptr, qFa_vptr, qNc_ptr, qNc_vptr, qNc_fn, qNot_bool, qExt_tup, qCallV_fn, qLss_int, qLeq_int, qGtr_int, qGeq_int, qEql_int, qNeq_int, qAdd_int, qSub_int, qMul_int, qConvI_int, qLenL_sl, qLenL_hsl, qLenS_str, foldO, min2_int, max2_int, qSame_refl, Nat.zero_add, List.getElem?_cons_zero, List.getElem?_cons_succ, List.nil_append, List.cons_append, List.append_nil, one_bool, one_int, one_str, one_nilp, one_ptr, one_sl, one_hsl, one_map, one_fn, List.length_cons, List.length_nil, List.set_cons_zero, List.set_cons_succ, Nat.reduceLT, Nat.reduceAdd, qG_un, l0, l1, t9, s4, tb, d11]
      exact fin _ _ _ _ _ _ _ _
    | true =>
      rw [hok] at t9 s4 tb
      by_cases hz : wa.length = 0
      · have c1 : ¬ ((wa.length : Nat) : Int) > 0 := by omega
        simp -implicitDefEqProofs only [r3_5, r3_6, r3_8, r3_9, opn_z, opn_s, sel_z, sel_s, qCd_eq, qIf_true, qIf_false, qFn_eq, qBl_eq, qO_some, qRes_val, qHp_some, qPick_true, qPick_false, qG_tt, qG_ff, qG_tf, qG_ft, cellsK_some, qLd_vptr, qLdA_vptr, qFa_ptr, qFa_vptr, qNc_ptr, qNc_vptr, qNc_fn, qNot_bool, qExt_tup, qCallV_fn, qLss_int, qLeq_int, qGtr_int, qGeq_int, qEql_int, qNeq_int, qAdd_int, qSub_int, qMul_int, qConvI_int, qLenL_sl, qLenL_hsl, qLenS_str, foldO, min2_int, max2_int, qSame_refl, Nat.zero_add, List.getElem?_cons_zero, List.getElem?_cons_succ, List.nil_append, List.cons_append, List.append_nil, one_bool, one_int, one_str, one_nilp, one_ptr, one_sl, one_hsl, one_map, one_fn, List.length_cons, List.length_nil, List.set_cons_zero, List.set_cons_succ, Nat.reduceLT, Nat.reduceAdd, qG_un, l0, l1, t9, s4, tb, d11, c1, decide_false]
        exact fin _ _ _ _ _ _ _ _
      · have c1 : ((wa.length : Nat) : Int) > 0 := by omega
        have hs1 : IntKind.i64.wrap ((wa.length : Int) - 1) = ((wa.length - 1 : Nat) : Int) := by rw [i64_in' (by omega)]; omega
        obtain ⟨x, hx⟩ : ∃ x, wa[wa.length - 1]? = some x := ⟨_, List.getElem?_eq_getElem (by omega)⟩
        have hix := fun (k : AV → Prop) => qIx_str hx .i64 k
        by_cases h33 : x = 33
        · subst h33
          obtain ⟨mw, hw⟩ := w_cut va hok hx
          obtain ⟨hw1, hw2⟩ := hw o na
          have u1 := fun H => s5 na wa na (wa.take (wa.length - 1)) ma ma va mw H
          have u2 := fun H => s5 na (wa.take (wa.length - 1)) na wa ma ma mw va H
          rw [hw1] at u1
          rw [hw2] at u2
          have hsl := fun (k : AV → Prop) => slcS_hi wa (wa.length - 1) (by omega) k
          generalize wa.take (wa.length - 1) = w' at *
          have b3 : ∀ k : AV → Prop, qBld z27 [(0, 1, .str na), (1, 1, .str w')] k = k (.agg [.str na, .str w']) := fun k => by kernel_rfl
          obtain ⟨K3, hK3⟩ : ∃ K, K = K2.push (.cells z27) := ⟨_, rfl⟩
          have i3 : IsFn K3 := by subst hK3; exact inferInstance
          have nn : ∀ k : AV → AH → Prop, qNew (.cells z27) .ptr K2 k = k (.ptr K2.nx 0) K3 := fun k => by rw [qNew_i, hK3]; rfl
          have y4 : K3.get K2.nx = some (.cells z27) := by rw [hK3]; exact get_push_at _
          obtain ⟨K4, hK4⟩ : ∃ K, K = K3.set K2.nx (some (.cells [.str na, .str w'])) := ⟨_, rfl⟩
          have s9 : ∀ k : AV → AH → Prop, qSt 2 (.ptr K2.nx 0) (.agg [.str na, .str w']) K3 k = k undef K4 := fun k => by rw [hK4]; exact qSt_whole (n := 2) (l := [.str na, .str w']) y4 rfl rfl rfl k
          have i4 : IsFn K4 := by subst hK4; exact inferInstance
          have keep : ∀ j cs, K2.get j = some (.cells cs) → K4.get j = some (.cells cs) := fun j cs hj => by
            have := lt_i hj
            rw [hK4, get_set_i (lt_i y4), if_neg (by omega), hK3, get_push_lt _ this]; exact hj
          have r0 := fun (k : AV → Prop) => qLdA_whole (n := 3) (keep 0 _ p0) h3 k
          have r1 := fun (k : AV → Prop) => qLdA_whole (n := 2) (keep 1 _ p1) rfl k
          have r4 := fun (k : AV → Prop) => qLdA_whole (n := 2) (H := K4) (i := K2.nx) (cs := [.str na, .str w']) (by rw [hK4, get_set_i (lt_i y4), if_pos rfl]) rfl k
          have e33 : ((((33 : UInt8).toNat : Nat) : Int) == (33 : Int)) = true := by decide
          simp -implicitDefEqProofs only [r3_5, r3_6, r3_8, r3_9, r3_10, r3_11, opn_z, opn_s, sel_z, sel_s, qCd_eq, qIf_true, qIf_false, qFn_eq, qBl_eq, qO_some, qRes_val, qHp_some, qPick_true, qPick_false, qG_tt, qG_ff, qG_tf, qG_ft, cellsK_some, qLd_vptr, qLdA_vptr, qFa_ptr, qFa_vptr, qNc_ptr, qNc_vptr, qNc_fn, qNot_bool, qExt_tup, qCallV_fn, qLss_int, qLeq_int, qGtr_int, qGeq_int, qEql_int, qNeq_int, qAdd_int, qSub_int, qMul_int, qConvI_int, qLenL_sl, qLenL_hsl, qLenS_str, foldO, min2_int, max2_int, qSame_refl, Nat.zero_add, List.getElem?_cons_zero, List.getElem?_cons_succ, List.nil_append, List.cons_append, List.append_nil, one_bool, one_int, one_str, one_nilp, one_ptr, one_sl, one_hsl, one_map, one_fn, List.length_cons, List.length_nil, List.set_cons_zero, List.set_cons_succ, Nat.reduceLT, Nat.reduceAdd, qG_un, l0, l1, t9, s4, tb, d10, d11, c1, decide_true, hs1, hix, e33, hsl, b3, nn, s9, r0, r1, r4, u1, u2, Bool.not_false, ep10]
        · have e33 : (((x.toNat : Nat) : Int) == (33 : Int)) = false := by
            rw [Bool.eq_false_iff]
            intro h
            have : x.toNat = 33 := by simp only [beq_iff_eq] at h; omega
            exact h33 (UInt8.toNat_inj.1 this)
          simp -implicitDefEqProofs only [r3_5, r3_6, r3_8, r3_9, opn_z, opn_s, sel_z, sel_s, qCd_eq, qIf_true, qIf_false, qFn_eq, qBl_eq, qO_some, qRes_val, qHp_some, qPick_true, qPick_false, qG_tt, qG_ff, qG_tf, qG_ft, cellsK_some, qLd_vptr, qLdA_vptr, qFa_ptr, qFa_vptr, qNc_ptr, qNc_vptr, qNc_fn, qNot_bool, qExt_tup, qCallV_fn, qLss_int, qLeq_int, qGtr_int, qGeq_int, qEql_int, qNeq_int, qAdd_int, qSub_int, qMul_int, qConvI_int, qLenL_sl, qLenL_hsl, qLenS_str, foldO, min2_int, max2_int, qSame_refl, Nat.zero_add, List.getElem?_cons_zero, List.getElem?_cons_succ, List.nil_append, List.cons_append, List.append_nil, one_bool, one_int, one_str, one_nilp, one_ptr, one_sl, one_hsl, one_map, one_fn, List.length_cons, List.length_nil, List.set_cons_zero, List.set_cons_succ, Nat.reduceLT, Nat.reduceAdd, qG_un, l0, l1, t9, s4, tb, d11, c1, decide_true, hs1, hix, e33]
          exact fin _ _ _ _ _ _ _ _
  cases h1 : subO o na wa nb wb with
  | false =>
    rw [h1] at s1
    simp -implicitDefEqProofs only [c3, r3_0, r3_1, r3_2, r3_3, opn_z, opn_s, sel_z, sel_s, qCd_eq, qIf_true, qIf_false, qFn_eq, qBl_eq, qO_some, qRes_val, qHp_some, qPick_true, qPick_false, qG_tt, qG_ff, qG_tf, qG_ft, cellsK_some, qLd_vptr, qLdA_vptr, qFa_ptr, qFa_vptr, qNc_ptr, qNc_vptr, qNc_fn, qNot_bool, qExt_tup, qCallV_fn, qLss_int, qLeq_int, qGtr_int, qGeq_int, qEql_int, qNeq_int, qAdd_int, qSub_int, qMul_int, qConvI_int, qLenL_sl, qLenL_hsl, qLenS_str, foldO, min2_int, max2_int, qSame_refl, Nat.zero_add, List.getElem?_cons_zero, List.getElem?_cons_succ, List.nil_append, List.cons_append, List.append_nil, one_bool, one_int, one_str, one_nilp, one_ptr, one_sl, one_hsl, one_map, one_fn, List.length_cons, List.length_nil, List.set_cons_zero, List.set_cons_succ, Nat.reduceLT, Nat.reduceAdd, qG_un, e6, ea, eb, ec, n0, st0, n1, n2, n3, st1, st2, st3, l0, l1, l2, s1]
    exact rest _ _ _ _ _ _ _
  | true =>
    rw [h1] at s1
    cases h2 : subO o nb wb nc wc with
    | false =>
      rw [h2] at s2
      simp -implicitDefEqProofs only [c3, r3_0, r3_1, r3_2, r3_3, opn_z, opn_s, sel_z, sel_s, qCd_eq, qIf_true, qIf_false, qFn_eq, qBl_eq, qO_some, qRes_val, qHp_some, qPick_true, qPick_false, qG_tt, qG_ff, qG_tf, qG_ft, cellsK_some, qLd_vptr, qLdA_vptr, qFa_ptr, qFa_vptr, qNc_ptr, qNc_vptr, qNc_fn, qNot_bool, qExt_tup, qCallV_fn, qLss_int, qLeq_int, qGtr_int, qGeq_int, qEql_int, qNeq_int, qAdd_int, qSub_int, qMul_int, qConvI_int, qLenL_sl, qLenL_hsl, qLenS_str, foldO, min2_int, max2_int, qSame_refl, Nat.zero_add, List.getElem?_cons_zero, List.getElem?_cons_succ, List.nil_append, List.cons_append, List.append_nil, one_bool, one_int, one_str, one_nilp, one_ptr, one_sl, one_hsl, one_map, one_fn, List.length_cons, List.length_nil, List.set_cons_zero, List.set_cons_succ, Nat.reduceLT, Nat.reduceAdd, qG_un, e6, ea, eb, ec, n0, st0, n1, n2, n3, st1, st2, st3, l0, l1, l2, l3, s1, s2]
      exact rest _ _ _ _ _ _ _
    | true =>
      rw [h2] at s2
      rw [sub_trans va vb vc h1 h2] at s3
      simp -implicitDefEqProofs only [c3, r3_0, r3_1, r3_2, r3_3, opn_z, opn_s, sel_z, sel_s, qCd_eq, qIf_true, qIf_false, qFn_eq, qBl_eq, qO_some, qRes_val, qHp_some, qPick_true, qPick_false, qG_tt, qG_ff, qG_tf, qG_ft, cellsK_some, qLd_vptr, qLdA_vptr, qFa_ptr, qFa_vptr, qNc_ptr, qNc_vptr, qNc_fn, qNot_bool, qExt_tup, qCallV_fn, qLss_int, qLeq_int, qGtr_int, qGeq_int, qEql_int, qNeq_int, qAdd_int, qSub_int, qMul_int, qConvI_int, qLenL_sl, qLenL_hsl, qLenS_str, foldO, min2_int, max2_int, qSame_refl, Nat.zero_add, List.getElem?_cons_zero, List.getElem?_cons_succ, List.nil_append, List.cons_append, List.append_nil, one_bool, one_int, one_str, one_nilp, one_ptr, one_sl, one_hsl, one_map, one_fn, List.length_cons, List.length_nil, List.set_cons_zero, List.set_cons_succ, Nat.reduceLT, Nat.reduceAdd, qG_un, e6, ea, eb, ec, n0, st0, n1, n2, n3, st1, st2, st3, l0, l1, l2, l3, s1, s2, s3, Bool.not_true]
      exact rest _ _ _ _ _ _ _
end T
