import Derived.Test.YtgmifbbimcblcaaBuckC
set_option linter.all false
set_option linter.unusedVariables false
set_option linter.unusedSimpArgs false
set_option maxRecDepth 10000
namespace T
open Go Go.Aes Go.Proofs

theorem place_eq (v n : Int) (hn : 0 < n) : (if v.tmod n < 0 then v.tmod n + n else v.tmod n) = v % n := by
  have h1 := Int.tmod_eq_emod (a := v) (b := n)
  have h2 := Int.emod_nonneg v (by omega : n ≠ 0)
  have h3 := Int.emod_lt_of_pos v hn
  split at h1 <;> split <;> omega

section
variable {O : CallF} (hO : OutO O)
include hO

theorem ev_place (v n : Int) (hn : 0 < n) (hn2 : n ≤ 4611686018427387904) (H : AH) : evl X O 23 [.int .i64 v, .int .i64 n] H = some (.val (.int .i64 (v % n)) H) := by
  refine of_form_eq e23 xf23 (hO _ _ _ (by decide) (by decide)) ?_
  have h0 := place_eq v n hn
  have hrem := fun k => qRem_int (R := Prop) X 3 .i64 v n k (by omega)
  have h2 := Int.emod_nonneg v (by omega : n ≠ 0)
  have h3 := Int.emod_lt_of_pos v hn
  by_cases h : v.tmod n < 0
  · rw [if_pos h] at h0
    simp only [c23, r23_0, r23_1, r23_2, r23_3, r23_4, opn_z, opn_s, sel_z, sel_s, qCd_eq, qIf_true, qIf_false, qFn_eq, qBl_eq, qO_some, qRes_val, qHp_some, qPick_true, qPick_false, qG_tt, qG_ff, qG_tf, qG_ft, cellsK_some, qLd_ptr, qLd_vptr, qLdA_ptr, qLdA_vptr, qFa_ptr, qFa_vptr, qNc_ptr, qNc_vptr, qNc_fn, qNot_bool, qExt_tup, qCallV_fn, qLss_int, qLeq_int, qGtr_int, qGeq_int, qEql_int, qNeq_int, qAdd_int, qSub_int, qMul_int, qConvI_int, qLenL_sl, qLenL_hsl, qLenS_str, foldO, min2_int, max2_int, qSame_refl, Nat.zero_add, List.getElem?_cons_zero, List.getElem?_cons_succ, List.nil_append, List.cons_append, List.append_nil, one_bool, one_int, one_str, one_nilp, one_ptr, one_sl, one_hsl, one_map, one_fn, List.length_cons, List.length_nil, List.set_cons_zero, List.set_cons_succ, Nat.reduceLT, Nat.reduceAdd, hrem, h, decide_true, h0, i64_in (x := v % n) (by omega)]
    exact ⟨trivial, trivial⟩
  · rw [if_neg h] at h0
    simp only [c23, r23_0, r23_1, r23_2, r23_3, r23_4, opn_z, opn_s, sel_z, sel_s, qCd_eq, qIf_true, qIf_false, qFn_eq, qBl_eq, qO_some, qRes_val, qHp_some, qPick_true, qPick_false, qG_tt, qG_ff, qG_tf, qG_ft, cellsK_some, qLd_ptr, qLd_vptr, qLdA_ptr, qLdA_vptr, qFa_ptr, qFa_vptr, qNc_ptr, qNc_vptr, qNc_fn, qNot_bool, qExt_tup, qCallV_fn, qLss_int, qLeq_int, qGtr_int, qGeq_int, qEql_int, qNeq_int, qAdd_int, qSub_int, qMul_int, qConvI_int, qLenL_sl, qLenL_hsl, qLenS_str, foldO, min2_int, max2_int, qSame_refl, Nat.zero_add, List.getElem?_cons_zero, List.getElem?_cons_succ, List.nil_append, List.cons_append, List.append_nil, one_bool, one_int, one_str, one_nilp, one_ptr, one_sl, one_hsl, one_map, one_fn, List.length_cons, List.length_nil, List.set_cons_zero, List.set_cons_succ, Nat.reduceLT, Nat.reduceAdd, hrem, h, decide_false]
    exact ⟨by rw [h0], trivial⟩

theorem ev_edges (rate burst n : Int) : ∃ H', evl X O 5 [.int .i64 rate, .int .i64 burst, .int .i64 n] H0 = some (.val (.bool true) H') := by
  have p1 := Int.emod_nonneg rate (by decide : (1000 : Int) ≠ 0)
  have p2 := Int.emod_lt_of_pos rate (by decide : (0 : Int) < 1000)
  have p3 := Int.emod_nonneg burst (by decide : (1000 : Int) ≠ 0)
  have p4 := Int.emod_lt_of_pos burst (by decide : (0 : Int) < 1000)
  have p5 := Int.emod_nonneg n (by decide : (99 : Int) ≠ 0)
  have p6 := Int.emod_lt_of_pos n (by decide : (0 : Int) < 99)
  have e1 := fun H => ev_place hO rate 1000 (by decide) (by decide) H
  have e2 := fun H => ev_place hO burst 1000 (by decide) (by decide) H
  have e3 := fun H => ev_place hO n 99 (by decide) (by decide) H
  generalize rate % 1000 = a at *
  generalize burst % 1000 = b at *
  generalize n % 99 = k at *
  obtain ⟨H1, n1, n2, n3⟩ := ev_new hO .H0 (1001 + a) (100001 + b)
  rw [show cutR (1001 + a) 1000 = 1000 by unfold cutR; omega, show cutR (100001 + b) 100000 = 100000 by unfold cutR; omega] at n2 n3
  obtain ⟨H2, m1, m2, m3⟩ := ev_new hO n2.fn (-1 - a) (-1 - b)
  rw [show cutR (-1 - a) 1000 = 0 by unfold cutR; omega, show cutR (-1 - b) 100000 = 0 by unfold cutR; omega] at m2 m3
  have g1 : H1.nx = 1 := n2.nx
  rw [g1] at m1 m2
  have m2a : H2.get 1 = some (bk 1 0 0 0) := by have := m2.at_; rwa [g1] at this
  have b0 : H2.get 0 = some (bk 0 1000 100000 100000) := (m2.other 0 (by omega)).trans n2.at_
  have l1 := ev_level hO b0
  have l2 := ev_level hO m2a
  obtain ⟨H3, t1, t2⟩ := ev_take hO m2.fn 0 m2a m3
  have t1' : evl X O 19 [.ptr 1 0, .int .i64 0] H2 = some (.val (.bool true) H3) := t1
  have t3 : H3.get 1 = some (bk 1 0 0 0) := t2.at_
  obtain ⟨H4, u1, u2⟩ := ev_take hO t2.fn 1 t3 m3
  have u1' : evl X O 19 [.ptr 1 0, .int .i64 1] H3 = some (.val (.bool false) H4) := u1
  have u3 : H4.get 1 = some (bk 1 0 0 0) := u2.at_
  obtain ⟨H5, v1, v2⟩ := ev_tick hO u2.fn 5 u3 m3
  have v3 : H5.get 1 = some (bk 1 0 0 0) := v2.at_
  have l3 := ev_level hO v3
  have b1 : H5.get 0 = some (bk 0 1000 100000 100000) := (v2.other 0 (by decide)).trans ((u2.other 0 (by decide)).trans ((t2.other 0 (by decide)).trans b0))
  obtain ⟨H6, w1, w2⟩ := ev_take hO v2.fn 100000 b1 n3
  have w1' : evl X O 19 [.ptr 0 0, .int .i64 100000] H5 = some (.val (.bool true) H6) := w1
  have w3 : H6.get 0 = some (bk 0 1000 100000 0) := w2.at_
  have f0 : Fit 1000 100000 0 := ⟨by decide, by decide, by decide, by decide, by decide⟩
  have l4 := ev_level hO w3
  obtain ⟨H7, x1, x2⟩ := ev_take hO w2.fn (-5) w3 f0
  have x1' : evl X O 19 [.ptr 0 0, .int .i64 (-5)] H6 = some (.val (.bool true) H7) := x1
  have x3 : H7.get 0 = some (bk 0 1000 100000 0) := x2.at_
  have l5 := ev_level hO x3
  obtain ⟨H8, y1, y2⟩ := ev_tick hO x2.fn k x3 f0
  have f1 := more_fit k f0
  have ek : more 1000 100000 0 k = k * 1000 := by unfold more; omega
  rw [ek] at y2 f1
  have l6 := ev_level hO y2.at_
  obtain ⟨H9, z1, z2⟩ := ev_tick hO y2.fn (-1 - k) y2.at_ f1
  have f2 := more_fit (-1 - k) f1
  have ek2 : more 1000 100000 (k * 1000) (-1 - k) = k * 1000 := by unfold more; omega
  rw [ek2] at z2 f2
  obtain ⟨H10, q1, q2⟩ := ev_tick hO z2.fn (1073741825 + k) z2.at_ f2
  have ek3 : more 1000 100000 (k * 1000) (1073741825 + k) = 100000 := by unfold more; omega
  rw [ek3] at q2
  have l7 := ev_level hO q2.at_
  obtain ⟨H', a1, a2⟩ := ev_awake hO q2.fn
  suffices h : c5 (evl X O) [.int .i64 rate, .int .i64 burst, .int .i64 n] H0 (fun v _ => v = .bool true) by
    obtain ⟨v, H', h1, rfl⟩ := of_form e5 xf5 (hO _ _ _ (by decide) (by decide)) h
    exact ⟨H', h1⟩
  rw [H0_nx] at n1
  simp only [c5, r5_0, r5_1, r5_2, r5_3, r5_5, r5_6, r5_7, r5_9, r5_10, r5_12, r5_13, r5_14, opn_z, opn_s, sel_z, sel_s, qCd_eq, qIf_true, qIf_false, qFn_eq, qBl_eq, qO_some, qRes_val, qHp_some, qPick_true, qPick_false, qG_tt, qG_ff, qG_tf, qG_ft, cellsK_some, qLd_ptr, qLd_vptr, qLdA_ptr, qLdA_vptr, qFa_ptr, qFa_vptr, qNc_ptr, qNc_vptr, qNc_fn, qNot_bool, qExt_tup, qCallV_fn, qLss_int, qLeq_int, qGtr_int, qGeq_int, qEql_int, qNeq_int, qAdd_int, qSub_int, qMul_int, qConvI_int, qLenL_sl, qLenL_hsl, qLenS_str, foldO, min2_int, max2_int, qSame_refl, Nat.zero_add, List.getElem?_cons_zero, List.getElem?_cons_succ, List.nil_append, List.cons_append, List.append_nil, one_bool, one_int, one_str, one_nilp, one_ptr, one_sl, one_hsl, one_map, one_fn, List.length_cons, List.length_nil, List.set_cons_zero, List.set_cons_succ, Nat.reduceLT, Nat.reduceAdd, e1, e2, e3, i64_in (x := 1001 + a) (by omega), i64_in (x := 100001 + b) (by omega), i64_in (x := -1 - a) (by omega), i64_in (x := -1 - b) (by omega),
    i64_in (x := k * 1000) (by omega), i64_in (x := -1 - k) (by omega), i64_in (x := 1073741825 + k) (by omega), n1, m1, eq_nil23, l1, l2, t1', u1', v1, l3, w1', l4, x1', l5, y1, l6, z1, q1, l7, a1, beq_self_eq_true, Bool.not_true, Bool.not_false]

end
end T
