import Derived.Test.YtgmifbbimcblcaaBuckD
set_option linter.all false
set_option linter.unusedVariables false
set_option linter.unusedSimpArgs false
set_option maxRecDepth 10000
namespace T
open Go Go.Aes Go.Proofs

theorem neB (a b : Bool) (k : AV → Prop) : qNeq X 4 (.bool a) (.bool b) k = k (.bool (a != b)) := by cases a <;> cases b <;> rfl

structure WInv (r m f : Int) (i : Nat) (lv tk gn : Int) : Prop where
  ft : Fit r m lv
  r1 : r ≤ 49
  m1 : m ≤ 499
  i1 : i ≤ 80
  t0 : 0 ≤ tk
  t1 : tk ≤ 120 * i
  g0 : 0 ≤ gn
  g1 : gn ≤ 5 * i
  le : tk + lv ≤ m + r * gn
  fr : (i : Int) ≤ f → tk = 0

theorem mul_bd {r gn : Int} (r0 : 0 ≤ r) (r1 : r ≤ 49) (g0 : 0 ≤ gn) (g1 : gn ≤ 405) : 0 ≤ r * gn ∧ r * gn ≤ 19845 := by
  have := Int.mul_le_mul r1 g1 g0 (by decide)
  exact ⟨Int.mul_nonneg r0 g0, by simpa using this⟩

section
variable {O : CallF} (hO : OutO O)
include hO

theorem ev_window (rate burst : Int) (zs : List Int) (tk1 : Tk) (ts : List Int) (tk2 : Tk) (from' : Int) (hz : zs.length ≤ Go.maxLen) (ht : ts.length ≤ Go.maxLen) :
    ∃ H', evl X O 4 [.int .i64 rate, .int .i64 burst, .sl (intRows .i64 zs) tk1, .sl (intRows .i64 ts) tk2, .int .i64 from'] H0 = some (.val (.bool true) H') := by
  have p1 := Int.emod_nonneg rate (by decide : (50 : Int) ≠ 0)
  have p2 := Int.emod_lt_of_pos rate (by decide : (0 : Int) < 50)
  have p3 := Int.emod_nonneg burst (by decide : (500 : Int) ≠ 0)
  have p4 := Int.emod_lt_of_pos burst (by decide : (0 : Int) < 500)
  have e1 := fun H => ev_place hO rate 50 (by decide) (by decide) H
  have e2 := fun H => ev_place hO burst 500 (by decide) (by decide) H
  generalize rate % 50 = r at *
  generalize burst % 500 = m at *
  obtain ⟨H1, n1, n2, n3⟩ := ev_new hO .H0 r m
  rw [show cutR r 1000 = r by unfold cutR; omega, show cutR m 100000 = m by unfold cutR; omega] at n2 n3
  rw [H0_nx] at n1
  suffices h : c4 (evl X O) [.int .i64 rate, .int .i64 burst, .sl (intRows .i64 zs) tk1, .sl (intRows .i64 ts) tk2, .int .i64 from'] H0 (fun v _ => v = .bool true) by
    obtain ⟨v, H', h1, rfl⟩ := of_form e4 xf4 (hO _ _ _ (by decide) (by decide)) h
    exact ⟨H', h1⟩
  by_cases hl : zs.length ≤ 80
  · have hl' : ¬ (80 < ((intRows .i64 zs).length : Int)) := by rw [intRows_len]; omega
    have hw : IntKind.i64.wrap (((intRows .i64 zs).length : Int) + 1) = ((zs.length + 1 : Nat) : Int) := by rw [intRows_len]; exact wrap_succ _ (by omega)
    have e3 := fun H => ev_place hO from' ((zs.length + 1 : Nat) : Int) (by omega) (by omega) H
    have q1 := Int.emod_nonneg from' (by omega : ((zs.length + 1 : Nat) : Int) ≠ 0)
    generalize from' % ((zs.length + 1 : Nat) : Int) = f at *
    simp only [c4, r4_0, r4_1, r4_2, r4_3, r4_5, r4_6, r4_7, opn_z, opn_s, sel_z, sel_s, qCd_eq, qIf_true, qIf_false, qFn_eq, qBl_eq, qO_some, qRes_val, qHp_some, qPick_true, qPick_false, qG_tt, qG_ff, qG_tf, qG_ft, cellsK_some, qLd_ptr, qLd_vptr, qLdA_ptr, qLdA_vptr, qFa_ptr, qFa_vptr, qNc_ptr, qNc_vptr, qNc_fn, qNot_bool, qExt_tup, qCallV_fn, qLss_int, qLeq_int, qGtr_int, qGeq_int, qEql_int, qNeq_int, qAdd_int, qSub_int, qMul_int, qConvI_int, qLenL_sl, qLenL_hsl, qLenS_str, foldO, min2_int, max2_int, qSame_refl, Nat.zero_add, List.getElem?_cons_zero, List.getElem?_cons_succ, List.nil_append, List.cons_append, List.append_nil, one_bool, one_int, one_str, one_nilp, one_ptr, one_sl, one_hsl, one_map, one_fn, List.length_cons, List.length_nil, List.set_cons_zero, List.set_cons_succ, Nat.reduceLT, Nat.reduceAdd, e1, e2, n1, eq_nil23, hl', decide_false, hw, e3]
    refine loop_inv (fun n fr H => ∃ (i : Nat) (lv tk gn : Int) (x18 x19 x20 x21 x49 x92 x98 x108 x112 x123 : AV), n = 80 - i ∧
      fr = [.int .i64 rate, .int .i64 burst, .sl (intRows .i64 zs) tk1, .sl (intRows .i64 ts) tk2, .int .i64 from', .bool false, .int .i64 r, .int .i64 m, .ptr 0 0, .int .i64 f, .int .i64 tk, .int .i64 gn, .int .i64 (i : Int), x18, x19, x20, x21, .bool false, x49, x92, x98, x108, x112, x123] ∧
      Aes.Fn H ∧ H.get 0 = some (bk 0 r m lv) ∧ WInv r m f i lv tk gn) ?_ (m := 80) ?_
    · rintro n fr H k ⟨i, lv, tk, gn, x18, x19, x20, x21, x49, x92, x98, x108, x112, x123, rfl, rfl, hf, hb, inv⟩ hk
      by_cases h1 : i < zs.length
      · have h1' : ((i : Int) < ((intRows .i64 zs).length : Int)) := by rw [intRows_len]; omega
        have hzi : zs[i]? = some zs[i] := List.getElem?_eq_getElem h1
        generalize zs[i] = z at hzi
        have hia := qIa_ints (tk := tk1) hzi
        have pc := fun H => ev_place hO z 120 (by decide) (by decide) H
        have c0 := Int.emod_nonneg z (by decide : (120 : Int) ≠ 0)
        have c1 := Int.emod_lt_of_pos z (by decide : (0 : Int) < 120)
        generalize z % 120 = c at *
        have hlv := ev_level hO hb
        obtain ⟨H2, t1, t2⟩ := ev_take hO hf c hb inv.ft
        rw [show max c 0 = c by omega] at t1 t2
        have hlv2 := ev_level hO t2.at_
        have i1 := inv.i1; have i0 := inv.ft.l0; have ib := inv.ft.lb; have m1 := inv.m1; have it0 := inv.t0; have it1 := inv.t1; have ig0 := inv.g0; have ig1 := inv.g1; have ile := inv.le; have ifr := inv.fr; have ir1 := inv.r1
        obtain ⟨mb0, mb1⟩ := mul_bd inv.ft.r0 ir1 ig0 (by omega)
        -- the last: the clock
        have fin : ∀ (lv' tk' : Int) (H' : AH) (x18 x19 x20 x92 x98 x108 : AV), Aes.Fn H' → H'.get 0 = some (bk 0 r m lv') → Fit r m lv' → 0 ≤ tk' → tk' ≤ 120 * (i + 1 : Nat) → tk' + lv' ≤ m + r * gn → ((i : Int) < f → tk' = 0) →
            r4_19 (qCd (sel 22) (fun k4 => r4_20 (evl X O) (r4_21 (evl X O) (r4_22 (qCd (sel 23) (fun k5 => r4_23 k5) (fun k5 => k5) k4)))) (fun k4 => k4) (r4_9 k))
              [.int .i64 rate, .int .i64 burst, .sl (intRows .i64 zs) tk1, .sl (intRows .i64 ts) tk2, .int .i64 from', .bool false, .int .i64 r, .int .i64 m, .ptr 0 0, .int .i64 f, .int .i64 tk', .int .i64 gn, .int .i64 (i : Int), x18, x19, x20, x21, .bool false, .bool true, x92, x98, x108, x112, x123] H' := by
          intro lv' tk' H' x18 x19 x20 x92 x98 x108 hf' hb' ft' u0 u1 ule ufr
          have l0 := ft'.l0; have l1 := ft'.lb
          by_cases h3 : i < ts.length
          · have h3' : ((i : Int) < ((intRows .i64 ts).length : Int)) := by rw [intRows_len]; omega
            have hti : ts[i]? = some ts[i] := List.getElem?_eq_getElem h3
            generalize ts[i] = y at hti
            have hib := qIa_ints (tk := tk2) hti
            have pt := fun H => ev_place hO y 5 (by decide) (by decide) H
            have y0 := Int.emod_nonneg y (by decide : (5 : Int) ≠ 0)
            have y1 := Int.emod_lt_of_pos y (by decide : (0 : Int) < 5)
            generalize y % 5 = t at *
            obtain ⟨H3, s1, s2⟩ := ev_tick hO hf' t hb' ft'
            have f3 := more_fit t ft'
            have em : more r m lv' t = min (lv' + r * t) m := by unfold more; rw [show max 0 (min t 1073741824) = t by omega]
            have mt : r * (gn + t) = r * gn + r * t := Int.mul_add _ _ _
            have mt0 : 0 ≤ r * t := Int.mul_nonneg inv.ft.r0 y0
            by_cases h4 : f ≤ (i : Int)
            · simp only [r4_19, r4_20, r4_21, r4_22, r4_23, r4_9, opn_z, opn_s, sel_z, sel_s, qCd_eq, qIf_true, qIf_false, qFn_eq, qBl_eq, qO_some, qRes_val, qHp_some, qPick_true, qPick_false, qG_tt, qG_ff, qG_tf, qG_ft, cellsK_some, qLd_ptr, qLd_vptr, qLdA_ptr, qLdA_vptr, qFa_ptr, qFa_vptr, qNc_ptr, qNc_vptr, qNc_fn, qNot_bool, qExt_tup, qCallV_fn, qLss_int, qLeq_int, qGtr_int, qGeq_int, qEql_int, qNeq_int, qAdd_int, qSub_int, qMul_int, qConvI_int, qLenL_sl, qLenL_hsl, qLenS_str, foldO, min2_int, max2_int, qSame_refl, Nat.zero_add, List.getElem?_cons_zero, List.getElem?_cons_succ, List.nil_append, List.cons_append, List.append_nil, one_bool, one_int, one_str, one_nilp, one_ptr, one_sl, one_hsl, one_map, one_fn, List.length_cons, List.length_nil, List.set_cons_zero, List.set_cons_succ, Nat.reduceLT, Nat.reduceAdd, h3', decide_true, hib, pt, s1, h4, i64_in (x := gn + t) (by omega), wrap_succ i (by omega)]
              refine hk (80 - (i + 1)) _ _ (by omega) ⟨i + 1, _, _, _, _, _, _, _, _, _, _, _, _, _, rfl, rfl, s2.fn, s2.at_, ⟨f3, ir1, m1, by omega, u0, u1, by omega, by omega, ?_, by omega⟩⟩
              rw [em, mt]; omega
            · have h5 := ufr (by omega)
              simp only [r4_19, r4_20, r4_21, r4_22, r4_23, r4_9, opn_z, opn_s, sel_z, sel_s, qCd_eq, qIf_true, qIf_false, qFn_eq, qBl_eq, qO_some, qRes_val, qHp_some, qPick_true, qPick_false, qG_tt, qG_ff, qG_tf, qG_ft, cellsK_some, qLd_ptr, qLd_vptr, qLdA_ptr, qLdA_vptr, qFa_ptr, qFa_vptr, qNc_ptr, qNc_vptr, qNc_fn, qNot_bool, qExt_tup, qCallV_fn, qLss_int, qLeq_int, qGtr_int, qGeq_int, qEql_int, qNeq_int, qAdd_int, qSub_int, qMul_int, qConvI_int, qLenL_sl, qLenL_hsl, qLenS_str, foldO, min2_int, max2_int, qSame_refl, Nat.zero_add, List.getElem?_cons_zero, List.getElem?_cons_succ, List.nil_append, List.cons_append, List.append_nil, one_bool, one_int, one_str, one_nilp, one_ptr, one_sl, one_hsl, one_map, one_fn, List.length_cons, List.length_nil, List.set_cons_zero, List.set_cons_succ, Nat.reduceLT, Nat.reduceAdd, h3', decide_true, hib, pt, s1, h4, decide_false, wrap_succ i (by omega)]
              refine hk (80 - (i + 1)) _ _ (by omega) ⟨i + 1, _, _, _, _, _, _, _, _, _, _, _, _, _, rfl, rfl, s2.fn, s2.at_, ⟨f3, ir1, m1, by omega, u0, u1, by omega, by omega, ?_, fun _ => h5⟩⟩
              rw [em]; omega
          · have h3' : ¬ ((i : Int) < ((intRows .i64 ts).length : Int)) := by rw [intRows_len]; omega
            simp only [r4_19, r4_9, opn_z, opn_s, sel_z, sel_s, qCd_eq, qIf_true, qIf_false, qFn_eq, qBl_eq, qO_some, qRes_val, qHp_some, qPick_true, qPick_false, qG_tt, qG_ff, qG_tf, qG_ft, cellsK_some, qLd_ptr, qLd_vptr, qLdA_ptr, qLdA_vptr, qFa_ptr, qFa_vptr, qNc_ptr, qNc_vptr, qNc_fn, qNot_bool, qExt_tup, qCallV_fn, qLss_int, qLeq_int, qGtr_int, qGeq_int, qEql_int, qNeq_int, qAdd_int, qSub_int, qMul_int, qConvI_int, qLenL_sl, qLenL_hsl, qLenS_str, foldO, min2_int, max2_int, qSame_refl, Nat.zero_add, List.getElem?_cons_zero, List.getElem?_cons_succ, List.nil_append, List.cons_append, List.append_nil, one_bool, one_int, one_str, one_nilp, one_ptr, one_sl, one_hsl, one_map, one_fn, List.length_cons, List.length_nil, List.set_cons_zero, List.set_cons_succ, Nat.reduceLT, Nat.reduceAdd, h3', decide_false, wrap_succ i (by omega)]
            exact hk (80 - (i + 1)) _ _ (by omega) ⟨i + 1, _, _, _, _, _, _, _, _, _, _, _, _, _, rfl, rfl, hf', hb', ⟨ft', ir1, m1, by omega, u0, u1, by omega, by omega, by omega, fun h => ufr (by omega)⟩⟩
        have wm : IntKind.i64.wrap (r * gn) = r * gn := i64_in (by omega)
        have wa : IntKind.i64.wrap (m + r * gn) = m + r * gn := i64_in (by omega)
        have hm : ¬ (m < lv) := by omega
        by_cases hc : c ≤ lv
        · rw [if_pos hc] at t2 hlv2
          have t1' : evl X O 19 [.ptr 0 0, .int .i64 c] H = some (.val (.bool true) H2) := by rw [t1]; simp [hc]
          have ws : IntKind.i64.wrap (lv - c) = lv - c := i64_in (by omega)
          have ft2 : Fit r m (lv - c) := ⟨inv.ft.r0, inv.ft.r1, inv.ft.b1, by omega, by omega⟩
          by_cases h4 : f ≤ (i : Int)
          · have wt : IntKind.i64.wrap (tk + c) = tk + c := i64_in (by omega)
            have hg : ¬ (m + r * gn < tk + c) := by omega
            have := fin (lv - c) (tk + c) H2 (.int .i64 c) (.int .i64 lv) (.bool true) (.bool false) (.bool true) (.bool false) t2.fn t2.at_ ft2 (by omega) (by omega) (by omega) (by omega)
            cases hq : (lv - c == lv) <;> (simp only [l4_9, r4_8, r4_10, r4_11, r4_12, r4_13, r4_15, r4_16, r4_17, opn_z, opn_s, sel_z, sel_s, qCd_eq, qIf_true, qIf_false, qFn_eq, qBl_eq, qO_some, qRes_val, qHp_some, qPick_true, qPick_false, qG_tt, qG_ff, qG_tf, qG_ft, cellsK_some, qLd_ptr, qLd_vptr, qLdA_ptr, qLdA_vptr, qFa_ptr, qFa_vptr, qNc_ptr, qNc_vptr, qNc_fn, qNot_bool, qExt_tup, qCallV_fn, qLss_int, qLeq_int, qGtr_int, qGeq_int, qEql_int, qNeq_int, qAdd_int, qSub_int, qMul_int, qConvI_int, qLenL_sl, qLenL_hsl, qLenS_str, foldO, min2_int, max2_int, qSame_refl, Nat.zero_add, List.getElem?_cons_zero, List.getElem?_cons_succ, List.nil_append, List.cons_append, List.append_nil, one_bool, one_int, one_str, one_nilp, one_ptr, one_sl, one_hsl, one_map, one_fn, List.length_cons, List.length_nil, List.set_cons_zero, List.set_cons_succ, Nat.reduceLT, Nat.reduceAdd, h1', decide_true, hia, pc, hlv, t1', hc, neB, bne_self_eq_false, hlv2, ws, hm, decide_false, beq_self_eq_true, Bool.not_true, h4, wt, wm, wa, hg, hq, Bool.not_false]; exact this)
          · have h5 := ifr (by omega)
            have hg : ¬ (m + r * gn < tk) := by omega
            have := fin (lv - c) tk H2 (.int .i64 c) (.int .i64 lv) (.bool true) (.bool false) (.bool false) (.bool false) t2.fn t2.at_ ft2 (by omega) (by omega) (by omega) (by omega)
            cases hq : (lv - c == lv) <;> (simp only [l4_9, r4_8, r4_10, r4_11, r4_12, r4_13, r4_15, r4_16, r4_17, opn_z, opn_s, sel_z, sel_s, qCd_eq, qIf_true, qIf_false, qFn_eq, qBl_eq, qO_some, qRes_val, qHp_some, qPick_true, qPick_false, qG_tt, qG_ff, qG_tf, qG_ft, cellsK_some, qLd_ptr, qLd_vptr, qLdA_ptr, qLdA_vptr, qFa_ptr, qFa_vptr, qNc_ptr, qNc_vptr, qNc_fn, qNot_bool, qExt_tup, qCallV_fn, qLss_int, qLeq_int, qGtr_int, qGeq_int, qEql_int, qNeq_int, qAdd_int, qSub_int, qMul_int, qConvI_int, qLenL_sl, qLenL_hsl, qLenS_str, foldO, min2_int, max2_int, qSame_refl, Nat.zero_add, List.getElem?_cons_zero, List.getElem?_cons_succ, List.nil_append, List.cons_append, List.append_nil, one_bool, one_int, one_str, one_nilp, one_ptr, one_sl, one_hsl, one_map, one_fn, List.length_cons, List.length_nil, List.set_cons_zero, List.set_cons_succ, Nat.reduceLT, Nat.reduceAdd, h1', decide_true, hia, pc, hlv, t1', hc, neB, bne_self_eq_false, hlv2, ws, hm, decide_false, beq_self_eq_true, Bool.not_true, h4, wm, wa, hg, hq, Bool.not_false]; exact this)
        · rw [if_neg hc] at t2 hlv2
          have t1' : evl X O 19 [.ptr 0 0, .int .i64 c] H = some (.val (.bool false) H2) := by rw [t1]; simp [hc]
          have ws : IntKind.i64.wrap (lv - c) = lv - c := i64_in (by omega)
          have hne : (lv == lv - c) = decide (lv = lv - c) := by rw [Bool.eq_iff_iff]; simp
          have hne2 : ¬ (lv = lv - c) := by omega
          have hg : ¬ (m + r * gn < tk) := by omega
          by_cases h4 : f ≤ (i : Int)
          · have := fin lv tk H2 (.int .i64 c) (.int .i64 lv) (.bool false) (.bool false) (.bool false) (.bool false) t2.fn t2.at_ inv.ft (by omega) (by omega) (by omega) (by omega)
            simp only [l4_9, r4_8, r4_10, r4_11, r4_12, r4_13, r4_15, r4_16, r4_17, opn_z, opn_s, sel_z, sel_s, qCd_eq, qIf_true, qIf_false, qFn_eq, qBl_eq, qO_some, qRes_val, qHp_some, qPick_true, qPick_false, qG_tt, qG_ff, qG_tf, qG_ft, cellsK_some, qLd_ptr, qLd_vptr, qLdA_ptr, qLdA_vptr, qFa_ptr, qFa_vptr, qNc_ptr, qNc_vptr, qNc_fn, qNot_bool, qExt_tup, qCallV_fn, qLss_int, qLeq_int, qGtr_int, qGeq_int, qEql_int, qNeq_int, qAdd_int, qSub_int, qMul_int, qConvI_int, qLenL_sl, qLenL_hsl, qLenS_str, foldO, min2_int, max2_int, qSame_refl, Nat.zero_add, List.getElem?_cons_zero, List.getElem?_cons_succ, List.nil_append, List.cons_append, List.append_nil, one_bool, one_int, one_str, one_nilp, one_ptr, one_sl, one_hsl, one_map, one_fn, List.length_cons, List.length_nil, List.set_cons_zero, List.set_cons_succ, Nat.reduceLT, Nat.reduceAdd, h1', decide_true, hia, pc, hlv, t1', hc, neB, bne_self_eq_false, hlv2, ws, hne, hne2, hm, decide_false, beq_self_eq_true, Bool.not_true, Bool.not_false, h4, wm, wa, hg]
            exact this
          · have := fin lv tk H2 (.int .i64 c) (.int .i64 lv) (.bool false) (.bool false) (.bool false) (.bool false) t2.fn t2.at_ inv.ft (by omega) (by omega) (by omega) (by omega)
            simp only [l4_9, r4_8, r4_10, r4_11, r4_12, r4_13, r4_15, r4_16, r4_17, opn_z, opn_s, sel_z, sel_s, qCd_eq, qIf_true, qIf_false, qFn_eq, qBl_eq, qO_some, qRes_val, qHp_some, qPick_true, qPick_false, qG_tt, qG_ff, qG_tf, qG_ft, cellsK_some, qLd_ptr, qLd_vptr, qLdA_ptr, qLdA_vptr, qFa_ptr, qFa_vptr, qNc_ptr, qNc_vptr, qNc_fn, qNot_bool, qExt_tup, qCallV_fn, qLss_int, qLeq_int, qGtr_int, qGeq_int, qEql_int, qNeq_int, qAdd_int, qSub_int, qMul_int, qConvI_int, qLenL_sl, qLenL_hsl, qLenS_str, foldO, min2_int, max2_int, qSame_refl, Nat.zero_add, List.getElem?_cons_zero, List.getElem?_cons_succ, List.nil_append, List.cons_append, List.append_nil, one_bool, one_int, one_str, one_nilp, one_ptr, one_sl, one_hsl, one_map, one_fn, List.length_cons, List.length_nil, List.set_cons_zero, List.set_cons_succ, Nat.reduceLT, Nat.reduceAdd, h1', decide_true, hia, pc, hlv, t1', hc, neB, bne_self_eq_false, hlv2, ws, hne, hne2, hm, decide_false, beq_self_eq_true, Bool.not_true, Bool.not_false, h4, wm, wa, hg]
            exact this
      · have h1' : ¬ ((i : Int) < ((intRows .i64 zs).length : Int)) := by rw [intRows_len]; omega
        obtain ⟨H', u1, u2⟩ := ev_awake hO hf
        simp only [l4_9, r4_8, r4_24, opn_z, opn_s, sel_z, sel_s, qCd_eq, qIf_true, qIf_false, qFn_eq, qBl_eq, qO_some, qRes_val, qHp_some, qPick_true, qPick_false, qG_tt, qG_ff, qG_tf, qG_ft, cellsK_some, qLd_ptr, qLd_vptr, qLdA_ptr, qLdA_vptr, qFa_ptr, qFa_vptr, qNc_ptr, qNc_vptr, qNc_fn, qNot_bool, qExt_tup, qCallV_fn, qLss_int, qLeq_int, qGtr_int, qGeq_int, qEql_int, qNeq_int, qAdd_int, qSub_int, qMul_int, qConvI_int, qLenL_sl, qLenL_hsl, qLenS_str, foldO, min2_int, max2_int, qSame_refl, Nat.zero_add, List.getElem?_cons_zero, List.getElem?_cons_succ, List.nil_append, List.cons_append, List.append_nil, one_bool, one_int, one_str, one_nilp, one_ptr, one_sl, one_hsl, one_map, one_fn, List.length_cons, List.length_nil, List.set_cons_zero, List.set_cons_succ, Nat.reduceLT, Nat.reduceAdd, h1', decide_false, u1]
    · have n2a : H1.get 0 = some (bk 0 r m m) := n2.at_
      exact ⟨0, m, 0, 0, Aes.undef, Aes.undef, Aes.undef, Aes.undef, Aes.undef, Aes.undef, Aes.undef, Aes.undef, Aes.undef, Aes.undef, rfl, rfl, n2.fn, n2a, ⟨n3, by omega, by omega, by omega, by omega, by omega, by omega, by omega, by simp, fun _ => rfl⟩⟩
  · have hl' : 80 < ((intRows .i64 zs).length : Int) := by rw [intRows_len]; omega
    obtain ⟨H', u1, u2⟩ := ev_awake hO n2.fn
    simp only [c4, r4_0, r4_1, r4_2, r4_3, r4_4, opn_z, opn_s, sel_z, sel_s, qCd_eq, qIf_true, qIf_false, qFn_eq, qBl_eq, qO_some, qRes_val, qHp_some, qPick_true, qPick_false, qG_tt, qG_ff, qG_tf, qG_ft, cellsK_some, qLd_ptr, qLd_vptr, qLdA_ptr, qLdA_vptr, qFa_ptr, qFa_vptr, qNc_ptr, qNc_vptr, qNc_fn, qNot_bool, qExt_tup, qCallV_fn, qLss_int, qLeq_int, qGtr_int, qGeq_int, qEql_int, qNeq_int, qAdd_int, qSub_int, qMul_int, qConvI_int, qLenL_sl, qLenL_hsl, qLenS_str, foldO, min2_int, max2_int, qSame_refl, Nat.zero_add, List.getElem?_cons_zero, List.getElem?_cons_succ, List.nil_append, List.cons_append, List.append_nil, one_bool, one_int, one_str, one_nilp, one_ptr, one_sl, one_hsl, one_map, one_fn, List.length_cons, List.length_nil, List.set_cons_zero, List.set_cons_succ, Nat.reduceLT, Nat.reduceAdd, e1, e2, n1, eq_nil23, ne_nil23, hl', decide_true, u1]

end
end T
