import Derived.Test.YtphgikpdbaeeoaaDoorRdX
set_option linter.all false
set_option linter.unusedVariables false
set_option linter.unusedSimpArgs false
set_option maxRecDepth 10000
namespace T
open Go Go.Aes Go.Proofs


/-- the loop over what is none -/
theorem forms_loop (L : List Str) (hL : L.length = 12) (y : Str) (hy : y.length < 100) (hb : ∀ s ∈ L, s.length < 1000 ∧ ((num s).2 = false ∨ s = [48] ++ y)) (kb kr : KT Prop) (s9 : Str)
    (hk : ∀ (x0 x1 x2 x3 x11 x12 x13 x14 x15 x16 x17 x18 x19 x21 x23 x25 x35 x96 x133 x134 x148 : AV), kb [x0, x1, x2, x3, .bool false, .str s9, .str y, x11, x12, x13, x14, x15, x16, x17, x18, x19, x21, x23, x25, x35, x96, .sl (strRows L) .full, .int .i64 12, x133, x134, x148] H0) (x0 x1 x2 x3 x11 x12 x13 x14 x15 x16 x17 x18 x19 x21 x23 x25 x35 x96 x134 x148 : AV) :
    qLoop (l6_5 EP kb kr) [x0, x1, x2, x3, .bool false, .str s9, .str y, x11, x12, x13, x14, x15, x16, x17, x18, x19, x21, x23, x25, x35, x96, .sl (strRows L) .full, .int .i64 12, .int .i64 0, x134, x148] H0 := by
  have a1 := fun k => qAdd_str (R := Prop) X 9 [48] y (by unfold most; simp; omega) k
  refine loop_inv (fun m fr H => ∃ (i : Nat) (x0 x1 x2 x3 x11 x12 x13 x14 x15 x16 x17 x18 x19 x21 x23 x25 x35 x96 x134 x148 : AV), m = 12 - i ∧ i ≤ 12 ∧ fr = [x0, x1, x2, x3, .bool false, .str s9, .str y, x11, x12, x13, x14, x15, x16, x17, x18, x19, x21, x23, x25, x35, x96, .sl (strRows L) .full, .int .i64 12, .int .i64 (i : Int), x134, x148] ∧ H = H0) ?_ (m := 12) ?_
  · rintro m fr H k ⟨i, x0, x1, x2, x3, x11, x12, x13, x14, x15, x16, x17, x18, x19, x21, x23, x25, x35, x96, x134, x148, rfl, hi, rfl, rfl⟩ hkk
    rcases Nat.lt_or_ge i 12 with h | h
    · have h' : (i : Int) < 12 := by omega
      have hi2 : i < L.length := by omega
      have ix := fun k => qIa_strs (tk := .full) (List.getElem?_eq_getElem hi2) k
      obtain ⟨b1, b2⟩ := hb L[i] (List.getElem_mem hi2)
      have e15 := fun H => ep15 L[i] (by omega) H
      have hw := wrap_up i (by omega)
      cases hn : (num L[i]).2 with
      | false =>
        rw [hn] at e15
        simp -implicitDefEqProofs only [l6_5, r6_11, r6_12, r6_13, r6_14, r6_16, opn_z, opn_s, sel_z, sel_s, qCd_eq, qIf_true, qIf_false, qFn_eq, qBl_eq, qO_some, qRes_val, qHp_some, qPick_true, qPick_false, qG_tt, qG_ff, qG_tf, qG_ft, cellsK_some, qLd_ptr, qLd_vptr, qLdA_ptr, qLdA_vptr, qFa_ptr, qFa_vptr, qNc_ptr, qNc_vptr, qNc_fn, qNot_bool, qExt_tup, qCallV_fn, qLss_int, qLeq_int, qGtr_int, qGeq_int, qEql_int, qNeq_int, qAdd_int, qSub_int, qMul_int, qConvI_int, qLenL_sl, qLenL_hsl, qLenS_str, foldO, min2_int, max2_int, qSame_refl, Nat.zero_add, List.getElem?_cons_zero, List.getElem?_cons_succ, List.nil_append, List.cons_append, List.append_nil, one_bool, one_int, one_str, one_nilp, one_ptr, one_sl, one_hsl, one_map, one_fn, List.length_cons, List.length_nil, List.set_cons_zero, List.set_cons_succ, Nat.reduceLT, Nat.reduceAdd, qG_un, h', decide_true, ix, e15, hw]
        exact hkk (12 - (i + 1)) _ _ (by omega) ⟨i + 1, _, _, _, _, _, _, _, _, _, _, _, _, _, _, _, _, _, _, _, _, rfl, h, rfl, rfl⟩
      | true =>
        have b3 : L[i] = [48] ++ y := by
          rcases b2 with b2 | b2
          · rw [hn] at b2; cases b2
          · exact b2
        have b4 : (!decide (L[i] = [48] ++ y)) = false := by simp [b3]
        rw [hn] at e15
        have b4' : (!decide (L[i] = 48 :: y)) = false := b4
        simp -implicitDefEqProofs only [l6_5, r6_11, r6_12, r6_13, r6_14, r6_16, opn_z, opn_s, sel_z, sel_s, qCd_eq, qIf_true, qIf_false, qFn_eq, qBl_eq, qO_some, qRes_val, qHp_some, qPick_true, qPick_false, qG_tt, qG_ff, qG_tf, qG_ft, cellsK_some, qLd_ptr, qLd_vptr, qLdA_ptr, qLdA_vptr, qFa_ptr, qFa_vptr, qNc_ptr, qNc_vptr, qNc_fn, qNot_bool, qExt_tup, qCallV_fn, qLss_int, qLeq_int, qGtr_int, qGeq_int, qEql_int, qNeq_int, qAdd_int, qSub_int, qMul_int, qConvI_int, qLenL_sl, qLenL_hsl, qLenS_str, foldO, min2_int, max2_int, qSame_refl, Nat.zero_add, List.getElem?_cons_zero, List.getElem?_cons_succ, List.nil_append, List.cons_append, List.append_nil, one_bool, one_int, one_str, one_nilp, one_ptr, one_sl, one_hsl, one_map, one_fn, List.length_cons, List.length_nil, List.set_cons_zero, List.set_cons_succ, Nat.reduceLT, Nat.reduceAdd, qG_un, h', decide_true, ix, e15, hw, a1, qNeq_str, b4', List.singleton_append]
        exact hkk (12 - (i + 1)) _ _ (by omega) ⟨i + 1, _, _, _, _, _, _, _, _, _, _, _, _, _, _, _, _, _, _, _, _, rfl, h, rfl, rfl⟩
    · have h' : ¬ (i : Int) < 12 := by omega
      simp -implicitDefEqProofs only [l6_5, r6_11, opn_z, opn_s, sel_z, sel_s, qCd_eq, qIf_true, qIf_false, qFn_eq, qBl_eq, qO_some, qRes_val, qHp_some, qPick_true, qPick_false, qG_tt, qG_ff, qG_tf, qG_ft, cellsK_some, qLd_ptr, qLd_vptr, qLdA_ptr, qLdA_vptr, qFa_ptr, qFa_vptr, qNc_ptr, qNc_vptr, qNc_fn, qNot_bool, qExt_tup, qCallV_fn, qLss_int, qLeq_int, qGtr_int, qGeq_int, qEql_int, qNeq_int, qAdd_int, qSub_int, qMul_int, qConvI_int, qLenL_sl, qLenL_hsl, qLenS_str, foldO, min2_int, max2_int, qSame_refl, Nat.zero_add, List.getElem?_cons_zero, List.getElem?_cons_succ, List.nil_append, List.cons_append, List.append_nil, one_bool, one_int, one_str, one_nilp, one_ptr, one_sl, one_hsl, one_map, one_fn, List.length_cons, List.length_nil, List.set_cons_zero, List.set_cons_succ, Nat.reduceLT, Nat.reduceAdd, qG_un, h', decide_false]
      (apply hk <;> exact Aes.undef)
  · exact ⟨0, _, _, _, _, _, _, _, _, _, _, _, _, _, _, _, _, _, _, _, _, rfl, by omega, rfl, rfl⟩

theorem ev_forms (a b c : Int) (neg : Bool) : ∃ H', EP 6 [.int .i64 a, .int .i64 b, .int .i64 c, .bool neg] H0 = some (.val (.bool true) H') := by
  suffices key : ∃ v H', EP 6 [.int .i64 a, .int .i64 b, .int .i64 c, .bool neg] H0 = some (.val v H') ∧ v = .bool true by
    obtain ⟨v, H', h1, rfl⟩ := key
    exact ⟨H', h1⟩
  refine ao_form e6 xf6 rfl rfl ?_
  have pa := fun H => ep26 a 1000000 (by omega) (by omega) H
  have pb := fun H => ep26 b 1000000 (by omega) (by omega) H
  have pc := fun H => ep26 c 1000 (by omega) (by omega) H
  obtain ⟨na, ea⟩ : ∃ n : Nat, a % 1000000 = (n : Int) := ⟨(a % 1000000).toNat, by omega⟩
  obtain ⟨nb, eb⟩ : ∃ n : Nat, b % 1000000 = (n : Int) := ⟨(b % 1000000).toNat, by omega⟩
  obtain ⟨nc, ec⟩ : ∃ n : Nat, c % 1000 = (n : Int) := ⟨(c % 1000).toNat, by omega⟩
  rw [ea] at pa; rw [eb] at pb; rw [ec] at pc
  have la : na < 10 ^ 6 := by have : (10 : Nat) ^ 6 = 1000000 := by decide
                              omega
  have lb : nb < 10 ^ 6 := by have : (10 : Nat) ^ 6 = 1000000 := by decide
                              omega
  have lc : nc < 10 ^ 3 := by have : (10 : Nat) ^ 3 = 1000 := by decide
                              omega
  have p18 : (10 : Nat) ^ 6 < 10 ^ 18 := by decide
  have p18' : (10 : Nat) ^ 3 < 10 ^ 18 := by decide
  have da := fun H => ep27 na (by omega) H
  have db := fun H => ep27 nb (by omega) H
  have dc := fun H => ep27 nc (by omega) H
  obtain ⟨wa, lla⟩ := decs_wh 6 na la (by omega) (by omega)
  obtain ⟨wb, llb⟩ := decs_wh 6 nb lb (by omega) (by omega)
  obtain ⟨wc, llc⟩ := decs_wh 3 nc lc (by omega) (by omega)
  generalize decs na = xs at *
  generalize decs nb = y at *
  generalize decs nc = z at *
  have hx0 : (sg neg ++ xs).length ≤ 7 := by cases neg <;> simp [sg] <;> omega
  have i1 : ((1000000 : Nat) : Int) = 1000000 := rfl
  have nx := fun k => qAdd_str (R := Prop) X 9 [45] xs (by unfold most; simp; omega) k
  have dot : ndg [46] := ndg_cons rfl
  have dy : ∀ r, ndg (46 :: r) := fun r => ndg_cons rfl
  have de : ∀ r, ndg (101 :: r) := fun r => ndg_cons rfl
  have ddE : ∀ r, ndg (69 :: r) := fun r => ndg_cons rfl
  have nf : ∀ r, ndg r → r.length ≤ 30 → num ((sg neg ++ xs) ++ r) = tailN r := fun r hr hl => num_form neg wa hr (by simp at hx0 ⊢; omega)
  -- what is a number
  have n1 : num (sg neg ++ xs) = (true, true) := by
    have := nf [] ndg_nil (by simp)
    rw [List.append_nil] at this
    rw [this]; rfl
  have fy : fracN (46 :: y) = some [] := by
    have := fracN_dot y [] wb.all wb.ne ndg_nil
    rwa [List.append_nil] at this
  have n2 : num ((sg neg ++ xs) ++ (46 :: y)) = (false, true) := by
    rw [nf _ (dy y) (by simp; omega)]
    simp only [tailN, fy]; rfl
  have ez : expN (101 :: z) = some [] := by
    have := expN_e 101 rfl z [] wc.all wc.ne ndg_nil
    rwa [List.append_nil] at this
  have n3 : num ((sg neg ++ xs) ++ (101 :: z)) = (false, true) := by
    rw [nf _ (de z) (by simp; omega)]
    simp only [tailN, fracN_other (show (101 : UInt8) ≠ 46 by decide), ez]; rfl
  have ez2 : expN (69 :: 45 :: z) = some [] := by
    have := expN_es 69 45 rfl rfl z [] wc.all wc.ne ndg_nil
    rwa [List.append_nil] at this
  have n4 : num ((sg neg ++ xs) ++ (46 :: (y ++ (69 :: 45 :: z)))) = (false, true) := by
    rw [nf _ (dy _) (by simp; omega)]
    simp only [tailN, fracN_dot y (69 :: 45 :: z) wb.all wb.ne (ddE _), ez2]; rfl
  -- what is none
  have t2 : ∀ r, ndg r → r.length ≤ 30 → (tailN r).2 = false → (num ((sg neg ++ xs) ++ r)).2 = false := fun r h1 h2 h3 => by rw [nf r h1 h2]; exact h3
  have m1 : (num ((sg neg ++ xs) ++ [46])).2 = false := t2 _ dot (by simp) rfl
  have m2 : (num ((sg neg ++ xs) ++ [101])).2 = false := t2 _ (de []) (by simp) rfl
  have m3 : (num ((sg neg ++ xs) ++ [101, 43])).2 = false := t2 _ (de [43]) (by simp) rfl
  have m4 : (num ([46] ++ y)).2 = false := num_bad (fun c t h => by
    simp [cutP, hp_one] at h
    rw [← h.1]; rfl)
  have m6 : (num ([43] ++ (sg neg ++ xs))).2 = false := num_bad (fun c t h => by
    simp [cutP, hp_one] at h
    rw [← h.1]; rfl)
  have m7 : (num ((sg neg ++ xs) ++ [32])).2 = false := t2 _ (ndg_cons rfl) (by simp) rfl
  have m8 : (num ([32] ++ (sg neg ++ xs))).2 = false := num_bad (fun c t h => by
    simp [cutP, hp_one] at h
    rw [← h.1]; rfl)
  have m9 : (num ([45, 45] ++ (sg neg ++ xs))).2 = false := num_bad (fun c t h => by
    simp [cutP, hp_one] at h
    rw [← h.1]; rfl)
  have m10 : (num ((sg neg ++ xs) ++ (46 :: (y ++ (46 :: z))))).2 = false := t2 _ (dy _) (by simp; omega) (by
    simp only [tailN, fracN_dot y (46 :: z) wb.all wb.ne (dy _), expN_other (show ([101, 69] : Str).contains 46 = false from rfl)]
    simp)
  have m11 : (num ((sg neg ++ xs) ++ (101 :: (z ++ (101 :: z))))).2 = false := t2 _ (de _) (by simp; omega) (by
    simp only [tailN, fracN_other (show (101 : UInt8) ≠ 46 by decide), expN_e 101 rfl z (101 :: z) wc.all wc.ne (de _)]
    simp)
  have m12 : (num ((sg neg ++ xs) ++ [120])).2 = false := t2 _ (ndg_cons rfl) (by simp) rfl
  have m5 : (num ([48] ++ y)).2 = false := by
    have h1 : cutP ([48] ++ y) [45] = 48 :: y := by simp [cutP, hp_one]
    have h2 : dg (48 :: y) = y.length + 1 := dg_all (48 :: y) (by
      intro c hc
      rcases List.mem_cons.1 hc with rfl | hc
      · rfl
      · exact wb.all c hc)
    have h3 : y.length ≠ 0 := fun e => wb.ne (List.eq_nil_of_length_eq_zero e)
    unfold num
    split
    · rfl
    · rw [h1]
      simp only []
      rw [if_pos (.inr ⟨by rw [h2]; omega, rfl⟩)]
  suffices main : ∀ (x12 x13 x14 x15 x16 x17 x18 x19 x21 x23 x25 x35 x96 x131 x132 x133 x134 x148 : AV), r6_4 EP (r6_5 EP (r6_6 EP (r6_7 EP (r6_8 (qCd (sel 20) (fun _ => (r6_9 (fun fr H => sel 4 fr = .bool true))) (fun k6 => k6) (r6_10 (qBl (fun k1 => (qLoop (l6_5 EP k1 (fun fr H => sel 4 fr = .bool true)))) (r6_17 EP (r6_18 EP (fun fr H => sel 4 fr = .bool true)))))))))) [.int .i64 a, .int .i64 b, .int .i64 c, .bool neg, .bool false, .str (sg neg ++ xs), .str y, .str z, x12, x13, x14, x15, x16, x17, x18, x19, x21, x23, x25, x35, x96, x131, x132, x133, x134, x148] H0 by
    cases neg with
    | true =>
      simp -implicitDefEqProofs only [c6, r6_0, r6_1, r6_2, r6_3, opn_z, opn_s, sel_z, sel_s, qCd_eq, qIf_true, qIf_false, qFn_eq, qBl_eq, qO_some, qRes_val, qHp_some, qPick_true, qPick_false, qG_tt, qG_ff, qG_tf, qG_ft, cellsK_some, qLd_ptr, qLd_vptr, qLdA_ptr, qLdA_vptr, qFa_ptr, qFa_vptr, qNc_ptr, qNc_vptr, qNc_fn, qNot_bool, qExt_tup, qCallV_fn, qLss_int, qLeq_int, qGtr_int, qGeq_int, qEql_int, qNeq_int, qAdd_int, qSub_int, qMul_int, qConvI_int, qLenL_sl, qLenL_hsl, qLenS_str, foldO, min2_int, max2_int, qSame_refl, Nat.zero_add, List.getElem?_cons_zero, List.getElem?_cons_succ, List.nil_append, List.cons_append, List.append_nil, one_bool, one_int, one_str, one_nilp, one_ptr, one_sl, one_hsl, one_map, one_fn, List.length_cons, List.length_nil, List.set_cons_zero, List.set_cons_succ, Nat.reduceLT, Nat.reduceAdd, qG_un, pa, pb, pc, da, db, dc, nx]
      (apply main <;> exact Aes.undef)
    | false =>
      simp -implicitDefEqProofs only [c6, r6_0, r6_1, r6_2, opn_z, opn_s, sel_z, sel_s, qCd_eq, qIf_true, qIf_false, qFn_eq, qBl_eq, qO_some, qRes_val, qHp_some, qPick_true, qPick_false, qG_tt, qG_ff, qG_tf, qG_ft, cellsK_some, qLd_ptr, qLd_vptr, qLdA_ptr, qLdA_vptr, qFa_ptr, qFa_vptr, qNc_ptr, qNc_vptr, qNc_fn, qNot_bool, qExt_tup, qCallV_fn, qLss_int, qLeq_int, qGtr_int, qGeq_int, qEql_int, qNeq_int, qAdd_int, qSub_int, qMul_int, qConvI_int, qLenL_sl, qLenL_hsl, qLenS_str, foldO, min2_int, max2_int, qSame_refl, Nat.zero_add, List.getElem?_cons_zero, List.getElem?_cons_succ, List.nil_append, List.cons_append, List.append_nil, one_bool, one_int, one_str, one_nilp, one_ptr, one_sl, one_hsl, one_map, one_fn, List.length_cons, List.length_nil, List.set_cons_zero, List.set_cons_succ, Nat.reduceLT, Nat.reduceAdd, qG_un, pa, pb, pc, da, db, dc]
      (apply main <;> exact Aes.undef)
  intro x12 x13 x14 x15 x16 x17 x18 x19 x21 x23 x25 x35 x96 x131 x132 x133 x134 x148
  generalize sg neg ++ xs = x at *
  have q0 := fun k => qAdd_str (R := Prop) X 9 (x) ([46]) (by unfold most; simp; omega) k
  have q1 := fun k => qAdd_str (R := Prop) X 9 (x ++ [46]) (y) (by unfold most; simp; omega) k
  have q2 := fun k => qAdd_str (R := Prop) X 9 (x) ([101]) (by unfold most; simp; omega) k
  have q3 := fun k => qAdd_str (R := Prop) X 9 (x ++ [101]) (z) (by unfold most; simp; omega) k
  have q4 := fun k => qAdd_str (R := Prop) X 9 ((x ++ [46]) ++ y) ([69, 45]) (by unfold most; simp; omega) k
  have q5 := fun k => qAdd_str (R := Prop) X 9 (((x ++ [46]) ++ y) ++ [69, 45]) (z) (by unfold most; simp; omega) k
  have q6 := fun k => qAdd_str (R := Prop) X 9 (x) ([101, 43]) (by unfold most; simp; omega) k
  have q7 := fun k => qAdd_str (R := Prop) X 9 ([46]) (y) (by unfold most; simp; omega) k
  have q8 := fun k => qAdd_str (R := Prop) X 9 ([48]) (y) (by unfold most; simp; omega) k
  have q9 := fun k => qAdd_str (R := Prop) X 9 ([43]) (x) (by unfold most; simp; omega) k
  have q10 := fun k => qAdd_str (R := Prop) X 9 (x) ([32]) (by unfold most; simp; omega) k
  have q11 := fun k => qAdd_str (R := Prop) X 9 ([32]) (x) (by unfold most; simp; omega) k
  have q12 := fun k => qAdd_str (R := Prop) X 9 ([45, 45]) (x) (by unfold most; simp; omega) k
  have q13 := fun k => qAdd_str (R := Prop) X 9 ((x ++ [46]) ++ y) ([46]) (by unfold most; simp; omega) k
  have q14 := fun k => qAdd_str (R := Prop) X 9 (((x ++ [46]) ++ y) ++ [46]) (z) (by unfold most; simp; omega) k
  have q15 := fun k => qAdd_str (R := Prop) X 9 ((x ++ [101]) ++ z) ([101]) (by unfold most; simp; omega) k
  have q16 := fun k => qAdd_str (R := Prop) X 9 (((x ++ [101]) ++ z) ++ [101]) (z) (by unfold most; simp; omega) k
  have q17 := fun k => qAdd_str (R := Prop) X 9 (x) ([120]) (by unfold most; simp; omega) k
  have k1 := fun H => ep15 x (by omega) H
  have k2 := fun H => ep15 ((x ++ [46]) ++ y) (by simp; omega) H
  have k3 := fun H => ep15 ((x ++ [101]) ++ z) (by simp; omega) H
  have k4 := fun H => ep15 ((((x ++ [46]) ++ y) ++ [69, 45]) ++ z) (by simp; omega) H
  rw [n1] at k1
  rw [show num ((x ++ [46]) ++ y) = (false, true) by rw [← n2]; simp] at k2
  rw [show num ((x ++ [101]) ++ z) = (false, true) by rw [← n3]; simp] at k3
  rw [show num ((((x ++ [46]) ++ y) ++ [69, 45]) ++ z) = (false, true) by rw [← n4]; simp] at k4
  have rows : ∀ (a0 a1 a2 a3 a4 a5 a6 a7 a8 a9 a10 a11 : Str) (k : AV → Prop), qRows z9 12 [(0, .str a0), (1, .str a1), (2, .str a2), (3, .str a3), (4, .str a4), (5, .str a5), (6, .str a6), (7, .str a7), (8, .str a8), (9, .str a9), (10, .str a10), (11, .str a11)] k = k (.sl (strRows [a0, a1, a2, a3, a4, a5, a6, a7, a8, a9, a10, a11]) .full) := fun _ _ _ _ _ _ _ _ _ _ _ _ _ => rfl
  have k5 := fun H => ep15 ([48] ++ y) (by simp; omega) H
  have e5 := m5
  have aw := ep14 H0
  simp -implicitDefEqProofs only [r6_4, r6_5, r6_6, r6_7, r6_8, r6_10, opn_z, opn_s, sel_z, sel_s, qCd_eq, qIf_true, qIf_false, qFn_eq, qBl_eq, qO_some, qRes_val, qHp_some, qPick_true, qPick_false, qG_tt, qG_ff, qG_tf, qG_ft, cellsK_some, qLd_ptr, qLd_vptr, qLdA_ptr, qLdA_vptr, qFa_ptr, qFa_vptr, qNc_ptr, qNc_vptr, qNc_fn, qNot_bool, qExt_tup, qCallV_fn, qLss_int, qLeq_int, qGtr_int, qGeq_int, qEql_int, qNeq_int, qAdd_int, qSub_int, qMul_int, qConvI_int, qLenL_sl, qLenL_hsl, qLenS_str, foldO, min2_int, max2_int, qSame_refl, Nat.zero_add, List.getElem?_cons_zero, List.getElem?_cons_succ, List.nil_append, List.cons_append, List.append_nil, one_bool, one_int, one_str, one_nilp, one_ptr, one_sl, one_hsl, one_map, one_fn, List.length_cons, List.length_nil, List.set_cons_zero, List.set_cons_succ, Nat.reduceLT, Nat.reduceAdd, qG_un, q0, q1, q2, q3, q4, q5, q6, q7, q8, q9, q10, q11, q12, q13, q14, q15, q16, q17, k1, k2, k3, k4, Bool.not_true, Bool.not_false, rows, strRows_len]
  refine forms_loop [x ++ [46], x ++ [101], x ++ [101, 43], [46] ++ y, [48] ++ y, [43] ++ x, x ++ [32], [32] ++ x, [45, 45] ++ x, ((x ++ [46]) ++ y ++ [46]) ++ z, ((x ++ [101]) ++ z ++ [101]) ++ z, x ++ [120]] rfl y (by omega) ?_ _ _ x ?_ _ _ _ _ _ _ _ _ _ _ _ _ _ _ _ _ _ _ _ _
  · intro s hs
    simp only [List.mem_cons, List.not_mem_nil, or_false] at hs
    rcases hs with rfl | rfl | rfl | rfl | rfl | rfl | rfl | rfl | rfl | rfl | rfl | rfl
    · exact ⟨by simp; omega, .inl m1⟩
    · exact ⟨by simp; omega, .inl m2⟩
    · exact ⟨by simp; omega, .inl m3⟩
    · exact ⟨by simp; omega, .inl m4⟩
    · exact ⟨by simp; omega, .inr rfl⟩
    · exact ⟨by simp; omega, .inl m6⟩
    · exact ⟨by simp; omega, .inl m7⟩
    · exact ⟨by simp; omega, .inl m8⟩
    · exact ⟨by simp; omega, .inl m9⟩
    · exact ⟨by simp; omega, .inl (by rw [← m10]; simp)⟩
    · exact ⟨by simp; omega, .inl (by rw [← m11]; simp)⟩
    · exact ⟨by simp; omega, .inl m12⟩
  · intro x0 x1 x2 x3 x11 x12 x13 x14 x15 x16 x17 x18 x19 x21 x23 x25 x35 x96 x133 x134 x148
    cases hb5 : (num ([48] ++ y)).2 with
    | true => rw [hb5] at e5; cases e5
    | false =>
      rw [hb5] at k5
      have k6 : ∀ H, EP 15 [.str (48 :: y)] H = some (.val (.tup [.bool (num ([48] ++ y)).1, .bool false]) H) := k5
      simp -implicitDefEqProofs only [r6_17, r6_18, opn_z, opn_s, sel_z, sel_s, qCd_eq, qIf_true, qIf_false, qFn_eq, qBl_eq, qO_some, qRes_val, qHp_some, qPick_true, qPick_false, qG_tt, qG_ff, qG_tf, qG_ft, cellsK_some, qLd_ptr, qLd_vptr, qLdA_ptr, qLdA_vptr, qFa_ptr, qFa_vptr, qNc_ptr, qNc_vptr, qNc_fn, qNot_bool, qExt_tup, qCallV_fn, qLss_int, qLeq_int, qGtr_int, qGeq_int, qEql_int, qNeq_int, qAdd_int, qSub_int, qMul_int, qConvI_int, qLenL_sl, qLenL_hsl, qLenS_str, foldO, min2_int, max2_int, qSame_refl, Nat.zero_add, List.getElem?_cons_zero, List.getElem?_cons_succ, List.nil_append, List.cons_append, List.append_nil, one_bool, one_int, one_str, one_nilp, one_ptr, one_sl, one_hsl, one_map, one_fn, List.length_cons, List.length_nil, List.set_cons_zero, List.set_cons_succ, Nat.reduceLT, Nat.reduceAdd, qG_un, q8, k6, Bool.not_false, aw]
end T
