import Derived.Test.YtnmljkjdflfdoaaDoorJrX5
set_option linter.all false
set_option linter.unusedVariables false
set_option linter.unusedSimpArgs false
set_option maxRecDepth 10000
namespace T
open Go Go.Aes Go.Proofs

theorem dd_e1 (p : Nat) (hp : p < 20) : ((readF (opS (p + 1))).2 = 0 ∧ p + 1 ≤ 12) ∨ ((readF (opS (p + 1))).2 = 4 ∧ 12 < p + 1) := by
  have h := List.all_eq_true.1 tabD p (List.mem_range.2 hp)
  unfold okD at h
  simp only [Bool.and_eq_true, decide_eq_true_eq] at h
  by_cases hk : p + 1 ≤ 12
  · rw [if_pos hk] at h; exact .inl ⟨h.1, hk⟩
  · rw [if_neg hk] at h; exact .inr ⟨h.1, by omega⟩
theorem dd_e2 (p : Nat) (hp : p < 20) : (readF (twS (p + 1))).2 = if 12 ≤ p + 1 then 4 else 5 := by
  have h := List.all_eq_true.1 tabD p (List.mem_range.2 hp)
  unfold okD at h
  simp only [Bool.and_eq_true, decide_eq_true_eq] at h
  exact h.2
theorem mod_nat (a : Int) (n : Nat) (hn : 0 < n) : ∃ p : Nat, p < n ∧ a % (n : Int) = (p : Int) := by
  have h1 := Int.emod_nonneg a (b := (n : Int)) (by omega)
  have h2 := Int.emod_lt_of_pos a (b := (n : Int)) (by omega)
  exact ⟨(a % (n : Int)).toNat, by omega, by omega⟩
theorem k13n (a : Int) (n : Nat) (h0 : 0 < n) (hn : n ≤ 1000000) : ∃ p : Nat, p < n ∧ ∀ H, EK 13 [.int .i64 a, .int .i64 (n : Int)] H = some (.val (.int .i64 (p : Int)) H) := by
  obtain ⟨p, h1, h2⟩ := mod_nat a n h0
  exact ⟨p, h1, fun H => by rw [k13 a n (by omega) (by omega), h2]⟩

set_option maxHeartbeats 2000000 in
theorem law5 (a b : Int) : c5 EK [.int .i64 a, .int .i64 b] H0 (fun v _ => v = .bool true) := by
  obtain ⟨p, hp, e1⟩ := k13n a 20 (by omega) (by omega)
  obtain ⟨q, hq, e2⟩ := k13n b 5 (by omega) (by omega)
  have e1' : ∀ H, EK 13 [.int .i64 a, .int .i64 20] H = some (.val (.int .i64 (p : Int)) H) := e1
  have e2' : ∀ H, EK 13 [.int .i64 b, .int .i64 5] H = some (.val (.int .i64 (q : Int)) H) := e2
  have w1 : IntKind.i64.wrap (1 + (p : Int)) = ((p + 1 : Nat) : Int) := by rw [i64_in' (by omega)]; omega
  have w2 : IntKind.i64.wrap (3998 + (q : Int)) = ((3998 + q : Nat) : Int) := by rw [i64_in' (by omega)]; omega
  have t1 := dd_e1 p hp
  have t2 := dd_e2 p hp
  obtain ⟨k, hk⟩ : ∃ k, k = p + 1 := ⟨_, rfl⟩
  obtain ⟨m, hm⟩ : ∃ m, m = 3998 + q := ⟨_, rfl⟩
  rw [← hk] at w1 t1 t2
  rw [← hm] at w2
  have wi : ∀ i : Nat, i < 1000000 → IntKind.i64.wrap ((i : Int) + 1) = ((i + 1 : Nat) : Int) := fun i hi => wrap_up i (by omega)
  simp -implicitDefEqProofs only [c5, r5_0, r5_1, r5_2, r5_3, opn_z, opn_s, sel_z, sel_s, qCd_eq, qIf_true, qIf_false, qFn_eq, qBl_eq, qO_some, qRes_val, qHp_some, qPick_true, qPick_false, qG_tt, qG_ff, qG_tf, qG_ft, cellsK_some, qLd_ptr, qLd_vptr, qLdA_ptr, qLdA_vptr, qFa_ptr, qFa_vptr, qNc_ptr, qNc_vptr, qNc_fn, qNot_bool, qExt_tup, qCallV_fn, qLss_int, qLeq_int, qGtr_int, qGeq_int, qEql_int, qNeq_int, qAdd_int, qSub_int, qMul_int, qConvI_int, qLenL_sl, qLenL_hsl, qLenS_str, foldO, min2_int, max2_int, qSame_refl, Nat.zero_add, List.getElem?_cons_zero, List.getElem?_cons_succ, List.nil_append, List.cons_append, List.append_nil, one_bool, one_int, one_str, one_nilp, one_ptr, one_sl, one_hsl, one_map, one_fn, List.length_cons, List.length_nil, List.set_cons_zero, List.set_cons_succ, Nat.reduceLT, Nat.reduceAdd, qG_un, qResN_val, qCallVN_fn, e1', w1]
  refine loop_inv (fun mm fr H' => ∃ (i : Nat) (x4 x8 x10 x11 x13 x14 x15 x16 x17 x19 x25 x32 x58 x67 : AV), mm + i = k ∧ H' = H0 ∧ fr = [.int .i64 a, .int .i64 b, x4, .int .i64 (k : Int), .str (List.replicate i 91), .int .i64 (i : Int), x8, x10, x11, x13, x14, x15, x16, x17, x19, x25, x32, x58, x67]) ?_ (m := k) ⟨0, _, _, _, _, _, _, _, _, _, _, _, _, _, _, by omega, rfl, rfl⟩
  rintro mm fr H' kk ⟨i, x4, x8, x10, x11, x13, x14, x15, x16, x17, x19, x25, x32, x58, x67, hmm, rfl, rfl⟩ hkk
  by_cases h : i < k
  · have c1 : (i : Int) < (k : Int) := by omega
    have ad := fun kc => qAdd_str (R := Prop) X 9 (List.replicate i 91) [91] (by unfold most; rw [List.length_replicate]; simp; omega) kc
    have wii := wi i (by omega)
    simp -implicitDefEqProofs only [l5_13, r5_4, r5_5, r5_6, opn_z, opn_s, sel_z, sel_s, qCd_eq, qIf_true, qIf_false, qFn_eq, qBl_eq, qO_some, qRes_val, qHp_some, qPick_true, qPick_false, qG_tt, qG_ff, qG_tf, qG_ft, cellsK_some, qLd_ptr, qLd_vptr, qLdA_ptr, qLdA_vptr, qFa_ptr, qFa_vptr, qNc_ptr, qNc_vptr, qNc_fn, qNot_bool, qExt_tup, qCallV_fn, qLss_int, qLeq_int, qGtr_int, qGeq_int, qEql_int, qNeq_int, qAdd_int, qSub_int, qMul_int, qConvI_int, qLenL_sl, qLenL_hsl, qLenS_str, foldO, min2_int, max2_int, qSame_refl, Nat.zero_add, List.getElem?_cons_zero, List.getElem?_cons_succ, List.nil_append, List.cons_append, List.append_nil, one_bool, one_int, one_str, one_nilp, one_ptr, one_sl, one_hsl, one_map, one_fn, List.length_cons, List.length_nil, List.set_cons_zero, List.set_cons_succ, Nat.reduceLT, Nat.reduceAdd, qG_un, qResN_val, qCallVN_fn, c1, decide_true, ad, wii]
    exact hkk (mm - 1) _ _ (by omega) ⟨i + 1, _, _, _, _, _, _, _, _, _, _, _, _, _, _, by omega, rfl, by rw [List.replicate_succ']⟩
  · have c1 : ¬ (i : Int) < (k : Int) := by omega
    obtain rfl : i = k := by omega
    clear hkk h
    simp -implicitDefEqProofs only [l5_13, r5_4, r5_7, opn_z, opn_s, sel_z, sel_s, qCd_eq, qIf_true, qIf_false, qFn_eq, qBl_eq, qO_some, qRes_val, qHp_some, qPick_true, qPick_false, qG_tt, qG_ff, qG_tf, qG_ft, cellsK_some, qLd_ptr, qLd_vptr, qLdA_ptr, qLdA_vptr, qFa_ptr, qFa_vptr, qNc_ptr, qNc_vptr, qNc_fn, qNot_bool, qExt_tup, qCallV_fn, qLss_int, qLeq_int, qGtr_int, qGeq_int, qEql_int, qNeq_int, qAdd_int, qSub_int, qMul_int, qConvI_int, qLenL_sl, qLenL_hsl, qLenS_str, foldO, min2_int, max2_int, qSame_refl, Nat.zero_add, List.getElem?_cons_zero, List.getElem?_cons_succ, List.nil_append, List.cons_append, List.append_nil, one_bool, one_int, one_str, one_nilp, one_ptr, one_sl, one_hsl, one_map, one_fn, List.length_cons, List.length_nil, List.set_cons_zero, List.set_cons_succ, Nat.reduceLT, Nat.reduceAdd, qG_un, qResN_val, qCallVN_fn, c1, decide_false]
    refine loop_inv (fun mm fr H' => ∃ (j : Nat) (x4 x7 x10 x11 x13 x14 x15 x16 x17 x19 x25 x32 x58 x67 : AV), mm + j = i ∧ H' = H0 ∧ fr = [.int .i64 a, .int .i64 b, x4, .int .i64 (i : Int), .str (List.replicate i 91 ++ List.replicate j 93), x7, .int .i64 (j : Int), x10, x11, x13, x14, x15, x16, x17, x19, x25, x32, x58, x67]) ?_ (m := i) ⟨0, _, _, _, _, _, _, _, _, _, _, _, _, _, _, by omega, rfl, by rw [List.replicate_zero, List.append_nil]; rfl⟩
    clear c1 hmm
    rintro mm fr H' kk ⟨j, x4, x7, x10, x11, x13, x14, x15, x16, x17, x19, x25, x32, x58, x67, hmm, rfl, rfl⟩ hkk
    by_cases h : j < i
    · have c1 : (j : Int) < (i : Int) := by omega
      have ad := fun kc => qAdd_str (R := Prop) X 9 (List.replicate i 91 ++ List.replicate j 93) [93] (by unfold most; rw [List.length_append, List.length_replicate, List.length_replicate]; simp; omega) kc
      have wii := wi j (by omega)
      simp -implicitDefEqProofs only [l5_9, r5_8, r5_9, r5_10, opn_z, opn_s, sel_z, sel_s, qCd_eq, qIf_true, qIf_false, qFn_eq, qBl_eq, qO_some, qRes_val, qHp_some, qPick_true, qPick_false, qG_tt, qG_ff, qG_tf, qG_ft, cellsK_some, qLd_ptr, qLd_vptr, qLdA_ptr, qLdA_vptr, qFa_ptr, qFa_vptr, qNc_ptr, qNc_vptr, qNc_fn, qNot_bool, qExt_tup, qCallV_fn, qLss_int, qLeq_int, qGtr_int, qGeq_int, qEql_int, qNeq_int, qAdd_int, qSub_int, qMul_int, qConvI_int, qLenL_sl, qLenL_hsl, qLenS_str, foldO, min2_int, max2_int, qSame_refl, Nat.zero_add, List.getElem?_cons_zero, List.getElem?_cons_succ, List.nil_append, List.cons_append, List.append_nil, one_bool, one_int, one_str, one_nilp, one_ptr, one_sl, one_hsl, one_map, one_fn, List.length_cons, List.length_nil, List.set_cons_zero, List.set_cons_succ, Nat.reduceLT, Nat.reduceAdd, qG_un, qResN_val, qCallVN_fn, c1, decide_true, ad, wii]
      exact hkk (mm - 1) _ _ (by omega) ⟨j + 1, _, _, _, _, _, _, _, _, _, _, _, _, _, _, by omega, rfl, by rw [List.replicate_succ', List.append_assoc]⟩
    · have c1 : ¬ (j : Int) < (i : Int) := by omega
      obtain rfl : j = i := by omega
      clear hkk h
      have hop : List.replicate j 91 ++ List.replicate j 93 = opS j := rfl
      rw [hop]
      obtain ⟨row, ev, _, h8⟩ := k8 (opS j)
      obtain ⟨row2, ev2, _, h8b⟩ := k8 (twS j)
      obtain ⟨ca, Ha, Hb, n1, s1, ib, g1, _⟩ := cellW (H := H0) ev.four ev.ones
      obtain ⟨cb, Hc, Hd, n2, s2, id, g2, _⟩ := cellW (H := Hb) ev2.four ev2.ones
      have n1' := fun (kc : AV → AH → Prop) => n1 kc
      have s1' := fun (kc : AV → AH → Prop) => s1 kc
      have n2' := fun (kc : AV → AH → Prop) => n2 kc
      have s2' := fun (kc : AV → AH → Prop) => s2 kc
      have hol : (opS j).length = 2 * j := by unfold opS; rw [List.length_append, List.length_replicate, List.length_replicate]; omega
      have ws : IntKind.i64.wrap ((j : Int) - 1) = ((j - 1 : Nat) : Int) := by rw [i64_in' (by omega)]; omega
      have wj := wi j (by omega)
      have sh := fun kc => slcS_hi (opS j) (j - 1) (by omega) kc
      have sl := fun kc => slcS_lo (opS j) (j + 1) (by omega) kc
      have a1 := fun kc => qAdd_str (R := Prop) X 9 ((opS j).take (j - 1)) [123, 34, 97, 34, 58, 49, 44, 34, 97, 34, 58, 50, 125] (by unfold most; rw [List.length_take]; simp; omega) kc
      have a2 := fun kc => qAdd_str (R := Prop) X 9 ((opS j).take (j - 1) ++ [123, 34, 97, 34, 58, 49, 44, 34, 97, 34, 58, 50, 125]) ((opS j).drop (j + 1)) (by unfold most; rw [List.length_append, List.length_take, List.length_drop]; simp; omega) kc
      rw [tw_eq (by omega)] at a2
      have mk := fun kc => mkB (H := Hd) m (by omega) kc
      have hg0 := get_push_at (H := Hd) (.cells (bys (List.replicate m 0)))
      have hif : IsFn (Hd.push (.cells (bys (List.replicate m 0)))) := inferInstance
      -- the last part
      have last : ∀ (w : Int) (x4 x7 x8 x15 x16 x17 x19 x25 x32 x58 x67 : AV), (readF (twS j)).2 = w → (r5_17 EK (r5_18 (r5_19 (qBl (fun k1 => (qLoop (l5_4 k1))) (r5_23 (r5_24 EK (r5_25 EK (fun fr H => sel 2 fr = .bool true)))))))) [.int .i64 a, .int .i64 b, x4, .int .i64 (j : Int), .str (opS j), x7, x8, .int .i64 (readF (opS j)).2, .str (twS j), .int .i64 (readF (twS j)).2, .int .i64 w, x15, x16, x17, x19, x25, x32, x58, x67] Hd := by
        intro w x4 x7 x8 x15 x16 x17 x19 x25 x32 x58 x67 hw
        simp -implicitDefEqProofs only [r5_17, r5_18, r5_19, opn_z, opn_s, sel_z, sel_s, qCd_eq, qIf_true, qIf_false, qFn_eq, qBl_eq, qO_some, qRes_val, qHp_some, qPick_true, qPick_false, qG_tt, qG_ff, qG_tf, qG_ft, cellsK_some, qLd_ptr, qLd_vptr, qLdA_ptr, qLdA_vptr, qFa_ptr, qFa_vptr, qNc_ptr, qNc_vptr, qNc_fn, qNot_bool, qExt_tup, qCallV_fn, qLss_int, qLeq_int, qGtr_int, qGeq_int, qEql_int, qNeq_int, qAdd_int, qSub_int, qMul_int, qConvI_int, qLenL_sl, qLenL_hsl, qLenS_str, foldO, min2_int, max2_int, qSame_refl, Nat.zero_add, List.getElem?_cons_zero, List.getElem?_cons_succ, List.nil_append, List.cons_append, List.append_nil, one_bool, one_int, one_str, one_nilp, one_ptr, one_sl, one_hsl, one_map, one_fn, List.length_cons, List.length_nil, List.set_cons_zero, List.set_cons_succ, Nat.reduceLT, Nat.reduceAdd, qG_un, qResN_val, qCallVN_fn, e2', w2, mk]
        generalize Hd.nx = bb at *
        generalize Hd.push (.cells (bys (List.replicate m 0))) = He at *
        refine loop_inv (fun mm fr H' => ∃ (i : Nat) (x0 x1 x4 x6 x7 x8 x11 x19 x25 x32 x58 x67 : AV), mm + i = m ∧ IsFn H' ∧ H'.get bb = some (.cells (bys (blS m i))) ∧ fr = [x0, x1, x4, .int .i64 (j : Int), x6, x7, x8, .int .i64 (readF (opS j)).2, x11, .int .i64 (readF (twS j)).2, .int .i64 w, .int .i64 (m : Int), .hsl bb 0 m m 1 true, .int .i64 (i : Int), x19, x25, x32, x58, x67]) ?_ (m := m) ⟨0, _, _, _, _, _, _, _, _, _, _, _, _, by omega, hif, hg0, rfl⟩
        rintro mm fr H' kk ⟨i, x0, x1, x4, x6, x7, x8, x11, x19, x25, x32, x58, x67, hmm, hf, hg, rfl⟩ hkk
        by_cases h : i < m
        · have c1 : (i : Int) < (m : Int) := by omega
          have ia := fun kc => qIa_h bb m m i true h kc
          have hln := bl_len (Nat.le_of_lt h)
          have s1 := fun kc => qSt_1 (R := Prop) (v := .int .u8 ((32 : UInt8).toNat : Int)) hg (o := i) (by rw [bys_len]; omega) rfl kc
          rw [bys_set, bl_set h] at s1
          have e32 : (((32 : UInt8).toNat : Nat) : Int) = 32 := rfl
          rw [e32] at s1
          have wii := wi i (by omega)
          simp -implicitDefEqProofs only [l5_4, r5_20, r5_21, r5_22, opn_z, opn_s, sel_z, sel_s, qCd_eq, qIf_true, qIf_false, qFn_eq, qBl_eq, qO_some, qRes_val, qHp_some, qPick_true, qPick_false, qG_tt, qG_ff, qG_tf, qG_ft, cellsK_some, qLd_ptr, qLd_vptr, qLdA_ptr, qLdA_vptr, qFa_ptr, qFa_vptr, qNc_ptr, qNc_vptr, qNc_fn, qNot_bool, qExt_tup, qCallV_fn, qLss_int, qLeq_int, qGtr_int, qGeq_int, qEql_int, qNeq_int, qAdd_int, qSub_int, qMul_int, qConvI_int, qLenL_sl, qLenL_hsl, qLenS_str, foldO, min2_int, max2_int, qSame_refl, Nat.zero_add, List.getElem?_cons_zero, List.getElem?_cons_succ, List.nil_append, List.cons_append, List.append_nil, one_bool, one_int, one_str, one_nilp, one_ptr, one_sl, one_hsl, one_map, one_fn, List.length_cons, List.length_nil, List.set_cons_zero, List.set_cons_succ, Nat.reduceLT, Nat.reduceAdd, qG_un, qResN_val, qCallVN_fn, c1, decide_true, ia, s1, wii]
          exact hkk (mm - 1) _ _ (by omega) ⟨i + 1, _, _, _, _, _, _, _, _, _, _, _, _, by omega, inferInstance, by rw [get_set_i (lt_i hg), if_pos rfl], rfl⟩
        · have c1 : ¬ (i : Int) < (m : Int) := by omega
          obtain rfl : i = m := by omega
          have ia : ∀ kc, qIa 1 (.hsl bb 0 i i 1 true) (.int .i64 0) kc = kc (.ptr bb 0) := fun kc => qIa_h bb i i 0 true (by omega) kc
          have hln := bl_len (Nat.le_refl i)
          have s1 := fun kc => qSt_1 (R := Prop) (v := .int .u8 ((53 : UInt8).toNat : Int)) hg (o := 0) (by rw [bys_len]; omega) rfl kc
          have hset : (blS i i).set 0 53 = 53 :: List.replicate (i - 1) 32 := by
            unfold blS
            rw [Nat.sub_self, show List.replicate 0 (0 : UInt8) = [] from rfl, List.append_nil]
            obtain ⟨i', rfl⟩ : ∃ i', i = i' + 1 := ⟨i - 1, by omega⟩
            rw [List.replicate_succ]; rfl
          rw [bys_set, hset] at s1
          have e53 : (((53 : UInt8).toNat : Nat) : Int) = 53 := rfl
          rw [e53] at s1
          have hg1 : (H'.set bb (some (.cells (bys (53 :: List.replicate (i - 1) 32))))).get bb = some (.cells (bys (53 :: List.replicate (i - 1) 32))) := by rw [get_set_i (lt_i hg), if_pos rfl]
          have hf1 : IsFn (H'.set bb (some (.cells (bys (53 :: List.replicate (i - 1) 32))))) := inferInstance
          generalize H'.set bb (some (.cells (bys (53 :: List.replicate (i - 1) 32)))) = H2 at s1 hg1 hf1
          have bs : ∀ kc : AV → Prop, qBstr (.hsl bb 0 i i 1 true) H2 kc = kc (.str (53 :: List.replicate (i - 1) 32)) := fun kc => by
            have := bstr_h hg1 i true kc
            rwa [show (53 :: List.replicate (i - 1) 32 : Str).length = i by rw [List.length_cons, List.length_replicate]; omega] at this
          obtain ⟨row3, ev3, _, h8c⟩ := k8 (53 :: List.replicate (i - 1) 32)
          obtain ⟨cc, Hf, Hg, n3, s3, ig, g3, _⟩ := cellW (H := H2) ev3.four ev3.ones
          have n3' := fun (kc : AV → AH → Prop) => n3 kc
          have s3' := fun (kc : AV → AH → Prop) => s3 kc
          have t3 : ((readF (53 :: List.replicate (i - 1) 32)).2 = 0 ∧ i ≤ 4000) ∨ ((readF (53 :: List.replicate (i - 1) 32)).2 = 3 ∧ 4000 < i) := by
            rw [readF_5]
            by_cases hi : 4000 < i
            · rw [if_pos (by omega)]; exact .inr ⟨rfl, hi⟩
            · rw [if_neg (by omega)]; exact .inl ⟨rfl, by omega⟩
          simp -implicitDefEqProofs only [l5_4, r5_20, r5_23, r5_24, opn_z, opn_s, sel_z, sel_s, qCd_eq, qIf_true, qIf_false, qFn_eq, qBl_eq, qO_some, qRes_val, qHp_some, qPick_true, qPick_false, qG_tt, qG_ff, qG_tf, qG_ft, cellsK_some, qLd_ptr, qLd_vptr, qLdA_ptr, qLdA_vptr, qFa_ptr, qFa_vptr, qNc_ptr, qNc_vptr, qNc_fn, qNot_bool, qExt_tup, qCallV_fn, qLss_int, qLeq_int, qGtr_int, qGeq_int, qEql_int, qNeq_int, qAdd_int, qSub_int, qMul_int, qConvI_int, qLenL_sl, qLenL_hsl, qLenS_str, foldO, min2_int, max2_int, qSame_refl, Nat.zero_add, List.getElem?_cons_zero, List.getElem?_cons_succ, List.nil_append, List.cons_append, List.append_nil, one_bool, one_int, one_str, one_nilp, one_ptr, one_sl, one_hsl, one_map, one_fn, List.length_cons, List.length_nil, List.set_cons_zero, List.set_cons_succ, Nat.reduceLT, Nat.reduceAdd, qG_un, qResN_val, qCallVN_fn, c1, decide_false, ia, s1, bs, h8c, n3', s3']
          exact fin5 _ _ _ _ _ _ _ _ _ _ _ _ _ t1 hw t3 (fun fr h => h)
      by_cases h12 : 12 ≤ j
      · have c12 : (j : Int) ≥ 12 := by omega
        rw [if_pos h12] at t2
        simp -implicitDefEqProofs only [l5_9, r5_8, r5_11, r5_12, r5_13, r5_14, r5_15, r5_16, opn_z, opn_s, sel_z, sel_s, qCd_eq, qIf_true, qIf_false, qFn_eq, qBl_eq, qO_some, qRes_val, qHp_some, qPick_true, qPick_false, qG_tt, qG_ff, qG_tf, qG_ft, cellsK_some, qLd_ptr, qLd_vptr, qLdA_ptr, qLdA_vptr, qFa_ptr, qFa_vptr, qNc_ptr, qNc_vptr, qNc_fn, qNot_bool, qExt_tup, qCallV_fn, qLss_int, qLeq_int, qGtr_int, qGeq_int, qEql_int, qNeq_int, qAdd_int, qSub_int, qMul_int, qConvI_int, qLenL_sl, qLenL_hsl, qLenS_str, foldO, min2_int, max2_int, qSame_refl, Nat.zero_add, List.getElem?_cons_zero, List.getElem?_cons_succ, List.nil_append, List.cons_append, List.append_nil, one_bool, one_int, one_str, one_nilp, one_ptr, one_sl, one_hsl, one_map, one_fn, List.length_cons, List.length_nil, List.set_cons_zero, List.set_cons_succ, Nat.reduceLT, Nat.reduceAdd, qG_un, qResN_val, qCallVN_fn, c1, decide_false, h8, n1', s1', ws, wj, sh, sl, a1, a2, h8b, n2', s2', c12, decide_true]
        exact last 4 _ _ _ _ _ _ _ _ _ _ _ t2
      · have c12 : ¬ (j : Int) ≥ 12 := by omega
        rw [if_neg h12] at t2
        simp -implicitDefEqProofs only [l5_9, r5_8, r5_11, r5_12, r5_13, r5_14, r5_15, opn_z, opn_s, sel_z, sel_s, qCd_eq, qIf_true, qIf_false, qFn_eq, qBl_eq, qO_some, qRes_val, qHp_some, qPick_true, qPick_false, qG_tt, qG_ff, qG_tf, qG_ft, cellsK_some, qLd_ptr, qLd_vptr, qLdA_ptr, qLdA_vptr, qFa_ptr, qFa_vptr, qNc_ptr, qNc_vptr, qNc_fn, qNot_bool, qExt_tup, qCallV_fn, qLss_int, qLeq_int, qGtr_int, qGeq_int, qEql_int, qNeq_int, qAdd_int, qSub_int, qMul_int, qConvI_int, qLenL_sl, qLenL_hsl, qLenS_str, foldO, min2_int, max2_int, qSame_refl, Nat.zero_add, List.getElem?_cons_zero, List.getElem?_cons_succ, List.nil_append, List.cons_append, List.append_nil, one_bool, one_int, one_str, one_nilp, one_ptr, one_sl, one_hsl, one_map, one_fn, List.length_cons, List.length_nil, List.set_cons_zero, List.set_cons_succ, Nat.reduceLT, Nat.reduceAdd, qG_un, qResN_val, qCallVN_fn, c1, decide_false, h8, n1', s1', ws, wj, sh, sl, a1, a2, h8b, n2', s2', c12]
        exact last 5 _ _ _ _ _ _ _ _ _ _ _ t2
theorem ev_deep (a b : Int) : ∃ H', EK 5 [.int .i64 a, .int .i64 b] H0 = some (.val (.bool true) H') := by
  obtain ⟨w, H', h1, h2⟩ := az_form (X := X) (D := DK) (O := OK15) (S := PK) (Z := ZK) (al := [.int .i64 a, .int .i64 b]) (H := H0) e5 xf5 rfl rfl (Q := fun v _ => v = .bool true) (law5 a b)
  subst h2
  exact ⟨H', h1⟩
end T
