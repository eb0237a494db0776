import Derived.Test.YtgmifbbimcblcaaBuckB
set_option linter.all false
set_option linter.unusedVariables false
set_option linter.unusedSimpArgs false
set_option maxRecDepth 10000
namespace T
open Go Go.Aes Go.Proofs

theorem intRows_len (k : IntKind) (zs : List Int) : (intRows k zs).length = zs.length := by simp [intRows]
theorem intRows_get (k : IntKind) (zs : List Int) (i : Nat) (z : Int) (h : zs[i]? = some z) : (intRows k zs)[i]? = some [.int k z] := by simp [intRows, h]

/-- a number of the slice, read -/
theorem qIa_ints {zs : List Int} {tk : Tk} {i : Nat} {z : Int} (h : zs[i]? = some z) (k : AV → Prop) : qIa 1 (.sl (intRows .i64 zs) tk) (.int .i64 (i : Int)) k = k (.vptr [.int .i64 z] 0) :=
  qIa_sl _ _ 1 _ _ i _ (intRows_get _ _ _ _ h) rfl

theorem wrap_succ (i : Nat) (h : i < 1000000) : IntKind.i64.wrap ((i : Int) + 1) = ((i + 1 : Nat) : Int) := by
  rw [i64_in (by omega)]; simp

section
variable {O : CallF} (hO : OutO O)
include hO

theorem ev_plays (rate burst : Int) (zs : List Int) (tk : Tk) : ∃ H', evl X O 3 [.int .i64 rate, .int .i64 burst, .sl (intRows .i64 zs) tk] H0 = some (.val (.bool true) H') := by
  obtain ⟨H1, a1, a2, ft⟩ := ev_new hO .H0 rate burst
  obtain ⟨H2, b1, b2⟩ := ev_rnew hO a2.fn rate burst
  generalize cutR rate 1000 = r at *
  generalize cutR burst 100000 = m at *
  suffices h : c3 (evl X O) [.int .i64 rate, .int .i64 burst, .sl (intRows .i64 zs) tk] H0 (fun v _ => v = .bool true) by
    obtain ⟨v, H', h1, rfl⟩ := of_form e3 xf3 (hO _ _ _ (by decide) (by decide)) h
    exact ⟨H', h1⟩
  simp only [c3, r3_0, r3_1, r3_2, r3_4, opn_z, opn_s, sel_z, sel_s, qCd_eq, qIf_true, qIf_false, qFn_eq, qBl_eq, qO_some, qRes_val, qHp_some, qPick_true, qPick_false, qG_tt, qG_ff, qG_tf, qG_ft, cellsK_some, qLd_ptr, qLd_vptr, qLdA_ptr, qLdA_vptr, qFa_ptr, qFa_vptr, qNc_ptr, qNc_vptr, qNc_fn, qNot_bool, qExt_tup, qCallV_fn, qLss_int, qLeq_int, qGtr_int, qGeq_int, qEql_int, qNeq_int, qAdd_int, qSub_int, qMul_int, qConvI_int, qLenL_sl, qLenL_hsl, qLenS_str, foldO, min2_int, max2_int, qSame_refl, Nat.zero_add, List.getElem?_cons_zero, List.getElem?_cons_succ, List.nil_append, List.cons_append, List.append_nil, one_bool, one_int, one_str, one_nilp, one_ptr, one_sl, one_hsl, one_map, one_fn, List.length_cons, List.length_nil, List.set_cons_zero, List.set_cons_succ, Nat.reduceLT, Nat.reduceAdd, a1, b1, eq_nil23]
  refine loop_inv (fun n fr H => ∃ (i : Nat) (lv : Int) (x17 x25 x30 x55 x62 : AV), n = 100 - i ∧ i ≤ 100 ∧
    fr = [.int .i64 rate, .int .i64 burst, .sl (intRows .i64 zs) tk, .bool false, .ptr 0 0, .ptr 1 0, .int .i64 (i : Int), x17, x25, x30, x55, x62] ∧ Aes.Fn H ∧ H.get 0 = some (bk 0 r m lv) ∧ H.get 1 = some (rb r m lv) ∧ Fit r m lv) ?_
    (m := 100) ?_
  · rintro n fr H k ⟨i, lv, x17, x25, x30, x55, x62, rfl, hi, rfl, hf, hb, hr, ft⟩ hk
    by_cases h1 : i < zs.length
    · have h1' : ((i : Int) < ((intRows .i64 zs).length : Int)) := by rw [intRows_len]; omega
      by_cases h2 : i < 100
      · have h2' : (i : Int) < 100 := by omega
        have hz : zs[i]? = some zs[i] := List.getElem?_eq_getElem h1
        generalize zs[i] = z at hz
        have hia := qIa_ints (tk := tk) hz
        have hrem := fun k => qRem_int (R := Prop) X 3 .i64 (i : Int) 2 k (by decide)
        have ht : (i : Int).tmod 2 = ((i % 2 : Nat) : Int) := by rw [Int.tmod_eq_emod_of_nonneg (by omega)]; omega
        have hrb : ∀ {H : AH} {lv : Int}, H.get 1 = some (rb r m lv) → H.get 1 = some (.cells [.int .i64 r, .int .i64 m, .int .i64 lv]) := fun h => h
        have fin : ∀ (lv' : Int) (H' : AH) (x30 x55 : AV) , Aes.Fn H' → H'.get 0 = some (bk 0 r m lv') → H'.get 1 = some (rb r m lv') → Fit r m lv' →
            r3_12 (evl X O) (qCd (sel 11) (fun _ => r3_13 (fun fr H => (fun v _ => v = .bool true) (sel 3 fr) H)) (fun k4 => k4) (r3_6 k)) [.int .i64 rate, .int .i64 burst, .sl (intRows .i64 zs) tk, .bool false, .ptr 0 0, .ptr 1 0, .int .i64 (i : Int), x17, .bool true, x30, x55, x62] H' := by
          intro lv' H' x30 x55 hf' hb' hr' ft'
          have e := ev_level hO hb'
          have hr2 := hrb hr'
          simp only [r3_12, r3_13, r3_6, opn_z, opn_s, sel_z, sel_s, qCd_eq, qIf_true, qIf_false, qFn_eq, qBl_eq, qO_some, qRes_val, qHp_some, qPick_true, qPick_false, qG_tt, qG_ff, qG_tf, qG_ft, cellsK_some, qLd_ptr, qLd_vptr, qLdA_ptr, qLdA_vptr, qFa_ptr, qFa_vptr, qNc_ptr, qNc_vptr, qNc_fn, qNot_bool, qExt_tup, qCallV_fn, qLss_int, qLeq_int, qGtr_int, qGeq_int, qEql_int, qNeq_int, qAdd_int, qSub_int, qMul_int, qConvI_int, qLenL_sl, qLenL_hsl, qLenS_str, foldO, min2_int, max2_int, qSame_refl, Nat.zero_add, List.getElem?_cons_zero, List.getElem?_cons_succ, List.nil_append, List.cons_append, List.append_nil, one_bool, one_int, one_str, one_nilp, one_ptr, one_sl, one_hsl, one_map, one_fn, List.length_cons, List.length_nil, List.set_cons_zero, List.set_cons_succ, Nat.reduceLT, Nat.reduceAdd, hr2, e, beq_self_eq_true, Bool.not_true, wrap_succ i (by omega)]
          exact hk (100 - (i + 1)) _ _ (by omega) ⟨i + 1, lv', _, _, _, _, _, rfl, by omega, rfl, hf', hb', hr', ft'⟩
        by_cases h3 : i % 2 = 0
        · have h3' : ((i : Int).tmod 2 == 0) = true := by rw [ht, h3]; rfl
          obtain ⟨H1, u1, u2⟩ := ev_tick hO hf z hb ft
          obtain ⟨H2, v1, v2⟩ := ev_rtick hO u2.fn z ((u2.other 1 (by decide)).trans hr) ft
          have := fin (more r m lv z) H2 (.bool true) x55 v2.fn ((v2.other 0 (by decide)).trans u2.at_) v2.at_ (more_fit z ft)
          simp only [l3_7, r3_5, r3_7, r3_8, r3_9, opn_z, opn_s, sel_z, sel_s, qCd_eq, qIf_true, qIf_false, qFn_eq, qBl_eq, qO_some, qRes_val, qHp_some, qPick_true, qPick_false, qG_tt, qG_ff, qG_tf, qG_ft, cellsK_some, qLd_ptr, qLd_vptr, qLdA_ptr, qLdA_vptr, qFa_ptr, qFa_vptr, qNc_ptr, qNc_vptr, qNc_fn, qNot_bool, qExt_tup, qCallV_fn, qLss_int, qLeq_int, qGtr_int, qGeq_int, qEql_int, qNeq_int, qAdd_int, qSub_int, qMul_int, qConvI_int, qLenL_sl, qLenL_hsl, qLenS_str, foldO, min2_int, max2_int, qSame_refl, Nat.zero_add, List.getElem?_cons_zero, List.getElem?_cons_succ, List.nil_append, List.cons_append, List.append_nil, one_bool, one_int, one_str, one_nilp, one_ptr, one_sl, one_hsl, one_map, one_fn, List.length_cons, List.length_nil, List.set_cons_zero, List.set_cons_succ, Nat.reduceLT, Nat.reduceAdd, h1', h2', h3', decide_true, hia, hrem, u1, v1]
          exact this
        · have h3' : ((i : Int).tmod 2 == 0) = false := by rw [ht, show i % 2 = 1 by omega]; rfl
          obtain ⟨H1, u1, u2⟩ := ev_take hO hf z hb ft
          obtain ⟨H2, v1, v2⟩ := ev_rtake hO u2.fn z ((u2.other 1 (by decide)).trans hr) ft
          have ft' : Fit r m (if max z 0 ≤ lv then lv - max z 0 else lv) := by
            have := ft.l0; have := ft.lb
            refine ⟨ft.r0, ft.r1, ft.b1, ?_, ?_⟩ <;> split <;> omega
          have := fin _ H2 (.bool false) (.bool false) v2.fn ((v2.other 0 (by decide)).trans u2.at_) v2.at_ ft'
          have hne : ∀ b : Bool, ∀ k : AV → Prop, qNeq X 4 (.bool b) (.bool b) k = k (.bool false) := fun b k => by cases b <;> rfl
          simp only [l3_7, r3_5, r3_7, r3_10, opn_z, opn_s, sel_z, sel_s, qCd_eq, qIf_true, qIf_false, qFn_eq, qBl_eq, qO_some, qRes_val, qHp_some, qPick_true, qPick_false, qG_tt, qG_ff, qG_tf, qG_ft, cellsK_some, qLd_ptr, qLd_vptr, qLdA_ptr, qLdA_vptr, qFa_ptr, qFa_vptr, qNc_ptr, qNc_vptr, qNc_fn, qNot_bool, qExt_tup, qCallV_fn, qLss_int, qLeq_int, qGtr_int, qGeq_int, qEql_int, qNeq_int, qAdd_int, qSub_int, qMul_int, qConvI_int, qLenL_sl, qLenL_hsl, qLenS_str, foldO, min2_int, max2_int, qSame_refl, Nat.zero_add, List.getElem?_cons_zero, List.getElem?_cons_succ, List.nil_append, List.cons_append, List.append_nil, one_bool, one_int, one_str, one_nilp, one_ptr, one_sl, one_hsl, one_map, one_fn, List.length_cons, List.length_nil, List.set_cons_zero, List.set_cons_succ, Nat.reduceLT, Nat.reduceAdd, h1', h2', h3', decide_true, hia, hrem, u1, v1, hne]
          exact this
      · have h2' : ¬ (i : Int) < 100 := by omega
        obtain ⟨H', u1, u2⟩ := ev_awake hO hf
        simp only [l3_7, r3_5, r3_14, opn_z, opn_s, sel_z, sel_s, qCd_eq, qIf_true, qIf_false, qFn_eq, qBl_eq, qO_some, qRes_val, qHp_some, qPick_true, qPick_false, qG_tt, qG_ff, qG_tf, qG_ft, cellsK_some, qLd_ptr, qLd_vptr, qLdA_ptr, qLdA_vptr, qFa_ptr, qFa_vptr, qNc_ptr, qNc_vptr, qNc_fn, qNot_bool, qExt_tup, qCallV_fn, qLss_int, qLeq_int, qGtr_int, qGeq_int, qEql_int, qNeq_int, qAdd_int, qSub_int, qMul_int, qConvI_int, qLenL_sl, qLenL_hsl, qLenS_str, foldO, min2_int, max2_int, qSame_refl, Nat.zero_add, List.getElem?_cons_zero, List.getElem?_cons_succ, List.nil_append, List.cons_append, List.append_nil, one_bool, one_int, one_str, one_nilp, one_ptr, one_sl, one_hsl, one_map, one_fn, List.length_cons, List.length_nil, List.set_cons_zero, List.set_cons_succ, Nat.reduceLT, Nat.reduceAdd, h1', h2', decide_true, decide_false, u1]
    · have h1' : ¬ ((i : Int) < ((intRows .i64 zs).length : Int)) := by rw [intRows_len]; omega
      obtain ⟨H', u1, u2⟩ := ev_awake hO hf
      simp only [l3_7, r3_5, r3_14, opn_z, opn_s, sel_z, sel_s, qCd_eq, qIf_true, qIf_false, qFn_eq, qBl_eq, qO_some, qRes_val, qHp_some, qPick_true, qPick_false, qG_tt, qG_ff, qG_tf, qG_ft, cellsK_some, qLd_ptr, qLd_vptr, qLdA_ptr, qLdA_vptr, qFa_ptr, qFa_vptr, qNc_ptr, qNc_vptr, qNc_fn, qNot_bool, qExt_tup, qCallV_fn, qLss_int, qLeq_int, qGtr_int, qGeq_int, qEql_int, qNeq_int, qAdd_int, qSub_int, qMul_int, qConvI_int, qLenL_sl, qLenL_hsl, qLenS_str, foldO, min2_int, max2_int, qSame_refl, Nat.zero_add, List.getElem?_cons_zero, List.getElem?_cons_succ, List.nil_append, List.cons_append, List.append_nil, one_bool, one_int, one_str, one_nilp, one_ptr, one_sl, one_hsl, one_map, one_fn, List.length_cons, List.length_nil, List.set_cons_zero, List.set_cons_succ, Nat.reduceLT, Nat.reduceAdd, h1', decide_false, u1]
  · have g0 : H2.get 0 = some (bk 0 r m m) := (b2.other 0 (by rw [a2.nx]; decide)).trans a2.at_
    have g1 : H1.nx = 1 := a2.nx
    have g2 : H2.get 1 = some (rb r m m) := by have := b2.at_; rwa [g1] at this
    refine ⟨0, m, .bool false, Aes.undef, Aes.undef, Aes.undef, Aes.undef, rfl, by omega, ?_, b2.fn, g0, g2, ft⟩
    rw [g1, H0_nx]
    rfl

end
end T
