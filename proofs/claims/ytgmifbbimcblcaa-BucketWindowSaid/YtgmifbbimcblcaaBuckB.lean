import Derived.Test.YtgmifbbimcblcaaBuckA
set_option linter.all false
set_option linter.unusedVariables false
set_option linter.unusedSimpArgs false
set_option maxRecDepth 10000
namespace T
open Go Go.Aes Go.Proofs

theorem eq_nil23 (i o : Nat) (k : AV → Prop) : qEql X 23 (.ptr i o) .nilp k = k (.bool false) := rfl
theorem ne_nil23 (i o : Nat) (k : AV → Prop) : qNeq X 23 (.ptr i o) .nilp k = k (.bool true) := rfl

section
variable {O : CallF} (hO : OutO O)
include hO

def cutR2 (x m : Int) : Int := min (max x 0) m

theorem ev_rnew {H : AH} (hf : Aes.Fn H) (rate burst : Int) :
    ∃ H', evl X O 16 [.int .i64 rate, .int .i64 burst] H = some (.val (.ptr H.nx 0) H') ∧ New H H' (rb (cutR rate 1000) (cutR burst 100000) (cutR burst 100000)) := by
  have n1 := New.push hf (rb (cutR rate 1000) (cutR burst 100000) 0)
  generalize hH1 : H.push (rb (cutR rate 1000) (cutR burst 100000) 0) = H1 at n1
  have u1 := Upd.set n1.fn n1.at_ (rb (cutR rate 1000) (cutR burst 100000) (cutR burst 100000))
  have hs := qSt_one (R := Prop) n1.fn n1.at_ 2 (.int .i64 (cutR burst 100000))
  refine ⟨_, of_form_eq e16 xf16 (hO _ _ _ (by decide) (by decide)) ?_, n1.upd u1⟩
  have hb : fillP z31 [(0, 1, .int .i64 (cutR rate 1000)), (1, 1, .int .i64 (cutR burst 100000))] = some [.int .i64 (cutR rate 1000), .int .i64 (cutR burst 100000), .int .i64 0] := rfl
  have hbx : ∀ k : AV → AH → Prop, qBox (.agg [.int .i64 (cutR rate 1000), .int .i64 (cutR burst 100000), .int .i64 0]) H k = k (.ptr H.nx 0) H1 := fun k => by rw [qBox_fn hf _ rfl, AV.cells, ← hH1]; rfl
  have ea := n1.at_
  unfold rb at ea
  have e1 : ∀ x m : Int, 0 ≤ m → min (max x 0) m = cutR x m := fun x m hm => by unfold cutR; omega
  have e2 := e1 rate 1000 (by decide)
  have e3 := e1 burst 100000 (by decide)
  simp only [c16, r16_0, r16_1, r16_2, r16_3, opn_z, opn_s, sel_z, sel_s, qCd_eq, qIf_true, qIf_false, qFn_eq, qBl_eq, qO_some, qRes_val, qHp_some, qPick_true, qPick_false, qG_tt, qG_ff, qG_tf, qG_ft, cellsK_some, qLd_ptr, qLd_vptr, qLdA_ptr, qLdA_vptr, qFa_ptr, qFa_vptr, qNc_ptr, qNc_vptr, qNc_fn, qNot_bool, qExt_tup, qCallV_fn, qLss_int, qLeq_int, qGtr_int, qGeq_int, qEql_int, qNeq_int, qAdd_int, qSub_int, qMul_int, qConvI_int, qLenL_sl, qLenL_hsl, qLenS_str, foldO, min2_int, max2_int, qSame_refl, Nat.zero_add, List.getElem?_cons_zero, List.getElem?_cons_succ, List.nil_append, List.cons_append, List.append_nil, one_bool, one_int, one_str, one_nilp, one_ptr, one_sl, one_hsl, one_map, one_fn, List.length_cons, List.length_nil, List.set_cons_zero, List.set_cons_succ, Nat.reduceLT, Nat.reduceAdd, e2, e3, qBld, hb, hbx, hs, ea]
  exact ⟨trivial, rfl⟩

theorem ev_rtake {H : AH} (hf : Aes.Fn H) {p : Nat} {rate burst level : Int} (c : Int) (h : H.get p = some (rb rate burst level)) (ft : Fit rate burst level) :
    ∃ H', evl X O 20 [.ptr p 0, .int .i64 c] H = some (.val (.bool (decide (max c 0 ≤ level))) H') ∧ Upd H H' p (rb rate burst (if max c 0 ≤ level then level - max c 0 else level)) := by
  have h' := h
  unfold rb at h'
  have := ft.l0; have := ft.lb; have := ft.b1
  by_cases hc : max c 0 ≤ level
  · refine ⟨_, of_form_eq e20 xf20 (hO _ _ _ (by decide) (by decide)) (H' := H.set p (some (rb rate burst (level - max c 0)))) ?_, by rw [if_pos hc]; exact .set hf h _⟩
    have h1 : ¬ level < max c 0 := by omega
    simp only [c20, r20_0, r20_1, r20_2, r20_3, r20_4, r20_5, opn_z, opn_s, sel_z, sel_s, qCd_eq, qIf_true, qIf_false, qFn_eq, qBl_eq, qO_some, qRes_val, qHp_some, qPick_true, qPick_false, qG_tt, qG_ff, qG_tf, qG_ft, cellsK_some, qLd_ptr, qLd_vptr, qLdA_ptr, qLdA_vptr, qFa_ptr, qFa_vptr, qNc_ptr, qNc_vptr, qNc_fn, qNot_bool, qExt_tup, qCallV_fn, qLss_int, qLeq_int, qGtr_int, qGeq_int, qEql_int, qNeq_int, qAdd_int, qSub_int, qMul_int, qConvI_int, qLenL_sl, qLenL_hsl, qLenS_str, foldO, min2_int, max2_int, qSame_refl, Nat.zero_add, List.getElem?_cons_zero, List.getElem?_cons_succ, List.nil_append, List.cons_append, List.append_nil, one_bool, one_int, one_str, one_nilp, one_ptr, one_sl, one_hsl, one_map, one_fn, List.length_cons, List.length_nil, List.set_cons_zero, List.set_cons_succ, Nat.reduceLT, Nat.reduceAdd, h', h1, hc, decide_true, decide_false, i64_in (x := level - max c 0) (by omega), qSt_one (R := Prop) hf h']
    exact ⟨trivial, rfl⟩
  · refine ⟨H, of_form_eq e20 xf20 (hO _ _ _ (by decide) (by decide)) ?_, ⟨hf, rfl, by rw [if_neg hc]; exact h, fun _ _ => rfl⟩⟩
    have h1 : level < max c 0 := by omega
    simp only [c20, r20_0, r20_1, r20_2, r20_3, r20_4, r20_5, opn_z, opn_s, sel_z, sel_s, qCd_eq, qIf_true, qIf_false, qFn_eq, qBl_eq, qO_some, qRes_val, qHp_some, qPick_true, qPick_false, qG_tt, qG_ff, qG_tf, qG_ft, cellsK_some, qLd_ptr, qLd_vptr, qLdA_ptr, qLdA_vptr, qFa_ptr, qFa_vptr, qNc_ptr, qNc_vptr, qNc_fn, qNot_bool, qExt_tup, qCallV_fn, qLss_int, qLeq_int, qGtr_int, qGeq_int, qEql_int, qNeq_int, qAdd_int, qSub_int, qMul_int, qConvI_int, qLenL_sl, qLenL_hsl, qLenS_str, foldO, min2_int, max2_int, qSame_refl, Nat.zero_add, List.getElem?_cons_zero, List.getElem?_cons_succ, List.nil_append, List.cons_append, List.append_nil, one_bool, one_int, one_str, one_nilp, one_ptr, one_sl, one_hsl, one_map, one_fn, List.length_cons, List.length_nil, List.set_cons_zero, List.set_cons_succ, Nat.reduceLT, Nat.reduceAdd, h', h1, hc, decide_true, decide_false]
    exact ⟨trivial, trivial⟩

theorem ev_rtick {H : AH} (hf : Aes.Fn H) {p : Nat} {rate burst level : Int} (n : Int) (h : H.get p = some (rb rate burst level)) (ft : Fit rate burst level) :
    ∃ H', evl X O 18 [.ptr p 0, .int .i64 n] H = some (.val (.tup []) H') ∧ Upd H H' p (rb rate burst (more rate burst level n)) := by
  have hp := prod_ok hO (n := n) ft
  have := ft.l0; have := ft.lb; have := ft.b1
  refine ⟨_, of_form_eq e18 xf18 (hO _ _ _ (by decide) (by decide)) (v := .tup []) (H' := H.set p (some (rb rate burst (more rate burst level n)))) ?_, .set hf h _⟩
  have h' := h
  unfold rb at h'
  have e1 : min (max n 0) 1073741824 = max 0 (min n 1073741824) := by omega
  simp only [c18, r18_0, opn_z, opn_s, sel_z, sel_s, qCd_eq, qIf_true, qIf_false, qFn_eq, qBl_eq, qO_some, qRes_val, qHp_some, qPick_true, qPick_false, qG_tt, qG_ff, qG_tf, qG_ft, cellsK_some, qLd_ptr, qLd_vptr, qLdA_ptr, qLdA_vptr, qFa_ptr, qFa_vptr, qNc_ptr, qNc_vptr, qNc_fn, qNot_bool, qExt_tup, qCallV_fn, qLss_int, qLeq_int, qGtr_int, qGeq_int, qEql_int, qNeq_int, qAdd_int, qSub_int, qMul_int, qConvI_int, qLenL_sl, qLenL_hsl, qLenS_str, foldO, min2_int, max2_int, qSame_refl, Nat.zero_add, List.getElem?_cons_zero, List.getElem?_cons_succ, List.nil_append, List.cons_append, List.append_nil, one_bool, one_int, one_str, one_nilp, one_ptr, one_sl, one_hsl, one_map, one_fn, List.length_cons, List.length_nil, List.set_cons_zero, List.set_cons_succ, Nat.reduceLT, Nat.reduceAdd, h', e1, i64_in (x := rate * max 0 (min n 1073741824)) (by omega), i64_in (x := level + rate * max 0 (min n 1073741824)) (by omega), qSt_one (R := Prop) hf h']
  exact ⟨trivial, rfl⟩

/-- the document's example -/
theorem ev_awake {H : AH} (hf : Aes.Fn H) : ∃ H', evl X O 22 [] H = some (.val (.bool true) H') ∧ Aes.Fn H' := by
  obtain ⟨H1, a1, a2, a3⟩ := ev_new hO hf 1 5
  have ft : Fit 1 5 5 := ⟨by decide, by decide, by decide, by decide, by decide⟩
  have a4 : H1.get H.nx = some (bk H.nx 1 5 5) := a2.at_
  obtain ⟨H2, b1, b2⟩ := ev_take hO a2.fn 5 a4 ft
  have b3 : H2.get H.nx = some (bk H.nx 1 5 0) := b2.at_
  obtain ⟨H3, d1, d2⟩ := ev_take hO b2.fn 1 b3 ⟨by decide, by decide, by decide, by decide, by decide⟩
  have d3 : H3.get H.nx = some (bk H.nx 1 5 0) := d2.at_
  have d4 := ev_level hO d3
  have b1' : evl X O 19 [.ptr H.nx 0, .int .i64 5] H1 = some (.val (.bool true) H2) := b1
  have d1' : evl X O 19 [.ptr H.nx 0, .int .i64 1] H2 = some (.val (.bool false) H3) := d1
  refine ⟨H3, of_form_eq e22 xf22 (hO _ _ _ (by decide) (by decide)) ?_, d2.fn⟩
  simp only [c22, r22_0, r22_1, r22_2, opn_z, opn_s, sel_z, sel_s, qCd_eq, qIf_true, qIf_false, qFn_eq, qBl_eq, qO_some, qRes_val, qHp_some, qPick_true, qPick_false, qG_tt, qG_ff, qG_tf, qG_ft, cellsK_some, qLd_ptr, qLd_vptr, qLdA_ptr, qLdA_vptr, qFa_ptr, qFa_vptr, qNc_ptr, qNc_vptr, qNc_fn, qNot_bool, qExt_tup, qCallV_fn, qLss_int, qLeq_int, qGtr_int, qGeq_int, qEql_int, qNeq_int, qAdd_int, qSub_int, qMul_int, qConvI_int, qLenL_sl, qLenL_hsl, qLenS_str, foldO, min2_int, max2_int, qSame_refl, Nat.zero_add, List.getElem?_cons_zero, List.getElem?_cons_succ, List.nil_append, List.cons_append, List.append_nil, one_bool, one_int, one_str, one_nilp, one_ptr, one_sl, one_hsl, one_map, one_fn, List.length_cons, List.length_nil, List.set_cons_zero, List.set_cons_succ, Nat.reduceLT, Nat.reduceAdd, a1, ne_nil23, b1', d1', d4, Bool.not_false]
  exact ⟨rfl, trivial⟩

end
end T
