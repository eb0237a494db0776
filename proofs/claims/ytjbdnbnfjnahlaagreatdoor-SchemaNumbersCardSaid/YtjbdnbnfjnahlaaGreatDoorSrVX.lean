import Derived.Test.YtjbdnbnfjnahlaaGreatDoorSrU
set_option linter.all false
set_option linter.unusedVariables false
set_option linter.unusedSimpArgs false
set_option maxRecDepth 10000
namespace T
open Go Go.Aes Go.Proofs

/-! ### ends of texts -/
def hsuf (s p : Str) : Bool := decide (p.length ≤ s.length) && decide (s.drop (s.length - p.length) = p)
def cutS (s p : Str) : Str := if hsuf s p then s.take (s.length - p.length) else s
theorem cutS_le (s p : Str) : (cutS s p).length ≤ s.length := by unfold cutS; split <;> simp
theorem cutS_lt {s : Str} {c : UInt8} (h : hsuf s [c] = true) : (cutS s [c]).length < s.length := by
  have h1 : 1 ≤ s.length := by simp [hsuf] at h; have := h.1; omega
  simp [cutS, h]; omega
theorem sub_nat {a b : Nat} (h : b ≤ a) (ha : a < 1000000) : IntKind.i64.wrap ((a : Int) - (b : Int)) = ((a - b : Nat) : Int) := by rw [i64_in' (by omega)]; omega

theorem ep102 (s p : Str) (hl : s.length < 1000000) (H : AH) : EP 102 [.str s, .str p] H = some (.val (.bool (hsuf s p)) H) := by
  refine uo_form (X := X) (D := ODs) (O := OFs) (S := PS) (al := [.str s, .str p]) e102 xf102 rfl rfl rfl rfl ?_ H
  simp only [AV.kills, AV.kill]
  by_cases h : p.length ≤ s.length
  · have h1 : ((s.length : Nat) : Int) ≥ ((p.length : Nat) : Int) := by omega
    have h2 : s.length - p.length ≤ s.length := by omega
    simp -implicitDefEqProofs only [c102, r102_0, r102_1, opn_z, opn_s, sel_z, sel_s, qCd_eq, qIf_true, qIf_false, qFn_eq, qBl_eq, qO_some, qRes_val, qHp_some, qPick_true, qPick_false, qG_tt, qG_ff, qG_tf, qG_ft, cellsK_some, qLd_ptr, qLd_vptr, qLdA_ptr, qLdA_vptr, qFa_ptr, qFa_vptr, qNc_ptr, qNc_vptr, qNc_fn, qNot_bool, qExt_tup, qCallV_fn, qLss_int, qLeq_int, qGtr_int, qGeq_int, qEql_int, qNeq_int, qAdd_int, qSub_int, qMul_int, qConvI_int, qLenL_sl, qLenL_hsl, qLenS_str, foldO, min2_int, max2_int, qSame_refl, Nat.zero_add, List.getElem?_cons_zero, List.getElem?_cons_succ, List.nil_append, List.cons_append, List.append_nil, one_bool, one_int, one_str, one_nilp, one_ptr, one_sl, one_hsl, one_map, one_fn, List.length_cons, List.length_nil, List.set_cons_zero, List.set_cons_succ, Nat.reduceLT, Nat.reduceAdd, qG_un, AV.kill, AV.kills, Tk.kill, h1, decide_true, sub_nat h hl, slcS_lo _ _ h2, qEql_str]
    simp [hsuf, h]
  · have h1 : ¬ ((s.length : Nat) : Int) ≥ ((p.length : Nat) : Int) := by omega
    simp -implicitDefEqProofs only [c102, r102_0, r102_1, opn_z, opn_s, sel_z, sel_s, qCd_eq, qIf_true, qIf_false, qFn_eq, qBl_eq, qO_some, qRes_val, qHp_some, qPick_true, qPick_false, qG_tt, qG_ff, qG_tf, qG_ft, cellsK_some, qLd_ptr, qLd_vptr, qLdA_ptr, qLdA_vptr, qFa_ptr, qFa_vptr, qNc_ptr, qNc_vptr, qNc_fn, qNot_bool, qExt_tup, qCallV_fn, qLss_int, qLeq_int, qGtr_int, qGeq_int, qEql_int, qNeq_int, qAdd_int, qSub_int, qMul_int, qConvI_int, qLenL_sl, qLenL_hsl, qLenS_str, foldO, min2_int, max2_int, qSame_refl, Nat.zero_add, List.getElem?_cons_zero, List.getElem?_cons_succ, List.nil_append, List.cons_append, List.append_nil, one_bool, one_int, one_str, one_nilp, one_ptr, one_sl, one_hsl, one_map, one_fn, List.length_cons, List.length_nil, List.set_cons_zero, List.set_cons_succ, Nat.reduceLT, Nat.reduceAdd, qG_un, AV.kill, AV.kills, Tk.kill, h1, decide_false]
    simp [hsuf, h]
theorem ep58 (s p : Str) (hl : s.length < 1000000) (H : AH) : EP 58 [.str s, .str p] H = some (.val (.tup [.str (cutS s p), .bool (hsuf s p)]) H) := by
  refine uo_form (X := X) (D := ODs) (O := OFs) (S := PS) (al := [.str s, .str p]) e58 xf58 rfl rfl rfl rfl ?_ H
  simp only [AV.kills, AV.kill]
  have h0 := fun H => ep102 s p hl H
  cases h : hsuf s p with
  | true =>
    rw [h] at h0
    have h3 : p.length ≤ s.length := by simp [hsuf] at h; exact h.1
    have h2 : s.length - p.length ≤ s.length := by omega
    simp -implicitDefEqProofs only [c58, r58_0, r58_1, r58_3, opn_z, opn_s, sel_z, sel_s, qCd_eq, qIf_true, qIf_false, qFn_eq, qBl_eq, qO_some, qRes_val, qHp_some, qPick_true, qPick_false, qG_tt, qG_ff, qG_tf, qG_ft, cellsK_some, qLd_ptr, qLd_vptr, qLdA_ptr, qLdA_vptr, qFa_ptr, qFa_vptr, qNc_ptr, qNc_vptr, qNc_fn, qNot_bool, qExt_tup, qCallV_fn, qLss_int, qLeq_int, qGtr_int, qGeq_int, qEql_int, qNeq_int, qAdd_int, qSub_int, qMul_int, qConvI_int, qLenL_sl, qLenL_hsl, qLenS_str, foldO, min2_int, max2_int, qSame_refl, Nat.zero_add, List.getElem?_cons_zero, List.getElem?_cons_succ, List.nil_append, List.cons_append, List.append_nil, one_bool, one_int, one_str, one_nilp, one_ptr, one_sl, one_hsl, one_map, one_fn, List.length_cons, List.length_nil, List.set_cons_zero, List.set_cons_succ, Nat.reduceLT, Nat.reduceAdd, qG_un, AV.kill, AV.kills, Tk.kill, h0, Bool.not_true, sub_nat h3 hl, slcS_hi _ _ h2]
    simp [cutS, h]
  | false =>
    rw [h] at h0
    simp -implicitDefEqProofs only [c58, r58_0, r58_1, r58_2, opn_z, opn_s, sel_z, sel_s, qCd_eq, qIf_true, qIf_false, qFn_eq, qBl_eq, qO_some, qRes_val, qHp_some, qPick_true, qPick_false, qG_tt, qG_ff, qG_tf, qG_ft, cellsK_some, qLd_ptr, qLd_vptr, qLdA_ptr, qLdA_vptr, qFa_ptr, qFa_vptr, qNc_ptr, qNc_vptr, qNc_fn, qNot_bool, qExt_tup, qCallV_fn, qLss_int, qLeq_int, qGtr_int, qGeq_int, qEql_int, qNeq_int, qAdd_int, qSub_int, qMul_int, qConvI_int, qLenL_sl, qLenL_hsl, qLenS_str, foldO, min2_int, max2_int, qSame_refl, Nat.zero_add, List.getElem?_cons_zero, List.getElem?_cons_succ, List.nil_append, List.cons_append, List.append_nil, one_bool, one_int, one_str, one_nilp, one_ptr, one_sl, one_hsl, one_map, one_fn, List.length_cons, List.length_nil, List.set_cons_zero, List.set_cons_succ, Nat.reduceLT, Nat.reduceAdd, qG_un, AV.kill, AV.kills, Tk.kill, h0, Bool.not_false]
    simp [cutS, h]
theorem ep18 (s p : Str) (hl : s.length < 1000000) (H : AH) : EP 18 [.str s, .str p] H = some (.val (.tup [.str (cutS s p), .bool (hsuf s p)]) H) := by
  refine uo_form (X := X) (D := ODs) (O := OFs) (S := PS) (al := [.str s, .str p]) e18 xf18 rfl rfl rfl rfl ?_ H
  simp only [AV.kills, AV.kill]
  simp -implicitDefEqProofs only [c18, r18_0, r18_1, opn_z, opn_s, sel_z, sel_s, qCd_eq, qIf_true, qIf_false, qFn_eq, qBl_eq, qO_some, qRes_val, qHp_some, qPick_true, qPick_false, qG_tt, qG_ff, qG_tf, qG_ft, cellsK_some, qLd_ptr, qLd_vptr, qLdA_ptr, qLdA_vptr, qFa_ptr, qFa_vptr, qNc_ptr, qNc_vptr, qNc_fn, qNot_bool, qExt_tup, qCallV_fn, qLss_int, qLeq_int, qGtr_int, qGeq_int, qEql_int, qNeq_int, qAdd_int, qSub_int, qMul_int, qConvI_int, qLenL_sl, qLenL_hsl, qLenS_str, foldO, min2_int, max2_int, qSame_refl, Nat.zero_add, List.getElem?_cons_zero, List.getElem?_cons_succ, List.nil_append, List.cons_append, List.append_nil, one_bool, one_int, one_str, one_nilp, one_ptr, one_sl, one_hsl, one_map, one_fn, List.length_cons, List.length_nil, List.set_cons_zero, List.set_cons_succ, Nat.reduceLT, Nat.reduceAdd, qG_un, AV.kill, AV.kills, Tk.kill, ep58 s p hl]

/-- a sign cut off a type's end, in its place -/
theorem cut17 {H : AH} [IsFn H] {i : Nat} {a : AV} {w p : Str} (hg : H.get i = some (.cells [a, .str w])) (hl : w.length < 1000000) :
    ∃ H', EP 17 [.ptr i 0, .str p] H = some (.val (.bool (hsuf w p)) H') ∧ IsFn H' ∧ H'.get i = some (.cells [a, .str (cutS w p)]) ∧ ∀ j, j ≠ i → H'.get j = H.get j := by
  have hs := fun (k : AV → AH → Prop) => qSt_1 (H := H) (cs := [a, .str w]) (o := 1) (v := .str (cutS w p)) hg (by simp) rfl k
  have hl1 := fun (k : AV → Prop) => ld1 (H := H) hg 1 (.str w) rfl k
  have hi := lt_i hg
  refine ⟨H.set i (some (.cells [a, .str (cutS w p)])), ?_, inferInstance, by rw [get_set_i hi, if_pos rfl], fun j hj => by rw [get_set_i hi, if_neg hj]⟩
  refine ao_form_eq (X := X) (D := ODs) (O := OFs) (S := PS) e17 xf17 rfl rfl ?_
  simp -implicitDefEqProofs only [c17, r17_0, r17_1, r17_2, r17_3, opn_z, opn_s, sel_z, sel_s, qCd_eq, qIf_true, qIf_false, qFn_eq, qBl_eq, qO_some, qRes_val, qHp_some, qPick_true, qPick_false, qG_tt, qG_ff, qG_tf, qG_ft, cellsK_some, qLd_vptr, qLdA_vptr, qFa_ptr, qFa_vptr, qNc_ptr, qNc_vptr, qNc_fn, qNot_bool, qExt_tup, qCallV_fn, qLss_int, qLeq_int, qGtr_int, qGeq_int, qEql_int, qNeq_int, qAdd_int, qSub_int, qMul_int, qConvI_int, qLenL_sl, qLenL_hsl, qLenS_str, foldO, min2_int, max2_int, qSame_refl, Nat.zero_add, List.getElem?_cons_zero, List.getElem?_cons_succ, List.nil_append, List.cons_append, List.append_nil, one_bool, one_int, one_str, one_nilp, one_ptr, one_sl, one_hsl, one_map, one_fn, List.length_cons, List.length_nil, List.set_cons_zero, List.set_cons_succ, Nat.reduceLT, Nat.reduceAdd, qG_un, hl1, ep18 w p hl, hs, Nat.reduceAdd]
  exact ⟨trivial, trivial⟩

/-- may it stand for it, the names' answer given? -/
def subF (c : Bool) : Nat → Str → Str → Bool
  | 0, _, _ => false
  | n + 1, wa, wb =>
    if hsuf wb [33] && !hsuf wa [33] then false
    else if hsuf (cutS wa [33]) [93] != hsuf (cutS wb [33]) [93] then false
    else if !hsuf (cutS wb [33]) [93] then c
    else subF c n (cutS (cutS wa [33]) [93]) (cutS (cutS wb [33]) [93])
theorem subF_le (c : Bool) : ∀ n m wa wb, wb.length < n → wb.length < m → subF c n wa wb = subF c m wa wb
  | 0, m, wa, wb, h, _ => by omega
  | n + 1, 0, wa, wb, _, h => by omega
  | n + 1, m + 1, wa, wb, h1, h2 => by
    unfold subF
    split
    · rfl
    split
    · rfl
    split
    · rfl
    · rename_i h
      have hb : hsuf (cutS wb [33]) [93] = true := by simpa using h
      have := cutS_lt hb
      have := cutS_le wb [33]
      exact subF_le c n m _ _ (by omega) (by omega)
end T
set_option linter.unusedVariables false
set_option linter.unusedSimpArgs false
set_option maxRecDepth 10000
namespace T
open Go Go.Aes Go.Proofs

/-- may a type stand for another one? of the program -/
theorem sub_walk {cs : List AV} {n1 n2 w1 w2 : Str} {c b1 b2 : Bool} (h3 : cs.length = 3) (ho : allOne cs = true) (hk : (AV.agg cs).kill = .agg cs) (hf : (AV.agg cs).free = true) (hl1 : w1.length < 1000) (hl2 : w2.length < 1000)
    (h1 : ∀ H, EP 16 [ty n1 w1] H = some (.val (.bool b1) H)) (h2 : ∀ H, EP 16 [ty n2 w2] H = some (.val (.bool b2) H)) (h19 : ∀ H, EP 19 [.agg cs, .str n1, .str n2] H = some (.val (.bool c) H)) (H : AH) :
    EP 8 [.agg cs, ty n1 w1, ty n2 w2] H = some (.val (.bool (b1 && b2 && subF c (w2.length + 1) w1 w2)) H) := by
  have hks : AV.kills [.agg cs, ty n1 w1, ty n2 w2] = [.agg cs, ty n1 w1, ty n2 w2] := by simp only [AV.kills, hk]; rfl
  refine uo_form (X := X) (D := ODs) (O := OFs) (S := PS) (al := [.agg cs, ty n1 w1, ty n2 w2]) e8 xf8 rfl rfl (by rw [hks]; have hf' : AV.frees cs = true := hf; simp [AV.frees, hf', ty, AV.free]) rfl ?_ H
  rw [hks]
  obtain ⟨K, hK⟩ : ∃ K, K = ((H0.push (.cells cs)).push (.cells [.str n1, .str w1])).push (.cells [.str n2, .str w2]) := ⟨_, rfl⟩
  have iK : IsFn K := by subst hK; exact inferInstance
  have g0 : K.get 0 = some (.cells cs) := by subst hK; simp [get_push_i, nx_push_i, H0_nx]
  have g1 : K.get 1 = some (.cells [.str n1, .str w1]) := by subst hK; simp [get_push_i, nx_push_i, H0_nx]
  have g2 : K.get 2 = some (.cells [.str n2, .str w2]) := by subst hK; simp [get_push_i, nx_push_i, H0_nx]
  have l1 := fun (k : AV → Prop) => ldA (n := 2) g1 0 (l := [.str n1, .str w1]) rfl k
  have l2 := fun (k : AV → Prop) => ldA (n := 2) g2 0 (l := [.str n2, .str w2]) rfl k
  unfold ty at h1 h2 ⊢
  have hb0 : ∀ k : AV → AH → Prop, qBox (.agg cs) H0 k = k (.ptr 0 0) (H0.push (.cells cs)) := fun k => by rw [qBox_i, cells_agg, ho]; rfl
  have hb1 : ∀ k : AV → AH → Prop, qBox (.agg [.str n1, .str w1]) (H0.push (.cells cs)) k = k (.ptr 1 0) ((H0.push (.cells cs)).push (.cells [.str n1, .str w1])) := fun k => by rw [qBox_i]; rfl
  have hb2 : ∀ k : AV → AH → Prop, qBox (.agg [.str n2, .str w2]) ((H0.push (.cells cs)).push (.cells [.str n1, .str w1])) k = k (.ptr 2 0) K := fun k => by rw [qBox_i, hK]; rfl
  have hn0 : (1 : Nat) ≠ 2 := by decide
  cases b1 with
  | false => simp -implicitDefEqProofs only [c8, r8_0, r8_1, r8_2, opn_z, opn_s, sel_z, sel_s, qCd_eq, qIf_true, qIf_false, qFn_eq, qBl_eq, qO_some, qRes_val, qHp_some, qPick_true, qPick_false, qG_tt, qG_ff, qG_tf, qG_ft, cellsK_some, qLd_vptr, qLdA_vptr, qFa_ptr, qFa_vptr, qNc_ptr, qNc_vptr, qNc_fn, qNot_bool, qExt_tup, qCallV_fn, qLss_int, qLeq_int, qGtr_int, qGeq_int, qEql_int, qNeq_int, qAdd_int, qSub_int, qMul_int, qConvI_int, qLenL_sl, qLenL_hsl, qLenS_str, foldO, min2_int, max2_int, qSame_refl, Nat.zero_add, List.getElem?_cons_zero, List.getElem?_cons_succ, List.nil_append, List.cons_append, List.append_nil, one_bool, one_int, one_str, one_nilp, one_ptr, one_sl, one_hsl, one_map, one_fn, List.length_cons, List.length_nil, List.set_cons_zero, List.set_cons_succ, Nat.reduceLT, Nat.reduceAdd, qG_un, hb0, hb1, hb2, l1, h1, Bool.not_false, Bool.false_and, AV.kill]
  | true =>
  cases b2 with
  | false => simp -implicitDefEqProofs only [c8, r8_0, r8_1, r8_2, opn_z, opn_s, sel_z, sel_s, qCd_eq, qIf_true, qIf_false, qFn_eq, qBl_eq, qO_some, qRes_val, qHp_some, qPick_true, qPick_false, qG_tt, qG_ff, qG_tf, qG_ft, cellsK_some, qLd_vptr, qLdA_vptr, qFa_ptr, qFa_vptr, qNc_ptr, qNc_vptr, qNc_fn, qNot_bool, qExt_tup, qCallV_fn, qLss_int, qLeq_int, qGtr_int, qGeq_int, qEql_int, qNeq_int, qAdd_int, qSub_int, qMul_int, qConvI_int, qLenL_sl, qLenL_hsl, qLenS_str, foldO, min2_int, max2_int, qSame_refl, Nat.zero_add, List.getElem?_cons_zero, List.getElem?_cons_succ, List.nil_append, List.cons_append, List.append_nil, one_bool, one_int, one_str, one_nilp, one_ptr, one_sl, one_hsl, one_map, one_fn, List.length_cons, List.length_nil, List.set_cons_zero, List.set_cons_succ, Nat.reduceLT, Nat.reduceAdd, qG_un, hb0, hb1, hb2, l1, l2, h1, h2, Bool.not_false, Bool.not_true, Bool.and_false, Bool.false_and, AV.kill]
  | true =>
  simp -implicitDefEqProofs only [c8, r8_0, r8_1, r8_3, opn_z, opn_s, sel_z, sel_s, qCd_eq, qIf_true, qIf_false, qFn_eq, qBl_eq, qO_some, qRes_val, qHp_some, qPick_true, qPick_false, qG_tt, qG_ff, qG_tf, qG_ft, cellsK_some, qLd_vptr, qLdA_vptr, qFa_ptr, qFa_vptr, qNc_ptr, qNc_vptr, qNc_fn, qNot_bool, qExt_tup, qCallV_fn, qLss_int, qLeq_int, qGtr_int, qGeq_int, qEql_int, qNeq_int, qAdd_int, qSub_int, qMul_int, qConvI_int, qLenL_sl, qLenL_hsl, qLenS_str, foldO, min2_int, max2_int, qSame_refl, Nat.zero_add, List.getElem?_cons_zero, List.getElem?_cons_succ, List.nil_append, List.cons_append, List.append_nil, one_bool, one_int, one_str, one_nilp, one_ptr, one_sl, one_hsl, one_map, one_fn, List.length_cons, List.length_nil, List.set_cons_zero, List.set_cons_succ, Nat.reduceLT, Nat.reduceAdd, qG_un, hb0, hb1, hb2, l1, l2, h1, h2, Bool.not_true, Bool.true_and]
  refine loop_inv (fun m fr H' => ∃ (wa wb : Str) (x0 x1 x2 x6 x8 x9 x10 x18 x27 x30 x35 : AV), m = wb.length ∧ wa.length < 1000 ∧ wb.length < 1000 ∧ fr = [x0, x1, x2, .ptr 0 0, .ptr 1 0, .ptr 2 0, x6, .fn (.func 17) [] [], x8, x9, x10, x18, x27, x30, x35] ∧ IsFn H' ∧
    H'.get 0 = some (.cells cs) ∧ H'.get 1 = some (.cells [.str n1, .str wa]) ∧ H'.get 2 = some (.cells [.str n2, .str wb]) ∧ subF c (wb.length + 1) wa wb = subF c (w2.length + 1) w1 w2) ?_ (m := w2.length) ?_
  · rintro m fr H' k ⟨wa, wb, x0, x1, x2, x6, x8, x9, x10, x18, x27, x30, x35, rfl, hla, hlb, rfl, iH, q0, q1, q2, hs⟩ hk'
    obtain ⟨Ha, f1, i1, a2, a3⟩ := cut17 (p := [33]) q2 (by omega)
    have a1 : Ha.get 1 = some (.cells [.str n1, .str wa]) := by rw [a3 1 (by decide)]; exact q1
    have a0 : Ha.get 0 = some (.cells cs) := by rw [a3 0 (by decide)]; exact q0
    obtain ⟨Hb, f2, i2, b1, b3⟩ := cut17 (p := [33]) a1 (by omega)
    have b2 : Hb.get 2 = some (.cells [.str n2, .str (cutS wb [33])]) := by rw [b3 2 (by decide)]; exact a2
    have b0 : Hb.get 0 = some (.cells cs) := by rw [b3 0 (by decide)]; exact a0
    have le1 := cutS_le wb [33]
    have le2 := cutS_le wa [33]
    obtain ⟨Hc, f3, i3, c2, c3⟩ := cut17 (p := [93]) b2 (by omega)
    have c1 : Hc.get 1 = some (.cells [.str n1, .str (cutS wa [33])]) := by rw [c3 1 (by decide)]; exact b1
    have c0 : Hc.get 0 = some (.cells cs) := by rw [c3 0 (by decide)]; exact b0
    obtain ⟨Hd, f4, i4, d1, d3⟩ := cut17 (p := [93]) c1 (by omega)
    have d2 : Hd.get 2 = some (.cells [.str n2, .str (cutS (cutS wb [33]) [93])]) := by rw [d3 2 (by decide)]; exact c2
    have d0 : Hd.get 0 = some (.cells cs) := by rw [d3 0 (by decide)]; exact c0
    have le3 := cutS_le (cutS wb [33]) [93]
    have le4 := cutS_le (cutS wa [33]) [93]
    have y0 := fun (k : AV → Prop) => ldA (n := 3) d0 0 (l := cs) (slice_whole cs 3 h3) k
    have y1 := fun (k : AV → Prop) => ld1 d1 0 (.str n1) rfl k
    have y2 := fun (k : AV → Prop) => ld1 d2 0 (.str n2) rfl k
    rw [subF] at hs
    by_cases hh : hsuf wb [33] && !hsuf wa [33]
    · rw [if_pos hh] at hs
      simp only [Bool.and_eq_true, Bool.not_eq_true'] at hh
      rw [hh.1] at f1
      rw [hh.2] at f2
      simp -implicitDefEqProofs only [l8_7, r8_4, r8_5, r8_6, r8_7, opn_z, opn_s, sel_z, sel_s, qCd_eq, qIf_true, qIf_false, qFn_eq, qBl_eq, qO_some, qRes_val, qHp_some, qPick_true, qPick_false, qG_tt, qG_ff, qG_tf, qG_ft, cellsK_some, qLd_vptr, qLdA_vptr, qFa_ptr, qFa_vptr, qNc_ptr, qNc_vptr, qNc_fn, qNot_bool, qExt_tup, qCallV_fn, qLss_int, qLeq_int, qGtr_int, qGeq_int, qEql_int, qNeq_int, qAdd_int, qSub_int, qMul_int, qConvI_int, qLenL_sl, qLenL_hsl, qLenS_str, foldO, min2_int, max2_int, qSame_refl, Nat.zero_add, List.getElem?_cons_zero, List.getElem?_cons_succ, List.nil_append, List.cons_append, List.append_nil, one_bool, one_int, one_str, one_nilp, one_ptr, one_sl, one_hsl, one_map, one_fn, List.length_cons, List.length_nil, List.set_cons_zero, List.set_cons_succ, Nat.reduceLT, Nat.reduceAdd, qG_un, f1, f2, Bool.not_false, ← hs, AV.kill]
    · rw [if_neg hh] at hs
      by_cases hm : hsuf (cutS wa [33]) [93] != hsuf (cutS wb [33]) [93]
      · rw [if_pos hm] at hs
        cases ub : hsuf wb [33] <;> cases ua : hsuf wa [33] <;> rw [ub] at f1 <;> rw [ua] at f2 <;> (try (simp [ub, ua] at hh; done)) <;>
          cases vb : hsuf (cutS wb [33]) [93] <;> cases va : hsuf (cutS wa [33]) [93] <;> rw [vb] at f3 <;> rw [va] at f4 <;> (try (simp [vb, va] at hm; done)) <;>
          (have hx : ∀ k : AV → Prop, qNeq X 4 (.bool true) (.bool false) k = k (.bool true) := fun k => rfl
           have hy : ∀ k : AV → Prop, qNeq X 4 (.bool false) (.bool true) k = k (.bool true) := fun k => rfl
           simp -implicitDefEqProofs only [l8_7, r8_4, r8_5, r8_6, r8_8, r8_9, r8_10, opn_z, opn_s, sel_z, sel_s, qCd_eq, qIf_true, qIf_false, qFn_eq, qBl_eq, qO_some, qRes_val, qHp_some, qPick_true, qPick_false, qG_tt, qG_ff, qG_tf, qG_ft, cellsK_some, qLd_vptr, qLdA_vptr, qFa_ptr, qFa_vptr, qNc_ptr, qNc_vptr, qNc_fn, qNot_bool, qExt_tup, qCallV_fn, qLss_int, qLeq_int, qGtr_int, qGeq_int, qEql_int, qNeq_int, qAdd_int, qSub_int, qMul_int, qConvI_int, qLenL_sl, qLenL_hsl, qLenS_str, foldO, min2_int, max2_int, qSame_refl, Nat.zero_add, List.getElem?_cons_zero, List.getElem?_cons_succ, List.nil_append, List.cons_append, List.append_nil, one_bool, one_int, one_str, one_nilp, one_ptr, one_sl, one_hsl, one_map, one_fn, List.length_cons, List.length_nil, List.set_cons_zero, List.set_cons_succ, Nat.reduceLT, Nat.reduceAdd, qG_un, f1, f2, f3, f4, hx, hy, Bool.not_false, Bool.not_true, ← hs, AV.kill])
      · rw [if_neg hm] at hs
        have hx : ∀ (b : Bool) (k : AV → Prop), qNeq X 4 (.bool b) (.bool b) k = k (.bool false) := fun b k => by cases b <;> rfl
        cases vb : hsuf (cutS wb [33]) [93] with
        | false =>
          have va : hsuf (cutS wa [33]) [93] = false := by simpa [vb] using hm
          rw [vb, if_pos (by rfl)] at hs
          rw [vb] at f3
          rw [va] at f4
          cases ub : hsuf wb [33] <;> cases ua : hsuf wa [33] <;> rw [ub] at f1 <;> rw [ua] at f2 <;> (try (simp [ub, ua] at hh; done)) <;>
            simp -implicitDefEqProofs only [l8_7, r8_4, r8_5, r8_6, r8_8, r8_9, r8_11, r8_12, opn_z, opn_s, sel_z, sel_s, qCd_eq, qIf_true, qIf_false, qFn_eq, qBl_eq, qO_some, qRes_val, qHp_some, qPick_true, qPick_false, qG_tt, qG_ff, qG_tf, qG_ft, cellsK_some, qLd_vptr, qLdA_vptr, qFa_ptr, qFa_vptr, qNc_ptr, qNc_vptr, qNc_fn, qNot_bool, qExt_tup, qCallV_fn, qLss_int, qLeq_int, qGtr_int, qGeq_int, qEql_int, qNeq_int, qAdd_int, qSub_int, qMul_int, qConvI_int, qLenL_sl, qLenL_hsl, qLenS_str, foldO, min2_int, max2_int, qSame_refl, Nat.zero_add, List.getElem?_cons_zero, List.getElem?_cons_succ, List.nil_append, List.cons_append, List.append_nil, one_bool, one_int, one_str, one_nilp, one_ptr, one_sl, one_hsl, one_map, one_fn, List.length_cons, List.length_nil, List.set_cons_zero, List.set_cons_succ, Nat.reduceLT, Nat.reduceAdd, qG_un, f1, f2, f3, f4, hx, y0, y1, y2, h19, Bool.not_false, Bool.not_true, ← hs, AV.kill]
        | true =>
          have va : hsuf (cutS wa [33]) [93] = true := by simpa [vb] using hm
          rw [vb, if_neg (by decide)] at hs
          rw [vb] at f3
          rw [va] at f4
          have hlt := cutS_lt vb
          have hs2 : subF c ((cutS (cutS wb [33]) [93]).length + 1) (cutS (cutS wa [33]) [93]) (cutS (cutS wb [33]) [93]) = subF c (w2.length + 1) w1 w2 := by
            rw [← hs]; exact subF_le c _ _ _ _ (by omega) (by omega)
          cases ub : hsuf wb [33] <;> cases ua : hsuf wa [33] <;> rw [ub] at f1 <;> rw [ua] at f2 <;> (try (simp [ub, ua] at hh; done)) <;>
            (simp -implicitDefEqProofs only [l8_7, r8_4, r8_5, r8_6, r8_8, r8_9, r8_11, opn_z, opn_s, sel_z, sel_s, qCd_eq, qIf_true, qIf_false, qFn_eq, qBl_eq, qO_some, qRes_val, qHp_some, qPick_true, qPick_false, qG_tt, qG_ff, qG_tf, qG_ft, cellsK_some, qLd_vptr, qLdA_vptr, qFa_ptr, qFa_vptr, qNc_ptr, qNc_vptr, qNc_fn, qNot_bool, qExt_tup, qCallV_fn, qLss_int, qLeq_int, qGtr_int, qGeq_int, qEql_int, qNeq_int, qAdd_int, qSub_int, qMul_int, qConvI_int, qLenL_sl, qLenL_hsl, qLenS_str, foldO, min2_int, max2_int, qSame_refl, Nat.zero_add, List.getElem?_cons_zero, List.getElem?_cons_succ, List.nil_append, List.cons_append, List.append_nil, one_bool, one_int, one_str, one_nilp, one_ptr, one_sl, one_hsl, one_map, one_fn, List.length_cons, List.length_nil, List.set_cons_zero, List.set_cons_succ, Nat.reduceLT, Nat.reduceAdd, qG_un, f1, f2, f3, f4, hx, Bool.not_false, Bool.not_true]
             exact hk' _ _ _ (show (cutS (cutS wb [33]) [93]).length < wb.length by omega) ⟨_, _, _, _, _, _, _, _, _, _, _, _, _, rfl, by omega, by omega, rfl, i4, d0, d1, d2, hs2⟩)
  · exact ⟨w1, w2, _, _, _, _, _, _, _, _, _, _, _, rfl, hl1, hl2, rfl, iK, g0, g1, g2, rfl⟩
end T
