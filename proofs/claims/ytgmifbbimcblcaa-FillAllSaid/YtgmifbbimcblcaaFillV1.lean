import Derived.Test.YtgmifbbimcblcaaFillZ
set_option linter.all false
set_option linter.unusedVariables false
set_option linter.unusedSimpArgs false
set_option maxRecDepth 10000
namespace T
open Go Go.Aes Go.Proofs

/-! ### the same -/
mutual
def vok : Val → Prop
  | .mk _ _ ns l => ns.length ≤ 100000000000 ∧ l.length ≤ 100000000000 ∧ voks l
def voks : List Val → Prop
  | [] => True
  | v :: l => vok v ∧ voks l
end
theorem voks_mem : ∀ {l : List Val}, voks l → ∀ v ∈ l, vok v
  | [], _, v, h => by cases h
  | m :: l, ⟨h1, h2⟩, v, h => by
    rcases List.mem_cons.1 h with rfl | h
    · exact h1
    · exact voks_mem h2 v h

theorem dec_same {α : Type} [DecidableEq α] (a : α) : decide (a = a) = true := by simp
theorem strRows_len (l : List Str) : (strRows l).length = l.length := by simp [strRows]
theorem qIa_strs {l : List Str} {tk : Tk} {i : Nat} {s : Str} (h : l[i]? = some s) (k : AV → Prop) : qIa 1 (.sl (strRows l) tk) (.int .i64 (i : Int)) k = k (.vptr [.str s] 0) :=
  qIa_sl (R := Prop) .i64 k 1 (strRows l) tk i [.str s] (by simp [strRows, h]) rfl
theorem qIa_rows {rows : List (List AV)} {tk : Tk} {n i : Nat} {r : List AV} (h : rows[i]? = some r) (hl : r.length = n) (k : AV → Prop) : qIa n (.sl rows tk) (.int .i64 (i : Int)) k = k (.vptr r 0) :=
  qIa_sl (R := Prop) .i64 k n rows tk i r h hl

def SameOk (v : Val) : Prop := ∀ (r r' : List AV), EV v r → EV v r' → vok v → ∀ H, EP 38 [.agg r, .agg r'] H = some (.val (.bool true) H)

theorem same_step (kk : Int) (s : Str) (ns : List Str) (l : List Val) (ih : ∀ v ∈ l, SameOk v) : SameOk (.mk kk s ns l) := by
  intro r r' hr hr' hv H
  obtain ⟨a1, a2⟩ := EV.kill _ _ hr
  obtain ⟨b1, b2⟩ := EV.kill _ _ hr'
  refine pu_form e38 xf38 rfl (by simp only [AV.kills, AV.kill, AV.frees, AV.free, a2, b2]; rfl) rfl ?_ H
  simp only [AV.kills, AV.kill]
  obtain ⟨t1, t2, rows, h1, h2⟩ := a1
  obtain ⟨t3, t4, rows', h3, h4⟩ := b1
  rw [h1, h3]
  obtain ⟨v1, v2, v3⟩ := hv
  have l1 := h2.len
  have l2 := h4.len
  have bx1 : ∀ k : AV → AH → Prop, qBox (.agg [.int .i64 kk, .str s, .sl (strRows ns) t1, .sl rows t2]) H0 k = k (.ptr 0 0) (H0.push (.cells [.int .i64 kk, .str s, .sl (strRows ns) t1, .sl rows t2])) := fun k => by rw [qBox_i]; rfl
  have bx2 : ∀ k : AV → AH → Prop, qBox (.agg [.int .i64 kk, .str s, .sl (strRows ns) t3, .sl rows' t4]) (H0.push (.cells [.int .i64 kk, .str s, .sl (strRows ns) t1, .sl rows t2])) k =
    k (.ptr 1 0) ((H0.push (.cells [.int .i64 kk, .str s, .sl (strRows ns) t1, .sl rows t2])).push (.cells [.int .i64 kk, .str s, .sl (strRows ns) t3, .sl rows' t4])) := fun k => by rw [qBox_i]; rfl
  have g0 : ((H0.push (.cells [.int .i64 kk, .str s, .sl (strRows ns) t1, .sl rows t2])).push (.cells [.int .i64 kk, .str s, .sl (strRows ns) t3, .sl rows' t4])).get 0 = some (.cells [.int .i64 kk, .str s, .sl (strRows ns) t1, .sl rows t2]) := rfl
  have g1 : ((H0.push (.cells [.int .i64 kk, .str s, .sl (strRows ns) t1, .sl rows t2])).push (.cells [.int .i64 kk, .str s, .sl (strRows ns) t3, .sl rows' t4])).get 1 = some (.cells [.int .i64 kk, .str s, .sl (strRows ns) t3, .sl rows' t4]) := rfl
  simp -implicitDefEqProofs only [c38, r38_0, opn_z, opn_s, sel_z, sel_s, qCd_eq, qIf_true, qIf_false, qFn_eq, qBl_eq, qO_some, qRes_val, qHp_some, qPick_true, qPick_false, qG_tt, qG_ff, qG_tf, qG_ft, cellsK_some, qLd_vptr, qLdA_vptr, qFa_ptr, qFa_vptr, qNc_ptr, qNc_vptr, qNc_fn, qNot_bool, qExt_tup, qCallV_fn, qLss_int, qLeq_int, qGtr_int, qGeq_int, qEql_int, qNeq_int, qAdd_int, qSub_int, qMul_int, qConvI_int, qLenL_sl, qLenL_hsl, qLenS_str, foldO, min2_int, max2_int, qSame_refl, Nat.zero_add, List.getElem?_cons_zero, List.getElem?_cons_succ, List.nil_append, List.cons_append, List.append_nil, one_bool, one_int, one_str, one_nilp, one_ptr, one_sl, one_hsl, one_map, one_fn, List.length_cons, List.length_nil, List.set_cons_zero, List.set_cons_succ, Nat.reduceLT, Nat.reduceAdd, bx1, bx2]
  generalize (H0.push (.cells [.int .i64 kk, .str s, .sl (strRows ns) t1, .sl rows t2])).push (.cells [.int .i64 kk, .str s, .sl (strRows ns) t3, .sl rows' t4]) = Ha at g0 g1 ⊢
  have p0 := fun k => ld1 g0 0 _ rfl k
  have p1 := fun k => ld1 g0 1 _ rfl k
  have p2 := fun k => ld1 g0 2 _ rfl k
  have p3 := fun k => ld1 g0 3 _ rfl k
  have q0 := fun k => ld1 g1 0 _ rfl k
  have q1 := fun k => ld1 g1 1 _ rfl k
  have q2 := fun k => ld1 g1 2 _ rfl k
  have q3 := fun k => ld1 g1 3 _ rfl k
  have ds := dec_same s
  simp -implicitDefEqProofs only [r38_1, r38_3, opn_z, opn_s, sel_z, sel_s, qCd_eq, qIf_true, qIf_false, qFn_eq, qBl_eq, qO_some, qRes_val, qHp_some, qPick_true, qPick_false, qG_tt, qG_ff, qG_tf, qG_ft, cellsK_some, qLd_vptr, qLdA_vptr, qFa_ptr, qFa_vptr, qNc_ptr, qNc_vptr, qNc_fn, qNot_bool, qExt_tup, qCallV_fn, qLss_int, qLeq_int, qGtr_int, qGeq_int, qEql_int, qNeq_int, qAdd_int, qSub_int, qMul_int, qConvI_int, qLenL_sl, qLenL_hsl, qLenS_str, foldO, min2_int, max2_int, qSame_refl, Nat.zero_add, List.getElem?_cons_zero, List.getElem?_cons_succ, List.nil_append, List.cons_append, List.append_nil, one_bool, one_int, one_str, one_nilp, one_ptr, one_sl, one_hsl, one_map, one_fn, List.length_cons, List.length_nil, List.set_cons_zero, List.set_cons_succ, Nat.reduceLT, Nat.reduceAdd, p0, p1, p2, p3, q0, q1, q2, q3, beq_self_eq_true, Bool.not_true, qNeq_str, decide_true, l1, l2]
  refine loop_inv (fun m fr H => ∃ (i : Nat) (x6 x36 x41 x54 x59 x73 : AV), m = ns.length - i ∧ i ≤ ns.length ∧
    fr = [.agg [.int .i64 kk, .str s, .sl (strRows ns) t1, .sl rows t2], .agg [.int .i64 kk, .str s, .sl (strRows ns) t3, .sl rows' t4], .ptr 0 0, .ptr 1 0, .bool false, .int .i64 (i : Int), x6, x36, x41, x54, x59, x73] ∧ H = Ha) ?_ (m := ns.length) ?_
  · rintro m fr Hh k ⟨i, x6, x36, x41, x54, x59, x73, rfl, hi, rfl, rfl⟩ hk
    have hls : ∀ (t : Tk) (k : AV → Prop), qLenL (.sl (strRows ns) t) k = k (.int .i64 (ns.length : Int)) := fun t k => by rw [qLenL_sl, strRows_len]
    rcases Nat.lt_or_ge i ns.length with h | h
    · have h' : (i : Int) < (ns.length : Int) := by omega
      have ix := fun t k => qIa_strs (tk := t) (List.getElem?_eq_getElem h) k
      have hd := dec_same ns[i]
      have hw := wrap_up i (by omega)
      simp -implicitDefEqProofs only [l38_10, r38_4, r38_5, r38_6, opn_z, opn_s, sel_z, sel_s, qCd_eq, qIf_true, qIf_false, qFn_eq, qBl_eq, qO_some, qRes_val, qHp_some, qPick_true, qPick_false, qG_tt, qG_ff, qG_tf, qG_ft, cellsK_some, qLd_vptr, qLdA_vptr, qFa_ptr, qFa_vptr, qNc_ptr, qNc_vptr, qNc_fn, qNot_bool, qExt_tup, qCallV_fn, qLss_int, qLeq_int, qGtr_int, qGeq_int, qEql_int, qNeq_int, qAdd_int, qSub_int, qMul_int, qConvI_int, qLenL_sl, qLenL_hsl, qLenS_str, foldO, min2_int, max2_int, qSame_refl, Nat.zero_add, List.getElem?_cons_zero, List.getElem?_cons_succ, List.nil_append, List.cons_append, List.append_nil, one_bool, one_int, one_str, one_nilp, one_ptr, one_sl, one_hsl, one_map, one_fn, List.length_cons, List.length_nil, List.set_cons_zero, List.set_cons_succ, Nat.reduceLT, Nat.reduceAdd, strRows_len, p2, q2, hls, h', decide_true, ix, qNeq_str, hd, Bool.not_true, hw]
      exact hk (ns.length - (i + 1)) _ _ (by omega) ⟨i + 1, _, _, _, _, _, _, rfl, h, rfl, rfl⟩
    · have h' : ¬ (i : Int) < (ns.length : Int) := by omega
      simp -implicitDefEqProofs only [l38_10, r38_4, r38_8, opn_z, opn_s, sel_z, sel_s, qCd_eq, qIf_true, qIf_false, qFn_eq, qBl_eq, qO_some, qRes_val, qHp_some, qPick_true, qPick_false, qG_tt, qG_ff, qG_tf, qG_ft, cellsK_some, qLd_vptr, qLdA_vptr, qFa_ptr, qFa_vptr, qNc_ptr, qNc_vptr, qNc_fn, qNot_bool, qExt_tup, qCallV_fn, qLss_int, qLeq_int, qGtr_int, qGeq_int, qEql_int, qNeq_int, qAdd_int, qSub_int, qMul_int, qConvI_int, qLenL_sl, qLenL_hsl, qLenS_str, foldO, min2_int, max2_int, qSame_refl, Nat.zero_add, List.getElem?_cons_zero, List.getElem?_cons_succ, List.nil_append, List.cons_append, List.append_nil, one_bool, one_int, one_str, one_nilp, one_ptr, one_sl, one_hsl, one_map, one_fn, List.length_cons, List.length_nil, List.set_cons_zero, List.set_cons_succ, Nat.reduceLT, Nat.reduceAdd, strRows_len, p2, hls, h', decide_false]
      refine loop_inv (fun m fr H => ∃ (i : Nat) (x5 x36 x41 x54 x59 x73 : AV), m = l.length - i ∧ i ≤ l.length ∧
        fr = [.agg [.int .i64 kk, .str s, .sl (strRows ns) t1, .sl rows t2], .agg [.int .i64 kk, .str s, .sl (strRows ns) t3, .sl rows' t4], .ptr 0 0, .ptr 1 0, .bool false, x5, .int .i64 (i : Int), x36, x41, x54, x59, x73] ∧ H = Hh) ?_ (m := l.length) ?_
      · rintro m fr H k ⟨i, x5, x36, x41, x54, x59, x73, rfl, hi, rfl, rfl⟩ hk
        rcases Nat.lt_or_ge i l.length with h | h
        · have h' : (i : Int) < (l.length : Int) := by omega
          obtain ⟨ra, e1, e2⟩ := h2.get (List.getElem?_eq_getElem h)
          obtain ⟨rb, e3, e4⟩ := h4.get (List.getElem?_eq_getElem h)
          have ix1 := fun k => qIa_rows (tk := t2) e1 e2.four k
          have ix2 := fun k => qIa_rows (tk := t4) e3 e4.four k
          have la : ∀ (H : AH) (k : AV → Prop), qLdA 4 (.vptr ra 0) H k = k (.agg ra) := fun H k => by rw [qLdA_vptr, slice_whole ra 4 e2.four, qO_some]
          have lb : ∀ (H : AH) (k : AV → Prop), qLdA 4 (.vptr rb 0) H k = k (.agg rb) := fun H k => by rw [qLdA_vptr, slice_whole rb 4 e4.four, qO_some]
          have hc := ih _ (List.getElem_mem h) ra rb e2 e4 (voks_mem v3 _ (List.getElem_mem h)) H
          have hw := wrap_up i (by omega)
          simp -implicitDefEqProofs only [l38_5, r38_9, r38_10, r38_11, opn_z, opn_s, sel_z, sel_s, qCd_eq, qIf_true, qIf_false, qFn_eq, qBl_eq, qO_some, qRes_val, qHp_some, qPick_true, qPick_false, qG_tt, qG_ff, qG_tf, qG_ft, cellsK_some, qLd_vptr, qLdA_vptr, qFa_ptr, qFa_vptr, qNc_ptr, qNc_vptr, qNc_fn, qNot_bool, qExt_tup, qCallV_fn, qLss_int, qLeq_int, qGtr_int, qGeq_int, qEql_int, qNeq_int, qAdd_int, qSub_int, qMul_int, qConvI_int, qLenL_sl, qLenL_hsl, qLenS_str, foldO, min2_int, max2_int, qSame_refl, Nat.zero_add, List.getElem?_cons_zero, List.getElem?_cons_succ, List.nil_append, List.cons_append, List.append_nil, one_bool, one_int, one_str, one_nilp, one_ptr, one_sl, one_hsl, one_map, one_fn, List.length_cons, List.length_nil, List.set_cons_zero, List.set_cons_succ, Nat.reduceLT, Nat.reduceAdd, p3, q3, l1, h', decide_true, ix1, ix2, la, lb, hc, Bool.not_true, hw]
          exact hk (l.length - (i + 1)) _ _ (by omega) ⟨i + 1, _, _, _, _, _, _, rfl, h, rfl, rfl⟩
        · have h' : ¬ (i : Int) < (l.length : Int) := by omega
          simp -implicitDefEqProofs only [l38_5, r38_9, r38_13, opn_z, opn_s, sel_z, sel_s, qCd_eq, qIf_true, qIf_false, qFn_eq, qBl_eq, qO_some, qRes_val, qHp_some, qPick_true, qPick_false, qG_tt, qG_ff, qG_tf, qG_ft, cellsK_some, qLd_vptr, qLdA_vptr, qFa_ptr, qFa_vptr, qNc_ptr, qNc_vptr, qNc_fn, qNot_bool, qExt_tup, qCallV_fn, qLss_int, qLeq_int, qGtr_int, qGeq_int, qEql_int, qNeq_int, qAdd_int, qSub_int, qMul_int, qConvI_int, qLenL_sl, qLenL_hsl, qLenS_str, foldO, min2_int, max2_int, qSame_refl, Nat.zero_add, List.getElem?_cons_zero, List.getElem?_cons_succ, List.nil_append, List.cons_append, List.append_nil, one_bool, one_int, one_str, one_nilp, one_ptr, one_sl, one_hsl, one_map, one_fn, List.length_cons, List.length_nil, List.set_cons_zero, List.set_cons_succ, Nat.reduceLT, Nat.reduceAdd, p3, l1, h', decide_false]
          rfl
      · exact ⟨0, _, _, _, _, _, _, rfl, by omega, rfl, rfl⟩
  · exact ⟨0, _, _, _, _, _, _, rfl, by omega, rfl, rfl⟩

theorem ep38 (v : Val) : SameOk v := by
  refine Val.rec (motive_1 := SameOk) (motive_2 := fun l => ∀ v ∈ l, SameOk v) (fun kind s ns l ih => same_step kind s ns l ih) (fun n h => by cases h) (fun n l h1 h2 m hm => ?_) v
  rcases List.mem_cons.1 hm with rfl | hm
  · exact h1
  · exact h2 m hm

theorem qIa_path {l : List (Str × Int)} {tk : Tk} {i : Nat} {x : Str × Int} (h : l[i]? = some x) (k : AV → Prop) : qIa 2 (.sl (pRows l) tk) (.int .i64 (i : Int)) k = k (.vptr [.str x.1, .int .i64 x.2] 0) :=
  qIa_sl (R := Prop) .i64 k 2 (pRows l) tk i [.str x.1, .int .i64 x.2] (by simp [pRows, h]) rfl

theorem ep53 (p : List (Str × Int)) (t1 t2 : Tk) (hl : p.length ≤ 100000000000) (H : AH) : EP 53 [.sl (pRows p) t1, .sl (pRows p) t2] H = some (.val (.bool true) H) := by
  refine pu_form e53 xf53 rfl (by simp only [AV.kills, AV.kill, AV.frees, Tk.kill_free, pRows_kill, pRows_free]; rfl) rfl ?_ H
  simp only [AV.kills, AV.kill, pRows_kill]
  generalize t1.kill = t1
  generalize t2.kill = t2
  simp -implicitDefEqProofs only [c53, r53_0, r53_1, r53_3, opn_z, opn_s, sel_z, sel_s, qCd_eq, qIf_true, qIf_false, qFn_eq, qBl_eq, qO_some, qRes_val, qHp_some, qPick_true, qPick_false, qG_tt, qG_ff, qG_tf, qG_ft, cellsK_some, qLd_vptr, qLdA_vptr, qFa_ptr, qFa_vptr, qNc_ptr, qNc_vptr, qNc_fn, qNot_bool, qExt_tup, qCallV_fn, qLss_int, qLeq_int, qGtr_int, qGeq_int, qEql_int, qNeq_int, qAdd_int, qSub_int, qMul_int, qConvI_int, qLenL_sl, qLenL_hsl, qLenS_str, foldO, min2_int, max2_int, qSame_refl, Nat.zero_add, List.getElem?_cons_zero, List.getElem?_cons_succ, List.nil_append, List.cons_append, List.append_nil, one_bool, one_int, one_str, one_nilp, one_ptr, one_sl, one_hsl, one_map, one_fn, List.length_cons, List.length_nil, List.set_cons_zero, List.set_cons_succ, Nat.reduceLT, Nat.reduceAdd, beq_self_eq_true, Bool.not_true]
  refine loop_inv (fun m fr H => ∃ (i : Nat) (x10 x14 x40 : AV), m = p.length - i ∧ i ≤ p.length ∧
    fr = [.sl (pRows p) t1, .sl (pRows p) t2, .bool false, .int .i64 (i : Int), x10, x14, x40] ∧ H = H0) ?_ (m := p.length) ?_
  · rintro m fr H k ⟨i, x10, x14, x40, rfl, hi, rfl, rfl⟩ hk
    rcases Nat.lt_or_ge i p.length with h | h
    · have h' : (i : Int) < (p.length : Int) := by omega
      have ix := fun t k => qIa_path (tk := t) (List.getElem?_eq_getElem h) k
      have hd := dec_same p[i].1
      have hw := wrap_up i (by omega)
      simp -implicitDefEqProofs only [l53_5, r53_4, r53_5, r53_6, opn_z, opn_s, sel_z, sel_s, qCd_eq, qIf_true, qIf_false, qFn_eq, qBl_eq, qO_some, qRes_val, qHp_some, qPick_true, qPick_false, qG_tt, qG_ff, qG_tf, qG_ft, cellsK_some, qLd_vptr, qLdA_vptr, qFa_ptr, qFa_vptr, qNc_ptr, qNc_vptr, qNc_fn, qNot_bool, qExt_tup, qCallV_fn, qLss_int, qLeq_int, qGtr_int, qGeq_int, qEql_int, qNeq_int, qAdd_int, qSub_int, qMul_int, qConvI_int, qLenL_sl, qLenL_hsl, qLenS_str, foldO, min2_int, max2_int, qSame_refl, Nat.zero_add, List.getElem?_cons_zero, List.getElem?_cons_succ, List.nil_append, List.cons_append, List.append_nil, one_bool, one_int, one_str, one_nilp, one_ptr, one_sl, one_hsl, one_map, one_fn, List.length_cons, List.length_nil, List.set_cons_zero, List.set_cons_succ, Nat.reduceLT, Nat.reduceAdd, pRows_len, h', decide_true, ix, qNeq_str, hd, Bool.not_true, beq_self_eq_true, hw]
      exact hk (p.length - (i + 1)) _ _ (by omega) ⟨i + 1, _, _, _, rfl, h, rfl, rfl⟩
    · have h' : ¬ (i : Int) < (p.length : Int) := by omega
      simp -implicitDefEqProofs only [l53_5, r53_4, r53_8, opn_z, opn_s, sel_z, sel_s, qCd_eq, qIf_true, qIf_false, qFn_eq, qBl_eq, qO_some, qRes_val, qHp_some, qPick_true, qPick_false, qG_tt, qG_ff, qG_tf, qG_ft, cellsK_some, qLd_vptr, qLdA_vptr, qFa_ptr, qFa_vptr, qNc_ptr, qNc_vptr, qNc_fn, qNot_bool, qExt_tup, qCallV_fn, qLss_int, qLeq_int, qGtr_int, qGeq_int, qEql_int, qNeq_int, qAdd_int, qSub_int, qMul_int, qConvI_int, qLenL_sl, qLenL_hsl, qLenS_str, foldO, min2_int, max2_int, qSame_refl, Nat.zero_add, List.getElem?_cons_zero, List.getElem?_cons_succ, List.nil_append, List.cons_append, List.append_nil, one_bool, one_int, one_str, one_nilp, one_ptr, one_sl, one_hsl, one_map, one_fn, List.length_cons, List.length_nil, List.set_cons_zero, List.set_cons_succ, Nat.reduceLT, Nat.reduceAdd, pRows_len, h', decide_false]
      rfl
  · exact ⟨0, _, _, _, rfl, by omega, rfl, rfl⟩

def fok (l : List Fau) : Prop := l.length ≤ 100000000000 ∧ ∀ f ∈ l, f.path.length ≤ 100000000000

theorem ep39 {l : List Fau} {ra rb : List (List AV)} (ha : EFs l ra) (hb : EFs l rb) (ho : fok l) (t1 t2 : Tk) (H : AH) : EP 39 [.sl ra t1, .sl rb t2] H = some (.val (.bool true) H) := by
  obtain ⟨a1, a2⟩ := EFs.kill _ _ ha
  obtain ⟨b1, b2⟩ := EFs.kill _ _ hb
  refine pu_form e39 xf39 rfl (by simp only [AV.kills, AV.kill, AV.frees, Tk.kill_free, a2, b2]; rfl) rfl ?_ H
  simp only [AV.kills, AV.kill]
  generalize AV.killss ra = ra at a1
  generalize AV.killss rb = rb at b1
  generalize t1.kill = t1
  generalize t2.kill = t2
  have l1 := a1.len
  have l2 := b1.len
  obtain ⟨ho1, ho2⟩ := ho
  simp -implicitDefEqProofs only [c39, r39_0, r39_1, r39_3, opn_z, opn_s, sel_z, sel_s, qCd_eq, qIf_true, qIf_false, qFn_eq, qBl_eq, qO_some, qRes_val, qHp_some, qPick_true, qPick_false, qG_tt, qG_ff, qG_tf, qG_ft, cellsK_some, qLd_vptr, qLdA_vptr, qFa_ptr, qFa_vptr, qNc_ptr, qNc_vptr, qNc_fn, qNot_bool, qExt_tup, qCallV_fn, qLss_int, qLeq_int, qGtr_int, qGeq_int, qEql_int, qNeq_int, qAdd_int, qSub_int, qMul_int, qConvI_int, qLenL_sl, qLenL_hsl, qLenS_str, foldO, min2_int, max2_int, qSame_refl, Nat.zero_add, List.getElem?_cons_zero, List.getElem?_cons_succ, List.nil_append, List.cons_append, List.append_nil, one_bool, one_int, one_str, one_nilp, one_ptr, one_sl, one_hsl, one_map, one_fn, List.length_cons, List.length_nil, List.set_cons_zero, List.set_cons_succ, Nat.reduceLT, Nat.reduceAdd, l1, l2, beq_self_eq_true, Bool.not_true]
  refine loop_inv (fun m fr H => ∃ (i : Nat) (x10 x14 x41 : AV), m = l.length - i ∧ i ≤ l.length ∧
    fr = [.sl ra t1, .sl rb t2, .bool false, .int .i64 (i : Int), x10, x14, x41] ∧ H = H0) ?_ (m := l.length) ?_
  · rintro m fr H k ⟨i, x10, x14, x41, rfl, hi, rfl, rfl⟩ hk
    rcases Nat.lt_or_ge i l.length with h | h
    · have h' : (i : Int) < (l.length : Int) := by omega
      obtain ⟨x, e1, ⟨k1, rfl⟩⟩ := a1.get (List.getElem?_eq_getElem h)
      obtain ⟨y, e2, ⟨k2, rfl⟩⟩ := b1.get (List.getElem?_eq_getElem h)
      have ix1 : ∀ k : AV → Prop, _ := fun k => qIa_rows (n := 2) (tk := t1) e1 rfl k
      have ix2 : ∀ k : AV → Prop, _ := fun k => qIa_rows (n := 2) (tk := t2) e2 rfl k
      have hd := dec_same l[i].what
      have hw := wrap_up i (by omega)
      have hc := ep53 l[i].path k1 k2 (ho2 _ (List.getElem_mem h)) H0
      simp -implicitDefEqProofs only [l39_5, r39_4, r39_5, r39_6, opn_z, opn_s, sel_z, sel_s, qCd_eq, qIf_true, qIf_false, qFn_eq, qBl_eq, qO_some, qRes_val, qHp_some, qPick_true, qPick_false, qG_tt, qG_ff, qG_tf, qG_ft, cellsK_some, qLd_vptr, qLdA_vptr, qFa_ptr, qFa_vptr, qNc_ptr, qNc_vptr, qNc_fn, qNot_bool, qExt_tup, qCallV_fn, qLss_int, qLeq_int, qGtr_int, qGeq_int, qEql_int, qNeq_int, qAdd_int, qSub_int, qMul_int, qConvI_int, qLenL_sl, qLenL_hsl, qLenS_str, foldO, min2_int, max2_int, qSame_refl, Nat.zero_add, List.getElem?_cons_zero, List.getElem?_cons_succ, List.nil_append, List.cons_append, List.append_nil, one_bool, one_int, one_str, one_nilp, one_ptr, one_sl, one_hsl, one_map, one_fn, List.length_cons, List.length_nil, List.set_cons_zero, List.set_cons_succ, Nat.reduceLT, Nat.reduceAdd, l1, h', decide_true, ix1, ix2, qNeq_str, hd, Bool.not_true, hc, hw]
      exact hk (l.length - (i + 1)) _ _ (by omega) ⟨i + 1, _, _, _, rfl, h, rfl, rfl⟩
    · have h' : ¬ (i : Int) < (l.length : Int) := by omega
      simp -implicitDefEqProofs only [l39_5, r39_4, r39_8, opn_z, opn_s, sel_z, sel_s, qCd_eq, qIf_true, qIf_false, qFn_eq, qBl_eq, qO_some, qRes_val, qHp_some, qPick_true, qPick_false, qG_tt, qG_ff, qG_tf, qG_ft, cellsK_some, qLd_vptr, qLdA_vptr, qFa_ptr, qFa_vptr, qNc_ptr, qNc_vptr, qNc_fn, qNot_bool, qExt_tup, qCallV_fn, qLss_int, qLeq_int, qGtr_int, qGeq_int, qEql_int, qNeq_int, qAdd_int, qSub_int, qMul_int, qConvI_int, qLenL_sl, qLenL_hsl, qLenS_str, foldO, min2_int, max2_int, qSame_refl, Nat.zero_add, List.getElem?_cons_zero, List.getElem?_cons_succ, List.nil_append, List.cons_append, List.append_nil, one_bool, one_int, one_str, one_nilp, one_ptr, one_sl, one_hsl, one_map, one_fn, List.length_cons, List.length_nil, List.set_cons_zero, List.set_cons_succ, Nat.reduceLT, Nat.reduceAdd, l1, h', decide_false]
      rfl
  · exact ⟨0, _, _, _, rfl, by omega, rfl, rfl⟩

end T
set_option linter.unusedVariables false
set_option linter.unusedSimpArgs false
set_option maxRecDepth 10000
namespace T
open Go Go.Aes Go.Proofs

/-! ### what came too late -/
def sLATE : Str := [68, 69, 65, 68, 76, 73, 78, 69]
mutual
def cnt : Nd → Nat
  | .mk kind _ _ _ _ what kids => (if kind = 3 ∧ what = sLATE then 1 else 0) + cnts kids
def cnts : List Nd → Nat
  | [] => 0
  | n :: l => cnt n + cnts l
end
mutual
theorem cnt_le : ∀ n : Nd, cnt n ≤ tot n
  | .mk kind _ _ _ _ what kids => by
    have := cnts_le kids
    simp only [cnt, tot]; split <;> omega
theorem cnts_le : ∀ l : List Nd, cnts l ≤ tots l
  | [] => by simp [cnts]
  | n :: l => by
    have := cnt_le n
    have := cnts_le l
    simp only [cnts, tots]; omega
end
def kidsOf : Nd → List Nd
  | .mk _ _ _ _ _ _ kids => kids
theorem tots_mem : ∀ {l : List Nd}, ∀ n ∈ l, tot n ≤ tots l
  | [], n, h => by cases h
  | m :: l, n, h => by
    simp only [tots]
    rcases List.mem_cons.1 h with rfl | h
    · omega
    · have := tots_mem n h; omega
theorem tot_kids (n : Nd) : tot n = 1 + tots (kidsOf n) := by cases n; rfl

/-- of all nodes what holds of a list whose nodes' lists have it -/
theorem Nd.lists {P : List Nd → Prop} (h : ∀ l, (∀ n ∈ l, P (kidsOf n)) → P l) (l : List Nd) : P l := by
  refine h l fun n hn => ?_
  refine Nd.rec (motive_1 := fun n => P (kidsOf n)) (motive_2 := fun l => ∀ n ∈ l, P (kidsOf n)) (fun kind key tn w val what kids ih => h kids ih) (fun n h => by cases h) (fun n l h1 h2 m hm => ?_) n
  rcases List.mem_cons.1 hm with rfl | hm
  · exact h1
  · exact h2 m hm

def CntOk (g : Nat) (l : List Nd) : Prop := ∀ (rows : List (List AV)) (tk : Tk), ENs l rows → tots l ≤ 100000000000 → ∀ H, EP g [.sl rows tk] H = some (.val (.int .i64 (cnts l : Int)) H)

theorem EN.parts {n : Nd} {row : List AV} (h : EN n row) : ∃ kind what rws t, row[0]? = some (.int .i64 kind) ∧ row[8]? = some (.str what) ∧ row[9]? = some (.sl rws t) ∧ ENs (kidsOf n) rws ∧ cnt n = (if kind = 3 ∧ what = sLATE then 1 else 0) + cnts (kidsOf n) := by
  cases n
  obtain ⟨a, b, c, d, t, rows, h1, rfl, h2⟩ := h
  exact ⟨_, _, _, _, rfl, rfl, rfl, h2, rfl⟩

theorem ep41 (l : List Nd) : CntOk 41 l := by
  refine Nd.lists (fun l ih => ?_) l
  intro rows tk hE hl H
  obtain ⟨a1, a2⟩ := ENs.kill _ _ hE
  refine pu_form e41 xf41 rfl (arg_free tk hE) rfl ?_ H
  simp only [AV.kills, AV.kill]
  generalize AV.killss rows = rows at a1
  generalize tk.kill = tk
  have l1 := a1.len
  have ll := tots_len l
  simp -implicitDefEqProofs only [c41, r41_0, r41_1, r41_2, opn_z, opn_s, sel_z, sel_s, qCd_eq, qIf_true, qIf_false, qFn_eq, qBl_eq, qO_some, qRes_val, qHp_some, qPick_true, qPick_false, qG_tt, qG_ff, qG_tf, qG_ft, cellsK_some, qLd_vptr, qLdA_vptr, qFa_ptr, qFa_vptr, qNc_ptr, qNc_vptr, qNc_fn, qNot_bool, qExt_tup, qCallV_fn, qLss_int, qLeq_int, qGtr_int, qGeq_int, qEql_int, qNeq_int, qAdd_int, qSub_int, qMul_int, qConvI_int, qLenL_sl, qLenL_hsl, qLenS_str, foldO, min2_int, max2_int, qSame_refl, Nat.zero_add, List.getElem?_cons_zero, List.getElem?_cons_succ, List.nil_append, List.cons_append, List.append_nil, one_bool, one_int, one_str, one_nilp, one_ptr, one_sl, one_hsl, one_map, one_fn, List.length_cons, List.length_nil, List.set_cons_zero, List.set_cons_succ, Nat.reduceLT, Nat.reduceAdd]
  refine loop_inv (fun m fr H => ∃ (i : Nat) (rest : List Nd) (A : Nat) (x8 x24 : AV), m = rest.length ∧ l.drop i = rest ∧ i + rest.length = l.length ∧ A + cnts rest = cnts l ∧
    fr = [.sl rows tk, .int .i64 0, .int .i64 (A : Int), .int .i64 (i : Int), x8, x24] ∧ H = H0) ?_ (m := l.length) ?_
  · rintro m fr H k ⟨i, rest, A, x8, x24, rfl, hd, hi, hA, rfl, rfl⟩ hk
    cases rest with
    | nil =>
      have h' : ¬ (i : Int) < (l.length : Int) := by simp at hi; omega
      simp only [cnts, Nat.add_zero] at hA
      subst hA
      simp -implicitDefEqProofs only [l41_5, r41_3, r41_8, opn_z, opn_s, sel_z, sel_s, qCd_eq, qIf_true, qIf_false, qFn_eq, qBl_eq, qO_some, qRes_val, qHp_some, qPick_true, qPick_false, qG_tt, qG_ff, qG_tf, qG_ft, cellsK_some, qLd_vptr, qLdA_vptr, qFa_ptr, qFa_vptr, qNc_ptr, qNc_vptr, qNc_fn, qNot_bool, qExt_tup, qCallV_fn, qLss_int, qLeq_int, qGtr_int, qGeq_int, qEql_int, qNeq_int, qAdd_int, qSub_int, qMul_int, qConvI_int, qLenL_sl, qLenL_hsl, qLenS_str, foldO, min2_int, max2_int, qSame_refl, Nat.zero_add, List.getElem?_cons_zero, List.getElem?_cons_succ, List.nil_append, List.cons_append, List.append_nil, one_bool, one_int, one_str, one_nilp, one_ptr, one_sl, one_hsl, one_map, one_fn, List.length_cons, List.length_nil, List.set_cons_zero, List.set_cons_succ, Nat.reduceLT, Nat.reduceAdd, l1, h', decide_false]
      rfl
    | cons n rest =>
      obtain ⟨d1, d2, d3⟩ := drop_cons hd
      have h' : (i : Int) < (l.length : Int) := by omega
      obtain ⟨row, e1, e2⟩ := a1.get d1
      have hmem : n ∈ l := List.mem_of_getElem? d1
      obtain ⟨kind, what, rws, t, f0, f8, f9, f1, f2⟩ := e2.parts
      have htm := tots_mem n hmem
      have htk := tot_kids n
      have hc := ih n hmem rws t f1 (by omega) H0
      have ix := fun k => qIa_rows (tk := tk) e1 e2.ten.1 k
      have v0 : ∀ (H : AH) (k : AV → Prop), qLd (.vptr row 0) H k = k (.int .i64 kind) := fun H k => by rw [qLd_vptr, f0, qO_some]
      have v8 : ∀ (H : AH) (k : AV → Prop), qLd (.vptr row 8) H k = k (.str what) := fun H k => by rw [qLd_vptr, f8, qO_some]
      have v9 : ∀ (H : AH) (k : AV → Prop), qLd (.vptr row 9) H k = k (.sl rws t) := fun H k => by rw [qLd_vptr, f9, qO_some]
      have hcl := cnts_le l
      simp only [cnts] at hA
      have hw := wrap_up i (by omega)
      have hwA := wrap_up A (by omega)
      have fin : ∀ (B : Nat), B = A + (if kind = 3 ∧ what = sLATE then 1 else 0) → ∀ (y24 : AV), r41_7 EP (r41_4 k) [.sl rows tk, .int .i64 0, .int .i64 (B : Int), .int .i64 (i : Int), .bool true, y24] H0 := by
        intro B hB y24
        have hw2 : IntKind.i64.wrap ((B : Int) + (cnts (kidsOf n) : Int)) = ((B + cnts (kidsOf n) : Nat) : Int) := by rw [i64_in' (by omega)]; omega
        simp -implicitDefEqProofs only [r41_7, r41_4, opn_z, opn_s, sel_z, sel_s, qCd_eq, qIf_true, qIf_false, qFn_eq, qBl_eq, qO_some, qRes_val, qHp_some, qPick_true, qPick_false, qG_tt, qG_ff, qG_tf, qG_ft, cellsK_some, qLd_vptr, qLdA_vptr, qFa_ptr, qFa_vptr, qNc_ptr, qNc_vptr, qNc_fn, qNot_bool, qExt_tup, qCallV_fn, qLss_int, qLeq_int, qGtr_int, qGeq_int, qEql_int, qNeq_int, qAdd_int, qSub_int, qMul_int, qConvI_int, qLenL_sl, qLenL_hsl, qLenS_str, foldO, min2_int, max2_int, qSame_refl, Nat.zero_add, List.getElem?_cons_zero, List.getElem?_cons_succ, List.nil_append, List.cons_append, List.append_nil, one_bool, one_int, one_str, one_nilp, one_ptr, one_sl, one_hsl, one_map, one_fn, List.length_cons, List.length_nil, List.set_cons_zero, List.set_cons_succ, Nat.reduceLT, Nat.reduceAdd, ix, v9, hc, hw2, hw]
        exact hk rest.length _ _ (by simp) ⟨i + 1, rest, _, _, _, rfl, d2, by simp at hi; omega, by omega, rfl, rfl⟩
      by_cases k3 : kind = 3
      · by_cases kw : what = sLATE
        · have b3 : (kind == 3) = true := by simp [k3]
          have hdw : decide (what = [68, 69, 65, 68, 76, 73, 78, 69]) = true := decide_eq_true kw
          simp -implicitDefEqProofs only [l41_5, r41_3, r41_5, r41_6, opn_z, opn_s, sel_z, sel_s, qCd_eq, qIf_true, qIf_false, qFn_eq, qBl_eq, qO_some, qRes_val, qHp_some, qPick_true, qPick_false, qG_tt, qG_ff, qG_tf, qG_ft, cellsK_some, qLd_vptr, qLdA_vptr, qFa_ptr, qFa_vptr, qNc_ptr, qNc_vptr, qNc_fn, qNot_bool, qExt_tup, qCallV_fn, qLss_int, qLeq_int, qGtr_int, qGeq_int, qEql_int, qNeq_int, qAdd_int, qSub_int, qMul_int, qConvI_int, qLenL_sl, qLenL_hsl, qLenS_str, foldO, min2_int, max2_int, qSame_refl, Nat.zero_add, List.getElem?_cons_zero, List.getElem?_cons_succ, List.nil_append, List.cons_append, List.append_nil, one_bool, one_int, one_str, one_nilp, one_ptr, one_sl, one_hsl, one_map, one_fn, List.length_cons, List.length_nil, List.set_cons_zero, List.set_cons_succ, Nat.reduceLT, Nat.reduceAdd, l1, h', decide_true, ix, v0, v8, b3, qEql_str, hdw, hwA]
          exact fin (A + 1) (by rw [if_pos ⟨k3, kw⟩]) _
        · have b3 : (kind == 3) = true := by simp [k3]
          have hdw : decide (what = [68, 69, 65, 68, 76, 73, 78, 69]) = false := decide_eq_false kw
          simp -implicitDefEqProofs only [l41_5, r41_3, r41_5, opn_z, opn_s, sel_z, sel_s, qCd_eq, qIf_true, qIf_false, qFn_eq, qBl_eq, qO_some, qRes_val, qHp_some, qPick_true, qPick_false, qG_tt, qG_ff, qG_tf, qG_ft, cellsK_some, qLd_vptr, qLdA_vptr, qFa_ptr, qFa_vptr, qNc_ptr, qNc_vptr, qNc_fn, qNot_bool, qExt_tup, qCallV_fn, qLss_int, qLeq_int, qGtr_int, qGeq_int, qEql_int, qNeq_int, qAdd_int, qSub_int, qMul_int, qConvI_int, qLenL_sl, qLenL_hsl, qLenS_str, foldO, min2_int, max2_int, qSame_refl, Nat.zero_add, List.getElem?_cons_zero, List.getElem?_cons_succ, List.nil_append, List.cons_append, List.append_nil, one_bool, one_int, one_str, one_nilp, one_ptr, one_sl, one_hsl, one_map, one_fn, List.length_cons, List.length_nil, List.set_cons_zero, List.set_cons_succ, Nat.reduceLT, Nat.reduceAdd, l1, h', decide_true, ix, v0, v8, b3, qEql_str, hdw]
          exact fin A (by rw [if_neg (fun h => kw h.2)]; rfl) _
      · have b3 : (kind == 3) = false := by simp [k3]
        simp -implicitDefEqProofs only [l41_5, r41_3, r41_5, opn_z, opn_s, sel_z, sel_s, qCd_eq, qIf_true, qIf_false, qFn_eq, qBl_eq, qO_some, qRes_val, qHp_some, qPick_true, qPick_false, qG_tt, qG_ff, qG_tf, qG_ft, cellsK_some, qLd_vptr, qLdA_vptr, qFa_ptr, qFa_vptr, qNc_ptr, qNc_vptr, qNc_fn, qNot_bool, qExt_tup, qCallV_fn, qLss_int, qLeq_int, qGtr_int, qGeq_int, qEql_int, qNeq_int, qAdd_int, qSub_int, qMul_int, qConvI_int, qLenL_sl, qLenL_hsl, qLenS_str, foldO, min2_int, max2_int, qSame_refl, Nat.zero_add, List.getElem?_cons_zero, List.getElem?_cons_succ, List.nil_append, List.cons_append, List.append_nil, one_bool, one_int, one_str, one_nilp, one_ptr, one_sl, one_hsl, one_map, one_fn, List.length_cons, List.length_nil, List.set_cons_zero, List.set_cons_succ, Nat.reduceLT, Nat.reduceAdd, l1, h', decide_true, ix, v0, b3]
        exact fin A (by rw [if_neg (fun h => k3 h.1)]; rfl) _
  · exact ⟨0, l, 0, _, _, rfl, rfl, by omega, by omega, rfl, rfl⟩

theorem ep40 (l : List Nd) : CntOk 40 l := by
  refine Nd.lists (fun l ih => ?_) l
  intro rows tk hE hl H
  obtain ⟨a1, a2⟩ := ENs.kill _ _ hE
  refine pu_form e40 xf40 rfl (arg_free tk hE) rfl ?_ H
  simp only [AV.kills, AV.kill]
  generalize AV.killss rows = rows at a1
  generalize tk.kill = tk
  have l1 := a1.len
  have ll := tots_len l
  simp -implicitDefEqProofs only [c40, r40_0, r40_1, r40_2, opn_z, opn_s, sel_z, sel_s, qCd_eq, qIf_true, qIf_false, qFn_eq, qBl_eq, qO_some, qRes_val, qHp_some, qPick_true, qPick_false, qG_tt, qG_ff, qG_tf, qG_ft, cellsK_some, qLd_vptr, qLdA_vptr, qFa_ptr, qFa_vptr, qNc_ptr, qNc_vptr, qNc_fn, qNot_bool, qExt_tup, qCallV_fn, qLss_int, qLeq_int, qGtr_int, qGeq_int, qEql_int, qNeq_int, qAdd_int, qSub_int, qMul_int, qConvI_int, qLenL_sl, qLenL_hsl, qLenS_str, foldO, min2_int, max2_int, qSame_refl, Nat.zero_add, List.getElem?_cons_zero, List.getElem?_cons_succ, List.nil_append, List.cons_append, List.append_nil, one_bool, one_int, one_str, one_nilp, one_ptr, one_sl, one_hsl, one_map, one_fn, List.length_cons, List.length_nil, List.set_cons_zero, List.set_cons_succ, Nat.reduceLT, Nat.reduceAdd, l1]
  refine loop_inv (fun m fr H => ∃ (i : Nat) (rest : List Nd) (A : Nat) (x5 x9 x19 : AV), m = rest.length ∧ l.drop i = rest ∧ i + rest.length = l.length ∧ A + cnts rest = cnts l ∧
    fr = [.sl rows tk, .int .i64 0, .int .i64 (A : Int), x5, .sl rows tk, .int .i64 (l.length : Int), .int .i64 (i : Int), x9, x19] ∧ IsFn H) ?_ (m := l.length) ?_
  · rintro m fr H k ⟨i, rest, A, x5, x9, x19, rfl, hd, hi, hA, rfl, hfn⟩ hk
    cases rest with
    | nil =>
      have h' : ¬ (i : Int) < (l.length : Int) := by simp at hi; omega
      simp only [cnts, Nat.add_zero] at hA
      subst hA
      simp -implicitDefEqProofs only [l40_5, r40_3, r40_9, opn_z, opn_s, sel_z, sel_s, qCd_eq, qIf_true, qIf_false, qFn_eq, qBl_eq, qO_some, qRes_val, qHp_some, qPick_true, qPick_false, qG_tt, qG_ff, qG_tf, qG_ft, cellsK_some, qLd_vptr, qLdA_vptr, qFa_ptr, qFa_vptr, qNc_ptr, qNc_vptr, qNc_fn, qNot_bool, qExt_tup, qCallV_fn, qLss_int, qLeq_int, qGtr_int, qGeq_int, qEql_int, qNeq_int, qAdd_int, qSub_int, qMul_int, qConvI_int, qLenL_sl, qLenL_hsl, qLenS_str, foldO, min2_int, max2_int, qSame_refl, Nat.zero_add, List.getElem?_cons_zero, List.getElem?_cons_succ, List.nil_append, List.cons_append, List.append_nil, one_bool, one_int, one_str, one_nilp, one_ptr, one_sl, one_hsl, one_map, one_fn, List.length_cons, List.length_nil, List.set_cons_zero, List.set_cons_succ, Nat.reduceLT, Nat.reduceAdd, h', decide_false]
      rfl
    | cons n rest =>
      obtain ⟨d1, d2, d3⟩ := drop_cons hd
      have h' : (i : Int) < (l.length : Int) := by omega
      obtain ⟨row, e1, e2⟩ := a1.get d1
      have hmem : n ∈ l := List.mem_of_getElem? d1
      obtain ⟨kind, what, rws, t, f0, f8, f9, f1, f2⟩ := e2.parts
      obtain ⟨r1, r2⟩ := e2.ten
      have htm := tots_mem n hmem
      have htk := tot_kids n
      have ix := fun k => qIa_rows (tk := tk) e1 r1 k
      have lv0 : ∀ (H : AH) (k : AV → Prop), qLdA 10 (.vptr row 0) H k = k (.agg row) := fun H k => by rw [qLdA_vptr, slice_whole row 10 r1, qO_some]
      obtain ⟨b, Hx, H1, x1, x2, x3, x4, x5, x6⟩ := boxK (Hs := H) (.refl _) z61 row (n := 10) rfl r1 r2
      haveI := x5.fn
      have hc := ih n hmem rws t f1 (by omega) H1
      have v0 := fun k => ld1 x3 0 _ f0 k
      have v8 := fun k => ld1 x3 8 _ f8 k
      have v9 := fun k => ld1 x3 9 _ f9 k
      have hcl := cnts_le l
      simp only [cnts] at hA
      have hw := wrap_up i (by omega)
      have hwA := wrap_up A (by omega)
      have fin : ∀ (B : Nat), B = A + (if kind = 3 ∧ what = sLATE then 1 else 0) → ∀ (y19 : AV), r40_7 EP (r40_8 k) [.sl rows tk, .int .i64 0, .int .i64 (B : Int), .ptr b 0, .sl rows tk, .int .i64 (l.length : Int), .int .i64 (i : Int), .bool true, y19] H1 := by
        intro B hB y19
        have hw2 : IntKind.i64.wrap ((B : Int) + (cnts (kidsOf n) : Int)) = ((B + cnts (kidsOf n) : Nat) : Int) := by rw [i64_in' (by omega)]; omega
        simp -implicitDefEqProofs only [r40_7, r40_8, opn_z, opn_s, sel_z, sel_s, qCd_eq, qIf_true, qIf_false, qFn_eq, qBl_eq, qO_some, qRes_val, qHp_some, qPick_true, qPick_false, qG_tt, qG_ff, qG_tf, qG_ft, cellsK_some, qLd_vptr, qLdA_vptr, qFa_ptr, qFa_vptr, qNc_ptr, qNc_vptr, qNc_fn, qNot_bool, qExt_tup, qCallV_fn, qLss_int, qLeq_int, qGtr_int, qGeq_int, qEql_int, qNeq_int, qAdd_int, qSub_int, qMul_int, qConvI_int, qLenL_sl, qLenL_hsl, qLenS_str, foldO, min2_int, max2_int, qSame_refl, Nat.zero_add, List.getElem?_cons_zero, List.getElem?_cons_succ, List.nil_append, List.cons_append, List.append_nil, one_bool, one_int, one_str, one_nilp, one_ptr, one_sl, one_hsl, one_map, one_fn, List.length_cons, List.length_nil, List.set_cons_zero, List.set_cons_succ, Nat.reduceLT, Nat.reduceAdd, v9, hc, hw2, hw]
        exact hk rest.length _ _ (by simp) ⟨i + 1, rest, _, _, _, _, rfl, d2, by simp at hi; omega, by omega, rfl, inferInstance⟩
      by_cases k3 : kind = 3
      · by_cases kw : what = sLATE
        · have b3 : (kind == 3) = true := by simp [k3]
          have hdw : decide (what = [68, 69, 65, 68, 76, 73, 78, 69]) = true := decide_eq_true kw
          simp -implicitDefEqProofs only [l40_5, r40_3, r40_4, r40_5, r40_6, opn_z, opn_s, sel_z, sel_s, qCd_eq, qIf_true, qIf_false, qFn_eq, qBl_eq, qO_some, qRes_val, qHp_some, qPick_true, qPick_false, qG_tt, qG_ff, qG_tf, qG_ft, cellsK_some, qLd_vptr, qLdA_vptr, qFa_ptr, qFa_vptr, qNc_ptr, qNc_vptr, qNc_fn, qNot_bool, qExt_tup, qCallV_fn, qLss_int, qLeq_int, qGtr_int, qGeq_int, qEql_int, qNeq_int, qAdd_int, qSub_int, qMul_int, qConvI_int, qLenL_sl, qLenL_hsl, qLenS_str, foldO, min2_int, max2_int, qSame_refl, Nat.zero_add, List.getElem?_cons_zero, List.getElem?_cons_succ, List.nil_append, List.cons_append, List.append_nil, one_bool, one_int, one_str, one_nilp, one_ptr, one_sl, one_hsl, one_map, one_fn, List.length_cons, List.length_nil, List.set_cons_zero, List.set_cons_succ, Nat.reduceLT, Nat.reduceAdd, h', decide_true, ix, lv0, x1, x2, v0, v8, b3, qEql_str, hdw, hwA]
          exact fin (A + 1) (by rw [if_pos ⟨k3, kw⟩]) _
        · have b3 : (kind == 3) = true := by simp [k3]
          have hdw : decide (what = [68, 69, 65, 68, 76, 73, 78, 69]) = false := decide_eq_false kw
          simp -implicitDefEqProofs only [l40_5, r40_3, r40_4, r40_5, opn_z, opn_s, sel_z, sel_s, qCd_eq, qIf_true, qIf_false, qFn_eq, qBl_eq, qO_some, qRes_val, qHp_some, qPick_true, qPick_false, qG_tt, qG_ff, qG_tf, qG_ft, cellsK_some, qLd_vptr, qLdA_vptr, qFa_ptr, qFa_vptr, qNc_ptr, qNc_vptr, qNc_fn, qNot_bool, qExt_tup, qCallV_fn, qLss_int, qLeq_int, qGtr_int, qGeq_int, qEql_int, qNeq_int, qAdd_int, qSub_int, qMul_int, qConvI_int, qLenL_sl, qLenL_hsl, qLenS_str, foldO, min2_int, max2_int, qSame_refl, Nat.zero_add, List.getElem?_cons_zero, List.getElem?_cons_succ, List.nil_append, List.cons_append, List.append_nil, one_bool, one_int, one_str, one_nilp, one_ptr, one_sl, one_hsl, one_map, one_fn, List.length_cons, List.length_nil, List.set_cons_zero, List.set_cons_succ, Nat.reduceLT, Nat.reduceAdd, h', decide_true, ix, lv0, x1, x2, v0, v8, b3, qEql_str, hdw]
          exact fin A (by rw [if_neg (fun h => kw h.2)]; rfl) _
      · have b3 : (kind == 3) = false := by simp [k3]
        simp -implicitDefEqProofs only [l40_5, r40_3, r40_4, r40_5, opn_z, opn_s, sel_z, sel_s, qCd_eq, qIf_true, qIf_false, qFn_eq, qBl_eq, qO_some, qRes_val, qHp_some, qPick_true, qPick_false, qG_tt, qG_ff, qG_tf, qG_ft, cellsK_some, qLd_vptr, qLdA_vptr, qFa_ptr, qFa_vptr, qNc_ptr, qNc_vptr, qNc_fn, qNot_bool, qExt_tup, qCallV_fn, qLss_int, qLeq_int, qGtr_int, qGeq_int, qEql_int, qNeq_int, qAdd_int, qSub_int, qMul_int, qConvI_int, qLenL_sl, qLenL_hsl, qLenS_str, foldO, min2_int, max2_int, qSame_refl, Nat.zero_add, List.getElem?_cons_zero, List.getElem?_cons_succ, List.nil_append, List.cons_append, List.append_nil, one_bool, one_int, one_str, one_nilp, one_ptr, one_sl, one_hsl, one_map, one_fn, List.length_cons, List.length_nil, List.set_cons_zero, List.set_cons_succ, Nat.reduceLT, Nat.reduceAdd, h', decide_true, ix, lv0, x1, x2, v0, b3]
        exact fin A (by rw [if_neg (fun h => k3 h.1)]; rfl) _
  · exact ⟨0, l, 0, _, _, _, rfl, rfl, by omega, by omega, rfl, inferInstance⟩

/-! ### the document's nodes as the program's -/
def SlOk (l : List Nd) (v : AV) : Prop := ∃ rows tk, v = .sl rows tk ∧ ENs l rows

theorem EN.all {n : Nd} {row : List AV} (h : EN n row) : ∃ kind key tn w a b c d what rws t, row = [.int .i64 kind, .str key, .str tn, .str w, a, b, c, d, .str what, .sl rws t] ∧ ENs (kidsOf n) rws ∧ allOne [a, b, c, d] = true ∧
    ∀ rws' t', ENs (kidsOf n) rws' → EN n [.int .i64 kind, .str key, .str tn, .str w, a, b, c, d, .str what, .sl rws' t'] := by
  cases n
  obtain ⟨a, b, c, d, t, rows, h1, rfl, h2⟩ := h
  exact ⟨_, _, _, _, a, b, c, d, _, _, _, rfl, h2, h1.ones, fun rws' t' h => ⟨a, b, c, d, t', rws', h1, rfl, h⟩⟩

theorem SlOk.of {l : List Nd} {rows : List (List AV)} {tk : Tk} (h : ENs l rows) : (AV.sl rows tk).kill.free = true ∧ SlOk l (AV.sl rows tk).kill := by
  obtain ⟨b1, b2⟩ := ENs.kill _ _ h
  simp only [AV.kill]
  exact ⟨by rw [Tk.kill_free, b2], ⟨_, _, rfl, b1⟩⟩

theorem ep43 (l : List Nd) : ∀ (rows : List (List AV)) (tk : Tk), ENs l rows → tots l ≤ 100000000000 → ∃ v, SlOk l v ∧ ∀ H, EP 43 [.sl rows tk] H = some (.val v H) := by
  refine Nd.lists (P := fun l => ∀ (rows : List (List AV)) (tk : Tk), ENs l rows → tots l ≤ 100000000000 → ∃ v, SlOk l v ∧ ∀ H, EP 43 [.sl rows tk] H = some (.val v H)) (fun l ih => ?_) l
  intro rows tk hE hl
  obtain ⟨a1, a2⟩ := ENs.kill _ _ hE
  refine pu_form_ex e43 xf43 rfl (arg_free tk hE) ?_
  simp only [AV.kills, AV.kill]
  generalize AV.killss rows = rows at a1
  generalize tk.kill = tk
  have l1 := a1.len
  have ll := tots_len l
  simp -implicitDefEqProofs only [c43, r43_0, r43_1, r43_2, opn_z, opn_s, sel_z, sel_s, qCd_eq, qIf_true, qIf_false, qFn_eq, qBl_eq, qO_some, qRes_val, qHp_some, qPick_true, qPick_false, qG_tt, qG_ff, qG_tf, qG_ft, cellsK_some, qLd_vptr, qLdA_vptr, qFa_ptr, qFa_vptr, qNc_ptr, qNc_vptr, qNc_fn, qNot_bool, qExt_tup, qCallV_fn, qLss_int, qLeq_int, qGtr_int, qGeq_int, qEql_int, qNeq_int, qAdd_int, qSub_int, qMul_int, qConvI_int, qLenL_sl, qLenL_hsl, qLenS_str, foldO, min2_int, max2_int, qSame_refl, Nat.zero_add, List.getElem?_cons_zero, List.getElem?_cons_succ, List.nil_append, List.cons_append, List.append_nil, one_bool, one_int, one_str, one_nilp, one_ptr, one_sl, one_hsl, one_map, one_fn, List.length_cons, List.length_nil, List.set_cons_zero, List.set_cons_succ, Nat.reduceLT, Nat.reduceAdd]
  refine loop_inv (fun m fr H => ∃ (i : Nat) (rest : List Nd) (v : AV) (rs : List (List AV)) (x8 : AV), m = rest.length ∧ l.drop i = rest ∧ i + rest.length = l.length ∧ ENs (l.take i) rs ∧
    fr = [.sl rows tk, .sl [] .nil, v, .int .i64 (i : Int), x8] ∧ IsFn H ∧ Ow H v rs) ?_ (m := l.length) ?_
  · rintro m fr H k ⟨i, rest, v, rs, x8, rfl, hd, hi, hA, rfl, hfn, ow⟩ hk
    cases rest with
    | nil =>
      have h' : ¬ (i : Int) < (l.length : Int) := by simp at hi; omega
      rw [List.take_of_length_le (by simp at hi; omega)] at hA
      obtain ⟨tkv, rfl⟩ := ow.sl
      simp -implicitDefEqProofs only [l43_4, r43_3, r43_6, opn_z, opn_s, sel_z, sel_s, qCd_eq, qIf_true, qIf_false, qFn_eq, qBl_eq, qO_some, qRes_val, qHp_some, qPick_true, qPick_false, qG_tt, qG_ff, qG_tf, qG_ft, cellsK_some, qLd_vptr, qLdA_vptr, qFa_ptr, qFa_vptr, qNc_ptr, qNc_vptr, qNc_fn, qNot_bool, qExt_tup, qCallV_fn, qLss_int, qLeq_int, qGtr_int, qGeq_int, qEql_int, qNeq_int, qAdd_int, qSub_int, qMul_int, qConvI_int, qLenL_sl, qLenL_hsl, qLenS_str, foldO, min2_int, max2_int, qSame_refl, Nat.zero_add, List.getElem?_cons_zero, List.getElem?_cons_succ, List.nil_append, List.cons_append, List.append_nil, one_bool, one_int, one_str, one_nilp, one_ptr, one_sl, one_hsl, one_map, one_fn, List.length_cons, List.length_nil, List.set_cons_zero, List.set_cons_succ, Nat.reduceLT, Nat.reduceAdd, l1, h', decide_false]
      exact SlOk.of hA
    | cons n rest =>
      obtain ⟨d1, d2, d3⟩ := drop_cons hd
      have h' : (i : Int) < (l.length : Int) := by omega
      obtain ⟨row, e1, e2⟩ := a1.get d1
      have hmem : n ∈ l := List.mem_of_getElem? d1
      have r1 := e2.ten.1
      obtain ⟨kind, key, tn, w, a, b, c, d, what, rws, t, rfl, f1, f2, f3⟩ := e2.all
      have htm := tots_mem n hmem
      have htk := tot_kids n
      obtain ⟨vk, ⟨rk, tkk, rfl, g1⟩, g2⟩ := ih n hmem rws t f1 (by omega)
      have ix := fun k => qIa_rows (tk := tk) e1 r1 k
      have hE2 := f3 rk tkk g1
      obtain ⟨r3, r4⟩ := hE2.ten
      have b1 : ∀ k : AV → Prop, qBld z61 [(0, 1, .int .i64 kind), (1, 1, .str key), (2, 2, .agg [.str tn, .str w]), (4, 4, .agg [a, b, c, d]), (8, 1, .str what), (9, 1, .sl rk tkk)] k =
          k (.agg [.int .i64 kind, .str key, .str tn, .str w, a, b, c, d, .str what, .sl rk tkk]) := fun k => by
        rw [qBld_eq]
        show qO (bif true && allOne [.int .i64 kind] then _ else _) _ = _
        show qO (bif allOne [a, b, c, d] then _ else _) _ = _
        rw [f2]; rfl
      have b2 := fun k => qRows1 z61 _ r3 r4 k
      have hrl := hA.len
      rw [List.length_take] at hrl
      obtain ⟨v', H', k1, k2, k3, k4⟩ := ow.app (n := 10) (b := 168) (tk' := .full) r3 (by decide) (by decide) (by rw [hrl]; unfold most; omega) hA.tens r4
      have hw := wrap_up i (by omega)
      have vA : ∀ (o n : Nat) (r : List AV), slice? [.int .i64 kind, .str key, .str tn, .str w, a, b, c, d, .str what, .sl rws t] o n = some r → ∀ (H : AH) (k : AV → Prop), qLdA n (.vptr [.int .i64 kind, .str key, .str tn, .str w, a, b, c, d, .str what, .sl rws t] o) H k = k (.agg r) :=
        fun o n r h H k => by rw [qLdA_vptr, h, qO_some]
      have v2 := vA 2 2 [.str tn, .str w] rfl
      have v4 := vA 4 4 [a, b, c, d] rfl
      simp -implicitDefEqProofs only [l43_4, r43_3, r43_4, r43_5, opn_z, opn_s, sel_z, sel_s, qCd_eq, qIf_true, qIf_false, qFn_eq, qBl_eq, qO_some, qRes_val, qHp_some, qPick_true, qPick_false, qG_tt, qG_ff, qG_tf, qG_ft, cellsK_some, qLd_ptr, qLd_vptr, qLdA_ptr, qLdA_vptr, qFa_ptr, qFa_vptr, qNc_ptr, qNc_vptr, qNc_fn, qNot_bool, qExt_tup, qCallV_fn, qLss_int, qLeq_int, qGtr_int, qGeq_int, qEql_int, qNeq_int, qAdd_int, qSub_int, qMul_int, qConvI_int, qLenL_sl, qLenL_hsl, qLenS_str, foldO, min2_int, max2_int, qSame_refl, Nat.zero_add, List.getElem?_cons_zero, List.getElem?_cons_succ, List.nil_append, List.cons_append, List.append_nil, one_bool, one_int, one_str, one_nilp, one_ptr, one_sl, one_hsl, one_map, one_fn, List.length_cons, List.length_nil, List.set_cons_zero, List.set_cons_succ, Nat.reduceLT, Nat.reduceAdd, l1, h', decide_true, ix, v2, v4, g2, b1, b2, k1, hw]
      exact hk rest.length _ _ (by simp) ⟨i + 1, rest, v', rs ++ [[.int .i64 kind, .str key, .str tn, .str w, a, b, c, d, .str what, .sl rk tkk]], _, rfl, d2, by simp at hi; omega, by rw [take_succ' d1]; exact hA.append (.one hE2), rfl, k3.fn, k2⟩
  · exact ⟨0, l, _, [], _, rfl, rfl, by omega, rfl, rfl, inferInstance, .nil⟩

end T
set_option linter.unusedVariables false
set_option linter.unusedSimpArgs false
set_option maxRecDepth 10000
namespace T
open Go Go.Aes Go.Proofs

/-! ### what comes out is not too great -/
mutual
def nvok : Nd → Prop
  | .mk _ _ _ _ val _ kids => vok val ∧ nvoks kids
def nvoks : List Nd → Prop
  | [] => True
  | n :: l => nvok n ∧ nvoks l
end

theorem nullV_ok : vok nullV := ⟨by simp, by simp, trivial⟩

mutual
theorem nodeF_vok : ∀ (n : Nd) (w : Str) (path : List (Str × Int)), nvok n → tot n ≤ 100000000000 → vok (nodeF w path n).1
  | .mk kind key tn w0 val what kids, w, path, h, ht => by
    obtain ⟨h1, h2⟩ := h
    simp only [tot] at ht
    have hk := tots_len kids
    have a1 := itemsF_vok kids (cutE (cutE w 33) 93) path 0 h2 (by omega)
    have a2 := fieldsF_vok kids path h2 (by omega)
    simp only [nodeF]
    split
    · exact h1
    · split
      · exact nullV_ok
      · split
        · split
          · exact ⟨by simp, by rw [a1.2]; omega, a1.1⟩
          · exact nullV_ok
        · split
          · split
            · exact ⟨by rw [List.length_map]; omega, by rw [a2.2]; omega, a2.1⟩
            · exact nullV_ok
          · exact nullV_ok
theorem itemsF_vok : ∀ (l : List Nd) (w : Str) (path : List (Str × Int)) (i : Nat), nvoks l → tots l ≤ 100000000000 → voks (itemsF w path i l).1 ∧ (itemsF w path i l).1.length = l.length
  | [], w, path, i, h, ht => ⟨trivial, rfl⟩
  | n :: l, w, path, i, h, ht => by
    simp only [tots] at ht
    have a1 := nodeF_vok n w (path ++ [([], (i : Int))]) h.1 (by omega)
    have a2 := itemsF_vok l w path (i + 1) h.2 (by omega)
    exact ⟨⟨a1, a2.1⟩, by simp only [itemsF, List.length_cons, a2.2]⟩
theorem fieldsF_vok : ∀ (l : List Nd) (path : List (Str × Int)), nvoks l → tots l ≤ 100000000000 → voks (fieldsF path l).1 ∧ (fieldsF path l).1.length = l.length
  | [], path, h, ht => ⟨trivial, rfl⟩
  | n :: l, path, h, ht => by
    simp only [tots] at ht
    have a1 := nodeF_vok n n.w (path ++ [(n.key, 0)]) h.1 (by omega)
    have a2 := fieldsF_vok l path h.2 (by omega)
    exact ⟨⟨a1, a2.1⟩, by simp only [fieldsF, List.length_cons, a2.2]⟩
end

mutual
theorem nodeF_fok : ∀ (n : Nd) (w : Str) (path : List (Str × Int)), ∀ f ∈ (nodeF w path n).2.2, f.path.length ≤ path.length + tot n
  | .mk kind key tn w0 val what kids, w, path => by
    have a1 := itemsF_fok kids (cutE (cutE w 33) 93) path 0
    have a2 := fieldsF_fok kids path
    intro f hf
    simp only [tot]
    simp only [nodeF] at hf
    split at hf
    · simp at hf
    · split at hf
      · simp at hf; subst hf; simp
      · split at hf
        · have : f ∈ (itemsF (cutE (cutE w 33) 93) path 0 kids).2.2 := by split at hf <;> exact hf
          have := a1 f this; omega
        · split at hf
          · have : f ∈ (fieldsF path kids).2.2 := by split at hf <;> exact hf
            have := a2 f this; omega
          · simp only [] at hf
            split at hf
            · simp at hf; subst hf; simp
            · simp at hf
theorem itemsF_fok : ∀ (l : List Nd) (w : Str) (path : List (Str × Int)) (i : Nat), ∀ f ∈ (itemsF w path i l).2.2, f.path.length ≤ path.length + 1 + tots l
  | [], w, path, i => by intro f hf; simp [itemsF] at hf
  | n :: l, w, path, i => by
    have a1 := nodeF_fok n w (path ++ [([], (i : Int))])
    have a2 := itemsF_fok l w path (i + 1)
    intro f hf
    simp only [itemsF, List.mem_append] at hf
    simp only [tots]
    rcases hf with hf | hf
    · have := a1 f hf; simp at this; omega
    · have := a2 f hf; omega
theorem fieldsF_fok : ∀ (l : List Nd) (path : List (Str × Int)), ∀ f ∈ (fieldsF path l).2.2, f.path.length ≤ path.length + 1 + tots l
  | [], path => by intro f hf; simp [fieldsF] at hf
  | n :: l, path => by
    have a1 := nodeF_fok n n.w (path ++ [(n.key, 0)])
    have a2 := fieldsF_fok l path
    intro f hf
    simp only [fieldsF, List.mem_append] at hf
    simp only [tots]
    rcases hf with hf | hf
    · have := a1 f hf; simp at this; omega
    · have := a2 f hf; omega
end

theorem finF_ok (l : List Nd) (h : nvoks l) (ht : 1 + tots l ≤ 100000000000) : vok (finF l).1 ∧ fok (finF l).2 := by
  have hk := tots_len l
  obtain ⟨a1, a2⟩ := fieldsF_vok l [] h (by omega)
  have a3 := fieldsF_len l []
  refine ⟨?_, by simp only [finF]; omega, fun f hf => ?_⟩
  · simp only [finF]
    split
    · exact ⟨by rw [List.length_map]; omega, by rw [a2]; omega, a1⟩
    · exact nullV_ok
  · have := fieldsF_fok l [] f hf
    simp at this; omega

/-- the law's end: both sides the same -/
theorem both_end {l : List Nd} {v1 v2 : AV} (h1 : FinOk l v1) (h2 : FinOk l v2) (hn : nvoks l) (ht : 1 + tots l ≤ 100000000000) : ∃ r f t r' f' t', v1 = .tup [.agg r, .sl f t] ∧ v2 = .tup [.agg r', .sl f' t'] ∧
    r.length = 4 ∧ allOne r = true ∧ r'.length = 4 ∧ allOne r' = true ∧ (∀ H, EP 38 [.agg r, .agg r'] H = some (.val (.bool true) H)) ∧ (∀ H, EP 39 [.sl f t, .sl f' t'] H = some (.val (.bool true) H)) := by
  obtain ⟨r, f, t, rfl, a1, a2⟩ := h1
  obtain ⟨r', f', t', rfl, b1, b2⟩ := h2
  obtain ⟨o1, o2⟩ := finF_ok l hn ht
  exact ⟨r, f, t, r', f', t', rfl, rfl, a1.four, a1.ones, b1.four, b1.ones, fun H => ep38 _ r r' a1 b1 o1 H, fun H => ep39 a2 b2 o2 t t' H⟩

/-! ### digits -/
def digF (v : Nat) : Str := if h : v < 10 then [UInt8.ofNat (48 + v)] else digF (v / 10) ++ [UInt8.ofNat (48 + v % 10)]
termination_by v
decreasing_by omega

theorem digF_len (v : Nat) : 1 ≤ (digF v).length ∧ (digF v).length ≤ v + 1 := by
  induction v using Nat.strongRecOn with
  | ind v ih =>
    unfold digF
    split
    · simp
    · have := ih (v / 10) (by omega)
      simp; omega

theorem slcS_both (s : Str) (a b : Nat) (hab : a ≤ b) (h : b ≤ s.length) (k : AV → Prop) : qSlc Try.t9.desc 0 (.str s) (some (.int .i64 (a : Int))) (some (.int .i64 (b : Int))) none k = k (.str ((s.take b).drop a)) := by
  have h1 : bnd (some (.int .i64 (b : Int))) s.length s.length = some b := by
    have : b.ble s.length = true := by simpa using h
    simp [bnd, asN, this]
  have h2 : bnd (some (.int .i64 (a : Int))) 0 b = some a := by
    have : a.ble b = true := by simpa using hab
    simp [bnd, asN, this]
  have : sliceD Try.t9.desc 0 (.str s) (some (.int .i64 (a : Int))) (some (.int .i64 (b : Int))) none = some (.str ((s.take b).drop a)) := by
    show (match bnd (some (.int .i64 (b : Int))) s.length s.length with
      | none => none
      | some h => match bnd (some (.int .i64 (a : Int))) 0 h with
        | none => none
        | some l => some (AV.str ((s.take h).drop l))) = _
    rw [h1]
    simp only [h2]
  unfold qSlc
  rw [this, qO_some]

theorem one_dig (d : Nat) (h : d < 10) : ((([48, 49, 50, 51, 52, 53, 54, 55, 56, 57] : Str).take (d + 1)).drop d) = [UInt8.ofNat (48 + d)] := by
  have : d = 0 ∨ d = 1 ∨ d = 2 ∨ d = 3 ∨ d = 4 ∨ d = 5 ∨ d = 6 ∨ d = 7 ∨ d = 8 ∨ d = 9 := by omega
  rcases this with rfl | rfl | rfl | rfl | rfl | rfl | rfl | rfl | rfl | rfl <;> rfl

theorem ep58 (v : Nat) (hv : v < 100000000000) (H : AH) : EP 58 [.int .i64 (v : Int)] H = some (.val (.str (digF v)) H) := by
  induction v using Nat.strongRecOn generalizing H with
  | ind v ih =>
    refine pu_form e58 xf58 rfl rfl rfl ?_ H
    simp only [AV.kills, AV.kill]
    have h1 : ¬ (v : Int) ≤ -10 := by omega
    have h2 : ¬ (v : Int) < 0 := by omega
    have hw := wrap_up v (by omega)
    by_cases h : v < 10
    · have h3 : (v : Int) < 10 := by omega
      have hs := fun k => slcS_both [48, 49, 50, 51, 52, 53, 54, 55, 56, 57] v (v + 1) (by omega) (by simp; omega) k
      rw [one_dig v h] at hs
      simp -implicitDefEqProofs only [c58, r58_0, r58_1, r58_4, r58_6, r58_7, opn_z, opn_s, sel_z, sel_s, qCd_eq, qIf_true, qIf_false, qFn_eq, qBl_eq, qO_some, qRes_val, qHp_some, qPick_true, qPick_false, qG_tt, qG_ff, qG_tf, qG_ft, cellsK_some, qLd_vptr, qLdA_vptr, qFa_ptr, qFa_vptr, qNc_ptr, qNc_vptr, qNc_fn, qNot_bool, qExt_tup, qCallV_fn, qLss_int, qLeq_int, qGtr_int, qGeq_int, qEql_int, qNeq_int, qAdd_int, qSub_int, qMul_int, qConvI_int, qLenL_sl, qLenL_hsl, qLenS_str, foldO, min2_int, max2_int, qSame_refl, Nat.zero_add, List.getElem?_cons_zero, List.getElem?_cons_succ, List.nil_append, List.cons_append, List.append_nil, one_bool, one_int, one_str, one_nilp, one_ptr, one_sl, one_hsl, one_map, one_fn, List.length_cons, List.length_nil, List.set_cons_zero, List.set_cons_succ, Nat.reduceLT, Nat.reduceAdd, h1, h2, h3, decide_true, decide_false, hw, hs]
      unfold digF
      rw [dif_pos h]; rfl
    · have h3 : ¬ (v : Int) < 10 := by omega
      have hq : ∀ k : AV → Prop, qQuo X 3 (.int .i64 (v : Int)) (.int .i64 10) k = k (.int .i64 ((v / 10 : Nat) : Int)) := fun k => by
        have he : (v : Int).tdiv 10 = ((v / 10 : Nat) : Int) := by rw [Int.tdiv_eq_ediv_of_nonneg (by omega)]; omega
        rw [qQuo_int (R := Prop) X 3 .i64 (v : Int) 10 k (by decide), he, i64_in' (by omega)]
      have hr : ∀ k : AV → Prop, qRem X 3 (.int .i64 (v : Int)) (.int .i64 10) k = k (.int .i64 ((v % 10 : Nat) : Int)) := fun k => by
        have he : (v : Int).tmod 10 = ((v % 10 : Nat) : Int) := by rw [Int.tmod_eq_emod_of_nonneg (by omega)]; omega
        rw [qRem_int (R := Prop) X 3 .i64 (v : Int) 10 k (by decide), he]
      have hw2 := wrap_up (v % 10) (by omega)
      have hs := fun k => slcS_both [48, 49, 50, 51, 52, 53, 54, 55, 56, 57] (v % 10) (v % 10 + 1) (by omega) (by simp; omega) k
      rw [one_dig (v % 10) (by omega)] at hs
      have hc := ih (v / 10) (by omega) (by omega) H0
      have hd := digF_len (v / 10)
      have ha := fun k => qAdd_str 9 (digF (v / 10)) [UInt8.ofNat (48 + v % 10)] (by simp; unfold most; omega) k
      simp -implicitDefEqProofs only [c58, r58_0, r58_1, r58_4, r58_6, r58_8, opn_z, opn_s, sel_z, sel_s, qCd_eq, qIf_true, qIf_false, qFn_eq, qBl_eq, qO_some, qRes_val, qHp_some, qPick_true, qPick_false, qG_tt, qG_ff, qG_tf, qG_ft, cellsK_some, qLd_vptr, qLdA_vptr, qFa_ptr, qFa_vptr, qNc_ptr, qNc_vptr, qNc_fn, qNot_bool, qExt_tup, qCallV_fn, qLss_int, qLeq_int, qGtr_int, qGeq_int, qEql_int, qNeq_int, qAdd_int, qSub_int, qMul_int, qConvI_int, qLenL_sl, qLenL_hsl, qLenS_str, foldO, min2_int, max2_int, qSame_refl, Nat.zero_add, List.getElem?_cons_zero, List.getElem?_cons_succ, List.nil_append, List.cons_append, List.append_nil, one_bool, one_int, one_str, one_nilp, one_ptr, one_sl, one_hsl, one_map, one_fn, List.length_cons, List.length_nil, List.set_cons_zero, List.set_cons_succ, Nat.reduceLT, Nat.reduceAdd, h1, h2, h3, decide_true, decide_false, hq, hr, hw2, hs, hc, ha]
      conv => rhs; unfold digF
      rw [dif_neg h]; rfl

theorem ep54 (v : Nat) (hv : v < 100000000000) (H : AH) : EP 54 [.int .i64 (v : Int)] H = some (.val (.str (digF v)) H) := by
  refine pu_form e54 xf54 rfl rfl rfl ?_ H
  have hc := ep58 v hv H0
  simp -implicitDefEqProofs only [AV.kills, AV.kill, c54, r54_0, r54_1, opn_z, opn_s, sel_z, sel_s, qCd_eq, qIf_true, qIf_false, qFn_eq, qBl_eq, qO_some, qRes_val, qHp_some, qPick_true, qPick_false, qG_tt, qG_ff, qG_tf, qG_ft, cellsK_some, qLd_vptr, qLdA_vptr, qFa_ptr, qFa_vptr, qNc_ptr, qNc_vptr, qNc_fn, qNot_bool, qExt_tup, qCallV_fn, qLss_int, qLeq_int, qGtr_int, qGeq_int, qEql_int, qNeq_int, qAdd_int, qSub_int, qMul_int, qConvI_int, qLenL_sl, qLenL_hsl, qLenS_str, foldO, min2_int, max2_int, qSame_refl, Nat.zero_add, List.getElem?_cons_zero, List.getElem?_cons_succ, List.nil_append, List.cons_append, List.append_nil, one_bool, one_int, one_str, one_nilp, one_ptr, one_sl, one_hsl, one_map, one_fn, List.length_cons, List.length_nil, List.set_cons_zero, List.set_cons_succ, Nat.reduceLT, Nat.reduceAdd, hc]

end T
set_option linter.unusedVariables false
set_option linter.unusedSimpArgs false
set_option maxRecDepth 10000
namespace T
open Go Go.Aes Go.Proofs

theorem intRows_kill (zs : List Int) : AV.killss (intRows .i64 zs) = intRows .i64 zs := by
  rw [killss_map]; simp [intRows, AV.kill]
theorem intRows_free (zs : List Int) : AV.freess (intRows .i64 zs) = true := by
  rw [freess_all]
  intro r hr a ha
  obtain ⟨y, _, rfl⟩ := List.mem_map.1 hr
  simp at ha; subst ha; rfl
theorem intRows_len' (zs : List Int) : (intRows .i64 zs).length = zs.length := by simp [intRows]
theorem qIa_ints' {zs : List Int} {tk : Tk} {i : Nat} {z : Int} (h : zs[i]? = some z) (k : AV → Prop) : qIa 1 (.sl (intRows .i64 zs) tk) (.int .i64 (i : Int)) k = k (.vptr [.int .i64 z] 0) :=
  qIa_sl (R := Prop) .i64 k 1 (intRows .i64 zs) tk i [.int .i64 z] (by simp [intRows, h]) rfl
theorem qRem_nat (t a b : Nat) (hb : b ≠ 0) (k : AV → Prop) : qRem X t (.int .i64 (a : Int)) (.int .i64 (b : Int)) k = k (.int .i64 ((a % b : Nat) : Int)) := by
  rw [qRem_int (R := Prop) X t .i64 (a : Int) (b : Int) k (by omega), Int.tmod_eq_emod_of_nonneg (by omega), Int.natCast_emod]
theorem qQuo_nat (t a b : Nat) (hb : b ≠ 0) (ha : a < 9223372036854775808) (k : AV → Prop) : qQuo X t (.int .i64 (a : Int)) (.int .i64 (b : Int)) k = k (.int .i64 ((a / b : Nat) : Int)) := by
  have h1 : (a : Int).tdiv (b : Int) = ((a / b : Nat) : Int) := by rw [Int.tdiv_eq_ediv_of_nonneg (by omega), Int.natCast_ediv]
  have h2 := Nat.div_le_self a b
  rw [qQuo_int (R := Prop) X t .i64 (a : Int) (b : Int) k (by omega), h1]
  generalize a / b = q at h2 ⊢
  rw [i64_in' (by omega)]

def wrA : AV := .agg [.str [], .str [33], .str [93], .str [93, 33], .str [33, 93], .str [33, 93, 33], .str [], .str [33]]
theorem wr_at (j : Nat) (h : j < 8) : ∃ w : Str, w.length ≤ 3 ∧ indexOf X 108 wrA (.int .i64 (j : Int)) = some (.str w) := by
  have : j = 0 ∨ j = 1 ∨ j = 2 ∨ j = 3 ∨ j = 4 ∨ j = 5 ∨ j = 6 ∨ j = 7 := by omega
  rcases this with rfl | rfl | rfl | rfl | rfl | rfl | rfl | rfl
  · exact ⟨[], by simp, rfl⟩
  · exact ⟨[33], by simp, rfl⟩
  · exact ⟨[93], by simp, rfl⟩
  · exact ⟨[93, 33], by simp, rfl⟩
  · exact ⟨[33, 93], by simp, rfl⟩
  · exact ⟨[33, 93, 33], by simp, rfl⟩
  · exact ⟨[], by simp, rfl⟩
  · exact ⟨[33], by simp, rfl⟩
theorem wh_at (j : Nat) (h : j < 3) : ∃ w : Str, indexOf X 109 (.agg [.str [69, 82, 82, 79, 82], .str [84, 89, 80, 69], .str [68, 69, 65, 68, 76, 73, 78, 69]]) (.int .i64 (j : Int)) = some (.str w) := by
  have : j = 0 ∨ j = 1 ∨ j = 2 := by omega
  rcases this with rfl | rfl | rfl
  · exact ⟨_, rfl⟩
  · exact ⟨_, rfl⟩
  · exact ⟨_, rfl⟩

theorem woks_app : ∀ {a b : List Nd}, woks a → woks b → woks (a ++ b)
  | [], b, _, h => h
  | n :: a, b, ⟨h1, h2⟩, h => ⟨h1, woks_app h2 h⟩
theorem nvoks_app : ∀ {a b : List Nd}, nvoks a → nvoks b → nvoks (a ++ b)
  | [], b, _, h => h
  | n :: a, b, ⟨h1, h2⟩, h => ⟨h1, nvoks_app h2 h⟩
theorem tots_app : ∀ (a b : List Nd), tots (a ++ b) = tots a + tots b
  | [], b => by simp [tots]
  | n :: a, b => by simp [tots, tots_app a b]; omega

def MadeOk (d : Nat) : Prop := ∀ (zs : List Int) (tk : Tk) (a : Nat), zs.length ≤ 1000 → a ≤ zs.length →
  ∃ v, (∃ nds rows tk' a2, v = .tup [.sl rows tk', .int .i64 ((a2 : Nat) : Int)] ∧ ENs nds rows ∧ a ≤ a2 ∧ a2 ≤ zs.length ∧ woks nds ∧ nvoks nds ∧ tots nds ≤ 4 ^ (d + 2)) ∧
    ∀ H, EP 42 [.sl (intRows .i64 zs) tk, .int .i64 (a : Int), .int .i64 (d : Int)] H = some (.val v H)

set_option maxHeartbeats 1000000 in
theorem made_step (d : Nat) (hd : d ≤ 10) (ih : ∀ d', d = d' + 1 → MadeOk d') : MadeOk d := by
  intro zs tk a hz ha
  refine pu_form_ex e42 xf42 rfl (by simp only [AV.kills, AV.kill, AV.frees, Tk.kill_free, intRows_kill, intRows_free]; rfl) ?_
  simp only [AV.kills, AV.kill, intRows_kill]
  generalize tk.kill = tk
  have hp4 : 1 ≤ 4 ^ (d + 1) := Nat.one_le_pow _ _ (by decide)
  have hps : 4 ^ (d + 2) = 4 * 4 ^ (d + 1) := by rw [show d + 2 = (d + 1) + 1 by omega, Nat.pow_succ]; omega
  have hup : 4 ^ (d + 1) ≤ 4 ^ 11 := Nat.pow_le_pow_right (by decide) (by omega)
  have h11 : (4 : Nat) ^ 11 = 4194304 := by decide
  -- the end
  have fin : ∀ (nds : List Nd) (rows : List (List AV)) (tk' : Tk) (a2 : Nat), ENs nds rows → a ≤ a2 → a2 ≤ zs.length → woks nds → nvoks nds → tots nds ≤ 4 ^ (d + 2) →
      (AV.tup [.sl rows tk', .int .i64 (a2 : Int)]).kill.free = true ∧ ∃ nds rows0 tk0 a3, (AV.tup [.sl rows tk', .int .i64 (a2 : Int)]).kill = .tup [.sl rows0 tk0, .int .i64 ((a3 : Nat) : Int)] ∧ ENs nds rows0 ∧ a ≤ a3 ∧ a3 ≤ zs.length ∧ woks nds ∧ nvoks nds ∧ tots nds ≤ 4 ^ (d + 2) := by
    intro nds rows tk' a2 h1 h2 h3 h4 h5 h6
    obtain ⟨b1, b2⟩ := ENs.kill _ _ h1
    simp only [AV.kill, AV.kills]
    refine ⟨?_, ⟨nds, _, _, a2, rfl, b1, h2, h3, h4, h5, h6⟩⟩
    simp only [AV.free, AV.frees, b2]
    cases tk' <;> rfl
  have hln := intRows_len' zs
  rcases Nat.lt_or_ge a zs.length with h | h
  · have h' : ¬ (zs.length : Int) ≤ (a : Int) := by omega
    have ix := fun k => qIa_ints' (tk := tk) (List.getElem?_eq_getElem h) k
    obtain ⟨kk, hk1, hk2⟩ : ∃ kk : Nat, zs[a] % 4 = (kk : Int) ∧ kk < 4 := ⟨(zs[a] % 4).toNat, by omega, by omega⟩
    have hpl := ep23 zs[a] 4 (by decide) (by decide) H0
    rw [hk1] at hpl
    have hwa := wrap_up a (by omega)
    simp -implicitDefEqProofs only [c42, r42_0, r42_1, r42_2, r42_4, r42_5, r42_6, opn_z, opn_s, sel_z, sel_s, qCd_eq, qIf_true, qIf_false, qFn_eq, qBl_eq, qO_some, qRes_val, qHp_some, qPick_true, qPick_false, qG_tt, qG_ff, qG_tf, qG_ft, cellsK_some, qLd_vptr, qLdA_vptr, qFa_ptr, qFa_vptr, qNc_ptr, qNc_vptr, qNc_fn, qNot_bool, qExt_tup, qCallV_fn, qLss_int, qLeq_int, qGtr_int, qGeq_int, qEql_int, qNeq_int, qAdd_int, qSub_int, qMul_int, qConvI_int, qLenL_sl, qLenL_hsl, qLenS_str, foldO, min2_int, max2_int, qSame_refl, Nat.zero_add, List.getElem?_cons_zero, List.getElem?_cons_succ, List.nil_append, List.cons_append, List.append_nil, one_bool, one_int, one_str, one_nilp, one_ptr, one_sl, one_hsl, one_map, one_fn, List.length_cons, List.length_nil, List.set_cons_zero, List.set_cons_succ, Nat.reduceLT, Nat.reduceAdd, hln, h', decide_false, ix, hpl, hwa]
    refine loop_inv (fun m fr H => ∃ (i b : Nat) (v : AV) (rows : List (List AV)) (nds : List Nd) (x11 x12 x16 x33 x57 x58 x65 x73 x77 : AV), m = 4 - i ∧ i ≤ kk ∧ a < b ∧ b ≤ zs.length ∧
      fr = [.sl (intRows .i64 zs) tk, .int .i64 (b : Int), .int .i64 (d : Int), .sl [] .nil, .int .i64 0, v, .int .i64 (kk : Int), .int .i64 (i : Int), x11, x12, x16, x33, x57, x58, x65, x73, x77] ∧ IsFn H ∧ Ow H v rows ∧ ENs nds rows ∧ nds.length = i ∧ woks nds ∧ nvoks nds ∧
      tots nds ≤ i * (1 + 4 ^ (d + 1))) ?_ (m := 4) ?_
    · rintro m fr H k ⟨i, b, v, rows, nds, x11, x12, x16, x33, x57, x58, x65, x73, x77, rfl, hi, hab, hbz, rfl, hfn, ow, hE, hnl, hwo, hnv, htt⟩ hk
      have stop : ∀ (y33 : AV), r42_22 (fun fr H => (AV.tup [sel 3 fr, sel 4 fr]).kill.free = true ∧ ∃ nds rows0 tk0 a3, (AV.tup [sel 3 fr, sel 4 fr]).kill = .tup [.sl rows0 tk0, .int .i64 ((a3 : Nat) : Int)] ∧ ENs nds rows0 ∧ a ≤ a3 ∧ a3 ≤ zs.length ∧ woks nds ∧ nvoks nds ∧ tots nds ≤ 4 ^ (d + 2))
          [.sl (intRows .i64 zs) tk, .int .i64 (b : Int), .int .i64 (d : Int), .sl [] .nil, .int .i64 0, v, .int .i64 (kk : Int), .int .i64 (i : Int), x11, x12, x16, y33, x57, x58, x65, x73, x77] H := by
        intro y33
        obtain ⟨tkv, rfl⟩ := ow.sl
        simp -implicitDefEqProofs only [r42_22, opn_z, opn_s, sel_z, sel_s, qCd_eq, qIf_true, qIf_false, qFn_eq, qBl_eq, qO_some, qRes_val, qHp_some, qPick_true, qPick_false, qG_tt, qG_ff, qG_tf, qG_ft, cellsK_some, qLd_vptr, qLdA_vptr, qFa_ptr, qFa_vptr, qNc_ptr, qNc_vptr, qNc_fn, qNot_bool, qExt_tup, qCallV_fn, qLss_int, qLeq_int, qGtr_int, qGeq_int, qEql_int, qNeq_int, qAdd_int, qSub_int, qMul_int, qConvI_int, qLenL_sl, qLenL_hsl, qLenS_str, foldO, min2_int, max2_int, qSame_refl, Nat.zero_add, List.getElem?_cons_zero, List.getElem?_cons_succ, List.nil_append, List.cons_append, List.append_nil, one_bool, one_int, one_str, one_nilp, one_ptr, one_sl, one_hsl, one_map, one_fn, List.length_cons, List.length_nil, List.set_cons_zero, List.set_cons_succ, Nat.reduceLT, Nat.reduceAdd]
        refine fin nds rows tkv b hE (by omega) hbz hwo hnv ?_
        have : i * (1 + 4 ^ (d + 1)) ≤ 3 * (1 + 4 ^ (d + 1)) := Nat.mul_le_mul_right _ (by omega)
        omega
      by_cases c1 : i < kk
      · have c1' : (i : Int) < (kk : Int) := by omega
        by_cases c2 : b < zs.length
        · have c2' : (b : Int) < (zs.length : Int) := by omega
          have ixb := fun k => qIa_ints' (tk := tk) (List.getElem?_eq_getElem c2) k
          obtain ⟨vv, hv1, hv2⟩ : ∃ vv : Nat, zs[b] % 1048576 = (vv : Int) ∧ vv < 1048576 := ⟨(zs[b] % 1048576).toNat, by omega, by omega⟩
          have hpb := ep23 zs[b] 1048576 (by decide) (by decide) H
          rw [hv1] at hpb
          have hwb := wrap_up b (by omega)
          have hwi := wrap_up i (by omega)
          have m5 : ∀ k : AV → Prop, qRem X 3 (.int .i64 (vv : Int)) (.int .i64 5) k = k (.int .i64 ((vv % 5 : Nat) : Int)) := fun k => qRem_nat 3 vv 5 (by decide) k
          have q5 : ∀ k : AV → Prop, qQuo X 3 (.int .i64 (vv : Int)) (.int .i64 5) k = k (.int .i64 ((vv / 5 : Nat) : Int)) := fun k => qQuo_nat 3 vv 5 (by decide) (by omega) k
          have m8 : ∀ k : AV → Prop, qRem X 3 (.int .i64 ((vv / 5 : Nat) : Int)) (.int .i64 8) k = k (.int .i64 ((vv / 5 % 8 : Nat) : Int)) := fun k => qRem_nat 3 (vv / 5) 8 (by decide) k
          have w1 : IntKind.i64.wrap (1 + ((vv % 5 : Nat) : Int)) = ((vv % 5 + 1 : Nat) : Int) := by rw [i64_in' (by omega)]; omega
          obtain ⟨w, hw1, hw2⟩ := wr_at (vv / 5 % 8) (Nat.mod_lt _ (by decide))
          have b108 : ∀ k : AV → Prop, qBld z108 [(0, 1, .str []), (1, 1, .str [33]), (2, 1, .str [93]), (3, 1, .str [93, 33]), (4, 1, .str [33, 93]), (5, 1, .str [33, 93, 33]), (6, 1, .str []), (7, 1, .str [33])] k = k wrA := fun k => rfl
          have b54 : ∀ k : AV → Prop, qBld z54 [(0, 1, .str [84]), (1, 1, .str w)] k = k (.agg [.str [84], .str w]) := fun k => rfl
          have hdi := digF_len i
          have c54 := fun (H : AH) => ep54 i (by omega) H
          have ad : ∀ k : AV → Prop, qAdd X 9 (.str [107]) (.str (digF i)) k = k (.str (107 :: digF i)) := fun k => qAdd_str 9 [107] (digF i) (by simp; unfold most; omega) k
          obtain ⟨kind, hkind⟩ : ∃ kind : Int, kind = ((vv % 5 + 1 : Nat) : Int) := ⟨_, rfl⟩
          rw [← hkind] at w1
          have b101 : ∀ k : AV → Prop, qBld z101 [(0, 1, .int .i64 kind), (1, 1, .str (107 :: digF i)), (2, 2, .agg [.str [84], .str w])] k =
            k (.agg [.int .i64 kind, .str (107 :: digF i), .str [84], .str w, .int .i64 0, .str [], .sl [] .nil, .sl [] .nil, .str [], .sl [] .nil]) := fun k => rfl
          have gA := get_push_at (H := H) (.cells z101)
          have kp := fun k => qKeep_of gA k
          have st := fun k => qSt_whole (n := 10) gA (l := [.int .i64 kind, .str (107 :: digF i), .str [84], .str w, .int .i64 0, .str [], .sl [] .nil, .sl [] .nil, .str [], .sl [] .nil]) rfl rfl rfl k
          have gB := get_set_at gA (.cells [.int .i64 kind, .str (107 :: digF i), .str [84], .str w, .int .i64 0, .str [], .sl [] .nil, .sl [] .nil, .str [], .sl [] .nil])
          have eB := Kp_set (Hs := H) (Kp.push (.cells z101) _) gA (Nat.le_refl _) (some (.cells [.int .i64 kind, .str (107 :: digF i), .str [84], .str w, .int .i64 0, .str [], .sl [] .nil, .sl [] .nil, .str [], .sl [] .nil]))
          have hfB : IsFn ((H.push (.cells z101)).set H.nx (some (.cells [.int .i64 kind, .str (107 :: digF i), .str [84], .str w, .int .i64 0, .str [], .sl [] .nil, .sl [] .nil, .str [], .sl [] .nil]))) := inferInstance
          simp -implicitDefEqProofs only [l42_10, r42_7, r42_9, r42_10, r42_11, r42_12, opn_z, opn_s, sel_z, sel_s, qCd_eq, qIf_true, qIf_false, qFn_eq, qBl_eq, qO_some, qRes_val, qHp_some, qPick_true, qPick_false, qG_tt, qG_ff, qG_tf, qG_ft, cellsK_some, qLd_vptr, qLdA_vptr, qFa_ptr, qFa_vptr, qNc_ptr, qNc_vptr, qNc_fn, qNot_bool, qExt_tup, qCallV_fn, qLss_int, qLeq_int, qGtr_int, qGeq_int, qEql_int, qNeq_int, qAdd_int, qSub_int, qMul_int, qConvI_int, qLenL_sl, qLenL_hsl, qLenS_str, foldO, min2_int, max2_int, qSame_refl, Nat.zero_add, List.getElem?_cons_zero, List.getElem?_cons_succ, List.nil_append, List.cons_append, List.append_nil, one_bool, one_int, one_str, one_nilp, one_ptr, one_sl, one_hsl, one_map, one_fn, List.length_cons, List.length_nil, List.set_cons_zero, List.set_cons_succ, Nat.reduceLT, Nat.reduceAdd, hln, c1', c2', decide_true, ixb, hpb, hwb, m5, w1, b108, q5, m8, hw2, b54, qNew_i, wr_ptr, c54, kp, ad, b101, st]
          have lk := fun k => ld1 gB 0 _ rfl k
          clear st kp gA
          generalize (H.push (.cells z101)).set H.nx (some (.cells [.int .i64 kind, .str (107 :: digF i), .str [84], .str w, .int .i64 0, .str [], .sl [] .nil, .sl [] .nil, .str [], .sl [] .nil])) = H1 at gB eB hfB lk ⊢
          generalize (107 :: digF i : Str) = key at gB ⊢
          simp -implicitDefEqProofs only [lk, r42_13, opn_z, opn_s, sel_z, sel_s, qCd_eq, qIf_true, qIf_false, qFn_eq, qBl_eq, qO_some, qRes_val, qHp_some, qPick_true, qPick_false, qG_tt, qG_ff, qG_tf, qG_ft, cellsK_some, qLd_vptr, qLdA_vptr, qFa_ptr, qFa_vptr, qNc_ptr, qNc_vptr, qNc_fn, qNot_bool, qExt_tup, qCallV_fn, qLss_int, qLeq_int, qGtr_int, qGeq_int, qEql_int, qNeq_int, qAdd_int, qSub_int, qMul_int, qConvI_int, qLenL_sl, qLenL_hsl, qLenS_str, foldO, min2_int, max2_int, qSame_refl, Nat.zero_add, List.getElem?_cons_zero, List.getElem?_cons_succ, List.nil_append, List.cons_append, List.append_nil, one_bool, one_int, one_str, one_nilp, one_ptr, one_sl, one_hsl, one_map, one_fn, List.length_cons, List.length_nil, List.set_cons_zero, List.set_cons_succ, Nat.reduceLT, Nat.reduceAdd]
          suffices mid : ∀ (H2 : AH) (rowx : List AV) (nd : Nd) (b2 : Nat), IsFn H2 → Kp H H2 (fun _ => False) → H2.get H.nx = some (.cells rowx) → EN nd rowx → wok nd → nvok nd → tot nd ≤ 1 + 4 ^ (d + 1) → b < b2 → b2 ≤ zs.length → ∀ (y33 y57 y58 y65 y73 y77 : AV),
              r42_21 (r42_8 k) [.sl (intRows .i64 zs) tk, .int .i64 (b2 : Int), .int .i64 (d : Int), .sl [] .nil, .int .i64 0, v, .int .i64 (kk : Int), .int .i64 (i : Int), .int .i64 (vv : Int), .ptr H.nx 0, x16, y33, y57, y58, y65, y73, y77] H2 by
            have plain : ∀ (kn : Int), kn = kind → EN (.mk kn key [84] w zeroV [] []) [.int .i64 kind, .str key, .str [84], .str w, .int .i64 0, .str [], .sl [] .nil, .sl [] .nil, .str [], .sl [] .nil] := fun kn e => by
              subst e; exact ⟨_, _, _, _, _, [], EVzero, rfl, rfl⟩
            have zok : vok zeroV := ⟨by simp, by simp, trivial⟩
            have hkr : kind = 1 ∨ kind = 2 ∨ kind = 3 ∨ kind = 4 ∨ kind = 5 := by omega
            clear hkind w1 b101
            rcases hkr with rfl | rfl | rfl | rfl | rfl
            · -- a leaf
              have e1 : ((1 : Int) == 1) = true := rfl
              have m100 : ∀ k : AV → Prop, qRem X 3 (.int .i64 (vv : Int)) (.int .i64 100) k = k (.int .i64 ((vv % 100 : Nat) : Int)) := fun k => qRem_nat 3 vv 100 (by decide) k
              have c54' := ep54 (vv % 100) (by omega) H1
              have b58 : ∀ k : AV → Prop, qBld z58 [(0, 1, .int .i64 3), (1, 1, .str (digF (vv % 100)))] k = k (.agg [.int .i64 3, .str (digF (vv % 100)), .sl [] .nil, .sl [] .nil]) := fun k => rfl
              have s4 := fun k => qSt_gen (n := 4) (cs' := [.int .i64 1, .str key, .str [84], .str w, .int .i64 3, .str (digF (vv % 100)), .sl [] .nil, .sl [] .nil, .str [], .sl [] .nil]) gB 4 (.agg [.int .i64 3, .str (digF (vv % 100)), .sl [] .nil, .sl [] .nil]) rfl rfl rfl k
              have g4 := get_set_at gB (.cells [.int .i64 1, .str key, .str [84], .str w, .int .i64 3, .str (digF (vv % 100)), .sl [] .nil, .sl [] .nil, .str [], .sl [] .nil])
              simp -implicitDefEqProofs only [e1, r42_14, opn_z, opn_s, sel_z, sel_s, qCd_eq, qIf_true, qIf_false, qFn_eq, qBl_eq, qO_some, qRes_val, qHp_some, qPick_true, qPick_false, qG_tt, qG_ff, qG_tf, qG_ft, cellsK_some, qLd_vptr, qLdA_vptr, qFa_ptr, qFa_vptr, qNc_ptr, qNc_vptr, qNc_fn, qNot_bool, qExt_tup, qCallV_fn, qLss_int, qLeq_int, qGtr_int, qGeq_int, qEql_int, qNeq_int, qAdd_int, qSub_int, qMul_int, qConvI_int, qLenL_sl, qLenL_hsl, qLenS_str, foldO, min2_int, max2_int, qSame_refl, Nat.zero_add, List.getElem?_cons_zero, List.getElem?_cons_succ, List.nil_append, List.cons_append, List.append_nil, one_bool, one_int, one_str, one_nilp, one_ptr, one_sl, one_hsl, one_map, one_fn, List.length_cons, List.length_nil, List.set_cons_zero, List.set_cons_succ, Nat.reduceLT, Nat.reduceAdd, m100, c54', b58, s4]
              exact mid _ _ (.mk 1 key [84] w (.mk 3 (digF (vv % 100)) [] []) [] []) (b + 1) inferInstance (Kp_set eB gB (Nat.le_refl _) _) g4 ⟨_, _, _, _, _, [], ⟨.nil, .nil, [], rfl, rfl⟩, rfl, rfl⟩ ⟨by omega, trivial⟩ ⟨⟨by simp, by simp, trivial⟩, trivial⟩ (by simp only [tot, tots]; omega) (by omega) c2 _ _ _ _ _ _
            · -- nothing
              have e1 : ((2 : Int) == 1) = false := rfl
              have e3 : ((2 : Int) == 3) = false := rfl
              have e4 : ((2 : Int) == 4) = false := rfl
              have e5 : ((2 : Int) == 5) = false := rfl
              simp -implicitDefEqProofs only [e1, e3, e4, e5, r42_15, r42_17, r42_18, opn_z, opn_s, sel_z, sel_s, qCd_eq, qIf_true, qIf_false, qFn_eq, qBl_eq, qO_some, qRes_val, qHp_some, qPick_true, qPick_false, qG_tt, qG_ff, qG_tf, qG_ft, cellsK_some, qLd_vptr, qLdA_vptr, qFa_ptr, qFa_vptr, qNc_ptr, qNc_vptr, qNc_fn, qNot_bool, qExt_tup, qCallV_fn, qLss_int, qLeq_int, qGtr_int, qGeq_int, qEql_int, qNeq_int, qAdd_int, qSub_int, qMul_int, qConvI_int, qLenL_sl, qLenL_hsl, qLenS_str, foldO, min2_int, max2_int, qSame_refl, Nat.zero_add, List.getElem?_cons_zero, List.getElem?_cons_succ, List.nil_append, List.cons_append, List.append_nil, one_bool, one_int, one_str, one_nilp, one_ptr, one_sl, one_hsl, one_map, one_fn, List.length_cons, List.length_nil, List.set_cons_zero, List.set_cons_succ, Nat.reduceLT, Nat.reduceAdd]
              exact mid _ _ _ (b + 1) hfB eB gB (plain 2 rfl) ⟨by omega, trivial⟩ ⟨zok, trivial⟩ (by simp only [tot, tots]; omega) (by omega) c2 _ _ _ _ _ _
            · -- a fault
              have e1 : ((3 : Int) == 1) = false := rfl
              have e3 : ((3 : Int) == 3) = true := rfl
              have q40 : ∀ k : AV → Prop, qQuo X 3 (.int .i64 (vv : Int)) (.int .i64 40) k = k (.int .i64 ((vv / 40 : Nat) : Int)) := fun k => qQuo_nat 3 vv 40 (by decide) (by omega) k
              have m3 : ∀ k : AV → Prop, qRem X 3 (.int .i64 ((vv / 40 : Nat) : Int)) (.int .i64 3) k = k (.int .i64 ((vv / 40 % 3 : Nat) : Int)) := fun k => qRem_nat 3 (vv / 40) 3 (by decide) k
              obtain ⟨wh, hwh⟩ := wh_at (vv / 40 % 3) (Nat.mod_lt _ (by decide))
              have b109 : ∀ k : AV → Prop, qBld z109 [(0, 1, .str [69, 82, 82, 79, 82]), (1, 1, .str [84, 89, 80, 69]), (2, 1, .str [68, 69, 65, 68, 76, 73, 78, 69])] k = k (.agg [.str [69, 82, 82, 79, 82], .str [84, 89, 80, 69], .str [68, 69, 65, 68, 76, 73, 78, 69]]) := fun k => rfl
              have s8 := fun k => qSt_gen (n := 1) (cs' := [.int .i64 3, .str key, .str [84], .str w, .int .i64 0, .str [], .sl [] .nil, .sl [] .nil, .str wh, .sl [] .nil]) gB 8 (.str wh) rfl rfl rfl k
              have g8 := get_set_at gB (.cells [.int .i64 3, .str key, .str [84], .str w, .int .i64 0, .str [], .sl [] .nil, .sl [] .nil, .str wh, .sl [] .nil])
              simp -implicitDefEqProofs only [e1, e3, r42_15, r42_16, opn_z, opn_s, sel_z, sel_s, qCd_eq, qIf_true, qIf_false, qFn_eq, qBl_eq, qO_some, qRes_val, qHp_some, qPick_true, qPick_false, qG_tt, qG_ff, qG_tf, qG_ft, cellsK_some, qLd_vptr, qLdA_vptr, qFa_ptr, qFa_vptr, qNc_ptr, qNc_vptr, qNc_fn, qNot_bool, qExt_tup, qCallV_fn, qLss_int, qLeq_int, qGtr_int, qGeq_int, qEql_int, qNeq_int, qAdd_int, qSub_int, qMul_int, qConvI_int, qLenL_sl, qLenL_hsl, qLenS_str, foldO, min2_int, max2_int, qSame_refl, Nat.zero_add, List.getElem?_cons_zero, List.getElem?_cons_succ, List.nil_append, List.cons_append, List.append_nil, one_bool, one_int, one_str, one_nilp, one_ptr, one_sl, one_hsl, one_map, one_fn, List.length_cons, List.length_nil, List.set_cons_zero, List.set_cons_succ, Nat.reduceLT, Nat.reduceAdd, b109, q40, m3, hwh, s8]
              exact mid _ _ (.mk 3 key [84] w zeroV wh []) (b + 1) inferInstance (Kp_set eB gB (Nat.le_refl _) _) g8 ⟨_, _, _, _, _, [], EVzero, rfl, rfl⟩ ⟨by omega, trivial⟩ ⟨zok, trivial⟩ (by simp only [tot, tots]; omega) (by omega) c2 _ _ _ _ _ _
            all_goals
              by_cases hd0 : d = 0
              · have hd0' : ¬ (0 : Int) < (d : Int) := by omega
                first
                  | (have e1 : ((4 : Int) == 1) = false := rfl
                     have e3 : ((4 : Int) == 3) = false := rfl
                     have e4 : ((4 : Int) == 4) = true := rfl
                     simp -implicitDefEqProofs only [e1, e3, e4, r42_15, r42_17, r42_19, opn_z, opn_s, sel_z, sel_s, qCd_eq, qIf_true, qIf_false, qFn_eq, qBl_eq, qO_some, qRes_val, qHp_some, qPick_true, qPick_false, qG_tt, qG_ff, qG_tf, qG_ft, cellsK_some, qLd_vptr, qLdA_vptr, qFa_ptr, qFa_vptr, qNc_ptr, qNc_vptr, qNc_fn, qNot_bool, qExt_tup, qCallV_fn, qLss_int, qLeq_int, qGtr_int, qGeq_int, qEql_int, qNeq_int, qAdd_int, qSub_int, qMul_int, qConvI_int, qLenL_sl, qLenL_hsl, qLenS_str, foldO, min2_int, max2_int, qSame_refl, Nat.zero_add, List.getElem?_cons_zero, List.getElem?_cons_succ, List.nil_append, List.cons_append, List.append_nil, one_bool, one_int, one_str, one_nilp, one_ptr, one_sl, one_hsl, one_map, one_fn, List.length_cons, List.length_nil, List.set_cons_zero, List.set_cons_succ, Nat.reduceLT, Nat.reduceAdd, hd0', decide_false]
                     exact mid _ _ _ (b + 1) hfB eB gB (plain 4 rfl) ⟨by omega, trivial⟩ ⟨zok, trivial⟩ (by simp only [tot, tots]; omega) (by omega) c2 _ _ _ _ _ _)
                  | (have e1 : ((5 : Int) == 1) = false := rfl
                     have e3 : ((5 : Int) == 3) = false := rfl
                     have e4 : ((5 : Int) == 4) = false := rfl
                     have e5 : ((5 : Int) == 5) = true := rfl
                     simp -implicitDefEqProofs only [e1, e3, e4, e5, r42_15, r42_17, r42_18, r42_19, opn_z, opn_s, sel_z, sel_s, qCd_eq, qIf_true, qIf_false, qFn_eq, qBl_eq, qO_some, qRes_val, qHp_some, qPick_true, qPick_false, qG_tt, qG_ff, qG_tf, qG_ft, cellsK_some, qLd_vptr, qLdA_vptr, qFa_ptr, qFa_vptr, qNc_ptr, qNc_vptr, qNc_fn, qNot_bool, qExt_tup, qCallV_fn, qLss_int, qLeq_int, qGtr_int, qGeq_int, qEql_int, qNeq_int, qAdd_int, qSub_int, qMul_int, qConvI_int, qLenL_sl, qLenL_hsl, qLenS_str, foldO, min2_int, max2_int, qSame_refl, Nat.zero_add, List.getElem?_cons_zero, List.getElem?_cons_succ, List.nil_append, List.cons_append, List.append_nil, one_bool, one_int, one_str, one_nilp, one_ptr, one_sl, one_hsl, one_map, one_fn, List.length_cons, List.length_nil, List.set_cons_zero, List.set_cons_succ, Nat.reduceLT, Nat.reduceAdd, hd0', decide_false]
                     exact mid _ _ _ (b + 1) hfB eB gB (plain 5 rfl) ⟨by omega, trivial⟩ ⟨zok, trivial⟩ (by simp only [tot, tots]; omega) (by omega) c2 _ _ _ _ _ _)
              · obtain ⟨d', rfl⟩ : ∃ d', d = d' + 1 := ⟨d - 1, by omega⟩
                have hd0' : (0 : Int) < ((d' + 1 : Nat) : Int) := by omega
                have hwd := wrap_dn d' (by omega)
                obtain ⟨vk, ⟨nk, rk, tkk, b2, rfl, k1, k2, k3, k4, k5, k6⟩, k7⟩ := ih d' rfl zs tk (b + 1) hz c2
                have hk7 := k7 H1
                have tk2 : ∀ kn : Int, tot (.mk kn key [84] w zeroV [] nk) ≤ 1 + 4 ^ (d' + 1 + 1) := fun kn => by
                  have e : 4 ^ (d' + 1 + 1) = 4 ^ (d' + 2) := rfl
                  simp only [tot]; omega
                first
                  | (have e1 : ((4 : Int) == 1) = false := rfl
                     have e3 : ((4 : Int) == 3) = false := rfl
                     have e4 : ((4 : Int) == 4) = true := rfl
                     have s9 := fun k => qSt_gen (n := 1) (cs' := [.int .i64 4, .str key, .str [84], .str w, .int .i64 0, .str [], .sl [] .nil, .sl [] .nil, .str [], .sl rk tkk]) gB 9 (.sl rk tkk) rfl rfl rfl k
                     have g9 := get_set_at gB (.cells [.int .i64 4, .str key, .str [84], .str w, .int .i64 0, .str [], .sl [] .nil, .sl [] .nil, .str [], .sl rk tkk])
                     simp -implicitDefEqProofs only [e1, e3, e4, r42_15, r42_17, r42_19, r42_20, opn_z, opn_s, sel_z, sel_s, qCd_eq, qIf_true, qIf_false, qFn_eq, qBl_eq, qO_some, qRes_val, qHp_some, qPick_true, qPick_false, qG_tt, qG_ff, qG_tf, qG_ft, cellsK_some, qLd_vptr, qLdA_vptr, qFa_ptr, qFa_vptr, qNc_ptr, qNc_vptr, qNc_fn, qNot_bool, qExt_tup, qCallV_fn, qLss_int, qLeq_int, qGtr_int, qGeq_int, qEql_int, qNeq_int, qAdd_int, qSub_int, qMul_int, qConvI_int, qLenL_sl, qLenL_hsl, qLenS_str, foldO, min2_int, max2_int, qSame_refl, Nat.zero_add, List.getElem?_cons_zero, List.getElem?_cons_succ, List.nil_append, List.cons_append, List.append_nil, one_bool, one_int, one_str, one_nilp, one_ptr, one_sl, one_hsl, one_map, one_fn, List.length_cons, List.length_nil, List.set_cons_zero, List.set_cons_succ, Nat.reduceLT, Nat.reduceAdd, hd0', decide_true, hwd, hk7, s9]
                     exact mid _ _ (.mk 4 key [84] w zeroV [] nk) b2 inferInstance (Kp_set eB gB (Nat.le_refl _) _) g9 ⟨_, _, _, _, _, rk, EVzero, rfl, k1⟩ ⟨by omega, k4⟩ ⟨zok, k5⟩ (tk2 4) (by omega) k3 _ _ _ _ _ _)
                  | (have e1 : ((5 : Int) == 1) = false := rfl
                     have e3 : ((5 : Int) == 3) = false := rfl
                     have e4 : ((5 : Int) == 4) = false := rfl
                     have e5 : ((5 : Int) == 5) = true := rfl
                     have s9 := fun k => qSt_gen (n := 1) (cs' := [.int .i64 5, .str key, .str [84], .str w, .int .i64 0, .str [], .sl [] .nil, .sl [] .nil, .str [], .sl rk tkk]) gB 9 (.sl rk tkk) rfl rfl rfl k
                     have g9 := get_set_at gB (.cells [.int .i64 5, .str key, .str [84], .str w, .int .i64 0, .str [], .sl [] .nil, .sl [] .nil, .str [], .sl rk tkk])
                     simp -implicitDefEqProofs only [e1, e3, e4, e5, r42_15, r42_17, r42_18, r42_19, r42_20, opn_z, opn_s, sel_z, sel_s, qCd_eq, qIf_true, qIf_false, qFn_eq, qBl_eq, qO_some, qRes_val, qHp_some, qPick_true, qPick_false, qG_tt, qG_ff, qG_tf, qG_ft, cellsK_some, qLd_vptr, qLdA_vptr, qFa_ptr, qFa_vptr, qNc_ptr, qNc_vptr, qNc_fn, qNot_bool, qExt_tup, qCallV_fn, qLss_int, qLeq_int, qGtr_int, qGeq_int, qEql_int, qNeq_int, qAdd_int, qSub_int, qMul_int, qConvI_int, qLenL_sl, qLenL_hsl, qLenS_str, foldO, min2_int, max2_int, qSame_refl, Nat.zero_add, List.getElem?_cons_zero, List.getElem?_cons_succ, List.nil_append, List.cons_append, List.append_nil, one_bool, one_int, one_str, one_nilp, one_ptr, one_sl, one_hsl, one_map, one_fn, List.length_cons, List.length_nil, List.set_cons_zero, List.set_cons_succ, Nat.reduceLT, Nat.reduceAdd, hd0', decide_true, hwd, hk7, s9]
                     exact mid _ _ (.mk 5 key [84] w zeroV [] nk) b2 inferInstance (Kp_set eB gB (Nat.le_refl _) _) g9 ⟨_, _, _, _, _, rk, EVzero, rfl, k1⟩ ⟨by omega, k4⟩ ⟨zok, k5⟩ (tk2 5) (by omega) k3 _ _ _ _ _ _)
          intro H2 rowx nd b2 hf2 e2 g2 hE2 hw2 hn2 ht2 hb2 hb3 y33 y57 y58 y65 y73 y77
          obtain ⟨r1, r2⟩ := hE2.ten
          have ow2 : Ow H2 v rows := ow.keep fun j hj => e2.keep j (lt_i (ow.tok hj)) (fun h => h)
          have hrl := hE.len
          rw [hnl] at hrl
          obtain ⟨v', H3, k1, k2, k3, k4⟩ := ow2.app (n := 10) (b := 168) (tk' := .full) r1 (by decide) (by decide) (by rw [hrl]; unfold most; omega) hE.tens r2
          have l2 := fun k => qLdA_whole (n := 10) g2 r1 k
          have rr := fun k => qRows1 z101 rowx r1 r2 k
          simp -implicitDefEqProofs only [r42_21, r42_8, opn_z, opn_s, sel_z, sel_s, qCd_eq, qIf_true, qIf_false, qFn_eq, qBl_eq, qO_some, qRes_val, qHp_some, qPick_true, qPick_false, qG_tt, qG_ff, qG_tf, qG_ft, cellsK_some, qLd_vptr, qLdA_vptr, qFa_ptr, qFa_vptr, qNc_ptr, qNc_vptr, qNc_fn, qNot_bool, qExt_tup, qCallV_fn, qLss_int, qLeq_int, qGtr_int, qGeq_int, qEql_int, qNeq_int, qAdd_int, qSub_int, qMul_int, qConvI_int, qLenL_sl, qLenL_hsl, qLenS_str, foldO, min2_int, max2_int, qSame_refl, Nat.zero_add, List.getElem?_cons_zero, List.getElem?_cons_succ, List.nil_append, List.cons_append, List.append_nil, one_bool, one_int, one_str, one_nilp, one_ptr, one_sl, one_hsl, one_map, one_fn, List.length_cons, List.length_nil, List.set_cons_zero, List.set_cons_succ, Nat.reduceLT, Nat.reduceAdd, l2, rr, k1, hwi]
          refine hk (4 - (i + 1)) _ _ (by omega) ⟨i + 1, b2, v', rows ++ [rowx], nds ++ [nd], _, _, _, _, _, _, _, _, _, rfl, c1, by omega, hb3, rfl, k3.fn, k2, hE.append (.one hE2), by simp [hnl], woks_app hwo ⟨hw2, trivial⟩, nvoks_app hnv ⟨hn2, trivial⟩, ?_⟩
          rw [tots_app, Nat.add_mul]
          simp only [tots]; omega
        · have c2' : ¬ (b : Int) < (zs.length : Int) := by omega
          simp -implicitDefEqProofs only [l42_10, r42_7, opn_z, opn_s, sel_z, sel_s, qCd_eq, qIf_true, qIf_false, qFn_eq, qBl_eq, qO_some, qRes_val, qHp_some, qPick_true, qPick_false, qG_tt, qG_ff, qG_tf, qG_ft, cellsK_some, qLd_vptr, qLdA_vptr, qFa_ptr, qFa_vptr, qNc_ptr, qNc_vptr, qNc_fn, qNot_bool, qExt_tup, qCallV_fn, qLss_int, qLeq_int, qGtr_int, qGeq_int, qEql_int, qNeq_int, qAdd_int, qSub_int, qMul_int, qConvI_int, qLenL_sl, qLenL_hsl, qLenS_str, foldO, min2_int, max2_int, qSame_refl, Nat.zero_add, List.getElem?_cons_zero, List.getElem?_cons_succ, List.nil_append, List.cons_append, List.append_nil, one_bool, one_int, one_str, one_nilp, one_ptr, one_sl, one_hsl, one_map, one_fn, List.length_cons, List.length_nil, List.set_cons_zero, List.set_cons_succ, Nat.reduceLT, Nat.reduceAdd, hln, c1', c2', decide_true, decide_false]
          exact stop _
      · have c1' : ¬ (i : Int) < (kk : Int) := by omega
        simp -implicitDefEqProofs only [l42_10, r42_7, opn_z, opn_s, sel_z, sel_s, qCd_eq, qIf_true, qIf_false, qFn_eq, qBl_eq, qO_some, qRes_val, qHp_some, qPick_true, qPick_false, qG_tt, qG_ff, qG_tf, qG_ft, cellsK_some, qLd_vptr, qLdA_vptr, qFa_ptr, qFa_vptr, qNc_ptr, qNc_vptr, qNc_fn, qNot_bool, qExt_tup, qCallV_fn, qLss_int, qLeq_int, qGtr_int, qGeq_int, qEql_int, qNeq_int, qAdd_int, qSub_int, qMul_int, qConvI_int, qLenL_sl, qLenL_hsl, qLenS_str, foldO, min2_int, max2_int, qSame_refl, Nat.zero_add, List.getElem?_cons_zero, List.getElem?_cons_succ, List.nil_append, List.cons_append, List.append_nil, one_bool, one_int, one_str, one_nilp, one_ptr, one_sl, one_hsl, one_map, one_fn, List.length_cons, List.length_nil, List.set_cons_zero, List.set_cons_succ, Nat.reduceLT, Nat.reduceAdd, c1', decide_false]
        exact stop _
    · exact ⟨0, a + 1, _, [], [], _, _, _, _, _, _, _, _, _, rfl, by omega, by omega, by omega, rfl, inferInstance, .nil, rfl, rfl, trivial, trivial, by simp [tots]⟩
  · have h' : (zs.length : Int) ≤ (a : Int) := by omega
    simp -implicitDefEqProofs only [c42, r42_0, r42_1, r42_2, r42_3, opn_z, opn_s, sel_z, sel_s, qCd_eq, qIf_true, qIf_false, qFn_eq, qBl_eq, qO_some, qRes_val, qHp_some, qPick_true, qPick_false, qG_tt, qG_ff, qG_tf, qG_ft, cellsK_some, qLd_vptr, qLdA_vptr, qFa_ptr, qFa_vptr, qNc_ptr, qNc_vptr, qNc_fn, qNot_bool, qExt_tup, qCallV_fn, qLss_int, qLeq_int, qGtr_int, qGeq_int, qEql_int, qNeq_int, qAdd_int, qSub_int, qMul_int, qConvI_int, qLenL_sl, qLenL_hsl, qLenS_str, foldO, min2_int, max2_int, qSame_refl, Nat.zero_add, List.getElem?_cons_zero, List.getElem?_cons_succ, List.nil_append, List.cons_append, List.append_nil, one_bool, one_int, one_str, one_nilp, one_ptr, one_sl, one_hsl, one_map, one_fn, List.length_cons, List.length_nil, List.set_cons_zero, List.set_cons_succ, Nat.reduceLT, Nat.reduceAdd, hln, h', decide_true]
    exact fin [] [] .nil a rfl (Nat.le_refl _) ha trivial trivial (by simp [tots])

theorem made_ok : ∀ d : Nat, d ≤ 10 → MadeOk d
  | 0, h => made_step 0 h fun d' e => by omega
  | d + 1, h => made_step (d + 1) h fun d' e => by
    obtain rfl : d = d' := by omega
    exact made_ok d (by omega)

end T
