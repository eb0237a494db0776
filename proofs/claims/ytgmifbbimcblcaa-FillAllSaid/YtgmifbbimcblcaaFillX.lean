import Derived.Test.YtgmifbbimcblcaaLitRa
import Derived.Test.YtgmifbbimcblcaaS13
import Derived.Test.YtgmifbbimcblcaaS11
import Derived.IntWalk
set_option linter.all false
set_option linter.unusedVariables false
set_option linter.unusedSimpArgs false
set_option maxRecDepth 10000
namespace T
open Go Go.Aes Go.Proofs

/-! ### the functions that are called purely -/
def PS (g : Nat) : Bool := [50, 59, 62, 67, 69, 71, 63, 66, 70, 38, 53, 39, 40, 41, 54, 58, 51, 35, 36, 43, 42, 23, 32, 37, 33, 34].contains g
noncomputable abbrev EP : CallF := evp X PS

abbrev Str := List UInt8

/-- within its bounds -/
theorem i64_in' {x : Int} (h : -9223372036854775808 ≤ x ∧ x ≤ 9223372036854775807) : IntKind.i64.wrap x = x := IntWalk.i64_in _ h
theorem wrap_up (i : Nat) (h : i < 9000000000000000000) : IntKind.i64.wrap ((i : Int) + 1) = ((i + 1 : Nat) : Int) := by
  rw [i64_in' (by omega)]; omega
theorem wrap_dn (i : Nat) (h : i < 9000000000000000000) : IntKind.i64.wrap (((i + 1 : Nat) : Int) - 1) = (i : Int) := by
  rw [i64_in' (by omega)]; omega

/-! ### texts -/
theorem eqL_eq (a b : Str) : eqL a b = decide (a = b) := by
  rw [Bool.eq_iff_iff]; simp [eqL_spec]
theorem qEql_str (t : Nat) (a b : Str) (k : AV → Prop) : qEql X t (.str a) (.str b) k = k (.bool (decide (a = b))) := by
  rw [← eqL_eq]; rfl
theorem qNeq_str (t : Nat) (a b : Str) (k : AV → Prop) : qNeq X t (.str a) (.str b) k = k (.bool (!decide (a = b))) := by
  rw [← eqL_eq]; rfl

theorem slcS_lo (s : Str) (a : Nat) (h : a ≤ s.length) (k : AV → Prop) : qSlc Try.t9.desc 0 (.str s) (some (.int .i64 (a : Int))) none none k = k (.str (s.drop a)) := by
  have hb : bnd (some (.int .i64 (a : Int))) 0 s.length = some a := by
    have : a.ble s.length = true := by simpa using h
    simp [bnd, asN, this]
  have : sliceD Try.t9.desc 0 (.str s) (some (.int .i64 (a : Int))) none none = some (.str (s.drop a)) := by
    show (match bnd none s.length s.length with
      | none => none
      | some h => match bnd (some (.int .i64 (a : Int))) 0 h with
        | none => none
        | some l => some (AV.str ((s.take h).drop l))) = _
    simp only [bnd] at hb ⊢
    rw [hb]
    simp
  unfold qSlc
  rw [this, qO_some]

theorem slcS_hi (s : Str) (a : Nat) (h : a ≤ s.length) (k : AV → Prop) : qSlc Try.t9.desc 0 (.str s) none (some (.int .i64 (a : Int))) none k = k (.str (s.take a)) := by
  have hb : bnd (some (.int .i64 (a : Int))) s.length s.length = some a := by
    have : a.ble s.length = true := by simpa using h
    simp [bnd, asN, this]
  have : sliceD Try.t9.desc 0 (.str s) none (some (.int .i64 (a : Int))) none = some (.str (s.take a)) := by
    show (match bnd (some (.int .i64 (a : Int))) s.length s.length with
      | none => none
      | some h => match bnd none 0 h with
        | none => none
        | some l => some (AV.str ((s.take h).drop l))) = _
    rw [hb]
    simp [bnd]
  unfold qSlc
  rw [this, qO_some]

/-- cut: does it end so? -/
def ends (s : Str) (c : UInt8) : Bool := decide (s.getLast? = some c)
def cutE (s : Str) (c : UInt8) : Str := if s.getLast? = some c then s.dropLast else s

theorem str_cases (s : Str) : s = [] ∨ ∃ l x, s = l ++ [x] := by
  rcases List.eq_nil_or_concat s with h | ⟨l, x, h⟩
  · exact .inl h
  · exact .inr ⟨l, x, by simpa using h⟩

theorem ep71 (s : Str) (c : UInt8) (hl : s.length < 9223372036854775808) (H : AH) : EP 71 [.str s, .str [c]] H = some (.val (.bool (ends s c)) H) := by
  refine pu_form e71 xf71 rfl rfl rfl ?_ H
  rcases str_cases s with rfl | ⟨l, x, rfl⟩
  · simp only [AV.kills, AV.kill, c71, r71_0, r71_1, opn_z, opn_s, sel_z, sel_s, qCd_eq, qIf_true, qIf_false, qFn_eq, qBl_eq, qO_some, qRes_val, qHp_some, qPick_true, qPick_false, qG_tt, qG_ff, qG_tf, qG_ft, cellsK_some, qLd_ptr, qLd_vptr, qLdA_ptr, qLdA_vptr, qFa_ptr, qFa_vptr, qNc_ptr, qNc_vptr, qNc_fn, qNot_bool, qExt_tup, qCallV_fn, qLss_int, qLeq_int, qGtr_int, qGeq_int, qEql_int, qNeq_int, qAdd_int, qSub_int, qMul_int, qConvI_int, qLenL_sl, qLenL_hsl, qLenS_str, foldO, min2_int, max2_int, qSame_refl, List.getElem?_cons_zero, List.getElem?_cons_succ, List.nil_append, List.cons_append, List.append_nil, one_bool, one_int, one_str, one_nilp, one_ptr, one_sl, one_hsl, one_map, one_fn, List.length_cons, List.length_nil, List.set_cons_zero, List.set_cons_succ, Nat.reduceLT, Nat.reduceAdd, Nat.zero_add, qNew_i, qBox_i, wr_ptr, cells_agg, cells_str, cells_int, cells_bool, cells_sl, cells_ptr, cells_nilp, cells_hsl, cells_map, cells_fn, allOne_cons, allOne_nil, Bool.and_true, Bool.and_self, Bool.true_and, cond_true, cond_false, setRange_nil, setRange_z, setRange_s, Option.map_some, slice_z, slice_c, slice_s, fillP_nil, fillP_cons, Option.bind_some, qBld_eq, qSt_ptr, qPtr_ptr, qRows_eq, putRow_one, putRow_nil, rep_zero, rep_succ, nx_push_i, get_push_i, AH.nx_set, get_set_i, okI_i, H0_nx, Nat.beq_refl, reduceIte, Nat.reduceEqDiff]
    rfl
  · have h1 : ((1 : Nat) : Int) ≤ ((l ++ [x]).length : Int) := by simp; omega
    have h2 : IntKind.i64.wrap (((l ++ [x]).length : Int) - ((0 + 1 : Nat) : Int)) = (l.length : Int) := by
      rw [i64_in' (by simp at hl ⊢; omega)]; simp
    have h1' : ((0 + 1 : Nat) : Int) ≤ ((l ++ [x]).length : Int) := by simp; omega
    simp only [AV.kills, AV.kill, c71, r71_0, r71_1, opn_z, opn_s, sel_z, sel_s, qFn_eq, qLenS_str, qGeq_int, List.length_cons, List.length_nil, h1', decide_true, qG_tt, qSub_int, h2, slcS_lo _ _ (show l.length ≤ (l ++ [x]).length by simp), List.drop_left, qEql_str, qPick_true]
    simp [ends]

theorem ep67 (s : Str) (c : UInt8) (hl : s.length < 9223372036854775808) (H : AH) : EP 67 [.str s, .str [c]] H = some (.val (.tup [.str (cutE s c), .bool (ends s c)]) H) := by
  refine pu_form e67 xf67 rfl rfl rfl ?_ H
  rcases hE : ends s c with _ | _
  · have h : ¬ s.getLast? = some c := by simpa [ends] using hE
    simp only [AV.kills, AV.kill, c67, r67_0, r67_1, r67_2, opn_z, opn_s, sel_z, sel_s, qCd_eq, qIf_true, qIf_false, qFn_eq, qBl_eq, qO_some, qRes_val, qHp_some, qPick_true, qPick_false, qG_tt, qG_ff, qG_tf, qG_ft, cellsK_some, qLd_ptr, qLd_vptr, qLdA_ptr, qLdA_vptr, qFa_ptr, qFa_vptr, qNc_ptr, qNc_vptr, qNc_fn, qNot_bool, qExt_tup, qCallV_fn, qLss_int, qLeq_int, qGtr_int, qGeq_int, qEql_int, qNeq_int, qAdd_int, qSub_int, qMul_int, qConvI_int, qLenL_sl, qLenL_hsl, qLenS_str, foldO, min2_int, max2_int, qSame_refl, List.getElem?_cons_zero, List.getElem?_cons_succ, List.nil_append, List.cons_append, List.append_nil, one_bool, one_int, one_str, one_nilp, one_ptr, one_sl, one_hsl, one_map, one_fn, List.length_cons, List.length_nil, List.set_cons_zero, List.set_cons_succ, Nat.reduceLT, Nat.reduceAdd, Nat.zero_add, qNew_i, qBox_i, wr_ptr, cells_agg, cells_str, cells_int, cells_bool, cells_sl, cells_ptr, cells_nilp, cells_hsl, cells_map, cells_fn, allOne_cons, allOne_nil, Bool.and_true, Bool.and_self, Bool.true_and, cond_true, cond_false, setRange_nil, setRange_z, setRange_s, Option.map_some, slice_z, slice_c, slice_s, fillP_nil, fillP_cons, Option.bind_some, qBld_eq, qSt_ptr, qPtr_ptr, qRows_eq, putRow_one, putRow_nil, rep_zero, rep_succ, nx_push_i, get_push_i, AH.nx_set, get_set_i, okI_i, H0_nx, Nat.beq_refl, reduceIte, Nat.reduceEqDiff, ep71 s c hl, hE, Bool.not_false, cutE, if_neg h]
  · have h : s.getLast? = some c := by simpa [ends] using hE
    rcases str_cases s with rfl | ⟨l, x, rfl⟩
    · simp at h
    · have h2 : IntKind.i64.wrap (((l ++ [x]).length : Int) - ((0 + 1 : Nat) : Int)) = (l.length : Int) := by
        rw [i64_in' (by simp at hl ⊢; omega)]; simp
      simp only [AV.kills, AV.kill, c67, r67_0, r67_1, r67_3, opn_z, opn_s, sel_z, sel_s, qFn_eq, qCd_eq, qLenS_str, ep71 _ c hl, hE, qRes_val, qNot_bool, Bool.not_true, qIf_false, List.length_cons, List.length_nil, qSub_int, h2, slcS_hi _ _ (show l.length ≤ (l ++ [x]).length by simp), List.take_left, cutE, if_pos h, List.dropLast_concat]

theorem ep59 (s : Str) (c : UInt8) (hl : s.length < 9223372036854775808) (H : AH) : EP 59 [.str s, .str [c]] H = some (.val (.tup [.str (cutE s c), .bool (ends s c)]) H) := by
  refine pu_form e59 xf59 rfl rfl rfl ?_ H
  simp only [AV.kills, AV.kill, c59, r59_0, r59_1, opn_z, opn_s, sel_z, sel_s, qCd_eq, qIf_true, qIf_false, qFn_eq, qBl_eq, qO_some, qRes_val, qHp_some, qPick_true, qPick_false, qG_tt, qG_ff, qG_tf, qG_ft, cellsK_some, qLd_ptr, qLd_vptr, qLdA_ptr, qLdA_vptr, qFa_ptr, qFa_vptr, qNc_ptr, qNc_vptr, qNc_fn, qNot_bool, qExt_tup, qCallV_fn, qLss_int, qLeq_int, qGtr_int, qGeq_int, qEql_int, qNeq_int, qAdd_int, qSub_int, qMul_int, qConvI_int, qLenL_sl, qLenL_hsl, qLenS_str, foldO, min2_int, max2_int, qSame_refl, List.getElem?_cons_zero, List.getElem?_cons_succ, List.nil_append, List.cons_append, List.append_nil, one_bool, one_int, one_str, one_nilp, one_ptr, one_sl, one_hsl, one_map, one_fn, List.length_cons, List.length_nil, List.set_cons_zero, List.set_cons_succ, Nat.reduceLT, Nat.reduceAdd, Nat.zero_add, qNew_i, qBox_i, wr_ptr, cells_agg, cells_str, cells_int, cells_bool, cells_sl, cells_ptr, cells_nilp, cells_hsl, cells_map, cells_fn, allOne_cons, allOne_nil, Bool.and_true, Bool.and_self, Bool.true_and, cond_true, cond_false, setRange_nil, setRange_z, setRange_s, Option.map_some, slice_z, slice_c, slice_s, fillP_nil, fillP_cons, Option.bind_some, qBld_eq, qSt_ptr, qPtr_ptr, qRows_eq, putRow_one, putRow_nil, rep_zero, rep_succ, nx_push_i, get_push_i, AH.nx_set, get_set_i, okI_i, H0_nx, Nat.beq_refl, reduceIte, Nat.reduceEqDiff, ep67 s c hl]

theorem ep69 (s : Str) (c : UInt8) (hl : s.length < 9223372036854775808) (H : AH) : EP 69 [.str s, .str [c]] H = some (.val (.str (cutE s c)) H) := by
  refine pu_form e69 xf69 rfl rfl rfl ?_ H
  rcases hE : ends s c with _ | _
  · have h : ¬ s.getLast? = some c := by simpa [ends] using hE
    simp only [AV.kills, AV.kill, c69, r69_0, r69_1, r69_3, opn_z, opn_s, sel_z, sel_s, qCd_eq, qIf_true, qIf_false, qFn_eq, qBl_eq, qO_some, qRes_val, qHp_some, qPick_true, qPick_false, qG_tt, qG_ff, qG_tf, qG_ft, cellsK_some, qLd_ptr, qLd_vptr, qLdA_ptr, qLdA_vptr, qFa_ptr, qFa_vptr, qNc_ptr, qNc_vptr, qNc_fn, qNot_bool, qExt_tup, qCallV_fn, qLss_int, qLeq_int, qGtr_int, qGeq_int, qEql_int, qNeq_int, qAdd_int, qSub_int, qMul_int, qConvI_int, qLenL_sl, qLenL_hsl, qLenS_str, foldO, min2_int, max2_int, qSame_refl, List.getElem?_cons_zero, List.getElem?_cons_succ, List.nil_append, List.cons_append, List.append_nil, one_bool, one_int, one_str, one_nilp, one_ptr, one_sl, one_hsl, one_map, one_fn, List.length_cons, List.length_nil, List.set_cons_zero, List.set_cons_succ, Nat.reduceLT, Nat.reduceAdd, Nat.zero_add, qNew_i, qBox_i, wr_ptr, cells_agg, cells_str, cells_int, cells_bool, cells_sl, cells_ptr, cells_nilp, cells_hsl, cells_map, cells_fn, allOne_cons, allOne_nil, Bool.and_true, Bool.and_self, Bool.true_and, cond_true, cond_false, setRange_nil, setRange_z, setRange_s, Option.map_some, slice_z, slice_c, slice_s, fillP_nil, fillP_cons, Option.bind_some, qBld_eq, qSt_ptr, qPtr_ptr, qRows_eq, putRow_one, putRow_nil, rep_zero, rep_succ, nx_push_i, get_push_i, AH.nx_set, get_set_i, okI_i, H0_nx, Nat.beq_refl, reduceIte, Nat.reduceEqDiff, ep71 s c hl, hE, cutE, if_neg h]
  · have h : s.getLast? = some c := by simpa [ends] using hE
    rcases str_cases s with rfl | ⟨l, x, rfl⟩
    · simp at h
    · have h2 : IntKind.i64.wrap (((l ++ [x]).length : Int) - ((0 + 1 : Nat) : Int)) = (l.length : Int) := by
        rw [i64_in' (by simp at hl ⊢; omega)]; simp
      simp only [AV.kills, AV.kill, c69, r69_0, r69_1, r69_2, opn_z, opn_s, sel_z, sel_s, qFn_eq, qCd_eq, qLenS_str, ep71 _ c hl, hE, qRes_val, qIf_true, List.length_cons, List.length_nil, qSub_int, h2, slcS_hi _ _ (show l.length ≤ (l ++ [x]).length by simp), List.take_left, cutE, if_pos h, List.dropLast_concat]

theorem ep62 (s : Str) (c : UInt8) (hl : s.length < 9223372036854775808) (H : AH) : EP 62 [.str s, .str [c]] H = some (.val (.str (cutE s c)) H) := by
  refine pu_form e62 xf62 rfl rfl rfl ?_ H
  simp only [AV.kills, AV.kill, c62, r62_0, r62_1, opn_z, opn_s, sel_z, sel_s, qCd_eq, qIf_true, qIf_false, qFn_eq, qBl_eq, qO_some, qRes_val, qHp_some, qPick_true, qPick_false, qG_tt, qG_ff, qG_tf, qG_ft, cellsK_some, qLd_ptr, qLd_vptr, qLdA_ptr, qLdA_vptr, qFa_ptr, qFa_vptr, qNc_ptr, qNc_vptr, qNc_fn, qNot_bool, qExt_tup, qCallV_fn, qLss_int, qLeq_int, qGtr_int, qGeq_int, qEql_int, qNeq_int, qAdd_int, qSub_int, qMul_int, qConvI_int, qLenL_sl, qLenL_hsl, qLenS_str, foldO, min2_int, max2_int, qSame_refl, List.getElem?_cons_zero, List.getElem?_cons_succ, List.nil_append, List.cons_append, List.append_nil, one_bool, one_int, one_str, one_nilp, one_ptr, one_sl, one_hsl, one_map, one_fn, List.length_cons, List.length_nil, List.set_cons_zero, List.set_cons_succ, Nat.reduceLT, Nat.reduceAdd, Nat.zero_add, qNew_i, qBox_i, wr_ptr, cells_agg, cells_str, cells_int, cells_bool, cells_sl, cells_ptr, cells_nilp, cells_hsl, cells_map, cells_fn, allOne_cons, allOne_nil, Bool.and_true, Bool.and_self, Bool.true_and, cond_true, cond_false, setRange_nil, setRange_z, setRange_s, Option.map_some, slice_z, slice_c, slice_s, fillP_nil, fillP_cons, Option.bind_some, qBld_eq, qSt_ptr, qPtr_ptr, qRows_eq, putRow_one, putRow_nil, rep_zero, rep_succ, nx_push_i, get_push_i, AH.nx_set, get_set_i, okI_i, H0_nx, Nat.beq_refl, reduceIte, Nat.reduceEqDiff, ep69 s c hl]

def nullC : List AV := [.int .i64 1, .str [], .sl [] .nil, .sl [] .nil]
theorem ep50 (H : AH) : EP 50 [] H = some (.val (.agg nullC) H) := by
  refine pu_form e50 xf50 rfl rfl rfl ?_ H
  simp only [AV.kills, AV.kill, c50, r50_0, r50_1, z58, opn_z, opn_s, sel_z, sel_s, qCd_eq, qIf_true, qIf_false, qFn_eq, qBl_eq, qO_some, qRes_val, qHp_some, qPick_true, qPick_false, qG_tt, qG_ff, qG_tf, qG_ft, cellsK_some, qLd_ptr, qLd_vptr, qLdA_ptr, qLdA_vptr, qFa_ptr, qFa_vptr, qNc_ptr, qNc_vptr, qNc_fn, qNot_bool, qExt_tup, qCallV_fn, qLss_int, qLeq_int, qGtr_int, qGeq_int, qEql_int, qNeq_int, qAdd_int, qSub_int, qMul_int, qConvI_int, qLenL_sl, qLenL_hsl, qLenS_str, foldO, min2_int, max2_int, qSame_refl, List.getElem?_cons_zero, List.getElem?_cons_succ, List.nil_append, List.cons_append, List.append_nil, one_bool, one_int, one_str, one_nilp, one_ptr, one_sl, one_hsl, one_map, one_fn, List.length_cons, List.length_nil, List.set_cons_zero, List.set_cons_succ, Nat.reduceLT, Nat.reduceAdd, Nat.zero_add, qNew_i, qBox_i, wr_ptr, cells_agg, cells_str, cells_int, cells_bool, cells_sl, cells_ptr, cells_nilp, cells_hsl, cells_map, cells_fn, allOne_cons, allOne_nil, Bool.and_true, Bool.and_self, Bool.true_and, cond_true, cond_false, setRange_nil, setRange_z, setRange_s, Option.map_some, slice_z, slice_c, slice_s, fillP_nil, fillP_cons, Option.bind_some, qBld_eq, qSt_ptr, qPtr_ptr, qRows_eq, putRow_one, putRow_nil, rep_zero, rep_succ, nx_push_i, get_push_i, AH.nx_set, get_set_i, okI_i, H0_nx, Nat.beq_refl, reduceIte, Nat.reduceEqDiff]
  rfl

/-! ### the document's: types -/
def lastC (w : Str) : UInt8 := w.getLast?.getD 0
theorem ep63 (tn w : Str) (hl : w.length < 9223372036854775808) (H : AH) : EP 63 [.agg [.str tn, .str w]] H = some (.val (.int .u8 (lastC w).toNat) H) := by
  refine pu_form e63 xf63 rfl rfl rfl ?_ H
  rcases str_cases w with rfl | ⟨l, x, rfl⟩
  · simp only [AV.kills, AV.kill, c63, r63_0, r63_1, r63_2, opn_z, opn_s, sel_z, sel_s, qCd_eq, qIf_true, qIf_false, qFn_eq, qBl_eq, qO_some, qRes_val, qHp_some, qPick_true, qPick_false, qG_tt, qG_ff, qG_tf, qG_ft, cellsK_some, qLd_ptr, qLd_vptr, qLdA_ptr, qLdA_vptr, qFa_ptr, qFa_vptr, qNc_ptr, qNc_vptr, qNc_fn, qNot_bool, qExt_tup, qCallV_fn, qLss_int, qLeq_int, qGtr_int, qGeq_int, qEql_int, qNeq_int, qAdd_int, qSub_int, qMul_int, qConvI_int, qLenL_sl, qLenL_hsl, qLenS_str, foldO, min2_int, max2_int, qSame_refl, List.getElem?_cons_zero, List.getElem?_cons_succ, List.nil_append, List.cons_append, List.append_nil, one_bool, one_int, one_str, one_nilp, one_ptr, one_sl, one_hsl, one_map, one_fn, List.length_cons, List.length_nil, List.set_cons_zero, List.set_cons_succ, Nat.reduceLT, Nat.reduceAdd, Nat.zero_add, qNew_i, qBox_i, wr_ptr, cells_agg, cells_str, cells_int, cells_bool, cells_sl, cells_ptr, cells_nilp, cells_hsl, cells_map, cells_fn, allOne_cons, allOne_nil, Bool.and_true, Bool.and_self, Bool.true_and, cond_true, cond_false, setRange_nil, setRange_z, setRange_s, Option.map_some, slice_z, slice_c, slice_s, fillP_nil, fillP_cons, Option.bind_some, qBld_eq, qSt_ptr, qPtr_ptr, qRows_eq, putRow_one, putRow_nil, rep_zero, rep_succ, nx_push_i, get_push_i, AH.nx_set, get_set_i, okI_i, H0_nx, Nat.beq_refl, reduceIte, Nat.reduceEqDiff, qEql_str, decide_true]
    rfl
  · have h2 : IntKind.i64.wrap (((l ++ [x]).length : Int) - 1) = (l.length : Int) := by
      rw [i64_in' (by simp at hl ⊢; omega)]; simp
    have h3 : (decide (l ++ [x] = [])) = false := by simp
    have h4 : ∀ k : AV → Prop, qIx (.str (l ++ [x])) (.int .i64 (l.length : Int)) k = k (.int .u8 x.toNat) := fun k => by
      unfold qIx
      rw [natK_nat]
      simp [qO]
    simp only [AV.kills, AV.kill, c63, r63_0, r63_1, r63_3, opn_z, opn_s, sel_z, sel_s, qCd_eq, qIf_true, qIf_false, qFn_eq, qBl_eq, qO_some, qRes_val, qHp_some, qPick_true, qPick_false, qG_tt, qG_ff, qG_tf, qG_ft, cellsK_some, qLd_ptr, qLd_vptr, qLdA_ptr, qLdA_vptr, qFa_ptr, qFa_vptr, qNc_ptr, qNc_vptr, qNc_fn, qNot_bool, qExt_tup, qCallV_fn, qLss_int, qLeq_int, qGtr_int, qGeq_int, qEql_int, qNeq_int, qAdd_int, qSub_int, qMul_int, qConvI_int, qLenL_sl, qLenL_hsl, qLenS_str, foldO, min2_int, max2_int, qSame_refl, List.getElem?_cons_zero, List.getElem?_cons_succ, List.nil_append, List.cons_append, List.append_nil, one_bool, one_int, one_str, one_nilp, one_ptr, one_sl, one_hsl, one_map, one_fn, List.length_cons, List.length_nil, List.set_cons_zero, List.set_cons_succ, Nat.reduceLT, Nat.reduceAdd, Nat.zero_add, qNew_i, qBox_i, wr_ptr, cells_agg, cells_str, cells_int, cells_bool, cells_sl, cells_ptr, cells_nilp, cells_hsl, cells_map, cells_fn, allOne_cons, allOne_nil, Bool.and_true, Bool.and_self, Bool.true_and, cond_true, cond_false, setRange_nil, setRange_z, setRange_s, Option.map_some, slice_z, slice_c, slice_s, fillP_nil, fillP_cons, Option.bind_some, qBld_eq, qSt_ptr, qPtr_ptr, qRows_eq, putRow_one, putRow_nil, rep_zero, rep_succ, nx_push_i, get_push_i, AH.nx_set, get_set_i, okI_i, H0_nx, Nat.beq_refl, reduceIte, Nat.reduceEqDiff, qEql_str, h3, h2, h4]
    simp [lastC]

theorem ep70 (tn w : Str) (hl : w.length < 9223372036854775808) (H : AH) : EP 70 [.agg [.str tn, .str w]] H = some (.val (.agg [.str tn, .str w.dropLast]) H) := by
  refine pu_form e70 xf70 rfl rfl rfl ?_ H
  rcases str_cases w with rfl | ⟨l, x, rfl⟩
  · simp only [AV.kills, AV.kill, c70, r70_0, r70_1, r70_2, z54, opn_z, opn_s, sel_z, sel_s, qCd_eq, qIf_true, qIf_false, qFn_eq, qBl_eq, qO_some, qRes_val, qHp_some, qPick_true, qPick_false, qG_tt, qG_ff, qG_tf, qG_ft, cellsK_some, qLd_ptr, qLd_vptr, qLdA_ptr, qLdA_vptr, qFa_ptr, qFa_vptr, qNc_ptr, qNc_vptr, qNc_fn, qNot_bool, qExt_tup, qCallV_fn, qLss_int, qLeq_int, qGtr_int, qGeq_int, qEql_int, qNeq_int, qAdd_int, qSub_int, qMul_int, qConvI_int, qLenL_sl, qLenL_hsl, qLenS_str, foldO, min2_int, max2_int, qSame_refl, List.getElem?_cons_zero, List.getElem?_cons_succ, List.nil_append, List.cons_append, List.append_nil, one_bool, one_int, one_str, one_nilp, one_ptr, one_sl, one_hsl, one_map, one_fn, List.length_cons, List.length_nil, List.set_cons_zero, List.set_cons_succ, Nat.reduceLT, Nat.reduceAdd, Nat.zero_add, qNew_i, qBox_i, wr_ptr, cells_agg, cells_str, cells_int, cells_bool, cells_sl, cells_ptr, cells_nilp, cells_hsl, cells_map, cells_fn, allOne_cons, allOne_nil, Bool.and_true, Bool.and_self, Bool.true_and, cond_true, cond_false, setRange_nil, setRange_z, setRange_s, Option.map_some, slice_z, slice_c, slice_s, fillP_nil, fillP_cons, Option.bind_some, qBld_eq, qSt_ptr, qPtr_ptr, qRows_eq, putRow_one, putRow_nil, rep_zero, rep_succ, nx_push_i, get_push_i, AH.nx_set, get_set_i, okI_i, H0_nx, Nat.beq_refl, reduceIte, Nat.reduceEqDiff, qEql_str, decide_true]
    rfl
  · have h2 : IntKind.i64.wrap (((l ++ [x]).length : Int) - 1) = (l.length : Int) := by
      rw [i64_in' (by simp at hl ⊢; omega)]; simp
    have h3 : (decide (l ++ [x] = [])) = false := by simp
    simp only [AV.kills, AV.kill, c70, r70_0, r70_1, r70_3, z54, opn_z, opn_s, sel_z, sel_s, qCd_eq, qIf_true, qIf_false, qFn_eq, qBl_eq, qO_some, qRes_val, qHp_some, qPick_true, qPick_false, qG_tt, qG_ff, qG_tf, qG_ft, cellsK_some, qLd_ptr, qLd_vptr, qLdA_ptr, qLdA_vptr, qFa_ptr, qFa_vptr, qNc_ptr, qNc_vptr, qNc_fn, qNot_bool, qExt_tup, qCallV_fn, qLss_int, qLeq_int, qGtr_int, qGeq_int, qEql_int, qNeq_int, qAdd_int, qSub_int, qMul_int, qConvI_int, qLenL_sl, qLenL_hsl, qLenS_str, foldO, min2_int, max2_int, qSame_refl, List.getElem?_cons_zero, List.getElem?_cons_succ, List.nil_append, List.cons_append, List.append_nil, one_bool, one_int, one_str, one_nilp, one_ptr, one_sl, one_hsl, one_map, one_fn, List.length_cons, List.length_nil, List.set_cons_zero, List.set_cons_succ, Nat.reduceLT, Nat.reduceAdd, Nat.zero_add, qNew_i, qBox_i, wr_ptr, cells_agg, cells_str, cells_int, cells_bool, cells_sl, cells_ptr, cells_nilp, cells_hsl, cells_map, cells_fn, allOne_cons, allOne_nil, Bool.and_true, Bool.and_self, Bool.true_and, cond_true, cond_false, setRange_nil, setRange_z, setRange_s, Option.map_some, slice_z, slice_c, slice_s, fillP_nil, fillP_cons, Option.bind_some, qBld_eq, qSt_ptr, qPtr_ptr, qRows_eq, putRow_one, putRow_nil, rep_zero, rep_succ, nx_push_i, get_push_i, AH.nx_set, get_set_i, okI_i, H0_nx, Nat.beq_refl, reduceIte, Nat.reduceEqDiff, qEql_str, h3, h2, slcS_hi _ _ (show l.length ≤ (l ++ [x]).length by simp), List.take_left, List.dropLast_concat]

theorem lastC_eq (w : Str) (c : UInt8) (hc : c ≠ 0) : (((lastC w).toNat : Int) == (c.toNat : Int)) = ends w c := by
  rw [Bool.eq_iff_iff]
  simp only [ends, lastC, beq_iff_eq, decide_eq_true_eq]
  cases w.getLast? with
  | none =>
    simp only [Option.getD_none, reduceCtorEq, iff_false]
    intro h
    exact hc (UInt8.toNat_inj.1 (by omega))
  | some x =>
    simp only [Option.getD_some, Option.some.injEq]
    exact ⟨fun h => UInt8.toNat_inj.1 (by omega), fun h => by rw [h]⟩

theorem ep66 (tn w : Str) (hl : w.length < 9223372036854775808) (H : AH) : EP 66 [.agg [.str tn, .str w]] H = some (.val (.agg [.str tn, .str (cutE w 33)]) H) := by
  refine pu_form e66 xf66 rfl rfl rfl ?_ H
  have hE := lastC_eq w 33 (by decide)
  have h33 : ((33 : UInt8).toNat : Int) = 33 := rfl
  rw [h33] at hE
  rcases hc : ends w 33 with _ | _
  · have h : ¬ w.getLast? = some 33 := by simpa [ends] using hc
    simp only [AV.kills, AV.kill, c66, r66_0, r66_1, r66_3, z54, opn_z, opn_s, sel_z, sel_s, qCd_eq, qIf_true, qIf_false, qFn_eq, qBl_eq, qO_some, qRes_val, qHp_some, qPick_true, qPick_false, qG_tt, qG_ff, qG_tf, qG_ft, cellsK_some, qLd_ptr, qLd_vptr, qLdA_ptr, qLdA_vptr, qFa_ptr, qFa_vptr, qNc_ptr, qNc_vptr, qNc_fn, qNot_bool, qExt_tup, qCallV_fn, qLss_int, qLeq_int, qGtr_int, qGeq_int, qEql_int, qNeq_int, qAdd_int, qSub_int, qMul_int, qConvI_int, qLenL_sl, qLenL_hsl, qLenS_str, foldO, min2_int, max2_int, qSame_refl, List.getElem?_cons_zero, List.getElem?_cons_succ, List.nil_append, List.cons_append, List.append_nil, one_bool, one_int, one_str, one_nilp, one_ptr, one_sl, one_hsl, one_map, one_fn, List.length_cons, List.length_nil, List.set_cons_zero, List.set_cons_succ, Nat.reduceLT, Nat.reduceAdd, Nat.zero_add, qNew_i, qBox_i, wr_ptr, cells_agg, cells_str, cells_int, cells_bool, cells_sl, cells_ptr, cells_nilp, cells_hsl, cells_map, cells_fn, allOne_cons, allOne_nil, Bool.and_true, Bool.and_self, Bool.true_and, cond_true, cond_false, setRange_nil, setRange_z, setRange_s, Option.map_some, slice_z, slice_c, slice_s, fillP_nil, fillP_cons, Option.bind_some, qBld_eq, qSt_ptr, qPtr_ptr, qRows_eq, putRow_one, putRow_nil, rep_zero, rep_succ, nx_push_i, get_push_i, AH.nx_set, get_set_i, okI_i, H0_nx, Nat.beq_refl, reduceIte, Nat.reduceEqDiff, ep63 tn w hl, hE, hc, cutE, if_neg h]
  · have h : w.getLast? = some 33 := by simpa [ends] using hc
    simp only [AV.kills, AV.kill, c66, r66_0, r66_1, r66_2, z54, opn_z, opn_s, sel_z, sel_s, qCd_eq, qIf_true, qIf_false, qFn_eq, qBl_eq, qO_some, qRes_val, qHp_some, qPick_true, qPick_false, qG_tt, qG_ff, qG_tf, qG_ft, cellsK_some, qLd_ptr, qLd_vptr, qLdA_ptr, qLdA_vptr, qFa_ptr, qFa_vptr, qNc_ptr, qNc_vptr, qNc_fn, qNot_bool, qExt_tup, qCallV_fn, qLss_int, qLeq_int, qGtr_int, qGeq_int, qEql_int, qNeq_int, qAdd_int, qSub_int, qMul_int, qConvI_int, qLenL_sl, qLenL_hsl, qLenS_str, foldO, min2_int, max2_int, qSame_refl, List.getElem?_cons_zero, List.getElem?_cons_succ, List.nil_append, List.cons_append, List.append_nil, one_bool, one_int, one_str, one_nilp, one_ptr, one_sl, one_hsl, one_map, one_fn, List.length_cons, List.length_nil, List.set_cons_zero, List.set_cons_succ, Nat.reduceLT, Nat.reduceAdd, Nat.zero_add, qNew_i, qBox_i, wr_ptr, cells_agg, cells_str, cells_int, cells_bool, cells_sl, cells_ptr, cells_nilp, cells_hsl, cells_map, cells_fn, allOne_cons, allOne_nil, Bool.and_true, Bool.and_self, Bool.true_and, cond_true, cond_false, setRange_nil, setRange_z, setRange_s, Option.map_some, slice_z, slice_c, slice_s, fillP_nil, fillP_cons, Option.bind_some, qBld_eq, qSt_ptr, qPtr_ptr, qRows_eq, putRow_one, putRow_nil, rep_zero, rep_succ, nx_push_i, get_push_i, AH.nx_set, get_set_i, okI_i, H0_nx, Nat.beq_refl, reduceIte, Nat.reduceEqDiff, ep63 tn w hl, ep70 tn w hl, hE, hc, cutE, if_pos h]

end T
set_option linter.unusedVariables false
set_option linter.unusedSimpArgs false
set_option maxRecDepth 10000
namespace T
open Go Go.Aes Go.Proofs

/-! ### values, nodes, faults -/
inductive Val where
  | mk (kind : Int) (s : Str) (names : List Str) (list : List Val)

inductive Nd where
  | mk (kind : Int) (key tn w : Str) (val : Val) (what : Str) (kids : List Nd)

def Nd.key : Nd → Str
  | .mk _ key _ _ _ _ _ => key
def Nd.tn : Nd → Str
  | .mk _ _ tn _ _ _ _ => tn
def Nd.w : Nd → Str
  | .mk _ _ _ w _ _ _ => w

structure Fau where
  what : Str
  path : List (Str × Int)

def strRows (l : List Str) : List (List AV) := l.map fun s => [.str s]
def pRows (l : List (Str × Int)) : List (List AV) := l.map fun x => [.str x.1, .int .i64 x.2]

mutual
def EV : Val → List AV → Prop
  | .mk k s ns l, row => ∃ t1 t2 rows, row = [.int .i64 k, .str s, .sl (strRows ns) t1, .sl rows t2] ∧ EVs l rows
def EVs : List Val → List (List AV) → Prop
  | [], rows => rows = []
  | v :: l, rows => ∃ r rs, rows = r :: rs ∧ EV v r ∧ EVs l rs
end

mutual
def EN : Nd → List AV → Prop
  | .mk kind key tn w val what kids, row => ∃ a b c d t rows, EV val [a, b, c, d] ∧ row = [.int .i64 kind, .str key, .str tn, .str w, a, b, c, d, .str what, .sl rows t] ∧ ENs kids rows
def ENs : List Nd → List (List AV) → Prop
  | [], rows => rows = []
  | n :: l, rows => ∃ r rs, rows = r :: rs ∧ EN n r ∧ ENs l rs
end

def EF (f : Fau) (row : List AV) : Prop := ∃ tk, row = [.str f.what, .sl (pRows f.path) tk]
def EFs : List Fau → List (List AV) → Prop
  | [], rows => rows = []
  | f :: l, rows => ∃ r rs, rows = r :: rs ∧ EF f r ∧ EFs l rs

theorem EFs.append : ∀ {a b : List Fau} {ra rb : List (List AV)}, EFs a ra → EFs b rb → EFs (a ++ b) (ra ++ rb)
  | [], b, ra, rb, ha, hb => by cases ha; exact hb
  | f :: a, b, ra, rb, ⟨r, rs, h1, h2, h3⟩, hb => by subst h1; exact ⟨r, rs ++ rb, rfl, h2, EFs.append h3 hb⟩
theorem EFs.one {f : Fau} {r : List AV} (h : EF f r) : EFs [f] [r] := ⟨r, [], rfl, h, rfl⟩
theorem EFs.len : ∀ {a : List Fau} {ra : List (List AV)}, EFs a ra → ra.length = a.length
  | [], ra, h => by cases h; rfl
  | f :: a, ra, ⟨r, rs, h1, h2, h3⟩ => by subst h1; simp [EFs.len h3]
theorem EFs.two : ∀ {a : List Fau} {ra : List (List AV)}, EFs a ra → ∀ x ∈ ra, x.length = 2
  | [], ra, h, x, hx => by cases h; cases hx
  | f :: a, ra, ⟨r, rs, h1, h2, h3⟩, x, hx => by
    subst h1
    rcases List.mem_cons.1 hx with rfl | hx
    · obtain ⟨tk, rfl⟩ := h2; rfl
    · exact EFs.two h3 x hx
theorem EFs.get : ∀ {a : List Fau} {ra : List (List AV)}, EFs a ra → ∀ {i : Nat} {f : Fau}, a[i]? = some f → ∃ r, ra[i]? = some r ∧ EF f r
  | [], ra, h, i, f, hi => by simp at hi
  | g :: a, ra, ⟨r, rs, h1, h2, h3⟩, i, f, hi => by
    subst h1
    cases i with
    | zero => simp at hi; subst hi; exact ⟨r, rfl, h2⟩
    | succ i => simp at hi ⊢; exact EFs.get h3 hi

theorem EV.four {v : Val} {r : List AV} (h : EV v r) : r.length = 4 := by
  cases v; obtain ⟨t1, t2, rows, rfl, _⟩ := h; rfl
theorem EV.ones {v : Val} {r : List AV} (h : EV v r) : allOne r = true := by
  cases v; obtain ⟨t1, t2, rows, rfl, _⟩ := h; rfl
theorem EVs.append : ∀ {a b : List Val} {ra rb : List (List AV)}, EVs a ra → EVs b rb → EVs (a ++ b) (ra ++ rb)
  | [], b, ra, rb, ha, hb => by cases ha; exact hb
  | f :: a, b, ra, rb, ⟨r, rs, h1, h2, h3⟩, hb => by subst h1; exact ⟨r, rs ++ rb, rfl, h2, EVs.append h3 hb⟩
theorem EVs.one {f : Val} {r : List AV} (h : EV f r) : EVs [f] [r] := ⟨r, [], rfl, h, rfl⟩
theorem EVs.len : ∀ {a : List Val} {ra : List (List AV)}, EVs a ra → ra.length = a.length
  | [], ra, h => by cases h; rfl
  | f :: a, ra, ⟨r, rs, h1, h2, h3⟩ => by subst h1; simp [EVs.len h3]
theorem EVs.four : ∀ {a : List Val} {ra : List (List AV)}, EVs a ra → ∀ x ∈ ra, x.length = 4
  | [], ra, h, x, hx => by cases h; cases hx
  | f :: a, ra, ⟨r, rs, h1, h2, h3⟩, x, hx => by
    subst h1
    rcases List.mem_cons.1 hx with rfl | hx
    · exact h2.four
    · exact EVs.four h3 x hx
theorem EVs.get : ∀ {a : List Val} {ra : List (List AV)}, EVs a ra → ∀ {i : Nat} {f : Val}, a[i]? = some f → ∃ r, ra[i]? = some r ∧ EV f r
  | [], ra, h, i, f, hi => by simp at hi
  | g :: a, ra, ⟨r, rs, h1, h2, h3⟩, i, f, hi => by
    subst h1
    cases i with
    | zero => simp at hi; subst hi; exact ⟨r, rfl, h2⟩
    | succ i => simp at hi ⊢; exact EVs.get h3 hi
theorem ENs.len : ∀ {a : List Nd} {ra : List (List AV)}, ENs a ra → ra.length = a.length
  | [], ra, h => by cases h; rfl
  | f :: a, ra, ⟨r, rs, h1, h2, h3⟩ => by subst h1; simp [ENs.len h3]
theorem ENs.get : ∀ {a : List Nd} {ra : List (List AV)}, ENs a ra → ∀ {i : Nat} {f : Nd}, a[i]? = some f → ∃ r, ra[i]? = some r ∧ EN f r
  | [], ra, h, i, f, hi => by simp at hi
  | g :: a, ra, ⟨r, rs, h1, h2, h3⟩, i, f, hi => by
    subst h1
    cases i with
    | zero => simp at hi; subst hi; exact ⟨r, rfl, h2⟩
    | succ i => simp at hi ⊢; exact ENs.get h3 hi

/-! ### what a node comes to -/
def nullV : Val := .mk 1 [] [] []
def sNULL : Str := [78, 85, 76, 76]

mutual
def nodeF (w : Str) (path : List (Str × Int)) : Nd → Val × Bool × List Fau
  | .mk kind key tn w0 val what kids =>
    if kind = 1 then (val, true, [])
    else if kind = 3 then (nullV, !ends w 33, [⟨what, path⟩])
    else if kind = 4 then
      (if (itemsF (cutE (cutE w 33) 93) path 0 kids).2.1 then (.mk 7 [] [] (itemsF (cutE (cutE w 33) 93) path 0 kids).1, true, (itemsF (cutE (cutE w 33) 93) path 0 kids).2.2)
        else (nullV, !ends w 33, (itemsF (cutE (cutE w 33) 93) path 0 kids).2.2))
    else if kind = 5 then
      (if (fieldsF path kids).2.1 then (.mk 8 [] (kids.map Nd.key) (fieldsF path kids).1, true, (fieldsF path kids).2.2)
        else (nullV, !ends w 33, (fieldsF path kids).2.2))
    else (nullV, !ends w 33, if ends w 33 then [⟨sNULL, path⟩] else [])
def itemsF (w : Str) (path : List (Str × Int)) (i : Nat) : List Nd → List Val × Bool × List Fau
  | [] => ([], true, [])
  | n :: l => ((nodeF w (path ++ [([], (i : Int))]) n).1 :: (itemsF w path (i + 1) l).1, (nodeF w (path ++ [([], (i : Int))]) n).2.1 && (itemsF w path (i + 1) l).2.1,
      (nodeF w (path ++ [([], (i : Int))]) n).2.2 ++ (itemsF w path (i + 1) l).2.2)
def fieldsF (path : List (Str × Int)) : List Nd → List Val × Bool × List Fau
  | [] => ([], true, [])
  | n :: l => ((nodeF n.w (path ++ [(n.key, 0)]) n).1 :: (fieldsF path l).1, (nodeF n.w (path ++ [(n.key, 0)]) n).2.1 && (fieldsF path l).2.1,
      (nodeF n.w (path ++ [(n.key, 0)]) n).2.2 ++ (fieldsF path l).2.2)
end

def finF (l : List Nd) : Val × List Fau := (if (fieldsF [] l).2.1 then .mk 8 [] (l.map Nd.key) (fieldsF [] l).1 else nullV, (fieldsF [] l).2.2)

/-! ### how much there is -/
mutual
def tot : Nd → Nat
  | .mk _ _ _ _ _ _ kids => 1 + tots kids
def tots : List Nd → Nat
  | [] => 0
  | n :: l => tot n + tots l
end
mutual
def wok : Nd → Prop
  | .mk _ _ _ w _ _ kids => w.length ≤ 9223372036854775807 ∧ woks kids
def woks : List Nd → Prop
  | [] => True
  | n :: l => wok n ∧ woks l
end

theorem tots_len : ∀ l : List Nd, l.length ≤ tots l
  | [] => by simp [tots]
  | n :: l => by
    have := tots_len l
    have : 1 ≤ tot n := by cases n; simp only [tot]; omega
    simp only [tots, List.length_cons]; omega

mutual
theorem nodeF_len : ∀ (n : Nd) (w : Str) (path : List (Str × Int)), (nodeF w path n).2.2.length ≤ tot n
  | .mk kind key tn w0 val what kids, w, path => by
    have h1 := itemsF_len kids (cutE (cutE w 33) 93) path 0
    have h2 := fieldsF_len kids path
    simp only [nodeF, tot]
    split
    · simp
    · split
      · simp
      · split
        · split <;> (simp only []; omega)
        · split
          · split <;> (simp only []; omega)
          · simp only []; split <;> simp
theorem itemsF_len : ∀ (l : List Nd) (w : Str) (path : List (Str × Int)) (i : Nat), (itemsF w path i l).2.2.length ≤ tots l
  | [], w, path, i => by simp [itemsF]
  | n :: l, w, path, i => by
    have h1 := nodeF_len n w (path ++ [([], (i : Int))])
    have h2 := itemsF_len l w path (i + 1)
    simp only [itemsF, tots, List.length_append]; omega
theorem fieldsF_len : ∀ (l : List Nd) (path : List (Str × Int)), (fieldsF path l).2.2.length ≤ tots l
  | [], path => by simp [fieldsF]
  | n :: l, path => by
    have h1 := nodeF_len n n.w (path ++ [(n.key, 0)])
    have h2 := fieldsF_len l path
    simp only [fieldsF, tots, List.length_append]; omega
end

theorem cutE_len (w : Str) (c : UInt8) : (cutE w c).length ≤ w.length := by
  unfold cutE; split
  · simp
  · exact Nat.le_refl _

/-! ### faults under way -/
/-- the faults at a place -/
def FS (H : AH) (p : Nat) (fs : List Fau) : Prop := ∃ v rows, H.get p = some (.cells [v]) ∧ Ow H v rows ∧ EFs fs rows
/-- what telling a fault may turn -/
def Tch (H : AH) (p j : Nat) : Prop := j = p ∨ ∃ v, H.get p = some (.cells [v]) ∧ tkOf v j

structure St (H H' : AH) (p : Nat) : Prop where
  ex : Kp H H' (Tch H p)
  tt : ∀ j, j < H.nx → Tch H' p j → Tch H p j

theorem St.trans {H H1 H2 : AH} {p : Nat} (h : St H H1 p) (k : St H1 H2 p) : St H H2 p :=
  ⟨h.ex.trans k.ex fun j hj ht => h.tt j hj ht, fun j hj ht => h.tt j hj (k.tt j (Nat.lt_of_lt_of_le hj h.ex.nx) ht)⟩

theorem St.of_ex {H H1 : AH} {p : Nat} {P : Nat → Prop} (h : Kp H H1 P) (hp : p < H.nx) (hn : ¬ P p) (hP : ∀ j, j < H.nx → ¬ P j) : St H H1 p :=
  ⟨h.mono fun j hj hq => absurd hq (hP j hj), fun j hj ht => by
    have e := h.keep p hp hn
    rcases ht with rfl | ⟨v, hv, ht⟩
    · exact .inl rfl
    · exact .inr ⟨v, e ▸ hv, ht⟩⟩

theorem St.refl {H : AH} [IsFn H] {p : Nat} : St H H p := ⟨.refl _, fun _ _ h => h⟩

theorem FS.lt {H : AH} [IsFn H] {p : Nat} {fs : List Fau} (h : FS H p fs) : p < H.nx := by
  obtain ⟨v, rows, h1, _⟩ := h
  exact lt_i h1

theorem FS.tch_lt {H : AH} [IsFn H] {p : Nat} {fs : List Fau} (h : FS H p fs) {j : Nat} (hj : Tch H p j) : j < H.nx := by
  obtain ⟨v, rows, h1, h2, _⟩ := h
  rcases hj with rfl | ⟨v', hv, ht⟩
  · exact lt_i h1
  · rw [h1] at hv; injection hv with hv; injection hv with hv; injection hv with hv; subst hv
    exact lt_i (h2.tok ht)

/-- cells are not told at -/
theorem FS.not_cells {H : AH} {p : Nat} {fs : List Fau} (h : FS H p fs) {j : Nat} {cs : List AV} (hj : H.get j = some (.cells cs)) (hp : j ≠ p) : ¬ Tch H p j := by
  obtain ⟨v, rows, h1, h2, _⟩ := h
  rintro (rfl | ⟨v', hv, ht⟩)
  · exact hp rfl
  · rw [h1] at hv; injection hv with hv; injection hv with hv; injection hv with hv; subst hv
    rw [h2.tok ht] at hj; cases hj

theorem FS.keep {H H1 : AH} [IsFn H] {p : Nat} {fs : List Fau} {P : Nat → Prop} (h : FS H p fs) (e : Kp H H1 P) (hP : ∀ j, Tch H p j → ¬ P j) : FS H1 p fs := by
  have h' := h
  obtain ⟨v, rows, h1, h2, h3⟩ := h
  refine ⟨v, rows, (e.keep p (lt_i h1) (hP p (.inl rfl))).trans h1, h2.keep fun j hj => ?_, h3⟩
  have : Tch H p j := .inr ⟨v, h1, hj⟩
  exact e.keep j (h'.tch_lt this) (hP j this)

/-- Tch again, where the place was kept -/
theorem Tch.eq {H H1 : AH} {p : Nat} (h : H1.get p = H.get p) (j : Nat) : Tch H1 p j ↔ Tch H p j := by unfold Tch; rw [h]

theorem pRows_len (l : List (Str × Int)) : (pRows l).length = l.length := by simp [pRows]
theorem pRows_two (l : List (Str × Int)) : ∀ x ∈ pRows l, x.length = 2 := by
  intro x hx
  obtain ⟨y, _, rfl⟩ := List.mem_map.1 hx
  rfl
theorem pRows_app (l : List (Str × Int)) (s : Str) (i : Int) : pRows l ++ [[.str s, .int .i64 i]] = pRows (l ++ [(s, i)]) := by simp [pRows]

/-- a path, copied -/
theorem app_path {H : AH} [IsFn H] (path : List (Str × Int)) (tk tk0 : Tk) (h0 : tk0 = .nil ∨ tk0 = .full) (hl : path.length ≤ 100000000000) :
    ∃ tk' H', (∀ k : AV → AH → Prop, qApp 2 24 (.sl [] tk0) (.sl (pRows path) tk) false H k = k (.sl (pRows path) tk') H') ∧ (tk' = .nil ∨ tk' = .full ∨ ∃ t, tk' = .own t) ∧ Kp H H' (fun _ => False) := by
  have hr : readRows 2 (.sl (pRows path) tk) H = some (pRows path) := by
    have : (pRows path).all (fun r => r.length.beq 2) = true := by
      rw [List.all_eq_true]; intro x hx; rw [pRows_two path x hx]; rfl
    simp only [readRows, this, cond_true]
  cases path with
  | nil =>
    refine ⟨tk0, H, fun k => ?_, by rcases h0 with rfl | rfl <;> simp, .refl _⟩
    have : Aes.app 2 24 (.sl [] tk0) (.sl (pRows []) tk) false H = some (.sl [] tk0, H) := by
      unfold Aes.app
      rw [hr]
      rcases h0 with rfl | rfl <;> rfl
    unfold qApp
    rw [this]; rfl
  | cons z zs =>
    refine ⟨.own H.nx, H.push .tok, fun k => ?_, .inr (.inr ⟨_, rfl⟩), Kp.push _ _⟩
    have hl : ((pRows (z :: zs)).length * (24 + 1)).blt most = true := by
      rw [Nat.blt_eq, pRows_len]
      unfold most
      omega
    have : Aes.app 2 24 (.sl [] tk0) (.sl (pRows (z :: zs)) tk) false H = some (.sl (pRows (z :: zs)) (.own H.nx), H.push .tok) := by
      unfold Aes.app
      rw [hr]
      have h2 : (!((([] : List (List AV)).length + (pRows (z :: zs)).length) * (24 + 1)).blt most || !([] : List (List AV)).all (fun r => r.length.beq 2)) = false := by
        rw [List.length_nil, Nat.zero_add, hl]; rfl
      simp only [h2, cond_false]
      have h3 : (pRows (z :: zs)).isEmpty = false := rfl
      have h1 : ((2 : Nat).beq 0 || !(24 : Nat).ble 100000) = false := rfl
      simp only [h1, cond_false]
      rcases h0 with rfl | rfl <;> simp only [h3, cond_false, new_i, List.nil_append]
    unfold qApp
    rw [this]; rfl

/-- one step more of a path: in a new place -/
theorem app_step {H : AH} [IsFn H] (path : List (Str × Int)) (tk tk0 : Tk) (h0 : tk0 = .nil ∨ tk0 = .full) (hl : path.length ≤ 100000000000) (s : Str) (i : Int) :
    ∃ t H', (∀ k : AV → AH → Prop, qApp 2 24 (.sl (pRows path) tk0) (.sl [[.str s, .int .i64 i]] tk) false H k = k (.sl (pRows (path ++ [(s, i)])) (.own t)) H') ∧ Kp H H' (fun _ => False) := by
  refine ⟨H.nx, H.push .tok, fun k => ?_, Kp.push .tok _⟩
  unfold qApp
  rw [app_new (n := 2) rfl (by decide) (by decide) (by rw [pRows_len]; unfold most; omega) (pRows_two path) h0, qHp_some, pRows_app]

/-- the document's way: copied, and one step more -/
theorem app_two {H : AH} [IsFn H] (path : List (Str × Int)) (tk : Tk) (hl : path.length ≤ 100000000000) (s : Str) (i : Int) :
    ∃ v1 H1 t H2, (∀ k : AV → AH → Prop, qApp 2 24 (.sl [] .nil) (.sl (pRows path) tk) false H k = k v1 H1) ∧ (∀ k : AV → AH → Prop, qApp 2 24 v1 (.sl [[.str s, .int .i64 i]] .full) false H1 k = k (.sl (pRows (path ++ [(s, i)])) (.own t)) H2) ∧
      Kp H H1 (fun _ => False) ∧ Kp H H2 (fun _ => False) := by
  cases path with
  | nil =>
    obtain ⟨t, H', h1, h2⟩ := app_step [] .full .nil (.inl rfl) (by simp) s i (H := H)
    refine ⟨.sl [] .nil, H, t, H', fun k => ?_, h1, .refl _, h2⟩
    have hr : readRows 2 (.sl (pRows []) tk) H = some [] := rfl
    have : Aes.app 2 24 (.sl [] .nil) (.sl (pRows []) tk) false H = some (.sl [] .nil, H) := by
      unfold Aes.app
      rw [hr]; rfl
    unfold qApp
    rw [this]; rfl
  | cons z zs =>
    have hr : readRows 2 (.sl (pRows (z :: zs)) tk) H = some (pRows (z :: zs)) := by
      have : (pRows (z :: zs)).all (fun r => r.length.beq 2) = true := by
        rw [List.all_eq_true]; intro x hx; rw [pRows_two _ x hx]; rfl
      simp only [readRows, this, cond_true]
    have h1 : Aes.app 2 24 (.sl [] .nil) (.sl (pRows (z :: zs)) tk) false H = some (.sl (pRows (z :: zs)) (.own H.nx), H.push .tok) := by
      unfold Aes.app
      rw [hr]
      have hl : ((pRows (z :: zs)).length * (24 + 1)).blt most = true := by
        rw [Nat.blt_eq, pRows_len]
        unfold most
        omega
      have h2 : (!((([] : List (List AV)).length + (pRows (z :: zs)).length) * (24 + 1)).blt most || !([] : List (List AV)).all (fun r => r.length.beq 2)) = false := by
        rw [List.length_nil, Nat.zero_add, hl]; rfl
      simp only [h2, cond_false]
      have h3 : (pRows (z :: zs)).isEmpty = false := rfl
      have h1 : ((2 : Nat).beq 0 || !(24 : Nat).ble 100000) = false := rfl
      simp only [h1, cond_false, h3, new_i, List.nil_append]
    have h2 := app_own (H := H.push .tok) (n := 2) (b := 24) (t := H.nx) (rows := pRows (z :: zs)) (tk' := .full) (r := [.str s, .int .i64 i]) rfl (by decide) (by decide) (by rw [pRows_len]; unfold most; omega) (pRows_two _) (by simp [pRows]) rfl (get_push_at _)
    rw [pRows_app] at h2
    refine ⟨.sl (pRows (z :: zs)) (.own H.nx), H.push .tok, (H.push .tok).nx, ((H.push .tok).set H.nx none).push .tok, fun k => ?_, fun k => ?_, Kp.push _ _, ?_⟩
    · unfold qApp
      rw [h1, qHp_some]
    · unfold qApp
      rw [h2, qHp_some]
    · have e1 : Kp H (H.push .tok) (fun _ => False) := Kp.push _ _
      have e2 : Kp (H.push .tok) ((H.push .tok).set H.nx none) (· = H.nx) := Kp.set none (by rw [nx_push_i]; omega)
      have e3 : Kp ((H.push .tok).set H.nx none) (((H.push .tok).set H.nx none).push .tok) (fun _ => False) := Kp.push _ _
      exact (e1.trans e2 (fun j hj h => by omega)).trans e3 (fun _ _ h => h)

end T
set_option linter.unusedVariables false
set_option linter.unusedSimpArgs false
set_option maxRecDepth 10000
namespace T
open Go Go.Aes Go.Proofs

theorem setRange_whole (cs l : List AV) (h : cs.length = l.length) : setRange cs 0 l = some l := by
  unfold setRange
  have : (0 + l.length).ble cs.length = true := by simp [h]
  rw [this]
  simp only [cond_true, List.take_zero, List.nil_append, Nat.zero_add, Option.some.injEq]
  rw [← h, List.drop_length, List.append_nil]

theorem qSt_whole {H : AH} [IsFn H] {i n : Nat} {cs l : List AV} (hg : H.get i = some (.cells cs)) (hc : cs.length = n) (hl : l.length = n) (ha : allOne l = true) (k : AV → AH → Prop) :
    qSt n (.ptr i 0) (.agg l) H k = k undef (H.set i (some (.cells l))) := by
  have hn : l.length.beq n = true := by rw [hl]; exact Nat.beq_refl n
  have hb : (l.length.beq n && allOne l && H.okI i) = true := by
    rw [hn, ha, okI_i (lt_i hg)]; rfl
  rw [qSt_ptr, cells_agg]
  simp only [hb, cond_true, hg, cellsK_some, setRange_whole cs l (by rw [hc, hl]), qO_some]

theorem qKeep_of {H : AH} {i : Nat} {z : List AV} (h : H.get i = some (.cells z)) (k : Prop) : qKeep z (.ptr i 0) H k = k := by
  simp [qKeep, h, cellsK_some, beqVs_refl]

theorem slice_whole (l : List AV) (n : Nat) (h : l.length = n) : slice? l 0 n = some l := by
  subst h; simp [slice?]

theorem qLdA_whole {H : AH} {i n : Nat} {cs : List AV} (hg : H.get i = some (.cells cs)) (hc : cs.length = n) (k : AV → Prop) : qLdA n (.ptr i 0) H k = k (.agg cs) := by
  rw [qLdA_ptr, hg, cellsK_some, slice_whole cs n hc, qO_some]
theorem ldA {H : AH} {i n : Nat} {cs l : List AV} (hg : H.get i = some (.cells cs)) (o : Nat) (hc : slice? cs o n = some l) (k : AV → Prop) : qLdA n (.ptr i o) H k = k (.agg l) := by
  rw [qLdA_ptr, hg, cellsK_some, hc, qO_some]
theorem ld1 {H : AH} {i : Nat} {cs : List AV} (hg : H.get i = some (.cells cs)) (o : Nat) (v : AV) (h : cs[o]? = some v) (k : AV → Prop) : qLd (.ptr i o) H k = k v := by
  rw [qLd_ptr, hg, cellsK_some, h, qO_some]

theorem bnd_len (n : Nat) (d : Nat) : bnd (some (.int .i64 (n : Int))) d n = some n := by
  have : n.ble n = true := by simp
  simp [bnd, asN, this]

theorem ep56 (path : List (Str × Int)) (tk : Tk) (H : AH) : ∃ tk', (tk' = .nil ∨ tk' = .full) ∧ EP 56 [.sl (pRows path) tk] H = some (.val (.sl (pRows path) tk') H) := by
  refine ⟨cutTk3 tk (pRows path).length (pRows path).length, ?_, ap_form_eq e56 xf56 rfl ?_⟩
  · cases tk <;> simp [cutTk3]
  · have hh : headOk (pRows path) 2 = true := by cases path <;> rfl
    have : sliceD Try.t65.desc 2 (.sl (pRows path) tk) none (some (.int .i64 ((pRows path).length : Int))) (some (.int .i64 ((pRows path).length : Int))) = some (.sl (pRows path) (cutTk3 tk (pRows path).length (pRows path).length)) := by
      show (bif !headOk (pRows path) 2 then none else
        match bnd (some (.int .i64 ((pRows path).length : Int))) 0 (pRows path).length with
        | none => none
        | some m => match bnd (some (.int .i64 ((pRows path).length : Int))) 0 m with
          | none => none
          | some h => match bnd none 0 h with
            | none => none
            | some l => some (AV.sl (((pRows path).take h).drop l) (cutTk3 tk h m))) = _
      rw [hh]
      simp only [Bool.not_true, cond_false, bnd_len]
      simp [bnd]
    simp only [c56, r56_0, r56_1, opn_z, opn_s, sel_z, sel_s, qCd_eq, qIf_true, qIf_false, qFn_eq, qBl_eq, qO_some, qRes_val, qHp_some, qPick_true, qPick_false, qG_tt, qG_ff, qG_tf, qG_ft, cellsK_some, qLd_ptr, qLd_vptr, qLdA_ptr, qLdA_vptr, qFa_ptr, qFa_vptr, qNc_ptr, qNc_vptr, qNc_fn, qNot_bool, qExt_tup, qCallV_fn, qLss_int, qLeq_int, qGtr_int, qGeq_int, qEql_int, qNeq_int, qAdd_int, qSub_int, qMul_int, qConvI_int, qLenL_sl, qLenL_hsl, qLenS_str, foldO, min2_int, max2_int, qSame_refl, List.getElem?_cons_zero, List.getElem?_cons_succ, List.nil_append, List.cons_append, List.append_nil, one_bool, one_int, one_str, one_nilp, one_ptr, one_sl, one_hsl, one_map, one_fn, List.length_cons, List.length_nil, List.set_cons_zero, List.set_cons_succ, Nat.reduceLT, Nat.reduceAdd, Nat.zero_add, qNew_i, qBox_i, wr_ptr, cells_agg, cells_str, cells_int, cells_bool, cells_sl, cells_ptr, cells_nilp, cells_hsl, cells_map, cells_fn, allOne_cons, allOne_nil, Bool.and_true, Bool.and_self, Bool.true_and, cond_true, cond_false, setRange_nil, setRange_z, setRange_s, Option.map_some, slice_z, slice_c, slice_s, fillP_nil, fillP_cons, Option.bind_some, qBld_eq, qSt_ptr, qPtr_ptr, qRows_eq, putRow_one, putRow_nil, rep_zero, rep_succ, nx_push_i, get_push_i, AH.nx_set, get_set_i, okI_i, H0_nx, Nat.beq_refl, reduceIte, Nat.reduceEqDiff, qSlc, this]
    exact ⟨trivial, trivial⟩

theorem eq65 (rows : List (List AV)) (tk : Tk) (h : tk ≠ .nil) (k : AV → Prop) : qEql X 65 (.sl rows tk) (.sl [] .nil) k = k (.bool false) := by
  cases tk <;> first | exact absurd rfl h | rfl

theorem ep68 (path : List (Str × Int)) (tk : Tk) (hn : tk = .nil → path = []) (hl : path.length ≤ 100000000000) (H : AH) [IsFn H] :
    ∃ tk' H', EP 68 [.sl (pRows path) tk] H = some (.val (.sl (pRows path) tk') H') ∧ Kp H H' (fun _ => False) := by
  by_cases ht : tk = .nil
  · have := hn ht
    subst this; subst ht
    refine ⟨.nil, H, ap_form_eq e68 xf68 rfl ?_, .refl _⟩
    have : ∀ k : AV → Prop, qEql X 65 (.sl [] .nil) (.sl [] .nil) k = k (.bool true) := fun k => rfl
    simp only [c68, r68_0, r68_1, r68_2, pRows, List.map_nil, opn_z, opn_s, sel_z, sel_s, qCd_eq, qIf_true, qIf_false, qFn_eq, qBl_eq, qO_some, qRes_val, qHp_some, qPick_true, qPick_false, qG_tt, qG_ff, qG_tf, qG_ft, cellsK_some, qLd_ptr, qLd_vptr, qLdA_ptr, qLdA_vptr, qFa_ptr, qFa_vptr, qNc_ptr, qNc_vptr, qNc_fn, qNot_bool, qExt_tup, qCallV_fn, qLss_int, qLeq_int, qGtr_int, qGeq_int, qEql_int, qNeq_int, qAdd_int, qSub_int, qMul_int, qConvI_int, qLenL_sl, qLenL_hsl, qLenS_str, foldO, min2_int, max2_int, qSame_refl, List.getElem?_cons_zero, List.getElem?_cons_succ, List.nil_append, List.cons_append, List.append_nil, one_bool, one_int, one_str, one_nilp, one_ptr, one_sl, one_hsl, one_map, one_fn, List.length_cons, List.length_nil, List.set_cons_zero, List.set_cons_succ, Nat.reduceLT, Nat.reduceAdd, Nat.zero_add, qNew_i, qBox_i, wr_ptr, cells_agg, cells_str, cells_int, cells_bool, cells_sl, cells_ptr, cells_nilp, cells_hsl, cells_map, cells_fn, allOne_cons, allOne_nil, Bool.and_true, Bool.and_self, Bool.true_and, cond_true, cond_false, setRange_nil, setRange_z, setRange_s, Option.map_some, slice_z, slice_c, slice_s, fillP_nil, fillP_cons, Option.bind_some, qBld_eq, qSt_ptr, qPtr_ptr, qRows_eq, putRow_one, putRow_nil, rep_zero, rep_succ, nx_push_i, get_push_i, AH.nx_set, get_set_i, okI_i, H0_nx, Nat.beq_refl, reduceIte, Nat.reduceEqDiff, this]
    exact ⟨trivial, trivial⟩
  · obtain ⟨tk', H', h1, h2, h3⟩ := app_path path tk .full (.inr rfl) hl (H := H)
    refine ⟨tk', H', ap_form_eq e68 xf68 rfl ?_, h3⟩
    simp only [c68, r68_0, r68_1, r68_3, opn_z, opn_s, sel_z, sel_s, qCd_eq, qIf_true, qIf_false, qFn_eq, qBl_eq, qO_some, qRes_val, qHp_some, qPick_true, qPick_false, qG_tt, qG_ff, qG_tf, qG_ft, cellsK_some, qLd_ptr, qLd_vptr, qLdA_ptr, qLdA_vptr, qFa_ptr, qFa_vptr, qNc_ptr, qNc_vptr, qNc_fn, qNot_bool, qExt_tup, qCallV_fn, qLss_int, qLeq_int, qGtr_int, qGeq_int, qEql_int, qNeq_int, qAdd_int, qSub_int, qMul_int, qConvI_int, qLenL_sl, qLenL_hsl, qLenS_str, foldO, min2_int, max2_int, qSame_refl, List.getElem?_cons_zero, List.getElem?_cons_succ, List.nil_append, List.cons_append, List.append_nil, one_bool, one_int, one_str, one_nilp, one_ptr, one_sl, one_hsl, one_map, one_fn, List.length_cons, List.length_nil, List.set_cons_zero, List.set_cons_succ, Nat.reduceLT, Nat.reduceAdd, Nat.zero_add, qNew_i, qBox_i, wr_ptr, cells_agg, cells_str, cells_int, cells_bool, cells_sl, cells_ptr, cells_nilp, cells_hsl, cells_map, cells_fn, allOne_cons, allOne_nil, Bool.and_true, Bool.and_self, Bool.true_and, cond_true, cond_false, setRange_nil, setRange_z, setRange_s, Option.map_some, slice_z, slice_c, slice_s, fillP_nil, fillP_cons, Option.bind_some, qBld_eq, qSt_ptr, qPtr_ptr, qRows_eq, putRow_one, putRow_nil, rep_zero, rep_succ, nx_push_i, get_push_i, AH.nx_set, get_set_i, okI_i, H0_nx, Nat.beq_refl, reduceIte, Nat.reduceEqDiff, eq65 _ _ ht, h1]
    exact ⟨trivial, trivial⟩

/-- the faults' list grows by one -/
theorem tell_core {H H1 : AH} [IsFn H] {p : Nat} {fs : List Fau} (h : FS H p fs) (hl : fs.length ≤ 100000000000) (e : Kp H H1 (fun _ => False)) (f : Fau) {row : List AV} (hr : EF f row) :
    ∃ v v' H2, H.get p = some (.cells [v]) ∧ H1.get p = some (.cells [v]) ∧ Aes.one v' = true ∧ IsFn H2 ∧ H2.get p = some (.cells [v]) ∧ (∀ k : AV → AH → Prop, qApp 2 40 v (.sl [row] .full) false H1 k = k v' H2) ∧
      FS (H2.set p (some (.cells [v']))) p (fs ++ [f]) ∧ St H (H2.set p (some (.cells [v']))) p := by
  have h' := h
  have hp := h.lt
  obtain ⟨v, rows, h1, h2, h3⟩ := h
  haveI := e.fn
  have hp1 : H1.get p = some (.cells [v]) := (e.keep p hp (fun h => h)).trans h1
  have tl : ∀ j, tkOf v j → j < H.nx := fun j hj => h'.tch_lt (.inr ⟨v, h1, hj⟩)
  have h2' : Ow H1 v rows := h2.keep fun j hj => e.keep j (tl j hj) (fun h => h)
  have two : row.length = 2 ∧ allOne row = true := by obtain ⟨tk, rfl⟩ := hr; exact ⟨rfl, rfl⟩
  obtain ⟨v', H2, k1, k2, k3, k4⟩ := h2'.app (n := 2) (b := 40) (tk' := .full) two.1 (by decide) (by decide) (by rw [h3.len]; unfold most; omega) h3.two two.2
  haveI := k3.fn
  have hp2 : H2.get p = some (.cells [v]) := (k3.keep p (lt_i hp1) (fun ⟨r, hj⟩ => by
    have := h2'.tok (j := p) ⟨r, hj⟩
    rw [hp1] at this; cases this)).trans hp1
  have lt2 := lt_i hp2
  have hset : (H2.set p (some (.cells [v']))).get p = some (.cells [v']) := by rw [get_set_i lt2, if_pos rfl]
  have ow : Ow (H2.set p (some (.cells [v']))) v' (rows ++ [row]) := k2.keep fun j hj => by
    have hj0 := k4 j hj
    rw [get_set_i lt2, if_neg]
    intro e1
    have : p < H1.nx := lt_i hp1
    omega
  refine ⟨v, v', H2, h1, hp1, k2.one, k3.fn, hp2, k1, ⟨v', rows ++ [row], hset, ow, h3.append (.one hr)⟩, ?_, ?_⟩
  · refine ((e.mono (Q := Tch H p) (fun _ _ h => h.elim)).trans k3 (fun j hj hq => .inr ⟨v, h1, hq⟩)).trans (Kp.set _ lt2) (fun j hj hq => .inl hq)
  · intro j hj ht
    rcases ht with rfl | ⟨v2, hv, ht⟩
    · exact .inl rfl
    · rw [hset] at hv; injection hv with hv; injection hv with hv; injection hv with hv; subst hv
      have := k4 j ht
      have := e.nx
      omega

theorem ep60 {H : AH} [IsFn H] {p : Nat} {fs : List Fau} (h : FS H p fs) (hl : fs.length ≤ 100000000000) (what : Str) (path : List (Str × Int)) (tk : Tk) (hn : tk = .nil → path = []) (hp : path.length ≤ 100000000000) :
    ∃ H', EP 60 [.ptr p 0, .str what, .sl (pRows path) tk] H = some (.val (.tup []) H') ∧ FS H' p (fs ++ [⟨what, path⟩]) ∧ St H H' p := by
  obtain ⟨tk', H1, k1, k2⟩ := ep68 path tk hn hp H
  obtain ⟨v, v', H2, a1, a2, a3, a4, a5, a6, a7, a8⟩ := tell_core h hl k2 ⟨what, path⟩ (row := [.str what, .sl (pRows path) tk']) ⟨tk', rfl⟩
  refine ⟨_, ap_form_eq e60 xf60 rfl ?_, a7, a8⟩
  have hs : ∀ k : AV → AH → Prop, qSt 1 (.ptr p 0) v' H2 k = k undef (H2.set p (some (.cells [v']))) := fun k => qSt_one (R := Prop) a4.fn a5 0 v' k a3 (by simp)
  have l1 := fun k => ld1 a1 0 v rfl k
  have l2 := fun k => ld1 a2 0 v rfl k
  have b1 : ∀ k : AV → Prop, qBld z67 [(0, 1, .str what), (1, 1, .sl (pRows path) tk')] k = k (.agg [.str what, .sl (pRows path) tk']) := fun k => rfl
  have b2 : ∀ k : AV → Prop, qRows z67 1 [(0, .agg [.str what, .sl (pRows path) tk'])] k = k (.sl [[.str what, .sl (pRows path) tk']] .full) := fun k => rfl
  simp only [c60, r60_0, opn_z, opn_s, sel_z, sel_s, qCd_eq, qIf_true, qIf_false, qFn_eq, qBl_eq, qO_some, qRes_val, qHp_some, qPick_true, qPick_false, qG_tt, qG_ff, qG_tf, qG_ft, cellsK_some, qLd_vptr, qLdA_vptr, qFa_ptr, qFa_vptr, qNc_ptr, qNc_vptr, qNc_fn, qNot_bool, qExt_tup, qCallV_fn, qLss_int, qLeq_int, qGtr_int, qGeq_int, qEql_int, qNeq_int, qAdd_int, qSub_int, qMul_int, qConvI_int, qLenL_sl, qLenL_hsl, qLenS_str, foldO, min2_int, max2_int, qSame_refl, Nat.zero_add, List.getElem?_cons_zero, List.getElem?_cons_succ, List.nil_append, List.cons_append, List.append_nil, one_bool, one_int, one_str, one_nilp, one_ptr, one_sl, one_hsl, one_map, one_fn, List.length_cons, List.length_nil, List.set_cons_zero, List.set_cons_succ, Nat.reduceLT, Nat.reduceAdd, l1, l2, k1, b1, b2, a6, hs]
  exact ⟨trivial, trivial⟩

theorem ep64 {H : AH} [IsFn H] {p : Nat} {fs : List Fau} (h : FS H p fs) (hl : fs.length ≤ 100000000000) (what : Str) (path : List (Str × Int)) (tk : Tk) (hp : path.length ≤ 100000000000) :
    ∃ H', EP 64 [.ptr p 0, .str what, .sl (pRows path) tk] H = some (.val (.tup []) H') ∧ FS H' p (fs ++ [⟨what, path⟩]) ∧ St H H' p := by
  obtain ⟨tk', H1, k1, _, k2⟩ := app_path path tk .nil (.inl rfl) hp (H := H)
  obtain ⟨v, v', H2, a1, a2, a3, a4, a5, a6, a7, a8⟩ := tell_core h hl k2 ⟨what, path⟩ (row := [.str what, .sl (pRows path) tk']) ⟨tk', rfl⟩
  refine ⟨_, ap_form_eq e64 xf64 rfl ?_, a7, a8⟩
  have hs : ∀ k : AV → AH → Prop, qSt 1 (.ptr p 0) v' H2 k = k undef (H2.set p (some (.cells [v']))) := fun k => qSt_one (R := Prop) a4.fn a5 0 v' k a3 (by simp)
  have l1 := fun k => ld1 a1 0 v rfl k
  have l2 := fun k => ld1 a2 0 v rfl k
  have b1 : ∀ k : AV → Prop, qBld z67 [(0, 1, .str what), (1, 1, .sl (pRows path) tk')] k = k (.agg [.str what, .sl (pRows path) tk']) := fun k => rfl
  have b2 : ∀ k : AV → Prop, qRows z67 1 [(0, .agg [.str what, .sl (pRows path) tk'])] k = k (.sl [[.str what, .sl (pRows path) tk']] .full) := fun k => rfl
  simp only [c64, r64_0, opn_z, opn_s, sel_z, sel_s, qCd_eq, qIf_true, qIf_false, qFn_eq, qBl_eq, qO_some, qRes_val, qHp_some, qPick_true, qPick_false, qG_tt, qG_ff, qG_tf, qG_ft, cellsK_some, qLd_vptr, qLdA_vptr, qFa_ptr, qFa_vptr, qNc_ptr, qNc_vptr, qNc_fn, qNot_bool, qExt_tup, qCallV_fn, qLss_int, qLeq_int, qGtr_int, qGeq_int, qEql_int, qNeq_int, qAdd_int, qSub_int, qMul_int, qConvI_int, qLenL_sl, qLenL_hsl, qLenS_str, foldO, min2_int, max2_int, qSame_refl, Nat.zero_add, List.getElem?_cons_zero, List.getElem?_cons_succ, List.nil_append, List.cons_append, List.append_nil, one_bool, one_int, one_str, one_nilp, one_ptr, one_sl, one_hsl, one_map, one_fn, List.length_cons, List.length_nil, List.set_cons_zero, List.set_cons_succ, Nat.reduceLT, Nat.reduceAdd, l1, l2, k1, b1, b2, a6, hs]
  exact ⟨trivial, trivial⟩

end T
set_option linter.unusedVariables false
set_option linter.unusedSimpArgs false
set_option maxRecDepth 10000
namespace T
open Go Go.Aes Go.Proofs

/-- where a value is under way -/
structure LS (Hs H : AH) (p : Nat) (fs : List Fau) (kind : Int) (u q : Nat) (ns : List Str) (vs : List Val) : Prop where
  fn : IsFn H
  st : St Hs H p
  fs : FS H p fs
  qp : q ≠ p ∧ u ≠ p ∧ u ≠ q
  lo : Hs.nx ≤ u ∧ Hs.nx ≤ q
  ug : H.get u = some (.cells z58)
  ow : ∃ nv lv lrows, H.get q = some (.cells [.int .i64 kind, .str [], nv, lv]) ∧ Ow H nv (strRows ns) ∧ Ow H lv lrows ∧ EVs vs lrows ∧
    (∀ j, tkOf nv j → Hs.nx ≤ j ∧ ¬ tkOf lv j ∧ ¬ Tch H p j) ∧ (∀ j, tkOf lv j → Hs.nx ≤ j ∧ ¬ Tch H p j)

theorem LS.step {Hs H H' : AH} {p u q : Nat} {fs fs' : List Fau} {kind : Int} {ns : List Str} {vs : List Val} (h : LS Hs H p fs kind u q ns vs) (s : St H H' p) (f : FS H' p fs') : LS Hs H' p fs' kind u q ns vs := by
  haveI := h.fn
  obtain ⟨nv, lv, lrows, h1, h2, h3, h4, h5, h6⟩ := h.ow
  have tt : ∀ j, j < H.nx → ¬ Tch H p j → ¬ Tch H' p j := fun j hj hn ht => hn (s.tt j hj ht)
  refine ⟨s.ex.fn, h.st.trans s, f, h.qp, h.lo, (s.ex.keep u (lt_i h.ug) (h.fs.not_cells h.ug h.qp.2.1)).trans h.ug, nv, lv, lrows,
    (s.ex.keep q (lt_i h1) (h.fs.not_cells h1 h.qp.1)).trans h1, h2.keep fun j hj => ?_, h3.keep fun j hj => ?_, h4, fun j hj => ⟨(h5 j hj).1, (h5 j hj).2.1, ?_⟩, fun j hj => ⟨(h6 j hj).1, ?_⟩⟩
  · exact s.ex.keep j (lt_i (h2.tok hj)) (h5 j hj).2.2
  · exact s.ex.keep j (lt_i (h3.tok hj)) (h6 j hj).2
  · exact tt j (lt_i (h2.tok hj)) (h5 j hj).2.2
  · exact tt j (lt_i (h3.tok hj)) (h6 j hj).2

theorem LS.ex {Hs H H' : AH} {p u q : Nat} {fs : List Fau} {kind : Int} {ns : List Str} {vs : List Val} (h : LS Hs H p fs kind u q ns vs) (e : Kp H H' (fun _ => False)) : LS Hs H' p fs kind u q ns vs := by
  haveI := h.fn
  exact h.step (St.of_ex e h.fs.lt (fun h => h) (fun _ _ h => h)) (h.fs.keep e fun _ _ h => h)

/-- a place of one's own is written -/
theorem LS.set {Hs H : AH} {p u q : Nat} {fs : List Fau} {kind : Int} {ns : List Str} {vs : List Val} (h : LS Hs H p fs kind u q ns vs) {b : Nat} {cs : List AV} (hb : H.get b = some (.cells cs)) (hlo : Hs.nx ≤ b) (hp : b ≠ p) (hu : b ≠ u) (hq : b ≠ q) (o : Option AO) :
    LS Hs (H.set b o) p fs kind u q ns vs := by
  haveI := h.fn
  obtain ⟨nv, lv, lrows, h1, h2, h3, h4, h5, h6⟩ := h.ow
  have hlt := lt_i hb
  have g : ∀ j, j ≠ b → (H.set b o).get j = H.get j := fun j hj => by rw [get_set_i hlt, if_neg hj]
  have tch : ∀ j, Tch (H.set b o) p j ↔ Tch H p j := Tch.eq (g p (fun e => hp e.symm))
  have tok : ∀ {v : AV} {rows : List (List AV)}, Ow H v rows → ∀ j, tkOf v j → (H.set b o).get j = H.get j := fun ho j hj => g j fun e => by
    have := ho.tok hj
    rw [e, hb] at this; cases this
  refine ⟨inferInstance, ⟨⟨inferInstance, by rw [AH.nx_set]; exact h.st.ex.nx, fun j hj hn => ?_⟩, fun j hj ht => h.st.tt j hj ((tch j).1 ht)⟩, ?_, h.qp, h.lo, (g u (fun e => hu e.symm)).trans h.ug, nv, lv, lrows, (g q (fun e => hq e.symm)).trans h1,
    h2.keep (tok h2), h3.keep (tok h3), h4, fun j hj => ⟨(h5 j hj).1, (h5 j hj).2.1, fun ht => (h5 j hj).2.2 ((tch j).1 ht)⟩, fun j hj => ⟨(h6 j hj).1, fun ht => (h6 j hj).2 ((tch j).1 ht)⟩⟩
  · rw [g j (by omega)]; exact h.st.ex.keep j hj hn
  · obtain ⟨v, rows, f1, f2, f3⟩ := h.fs
    exact ⟨v, rows, (g p (fun e => hp e.symm)).trans f1, f2.keep (tok f2), f3⟩

/-- what is kept where tokens go -/
theorem _root_.Go.Aes.Kp.cells {H H' : AH} [IsFn H] {v : AV} {rows : List (List AV)} (e : Kp H H' (tkOf v)) (ho : Ow H v rows) {j : Nat} {cs : List AV} (hj : H.get j = some (.cells cs)) : H'.get j = some (.cells cs) :=
  (e.keep j (lt_i hj) fun ht => by have := ho.tok ht; rw [hj] at this; cases this).trans hj

/-- a list's value more -/
theorem LS.addL {Hs H : AH} {p u q c : Nat} {fs : List Fau} {kind : Int} {ns : List Str} {vs : List Val} (h : LS Hs H p fs kind u q ns vs) {val : Val} {row : List AV} (hv : EV val row) (hlen : vs.length ≤ 100000000000)
    (hc : H.get c = some (.cells row)) :
    ∃ nv lv lv' H6, H.get q = some (.cells [.int .i64 kind, .str [], nv, lv]) ∧ Aes.one lv' = true ∧ IsFn H6 ∧ H6.get q = some (.cells [.int .i64 kind, .str [], nv, lv]) ∧ H6.get c = some (.cells row) ∧
      (∀ k : AV → AH → Prop, qApp 4 72 lv (.sl [row] .full) false H k = k lv' H6) ∧ LS Hs (H6.set q (some (.cells [.int .i64 kind, .str [], nv, lv']))) p fs kind u q ns (vs ++ [val]) ∧
      (∀ j cs, j ≠ q → H.get j = some (.cells cs) → (H6.set q (some (.cells [.int .i64 kind, .str [], nv, lv']))).get j = some (.cells cs)) := by
  haveI := h.fn
  obtain ⟨nv, lv, lrows, h1, h2, h3, h4, h5, h6⟩ := h.ow
  obtain ⟨lv', H6, k1, k2, k3, k4⟩ := h3.app (n := 4) (b := 72) (tk' := .full) hv.four (by decide) (by decide) (by rw [h4.len]; unfold most; omega) h4.four hv.ones
  haveI := k3.fn
  have c6 := fun {j : Nat} {cs : List AV} (hj : H.get j = some (.cells cs)) => k3.cells h3 hj
  have q6 := c6 h1
  have lt6 := lt_i q6
  have g : ∀ j, j ≠ q → (H6.set q (some (.cells [.int .i64 kind, .str [], nv, lv']))).get j = H6.get j := fun j hj => by rw [get_set_i lt6, if_neg hj]
  have gp : (H6.set q (some (.cells [.int .i64 kind, .str [], nv, lv']))).get p = H.get p := by
    rw [g p (fun e => h.qp.1 e.symm)]
    obtain ⟨v, rows, f1, _⟩ := h.fs
    exact (c6 f1).trans f1.symm
  have tch := Tch.eq gp
  refine ⟨nv, lv, lv', H6, h1, k2.one, k3.fn, q6, c6 hc, k1, ?_, fun j cs hj hg => (g j hj).trans (c6 hg)⟩
  refine ⟨inferInstance, ⟨⟨inferInstance, ?_, fun j hj hn => ?_⟩, fun j hj ht => h.st.tt j hj ((tch j).1 ht)⟩, ?_, h.qp, h.lo, (g u h.qp.2.2).trans (c6 h.ug), nv, lv', lrows ++ [row], ?_, ?_, ?_, h4.append (.one hv), fun j hj => ⟨(h5 j hj).1, fun ht => ?_, fun ht => (h5 j hj).2.2 ((tch j).1 ht)⟩, fun j hj => ⟨?_, fun ht => ?_⟩⟩
  · rw [AH.nx_set]; exact Nat.le_trans h.st.ex.nx k3.nx
  · have := h.lo.2
    rw [g j (by omega)]
    refine (k3.keep j (Nat.lt_of_lt_of_le hj h.st.ex.nx) fun ht => ?_).trans (h.st.ex.keep j hj hn)
    have := (h6 j ht).1; omega
  · obtain ⟨v, rows, f1, f2, f3⟩ := h.fs
    refine ⟨v, rows, gp.trans f1, f2.keep fun j hj => ?_, f3⟩
    have hj0 := f2.tok hj
    rw [g j (fun e => by rw [e, h1] at hj0; cases hj0)]
    exact k3.keep j (lt_i hj0) fun ht => (h6 j ht).2 (.inr ⟨v, f1, hj⟩)
  · rw [get_set_i lt6, if_pos rfl]
  · refine h2.keep fun j hj => ?_
    have hj0 := h2.tok hj
    rw [g j (fun e => by rw [e, h1] at hj0; cases hj0)]
    exact k3.keep j (lt_i hj0) (h5 j hj).2.1
  · refine k2.keep fun j hj => ?_
    have := k4 j hj
    have := lt_i h1
    exact g j (by omega)
  · have := k4 j ht
    have := lt_i (h2.tok hj)
    omega
  · have := k4 j hj
    have := h.st.ex.nx; omega
  · have := k4 j hj
    have := h.fs.tch_lt ((tch j).1 ht)
    omega

/-- a name more; then its value -/
theorem LS.addN {Hs H : AH} {p u q c : Nat} {fs : List Fau} {kind : Int} {ns : List Str} {vs : List Val} (h : LS Hs H p fs kind u q ns vs) (key : Str) {val : Val} {row : List AV} (hv : EV val row) (hlen : vs.length ≤ 100000000000) (hlen2 : ns.length ≤ 100000000000)
    (hc : H.get c = some (.cells row)) :
    ∃ nv lv nv' lv' H6 H7, H.get q = some (.cells [.int .i64 kind, .str [], nv, lv]) ∧ Aes.one nv' = true ∧ Aes.one lv' = true ∧ IsFn H6 ∧ IsFn H7 ∧ H6.get q = some (.cells [.int .i64 kind, .str [], nv, lv]) ∧ H6.get c = some (.cells row) ∧
      H7.get q = some (.cells [.int .i64 kind, .str [], nv, lv]) ∧
      (∀ k : AV → AH → Prop, qApp 1 16 nv (.sl [[.str key]] .full) false H k = k nv' H6) ∧ (∀ k : AV → AH → Prop, qApp 4 72 lv (.sl [row] .full) false H6 k = k lv' H7) ∧
      LS Hs ((H7.set q (some (.cells [.int .i64 kind, .str [], nv', lv]))).set q (some (.cells [.int .i64 kind, .str [], nv', lv']))) p fs kind u q (ns ++ [key]) (vs ++ [val]) := by
  haveI := h.fn
  obtain ⟨nv, lv, lrows, h1, h2, h3, h4, h5, h6⟩ := h.ow
  have n1 : ∀ x ∈ strRows ns, x.length = 1 := by
    intro x hx; obtain ⟨y, _, rfl⟩ := List.mem_map.1 hx; rfl
  obtain ⟨nv', H6, m1, m2, m3, m4⟩ := h2.app (n := 1) (b := 16) (tk' := .full) (r := [.str key]) rfl (by decide) (by decide) (by simp [strRows]; unfold most; omega) n1 rfl
  haveI := m3.fn
  have h3' : Ow H6 lv lrows := h3.keep fun j hj => m3.keep j (lt_i (h3.tok hj)) fun ht => (h5 j ht).2.1 hj
  obtain ⟨lv', H7, k1, k2, k3, k4⟩ := h3'.app (n := 4) (b := 72) (tk' := .full) hv.four (by decide) (by decide) (by rw [h4.len]; unfold most; omega) h4.four hv.ones
  haveI := k3.fn
  have c6 := fun {j : Nat} {cs : List AV} (hj : H.get j = some (.cells cs)) => m3.cells h2 hj
  have c7 := fun {j : Nat} {cs : List AV} (hj : H.get j = some (.cells cs)) => k3.cells h3' (c6 hj)
  have q6 := c6 h1
  have q7 := c7 h1
  have lt7 := lt_i q7
  have n6 := m3.nx
  have n7 := k3.nx
  have g : ∀ j, j ≠ q → ((H7.set q (some (.cells [.int .i64 kind, .str [], nv', lv]))).set q (some (.cells [.int .i64 kind, .str [], nv', lv']))).get j = H7.get j := fun j hj => by
    rw [get_set_i (by rw [AH.nx_set]; exact lt7), if_neg hj, get_set_i lt7, if_neg hj]
  have gp : ((H7.set q (some (.cells [.int .i64 kind, .str [], nv', lv]))).set q (some (.cells [.int .i64 kind, .str [], nv', lv']))).get p = H.get p := by
    rw [g p (fun e => h.qp.1 e.symm)]
    obtain ⟨v, rows, f1, _⟩ := h.fs
    exact (c7 f1).trans f1.symm
  have tch := Tch.eq gp
  have qlt := lt_i h1
  refine ⟨nv, lv, nv', lv', H6, H7, h1, m2.one, k2.one, m3.fn, k3.fn, q6, c6 hc, q7, m1, k1, ?_⟩
  have rows_eq : strRows ns ++ [[.str key]] = strRows (ns ++ [key]) := by simp [strRows]
  have keepT : ∀ j, H.get j = some .tok → ¬ tkOf nv j → ¬ tkOf lv j → ((H7.set q (some (.cells [.int .i64 kind, .str [], nv', lv]))).set q (some (.cells [.int .i64 kind, .str [], nv', lv']))).get j = H.get j := by
    intro j hj ha hb
    rw [g j (fun e => by rw [e, h1] at hj; cases hj)]
    have := lt_i hj
    exact (k3.keep j (by omega) hb).trans (m3.keep j this ha)
  refine ⟨inferInstance, ⟨⟨inferInstance, ?_, fun j hj hn => ?_⟩, fun j hj ht => h.st.tt j hj ((tch j).1 ht)⟩, ?_, h.qp, h.lo, (g u h.qp.2.2).trans (c7 h.ug), nv', lv', lrows ++ [row], ?_, ?_, ?_, h4.append (.one hv), fun j hj => ⟨?_, fun ht => ?_, fun ht => ?_⟩, fun j hj => ⟨?_, fun ht => ?_⟩⟩
  · rw [AH.nx_set, AH.nx_set]; exact Nat.le_trans h.st.ex.nx (Nat.le_trans n6 n7)
  · have := h.lo.2
    have hj2 := h.st.ex.nx
    rw [g j (by omega)]
    refine ((k3.keep j (by omega) fun ht => ?_).trans (m3.keep j (by omega) fun ht => ?_)).trans (h.st.ex.keep j hj hn)
    · have := (h6 j ht).1; omega
    · have := (h5 j ht).1; omega
  · obtain ⟨v, rows, f1, f2, f3⟩ := h.fs
    refine ⟨v, rows, gp.trans f1, f2.keep fun j hj => ?_, f3⟩
    exact keepT j (f2.tok hj) (fun ht => (h5 j ht).2.2 (.inr ⟨v, f1, hj⟩)) (fun ht => (h6 j ht).2 (.inr ⟨v, f1, hj⟩))
  · rw [get_set_i (by rw [AH.nx_set]; exact lt7), if_pos rfl]
  · rw [← rows_eq]
    refine m2.keep fun j hj => ?_
    have e1 := m4 j hj
    rw [g j (by omega)]
    exact k3.keep j (lt_i (m2.tok hj)) fun ht => by
      have := lt_i (h3.tok ht)
      omega
  · refine k2.keep fun j hj => ?_
    have := k4 j hj
    exact g j (by omega)
  · have := m4 j hj
    have := h.st.ex.nx; omega
  · have := m4 j hj
    have := k4 j ht
    have := lt_i (m2.tok hj)
    omega
  · have := m4 j hj
    have := h.fs.tch_lt ((tch j).1 ht)
    omega
  · have := k4 j hj
    have := h.st.ex.nx; omega
  · have := k4 j hj
    have := h.fs.tch_lt ((tch j).1 ht)
    omega

end T
set_option linter.unusedVariables false
set_option linter.unusedSimpArgs false
set_option maxRecDepth 10000
namespace T
open Go Go.Aes Go.Proofs

theorem LS.init {Hs H : AH} [IsFn H] {p : Nat} {fs : List Fau} (e : Kp Hs H (fun _ => False)) (hs : IsFn Hs) (hF : FS Hs p fs) (kind : Int) :
    LS Hs (((H.push (.cells z58)).push (.cells z58)).set (H.nx + 1) (some (.cells [.int .i64 kind, .str [], .sl [] .nil, .sl [] .nil]))) p fs kind H.nx (H.nx + 1) [] [] := by
  have hp := hF.lt
  have hnx := e.nx
  have n1 : (H.push (.cells z58)).nx = H.nx + 1 := nx_push_i _
  have n2 : ((H.push (.cells z58)).push (.cells z58)).nx = H.nx + 1 + 1 := by rw [nx_push_i, n1]
  have g : ∀ j, j < H.nx → (((H.push (.cells z58)).push (.cells z58)).set (H.nx + 1) (some (.cells [.int .i64 kind, .str [], .sl [] .nil, .sl [] .nil]))).get j = H.get j := fun j hj => by
    rw [get_set_i (by omega), if_neg (by omega), get_push_lt _ (by omega), get_push_lt _ hj]
  have ex : Kp Hs (((H.push (.cells z58)).push (.cells z58)).set (H.nx + 1) (some (.cells [.int .i64 kind, .str [], .sl [] .nil, .sl [] .nil]))) (fun _ => False) :=
    ⟨inferInstance, by rw [AH.nx_set, n2]; omega, fun j hj _ => (g j (by omega)).trans (e.keep j hj (fun h => h))⟩
  refine ⟨inferInstance, St.of_ex ex hp (fun h => h) (fun _ _ h => h), hF.keep ex (fun _ _ h => h), ⟨by omega, by omega, by omega⟩, ⟨hnx, by omega⟩, ?_, .sl [] .nil, .sl [] .nil, [], ?_, .nil, .nil, rfl, fun j hj => ?_, fun j hj => ?_⟩
  · rw [get_set_i (by omega), if_neg (by omega), get_push_lt _ (by omega)]; exact get_push_at _
  · rw [get_set_i (by omega), if_pos rfl]
  · obtain ⟨r, hj⟩ := hj; cases hj
  · obtain ⟨r, hj⟩ := hj; cases hj

/-- a node's cells, put in a new place -/
theorem LS.box {Hs H : AH} {p u q : Nat} {fs : List Fau} {kind : Int} {ns : List Str} {vs : List Val} (h : LS Hs H p fs kind u q ns vs) {n : Nat} (cs0 row : List AV) (h0 : cs0.length = n) (h1 : row.length = n) (h2 : allOne row = true) :
    ∃ b H0 H1, (∀ k : AV → AH → Prop, qNew (.cells cs0) .ptr H k = k (.ptr b 0) H0) ∧ (∀ k : AV → AH → Prop, qSt n (.ptr b 0) (.agg row) H0 k = k undef H1) ∧ H1.get b = some (.cells row) ∧ Hs.nx ≤ b ∧ b ≠ p ∧ b ≠ u ∧ b ≠ q ∧
      LS Hs H1 p fs kind u q ns vs ∧ (∀ j cs, H.get j = some (.cells cs) → H1.get j = some (.cells cs) ∧ j ≠ b) := by
  haveI := h.fn
  have hp := h.fs.lt
  have hu := lt_i h.ug
  obtain ⟨nv, lv, lrows, hq, _⟩ := h.ow
  have hq := lt_i hq
  have hat := get_push_at (H := H) (.cells cs0)
  have L1 := h.ex (Kp.push (.cells cs0) _)
  have hlo := h.st.ex.nx
  refine ⟨H.nx, H.push (.cells cs0), _, fun k => by rw [qNew_i, wr_ptr], fun k => qSt_whole hat h0 h1 h2 k, ?_, hlo, by omega, by omega, by omega, L1.set hat hlo (by omega) (by omega) (by omega) _, fun j cs hj => ?_⟩
  · rw [get_set_i (by rw [nx_push_i]; omega), if_pos rfl]
  · have := lt_i hj
    refine ⟨?_, by omega⟩
    rw [get_set_i (by rw [nx_push_i]; omega), if_neg (by omega), get_push_lt _ this, hj]

/-- an empty place -/
theorem LS.spot {Hs H : AH} {p u q : Nat} {fs : List Fau} {kind : Int} {ns : List Str} {vs : List Val} (h : LS Hs H p fs kind u q ns vs) (cs0 : List AV) :
    ∃ c H0, (∀ k : AV → AH → Prop, qNew (.cells cs0) .ptr H k = k (.ptr c 0) H0) ∧ H0.get c = some (.cells cs0) ∧ Hs.nx ≤ c ∧ c ≠ p ∧ c ≠ u ∧ c ≠ q ∧
      LS Hs H0 p fs kind u q ns vs ∧ (∀ j cs, H.get j = some (.cells cs) → H0.get j = some (.cells cs) ∧ j ≠ c) := by
  haveI := h.fn
  have hp := h.fs.lt
  have hu := lt_i h.ug
  obtain ⟨nv, lv, lrows, hq, _⟩ := h.ow
  have hq := lt_i hq
  have hlo := h.st.ex.nx
  refine ⟨H.nx, H.push (.cells cs0), fun k => by rw [qNew_i, wr_ptr], get_push_at _, hlo, by omega, by omega, by omega, h.ex (Kp.push (.cells cs0) _), fun j cs hj => ?_⟩
  have := lt_i hj
  exact ⟨by rw [get_push_lt _ this, hj], by omega⟩

theorem _root_.Go.Aes.Kp.cell0 {H H' : AH} [IsFn H] (e : Kp H H' (fun _ => False)) {j : Nat} {cs : List AV} (hj : H.get j = some (.cells cs)) : H'.get j = some (.cells cs) := (e.keep j (lt_i hj) fun h => h).trans hj
theorem St.cells {H H' : AH} [IsFn H] {p : Nat} {fs : List Fau} (s : St H H' p) (h : FS H p fs) {j : Nat} {cs : List AV} (hj : H.get j = some (.cells cs)) (hp : j ≠ p) : H'.get j = some (.cells cs) := (s.ex.keep j (lt_i hj) (h.not_cells hj hp)).trans hj

theorem qRows1 (z row : List AV) (hl : row.length = z.length) (ha : allOne row = true) (k : AV → Prop) : qRows z 1 [(0, .agg row)] k = k (.sl [row] .full) := by
  have : row.length.beq z.length = true := by rw [hl]; exact Nat.beq_refl _
  rw [qRows_eq, show List.replicate 1 z = [z] from rfl, putRow_one, cells_agg, this, ha]
  rfl

theorem and_step (B s : Bool) (H : AH) (K : AV → AH → Prop) : qG (.bool B) true (fun k => k (.bool s) H) H (fun v H => qPick (.bool B) v (.bool false) fun w => K w H) = K (.bool (B && s)) H := by cases B <;> rfl
theorem and_not_step (B s : Bool) (H : AH) (K : AV → AH → Prop) :
    qG (.bool B) true (fun k => k (.bool s) H) H (fun v H => qG (.bool B) true (fun k => qNot v fun v => k v H) H fun v H => qPick (.bool B) v (.bool false) fun w => K w H) = K (.bool (B && !s)) H := by cases B <;> rfl

/-- what is shown of a node -/
def NodeOk (n : Nd) : Prop := ∀ (H : AH) [IsFn H] (p : Nat) (fs : List Fau) (row : List AV) (tn w : Str) (path : List (Str × Int)) (tk : Tk), EN n row → FS H p fs → wok n → w.length ≤ 9223372036854775807 → (tk = .nil → path = []) →
  path.length + tot n ≤ 100000000000 → fs.length + tot n ≤ 100000000000 →
  ∃ r H', EP 55 [.ptr p 0, .agg row, .agg [.str tn, .str w], .sl (pRows path) tk] H = some (.val (.tup [.agg r, .bool (nodeF w path n).2.1]) H') ∧ EV (nodeF w path n).1 r ∧ FS H' p (fs ++ (nodeF w path n).2.2) ∧ St H H' p

theorem EN.ten {n : Nd} {row : List AV} (h : EN n row) : row.length = 10 ∧ allOne row = true := by
  cases n
  obtain ⟨a, b, c, d, t, rows, h1, rfl, _⟩ := h
  refine ⟨rfl, ?_⟩
  have := h1.ones
  simpa [allOne, Aes.one] using this

theorem EN.heads {n : Nd} {row : List AV} (h : EN n row) : row[1]? = some (.str n.key) ∧ slice? row 2 2 = some [.str n.tn, .str n.w] := by
  cases n
  obtain ⟨a, b, c, d, t, rows, h1, rfl, _⟩ := h
  exact ⟨rfl, rfl⟩

theorem woks_mem : ∀ {l : List Nd}, woks l → ∀ n ∈ l, wok n
  | [], _, n, h => by cases h
  | m :: l, ⟨h1, h2⟩, n, h => by
    rcases List.mem_cons.1 h with rfl | h
    · exact h1
    · exact woks_mem h2 n h
theorem wok_w {n : Nd} (h : wok n) : n.w.length ≤ 9223372036854775807 := by cases n; exact h.1

theorem drop_cons {α : Type} {l r : List α} {n : α} {i : Nat} (h : l.drop i = n :: r) : l[i]? = some n ∧ l.drop (i + 1) = r ∧ i < l.length := by
  have hi : i < l.length := by
    rcases Nat.lt_or_ge i l.length with h' | h'
    · exact h'
    · rw [List.drop_eq_nil_of_le h'] at h; cases h
  rw [List.drop_eq_getElem_cons hi] at h
  injection h with h1 h2
  exact ⟨by rw [List.getElem?_eq_getElem hi, h1], h2, hi⟩

/-- the document's faults: all of a list's -/
theorem fields_ok (l : List Nd) (ih : ∀ n ∈ l, NodeOk n) (H : AH) [hfn : IsFn H] (p : Nat) (fs : List Fau) (rows : List (List AV)) (tk0 : Tk) (path : List (Str × Int)) (tk : Tk) (hE : ENs l rows) (hF : FS H p fs) (hw : woks l) (hn : tk = .nil → path = [])
    (hpl : path.length + 1 + tots l ≤ 100000000000) (hfl : fs.length + tots l ≤ 100000000000) :
    ∃ r H', EP 49 [.ptr p 0, .sl rows tk0, .sl (pRows path) tk] H = some (.val (.tup [.agg r, .bool (fieldsF path l).2.1]) H') ∧ EV (.mk 8 [] (l.map Nd.key) (fieldsF path l).1) r ∧ FS H' p (fs ++ (fieldsF path l).2.2) ∧ St H H' p := by
  have hlen := hE.len
  have htl := tots_len l
  suffices key : ∃ v H', EP 49 [.ptr p 0, .sl rows tk0, .sl (pRows path) tk] H = some (.val v H') ∧ ∃ r, v = .tup [.agg r, .bool (fieldsF path l).2.1] ∧ EV (.mk 8 [] (l.map Nd.key) (fieldsF path l).1) r ∧ FS H' p (fs ++ (fieldsF path l).2.2) ∧ St H H' p by
    obtain ⟨v, H', h1, r, rfl, h2⟩ := key
    exact ⟨r, H', h1, h2⟩
  refine ap_form e49 xf49 rfl ?_
  have hp := hF.lt
  have g1 : ((H.push (.cells z58)).push (.cells z58)).get (H.nx + 1) = some (.cells z58) := by
    have := get_push_at (H := H.push (.cells z58)) (.cells z58)
    rwa [nx_push_i] at this
  have s1 := qSt_whole g1 (n := 4) rfl (l := [.int .i64 8, .str [], .sl [] .nil, .sl [] .nil]) rfl rfl
  have b1 : ∀ k : AV → Prop, qBld z58 [(0, 1, .int .i64 8)] k = k (.agg [.int .i64 8, .str [], .sl [] .nil, .sl [] .nil]) := fun k => rfl
  have L0 := LS.init (.refl _) hfn hF 8
  simp only [c49, r49_0, r49_1, r49_2, r49_3, opn_z, opn_s, sel_z, sel_s, qCd_eq, qIf_true, qIf_false, qFn_eq, qBl_eq, qO_some, qRes_val, qHp_some, qPick_true, qPick_false, qG_tt, qG_ff, qG_tf, qG_ft, cellsK_some, qLd_vptr, qLdA_vptr, qFa_ptr, qFa_vptr, qNc_ptr, qNc_vptr, qNc_fn, qNot_bool, qExt_tup, qCallV_fn, qLss_int, qLeq_int, qGtr_int, qGeq_int, qEql_int, qNeq_int, qAdd_int, qSub_int, qMul_int, qConvI_int, qLenL_sl, qLenL_hsl, qLenS_str, foldO, min2_int, max2_int, qSame_refl, Nat.zero_add, List.getElem?_cons_zero, List.getElem?_cons_succ, List.nil_append, List.cons_append, List.append_nil, one_bool, one_int, one_str, one_nilp, one_ptr, one_sl, one_hsl, one_map, one_fn, List.length_cons, List.length_nil, List.set_cons_zero, List.set_cons_succ, Nat.reduceLT, Nat.reduceAdd, qNew_i, wr_ptr, nx_push_i, b1, s1]
  generalize ((H.push (.cells z58)).push (.cells z58)).set (H.nx + 1) (some (.cells [.int .i64 8, .str [], .sl [] .nil, .sl [] .nil])) = Hb at L0 ⊢
  refine loop_inv (fun m fr H1 => ∃ (i : Nat) (rest : List Nd) (ns : List Str) (V : List Val) (B : Bool) (F : List Fau) (x11 x12 x13 x18 : AV), m = rest.length ∧ l.drop i = rest ∧ i + rest.length = l.length ∧
      fr = [.ptr p 0, .sl rows tk0, .sl (pRows path) tk, .ptr H.nx 0, .bool false, .ptr (H.nx + 1) 0, .bool B, x11, x12, x13, .sl rows tk0, .int .i64 (l.length : Int), .int .i64 (i : Int), x18] ∧
      LS H H1 p (fs ++ F) 8 H.nx (H.nx + 1) ns V ∧ F.length + tots rest ≤ tots l ∧ V.length = i ∧ ns.length = i ∧
      ns ++ rest.map Nd.key = l.map Nd.key ∧ V ++ (fieldsF path rest).1 = (fieldsF path l).1 ∧ (B && (fieldsF path rest).2.1) = (fieldsF path l).2.1 ∧ F ++ (fieldsF path rest).2.2 = (fieldsF path l).2.2) ?_ (m := l.length) ?_
  · rintro m fr H1 k ⟨i, rest, ns, V, B, F, x11, x12, x13, x18, rfl, hd, hi, rfl, L, hFt, hV, hns, t1', t2', t3', t4'⟩ hk
    cases rest with
    | nil =>
      have hli : ¬ (i : Int) < (l.length : Int) := by simp at hi; omega
      simp only [List.map_nil, List.append_nil, fieldsF, Bool.and_true] at t1' t2' t3' t4'
      subst t1'; subst t2'; subst t3'; subst t4'
      haveI := L.fn
      obtain ⟨nv, lv, lrows, o1, o2, o3, o4, o5, o6⟩ := L.ow
      obtain ⟨tkn, rfl⟩ := o2.sl
      obtain ⟨tkl, rfl⟩ := o3.sl
      have ld := fun k => qLdA_whole (n := 4) o1 rfl k
      have sr := fun k => qSt_whole (n := 4) L.ug (l := [.int .i64 8, .str [], .sl (strRows (l.map Nd.key)) tkn, .sl lrows tkl]) rfl rfl rfl k
      have lt := lt_i L.ug
      have g2 : (H1.set H.nx (some (.cells [.int .i64 8, .str [], .sl (strRows (l.map Nd.key)) tkn, .sl lrows tkl]))).get H.nx = some (.cells [.int .i64 8, .str [], .sl (strRows (l.map Nd.key)) tkn, .sl lrows tkl]) := by rw [get_set_i lt, if_pos rfl]
      have ld2 := fun k => qLdA_whole (n := 4) g2 rfl k
      have L2 : FS (H1.set H.nx (some (.cells [.int .i64 8, .str [], .sl (strRows (l.map Nd.key)) tkn, .sl lrows tkl]))) p (fs ++ (fieldsF path l).2.2) ∧ St H (H1.set H.nx (some (.cells [.int .i64 8, .str [], .sl (strRows (l.map Nd.key)) tkn, .sl lrows tkl]))) p := by
        have gp : (H1.set H.nx (some (.cells [.int .i64 8, .str [], .sl (strRows (l.map Nd.key)) tkn, .sl lrows tkl]))).get p = H1.get p := by rw [get_set_i lt, if_neg (by omega)]
        refine ⟨?_, ⟨⟨inferInstance, by rw [AH.nx_set]; exact L.st.ex.nx, fun j hj hn => by rw [get_set_i lt, if_neg (by omega)]; exact L.st.ex.keep j hj hn⟩, fun j hj ht => L.st.tt j hj ((Tch.eq gp j).1 ht)⟩⟩
        obtain ⟨v, rws, f1, f2, f3⟩ := L.fs
        refine ⟨v, rws, gp.trans f1, f2.keep fun j hj => ?_, f3⟩
        rw [get_set_i lt, if_neg]
        intro e; have := f2.tok hj; rw [e, L.ug] at this; cases this
      simp only [l49_4, r49_4, r49_10, opn_z, opn_s, sel_z, sel_s, qCd_eq, qIf_true, qIf_false, qFn_eq, qBl_eq, qO_some, qRes_val, qHp_some, qPick_true, qPick_false, qG_tt, qG_ff, qG_tf, qG_ft, cellsK_some, qLd_vptr, qLdA_vptr, qFa_ptr, qFa_vptr, qNc_ptr, qNc_vptr, qNc_fn, qNot_bool, qExt_tup, qCallV_fn, qLss_int, qLeq_int, qGtr_int, qGeq_int, qEql_int, qNeq_int, qAdd_int, qSub_int, qMul_int, qConvI_int, qLenL_sl, qLenL_hsl, qLenS_str, foldO, min2_int, max2_int, qSame_refl, Nat.zero_add, List.getElem?_cons_zero, List.getElem?_cons_succ, List.nil_append, List.cons_append, List.append_nil, one_bool, one_int, one_str, one_nilp, one_ptr, one_sl, one_hsl, one_map, one_fn, List.length_cons, List.length_nil, List.set_cons_zero, List.set_cons_succ, Nat.reduceLT, Nat.reduceAdd, hli, decide_false, ld, sr, qPtr_ptr, ld2]
      exact ⟨_, rfl, ⟨tkn, tkl, lrows, rfl, o4⟩, L2⟩
    | cons n rest =>
      obtain ⟨d1, d2, d3⟩ := drop_cons hd
      have hli : (i : Int) < (l.length : Int) := by omega
      obtain ⟨row, e1, e2⟩ := hE.get d1
      obtain ⟨e3, e4⟩ := e2.ten
      obtain ⟨e5, e6⟩ := e2.heads
      have hmem : n ∈ l := List.mem_of_getElem? d1
      have hwn := woks_mem hw n hmem
      have htot : tot n + tots rest + F.length ≤ tots l := by simp only [tots] at hFt; omega
      have ix : ∀ k : AV → Prop, qIa 10 (.sl rows tk0) (.int .i64 (i : Int)) k = k (.vptr row 0) := fun k => qIa_sl (R := Prop) .i64 k 10 rows tk0 i row e1 e3
      have lv0 : ∀ (H : AH) (k : AV → Prop), qLdA 10 (.vptr row 0) H k = k (.agg row) := fun H k => by rw [qLdA_vptr, slice_whole row 10 e3, qO_some]
      obtain ⟨b, H2, H3, x1, x2, x3, x4, x5, x6, x7, L3, x8⟩ := L.box (n := 10) z61 row rfl e3 e4
      have y1 := fun k => qLdA_whole (n := 10) x3 e3 k
      have y2 := fun k => ldA (n := 2) x3 2 e6 k
      have y3 := fun k => ld1 x3 1 _ e5 k
      have y4 : ∀ k : AV → Prop, qBld z72 [(0, 1, .str n.key)] k = k (.agg [.str n.key, .int .i64 0]) := fun k => rfl
      have y5 : ∀ k : AV → Prop, qRows z72 1 [(0, .agg [.str n.key, .int .i64 0])] k = k (.sl [[.str n.key, .int .i64 0]] .full) := fun k => rfl
      obtain ⟨c, H4, z1, z2, z3, z4, z5, z6, L4, z7⟩ := L3.spot z58
      obtain ⟨x3b, hbc⟩ := z7 b _ x3
      haveI := L4.fn
      obtain ⟨tkc, u1, u2⟩ := ep56 path tk H4
      have kp4 := fun k => qKeep_of z2 k
      have y1b := fun k => qLdA_whole (n := 10) x3b e3 k
      have y2b := fun k => ldA (n := 2) x3b 2 e6 k
      have y3b := fun k => ld1 x3b 1 _ e5 k
      obtain ⟨tp, H5, a1, a2⟩ := app_step path .full tkc u1 (by omega) n.key 0 (H := H4)
      have L5 := L4.ex a2
      haveI := L5.fn
      have z2c := a2.cell0 z2
      have x3c := a2.cell0 x3b
      have kp5 := fun k => qKeep_of z2c k
      have y1c := fun k => qLdA_whole (n := 10) x3c e3 k
      have y2c := fun k => ldA (n := 2) x3c 2 e6 k
      obtain ⟨r, H6, n1, n2, n3, n4⟩ := ih n hmem H5 p (fs ++ F) row n.tn n.w (path ++ [(n.key, 0)]) (.own tp) e2 L5.fs hwn (wok_w hwn) (fun h => by cases h) (by simp; omega) (by simp; omega)
      have L6 := L5.step n4 n3
      haveI := L6.fn
      have z2d := n4.cells L5.fs z2c z4
      have x3d := n4.cells L5.fs x3c x5
      have kp6 := fun k => qKeep_of z2d k
      have st6 := fun k => qSt_whole (n := 4) z2d rfl n2.four n2.ones k
      have L7 := L6.set z2d z3 z4 z5 z6 (some (.cells r))
      have ltc := lt_i z2d
      have hc7 : (H6.set c (some (.cells r))).get c = some (.cells r) := by rw [get_set_i ltc, if_pos rfl]
      have hb7 : (H6.set c (some (.cells r))).get b = some (.cells row) := by rw [get_set_i ltc, if_neg hbc]; exact x3d
      generalize H6.set c (some (.cells r)) = H7 at st6 L7 hc7 hb7
      obtain ⟨nv, lv, nv', lv', H8, H9, q1, o1, o2, f8, f9, q8, c8, q9, m1, m2, L9⟩ := L7.addN n.key n2 (by omega) (by omega) hc7
      have w1 := fun k => ld1 q1 2 nv rfl k
      have w2 := fun k => ld1 hb7 1 _ e5 k
      have w3 := fun k => ld1 q1 3 lv rfl k
      have w4 := fun k => qLdA_whole (n := 4) hc7 n2.four k
      have w5 : ∀ k : AV → Prop, qRows z9 1 [(0, .str n.key)] k = k (.sl [[.str n.key]] .full) := fun k => rfl
      have w6 := fun k => qRows1 z58 r n2.four n2.ones k
      have w7 := fun k => qLdA_whole (n := 4) c8 n2.four k
      have w8 := fun k => ld1 q8 3 lv rfl k
      have t1 : ∀ k : AV → AH → Prop, qSt 1 (.ptr (H.nx + 1) 2) nv' H9 k = k undef (H9.set (H.nx + 1) (some (.cells [.int .i64 8, .str [], nv', lv]))) := fun k => qSt_one (R := Prop) f9.fn q9 2 nv' k o1 (by simp)
      have q9' : (H9.set (H.nx + 1) (some (.cells [.int .i64 8, .str [], nv', lv]))).get (H.nx + 1) = some (.cells [.int .i64 8, .str [], nv', lv]) := by rw [get_set_i (lt_i q9), if_pos rfl]
      have t2 : ∀ k : AV → AH → Prop, qSt 1 (.ptr (H.nx + 1) 3) lv' (H9.set (H.nx + 1) (some (.cells [.int .i64 8, .str [], nv', lv]))) k = k undef ((H9.set (H.nx + 1) (some (.cells [.int .i64 8, .str [], nv', lv]))).set (H.nx + 1) (some (.cells [.int .i64 8, .str [], nv', lv']))) :=
        fun k => qSt_one (R := Prop) (IsFn.set (H := H9) _ _).fn q9' 3 lv' k o2 (by simp)
      have hw1 := wrap_up i (by omega)
      simp only [l49_4, r49_4, r49_5, r49_6, r49_7, r49_8, r49_9, opn_z, opn_s, sel_z, sel_s, qCd_eq, qIf_true, qIf_false, qFn_eq, qBl_eq, qO_some, qRes_val, qHp_some, qPick_true, qPick_false, qG_tt, qG_ff, qG_tf, qG_ft, cellsK_some, qLd_vptr, qLdA_vptr, qFa_ptr, qFa_vptr, qNc_ptr, qNc_vptr, qNc_fn, qNot_bool, qExt_tup, qCallV_fn, qLss_int, qLeq_int, qGtr_int, qGeq_int, qEql_int, qNeq_int, qAdd_int, qSub_int, qMul_int, qConvI_int, qLenL_sl, qLenL_hsl, qLenS_str, foldO, min2_int, max2_int, qSame_refl, Nat.zero_add, List.getElem?_cons_zero, List.getElem?_cons_succ, List.nil_append, List.cons_append, List.append_nil, one_bool, one_int, one_str, one_nilp, one_ptr, one_sl, one_hsl, one_map, one_fn, List.length_cons, List.length_nil, List.set_cons_zero, List.set_cons_succ, Nat.reduceLT, Nat.reduceAdd, hli, decide_true, ix, lv0, x1, x2, y1, y2, y3, y4, y5, z1, u2, kp4, y1b, y2b, y3b, a1, kp5, y1c, y2c, n1, kp6, st6, w1, w2, w3, w4, w5, w6, m1, w7, w8, m2, t1, t2, and_step, hw1]
      refine hk rest.length _ _ (by simp) ⟨i + 1, rest, ns ++ [n.key], V ++ [(nodeF n.w (path ++ [(n.key, 0)]) n).1], B && (nodeF n.w (path ++ [(n.key, 0)]) n).2.1, F ++ (nodeF n.w (path ++ [(n.key, 0)]) n).2.2, _, _, _, _, rfl, d2, by simp at hi; omega, rfl, ?_, ?_, by simp [hV], by simp [hns], ?_, ?_, ?_, ?_⟩
      · rw [← List.append_assoc]; exact L9
      · have := nodeF_len n n.w (path ++ [(n.key, 0)])
        rw [List.length_append]; omega
      · rw [← t1']; simp
      · rw [← t2']; simp [fieldsF]
      · rw [← t3']; simp [fieldsF, Bool.and_assoc]
      · rw [← t4']; simp [fieldsF]
  · exact ⟨0, l, [], [], true, [], _, _, _, _, rfl, rfl, by omega, by rw [hlen]; rfl, by simpa using L0, by simp, rfl, rfl, rfl, rfl, by simp, rfl⟩

end T
set_option linter.unusedVariables false
set_option linter.unusedSimpArgs false
set_option maxRecDepth 10000
namespace T
open Go Go.Aes Go.Proofs

/-- a list's items -/
theorem items_ok (l : List Nd) (ih : ∀ n ∈ l, NodeOk n) (H : AH) [hfn : IsFn H] (p : Nat) (fs : List Fau) (rows : List (List AV)) (tk0 : Tk) (tn w : Str) (hwl : w.length ≤ 9223372036854775807) (path : List (Str × Int)) (tk : Tk) (hE : ENs l rows) (hF : FS H p fs) (hw : woks l) (hn : tk = .nil → path = [])
    (hpl : path.length + 1 + tots l ≤ 100000000000) (hfl : fs.length + tots l ≤ 100000000000) :
    ∃ r H', EP 61 [.ptr p 0, .sl rows tk0, .agg [.str tn, .str w], .sl (pRows path) tk] H = some (.val (.tup [.agg r, .bool (itemsF w path 0 l).2.1]) H') ∧ EV (.mk 7 [] [] (itemsF w path 0 l).1) r ∧ FS H' p (fs ++ (itemsF w path 0 l).2.2) ∧ St H H' p := by
  have hlen := hE.len
  have htl := tots_len l
  suffices key : ∃ v H', EP 61 [.ptr p 0, .sl rows tk0, .agg [.str tn, .str w], .sl (pRows path) tk] H = some (.val v H') ∧ ∃ r, v = .tup [.agg r, .bool (itemsF w path 0 l).2.1] ∧ EV (.mk 7 [] [] (itemsF w path 0 l).1) r ∧ FS H' p (fs ++ (itemsF w path 0 l).2.2) ∧ St H H' p by
    obtain ⟨v, H', h1, r, rfl, h2⟩ := key
    exact ⟨r, H', h1, h2⟩
  refine ap_form e61 xf61 rfl ?_
  have hp := hF.lt
  haveI : IsFn (H.push (.cells [.str tn, .str w])) := inferInstance
  have e0 : Kp H (H.push (.cells [.str tn, .str w])) (fun _ => False) := Kp.push _ _
  have hn0 : (H.push (.cells [.str tn, .str w])).nx = H.nx + 1 := nx_push_i _
  have L0 := LS.init e0 hfn hF 7
  have bx : ∀ k : AV → AH → Prop, qBox (.agg [.str tn, .str w]) H k = k (.ptr H.nx 0) (H.push (.cells [.str tn, .str w])) := fun k => by rw [qBox_i]; rfl
  have gb : (H.push (.cells [.str tn, .str w])).get H.nx = some (.cells [.str tn, .str w]) := get_push_at _
  generalize hHa : H.push (.cells [.str tn, .str w]) = Ha at *
  have g1 : ((Ha.push (.cells z58)).push (.cells z58)).get (Ha.nx + 1) = some (.cells z58) := by
    have := get_push_at (H := Ha.push (.cells z58)) (.cells z58)
    rwa [nx_push_i] at this
  have s1 := qSt_whole g1 (n := 4) rfl (l := [.int .i64 7, .str [], .sl [] .nil, .sl [] .nil]) rfl rfl
  have b1 : ∀ k : AV → Prop, qBld z58 [(0, 1, .int .i64 7)] k = k (.agg [.int .i64 7, .str [], .sl [] .nil, .sl [] .nil]) := fun k => rfl
  have gt : (((Ha.push (.cells z58)).push (.cells z58)).set (Ha.nx + 1) (some (.cells [.int .i64 7, .str [], .sl [] .nil, .sl [] .nil]))).get H.nx = some (.cells [.str tn, .str w]) := by
    rw [get_set_i (lt_i g1), if_neg (by omega), get_push_lt _ (by rw [nx_push_i]; omega), get_push_lt _ (by omega)]; exact gb
  simp only [c61, r61_0, r61_1, r61_2, r61_3, opn_z, opn_s, sel_z, sel_s, qCd_eq, qIf_true, qIf_false, qFn_eq, qBl_eq, qO_some, qRes_val, qHp_some, qPick_true, qPick_false, qG_tt, qG_ff, qG_tf, qG_ft, cellsK_some, qLd_vptr, qLdA_vptr, qFa_ptr, qFa_vptr, qNc_ptr, qNc_vptr, qNc_fn, qNot_bool, qExt_tup, qCallV_fn, qLss_int, qLeq_int, qGtr_int, qGeq_int, qEql_int, qNeq_int, qAdd_int, qSub_int, qMul_int, qConvI_int, qLenL_sl, qLenL_hsl, qLenS_str, foldO, min2_int, max2_int, qSame_refl, Nat.zero_add, List.getElem?_cons_zero, List.getElem?_cons_succ, List.nil_append, List.cons_append, List.append_nil, one_bool, one_int, one_str, one_nilp, one_ptr, one_sl, one_hsl, one_map, one_fn, List.length_cons, List.length_nil, List.set_cons_zero, List.set_cons_succ, Nat.reduceLT, Nat.reduceAdd, bx, qNew_i, wr_ptr, nx_push_i, b1, s1]
  generalize ((Ha.push (.cells z58)).push (.cells z58)).set (Ha.nx + 1) (some (.cells [.int .i64 7, .str [], .sl [] .nil, .sl [] .nil])) = Hb at L0 gt ⊢
  refine loop_inv (fun m fr H1 => ∃ (i : Nat) (rest : List Nd) (V : List Val) (B : Bool) (F : List Fau) (x12 x13 x14 x15 x20 : AV), m = rest.length ∧ l.drop i = rest ∧ i + rest.length = l.length ∧
      fr = [.ptr p 0, .sl rows tk0, .agg [.str tn, .str w], .sl (pRows path) tk, .ptr H.nx 0, .ptr Ha.nx 0, .bool false, .ptr (Ha.nx + 1) 0, .bool B, x12, x13, x14, x15, .sl rows tk0, .int .i64 (l.length : Int), .int .i64 (i : Int), x20] ∧
      LS H H1 p (fs ++ F) 7 Ha.nx (Ha.nx + 1) [] V ∧ H1.get H.nx = some (.cells [.str tn, .str w]) ∧ F.length + tots rest ≤ tots l ∧ V.length = i ∧
      V ++ (itemsF w path i rest).1 = (itemsF w path 0 l).1 ∧ (B && (itemsF w path i rest).2.1) = (itemsF w path 0 l).2.1 ∧ F ++ (itemsF w path i rest).2.2 = (itemsF w path 0 l).2.2) ?_ (m := l.length) ?_
  · rintro m fr H1 k ⟨i, rest, V, B, F, x12, x13, x14, x15, x20, rfl, hd, hi, rfl, L, gt, hFt, hV, t2', t3', t4'⟩ hk
    cases rest with
    | nil =>
      have hli : ¬ (i : Int) < (l.length : Int) := by simp at hi; omega
      simp only [List.append_nil, itemsF, Bool.and_true] at t2' t3' t4'
      subst t2'; subst t3'; subst t4'
      haveI := L.fn
      obtain ⟨nv, lv, lrows, o1, o2, o3, o4, o5, o6⟩ := L.ow
      obtain ⟨tkn, rfl⟩ := o2.sl
      obtain ⟨tkl, rfl⟩ := o3.sl
      have ld := fun k => qLdA_whole (n := 4) o1 rfl k
      have sr := fun k => qSt_whole (n := 4) L.ug (l := [.int .i64 7, .str [], .sl (strRows []) tkn, .sl lrows tkl]) rfl rfl rfl k
      have lt := lt_i L.ug
      have g2 : (H1.set Ha.nx (some (.cells [.int .i64 7, .str [], .sl (strRows []) tkn, .sl lrows tkl]))).get Ha.nx = some (.cells [.int .i64 7, .str [], .sl (strRows []) tkn, .sl lrows tkl]) := by rw [get_set_i lt, if_pos rfl]
      have ld2 := fun k => qLdA_whole (n := 4) g2 rfl k
      have L2 : FS (H1.set Ha.nx (some (.cells [.int .i64 7, .str [], .sl (strRows []) tkn, .sl lrows tkl]))) p (fs ++ (itemsF w path 0 l).2.2) ∧ St H (H1.set Ha.nx (some (.cells [.int .i64 7, .str [], .sl (strRows []) tkn, .sl lrows tkl]))) p := by
        have gp : (H1.set Ha.nx (some (.cells [.int .i64 7, .str [], .sl (strRows []) tkn, .sl lrows tkl]))).get p = H1.get p := by rw [get_set_i lt, if_neg (by omega)]
        refine ⟨?_, ⟨⟨inferInstance, by rw [AH.nx_set]; exact L.st.ex.nx, fun j hj hn => by rw [get_set_i lt, if_neg (by omega)]; exact L.st.ex.keep j hj hn⟩, fun j hj ht => L.st.tt j hj ((Tch.eq gp j).1 ht)⟩⟩
        obtain ⟨v, rws, f1, f2, f3⟩ := L.fs
        refine ⟨v, rws, gp.trans f1, f2.keep fun j hj => ?_, f3⟩
        rw [get_set_i lt, if_neg]
        intro e; have := f2.tok hj; rw [e, L.ug] at this; cases this
      simp only [l61_4, r61_4, r61_10, opn_z, opn_s, sel_z, sel_s, qCd_eq, qIf_true, qIf_false, qFn_eq, qBl_eq, qO_some, qRes_val, qHp_some, qPick_true, qPick_false, qG_tt, qG_ff, qG_tf, qG_ft, cellsK_some, qLd_vptr, qLdA_vptr, qFa_ptr, qFa_vptr, qNc_ptr, qNc_vptr, qNc_fn, qNot_bool, qExt_tup, qCallV_fn, qLss_int, qLeq_int, qGtr_int, qGeq_int, qEql_int, qNeq_int, qAdd_int, qSub_int, qMul_int, qConvI_int, qLenL_sl, qLenL_hsl, qLenS_str, foldO, min2_int, max2_int, qSame_refl, Nat.zero_add, List.getElem?_cons_zero, List.getElem?_cons_succ, List.nil_append, List.cons_append, List.append_nil, one_bool, one_int, one_str, one_nilp, one_ptr, one_sl, one_hsl, one_map, one_fn, List.length_cons, List.length_nil, List.set_cons_zero, List.set_cons_succ, Nat.reduceLT, Nat.reduceAdd, hli, decide_false, ld, sr, qPtr_ptr, ld2]
      exact ⟨_, rfl, ⟨tkn, tkl, lrows, rfl, o4⟩, L2⟩
    | cons n rest =>
      obtain ⟨d1, d2, d3⟩ := drop_cons hd
      have hli : (i : Int) < (l.length : Int) := by omega
      obtain ⟨row, e1, e2⟩ := hE.get d1
      obtain ⟨e3, e4⟩ := e2.ten
      obtain ⟨e5, e6⟩ := e2.heads
      have hmem : n ∈ l := List.mem_of_getElem? d1
      have hwn := woks_mem hw n hmem
      have htot : tot n + tots rest + F.length ≤ tots l := by simp only [tots] at hFt; omega
      have ix : ∀ k : AV → Prop, qIa 10 (.sl rows tk0) (.int .i64 (i : Int)) k = k (.vptr row 0) := fun k => qIa_sl (R := Prop) .i64 k 10 rows tk0 i row e1 e3
      have lv0 : ∀ (H : AH) (k : AV → Prop), qLdA 10 (.vptr row 0) H k = k (.agg row) := fun H k => by rw [qLdA_vptr, slice_whole row 10 e3, qO_some]
      obtain ⟨b, H2, H3, x1, x2, x3, x4, x5, x6, x7, L3, x8⟩ := L.box (n := 10) z61 row rfl e3 e4
      have y1 := fun k => qLdA_whole (n := 10) x3 e3 k
      have gt3 := (x8 _ _ gt).1
      have y2 := fun k => qLdA_whole (n := 2) gt3 rfl k
      have y4 : ∀ k : AV → Prop, qBld z72 [(1, 1, .int .i64 (i : Int))] k = k (.agg [.str [], .int .i64 (i : Int)]) := fun k => rfl
      have y5 : ∀ k : AV → Prop, qRows z72 1 [(0, .agg [.str [], .int .i64 (i : Int)])] k = k (.sl [[.str [], .int .i64 (i : Int)]] .full) := fun k => rfl
      obtain ⟨c, H4, z1, z2, z3, z4, z5, z6, L4, z7⟩ := L3.spot z58
      obtain ⟨x3b, hbc⟩ := z7 b _ x3
      haveI := L4.fn
      obtain ⟨tkc, u1, u2⟩ := ep56 path tk H4
      have kp4 := fun k => qKeep_of z2 k
      have y1b := fun k => qLdA_whole (n := 10) x3b e3 k
      have gt4 := (z7 _ _ gt3).1
      have y2b := fun k => qLdA_whole (n := 2) gt4 rfl k
      obtain ⟨tp, H5, a1, a2⟩ := app_step path .full tkc u1 (by omega) [] (i : Int) (H := H4)
      have L5 := L4.ex a2
      haveI := L5.fn
      have z2c := a2.cell0 z2
      have x3c := a2.cell0 x3b
      have kp5 := fun k => qKeep_of z2c k
      have y1c := fun k => qLdA_whole (n := 10) x3c e3 k
      have gt5 := a2.cell0 gt4
      have y2c := fun k => qLdA_whole (n := 2) gt5 rfl k
      obtain ⟨r, H6, n1, n2, n3, n4⟩ := ih n hmem H5 p (fs ++ F) row tn w (path ++ [([], (i : Int))]) (.own tp) e2 L5.fs hwn hwl (fun h => by cases h) (by simp; omega) (by simp; omega)
      have L6 := L5.step n4 n3
      haveI := L6.fn
      have z2d := n4.cells L5.fs z2c z4
      have x3d := n4.cells L5.fs x3c x5
      have gt6 := n4.cells L5.fs gt5 (by omega)
      have hgc : H.nx ≠ c := (z7 _ _ gt3).2
      have kp6 := fun k => qKeep_of z2d k
      have st6 := fun k => qSt_whole (n := 4) z2d rfl n2.four n2.ones k
      have L7 := L6.set z2d z3 z4 z5 z6 (some (.cells r))
      have ltc := lt_i z2d
      have hc7 : (H6.set c (some (.cells r))).get c = some (.cells r) := by rw [get_set_i ltc, if_pos rfl]
      have hb7 : (H6.set c (some (.cells r))).get b = some (.cells row) := by rw [get_set_i ltc, if_neg hbc]; exact x3d
      have gt7 : (H6.set c (some (.cells r))).get H.nx = some (.cells [.str tn, .str w]) := by rw [get_set_i ltc, if_neg hgc]; exact gt6
      generalize H6.set c (some (.cells r)) = H7 at st6 L7 hc7 hb7 gt7
      obtain ⟨nv, lv, lv', H8, q1, o2, f8, q8, c8, m2, L9, k9⟩ := L7.addL n2 (by omega) hc7
      have w3 := fun k => ld1 q1 3 lv rfl k
      have w4 := fun k => qLdA_whole (n := 4) hc7 n2.four k
      have w6 := fun k => qRows1 z58 r n2.four n2.ones k
      have t2 : ∀ k : AV → AH → Prop, qSt 1 (.ptr (Ha.nx + 1) 3) lv' H8 k = k undef (H8.set (Ha.nx + 1) (some (.cells [.int .i64 7, .str [], nv, lv']))) :=
        fun k => qSt_one (R := Prop) f8.fn q8 3 lv' k o2 (by simp)
      have gt9 := k9 _ _ (by omega) gt7
      have hw1 := wrap_up i (by omega)
      simp only [l61_4, r61_4, r61_5, r61_6, r61_7, r61_8, r61_9, opn_z, opn_s, sel_z, sel_s, qCd_eq, qIf_true, qIf_false, qFn_eq, qBl_eq, qO_some, qRes_val, qHp_some, qPick_true, qPick_false, qG_tt, qG_ff, qG_tf, qG_ft, cellsK_some, qLd_vptr, qLdA_vptr, qFa_ptr, qFa_vptr, qNc_ptr, qNc_vptr, qNc_fn, qNot_bool, qExt_tup, qCallV_fn, qLss_int, qLeq_int, qGtr_int, qGeq_int, qEql_int, qNeq_int, qAdd_int, qSub_int, qMul_int, qConvI_int, qLenL_sl, qLenL_hsl, qLenS_str, foldO, min2_int, max2_int, qSame_refl, Nat.zero_add, List.getElem?_cons_zero, List.getElem?_cons_succ, List.nil_append, List.cons_append, List.append_nil, one_bool, one_int, one_str, one_nilp, one_ptr, one_sl, one_hsl, one_map, one_fn, List.length_cons, List.length_nil, List.set_cons_zero, List.set_cons_succ, Nat.reduceLT, Nat.reduceAdd, hli, decide_true, ix, lv0, x1, x2, y1, y2, y4, y5, z1, u2, kp4, y1b, y2b, a1, kp5, y1c, y2c, n1, kp6, st6, w3, w4, w6, m2, t2, and_step, hw1]
      refine hk rest.length _ _ (by simp) ⟨i + 1, rest, V ++ [(nodeF w (path ++ [([], (i : Int))]) n).1], B && (nodeF w (path ++ [([], (i : Int))]) n).2.1, F ++ (nodeF w (path ++ [([], (i : Int))]) n).2.2, _, _, _, _, _, rfl, d2, by simp at hi; omega, rfl, ?_, gt9, ?_, by simp [hV], ?_, ?_, ?_⟩
      · rw [← List.append_assoc]; exact L9
      · have := nodeF_len n w (path ++ [([], (i : Int))])
        rw [List.length_append]; omega
      · rw [← t2']; simp [itemsF]
      · rw [← t3']; simp [itemsF, Bool.and_assoc]
      · rw [← t4']; simp [itemsF]
  · exact ⟨0, l, [], true, [], _, _, _, _, _, rfl, rfl, by omega, by rw [hlen]; rfl, by simpa using L0, gt, by simp, rfl, rfl, by simp, rfl⟩

end T
set_option linter.unusedVariables false
set_option linter.unusedSimpArgs false
set_option maxRecDepth 10000
namespace T
open Go Go.Aes Go.Proofs

/-- what is shown of a node: the document's -/
def OneOk (n : Nd) : Prop := ∀ (H : AH) [IsFn H] (p : Nat) (fs : List Fau) (row : List AV) (tn w : Str) (path : List (Str × Int)) (tk : Tk), EN n row → FS H p fs → wok n → w.length ≤ 9223372036854775807 → (tk = .nil → path = []) →
  path.length + tot n ≤ 100000000000 → fs.length + tot n ≤ 100000000000 →
  ∃ r H', EP 57 [.ptr p 0, .agg row, .agg [.str tn, .str w], .sl (pRows path) tk] H = some (.val (.tup [.agg r, .bool (!(nodeF w path n).2.1)]) H') ∧ EV (nodeF w path n).1 r ∧ FS H' p (fs ++ (nodeF w path n).2.2) ∧ St H H' p

/-- the document's fields -/
theorem rfields_ok (l : List Nd) (ih : ∀ n ∈ l, OneOk n) (H : AH) [hfn : IsFn H] (p : Nat) (fs : List Fau) (rows : List (List AV)) (tk0 : Tk) (path : List (Str × Int)) (tk : Tk) (hE : ENs l rows) (hF : FS H p fs) (hw : woks l) (hn : tk = .nil → path = [])
    (hpl : path.length + 1 + tots l ≤ 100000000000) (hfl : fs.length + tots l ≤ 100000000000) :
    ∃ r H', EP 52 [.ptr p 0, .sl rows tk0, .sl (pRows path) tk] H = some (.val (.tup [.agg r, .bool (fieldsF path l).2.1]) H') ∧ EV (.mk 8 [] (l.map Nd.key) (fieldsF path l).1) r ∧ FS H' p (fs ++ (fieldsF path l).2.2) ∧ St H H' p := by
  have hlen := hE.len
  have htl := tots_len l
  suffices key : ∃ v H', EP 52 [.ptr p 0, .sl rows tk0, .sl (pRows path) tk] H = some (.val v H') ∧ ∃ r, v = .tup [.agg r, .bool (fieldsF path l).2.1] ∧ EV (.mk 8 [] (l.map Nd.key) (fieldsF path l).1) r ∧ FS H' p (fs ++ (fieldsF path l).2.2) ∧ St H H' p by
    obtain ⟨v, H', h1, r, rfl, h2⟩ := key
    exact ⟨r, H', h1, h2⟩
  refine ap_form e52 xf52 rfl ?_
  have hp := hF.lt
  have g1 : ((H.push (.cells z58)).push (.cells z58)).get (H.nx + 1) = some (.cells z58) := by
    have := get_push_at (H := H.push (.cells z58)) (.cells z58)
    rwa [nx_push_i] at this
  have s1 := qSt_whole g1 (n := 4) rfl (l := [.int .i64 8, .str [], .sl [] .nil, .sl [] .nil]) rfl rfl
  have b1 : ∀ k : AV → Prop, qBld z58 [(0, 1, .int .i64 8)] k = k (.agg [.int .i64 8, .str [], .sl [] .nil, .sl [] .nil]) := fun k => rfl
  have L0 := LS.init (.refl _) hfn hF 8
  simp only [c52, r52_0, r52_1, r52_2, opn_z, opn_s, sel_z, sel_s, qCd_eq, qIf_true, qIf_false, qFn_eq, qBl_eq, qO_some, qRes_val, qHp_some, qPick_true, qPick_false, qG_tt, qG_ff, qG_tf, qG_ft, cellsK_some, qLd_vptr, qLdA_vptr, qFa_ptr, qFa_vptr, qNc_ptr, qNc_vptr, qNc_fn, qNot_bool, qExt_tup, qCallV_fn, qLss_int, qLeq_int, qGtr_int, qGeq_int, qEql_int, qNeq_int, qAdd_int, qSub_int, qMul_int, qConvI_int, qLenL_sl, qLenL_hsl, qLenS_str, foldO, min2_int, max2_int, qSame_refl, Nat.zero_add, List.getElem?_cons_zero, List.getElem?_cons_succ, List.nil_append, List.cons_append, List.append_nil, one_bool, one_int, one_str, one_nilp, one_ptr, one_sl, one_hsl, one_map, one_fn, List.length_cons, List.length_nil, List.set_cons_zero, List.set_cons_succ, Nat.reduceLT, Nat.reduceAdd, qNew_i, wr_ptr, nx_push_i, b1, s1]
  generalize ((H.push (.cells z58)).push (.cells z58)).set (H.nx + 1) (some (.cells [.int .i64 8, .str [], .sl [] .nil, .sl [] .nil])) = Hb at L0 ⊢
  refine loop_inv (fun m fr H1 => ∃ (i : Nat) (rest : List Nd) (ns : List Str) (V : List Val) (B : Bool) (F : List Fau) (x11 x12 x17 : AV), m = rest.length ∧ l.drop i = rest ∧ i + rest.length = l.length ∧
      fr = [.ptr p 0, .sl rows tk0, .sl (pRows path) tk, .ptr H.nx 0, .bool false, .ptr (H.nx + 1) 0, .bool B, .int .i64 (i : Int), x11, x12, x17] ∧
      LS H H1 p (fs ++ F) 8 H.nx (H.nx + 1) ns V ∧ F.length + tots rest ≤ tots l ∧ V.length = i ∧ ns.length = i ∧
      ns ++ rest.map Nd.key = l.map Nd.key ∧ V ++ (fieldsF path rest).1 = (fieldsF path l).1 ∧ (B && (fieldsF path rest).2.1) = (fieldsF path l).2.1 ∧ F ++ (fieldsF path rest).2.2 = (fieldsF path l).2.2) ?_ (m := l.length) ?_
  · rintro m fr H1 k ⟨i, rest, ns, V, B, F, x11, x12, x17, rfl, hd, hi, rfl, L, hFt, hV, hns, t1', t2', t3', t4'⟩ hk
    cases rest with
    | nil =>
      have hli : ¬ (i : Int) < (l.length : Int) := by simp at hi; omega
      simp only [List.map_nil, List.append_nil, fieldsF, Bool.and_true] at t1' t2' t3' t4'
      subst t1'; subst t2'; subst t3'; subst t4'
      haveI := L.fn
      obtain ⟨nv, lv, lrows, o1, o2, o3, o4, o5, o6⟩ := L.ow
      obtain ⟨tkn, rfl⟩ := o2.sl
      obtain ⟨tkl, rfl⟩ := o3.sl
      have ld := fun k => qLdA_whole (n := 4) o1 rfl k
      have sr := fun k => qSt_whole (n := 4) L.ug (l := [.int .i64 8, .str [], .sl (strRows (l.map Nd.key)) tkn, .sl lrows tkl]) rfl rfl rfl k
      have lt := lt_i L.ug
      have g2 : (H1.set H.nx (some (.cells [.int .i64 8, .str [], .sl (strRows (l.map Nd.key)) tkn, .sl lrows tkl]))).get H.nx = some (.cells [.int .i64 8, .str [], .sl (strRows (l.map Nd.key)) tkn, .sl lrows tkl]) := by rw [get_set_i lt, if_pos rfl]
      have ld2 := fun k => qLdA_whole (n := 4) g2 rfl k
      have L2 : FS (H1.set H.nx (some (.cells [.int .i64 8, .str [], .sl (strRows (l.map Nd.key)) tkn, .sl lrows tkl]))) p (fs ++ (fieldsF path l).2.2) ∧ St H (H1.set H.nx (some (.cells [.int .i64 8, .str [], .sl (strRows (l.map Nd.key)) tkn, .sl lrows tkl]))) p := by
        have gp : (H1.set H.nx (some (.cells [.int .i64 8, .str [], .sl (strRows (l.map Nd.key)) tkn, .sl lrows tkl]))).get p = H1.get p := by rw [get_set_i lt, if_neg (by omega)]
        refine ⟨?_, ⟨⟨inferInstance, by rw [AH.nx_set]; exact L.st.ex.nx, fun j hj hn => by rw [get_set_i lt, if_neg (by omega)]; exact L.st.ex.keep j hj hn⟩, fun j hj ht => L.st.tt j hj ((Tch.eq gp j).1 ht)⟩⟩
        obtain ⟨v, rws, f1, f2, f3⟩ := L.fs
        refine ⟨v, rws, gp.trans f1, f2.keep fun j hj => ?_, f3⟩
        rw [get_set_i lt, if_neg]
        intro e; have := f2.tok hj; rw [e, L.ug] at this; cases this
      simp only [l52_4, r52_3, r52_8, opn_z, opn_s, sel_z, sel_s, qCd_eq, qIf_true, qIf_false, qFn_eq, qBl_eq, qO_some, qRes_val, qHp_some, qPick_true, qPick_false, qG_tt, qG_ff, qG_tf, qG_ft, cellsK_some, qLd_vptr, qLdA_vptr, qFa_ptr, qFa_vptr, qNc_ptr, qNc_vptr, qNc_fn, qNot_bool, qExt_tup, qCallV_fn, qLss_int, qLeq_int, qGtr_int, qGeq_int, qEql_int, qNeq_int, qAdd_int, qSub_int, qMul_int, qConvI_int, qLenL_sl, qLenL_hsl, qLenS_str, foldO, min2_int, max2_int, qSame_refl, Nat.zero_add, List.getElem?_cons_zero, List.getElem?_cons_succ, List.nil_append, List.cons_append, List.append_nil, one_bool, one_int, one_str, one_nilp, one_ptr, one_sl, one_hsl, one_map, one_fn, List.length_cons, List.length_nil, List.set_cons_zero, List.set_cons_succ, Nat.reduceLT, Nat.reduceAdd, hlen, hli, decide_false, ld, sr, qPtr_ptr, ld2]
      exact ⟨_, rfl, ⟨tkn, tkl, lrows, rfl, o4⟩, L2⟩
    | cons n rest =>
      obtain ⟨d1, d2, d3⟩ := drop_cons hd
      have hli : (i : Int) < (l.length : Int) := by omega
      obtain ⟨row, e1, e2⟩ := hE.get d1
      obtain ⟨e3, e4⟩ := e2.ten
      obtain ⟨e5, e6⟩ := e2.heads
      have hmem : n ∈ l := List.mem_of_getElem? d1
      have hwn := woks_mem hw n hmem
      have htot : tot n + tots rest + F.length ≤ tots l := by simp only [tots] at hFt; omega
      have ix : ∀ k : AV → Prop, qIa 10 (.sl rows tk0) (.int .i64 (i : Int)) k = k (.vptr row 0) := fun k => qIa_sl (R := Prop) .i64 k 10 rows tk0 i row e1 e3
      have lv0 : ∀ (H : AH) (k : AV → Prop), qLdA 10 (.vptr row 0) H k = k (.agg row) := fun H k => by rw [qLdA_vptr, slice_whole row 10 e3, qO_some]
      have lv1 : ∀ (H : AH) (k : AV → Prop), qLd (.vptr row 1) H k = k (.str n.key) := fun H k => by rw [qLd_vptr, e5, qO_some]
      have lv2 : ∀ (H : AH) (k : AV → Prop), qLdA 2 (.vptr row 2) H k = k (.agg [.str n.tn, .str n.w]) := fun H k => by rw [qLdA_vptr, e6, qO_some]
      have y4 : ∀ k : AV → Prop, qBld z72 [(0, 1, .str n.key)] k = k (.agg [.str n.key, .int .i64 0]) := fun k => rfl
      have y5 : ∀ k : AV → Prop, qRows z72 1 [(0, .agg [.str n.key, .int .i64 0])] k = k (.sl [[.str n.key, .int .i64 0]] .full) := fun k => rfl
      obtain ⟨c, H4, z1, z2, z3, z4, z5, z6, L4, z7⟩ := L.spot z58
      haveI := L4.fn
      obtain ⟨v1, Hc, tp, H5, u2, a1, ac, a2⟩ := app_two path tk (by omega) n.key 0 (H := H4)
      have Lc := L4.ex ac
      haveI := Lc.fn
      have L5 := L4.ex a2
      haveI := L5.fn
      have zc := ac.cell0 z2
      have kpc := fun k => qKeep_of zc k
      have z2c := a2.cell0 z2
      have kp5 := fun k => qKeep_of z2c k
      obtain ⟨r, H6, n1, n2, n3, n4⟩ := ih n hmem H5 p (fs ++ F) row n.tn n.w (path ++ [(n.key, 0)]) (.own tp) e2 L5.fs hwn (wok_w hwn) (fun h => by cases h) (by simp; omega) (by simp; omega)
      have L6 := L5.step n4 n3
      haveI := L6.fn
      have z2d := n4.cells L5.fs z2c z4
      have kp6 := fun k => qKeep_of z2d k
      have st6 := fun k => qSt_whole (n := 4) z2d rfl n2.four n2.ones k
      have L7 := L6.set z2d z3 z4 z5 z6 (some (.cells r))
      have ltc := lt_i z2d
      have hc7 : (H6.set c (some (.cells r))).get c = some (.cells r) := by rw [get_set_i ltc, if_pos rfl]
      generalize H6.set c (some (.cells r)) = H7 at st6 L7 hc7
      obtain ⟨nv, lv, nv', lv', H8, H9, q1, o1, o2, f8, f9, q8, c8, q9, m1, m2, L9⟩ := L7.addN n.key n2 (by omega) (by omega) hc7
      have w1 := fun k => ld1 q1 2 nv rfl k
      have w3 := fun k => ld1 q1 3 lv rfl k
      have w4 := fun k => qLdA_whole (n := 4) hc7 n2.four k
      have w5 : ∀ k : AV → Prop, qRows z9 1 [(0, .str n.key)] k = k (.sl [[.str n.key]] .full) := fun k => rfl
      have w6 := fun k => qRows1 z58 r n2.four n2.ones k
      have w7 := fun k => qLdA_whole (n := 4) c8 n2.four k
      have w8 := fun k => ld1 q8 3 lv rfl k
      have t1 : ∀ k : AV → AH → Prop, qSt 1 (.ptr (H.nx + 1) 2) nv' H9 k = k undef (H9.set (H.nx + 1) (some (.cells [.int .i64 8, .str [], nv', lv]))) := fun k => qSt_one (R := Prop) f9.fn q9 2 nv' k o1 (by simp)
      have q9' : (H9.set (H.nx + 1) (some (.cells [.int .i64 8, .str [], nv', lv]))).get (H.nx + 1) = some (.cells [.int .i64 8, .str [], nv', lv]) := by rw [get_set_i (lt_i q9), if_pos rfl]
      have t2 : ∀ k : AV → AH → Prop, qSt 1 (.ptr (H.nx + 1) 3) lv' (H9.set (H.nx + 1) (some (.cells [.int .i64 8, .str [], nv', lv]))) k = k undef ((H9.set (H.nx + 1) (some (.cells [.int .i64 8, .str [], nv', lv]))).set (H.nx + 1) (some (.cells [.int .i64 8, .str [], nv', lv']))) :=
        fun k => qSt_one (R := Prop) (IsFn.set (H := H9) _ _).fn q9' 3 lv' k o2 (by simp)
      have hw1 := wrap_up i (by omega)
      simp only [l52_4, r52_3, r52_4, r52_5, r52_6, r52_7, opn_z, opn_s, sel_z, sel_s, qCd_eq, qIf_true, qIf_false, qFn_eq, qBl_eq, qO_some, qRes_val, qHp_some, qPick_true, qPick_false, qG_tt, qG_ff, qG_tf, qG_ft, cellsK_some, qLd_vptr, qLdA_vptr, qFa_ptr, qFa_vptr, qNc_ptr, qNc_vptr, qNc_fn, qNot_bool, qExt_tup, qCallV_fn, qLss_int, qLeq_int, qGtr_int, qGeq_int, qEql_int, qNeq_int, qAdd_int, qSub_int, qMul_int, qConvI_int, qLenL_sl, qLenL_hsl, qLenS_str, foldO, min2_int, max2_int, qSame_refl, Nat.zero_add, List.getElem?_cons_zero, List.getElem?_cons_succ, List.nil_append, List.cons_append, List.append_nil, one_bool, one_int, one_str, one_nilp, one_ptr, one_sl, one_hsl, one_map, one_fn, List.length_cons, List.length_nil, List.set_cons_zero, List.set_cons_succ, Nat.reduceLT, Nat.reduceAdd, hlen, hli, decide_true, ix, lv0, lv1, lv2, y4, y5, z1, u2, kpc, a1, kp5, n1, kp6, st6, w1, w3, w4, w5, w6, m1, w7, w8, m2, t1, t2, and_not_step, Bool.not_not, hw1]
      refine hk rest.length _ _ (by simp) ⟨i + 1, rest, ns ++ [n.key], V ++ [(nodeF n.w (path ++ [(n.key, 0)]) n).1], B && (nodeF n.w (path ++ [(n.key, 0)]) n).2.1, F ++ (nodeF n.w (path ++ [(n.key, 0)]) n).2.2, _, _, _, rfl, d2, by simp at hi; omega, rfl, ?_, ?_, by simp [hV], by simp [hns], ?_, ?_, ?_, ?_⟩
      · rw [← List.append_assoc]; exact L9
      · have := nodeF_len n n.w (path ++ [(n.key, 0)])
        rw [List.length_append]; omega
      · rw [← t1']; simp
      · rw [← t2']; simp [fieldsF]
      · rw [← t3']; simp [fieldsF, Bool.and_assoc]
      · rw [← t4']; simp [fieldsF]
  · exact ⟨0, l, [], [], true, [], _, _, _, rfl, rfl, by omega, rfl, by simpa using L0, by simp, rfl, rfl, rfl, rfl, by simp, rfl⟩

end T
set_option linter.unusedVariables false
set_option linter.unusedSimpArgs false
set_option maxRecDepth 10000
namespace T
open Go Go.Aes Go.Proofs

theorem LS.init2 {Hs H : AH} [IsFn H] {p u : Nat} {fs : List Fau} (e : Kp Hs H (fun _ => False)) (hs : IsFn Hs) (hF : FS Hs p fs) (kind : Int) (hu : H.get u = some (.cells z58)) (hlo : Hs.nx ≤ u) :
    LS Hs ((H.push (.cells z58)).set H.nx (some (.cells [.int .i64 kind, .str [], .sl [] .nil, .sl [] .nil]))) p fs kind u H.nx [] [] := by
  have hp := hF.lt
  have hnx := e.nx
  have ul := lt_i hu
  have n1 : (H.push (.cells z58)).nx = H.nx + 1 := nx_push_i _
  have g : ∀ j, j < H.nx → ((H.push (.cells z58)).set H.nx (some (.cells [.int .i64 kind, .str [], .sl [] .nil, .sl [] .nil]))).get j = H.get j := fun j hj => by
    rw [get_set_i (by omega), if_neg (by omega), get_push_lt _ hj]
  have ex : Kp Hs ((H.push (.cells z58)).set H.nx (some (.cells [.int .i64 kind, .str [], .sl [] .nil, .sl [] .nil]))) (fun _ => False) :=
    ⟨inferInstance, by rw [AH.nx_set, n1]; omega, fun j hj _ => (g j (by omega)).trans (e.keep j hj (fun h => h))⟩
  refine ⟨inferInstance, St.of_ex ex hp (fun h => h) (fun _ _ h => h), hF.keep ex (fun _ _ h => h), ⟨by omega, by omega, by omega⟩, ⟨hlo, by omega⟩, (g u ul).trans hu, .sl [] .nil, .sl [] .nil, [], ?_, .nil, .nil, rfl, fun j hj => ?_, fun j hj => ?_⟩
  · rw [get_set_i (by omega), if_pos rfl]
  · obtain ⟨r, hj⟩ := hj; cases hj
  · obtain ⟨r, hj⟩ := hj; cases hj

/-- the document's list -/
theorem rlist_ok (l : List Nd) (ih : ∀ n ∈ l, OneOk n) (H : AH) [hfn : IsFn H] (p : Nat) (fs : List Fau) (rowN : List AV) (hN1 : rowN.length = 10) (hN2 : allOne rowN = true) (rows : List (List AV)) (tk0 : Tk) (hN3 : rowN[9]? = some (.sl rows tk0)) (tn w0 : Str) (hwl0 : w0.length ≤ 9223372036854775807) (path : List (Str × Int)) (tk : Tk) (hE : ENs l rows) (hF : FS H p fs) (hw : woks l) (hn : tk = .nil → path = [])
    (hpl : path.length + 1 + tots l ≤ 100000000000) (hfl : fs.length + tots l ≤ 100000000000) :
    ∃ r H', EP 65 [.ptr p 0, .agg rowN, .agg [.str tn, .str w0], .sl (pRows path) tk] H = some (.val (.tup [.agg r, .bool (itemsF (cutE w0 93) path 0 l).2.1]) H') ∧ EV (.mk 7 [] [] (itemsF (cutE w0 93) path 0 l).1) r ∧ FS H' p (fs ++ (itemsF (cutE w0 93) path 0 l).2.2) ∧ St H H' p := by
  have hlen := hE.len
  have htl := tots_len l
  have hwl : (cutE w0 93).length ≤ 9223372036854775807 := Nat.le_trans (cutE_len w0 93) hwl0
  suffices key : ∃ v H', EP 65 [.ptr p 0, .agg rowN, .agg [.str tn, .str w0], .sl (pRows path) tk] H = some (.val v H') ∧ ∃ r, v = .tup [.agg r, .bool (itemsF (cutE w0 93) path 0 l).2.1] ∧ EV (.mk 7 [] [] (itemsF (cutE w0 93) path 0 l).1) r ∧ FS H' p (fs ++ (itemsF (cutE w0 93) path 0 l).2.2) ∧ St H H' p by
    obtain ⟨v, H', h1, r, rfl, h2⟩ := key
    exact ⟨r, H', h1, h2⟩
  refine ap_form e65 xf65 rfl ?_
  have hp := hF.lt
  have bx1 : ∀ k : AV → AH → Prop, qBox (.agg rowN) H k = k (.ptr H.nx 0) (H.push (.cells rowN)) := fun k => by rw [qBox_i, cells_agg, hN2]; rfl
  have bx2 : ∀ k : AV → AH → Prop, qBox (.agg [.str tn, .str w0]) (H.push (.cells rowN)) k = k (.ptr (H.nx + 1) 0) ((H.push (.cells rowN)).push (.cells [.str tn, .str w0])) := fun k => by rw [qBox_i, nx_push_i]; rfl
  have nw : ∀ k : AV → AH → Prop, qNew (.cells z58) .ptr ((H.push (.cells rowN)).push (.cells [.str tn, .str w0])) k = k (.ptr (H.nx + 2) 0) (((H.push (.cells rowN)).push (.cells [.str tn, .str w0])).push (.cells z58)) := fun k => by rw [qNew_i, nx_push_i, nx_push_i]; rfl
  have e0 : Kp H (((H.push (.cells rowN)).push (.cells [.str tn, .str w0])).push (.cells z58)) (fun _ => False) := ((Kp.push _ _).trans (Kp.push _ _) (fun _ _ h => h)).trans (Kp.push _ _) (fun _ _ h => h)
  have n3 : (((H.push (.cells rowN)).push (.cells [.str tn, .str w0])).push (.cells z58)).nx = H.nx + 3 := by rw [nx_push_i, nx_push_i, nx_push_i]
  have gu : (((H.push (.cells rowN)).push (.cells [.str tn, .str w0])).push (.cells z58)).get (H.nx + 2) = some (.cells z58) := by
    have := get_push_at (H := (H.push (.cells rowN)).push (.cells [.str tn, .str w0])) (.cells z58)
    rwa [nx_push_i, nx_push_i] at this
  have gt : (((H.push (.cells rowN)).push (.cells [.str tn, .str w0])).push (.cells z58)).get (H.nx + 1) = some (.cells [.str tn, .str w0]) := by
    rw [get_push_lt _ (by rw [nx_push_i, nx_push_i]; omega)]
    have := get_push_at (H := H.push (.cells rowN)) (.cells [.str tn, .str w0])
    rwa [nx_push_i] at this
  have gn : (((H.push (.cells rowN)).push (.cells [.str tn, .str w0])).push (.cells z58)).get H.nx = some (.cells rowN) := by
    rw [get_push_lt _ (by rw [nx_push_i, nx_push_i]; omega), get_push_lt _ (by rw [nx_push_i]; omega)]
    exact get_push_at _
  simp only [c65, r65_0, opn_z, opn_s, sel_z, sel_s, qCd_eq, qIf_true, qIf_false, qFn_eq, qBl_eq, qO_some, qRes_val, qHp_some, qPick_true, qPick_false, qG_tt, qG_ff, qG_tf, qG_ft, cellsK_some, qLd_vptr, qLdA_vptr, qFa_ptr, qFa_vptr, qNc_ptr, qNc_vptr, qNc_fn, qNot_bool, qExt_tup, qCallV_fn, qLss_int, qLeq_int, qGtr_int, qGeq_int, qEql_int, qNeq_int, qAdd_int, qSub_int, qMul_int, qConvI_int, qLenL_sl, qLenL_hsl, qLenS_str, foldO, min2_int, max2_int, qSame_refl, Nat.zero_add, List.getElem?_cons_zero, List.getElem?_cons_succ, List.nil_append, List.cons_append, List.append_nil, one_bool, one_int, one_str, one_nilp, one_ptr, one_sl, one_hsl, one_map, one_fn, List.length_cons, List.length_nil, List.set_cons_zero, List.set_cons_succ, Nat.reduceLT, Nat.reduceAdd, bx1, bx2, nw]
  haveI : IsFn (((H.push (.cells rowN)).push (.cells [.str tn, .str w0])).push (.cells z58)) := inferInstance
  generalize ((H.push (.cells rowN)).push (.cells [.str tn, .str w0])).push (.cells z58) = Ha at *
  -- the type, cut
  have l93 := lastC_eq w0 93 (by decide)
  have h93 : ((93 : UInt8).toNat : Int) = 93 := rfl
  rw [h93] at l93
  have lt0 := fun k => qLdA_whole (n := 2) gt rfl k
  have e63' := ep63 tn w0 (by omega) Ha
  simp only [r65_1, opn_z, opn_s, sel_z, sel_s, qCd_eq, qIf_true, qIf_false, qFn_eq, qBl_eq, qO_some, qRes_val, qHp_some, qPick_true, qPick_false, qG_tt, qG_ff, qG_tf, qG_ft, cellsK_some, qLd_vptr, qLdA_vptr, qFa_ptr, qFa_vptr, qNc_ptr, qNc_vptr, qNc_fn, qNot_bool, qExt_tup, qCallV_fn, qLss_int, qLeq_int, qGtr_int, qGeq_int, qEql_int, qNeq_int, qAdd_int, qSub_int, qMul_int, qConvI_int, qLenL_sl, qLenL_hsl, qLenS_str, foldO, min2_int, max2_int, qSame_refl, Nat.zero_add, List.getElem?_cons_zero, List.getElem?_cons_succ, List.nil_append, List.cons_append, List.append_nil, one_bool, one_int, one_str, one_nilp, one_ptr, one_sl, one_hsl, one_map, one_fn, List.length_cons, List.length_nil, List.set_cons_zero, List.set_cons_succ, Nat.reduceLT, Nat.reduceAdd, lt0, e63', l93]
  suffices key : ∀ Hb, IsFn Hb → Kp H Hb (fun _ => False) → Hb.nx = H.nx + 3 → Hb.get (H.nx + 2) = some (.cells z58) → Hb.get (H.nx + 1) = some (.cells [.str tn, .str (cutE w0 93)]) → Hb.get H.nx = some (.cells rowN) → ∀ x : AV,
      r65_3 (r65_4 (qLoop (l65_4 (evp X PS) (r65_10 fun fr H_2 => qPtr (sel 6 fr) (qLdA 4 (sel 6 fr) H_2 fun w0_1 => ∃ r, AV.tup [w0_1, sel 7 fr] = AV.tup [AV.agg r, AV.bool (itemsF (cutE w0 93) path 0 l).2.1] ∧ EV (Val.mk 7 [] [] (itemsF (cutE w0 93) path 0 l).1) r ∧ FS H_2 p (fs ++ (itemsF (cutE w0 93) path 0 l).2.2) ∧ St H H_2 p)))))
        [.ptr p 0, .agg rowN, .agg [.str tn, .str w0], .sl (pRows path) tk, .ptr H.nx 0, .ptr (H.nx + 1) 0, .ptr (H.nx + 2) 0, .bool false, Aes.undef, Aes.undef, Aes.undef, Aes.undef, Aes.undef, x, Aes.undef] Hb by
    rcases hc : ends w0 93 with _ | _
    · have h : ¬ w0.getLast? = some 93 := by simpa [ends] using hc
      simp only [qIf_false]
      exact key Ha inferInstance e0 n3 gu (by rw [cutE, if_neg h]; exact gt) gn _
    · have h : w0.getLast? = some 93 := by simpa [ends] using hc
      have e70' := ep70 tn w0 (by omega) Ha
      have st := fun k => qSt_whole (n := 2) gt (l := [.str tn, .str w0.dropLast]) rfl rfl rfl k
      have ltt := lt_i gt
      simp only [qIf_true, r65_2, opn_z, opn_s, sel_z, sel_s, qCd_eq, qIf_true, qIf_false, qFn_eq, qBl_eq, qO_some, qRes_val, qHp_some, qPick_true, qPick_false, qG_tt, qG_ff, qG_tf, qG_ft, cellsK_some, qLd_vptr, qLdA_vptr, qFa_ptr, qFa_vptr, qNc_ptr, qNc_vptr, qNc_fn, qNot_bool, qExt_tup, qCallV_fn, qLss_int, qLeq_int, qGtr_int, qGeq_int, qEql_int, qNeq_int, qAdd_int, qSub_int, qMul_int, qConvI_int, qLenL_sl, qLenL_hsl, qLenS_str, foldO, min2_int, max2_int, qSame_refl, Nat.zero_add, List.getElem?_cons_zero, List.getElem?_cons_succ, List.nil_append, List.cons_append, List.append_nil, one_bool, one_int, one_str, one_nilp, one_ptr, one_sl, one_hsl, one_map, one_fn, List.length_cons, List.length_nil, List.set_cons_zero, List.set_cons_succ, Nat.reduceLT, Nat.reduceAdd, lt0, e70', st]
      refine key _ inferInstance ?_ (by rw [AH.nx_set]; exact n3) ?_ ?_ ?_ _
      · exact ⟨inferInstance, by rw [AH.nx_set]; exact e0.nx, fun j hj hn => by rw [get_set_i ltt, if_neg (by omega)]; exact e0.keep j hj hn⟩
      · rw [get_set_i ltt, if_neg (by omega)]; exact gu
      · rw [get_set_i ltt, if_pos rfl, cutE, if_pos h]
      · rw [get_set_i ltt, if_neg (by omega)]; exact gn
  clear lt0 e63' l93 gt gu gn e0 n3 nw
  intro Ha hfa e0 n3 gu gt gn x
  have hwc := hwl
  generalize cutE w0 93 = w at hwc gt ⊢
  have L0 := LS.init2 e0 hfn hF 7 gu (by omega)
  have g1 : (Ha.push (.cells z58)).get Ha.nx = some (.cells z58) := get_push_at _
  have s1 := qSt_whole g1 (n := 4) rfl (l := [.int .i64 7, .str [], .sl [] .nil, .sl [] .nil]) rfl rfl
  have b1 : ∀ k : AV → Prop, qBld z58 [(0, 1, .int .i64 7)] k = k (.agg [.int .i64 7, .str [], .sl [] .nil, .sl [] .nil]) := fun k => rfl
  have gt : ((Ha.push (.cells z58)).set Ha.nx (some (.cells [.int .i64 7, .str [], .sl [] .nil, .sl [] .nil]))).get (H.nx + 1) = some (.cells [.str tn, .str w]) := by
    rw [get_set_i (lt_i g1), if_neg (by omega), get_push_lt _ (by omega)]; exact gt
  have gn : ((Ha.push (.cells z58)).set Ha.nx (some (.cells [.int .i64 7, .str [], .sl [] .nil, .sl [] .nil]))).get H.nx = some (.cells rowN) := by
    rw [get_set_i (lt_i g1), if_neg (by omega), get_push_lt _ (by omega)]; exact gn
  have nw : ∀ k : AV → AH → Prop, qNew (.cells z58) .ptr Ha k = k (.ptr Ha.nx 0) (Ha.push (.cells z58)) := fun k => by rw [qNew_i, wr_ptr]
  simp only [r65_3, r65_4, opn_z, opn_s, sel_z, sel_s, qCd_eq, qIf_true, qIf_false, qFn_eq, qBl_eq, qO_some, qRes_val, qHp_some, qPick_true, qPick_false, qG_tt, qG_ff, qG_tf, qG_ft, cellsK_some, qLd_vptr, qLdA_vptr, qFa_ptr, qFa_vptr, qNc_ptr, qNc_vptr, qNc_fn, qNot_bool, qExt_tup, qCallV_fn, qLss_int, qLeq_int, qGtr_int, qGeq_int, qEql_int, qNeq_int, qAdd_int, qSub_int, qMul_int, qConvI_int, qLenL_sl, qLenL_hsl, qLenS_str, foldO, min2_int, max2_int, qSame_refl, Nat.zero_add, List.getElem?_cons_zero, List.getElem?_cons_succ, List.nil_append, List.cons_append, List.append_nil, one_bool, one_int, one_str, one_nilp, one_ptr, one_sl, one_hsl, one_map, one_fn, List.length_cons, List.length_nil, List.set_cons_zero, List.set_cons_succ, Nat.reduceLT, Nat.reduceAdd, b1, nw, s1]
  generalize hq0 : Ha.nx = q0 at L0 gt gn ⊢
  generalize (Ha.push (.cells z58)).set q0 (some (.cells [.int .i64 7, .str [], .sl [] .nil, .sl [] .nil])) = Hb at L0 gt gn ⊢
  refine loop_inv (fun m fr H1 => ∃ (i : Nat) (rest : List Nd) (V : List Val) (B : Bool) (F : List Fau) (x13 x14 x17 x25 : AV), m = rest.length ∧ l.drop i = rest ∧ i + rest.length = l.length ∧
      fr = [.ptr p 0, .agg rowN, .agg [.str tn, .str w0], .sl (pRows path) tk, .ptr H.nx 0, .ptr (H.nx + 1) 0, .ptr (H.nx + 2) 0, .bool false, .ptr q0 0, .bool B, .int .i64 (i : Int), x13, x14, x17, x25] ∧
      LS H H1 p (fs ++ F) 7 (H.nx + 2) q0 [] V ∧ H1.get (H.nx + 1) = some (.cells [.str tn, .str w]) ∧ H1.get H.nx = some (.cells rowN) ∧ F.length + tots rest ≤ tots l ∧ V.length = i ∧
      V ++ (itemsF w path i rest).1 = (itemsF w path 0 l).1 ∧ (B && (itemsF w path i rest).2.1) = (itemsF w path 0 l).2.1 ∧ F ++ (itemsF w path i rest).2.2 = (itemsF w path 0 l).2.2) ?_ (m := l.length) ?_
  · rintro m fr H1 k ⟨i, rest, V, B, F, x13, x14, x17, x25, rfl, hd, hi, rfl, L, gt, gn, hFt, hV, t2', t3', t4'⟩ hk
    cases rest with
    | nil =>
      have hli : ¬ (i : Int) < (l.length : Int) := by simp at hi; omega
      simp only [List.append_nil, itemsF, Bool.and_true] at t2' t3' t4'
      subst t2'; subst t3'; subst t4'
      haveI := L.fn
      obtain ⟨nv, lv, lrows, o1, o2, o3, o4, o5, o6⟩ := L.ow
      obtain ⟨tkn, rfl⟩ := o2.sl
      obtain ⟨tkl, rfl⟩ := o3.sl
      have ld := fun k => qLdA_whole (n := 4) o1 rfl k
      have sr := fun k => qSt_whole (n := 4) L.ug (l := [.int .i64 7, .str [], .sl (strRows []) tkn, .sl lrows tkl]) rfl rfl rfl k
      have lt := lt_i L.ug
      have g2 : (H1.set (H.nx + 2) (some (.cells [.int .i64 7, .str [], .sl (strRows []) tkn, .sl lrows tkl]))).get (H.nx + 2) = some (.cells [.int .i64 7, .str [], .sl (strRows []) tkn, .sl lrows tkl]) := by rw [get_set_i lt, if_pos rfl]
      have ld2 := fun k => qLdA_whole (n := 4) g2 rfl k
      have L2 : FS (H1.set (H.nx + 2) (some (.cells [.int .i64 7, .str [], .sl (strRows []) tkn, .sl lrows tkl]))) p (fs ++ (itemsF w path 0 l).2.2) ∧ St H (H1.set (H.nx + 2) (some (.cells [.int .i64 7, .str [], .sl (strRows []) tkn, .sl lrows tkl]))) p := by
        have gp : (H1.set (H.nx + 2) (some (.cells [.int .i64 7, .str [], .sl (strRows []) tkn, .sl lrows tkl]))).get p = H1.get p := by rw [get_set_i lt, if_neg (by omega)]
        refine ⟨?_, ⟨⟨inferInstance, by rw [AH.nx_set]; exact L.st.ex.nx, fun j hj hn => by rw [get_set_i lt, if_neg (by omega)]; exact L.st.ex.keep j hj hn⟩, fun j hj ht => L.st.tt j hj ((Tch.eq gp j).1 ht)⟩⟩
        obtain ⟨v, rws, f1, f2, f3⟩ := L.fs
        refine ⟨v, rws, gp.trans f1, f2.keep fun j hj => ?_, f3⟩
        rw [get_set_i lt, if_neg]
        intro e; have := f2.tok hj; rw [e, L.ug] at this; cases this
      have kd := fun k => ld1 gn 9 _ hN3 k
      simp only [l65_4, r65_5, r65_10, opn_z, opn_s, sel_z, sel_s, qCd_eq, qIf_true, qIf_false, qFn_eq, qBl_eq, qO_some, qRes_val, qHp_some, qPick_true, qPick_false, qG_tt, qG_ff, qG_tf, qG_ft, cellsK_some, qLd_vptr, qLdA_vptr, qFa_ptr, qFa_vptr, qNc_ptr, qNc_vptr, qNc_fn, qNot_bool, qExt_tup, qCallV_fn, qLss_int, qLeq_int, qGtr_int, qGeq_int, qEql_int, qNeq_int, qAdd_int, qSub_int, qMul_int, qConvI_int, qLenL_sl, qLenL_hsl, qLenS_str, foldO, min2_int, max2_int, qSame_refl, Nat.zero_add, List.getElem?_cons_zero, List.getElem?_cons_succ, List.nil_append, List.cons_append, List.append_nil, one_bool, one_int, one_str, one_nilp, one_ptr, one_sl, one_hsl, one_map, one_fn, List.length_cons, List.length_nil, List.set_cons_zero, List.set_cons_succ, Nat.reduceLT, Nat.reduceAdd, kd, hlen, hli, decide_false, ld, sr, qPtr_ptr, ld2]
      exact ⟨_, rfl, ⟨tkn, tkl, lrows, rfl, o4⟩, L2⟩
    | cons n rest =>
      obtain ⟨d1, d2, d3⟩ := drop_cons hd
      have hli : (i : Int) < (l.length : Int) := by omega
      obtain ⟨row, e1, e2⟩ := hE.get d1
      obtain ⟨e3, e4⟩ := e2.ten
      obtain ⟨e5, e6⟩ := e2.heads
      have hmem : n ∈ l := List.mem_of_getElem? d1
      have hwn := woks_mem hw n hmem
      have htot : tot n + tots rest + F.length ≤ tots l := by simp only [tots] at hFt; omega
      have ix : ∀ k : AV → Prop, qIa 10 (.sl rows tk0) (.int .i64 (i : Int)) k = k (.vptr row 0) := fun k => qIa_sl (R := Prop) .i64 k 10 rows tk0 i row e1 e3
      have lv0 : ∀ (H : AH) (k : AV → Prop), qLdA 10 (.vptr row 0) H k = k (.agg row) := fun H k => by rw [qLdA_vptr, slice_whole row 10 e3, qO_some]
      have kd := fun k => ld1 gn 9 _ hN3 k
      have y2 := fun k => qLdA_whole (n := 2) gt rfl k
      have y4 : ∀ k : AV → Prop, qBld z72 [(1, 1, .int .i64 (i : Int))] k = k (.agg [.str [], .int .i64 (i : Int)]) := fun k => rfl
      have y5 : ∀ k : AV → Prop, qRows z72 1 [(0, .agg [.str [], .int .i64 (i : Int)])] k = k (.sl [[.str [], .int .i64 (i : Int)]] .full) := fun k => rfl
      obtain ⟨c, H4, z1, z2, z3, z4, z5, z6, L4, z7⟩ := L.spot z58
      haveI := L4.fn
      have gt4 := (z7 _ _ gt).1
      have gn4 := (z7 _ _ gn).1
      obtain ⟨v1, Hc, tp, H5, u2, a1, ac, a2⟩ := app_two path tk (by omega) [] (i : Int) (H := H4)
      have Lc := L4.ex ac
      haveI := Lc.fn
      have L5 := L4.ex a2
      haveI := L5.fn
      have zc := ac.cell0 z2
      have kpc := fun k => qKeep_of zc k
      have gtc := ac.cell0 gt4
      have gnc := ac.cell0 gn4
      have y2b := fun k => qLdA_whole (n := 2) gtc rfl k
      have kdb := fun k => ld1 gnc 9 _ hN3 k
      have z2c := a2.cell0 z2
      have kp5 := fun k => qKeep_of z2c k
      have gt5 := a2.cell0 gt4
      have gn5 := a2.cell0 gn4
      have y2c := fun k => qLdA_whole (n := 2) gt5 rfl k
      have kdc := fun k => ld1 gn5 9 _ hN3 k
      obtain ⟨r, H6, n1, n2, n3, n4⟩ := ih n hmem H5 p (fs ++ F) row tn w (path ++ [([], (i : Int))]) (.own tp) e2 L5.fs hwn hwc (fun h => by cases h) (by simp; omega) (by simp; omega)
      have L6 := L5.step n4 n3
      haveI := L6.fn
      have z2d := n4.cells L5.fs z2c z4
      have gt6 := n4.cells L5.fs gt5 (by omega)
      have gn6 := n4.cells L5.fs gn5 (by omega)
      have hgc : H.nx + 1 ≠ c := (z7 _ _ gt).2
      have hgd : H.nx ≠ c := (z7 _ _ gn).2
      have kp6 := fun k => qKeep_of z2d k
      have st6 := fun k => qSt_whole (n := 4) z2d rfl n2.four n2.ones k
      have L7 := L6.set z2d z3 z4 z5 z6 (some (.cells r))
      have ltc := lt_i z2d
      have hc7 : (H6.set c (some (.cells r))).get c = some (.cells r) := by rw [get_set_i ltc, if_pos rfl]
      have gt7 : (H6.set c (some (.cells r))).get (H.nx + 1) = some (.cells [.str tn, .str w]) := by rw [get_set_i ltc, if_neg hgc]; exact gt6
      have gn7 : (H6.set c (some (.cells r))).get H.nx = some (.cells rowN) := by rw [get_set_i ltc, if_neg hgd]; exact gn6
      generalize H6.set c (some (.cells r)) = H7 at st6 L7 hc7 gt7 gn7
      obtain ⟨nv, lv, lv', H8, q1, o2, f8, q8, c8, m2, L9, k9⟩ := L7.addL n2 (by omega) hc7
      have w3 := fun k => ld1 q1 3 lv rfl k
      have w4 := fun k => qLdA_whole (n := 4) hc7 n2.four k
      have w6 := fun k => qRows1 z58 r n2.four n2.ones k
      have t2 : ∀ k : AV → AH → Prop, qSt 1 (.ptr q0 3) lv' H8 k = k undef (H8.set q0 (some (.cells [.int .i64 7, .str [], nv, lv']))) :=
        fun k => qSt_one (R := Prop) f8.fn q8 3 lv' k o2 (by simp)
      have gt9 := k9 _ _ (by omega) gt7
      have gn9 := k9 _ _ (by omega) gn7
      have hw1 := wrap_up i (by omega)
      simp only [l65_4, r65_5, r65_6, r65_7, r65_8, r65_9, opn_z, opn_s, sel_z, sel_s, qCd_eq, qIf_true, qIf_false, qFn_eq, qBl_eq, qO_some, qRes_val, qHp_some, qPick_true, qPick_false, qG_tt, qG_ff, qG_tf, qG_ft, cellsK_some, qLd_vptr, qLdA_vptr, qFa_ptr, qFa_vptr, qNc_ptr, qNc_vptr, qNc_fn, qNot_bool, qExt_tup, qCallV_fn, qLss_int, qLeq_int, qGtr_int, qGeq_int, qEql_int, qNeq_int, qAdd_int, qSub_int, qMul_int, qConvI_int, qLenL_sl, qLenL_hsl, qLenS_str, foldO, min2_int, max2_int, qSame_refl, Nat.zero_add, List.getElem?_cons_zero, List.getElem?_cons_succ, List.nil_append, List.cons_append, List.append_nil, one_bool, one_int, one_str, one_nilp, one_ptr, one_sl, one_hsl, one_map, one_fn, List.length_cons, List.length_nil, List.set_cons_zero, List.set_cons_succ, Nat.reduceLT, Nat.reduceAdd, kd, hlen, hli, decide_true, ix, lv0, y2, y4, y5, z1, u2, kpc, y2b, kdb, a1, kp5, y2c, kdc, n1, kp6, st6, w3, w4, w6, m2, t2, and_not_step, Bool.not_not, hw1]
      refine hk rest.length _ _ (by simp) ⟨i + 1, rest, V ++ [(nodeF w (path ++ [([], (i : Int))]) n).1], B && (nodeF w (path ++ [([], (i : Int))]) n).2.1, F ++ (nodeF w (path ++ [([], (i : Int))]) n).2.2, _, _, _, _, rfl, d2, by simp at hi; omega, rfl, ?_, gt9, gn9, ?_, by simp [hV], ?_, ?_, ?_⟩
      · rw [← List.append_assoc]; exact L9
      · have := nodeF_len n w (path ++ [([], (i : Int))])
        rw [List.length_append]; omega
      · rw [← t2']; simp [itemsF]
      · rw [← t3']; simp [itemsF, Bool.and_assoc]
      · rw [← t4']; simp [itemsF]
  · exact ⟨0, l, [], true, [], _, _, _, _, rfl, rfl, by omega, rfl, by simpa using L0, gt, gn, by simp, rfl, rfl, by simp, rfl⟩

end T
set_option linter.unusedVariables false
set_option linter.unusedSimpArgs false
set_option maxRecDepth 10000
namespace T
open Go Go.Aes Go.Proofs

/-- a place of one's own is written -/
theorem own_set {H Hb : AH} [IsFn Hb] {p u : Nat} {fs : List Fau} {cs : List AV} (f : FS Hb p fs) (s : St H Hb p) (hu : Hb.get u = some (.cells cs)) (hlo : H.nx ≤ u) (hp : p < H.nx) (o : Option AO) : FS (Hb.set u o) p fs ∧ St H (Hb.set u o) p := by
  have lt := lt_i hu
  have gp : (Hb.set u o).get p = Hb.get p := by rw [get_set_i lt, if_neg (by omega)]
  refine ⟨?_, ⟨⟨inferInstance, by rw [AH.nx_set]; exact s.ex.nx, fun j hj hn => by rw [get_set_i lt, if_neg (by omega)]; exact s.ex.keep j hj hn⟩, fun j hj ht => s.tt j hj ((Tch.eq gp j).1 ht)⟩⟩
  obtain ⟨v, rws, f1, f2, f3⟩ := f
  refine ⟨v, rws, gp.trans f1, f2.keep fun j hj => ?_, f3⟩
  rw [get_set_i lt, if_neg]
  intro e; have := f2.tok hj; rw [e, hu] at this; cases this

theorem EVnull : EV nullV nullC := ⟨.nil, .nil, [], rfl, rfl⟩

theorem node_step (kind : Int) (key tn0 w0 : Str) (val : Val) (what : Str) (kids : List Nd) (ih : ∀ n ∈ kids, NodeOk n) : NodeOk (.mk kind key tn0 w0 val what kids) := by
  intro H hfn p fs row tn w path tk hE hF hw hwl hn hpl hfl
  obtain ⟨a, b, c, d, t, rws, hv, rfl, hk⟩ := hE
  obtain ⟨_, hwk⟩ := hw
  simp only [tot] at hpl hfl
  suffices key : ∃ v H', EP 55 [.ptr p 0, .agg [.int .i64 kind, .str key, .str tn0, .str w0, a, b, c, d, .str what, .sl rws t], .agg [.str tn, .str w], .sl (pRows path) tk] H = some (.val v H') ∧
      ∃ r, v = .tup [.agg r, .bool (nodeF w path (.mk kind key tn0 w0 val what kids)).2.1] ∧ EV (nodeF w path (.mk kind key tn0 w0 val what kids)).1 r ∧ FS H' p (fs ++ (nodeF w path (.mk kind key tn0 w0 val what kids)).2.2) ∧ St H H' p by
    obtain ⟨v, H', h1, r, rfl, h2⟩ := key
    exact ⟨r, H', h1, h2⟩
  refine ap_form e55 xf55 rfl ?_
  have hp := hF.lt
  have hrow : allOne [.int .i64 kind, .str key, .str tn0, .str w0, a, b, c, d, .str what, .sl rws t] = true := by
    have := hv.ones
    simpa [allOne, Aes.one] using this
  generalize hrw : ([.int .i64 kind, .str key, .str tn0, .str w0, a, b, c, d, .str what, .sl rws t] : List AV) = row at hrow ⊢
  have bx1 : ∀ k : AV → AH → Prop, qBox (.agg row) H k = k (.ptr H.nx 0) (H.push (.cells row)) := fun k => by rw [qBox_i, cells_agg, hrow]; rfl
  have bx2 : ∀ k : AV → AH → Prop, qBox (.agg [.str tn, .str w]) (H.push (.cells row)) k = k (.ptr (H.nx + 1) 0) ((H.push (.cells row)).push (.cells [.str tn, .str w])) := fun k => by rw [qBox_i, nx_push_i]; rfl
  have nw : ∀ k : AV → AH → Prop, qNew (.cells z58) .ptr ((H.push (.cells row)).push (.cells [.str tn, .str w])) k = k (.ptr (H.nx + 2) 0) (((H.push (.cells row)).push (.cells [.str tn, .str w])).push (.cells z58)) := fun k => by rw [qNew_i, nx_push_i, nx_push_i]; rfl
  have e0 : Kp H (((H.push (.cells row)).push (.cells [.str tn, .str w])).push (.cells z58)) (fun _ => False) := ((Kp.push _ _).trans (Kp.push _ _) (fun _ _ h => h)).trans (Kp.push _ _) (fun _ _ h => h)
  have gu : (((H.push (.cells row)).push (.cells [.str tn, .str w])).push (.cells z58)).get (H.nx + 2) = some (.cells z58) := by
    have := get_push_at (H := (H.push (.cells row)).push (.cells [.str tn, .str w])) (.cells z58)
    rwa [nx_push_i, nx_push_i] at this
  have gt : (((H.push (.cells row)).push (.cells [.str tn, .str w])).push (.cells z58)).get (H.nx + 1) = some (.cells [.str tn, .str w]) := by
    rw [get_push_lt _ (by rw [nx_push_i, nx_push_i]; omega)]
    have := get_push_at (H := H.push (.cells row)) (.cells [.str tn, .str w])
    rwa [nx_push_i] at this
  have gn : (((H.push (.cells row)).push (.cells [.str tn, .str w])).push (.cells z58)).get H.nx = some (.cells row) := by
    rw [get_push_lt _ (by rw [nx_push_i, nx_push_i]; omega), get_push_lt _ (by rw [nx_push_i]; omega)]
    exact get_push_at _
  haveI : IsFn (((H.push (.cells row)).push (.cells [.str tn, .str w])).push (.cells z58)) := inferInstance
  simp only [c55, r55_0, opn_z, opn_s, sel_z, sel_s, qCd_eq, qIf_true, qIf_false, qFn_eq, qBl_eq, qO_some, qRes_val, qHp_some, qPick_true, qPick_false, qG_tt, qG_ff, qG_tf, qG_ft, cellsK_some, qLd_vptr, qLdA_vptr, qFa_ptr, qFa_vptr, qNc_ptr, qNc_vptr, qNc_fn, qNot_bool, qExt_tup, qCallV_fn, qLss_int, qLeq_int, qGtr_int, qGeq_int, qEql_int, qNeq_int, qAdd_int, qSub_int, qMul_int, qConvI_int, qLenL_sl, qLenL_hsl, qLenS_str, foldO, min2_int, max2_int, qSame_refl, Nat.zero_add, List.getElem?_cons_zero, List.getElem?_cons_succ, List.nil_append, List.cons_append, List.append_nil, one_bool, one_int, one_str, one_nilp, one_ptr, one_sl, one_hsl, one_map, one_fn, List.length_cons, List.length_nil, List.set_cons_zero, List.set_cons_succ, Nat.reduceLT, Nat.reduceAdd, bx1, bx2, nw]
  generalize ((H.push (.cells row)).push (.cells [.str tn, .str w])).push (.cells z58) = Ha at *
  have fa := hF.keep e0 (fun _ _ h => h)
  have sa := St.of_ex e0 hp (fun h => h) (fun _ _ h => h)
  have lw := fun k => ld1 gt 1 (.str w) rfl k
  have ltn := fun k => ld1 gt 0 (.str tn) rfl k
  have lk := fun k => ld1 gn 0 (.int .i64 kind) (by rw [← hrw]; rfl) k
  have lval := fun k => ldA (n := 4) (l := [a, b, c, d]) gn 4 (by rw [← hrw]; rfl) k
  have lwhat := fun k => ld1 gn 8 (.str what) (by rw [← hrw]; rfl) k
  have lkids := fun k => ld1 gn 9 (.sl rws t) (by rw [← hrw]; rfl) k
  have e59' := ep59 w 33 (by omega) Ha
  simp only [r55_1, r55_2, r55_3, r55_6, opn_z, opn_s, sel_z, sel_s, qCd_eq, qIf_true, qIf_false, qFn_eq, qBl_eq, qO_some, qRes_val, qHp_some, qPick_true, qPick_false, qG_tt, qG_ff, qG_tf, qG_ft, cellsK_some, qLd_vptr, qLdA_vptr, qFa_ptr, qFa_vptr, qNc_ptr, qNc_vptr, qNc_fn, qNot_bool, qExt_tup, qCallV_fn, qLss_int, qLeq_int, qGtr_int, qGeq_int, qEql_int, qNeq_int, qAdd_int, qSub_int, qMul_int, qConvI_int, qLenL_sl, qLenL_hsl, qLenS_str, foldO, min2_int, max2_int, qSame_refl, Nat.zero_add, List.getElem?_cons_zero, List.getElem?_cons_succ, List.nil_append, List.cons_append, List.append_nil, one_bool, one_int, one_str, one_nilp, one_ptr, one_sl, one_hsl, one_map, one_fn, List.length_cons, List.length_nil, List.set_cons_zero, List.set_cons_succ, Nat.reduceLT, Nat.reduceAdd, lw, e59', lk]
  have nullE : ∀ {Hb : AH} [IsFn Hb] {cs : List AV}, Hb.get (H.nx + 2) = some (.cells cs) → cs.length = 4 → ∀ k : AV → AH → Prop, qSt 4 (.ptr (H.nx + 2) 0) (.agg nullC) Hb k = k undef (Hb.set (H.nx + 2) (some (.cells nullC))) := fun hg hc k => qSt_whole hg hc rfl rfl k
  by_cases k1 : kind = 1
  · have b1 : (kind == 1) = true := by simp [k1]
    have st := fun k => qSt_whole (n := 4) gu (l := [a, b, c, d]) rfl rfl hv.ones k
    obtain ⟨f2, s2⟩ := own_set fa sa gu (by omega) hp (some (.cells [a, b, c, d]))
    have g2 : (Ha.set (H.nx + 2) (some (.cells [a, b, c, d]))).get (H.nx + 2) = some (.cells [a, b, c, d]) := by rw [get_set_i (lt_i gu), if_pos rfl]
    have ld2 := fun k => qLdA_whole (n := 4) g2 rfl k
    simp only [b1, r55_7, opn_z, opn_s, sel_z, sel_s, qCd_eq, qIf_true, qIf_false, qFn_eq, qBl_eq, qO_some, qRes_val, qHp_some, qPick_true, qPick_false, qG_tt, qG_ff, qG_tf, qG_ft, cellsK_some, qLd_vptr, qLdA_vptr, qFa_ptr, qFa_vptr, qNc_ptr, qNc_vptr, qNc_fn, qNot_bool, qExt_tup, qCallV_fn, qLss_int, qLeq_int, qGtr_int, qGeq_int, qEql_int, qNeq_int, qAdd_int, qSub_int, qMul_int, qConvI_int, qLenL_sl, qLenL_hsl, qLenS_str, foldO, min2_int, max2_int, qSame_refl, Nat.zero_add, List.getElem?_cons_zero, List.getElem?_cons_succ, List.nil_append, List.cons_append, List.append_nil, one_bool, one_int, one_str, one_nilp, one_ptr, one_sl, one_hsl, one_map, one_fn, List.length_cons, List.length_nil, List.set_cons_zero, List.set_cons_succ, Nat.reduceLT, Nat.reduceAdd, lval, st, qPtr_ptr, ld2]
    have hN : nodeF w path (.mk kind key tn0 w0 val what kids) = (val, true, []) := by simp only [nodeF, if_pos k1]
    rw [hN]
    refine ⟨_, rfl, hv, ?_, s2⟩
    simpa using f2
  have b1 : (kind == 1) = false := by simp [k1]
  by_cases k3 : kind = 3
  · have b3 : (kind == 3) = true := by simp [k3]
    obtain ⟨Hb, q1, q2, q3⟩ := ep60 fa (by omega) what path tk hn (by omega)
    haveI := q3.ex.fn
    have gb := q3.cells fa gu (by omega)
    have st := fun k => nullE gb rfl k
    obtain ⟨f2, s2⟩ := own_set q2 (sa.trans q3) gb (by omega) hp (some (.cells nullC))
    have g2 : (Hb.set (H.nx + 2) (some (.cells nullC))).get (H.nx + 2) = some (.cells nullC) := by rw [get_set_i (lt_i gb), if_pos rfl]
    have ld2 := fun k => qLdA_whole (n := 4) g2 rfl k
    simp only [b1, r55_8, b3, r55_9, r55_14, r55_15, opn_z, opn_s, sel_z, sel_s, qCd_eq, qIf_true, qIf_false, qFn_eq, qBl_eq, qO_some, qRes_val, qHp_some, qPick_true, qPick_false, qG_tt, qG_ff, qG_tf, qG_ft, cellsK_some, qLd_vptr, qLdA_vptr, qFa_ptr, qFa_vptr, qNc_ptr, qNc_vptr, qNc_fn, qNot_bool, qExt_tup, qCallV_fn, qLss_int, qLeq_int, qGtr_int, qGeq_int, qEql_int, qNeq_int, qAdd_int, qSub_int, qMul_int, qConvI_int, qLenL_sl, qLenL_hsl, qLenS_str, foldO, min2_int, max2_int, qSame_refl, Nat.zero_add, List.getElem?_cons_zero, List.getElem?_cons_succ, List.nil_append, List.cons_append, List.append_nil, one_bool, one_int, one_str, one_nilp, one_ptr, one_sl, one_hsl, one_map, one_fn, List.length_cons, List.length_nil, List.set_cons_zero, List.set_cons_succ, Nat.reduceLT, Nat.reduceAdd, lwhat, q1, Bool.not_false, ep50, st, qPtr_ptr, ld2]
    have hN : nodeF w path (.mk kind key tn0 w0 val what kids) = (nullV, !ends w 33, [⟨what, path⟩]) := by simp only [nodeF, if_neg k1, if_pos k3]
    rw [hN]
    exact ⟨_, rfl, EVnull, f2, s2⟩
  have b3 : (kind == 3) = false := by simp [k3]
  by_cases k4 : kind = 4
  · have b4 : (kind == 4) = true := by simp [k4]
    have hc1 := cutE_len w 33
    have hc2 := cutE_len (cutE w 33) 93
    have e62' := ep62 (cutE w 33) 93 (by omega) Ha
    obtain ⟨r, Hb, q1, q0, q2, q3⟩ := items_ok kids ih Ha p fs rws t tn (cutE (cutE w 33) 93) (by omega) path tk hk fa hwk hn (by omega) (by omega)
    haveI := q3.ex.fn
    have gb := q3.cells fa gu (by omega)
    have b54 : ∀ k : AV → Prop, qBld z54 [(0, 1, .str tn), (1, 1, .str (cutE (cutE w 33) 93))] k = k (.agg [.str tn, .str (cutE (cutE w 33) 93)]) := fun k => rfl
    have st := fun k => qSt_whole (n := 4) gb (l := r) rfl q0.four q0.ones k
    obtain ⟨f2, s2⟩ := own_set q2 (sa.trans q3) gb (by omega) hp (some (.cells r))
    have g2 : (Hb.set (H.nx + 2) (some (.cells r))).get (H.nx + 2) = some (.cells r) := by rw [get_set_i (lt_i gb), if_pos rfl]
    have lt2 := lt_i g2
    have ld2 := fun k => qLdA_whole (n := 4) g2 q0.four k
    simp only [b1, r55_8, b3, r55_10, b4, r55_11, opn_z, opn_s, sel_z, sel_s, qCd_eq, qIf_true, qIf_false, qFn_eq, qBl_eq, qO_some, qRes_val, qHp_some, qPick_true, qPick_false, qG_tt, qG_ff, qG_tf, qG_ft, cellsK_some, qLd_vptr, qLdA_vptr, qFa_ptr, qFa_vptr, qNc_ptr, qNc_vptr, qNc_fn, qNot_bool, qExt_tup, qCallV_fn, qLss_int, qLeq_int, qGtr_int, qGeq_int, qEql_int, qNeq_int, qAdd_int, qSub_int, qMul_int, qConvI_int, qLenL_sl, qLenL_hsl, qLenS_str, foldO, min2_int, max2_int, qSame_refl, Nat.zero_add, List.getElem?_cons_zero, List.getElem?_cons_succ, List.nil_append, List.cons_append, List.append_nil, one_bool, one_int, one_str, one_nilp, one_ptr, one_sl, one_hsl, one_map, one_fn, List.length_cons, List.length_nil, List.set_cons_zero, List.set_cons_succ, Nat.reduceLT, Nat.reduceAdd, ltn, lkids, e62', b54, q1, st, r55_14]
    cases hok : (itemsF (cutE (cutE w 33) 93) path 0 kids).2.1 with
    | false =>
      have st3 := fun k => nullE g2 q0.four k
      obtain ⟨f3, s3⟩ := own_set f2 s2 g2 (by omega) hp (some (.cells nullC))
      have g3 : ((Hb.set (H.nx + 2) (some (.cells r))).set (H.nx + 2) (some (.cells nullC))).get (H.nx + 2) = some (.cells nullC) := by rw [get_set_i lt2, if_pos rfl]
      have ld3 := fun k => qLdA_whole (n := 4) g3 rfl k
      simp only [Bool.not_false, r55_15, opn_z, opn_s, sel_z, sel_s, qCd_eq, qIf_true, qIf_false, qFn_eq, qBl_eq, qO_some, qRes_val, qHp_some, qPick_true, qPick_false, qG_tt, qG_ff, qG_tf, qG_ft, cellsK_some, qLd_vptr, qLdA_vptr, qFa_ptr, qFa_vptr, qNc_ptr, qNc_vptr, qNc_fn, qNot_bool, qExt_tup, qCallV_fn, qLss_int, qLeq_int, qGtr_int, qGeq_int, qEql_int, qNeq_int, qAdd_int, qSub_int, qMul_int, qConvI_int, qLenL_sl, qLenL_hsl, qLenS_str, foldO, min2_int, max2_int, qSame_refl, Nat.zero_add, List.getElem?_cons_zero, List.getElem?_cons_succ, List.nil_append, List.cons_append, List.append_nil, one_bool, one_int, one_str, one_nilp, one_ptr, one_sl, one_hsl, one_map, one_fn, List.length_cons, List.length_nil, List.set_cons_zero, List.set_cons_succ, Nat.reduceLT, Nat.reduceAdd, ep50, st3, qPtr_ptr, ld3]
      have hN : nodeF w path (.mk kind key tn0 w0 val what kids) = (nullV, !ends w 33, (itemsF (cutE (cutE w 33) 93) path 0 kids).2.2) := by simp only [nodeF, if_neg k1, if_neg k3, if_pos k4, hok]; rfl
      rw [hN]
      exact ⟨_, rfl, EVnull, f3, s3⟩
    | true =>
      have st3 := fun k => qSt_whole (n := 4) g2 (l := r) q0.four q0.four q0.ones k
      obtain ⟨f3, s3⟩ := own_set f2 s2 g2 (by omega) hp (some (.cells r))
      have g3 : ((Hb.set (H.nx + 2) (some (.cells r))).set (H.nx + 2) (some (.cells r))).get (H.nx + 2) = some (.cells r) := by rw [get_set_i lt2, if_pos rfl]
      have ld3 := fun k => qLdA_whole (n := 4) g3 q0.four k
      simp only [Bool.not_true, r55_16, opn_z, opn_s, sel_z, sel_s, qCd_eq, qIf_true, qIf_false, qFn_eq, qBl_eq, qO_some, qRes_val, qHp_some, qPick_true, qPick_false, qG_tt, qG_ff, qG_tf, qG_ft, cellsK_some, qLd_vptr, qLdA_vptr, qFa_ptr, qFa_vptr, qNc_ptr, qNc_vptr, qNc_fn, qNot_bool, qExt_tup, qCallV_fn, qLss_int, qLeq_int, qGtr_int, qGeq_int, qEql_int, qNeq_int, qAdd_int, qSub_int, qMul_int, qConvI_int, qLenL_sl, qLenL_hsl, qLenS_str, foldO, min2_int, max2_int, qSame_refl, Nat.zero_add, List.getElem?_cons_zero, List.getElem?_cons_succ, List.nil_append, List.cons_append, List.append_nil, one_bool, one_int, one_str, one_nilp, one_ptr, one_sl, one_hsl, one_map, one_fn, List.length_cons, List.length_nil, List.set_cons_zero, List.set_cons_succ, Nat.reduceLT, Nat.reduceAdd, ld2, st3, qPtr_ptr, ld3]
      have hN : nodeF w path (.mk kind key tn0 w0 val what kids) = (.mk 7 [] [] (itemsF (cutE (cutE w 33) 93) path 0 kids).1, true, (itemsF (cutE (cutE w 33) 93) path 0 kids).2.2) := by simp only [nodeF, if_neg k1, if_neg k3, if_pos k4, hok]; rfl
      rw [hN]
      exact ⟨_, rfl, q0, f3, s3⟩
  have b4 : (kind == 4) = false := by simp [k4]
  by_cases k5 : kind = 5
  · have b5 : (kind == 5) = true := by simp [k5]
    obtain ⟨r, Hb, q1, q0, q2, q3⟩ := fields_ok kids ih Ha p fs rws t path tk hk fa hwk hn (by omega) (by omega)
    haveI := q3.ex.fn
    have gb := q3.cells fa gu (by omega)
    have st := fun k => qSt_whole (n := 4) gb (l := r) rfl q0.four q0.ones k
    obtain ⟨f2, s2⟩ := own_set q2 (sa.trans q3) gb (by omega) hp (some (.cells r))
    have g2 : (Hb.set (H.nx + 2) (some (.cells r))).get (H.nx + 2) = some (.cells r) := by rw [get_set_i (lt_i gb), if_pos rfl]
    have lt2 := lt_i g2
    have ld2 := fun k => qLdA_whole (n := 4) g2 q0.four k
    simp only [b1, r55_8, b3, r55_10, b4, r55_12, b5, r55_13, opn_z, opn_s, sel_z, sel_s, qCd_eq, qIf_true, qIf_false, qFn_eq, qBl_eq, qO_some, qRes_val, qHp_some, qPick_true, qPick_false, qG_tt, qG_ff, qG_tf, qG_ft, cellsK_some, qLd_vptr, qLdA_vptr, qFa_ptr, qFa_vptr, qNc_ptr, qNc_vptr, qNc_fn, qNot_bool, qExt_tup, qCallV_fn, qLss_int, qLeq_int, qGtr_int, qGeq_int, qEql_int, qNeq_int, qAdd_int, qSub_int, qMul_int, qConvI_int, qLenL_sl, qLenL_hsl, qLenS_str, foldO, min2_int, max2_int, qSame_refl, Nat.zero_add, List.getElem?_cons_zero, List.getElem?_cons_succ, List.nil_append, List.cons_append, List.append_nil, one_bool, one_int, one_str, one_nilp, one_ptr, one_sl, one_hsl, one_map, one_fn, List.length_cons, List.length_nil, List.set_cons_zero, List.set_cons_succ, Nat.reduceLT, Nat.reduceAdd, lkids, q1, st, r55_14]
    cases hok : (fieldsF path kids).2.1 with
    | false =>
      have st3 := fun k => nullE g2 q0.four k
      obtain ⟨f3, s3⟩ := own_set f2 s2 g2 (by omega) hp (some (.cells nullC))
      have g3 : ((Hb.set (H.nx + 2) (some (.cells r))).set (H.nx + 2) (some (.cells nullC))).get (H.nx + 2) = some (.cells nullC) := by rw [get_set_i lt2, if_pos rfl]
      have ld3 := fun k => qLdA_whole (n := 4) g3 rfl k
      simp only [Bool.not_false, r55_15, opn_z, opn_s, sel_z, sel_s, qCd_eq, qIf_true, qIf_false, qFn_eq, qBl_eq, qO_some, qRes_val, qHp_some, qPick_true, qPick_false, qG_tt, qG_ff, qG_tf, qG_ft, cellsK_some, qLd_vptr, qLdA_vptr, qFa_ptr, qFa_vptr, qNc_ptr, qNc_vptr, qNc_fn, qNot_bool, qExt_tup, qCallV_fn, qLss_int, qLeq_int, qGtr_int, qGeq_int, qEql_int, qNeq_int, qAdd_int, qSub_int, qMul_int, qConvI_int, qLenL_sl, qLenL_hsl, qLenS_str, foldO, min2_int, max2_int, qSame_refl, Nat.zero_add, List.getElem?_cons_zero, List.getElem?_cons_succ, List.nil_append, List.cons_append, List.append_nil, one_bool, one_int, one_str, one_nilp, one_ptr, one_sl, one_hsl, one_map, one_fn, List.length_cons, List.length_nil, List.set_cons_zero, List.set_cons_succ, Nat.reduceLT, Nat.reduceAdd, ep50, st3, qPtr_ptr, ld3]
      have hN : nodeF w path (.mk kind key tn0 w0 val what kids) = (nullV, !ends w 33, (fieldsF path kids).2.2) := by simp only [nodeF, if_neg k1, if_neg k3, if_neg k4, if_pos k5, hok]; rfl
      rw [hN]
      exact ⟨_, rfl, EVnull, f3, s3⟩
    | true =>
      have st3 := fun k => qSt_whole (n := 4) g2 (l := r) q0.four q0.four q0.ones k
      obtain ⟨f3, s3⟩ := own_set f2 s2 g2 (by omega) hp (some (.cells r))
      have g3 : ((Hb.set (H.nx + 2) (some (.cells r))).set (H.nx + 2) (some (.cells r))).get (H.nx + 2) = some (.cells r) := by rw [get_set_i lt2, if_pos rfl]
      have ld3 := fun k => qLdA_whole (n := 4) g3 q0.four k
      simp only [Bool.not_true, r55_16, opn_z, opn_s, sel_z, sel_s, qCd_eq, qIf_true, qIf_false, qFn_eq, qBl_eq, qO_some, qRes_val, qHp_some, qPick_true, qPick_false, qG_tt, qG_ff, qG_tf, qG_ft, cellsK_some, qLd_vptr, qLdA_vptr, qFa_ptr, qFa_vptr, qNc_ptr, qNc_vptr, qNc_fn, qNot_bool, qExt_tup, qCallV_fn, qLss_int, qLeq_int, qGtr_int, qGeq_int, qEql_int, qNeq_int, qAdd_int, qSub_int, qMul_int, qConvI_int, qLenL_sl, qLenL_hsl, qLenS_str, foldO, min2_int, max2_int, qSame_refl, Nat.zero_add, List.getElem?_cons_zero, List.getElem?_cons_succ, List.nil_append, List.cons_append, List.append_nil, one_bool, one_int, one_str, one_nilp, one_ptr, one_sl, one_hsl, one_map, one_fn, List.length_cons, List.length_nil, List.set_cons_zero, List.set_cons_succ, Nat.reduceLT, Nat.reduceAdd, ld2, st3, qPtr_ptr, ld3]
      have hN : nodeF w path (.mk kind key tn0 w0 val what kids) = (.mk 8 [] (kids.map Nd.key) (fieldsF path kids).1, true, (fieldsF path kids).2.2) := by simp only [nodeF, if_neg k1, if_neg k3, if_neg k4, if_pos k5, hok]; rfl
      rw [hN]
      exact ⟨_, rfl, q0, f3, s3⟩
  have b5 : (kind == 5) = false := by simp [k5]
  have hN : nodeF w path (.mk kind key tn0 w0 val what kids) = (nullV, !ends w 33, if ends w 33 then [⟨sNULL, path⟩] else []) := by simp only [nodeF, if_neg k1, if_neg k3, if_neg k4, if_neg k5]
  rw [hN]
  cases hh : ends w 33 with
  | false =>
    have st := fun k => nullE gu rfl k
    obtain ⟨f2, s2⟩ := own_set fa sa gu (by omega) hp (some (.cells nullC))
    have g2 : (Ha.set (H.nx + 2) (some (.cells nullC))).get (H.nx + 2) = some (.cells nullC) := by rw [get_set_i (lt_i gu), if_pos rfl]
    have ld2 := fun k => qLdA_whole (n := 4) g2 rfl k
    simp only [b1, r55_8, b3, r55_10, b4, r55_12, b5, r55_4, r55_14, r55_15, opn_z, opn_s, sel_z, sel_s, qCd_eq, qIf_true, qIf_false, qFn_eq, qBl_eq, qO_some, qRes_val, qHp_some, qPick_true, qPick_false, qG_tt, qG_ff, qG_tf, qG_ft, cellsK_some, qLd_vptr, qLdA_vptr, qFa_ptr, qFa_vptr, qNc_ptr, qNc_vptr, qNc_fn, qNot_bool, qExt_tup, qCallV_fn, qLss_int, qLeq_int, qGtr_int, qGeq_int, qEql_int, qNeq_int, qAdd_int, qSub_int, qMul_int, qConvI_int, qLenL_sl, qLenL_hsl, qLenS_str, foldO, min2_int, max2_int, qSame_refl, Nat.zero_add, List.getElem?_cons_zero, List.getElem?_cons_succ, List.nil_append, List.cons_append, List.append_nil, one_bool, one_int, one_str, one_nilp, one_ptr, one_sl, one_hsl, one_map, one_fn, List.length_cons, List.length_nil, List.set_cons_zero, List.set_cons_succ, Nat.reduceLT, Nat.reduceAdd, Bool.not_false, ep50, st, qPtr_ptr, ld2]
    refine ⟨_, rfl, EVnull, ?_, s2⟩
    simpa using f2
  | true =>
    obtain ⟨Hb, q1, q2, q3⟩ := ep60 fa (by omega) sNULL path tk hn (by omega)
    haveI := q3.ex.fn
    have gb := q3.cells fa gu (by omega)
    have st := fun k => nullE gb rfl k
    obtain ⟨f2, s2⟩ := own_set q2 (sa.trans q3) gb (by omega) hp (some (.cells nullC))
    have g2 : (Hb.set (H.nx + 2) (some (.cells nullC))).get (H.nx + 2) = some (.cells nullC) := by rw [get_set_i (lt_i gb), if_pos rfl]
    have ld2 := fun k => qLdA_whole (n := 4) g2 rfl k
    unfold sNULL at q1
    simp only [b1, r55_8, b3, r55_10, b4, r55_12, b5, r55_4, r55_5, r55_14, r55_15, opn_z, opn_s, sel_z, sel_s, qCd_eq, qIf_true, qIf_false, qFn_eq, qBl_eq, qO_some, qRes_val, qHp_some, qPick_true, qPick_false, qG_tt, qG_ff, qG_tf, qG_ft, cellsK_some, qLd_vptr, qLdA_vptr, qFa_ptr, qFa_vptr, qNc_ptr, qNc_vptr, qNc_fn, qNot_bool, qExt_tup, qCallV_fn, qLss_int, qLeq_int, qGtr_int, qGeq_int, qEql_int, qNeq_int, qAdd_int, qSub_int, qMul_int, qConvI_int, qLenL_sl, qLenL_hsl, qLenS_str, foldO, min2_int, max2_int, qSame_refl, Nat.zero_add, List.getElem?_cons_zero, List.getElem?_cons_succ, List.nil_append, List.cons_append, List.append_nil, one_bool, one_int, one_str, one_nilp, one_ptr, one_sl, one_hsl, one_map, one_fn, List.length_cons, List.length_nil, List.set_cons_zero, List.set_cons_succ, Nat.reduceLT, Nat.reduceAdd, q1, Bool.not_false, ep50, st, qPtr_ptr, ld2]
    exact ⟨_, rfl, EVnull, by simpa using f2, s2⟩

theorem node_ok (n : Nd) : NodeOk n := by
  refine Nd.rec (motive_1 := NodeOk) (motive_2 := fun l => ∀ n ∈ l, NodeOk n) (fun kind key tn w val what kids ih => node_step kind key tn w val what kids ih) (fun n h => by cases h) (fun n l h1 h2 m hm => ?_) n
  rcases List.mem_cons.1 hm with rfl | hm
  · exact h1
  · exact h2 m hm

end T
set_option linter.unusedVariables false
set_option linter.unusedSimpArgs false
set_option maxRecDepth 10000
namespace T
open Go Go.Aes Go.Proofs

/-- an own place, written -/
theorem boxK {Hs H : AH} [IsFn H] (e : Kp Hs H (fun _ => False)) {n : Nat} (cs0 row : List AV) (h0 : cs0.length = n) (h1 : row.length = n) (h2 : allOne row = true) :
    ∃ b H0 H1, (∀ k : AV → AH → Prop, qNew (.cells cs0) .ptr H k = k (.ptr b 0) H0) ∧ (∀ k : AV → AH → Prop, qSt n (.ptr b 0) (.agg row) H0 k = k undef H1) ∧ H1.get b = some (.cells row) ∧ Hs.nx ≤ b ∧
      Kp Hs H1 (fun _ => False) ∧ (∀ j cs, H.get j = some (.cells cs) → H1.get j = some (.cells cs) ∧ j ≠ b) := by
  have hat := get_push_at (H := H) (.cells cs0)
  have hnx := e.nx
  refine ⟨H.nx, H.push (.cells cs0), _, fun k => by rw [qNew_i, wr_ptr], fun k => qSt_whole hat h0 h1 h2 k, ?_, hnx, ⟨inferInstance, by rw [AH.nx_set, nx_push_i]; omega, fun j hj _ => ?_⟩, fun j cs hj => ?_⟩
  · rw [get_set_i (by rw [nx_push_i]; omega), if_pos rfl]
  · rw [get_set_i (by rw [nx_push_i]; omega), if_neg (by omega), get_push_lt _ (by omega)]; exact e.keep j hj (fun h => h)
  · have := lt_i hj
    refine ⟨?_, by omega⟩
    rw [get_set_i (by rw [nx_push_i]; omega), if_neg (by omega), get_push_lt _ this, hj]

theorem one_step (kind : Int) (key tn0 w0 : Str) (val : Val) (what : Str) (kids : List Nd) (ih : ∀ n ∈ kids, OneOk n) : OneOk (.mk kind key tn0 w0 val what kids) := by
  intro H hfn p fs row tn w path tk hE hF hw hwl hn hpl hfl
  obtain ⟨a, b, c, d, t, rws, hv, rfl, hk⟩ := hE
  obtain ⟨_, hwk⟩ := hw
  simp only [tot] at hpl hfl
  suffices key : ∃ v H', EP 57 [.ptr p 0, .agg [.int .i64 kind, .str key, .str tn0, .str w0, a, b, c, d, .str what, .sl rws t], .agg [.str tn, .str w], .sl (pRows path) tk] H = some (.val v H') ∧
      ∃ r, v = .tup [.agg r, .bool (!(nodeF w path (.mk kind key tn0 w0 val what kids)).2.1)] ∧ EV (nodeF w path (.mk kind key tn0 w0 val what kids)).1 r ∧ FS H' p (fs ++ (nodeF w path (.mk kind key tn0 w0 val what kids)).2.2) ∧ St H H' p by
    obtain ⟨v, H', h1, r, rfl, h2⟩ := key
    exact ⟨r, H', h1, h2⟩
  refine ap_form e57 xf57 rfl ?_
  have hp := hF.lt
  have hrow : allOne [.int .i64 kind, .str key, .str tn0, .str w0, a, b, c, d, .str what, .sl rws t] = true := by
    have := hv.ones
    simpa [allOne, Aes.one] using this
  generalize hrw : ([.int .i64 kind, .str key, .str tn0, .str w0, a, b, c, d, .str what, .sl rws t] : List AV) = row at hrow ⊢
  have bx1 : ∀ k : AV → AH → Prop, qBox (.agg row) H k = k (.ptr H.nx 0) (H.push (.cells row)) := fun k => by rw [qBox_i, cells_agg, hrow]; rfl
  have bx2 : ∀ k : AV → AH → Prop, qBox (.agg [.str tn, .str w]) (H.push (.cells row)) k = k (.ptr (H.nx + 1) 0) ((H.push (.cells row)).push (.cells [.str tn, .str w])) := fun k => by rw [qBox_i, nx_push_i]; rfl
  have nw : ∀ k : AV → AH → Prop, qNew (.cells z58) .ptr ((H.push (.cells row)).push (.cells [.str tn, .str w])) k = k (.ptr (H.nx + 2) 0) (((H.push (.cells row)).push (.cells [.str tn, .str w])).push (.cells z58)) := fun k => by rw [qNew_i, nx_push_i, nx_push_i]; rfl
  have e0 : Kp H (((H.push (.cells row)).push (.cells [.str tn, .str w])).push (.cells z58)) (fun _ => False) := ((Kp.push _ _).trans (Kp.push _ _) (fun _ _ h => h)).trans (Kp.push _ _) (fun _ _ h => h)
  have gu : (((H.push (.cells row)).push (.cells [.str tn, .str w])).push (.cells z58)).get (H.nx + 2) = some (.cells z58) := by
    have := get_push_at (H := (H.push (.cells row)).push (.cells [.str tn, .str w])) (.cells z58)
    rwa [nx_push_i, nx_push_i] at this
  have gt : (((H.push (.cells row)).push (.cells [.str tn, .str w])).push (.cells z58)).get (H.nx + 1) = some (.cells [.str tn, .str w]) := by
    rw [get_push_lt _ (by rw [nx_push_i, nx_push_i]; omega)]
    have := get_push_at (H := H.push (.cells row)) (.cells [.str tn, .str w])
    rwa [nx_push_i] at this
  have gn : (((H.push (.cells row)).push (.cells [.str tn, .str w])).push (.cells z58)).get H.nx = some (.cells row) := by
    rw [get_push_lt _ (by rw [nx_push_i, nx_push_i]; omega), get_push_lt _ (by rw [nx_push_i]; omega)]
    exact get_push_at _
  haveI : IsFn (((H.push (.cells row)).push (.cells [.str tn, .str w])).push (.cells z58)) := inferInstance
  simp only [c57, r57_0, opn_z, opn_s, sel_z, sel_s, qCd_eq, qIf_true, qIf_false, qFn_eq, qBl_eq, qO_some, qRes_val, qHp_some, qPick_true, qPick_false, qG_tt, qG_ff, qG_tf, qG_ft, cellsK_some, qLd_vptr, qLdA_vptr, qFa_ptr, qFa_vptr, qNc_ptr, qNc_vptr, qNc_fn, qNot_bool, qExt_tup, qCallV_fn, qLss_int, qLeq_int, qGtr_int, qGeq_int, qEql_int, qNeq_int, qAdd_int, qSub_int, qMul_int, qConvI_int, qLenL_sl, qLenL_hsl, qLenS_str, foldO, min2_int, max2_int, qSame_refl, Nat.zero_add, List.getElem?_cons_zero, List.getElem?_cons_succ, List.nil_append, List.cons_append, List.append_nil, one_bool, one_int, one_str, one_nilp, one_ptr, one_sl, one_hsl, one_map, one_fn, List.length_cons, List.length_nil, List.set_cons_zero, List.set_cons_succ, Nat.reduceLT, Nat.reduceAdd, bx1, bx2, nw]
  generalize ((H.push (.cells row)).push (.cells [.str tn, .str w])).push (.cells z58) = Hz at *
  have l33 := lastC_eq w 33 (by decide)
  have h33 : ((33 : UInt8).toNat : Int) = 33 := rfl
  rw [h33] at l33
  have lt0 := fun k => qLdA_whole (n := 2) gt rfl k
  have e63' := ep63 tn w (by omega) Hz
  have bn : ∀ k : AV → Prop, qBld z58 [(0, 1, .int .i64 1)] k = k (.agg nullC) := fun k => rfl
  obtain ⟨b11, Hy, Hx, x1, x2, x3, x4, x5, x6⟩ := boxK e0 z58 nullC (n := 4) rfl rfl rfl
  haveI := x5.fn
  have lx := fun k => qLdA_whole (n := 4) x3 rfl k
  obtain ⟨b12, Hw, Ha, y1, y2, y3, y4, y5, y6⟩ := boxK x5 z58 nullC (n := 4) rfl rfl rfl
  haveI := y5.fn
  simp only [r57_1, r57_2, r57_3, r57_4, r57_8, opn_z, opn_s, sel_z, sel_s, qCd_eq, qIf_true, qIf_false, qFn_eq, qBl_eq, qO_some, qRes_val, qHp_some, qPick_true, qPick_false, qG_tt, qG_ff, qG_tf, qG_ft, cellsK_some, qLd_vptr, qLdA_vptr, qFa_ptr, qFa_vptr, qNc_ptr, qNc_vptr, qNc_fn, qNot_bool, qExt_tup, qCallV_fn, qLss_int, qLeq_int, qGtr_int, qGeq_int, qEql_int, qNeq_int, qAdd_int, qSub_int, qMul_int, qConvI_int, qLenL_sl, qLenL_hsl, qLenS_str, foldO, min2_int, max2_int, qSame_refl, Nat.zero_add, List.getElem?_cons_zero, List.getElem?_cons_succ, List.nil_append, List.cons_append, List.append_nil, one_bool, one_int, one_str, one_nilp, one_ptr, one_sl, one_hsl, one_map, one_fn, List.length_cons, List.length_nil, List.set_cons_zero, List.set_cons_succ, Nat.reduceLT, Nat.reduceAdd, lt0, e63', l33, bn, x1, x2, lx, y1, y2]
  have h11 : H.nx + 2 ≠ b11 := (x6 _ _ gu).2
  have h12 : H.nx + 2 ≠ b12 := (y6 _ _ (x6 _ _ gu).1).2
  have h12' : b11 ≠ b12 := (y6 _ _ x3).2
  have g11 := (y6 _ _ x3).1
  have g12 := y3
  have gu := (y6 _ _ (x6 _ _ gu).1).1
  have gt := (y6 _ _ (x6 _ _ gt).1).1
  have gn := (y6 _ _ (x6 _ _ gn).1).1
  have e0 := y5
  clear x1 x2 y1 y2 lx lt0 e63' x6 y6 x3 y3
  have fa := hF.keep e0 (fun _ _ h => h)
  have sa := St.of_ex e0 hp (fun h => h) (fun _ _ h => h)
  have lk := fun k => ld1 gn 0 (.int .i64 kind) (by rw [← hrw]; rfl) k
  have lval := fun k => ldA (n := 4) (l := [a, b, c, d]) gn 4 (by rw [← hrw]; rfl) k
  have lwhat := fun k => ld1 gn 8 (.str what) (by rw [← hrw]; rfl) k
  have lkids := fun k => ld1 gn 9 (.sl rws t) (by rw [← hrw]; rfl) k
  have lrow := fun k => qLdA_whole (n := 10) gn (by rw [← hrw]; rfl) k
  have lty := fun k => qLdA_whole (n := 2) gt rfl k
  have hlen : row.length = 10 := by rw [← hrw]; rfl
  simp only [lk]
  have nullE : ∀ {Hb : AH} [IsFn Hb] {cs : List AV}, Hb.get (H.nx + 2) = some (.cells cs) → cs.length = 4 → ∀ k : AV → AH → Prop, qSt 4 (.ptr (H.nx + 2) 0) (.agg nullC) Hb k = k undef (Hb.set (H.nx + 2) (some (.cells nullC))) := fun hg hc k => qSt_whole hg hc rfl rfl k
  by_cases k1 : kind = 1
  · have b1 : (kind == 1) = true := by simp [k1]
    have st := fun k => qSt_whole (n := 4) gu (l := [a, b, c, d]) rfl rfl hv.ones k
    obtain ⟨f2, s2⟩ := own_set fa sa gu (by omega) hp (some (.cells [a, b, c, d]))
    have g2 : (Ha.set (H.nx + 2) (some (.cells [a, b, c, d]))).get (H.nx + 2) = some (.cells [a, b, c, d]) := by rw [get_set_i (lt_i gu), if_pos rfl]
    have ld2 := fun k => qLdA_whole (n := 4) g2 rfl k
    simp only [b1, r57_9, opn_z, opn_s, sel_z, sel_s, qCd_eq, qIf_true, qIf_false, qFn_eq, qBl_eq, qO_some, qRes_val, qHp_some, qPick_true, qPick_false, qG_tt, qG_ff, qG_tf, qG_ft, cellsK_some, qLd_vptr, qLdA_vptr, qFa_ptr, qFa_vptr, qNc_ptr, qNc_vptr, qNc_fn, qNot_bool, qExt_tup, qCallV_fn, qLss_int, qLeq_int, qGtr_int, qGeq_int, qEql_int, qNeq_int, qAdd_int, qSub_int, qMul_int, qConvI_int, qLenL_sl, qLenL_hsl, qLenS_str, foldO, min2_int, max2_int, qSame_refl, Nat.zero_add, List.getElem?_cons_zero, List.getElem?_cons_succ, List.nil_append, List.cons_append, List.append_nil, one_bool, one_int, one_str, one_nilp, one_ptr, one_sl, one_hsl, one_map, one_fn, List.length_cons, List.length_nil, List.set_cons_zero, List.set_cons_succ, Nat.reduceLT, Nat.reduceAdd, lval, st, qPtr_ptr, ld2]
    have hN : nodeF w path (.mk kind key tn0 w0 val what kids) = (val, true, []) := by simp only [nodeF, if_pos k1]
    rw [hN]
    refine ⟨_, rfl, hv, ?_, s2⟩
    simpa using f2
  have b1 : (kind == 1) = false := by simp [k1]
  by_cases k3 : kind = 3
  · have b3 : (kind == 3) = true := by simp [k3]
    obtain ⟨Hb, q1, q2, q3⟩ := ep64 fa (by omega) what path tk (by omega)
    haveI := q3.ex.fn
    have gb := q3.cells fa gu (by omega)
    have st := fun k => nullE gb rfl k
    obtain ⟨f2, s2⟩ := own_set q2 (sa.trans q3) gb (by omega) hp (some (.cells nullC))
    have g2 : (Hb.set (H.nx + 2) (some (.cells nullC))).get (H.nx + 2) = some (.cells nullC) := by rw [get_set_i (lt_i gb), if_pos rfl]
    have ld2 := fun k => qLdA_whole (n := 4) g2 rfl k
    have gn11 := q3.cells fa g11 (by omega)
    have l11 := fun k => qLdA_whole (n := 4) gn11 rfl k
    simp only [b1, r57_10, b3, r57_11, r57_12, opn_z, opn_s, sel_z, sel_s, qCd_eq, qIf_true, qIf_false, qFn_eq, qBl_eq, qO_some, qRes_val, qHp_some, qPick_true, qPick_false, qG_tt, qG_ff, qG_tf, qG_ft, cellsK_some, qLd_vptr, qLdA_vptr, qFa_ptr, qFa_vptr, qNc_ptr, qNc_vptr, qNc_fn, qNot_bool, qExt_tup, qCallV_fn, qLss_int, qLeq_int, qGtr_int, qGeq_int, qEql_int, qNeq_int, qAdd_int, qSub_int, qMul_int, qConvI_int, qLenL_sl, qLenL_hsl, qLenS_str, foldO, min2_int, max2_int, qSame_refl, Nat.zero_add, List.getElem?_cons_zero, List.getElem?_cons_succ, List.nil_append, List.cons_append, List.append_nil, one_bool, one_int, one_str, one_nilp, one_ptr, one_sl, one_hsl, one_map, one_fn, List.length_cons, List.length_nil, List.set_cons_zero, List.set_cons_succ, Nat.reduceLT, Nat.reduceAdd, lwhat, q1, l11, st, qPtr_ptr, ld2, Bool.not_not]
    have hN : nodeF w path (.mk kind key tn0 w0 val what kids) = (nullV, !ends w 33, [⟨what, path⟩]) := by simp only [nodeF, if_neg k1, if_pos k3]
    rw [hN]
    exact ⟨_, by simp only [Bool.not_not], EVnull, f2, s2⟩
  have b3 : (kind == 3) = false := by simp [k3]
  by_cases k4 : kind = 4
  · have b4 : (kind == 4) = true := by simp [k4]
    have hc1 := cutE_len w 33
    have e66' := ep66 tn w (by omega) Ha
    obtain ⟨r, Hb, q1, q0, q2, q3⟩ := rlist_ok kids ih Ha p fs row hlen hrow rws t (by rw [← hrw]; rfl) tn (cutE w 33) (by omega) path tk hk fa hwk hn (by omega) (by omega)
    haveI := q3.ex.fn
    have gb := q3.cells fa g12 (by omega)
    have gb8 := q3.cells fa gu (by omega)
    have gb11 := q3.cells fa g11 (by omega)
    have st := fun k => qSt_whole (n := 4) gb (l := r) rfl q0.four q0.ones k
    obtain ⟨f2, s2⟩ := own_set q2 (sa.trans q3) gb (by omega) hp (some (.cells r))
    have g2 : (Hb.set b12 (some (.cells r))).get b12 = some (.cells r) := by rw [get_set_i (lt_i gb), if_pos rfl]
    have g28 : (Hb.set b12 (some (.cells r))).get (H.nx + 2) = some (.cells z58) := by rw [get_set_i (lt_i gb), if_neg h12]; exact gb8
    have g211 : (Hb.set b12 (some (.cells r))).get b11 = some (.cells nullC) := by rw [get_set_i (lt_i gb), if_neg h12']; exact gb11
    have lt2 := lt_i g28
    have ld2 := fun k => qLdA_whole (n := 4) g2 q0.four k
    have l11 := fun k => qLdA_whole (n := 4) g211 rfl k
    simp only [b1, r57_10, b3, r57_13, b4, r57_14, opn_z, opn_s, sel_z, sel_s, qCd_eq, qIf_true, qIf_false, qFn_eq, qBl_eq, qO_some, qRes_val, qHp_some, qPick_true, qPick_false, qG_tt, qG_ff, qG_tf, qG_ft, cellsK_some, qLd_vptr, qLdA_vptr, qFa_ptr, qFa_vptr, qNc_ptr, qNc_vptr, qNc_fn, qNot_bool, qExt_tup, qCallV_fn, qLss_int, qLeq_int, qGtr_int, qGeq_int, qEql_int, qNeq_int, qAdd_int, qSub_int, qMul_int, qConvI_int, qLenL_sl, qLenL_hsl, qLenS_str, foldO, min2_int, max2_int, qSame_refl, Nat.zero_add, List.getElem?_cons_zero, List.getElem?_cons_succ, List.nil_append, List.cons_append, List.append_nil, one_bool, one_int, one_str, one_nilp, one_ptr, one_sl, one_hsl, one_map, one_fn, List.length_cons, List.length_nil, List.set_cons_zero, List.set_cons_succ, Nat.reduceLT, Nat.reduceAdd, lrow, lty, e66', q1, st, r57_17]
    cases hok : (itemsF (cutE (cutE w 33) 93) path 0 kids).2.1 with
    | false =>
      have st3 := fun k => nullE g28 rfl k
      obtain ⟨f3, s3⟩ := own_set f2 s2 g28 (by omega) hp (some (.cells nullC))
      have g3 : ((Hb.set b12 (some (.cells r))).set (H.nx + 2) (some (.cells nullC))).get (H.nx + 2) = some (.cells nullC) := by rw [get_set_i lt2, if_pos rfl]
      have ld3 := fun k => qLdA_whole (n := 4) g3 rfl k
      simp only [Bool.not_false, r57_18, opn_z, opn_s, sel_z, sel_s, qCd_eq, qIf_true, qIf_false, qFn_eq, qBl_eq, qO_some, qRes_val, qHp_some, qPick_true, qPick_false, qG_tt, qG_ff, qG_tf, qG_ft, cellsK_some, qLd_vptr, qLdA_vptr, qFa_ptr, qFa_vptr, qNc_ptr, qNc_vptr, qNc_fn, qNot_bool, qExt_tup, qCallV_fn, qLss_int, qLeq_int, qGtr_int, qGeq_int, qEql_int, qNeq_int, qAdd_int, qSub_int, qMul_int, qConvI_int, qLenL_sl, qLenL_hsl, qLenS_str, foldO, min2_int, max2_int, qSame_refl, Nat.zero_add, List.getElem?_cons_zero, List.getElem?_cons_succ, List.nil_append, List.cons_append, List.append_nil, one_bool, one_int, one_str, one_nilp, one_ptr, one_sl, one_hsl, one_map, one_fn, List.length_cons, List.length_nil, List.set_cons_zero, List.set_cons_succ, Nat.reduceLT, Nat.reduceAdd, l11, st3, qPtr_ptr, ld3]
      have hN : nodeF w path (.mk kind key tn0 w0 val what kids) = (nullV, !ends w 33, (itemsF (cutE (cutE w 33) 93) path 0 kids).2.2) := by simp only [nodeF, if_neg k1, if_neg k3, if_pos k4, hok]; rfl
      rw [hN]
      exact ⟨_, by simp only [Bool.not_not], EVnull, f3, s3⟩
    | true =>
      have st3 := fun k => qSt_whole (n := 4) g28 (l := r) rfl q0.four q0.ones k
      obtain ⟨f3, s3⟩ := own_set f2 s2 g28 (by omega) hp (some (.cells r))
      have g3 : ((Hb.set b12 (some (.cells r))).set (H.nx + 2) (some (.cells r))).get (H.nx + 2) = some (.cells r) := by rw [get_set_i lt2, if_pos rfl]
      have ld3 := fun k => qLdA_whole (n := 4) g3 q0.four k
      simp only [Bool.not_true, r57_19, opn_z, opn_s, sel_z, sel_s, qCd_eq, qIf_true, qIf_false, qFn_eq, qBl_eq, qO_some, qRes_val, qHp_some, qPick_true, qPick_false, qG_tt, qG_ff, qG_tf, qG_ft, cellsK_some, qLd_vptr, qLdA_vptr, qFa_ptr, qFa_vptr, qNc_ptr, qNc_vptr, qNc_fn, qNot_bool, qExt_tup, qCallV_fn, qLss_int, qLeq_int, qGtr_int, qGeq_int, qEql_int, qNeq_int, qAdd_int, qSub_int, qMul_int, qConvI_int, qLenL_sl, qLenL_hsl, qLenS_str, foldO, min2_int, max2_int, qSame_refl, Nat.zero_add, List.getElem?_cons_zero, List.getElem?_cons_succ, List.nil_append, List.cons_append, List.append_nil, one_bool, one_int, one_str, one_nilp, one_ptr, one_sl, one_hsl, one_map, one_fn, List.length_cons, List.length_nil, List.set_cons_zero, List.set_cons_succ, Nat.reduceLT, Nat.reduceAdd, ld2, st3, qPtr_ptr, ld3]
      have hN : nodeF w path (.mk kind key tn0 w0 val what kids) = (.mk 7 [] [] (itemsF (cutE (cutE w 33) 93) path 0 kids).1, true, (itemsF (cutE (cutE w 33) 93) path 0 kids).2.2) := by simp only [nodeF, if_neg k1, if_neg k3, if_pos k4, hok]; rfl
      rw [hN]
      exact ⟨_, rfl, q0, f3, s3⟩
  have b4 : (kind == 4) = false := by simp [k4]
  by_cases k5 : kind = 5
  · have b5 : (kind == 5) = true := by simp [k5]
    obtain ⟨r, Hb, q1, q0, q2, q3⟩ := rfields_ok kids ih Ha p fs rws t path tk hk fa hwk hn (by omega) (by omega)
    haveI := q3.ex.fn
    have gb := q3.cells fa g12 (by omega)
    have gb8 := q3.cells fa gu (by omega)
    have gb11 := q3.cells fa g11 (by omega)
    have st := fun k => qSt_whole (n := 4) gb (l := r) rfl q0.four q0.ones k
    obtain ⟨f2, s2⟩ := own_set q2 (sa.trans q3) gb (by omega) hp (some (.cells r))
    have g2 : (Hb.set b12 (some (.cells r))).get b12 = some (.cells r) := by rw [get_set_i (lt_i gb), if_pos rfl]
    have g28 : (Hb.set b12 (some (.cells r))).get (H.nx + 2) = some (.cells z58) := by rw [get_set_i (lt_i gb), if_neg h12]; exact gb8
    have g211 : (Hb.set b12 (some (.cells r))).get b11 = some (.cells nullC) := by rw [get_set_i (lt_i gb), if_neg h12']; exact gb11
    have lt2 := lt_i g28
    have ld2 := fun k => qLdA_whole (n := 4) g2 q0.four k
    have l11 := fun k => qLdA_whole (n := 4) g211 rfl k
    simp only [b1, r57_10, b3, r57_13, b4, r57_15, b5, r57_16, opn_z, opn_s, sel_z, sel_s, qCd_eq, qIf_true, qIf_false, qFn_eq, qBl_eq, qO_some, qRes_val, qHp_some, qPick_true, qPick_false, qG_tt, qG_ff, qG_tf, qG_ft, cellsK_some, qLd_vptr, qLdA_vptr, qFa_ptr, qFa_vptr, qNc_ptr, qNc_vptr, qNc_fn, qNot_bool, qExt_tup, qCallV_fn, qLss_int, qLeq_int, qGtr_int, qGeq_int, qEql_int, qNeq_int, qAdd_int, qSub_int, qMul_int, qConvI_int, qLenL_sl, qLenL_hsl, qLenS_str, foldO, min2_int, max2_int, qSame_refl, Nat.zero_add, List.getElem?_cons_zero, List.getElem?_cons_succ, List.nil_append, List.cons_append, List.append_nil, one_bool, one_int, one_str, one_nilp, one_ptr, one_sl, one_hsl, one_map, one_fn, List.length_cons, List.length_nil, List.set_cons_zero, List.set_cons_succ, Nat.reduceLT, Nat.reduceAdd, lkids, q1, st, r57_17]
    cases hok : (fieldsF path kids).2.1 with
    | false =>
      have st3 := fun k => nullE g28 rfl k
      obtain ⟨f3, s3⟩ := own_set f2 s2 g28 (by omega) hp (some (.cells nullC))
      have g3 : ((Hb.set b12 (some (.cells r))).set (H.nx + 2) (some (.cells nullC))).get (H.nx + 2) = some (.cells nullC) := by rw [get_set_i lt2, if_pos rfl]
      have ld3 := fun k => qLdA_whole (n := 4) g3 rfl k
      simp only [Bool.not_false, r57_18, opn_z, opn_s, sel_z, sel_s, qCd_eq, qIf_true, qIf_false, qFn_eq, qBl_eq, qO_some, qRes_val, qHp_some, qPick_true, qPick_false, qG_tt, qG_ff, qG_tf, qG_ft, cellsK_some, qLd_vptr, qLdA_vptr, qFa_ptr, qFa_vptr, qNc_ptr, qNc_vptr, qNc_fn, qNot_bool, qExt_tup, qCallV_fn, qLss_int, qLeq_int, qGtr_int, qGeq_int, qEql_int, qNeq_int, qAdd_int, qSub_int, qMul_int, qConvI_int, qLenL_sl, qLenL_hsl, qLenS_str, foldO, min2_int, max2_int, qSame_refl, Nat.zero_add, List.getElem?_cons_zero, List.getElem?_cons_succ, List.nil_append, List.cons_append, List.append_nil, one_bool, one_int, one_str, one_nilp, one_ptr, one_sl, one_hsl, one_map, one_fn, List.length_cons, List.length_nil, List.set_cons_zero, List.set_cons_succ, Nat.reduceLT, Nat.reduceAdd, l11, st3, qPtr_ptr, ld3]
      have hN : nodeF w path (.mk kind key tn0 w0 val what kids) = (nullV, !ends w 33, (fieldsF path kids).2.2) := by simp only [nodeF, if_neg k1, if_neg k3, if_neg k4, if_pos k5, hok]; rfl
      rw [hN]
      exact ⟨_, by simp only [Bool.not_not], EVnull, f3, s3⟩
    | true =>
      have st3 := fun k => qSt_whole (n := 4) g28 (l := r) rfl q0.four q0.ones k
      obtain ⟨f3, s3⟩ := own_set f2 s2 g28 (by omega) hp (some (.cells r))
      have g3 : ((Hb.set b12 (some (.cells r))).set (H.nx + 2) (some (.cells r))).get (H.nx + 2) = some (.cells r) := by rw [get_set_i lt2, if_pos rfl]
      have ld3 := fun k => qLdA_whole (n := 4) g3 q0.four k
      simp only [Bool.not_true, r57_19, opn_z, opn_s, sel_z, sel_s, qCd_eq, qIf_true, qIf_false, qFn_eq, qBl_eq, qO_some, qRes_val, qHp_some, qPick_true, qPick_false, qG_tt, qG_ff, qG_tf, qG_ft, cellsK_some, qLd_vptr, qLdA_vptr, qFa_ptr, qFa_vptr, qNc_ptr, qNc_vptr, qNc_fn, qNot_bool, qExt_tup, qCallV_fn, qLss_int, qLeq_int, qGtr_int, qGeq_int, qEql_int, qNeq_int, qAdd_int, qSub_int, qMul_int, qConvI_int, qLenL_sl, qLenL_hsl, qLenS_str, foldO, min2_int, max2_int, qSame_refl, Nat.zero_add, List.getElem?_cons_zero, List.getElem?_cons_succ, List.nil_append, List.cons_append, List.append_nil, one_bool, one_int, one_str, one_nilp, one_ptr, one_sl, one_hsl, one_map, one_fn, List.length_cons, List.length_nil, List.set_cons_zero, List.set_cons_succ, Nat.reduceLT, Nat.reduceAdd, ld2, st3, qPtr_ptr, ld3]
      have hN : nodeF w path (.mk kind key tn0 w0 val what kids) = (.mk 8 [] (kids.map Nd.key) (fieldsF path kids).1, true, (fieldsF path kids).2.2) := by simp only [nodeF, if_neg k1, if_neg k3, if_neg k4, if_pos k5, hok]; rfl
      rw [hN]
      exact ⟨_, rfl, q0, f3, s3⟩
  have b5 : (kind == 5) = false := by simp [k5]
  have hN : nodeF w path (.mk kind key tn0 w0 val what kids) = (nullV, !ends w 33, if ends w 33 then [⟨sNULL, path⟩] else []) := by simp only [nodeF, if_neg k1, if_neg k3, if_neg k4, if_neg k5]
  rw [hN]
  cases hh : ends w 33 with
  | false =>
    have st := fun k => nullE gu rfl k
    obtain ⟨f2, s2⟩ := own_set fa sa gu (by omega) hp (some (.cells nullC))
    have g2 : (Ha.set (H.nx + 2) (some (.cells nullC))).get (H.nx + 2) = some (.cells nullC) := by rw [get_set_i (lt_i gu), if_pos rfl]
    have ld2 := fun k => qLdA_whole (n := 4) g2 rfl k
    have l11 := fun k => qLdA_whole (n := 4) g11 rfl k
    simp only [b1, r57_10, b3, r57_13, b4, r57_15, b5, r57_5, r57_7, opn_z, opn_s, sel_z, sel_s, qCd_eq, qIf_true, qIf_false, qFn_eq, qBl_eq, qO_some, qRes_val, qHp_some, qPick_true, qPick_false, qG_tt, qG_ff, qG_tf, qG_ft, cellsK_some, qLd_vptr, qLdA_vptr, qFa_ptr, qFa_vptr, qNc_ptr, qNc_vptr, qNc_fn, qNot_bool, qExt_tup, qCallV_fn, qLss_int, qLeq_int, qGtr_int, qGeq_int, qEql_int, qNeq_int, qAdd_int, qSub_int, qMul_int, qConvI_int, qLenL_sl, qLenL_hsl, qLenS_str, foldO, min2_int, max2_int, qSame_refl, Nat.zero_add, List.getElem?_cons_zero, List.getElem?_cons_succ, List.nil_append, List.cons_append, List.append_nil, one_bool, one_int, one_str, one_nilp, one_ptr, one_sl, one_hsl, one_map, one_fn, List.length_cons, List.length_nil, List.set_cons_zero, List.set_cons_succ, Nat.reduceLT, Nat.reduceAdd, l11, st, qPtr_ptr, ld2]
    refine ⟨_, rfl, EVnull, ?_, s2⟩
    simpa using f2
  | true =>
    obtain ⟨Hb, q1, q2, q3⟩ := ep64 fa (by omega) sNULL path tk (by omega)
    haveI := q3.ex.fn
    have gb := q3.cells fa gu (by omega)
    have st := fun k => nullE gb rfl k
    obtain ⟨f2, s2⟩ := own_set q2 (sa.trans q3) gb (by omega) hp (some (.cells nullC))
    have g2 : (Hb.set (H.nx + 2) (some (.cells nullC))).get (H.nx + 2) = some (.cells nullC) := by rw [get_set_i (lt_i gb), if_pos rfl]
    have ld2 := fun k => qLdA_whole (n := 4) g2 rfl k
    unfold sNULL at q1
    have gn11 := q3.cells fa g11 (by omega)
    have l11 := fun k => qLdA_whole (n := 4) gn11 rfl k
    simp only [b1, r57_10, b3, r57_13, b4, r57_15, b5, r57_5, r57_6, r57_7, opn_z, opn_s, sel_z, sel_s, qCd_eq, qIf_true, qIf_false, qFn_eq, qBl_eq, qO_some, qRes_val, qHp_some, qPick_true, qPick_false, qG_tt, qG_ff, qG_tf, qG_ft, cellsK_some, qLd_vptr, qLdA_vptr, qFa_ptr, qFa_vptr, qNc_ptr, qNc_vptr, qNc_fn, qNot_bool, qExt_tup, qCallV_fn, qLss_int, qLeq_int, qGtr_int, qGeq_int, qEql_int, qNeq_int, qAdd_int, qSub_int, qMul_int, qConvI_int, qLenL_sl, qLenL_hsl, qLenS_str, foldO, min2_int, max2_int, qSame_refl, Nat.zero_add, List.getElem?_cons_zero, List.getElem?_cons_succ, List.nil_append, List.cons_append, List.append_nil, one_bool, one_int, one_str, one_nilp, one_ptr, one_sl, one_hsl, one_map, one_fn, List.length_cons, List.length_nil, List.set_cons_zero, List.set_cons_succ, Nat.reduceLT, Nat.reduceAdd, q1, l11, st, qPtr_ptr, ld2]
    exact ⟨_, rfl, EVnull, by simpa using f2, s2⟩

theorem one_ok (n : Nd) : OneOk n := by
  refine Nd.rec (motive_1 := OneOk) (motive_2 := fun l => ∀ n ∈ l, OneOk n) (fun kind key tn w val what kids ih => one_step kind key tn w val what kids ih) (fun n h => by cases h) (fun n l h1 h2 m hm => ?_) n
  rcases List.mem_cons.1 hm with rfl | hm
  · exact h1
  · exact h2 m hm

end T
set_option linter.unusedVariables false
set_option linter.unusedSimpArgs false
set_option maxRecDepth 10000
namespace T
open Go Go.Aes Go.Proofs

/-! ### nobody appends any more -/
theorem strRows_kill (l : List Str) : AV.killss (strRows l) = strRows l := by
  rw [killss_map]; simp [strRows, AV.kill]
theorem pRows_kill (l : List (Str × Int)) : AV.killss (pRows l) = pRows l := by
  rw [killss_map]; simp [pRows, AV.kill]
theorem strRows_free (l : List Str) : AV.freess (strRows l) = true := by
  rw [freess_all]
  intro r hr a ha
  obtain ⟨y, _, rfl⟩ := List.mem_map.1 hr
  simp at ha; subst ha; rfl
theorem pRows_free (l : List (Str × Int)) : AV.freess (pRows l) = true := by
  rw [freess_all]
  intro r hr a ha
  obtain ⟨y, _, rfl⟩ := List.mem_map.1 hr
  simp at ha; rcases ha with rfl | rfl <;> rfl
theorem Tk.kill_free (tk : Tk) (rows : List (List AV)) : (AV.sl rows tk.kill).free = AV.freess rows := by cases tk <;> rfl

mutual
theorem EV.kill : ∀ (v : Val) (r : List AV), EV v r → EV v (AV.kills r) ∧ AV.frees (AV.kills r) = true
  | .mk k s ns l, r, h => by
    obtain ⟨t1, t2, rows, rfl, h⟩ := h
    obtain ⟨h1, h2⟩ := EVs.kill l rows h
    simp only [AV.kills, AV.kill, strRows_kill]
    refine ⟨⟨_, _, _, rfl, h1⟩, ?_⟩
    simp only [AV.frees, Tk.kill_free, h2, strRows_free]
    rfl
theorem EVs.kill : ∀ (l : List Val) (rows : List (List AV)), EVs l rows → EVs l (AV.killss rows) ∧ AV.freess (AV.killss rows) = true
  | [], rows, h => by cases h; exact ⟨rfl, rfl⟩
  | v :: l, rows, h => by
    obtain ⟨r, rs, rfl, h1, h2⟩ := h
    obtain ⟨a1, a2⟩ := EV.kill v r h1
    obtain ⟨b1, b2⟩ := EVs.kill l rs h2
    refine ⟨⟨_, _, rfl, a1, b1⟩, ?_⟩
    simp only [AV.killss, AV.freess, a2, b2]; rfl
end

mutual
theorem EN.kill : ∀ (n : Nd) (r : List AV), EN n r → EN n (AV.kills r) ∧ AV.frees (AV.kills r) = true
  | .mk kind key tn w val what kids, r, h => by
    obtain ⟨a, b, c, d, t, rows, hv, rfl, h⟩ := h
    obtain ⟨h1, h2⟩ := ENs.kill kids rows h
    obtain ⟨a1, a2⟩ := EV.kill val _ hv
    refine ⟨⟨a.kill, b.kill, c.kill, d.kill, t.kill, AV.killss rows, by simpa only [AV.kills] using a1, by simp only [AV.kills, AV.kill], h1⟩, ?_⟩
    simp only [AV.kills, AV.frees, Bool.and_true, Bool.and_eq_true] at a2
    simp only [AV.kills, AV.kill, AV.frees, Tk.kill_free, h2, a2]
    rfl
theorem ENs.kill : ∀ (l : List Nd) (rows : List (List AV)), ENs l rows → ENs l (AV.killss rows) ∧ AV.freess (AV.killss rows) = true
  | [], rows, h => by cases h; exact ⟨rfl, rfl⟩
  | v :: l, rows, h => by
    obtain ⟨r, rs, rfl, h1, h2⟩ := h
    obtain ⟨a1, a2⟩ := EN.kill v r h1
    obtain ⟨b1, b2⟩ := ENs.kill l rs h2
    refine ⟨⟨_, _, rfl, a1, b1⟩, ?_⟩
    simp only [AV.killss, AV.freess, a2, b2]; rfl
end

theorem EFs.kill : ∀ (l : List Fau) (rows : List (List AV)), EFs l rows → EFs l (AV.killss rows) ∧ AV.freess (AV.killss rows) = true
  | [], rows, h => by cases h; exact ⟨rfl, rfl⟩
  | f :: l, rows, h => by
    obtain ⟨r, rs, rfl, ⟨tk, rfl⟩, h2⟩ := h
    obtain ⟨b1, b2⟩ := EFs.kill l rs h2
    refine ⟨⟨_, _, rfl, ⟨tk.kill, ?_⟩, b1⟩, ?_⟩
    · simp only [AV.kills, AV.kill, pRows_kill]
    · simp only [AV.killss, AV.freess, AV.kills, AV.kill, AV.frees, Tk.kill_free, pRows_kill, pRows_free, b2]; rfl

/-- called purely; what comes out is only known by what it is -/
theorem pu_form_ex {X : Cx} {S : Nat → Bool} {g np : Nat} {fn : Func} {ss : List Nat} {c : CallF → List AV → AH → (AV → AH → Prop) → Prop} (he : hFn (R := Prop) X g fn np ss = c) (hfn : X.fn g = some fn) (hs : S g = true) {l : List AV} (ha : AV.frees (AV.kills l) = true)
    {Q : AV → Prop} (h : c (evp X S) (AV.kills l) H0 (fun v' _ => v'.kill.free = true ∧ Q v'.kill)) : ∃ v, Q v ∧ ∀ H, evp X S g l H = some (.val v H) := by
  subst he
  obtain ⟨lf, v', H', h1, h2, h3⟩ := hFn_sat monP_ok hfn h
  exact ⟨v'.kill, h3, fun H => evp_pure hs ha h1 h2 H⟩

theorem arg_free {l : List Nd} {rows : List (List AV)} (tk : Tk) (h : ENs l rows) : AV.frees (AV.kills [.sl rows tk]) = true := by
  simp only [AV.kills, AV.kill, AV.frees, Tk.kill_free, (ENs.kill l rows h).2]; rfl

/-- what Finish gives -/
def FinOk (l : List Nd) (v : AV) : Prop := ∃ r frows tk, v = .tup [.agg r, .sl frows tk] ∧ EV (finF l).1 r ∧ EFs (finF l).2 frows

theorem FinOk.of {l : List Nd} {r : List AV} {frows : List (List AV)} {tk : Tk} (h1 : EV (finF l).1 r) (h2 : EFs (finF l).2 frows) :
    (AV.tup [.agg r, .sl frows tk]).kill.free = true ∧ FinOk l (AV.tup [.agg r, .sl frows tk]).kill := by
  obtain ⟨a1, a2⟩ := EV.kill _ _ h1
  obtain ⟨b1, b2⟩ := EFs.kill _ _ h2
  simp only [AV.kill, AV.kills]
  refine ⟨?_, ⟨_, _, _, rfl, a1, b1⟩⟩
  simp only [AV.free, AV.frees, Tk.kill_free, a2, b2]
  cases tk <;> rfl

theorem ep32 {l : List Nd} {rows : List (List AV)} (tk : Tk) (hE : ENs l rows) (hw : woks l) (hl : 1 + tots l ≤ 100000000000) : ∃ v, FinOk l v ∧ ∀ H, EP 32 [.sl rows tk] H = some (.val v H) := by
  refine pu_form_ex e32 xf32 rfl (arg_free tk hE) ?_
  have hE' := (ENs.kill l rows hE).1
  simp only [AV.kills, AV.kill]
  generalize AV.killss rows = rows at hE'
  generalize tk.kill = tk
  have n1 : ∀ k : AV → AH → Prop, qNew (.cells z58) .ptr H0 k = k (.ptr 0 0) (H0.push (.cells z58)) := fun k => by rw [qNew_i]; rfl
  have b1 : ∀ k : AV → Prop, qBld z96 [] k = k (.agg [.sl [] .nil]) := fun k => rfl
  have b2 : ∀ k : AV → AH → Prop, qBox (.agg [.sl [] .nil]) (H0.push (.cells z58)) k = k (.ptr 1 0) ((H0.push (.cells z58)).push (.cells [.sl [] .nil])) := fun k => by rw [qBox_i]; rfl
  haveI : IsFn ((H0.push (.cells z58)).push (.cells [.sl [] .nil])) := inferInstance
  have nx : ((H0.push (.cells z58)).push (.cells [.sl [] .nil])).nx = 2 := rfl
  have g0 : ((H0.push (.cells z58)).push (.cells [.sl [] .nil])).get 0 = some (.cells z58) := rfl
  have g1 : ((H0.push (.cells z58)).push (.cells [.sl [] .nil])).get 1 = some (.cells [.sl [] .nil]) := rfl
  have f0 : FS ((H0.push (.cells z58)).push (.cells [.sl [] .nil])) 1 [] := ⟨.sl [] .nil, [], g1, .nil, rfl⟩
  simp only [c32, r32_0, r32_1, r32_2, opn_z, opn_s, sel_z, sel_s, qCd_eq, qIf_true, qIf_false, qFn_eq, qBl_eq, qO_some, qRes_val, qHp_some, qPick_true, qPick_false, qG_tt, qG_ff, qG_tf, qG_ft, cellsK_some, qLd_vptr, qLdA_vptr, qFa_ptr, qFa_vptr, qNc_ptr, qNc_vptr, qNc_fn, qNot_bool, qExt_tup, qCallV_fn, qLss_int, qLeq_int, qGtr_int, qGeq_int, qEql_int, qNeq_int, qAdd_int, qSub_int, qMul_int, qConvI_int, qLenL_sl, qLenL_hsl, qLenS_str, foldO, min2_int, max2_int, qSame_refl, Nat.zero_add, List.getElem?_cons_zero, List.getElem?_cons_succ, List.nil_append, List.cons_append, List.append_nil, one_bool, one_int, one_str, one_nilp, one_ptr, one_sl, one_hsl, one_map, one_fn, List.length_cons, List.length_nil, List.set_cons_zero, List.set_cons_succ, Nat.reduceLT, Nat.reduceAdd, n1, b1, b2]
  generalize (H0.push (.cells z58)).push (.cells [.sl [] .nil]) = Ha at *
  obtain ⟨r, Hb, q1, q2, q3, q4⟩ := fields_ok l (fun n _ => node_ok n) Ha 1 [] rows tk [] .nil hE' f0 hw (fun _ => rfl) (by simp; omega) (by simp; omega)
  haveI := q4.ex.fn
  have gb0 := q4.cells f0 g0 (by decide)
  have q1' : evp X PS 49 [.ptr 1 0, .sl rows tk, .sl [] .nil] Ha = _ := q1
  obtain ⟨b5, Hx, Hc, x1, x2, x3, x4, x5, x6⟩ := boxK (Hs := Hb) (.refl _) z58 r (n := 4) rfl q2.four q2.ones
  haveI := x5.fn
  have gc0 := x6 _ _ gb0
  have f3 := q3.keep x5 (fun _ _ h => h)
  have hb1 : 1 < Hb.nx := q3.lt
  simp only [q1', opn_z, opn_s, sel_z, sel_s, qCd_eq, qIf_true, qIf_false, qFn_eq, qBl_eq, qO_some, qRes_val, qHp_some, qPick_true, qPick_false, qG_tt, qG_ff, qG_tf, qG_ft, cellsK_some, qLd_vptr, qLdA_vptr, qFa_ptr, qFa_vptr, qNc_ptr, qNc_vptr, qNc_fn, qNot_bool, qExt_tup, qCallV_fn, qLss_int, qLeq_int, qGtr_int, qGeq_int, qEql_int, qNeq_int, qAdd_int, qSub_int, qMul_int, qConvI_int, qLenL_sl, qLenL_hsl, qLenS_str, foldO, min2_int, max2_int, qSame_refl, Nat.zero_add, List.getElem?_cons_zero, List.getElem?_cons_succ, List.nil_append, List.cons_append, List.append_nil, one_bool, one_int, one_str, one_nilp, one_ptr, one_sl, one_hsl, one_map, one_fn, List.length_cons, List.length_nil, List.set_cons_zero, List.set_cons_succ, Nat.reduceLT, Nat.reduceAdd, x1, x2, r32_3]
  -- the end
  suffices key : ∀ (Hd : AH) (r' : List AV), IsFn Hd → Hd.get 0 = some (.cells z58) → Hd.get b5 = some (.cells r') → FS Hd 1 ([] ++ (fieldsF [] l).2.2) → EV (finF l).1 r' → ∀ (x2 x3 x6 x16 : AV),
      r32_5 (fun fr H => qPtr (sel 1 fr) (qLdA 4 (sel 1 fr) H fun w0 => (AV.tup [w0, sel 2 fr]).kill.free = true ∧ FinOk l (AV.tup [w0, sel 2 fr]).kill)) [.sl rows tk, .ptr 0 0, x3, .ptr 1 0, .ptr b5 0, x6, x16] Hd by
    cases hok : (fieldsF [] l).2.1 with
    | false =>
      have st := fun k => qSt_whole (n := 4) x3 (l := nullC) q2.four rfl rfl k
      have lt5 := lt_i x3
      have hF : (finF l).1 = nullV := by simp only [finF, hok]; rfl
      simp only [Bool.not_false, opn_z, opn_s, sel_z, sel_s, qCd_eq, qIf_true, qIf_false, qFn_eq, qBl_eq, qO_some, qRes_val, qHp_some, qPick_true, qPick_false, qG_tt, qG_ff, qG_tf, qG_ft, cellsK_some, qLd_vptr, qLdA_vptr, qFa_ptr, qFa_vptr, qNc_ptr, qNc_vptr, qNc_fn, qNot_bool, qExt_tup, qCallV_fn, qLss_int, qLeq_int, qGtr_int, qGeq_int, qEql_int, qNeq_int, qAdd_int, qSub_int, qMul_int, qConvI_int, qLenL_sl, qLenL_hsl, qLenS_str, foldO, min2_int, max2_int, qSame_refl, Nat.zero_add, List.getElem?_cons_zero, List.getElem?_cons_succ, List.nil_append, List.cons_append, List.append_nil, one_bool, one_int, one_str, one_nilp, one_ptr, one_sl, one_hsl, one_map, one_fn, List.length_cons, List.length_nil, List.set_cons_zero, List.set_cons_succ, Nat.reduceLT, Nat.reduceAdd, r32_4, ep50, st]
      obtain ⟨ff, _⟩ := own_set (p := 1) (H := Hb) f3 ((St.of_ex (p := 1) x5 hb1 (fun h => h) (fun _ _ h => h))) x3 x4 hb1 (some (.cells nullC))
      exact key _ nullC inferInstance (by rw [get_set_i lt5, if_neg gc0.2]; exact gc0.1) (by rw [get_set_i lt5, if_pos rfl]) ff (by rw [hF]; exact EVnull) undef _ _ _
    | true =>
      have hF : (finF l).1 = .mk 8 [] (l.map Nd.key) (fieldsF [] l).1 := by simp only [finF, hok]; rfl
      simp only [Bool.not_true, opn_z, opn_s, sel_z, sel_s, qCd_eq, qIf_true, qIf_false, qFn_eq, qBl_eq, qO_some, qRes_val, qHp_some, qPick_true, qPick_false, qG_tt, qG_ff, qG_tf, qG_ft, cellsK_some, qLd_vptr, qLdA_vptr, qFa_ptr, qFa_vptr, qNc_ptr, qNc_vptr, qNc_fn, qNot_bool, qExt_tup, qCallV_fn, qLss_int, qLeq_int, qGtr_int, qGeq_int, qEql_int, qNeq_int, qAdd_int, qSub_int, qMul_int, qConvI_int, qLenL_sl, qLenL_hsl, qLenS_str, foldO, min2_int, max2_int, qSame_refl, Nat.zero_add, List.getElem?_cons_zero, List.getElem?_cons_succ, List.nil_append, List.cons_append, List.append_nil, one_bool, one_int, one_str, one_nilp, one_ptr, one_sl, one_hsl, one_map, one_fn, List.length_cons, List.length_nil, List.set_cons_zero, List.set_cons_succ, Nat.reduceLT, Nat.reduceAdd]
      exact key _ r inferInstance gc0.1 x3 f3 (by rw [hF]; exact q2) undef _ _ _
  intro Hd r' hfd g0 g5 fd hv y2 y3 y6 y16
  obtain ⟨v, frows, h1, h2, h3⟩ := fd
  obtain ⟨tkf, rfl⟩ := h2.sl
  have l5 := fun k => qLdA_whole (n := 4) g5 hv.four k
  have l1 := fun k => ld1 h1 0 _ rfl k
  have st := fun k => qSt_whole (n := 4) g0 (l := r') rfl hv.four hv.ones k
  have lt0 := lt_i g0
  have g1' : (Hd.set 0 (some (.cells r'))).get 1 = some (.cells [.sl frows tkf]) := by rw [get_set_i lt0, if_neg (by decide)]; exact h1
  have g0' : (Hd.set 0 (some (.cells r'))).get 0 = some (.cells r') := by rw [get_set_i lt0, if_pos rfl]
  have l1' := fun k => ld1 g1' 0 _ rfl k
  have l0' := fun k => qLdA_whole (n := 4) g0' hv.four k
  simp only [r32_5, opn_z, opn_s, sel_z, sel_s, qCd_eq, qIf_true, qIf_false, qFn_eq, qBl_eq, qO_some, qRes_val, qHp_some, qPick_true, qPick_false, qG_tt, qG_ff, qG_tf, qG_ft, cellsK_some, qLd_vptr, qLdA_vptr, qFa_ptr, qFa_vptr, qNc_ptr, qNc_vptr, qNc_fn, qNot_bool, qExt_tup, qCallV_fn, qLss_int, qLeq_int, qGtr_int, qGeq_int, qEql_int, qNeq_int, qAdd_int, qSub_int, qMul_int, qConvI_int, qLenL_sl, qLenL_hsl, qLenS_str, foldO, min2_int, max2_int, qSame_refl, Nat.zero_add, List.getElem?_cons_zero, List.getElem?_cons_succ, List.nil_append, List.cons_append, List.append_nil, one_bool, one_int, one_str, one_nilp, one_ptr, one_sl, one_hsl, one_map, one_fn, List.length_cons, List.length_nil, List.set_cons_zero, List.set_cons_succ, Nat.reduceLT, Nat.reduceAdd, l5, l1, st, l1', qPtr_ptr, l0']
  exact FinOk.of hv (by simpa [finF] using h3)

theorem ep37 {l : List Nd} {rows : List (List AV)} (tk : Tk) (hE : ENs l rows) (hw : woks l) (hl : 1 + tots l ≤ 100000000000) : ∃ v, FinOk l v ∧ ∀ H, EP 37 [.sl rows tk] H = some (.val v H) := by
  refine pu_form_ex e37 xf37 rfl (arg_free tk hE) ?_
  have hE' := (ENs.kill l rows hE).1
  simp only [AV.kills, AV.kill]
  generalize AV.killss rows = rows at hE'
  generalize tk.kill = tk
  have n1 : ∀ k : AV → AH → Prop, qNew (.cells z58) .ptr H0 k = k (.ptr 0 0) (H0.push (.cells z58)) := fun k => by rw [qNew_i]; rfl
  have b1 : ∀ k : AV → Prop, qBld z104 [] k = k (.agg [.sl [] .nil]) := fun k => rfl
  have bn : ∀ k : AV → Prop, qBld z58 [(0, 1, .int .i64 1)] k = k (.agg nullC) := fun k => rfl
  have b2 : ∀ k : AV → AH → Prop, qBox (.agg [.sl [] .nil]) (H0.push (.cells z58)) k = k (.ptr 1 0) ((H0.push (.cells z58)).push (.cells [.sl [] .nil])) := fun k => by rw [qBox_i]; rfl
  haveI : IsFn ((H0.push (.cells z58)).push (.cells [.sl [] .nil])) := inferInstance
  have nx : ((H0.push (.cells z58)).push (.cells [.sl [] .nil])).nx = 2 := rfl
  have g0 : ((H0.push (.cells z58)).push (.cells [.sl [] .nil])).get 0 = some (.cells z58) := rfl
  have g1 : ((H0.push (.cells z58)).push (.cells [.sl [] .nil])).get 1 = some (.cells [.sl [] .nil]) := rfl
  have f0 : FS ((H0.push (.cells z58)).push (.cells [.sl [] .nil])) 1 [] := ⟨.sl [] .nil, [], g1, .nil, rfl⟩
  simp only [c37, r37_0, r37_1, r37_2, opn_z, opn_s, sel_z, sel_s, qCd_eq, qIf_true, qIf_false, qFn_eq, qBl_eq, qO_some, qRes_val, qHp_some, qPick_true, qPick_false, qG_tt, qG_ff, qG_tf, qG_ft, cellsK_some, qLd_vptr, qLdA_vptr, qFa_ptr, qFa_vptr, qNc_ptr, qNc_vptr, qNc_fn, qNot_bool, qExt_tup, qCallV_fn, qLss_int, qLeq_int, qGtr_int, qGeq_int, qEql_int, qNeq_int, qAdd_int, qSub_int, qMul_int, qConvI_int, qLenL_sl, qLenL_hsl, qLenS_str, foldO, min2_int, max2_int, qSame_refl, Nat.zero_add, List.getElem?_cons_zero, List.getElem?_cons_succ, List.nil_append, List.cons_append, List.append_nil, one_bool, one_int, one_str, one_nilp, one_ptr, one_sl, one_hsl, one_map, one_fn, List.length_cons, List.length_nil, List.set_cons_zero, List.set_cons_succ, Nat.reduceLT, Nat.reduceAdd, n1, b1, b2]
  generalize (H0.push (.cells z58)).push (.cells [.sl [] .nil]) = Ha at *
  obtain ⟨r, Hb, q1, q2, q3, q4⟩ := rfields_ok l (fun n _ => one_ok n) Ha 1 [] rows tk [] .nil hE' f0 hw (fun _ => rfl) (by simp; omega) (by simp; omega)
  haveI := q4.ex.fn
  have gb0 := q4.cells f0 g0 (by decide)
  have q1' : evp X PS 52 [.ptr 1 0, .sl rows tk, .sl [] .nil] Ha = _ := q1
  obtain ⟨b5, Hx, Hc, x1, x2, x3, x4, x5, x6⟩ := boxK (Hs := Hb) (.refl _) z58 r (n := 4) rfl q2.four q2.ones
  haveI := x5.fn
  have gc0 := x6 _ _ gb0
  have f3 := q3.keep x5 (fun _ _ h => h)
  have hb1 : 1 < Hb.nx := q3.lt
  simp only [q1', opn_z, opn_s, sel_z, sel_s, qCd_eq, qIf_true, qIf_false, qFn_eq, qBl_eq, qO_some, qRes_val, qHp_some, qPick_true, qPick_false, qG_tt, qG_ff, qG_tf, qG_ft, cellsK_some, qLd_vptr, qLdA_vptr, qFa_ptr, qFa_vptr, qNc_ptr, qNc_vptr, qNc_fn, qNot_bool, qExt_tup, qCallV_fn, qLss_int, qLeq_int, qGtr_int, qGeq_int, qEql_int, qNeq_int, qAdd_int, qSub_int, qMul_int, qConvI_int, qLenL_sl, qLenL_hsl, qLenS_str, foldO, min2_int, max2_int, qSame_refl, Nat.zero_add, List.getElem?_cons_zero, List.getElem?_cons_succ, List.nil_append, List.cons_append, List.append_nil, one_bool, one_int, one_str, one_nilp, one_ptr, one_sl, one_hsl, one_map, one_fn, List.length_cons, List.length_nil, List.set_cons_zero, List.set_cons_succ, Nat.reduceLT, Nat.reduceAdd, x1, x2, r37_3]
  -- the end
  suffices key : ∀ (Hd : AH) (r' : List AV), IsFn Hd → Hd.get 0 = some (.cells z58) → Hd.get b5 = some (.cells r') → FS Hd 1 ([] ++ (fieldsF [] l).2.2) → EV (finF l).1 r' → ∀ (x2 x3 x6 x16 : AV),
      r37_5 (fun fr H => qPtr (sel 1 fr) (qLdA 4 (sel 1 fr) H fun w0 => (AV.tup [w0, sel 2 fr]).kill.free = true ∧ FinOk l (AV.tup [w0, sel 2 fr]).kill)) [.sl rows tk, .ptr 0 0, x3, .ptr 1 0, .ptr b5 0, x6, x16] Hd by
    cases hok : (fieldsF [] l).2.1 with
    | false =>
      have st := fun k => qSt_whole (n := 4) x3 (l := nullC) q2.four rfl rfl k
      have lt5 := lt_i x3
      have hF : (finF l).1 = nullV := by simp only [finF, hok]; rfl
      simp only [Bool.not_false, opn_z, opn_s, sel_z, sel_s, qCd_eq, qIf_true, qIf_false, qFn_eq, qBl_eq, qO_some, qRes_val, qHp_some, qPick_true, qPick_false, qG_tt, qG_ff, qG_tf, qG_ft, cellsK_some, qLd_vptr, qLdA_vptr, qFa_ptr, qFa_vptr, qNc_ptr, qNc_vptr, qNc_fn, qNot_bool, qExt_tup, qCallV_fn, qLss_int, qLeq_int, qGtr_int, qGeq_int, qEql_int, qNeq_int, qAdd_int, qSub_int, qMul_int, qConvI_int, qLenL_sl, qLenL_hsl, qLenS_str, foldO, min2_int, max2_int, qSame_refl, Nat.zero_add, List.getElem?_cons_zero, List.getElem?_cons_succ, List.nil_append, List.cons_append, List.append_nil, one_bool, one_int, one_str, one_nilp, one_ptr, one_sl, one_hsl, one_map, one_fn, List.length_cons, List.length_nil, List.set_cons_zero, List.set_cons_succ, Nat.reduceLT, Nat.reduceAdd, r37_4, bn, st]
      obtain ⟨ff, _⟩ := own_set (p := 1) (H := Hb) f3 ((St.of_ex (p := 1) x5 hb1 (fun h => h) (fun _ _ h => h))) x3 x4 hb1 (some (.cells nullC))
      exact key _ nullC inferInstance (by rw [get_set_i lt5, if_neg gc0.2]; exact gc0.1) (by rw [get_set_i lt5, if_pos rfl]) ff (by rw [hF]; exact EVnull) undef _ _ _
    | true =>
      have hF : (finF l).1 = .mk 8 [] (l.map Nd.key) (fieldsF [] l).1 := by simp only [finF, hok]; rfl
      simp only [Bool.not_true, opn_z, opn_s, sel_z, sel_s, qCd_eq, qIf_true, qIf_false, qFn_eq, qBl_eq, qO_some, qRes_val, qHp_some, qPick_true, qPick_false, qG_tt, qG_ff, qG_tf, qG_ft, cellsK_some, qLd_vptr, qLdA_vptr, qFa_ptr, qFa_vptr, qNc_ptr, qNc_vptr, qNc_fn, qNot_bool, qExt_tup, qCallV_fn, qLss_int, qLeq_int, qGtr_int, qGeq_int, qEql_int, qNeq_int, qAdd_int, qSub_int, qMul_int, qConvI_int, qLenL_sl, qLenL_hsl, qLenS_str, foldO, min2_int, max2_int, qSame_refl, Nat.zero_add, List.getElem?_cons_zero, List.getElem?_cons_succ, List.nil_append, List.cons_append, List.append_nil, one_bool, one_int, one_str, one_nilp, one_ptr, one_sl, one_hsl, one_map, one_fn, List.length_cons, List.length_nil, List.set_cons_zero, List.set_cons_succ, Nat.reduceLT, Nat.reduceAdd]
      exact key _ r inferInstance gc0.1 x3 f3 (by rw [hF]; exact q2) undef _ _ _
  intro Hd r' hfd g0 g5 fd hv y2 y3 y6 y16
  obtain ⟨v, frows, h1, h2, h3⟩ := fd
  obtain ⟨tkf, rfl⟩ := h2.sl
  have l5 := fun k => qLdA_whole (n := 4) g5 hv.four k
  have l1 := fun k => ld1 h1 0 _ rfl k
  have st := fun k => qSt_whole (n := 4) g0 (l := r') rfl hv.four hv.ones k
  have lt0 := lt_i g0
  have g1' : (Hd.set 0 (some (.cells r'))).get 1 = some (.cells [.sl frows tkf]) := by rw [get_set_i lt0, if_neg (by decide)]; exact h1
  have g0' : (Hd.set 0 (some (.cells r'))).get 0 = some (.cells r') := by rw [get_set_i lt0, if_pos rfl]
  have l1' := fun k => ld1 g1' 0 _ rfl k
  have l0' := fun k => qLdA_whole (n := 4) g0' hv.four k
  simp only [r37_5, opn_z, opn_s, sel_z, sel_s, qCd_eq, qIf_true, qIf_false, qFn_eq, qBl_eq, qO_some, qRes_val, qHp_some, qPick_true, qPick_false, qG_tt, qG_ff, qG_tf, qG_ft, cellsK_some, qLd_vptr, qLdA_vptr, qFa_ptr, qFa_vptr, qNc_ptr, qNc_vptr, qNc_fn, qNot_bool, qExt_tup, qCallV_fn, qLss_int, qLeq_int, qGtr_int, qGeq_int, qEql_int, qNeq_int, qAdd_int, qSub_int, qMul_int, qConvI_int, qLenL_sl, qLenL_hsl, qLenS_str, foldO, min2_int, max2_int, qSame_refl, Nat.zero_add, List.getElem?_cons_zero, List.getElem?_cons_succ, List.nil_append, List.cons_append, List.append_nil, one_bool, one_int, one_str, one_nilp, one_ptr, one_sl, one_hsl, one_map, one_fn, List.length_cons, List.length_nil, List.set_cons_zero, List.set_cons_succ, Nat.reduceLT, Nat.reduceAdd, l5, l1, st, l1', qPtr_ptr, l0']
  exact FinOk.of hv (by simpa [finF] using h3)

end T
set_option linter.unusedVariables false
set_option linter.unusedSimpArgs false
set_option maxRecDepth 10000
namespace T
open Go Go.Aes Go.Proofs

theorem qSt_gen {H : AH} [IsFn H] {i n : Nat} {cs cs' : List AV} (hg : H.get i = some (.cells cs)) (o : Nat) (v : AV) (hl : v.cells.length = n) (ha : allOne v.cells = true) (hs : setRange cs o v.cells = some cs') (k : AV → AH → Prop) :
    qSt n (.ptr i o) v H k = k undef (H.set i (some (.cells cs'))) := by
  have hn : v.cells.length.beq n = true := by rw [hl]; exact Nat.beq_refl n
  have hb : (v.cells.length.beq n && allOne v.cells && H.okI i) = true := by
    rw [hn, ha, okI_i (lt_i hg)]; rfl
  rw [qSt_ptr]
  simp only [hb, cond_true, hg, cellsK_some, hs, qO_some]

theorem get_set_at {H : AH} [IsFn H] {i : Nat} {cs : List AV} (hg : H.get i = some (.cells cs)) (o : AO) : (H.set i (some o)).get i = some o := by rw [get_set_i (lt_i hg), if_pos rfl]
theorem Kp_set {Hs H : AH} [IsFn H] {i : Nat} {cs : List AV} (e : Kp Hs H (fun _ => False)) (hg : H.get i = some (.cells cs)) (hlo : Hs.nx ≤ i) (o : Option AO) : Kp Hs (H.set i o) (fun _ => False) :=
  ⟨inferInstance, by rw [AH.nx_set]; exact e.nx, fun j hj hn => by rw [get_set_i (lt_i hg), if_neg (by omega)]; exact e.keep j hj hn⟩

def zeroV : Val := .mk 0 [] [] []
theorem EVzero : EV zeroV [.int .i64 0, .str [], .sl [] .nil, .sl [] .nil] := ⟨.nil, .nil, [], rfl, rfl⟩

def awNd : Nd := .mk 2 [97] [73, 110, 116] [33] zeroV [] []

theorem ep33 (H : AH) : EP 33 [] H = some (.val (.bool true) H) := by
  refine pu_form e33 xf33 rfl rfl rfl ?_ H
  simp only [AV.kills]
  have b1 : ∀ k : AV → Prop, qBld z54 [(0, 1, (.str [73,110,116])), (1, 1, (.str [33]))] k = k (.agg [.str [73,110,116], .str [33]]) := fun k => rfl
  have b2 : ∀ k : AV → Prop, qBld z61 [(0, 1, (.int .i64 2)), (1, 1, (.str [97])), (2, 2, .agg [.str [73,110,116], .str [33]])] k = k (.agg [.int .i64 2, .str [97], .str [73,110,116], .str [33], .int .i64 0, .str [], .sl [] .nil, .sl [] .nil, .str [], .sl [] .nil]) := fun k => rfl
  have b3 : ∀ k : AV → Prop, qRows z61 1 [(0, (.agg [.int .i64 2, .str [97], .str [73,110,116], .str [33], .int .i64 0, .str [], .sl [] .nil, .sl [] .nil, .str [], .sl [] .nil]))] k = k (.sl [[.int .i64 2, .str [97], .str [73,110,116], .str [33], .int .i64 0, .str [], .sl [] .nil, .sl [] .nil, .str [], .sl [] .nil]] .full) := fun k => rfl
  have hE : ENs [awNd] [[.int .i64 2, .str [97], .str [73,110,116], .str [33], .int .i64 0, .str [], .sl [] .nil, .sl [] .nil, .str [], .sl [] .nil]] := ⟨_, [], rfl, ⟨_, _, _, _, _, [], EVzero, rfl, rfl⟩, rfl⟩
  obtain ⟨v, ⟨r, frows, tk, rfl, v1, v2⟩, v3⟩ := ep32 .full hE ⟨⟨by decide, trivial⟩, trivial⟩ (by decide)
  have hf : finF [awNd] = (nullV, [⟨sNULL, [([97], 0)]⟩]) := by simp [finF, fieldsF, nodeF, awNd, ends, nullV, Nd.w, Nd.key]
  rw [hf] at v1 v2
  obtain ⟨t1, t2, rows, rfl, _⟩ := v1
  obtain ⟨fr, frs, rfl, ⟨tk2, rfl⟩, rfl⟩ := v2
  have n1 : ∀ k : AV → AH → Prop, qNew (.cells z58) .ptr H0 k = k (.ptr 0 0) (H0.push (.cells z58)) := fun k => by rw [qNew_i]; rfl
  have g0 : (H0.push (.cells z58)).get 0 = some (.cells z58) := rfl
  have st := fun k => qSt_whole (n := 4) g0 (l := [.int .i64 1, .str [], .sl (strRows []) t1, .sl rows t2]) rfl rfl rfl k
  have g1 := get_set_at g0 (.cells [.int .i64 1, .str [], .sl (strRows []) t1, .sl rows t2])
  have l1 := fun k => ld1 g1 0 _ rfl k
  have q1 : ∀ k : AV → Prop, qLenL (.sl [[.str sNULL, .sl (pRows [([97], 0)]) tk2]] tk) k = k (.int .i64 1) := fun k => rfl
  have q2 : ∀ k : AV → Prop, qIa 2 (.sl [[.str sNULL, .sl (pRows [([97], 0)]) tk2]] tk) (.int .i64 0) k = k (.vptr [.str sNULL, .sl (pRows [([97], 0)]) tk2] 0) := fun k => rfl
  have q3 : ∀ k : AV → Prop, qLenL (.sl (pRows [([97], 0)]) tk2) k = k (.int .i64 1) := fun k => rfl
  have q4 : ∀ k : AV → Prop, qIa 2 (.sl (pRows [([97], 0)]) tk2) (.int .i64 0) k = k (.vptr [.str [97], .int .i64 0] 0) := fun k => rfl
  simp only [c33, r33_0, r33_1, r33_2, opn_z, opn_s, sel_z, sel_s, qCd_eq, qIf_true, qIf_false, qFn_eq, qBl_eq, qO_some, qRes_val, qHp_some, qPick_true, qPick_false, qG_tt, qG_ff, qG_tf, qG_ft, cellsK_some, qLd_vptr, qLdA_vptr, qFa_ptr, qFa_vptr, qNc_ptr, qNc_vptr, qNc_fn, qNot_bool, qExt_tup, qCallV_fn, qLss_int, qLeq_int, qGtr_int, qGeq_int, qEql_int, qNeq_int, qAdd_int, qSub_int, qMul_int, qConvI_int, qLenL_sl, qLenL_hsl, qLenS_str, foldO, min2_int, max2_int, qSame_refl, Nat.zero_add, List.getElem?_cons_zero, List.getElem?_cons_succ, List.nil_append, List.cons_append, List.append_nil, one_bool, one_int, one_str, one_nilp, one_ptr, one_sl, one_hsl, one_map, one_fn, List.length_cons, List.length_nil, List.set_cons_zero, List.set_cons_succ, Nat.reduceLT, Nat.reduceAdd, b1, b2, b3, v3, n1, st, l1, beq_self_eq_true, q1, q2, q3, q4, qEql_str, sNULL, decide_true]
  rfl

/-! ### the law of paths -/
def sTYPE : Str := [84, 89, 80, 69]
def oneV : Val := .mk 3 [49] [] []
def kidF (deep b : Bool) : Nd :=
  let k : Str → Str → Nd := fun key tn => if b then .mk 3 key tn [] zeroV sTYPE [] else .mk 1 key tn [] oneV [] []
  if deep then .mk 5 [] [] [] zeroV [] [k [121] [73, 110, 116]] else k [] []
def rowOne : List AV := [.int .i64 3, .str [49], .sl [] .nil, .sl [] .nil]
theorem EVone : EV oneV rowOne := ⟨.nil, .nil, [], rfl, rfl⟩

theorem kid_wok (deep b : Bool) : wok (kidF deep b) ∧ tot (kidF deep b) ≤ 2 := by
  cases deep <;> cases b <;> simp [kidF, wok, woks, tot, tots]

end T
