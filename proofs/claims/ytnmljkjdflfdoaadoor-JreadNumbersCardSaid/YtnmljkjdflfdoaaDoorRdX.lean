import Derived.Test.YtnmljkjdflfdoaaDoorLitRd
import Derived.Test.YtnmljkjdflfdoaaDoorS17
import Derived.Test.YtnmljkjdflfdoaaDoorOrC
set_option linter.all false
set_option linter.unusedVariables false
set_option linter.unusedSimpArgs false
set_option maxRecDepth 10000
namespace T
open Go Go.Aes Go.Proofs

/-! ### the functions that are called purely; contracts first -/
def PS (g : Nat) : Bool := [10, 12, 13, 14, 18, 19, 20, 27, 30, 31, 38, 41, 42, 44, 45, 46, 47, 48, 49, 50, 54, 55, 56, 58, 59, 60, 61, 62, 63, 65, 68, 69, 70, 74, 75, 79, 81, 83, 87, 88, 89].contains g
noncomputable abbrev EP : CallF := evO X OD2 OF2 PS
abbrev Str := List UInt8

/-! ### pieces of texts -/
theorem slcS_lo (s : Str) (a : Nat) (h : a ≤ s.length) (k : AV → Prop) : qSlc Tryd.t9.desc 0 (.str s) (some (.int .i64 (a : Int))) none none k = k (.str (s.drop a)) := by
  have hb : bnd (some (.int .i64 (a : Int))) 0 s.length = some a := by
    have : a.ble s.length = true := by simpa using h
    simp [bnd, asN, this]
  have : sliceD Tryd.t9.desc 0 (.str s) (some (.int .i64 (a : Int))) none none = some (.str (s.drop a)) := by
    show (match bnd none s.length s.length with
      | none => none
      | some h => match bnd (some (.int .i64 (a : Int))) 0 h with
        | none => none
        | some l => some (AV.str ((s.take h).drop l))) = _
    simp only [bnd] at hb ⊢
    rw [hb]
    simp
  unfold qSlc
  rw [this, qO_some]
theorem slcS_1 (b : UInt8) (s : Str) (k : AV → Prop) : qSlc Tryd.t9.desc 0 (.str (b :: s)) (some (.int .i64 1)) none none k = k (.str s) := slcS_lo (b :: s) 1 (by simp) k
theorem slcS_hi (s : Str) (a : Nat) (h : a ≤ s.length) (k : AV → Prop) : qSlc Tryd.t9.desc 0 (.str s) none (some (.int .i64 (a : Int))) none k = k (.str (s.take a)) := by
  have hb : bnd (some (.int .i64 (a : Int))) s.length s.length = some a := by
    have : a.ble s.length = true := by simpa using h
    simp [bnd, asN, this]
  have : sliceD Tryd.t9.desc 0 (.str s) none (some (.int .i64 (a : Int))) none = some (.str (s.take a)) := by
    show (match bnd (some (.int .i64 (a : Int))) s.length s.length with
      | none => none
      | some h => match bnd none 0 h with
        | none => none
        | some l => some (AV.str ((s.take h).drop l))) = _
    rw [hb]
    simp [bnd]
  unfold qSlc
  rw [this, qO_some]
theorem slcS_mid (s : Str) (a b : Nat) (h : a ≤ b) (hb : b ≤ s.length) (k : AV → Prop) : qSlc Tryd.t9.desc 0 (.str s) (some (.int .i64 (a : Int))) (some (.int .i64 (b : Int))) none k = k (.str ((s.take b).drop a)) := by
  have h1 : bnd (some (.int .i64 (b : Int))) s.length s.length = some b := by
    have : b.ble s.length = true := by simpa using hb
    simp [bnd, asN, this]
  have h2 : bnd (some (.int .i64 (a : Int))) 0 b = some a := by
    have : a.ble b = true := by simpa using h
    simp [bnd, asN, this]
  have : sliceD Tryd.t9.desc 0 (.str s) (some (.int .i64 (a : Int))) (some (.int .i64 (b : Int))) none = some (.str ((s.take b).drop a)) := by
    show (match bnd (some (.int .i64 (b : Int))) s.length s.length with
      | none => none
      | some h => match bnd (some (.int .i64 (a : Int))) 0 h with
        | none => none
        | some l => some (AV.str ((s.take h).drop l))) = _
    rw [h1]
    simp only [h2]
  unfold qSlc
  rw [this, qO_some]

theorem u8_eq (a b : UInt8) : ((a.toNat : Int) == (b.toNat : Int)) = decide (a = b) := by
  rw [Bool.eq_iff_iff]
  simp only [beq_iff_eq, decide_eq_true_eq]
  constructor
  · intro h; exact UInt8.toNat_inj.1 (by omega)
  · rintro rfl; rfl

/-- does it begin so? -/
def hp (s p : Str) : Bool := decide (s.take p.length = p)
theorem hp_nil (s : Str) : hp s [] = true := by simp [hp]
theorem hp_cons (a b : UInt8) (s p : Str) : hp (a :: s) (b :: p) = (decide (a = b) && hp s p) := by
  rw [Bool.eq_iff_iff]; simp [hp]
theorem hp_empty (b : UInt8) (p : Str) : hp [] (b :: p) = false := by simp [hp]
theorem hp_one (a c : UInt8) (s : Str) : hp (a :: s) [c] = decide (a = c) := by rw [hp_cons, hp_nil, Bool.and_true]

theorem ep88 (s p : Str) (H : AH) : EP 49 [.str s, .str p] H = some (.val (.bool (hp s p)) H) := by
  refine uo_form e49 xf49 rfl rfl rfl rfl ?_ H
  simp only [AV.kills, AV.kill]
  by_cases h : ((p.length : Nat) : Int) ≤ ((s.length : Nat) : Int)
  · have h1 : p.length ≤ s.length := by omega
    simp only [c49, r49_0, r49_1, opn_z, opn_s, sel_z, sel_s, qCd_eq, qIf_true, qIf_false, qFn_eq, qBl_eq, qO_some, qRes_val, qHp_some, qPick_true, qPick_false, qG_tt, qG_ff, qG_tf, qG_ft, cellsK_some, qLd_ptr, qLd_vptr, qLdA_ptr, qLdA_vptr, qFa_ptr, qFa_vptr, qNc_ptr, qNc_vptr, qNc_fn, qNot_bool, qExt_tup, qCallV_fn, qLss_int, qLeq_int, qGtr_int, qGeq_int, qEql_int, qNeq_int, qAdd_int, qSub_int, qMul_int, qConvI_int, qLenL_sl, qLenL_hsl, qLenS_str, foldO, min2_int, max2_int, qSame_refl, Nat.zero_add, List.getElem?_cons_zero, List.getElem?_cons_succ, List.nil_append, List.cons_append, List.append_nil, one_bool, one_int, one_str, one_nilp, one_ptr, one_sl, one_hsl, one_map, one_fn, List.length_cons, List.length_nil, List.set_cons_zero, List.set_cons_succ, Nat.reduceLT, Nat.reduceAdd, qG_un, qResN_val, qCallVN_fn, AV.kill, AV.kills, Tk.kill, h, decide_true, slcS_hi _ _ h1, qEql_str]
    rfl
  · have h2 : s.take p.length ≠ p := by
      intro e
      have := congrArg List.length e
      simp at this
      omega
    simp only [c49, r49_0, r49_1, opn_z, opn_s, sel_z, sel_s, qCd_eq, qIf_true, qIf_false, qFn_eq, qBl_eq, qO_some, qRes_val, qHp_some, qPick_true, qPick_false, qG_tt, qG_ff, qG_tf, qG_ft, cellsK_some, qLd_ptr, qLd_vptr, qLdA_ptr, qLdA_vptr, qFa_ptr, qFa_vptr, qNc_ptr, qNc_vptr, qNc_fn, qNot_bool, qExt_tup, qCallV_fn, qLss_int, qLeq_int, qGtr_int, qGeq_int, qEql_int, qNeq_int, qAdd_int, qSub_int, qMul_int, qConvI_int, qLenL_sl, qLenL_hsl, qLenS_str, foldO, min2_int, max2_int, qSame_refl, Nat.zero_add, List.getElem?_cons_zero, List.getElem?_cons_succ, List.nil_append, List.cons_append, List.append_nil, one_bool, one_int, one_str, one_nilp, one_ptr, one_sl, one_hsl, one_map, one_fn, List.length_cons, List.length_nil, List.set_cons_zero, List.set_cons_succ, Nat.reduceLT, Nat.reduceAdd, qG_un, qResN_val, qCallVN_fn, AV.kill, AV.kills, Tk.kill, h, decide_false]
    simp [hp, h2, AV.kill]
theorem ep82 (s p : Str) (H : AH) : EP 38 [.str s, .str p] H = some (.val (.bool (hp s p)) H) := by
  refine uo_form e38 xf38 rfl rfl rfl rfl ?_ H
  simp only [AV.kills, AV.kill, c38, r38_0, r38_1, opn_z, opn_s, sel_z, sel_s, qCd_eq, qIf_true, qIf_false, qFn_eq, qBl_eq, qO_some, qRes_val, qHp_some, qPick_true, qPick_false, qG_tt, qG_ff, qG_tf, qG_ft, cellsK_some, qLd_ptr, qLd_vptr, qLdA_ptr, qLdA_vptr, qFa_ptr, qFa_vptr, qNc_ptr, qNc_vptr, qNc_fn, qNot_bool, qExt_tup, qCallV_fn, qLss_int, qLeq_int, qGtr_int, qGeq_int, qEql_int, qNeq_int, qAdd_int, qSub_int, qMul_int, qConvI_int, qLenL_sl, qLenL_hsl, qLenS_str, foldO, min2_int, max2_int, qSame_refl, Nat.zero_add, List.getElem?_cons_zero, List.getElem?_cons_succ, List.nil_append, List.cons_append, List.append_nil, one_bool, one_int, one_str, one_nilp, one_ptr, one_sl, one_hsl, one_map, one_fn, List.length_cons, List.length_nil, List.set_cons_zero, List.set_cons_succ, Nat.reduceLT, Nat.reduceAdd, qG_un, qResN_val, qCallVN_fn, AV.kill, AV.kills, Tk.kill, ep88]

/-- cut off, where it begins so -/
def cutP (s p : Str) : Str := if hp s p then s.drop p.length else s
theorem hp_le {s p : Str} (h : hp s p = true) : p.length ≤ s.length := by
  have := congrArg List.length (of_decide_eq_true h)
  simp at this
  omega
theorem cutP_1 (a : UInt8) (s : Str) : cutP (a :: s) [a] = s := by simp [cutP, hp_one]

theorem ep69 (s p : Str) (H : AH) : EP 81 [.str s, .str p] H = some (.val (.str (cutP s p)) H) := by
  refine uo_form e81 xf81 rfl rfl rfl rfl ?_ H
  simp only [AV.kills, AV.kill]
  cases h : hp s p with
  | true => simp only [c81, r81_0, r81_1, r81_2, opn_z, opn_s, sel_z, sel_s, qCd_eq, qIf_true, qIf_false, qFn_eq, qBl_eq, qO_some, qRes_val, qHp_some, qPick_true, qPick_false, qG_tt, qG_ff, qG_tf, qG_ft, cellsK_some, qLd_ptr, qLd_vptr, qLdA_ptr, qLdA_vptr, qFa_ptr, qFa_vptr, qNc_ptr, qNc_vptr, qNc_fn, qNot_bool, qExt_tup, qCallV_fn, qLss_int, qLeq_int, qGtr_int, qGeq_int, qEql_int, qNeq_int, qAdd_int, qSub_int, qMul_int, qConvI_int, qLenL_sl, qLenL_hsl, qLenS_str, foldO, min2_int, max2_int, qSame_refl, Nat.zero_add, List.getElem?_cons_zero, List.getElem?_cons_succ, List.nil_append, List.cons_append, List.append_nil, one_bool, one_int, one_str, one_nilp, one_ptr, one_sl, one_hsl, one_map, one_fn, List.length_cons, List.length_nil, List.set_cons_zero, List.set_cons_succ, Nat.reduceLT, Nat.reduceAdd, qG_un, qResN_val, qCallVN_fn, AV.kill, AV.kills, Tk.kill, ep88, h, slcS_lo _ _ (hp_le h), cutP, if_true]
  | false => simp only [c81, r81_0, r81_1, r81_3, opn_z, opn_s, sel_z, sel_s, qCd_eq, qIf_true, qIf_false, qFn_eq, qBl_eq, qO_some, qRes_val, qHp_some, qPick_true, qPick_false, qG_tt, qG_ff, qG_tf, qG_ft, cellsK_some, qLd_ptr, qLd_vptr, qLdA_ptr, qLdA_vptr, qFa_ptr, qFa_vptr, qNc_ptr, qNc_vptr, qNc_fn, qNot_bool, qExt_tup, qCallV_fn, qLss_int, qLeq_int, qGtr_int, qGeq_int, qEql_int, qNeq_int, qAdd_int, qSub_int, qMul_int, qConvI_int, qLenL_sl, qLenL_hsl, qLenS_str, foldO, min2_int, max2_int, qSame_refl, Nat.zero_add, List.getElem?_cons_zero, List.getElem?_cons_succ, List.nil_append, List.cons_append, List.append_nil, one_bool, one_int, one_str, one_nilp, one_ptr, one_sl, one_hsl, one_map, one_fn, List.length_cons, List.length_nil, List.set_cons_zero, List.set_cons_succ, Nat.reduceLT, Nat.reduceAdd, qG_un, qResN_val, qCallVN_fn, AV.kill, AV.kills, Tk.kill, ep88, h, cutP, Bool.false_eq_true, if_false]
theorem ep40 (s p : Str) (H : AH) : EP 69 [.str s, .str p] H = some (.val (.str (cutP s p)) H) := by
  refine uo_form e69 xf69 rfl rfl rfl rfl ?_ H
  simp only [AV.kills, AV.kill, c69, r69_0, r69_1, opn_z, opn_s, sel_z, sel_s, qCd_eq, qIf_true, qIf_false, qFn_eq, qBl_eq, qO_some, qRes_val, qHp_some, qPick_true, qPick_false, qG_tt, qG_ff, qG_tf, qG_ft, cellsK_some, qLd_ptr, qLd_vptr, qLdA_ptr, qLdA_vptr, qFa_ptr, qFa_vptr, qNc_ptr, qNc_vptr, qNc_fn, qNot_bool, qExt_tup, qCallV_fn, qLss_int, qLeq_int, qGtr_int, qGeq_int, qEql_int, qNeq_int, qAdd_int, qSub_int, qMul_int, qConvI_int, qLenL_sl, qLenL_hsl, qLenS_str, foldO, min2_int, max2_int, qSame_refl, Nat.zero_add, List.getElem?_cons_zero, List.getElem?_cons_succ, List.nil_append, List.cons_append, List.append_nil, one_bool, one_int, one_str, one_nilp, one_ptr, one_sl, one_hsl, one_map, one_fn, List.length_cons, List.length_nil, List.set_cons_zero, List.set_cons_succ, Nat.reduceLT, Nat.reduceAdd, qG_un, qResN_val, qCallVN_fn, AV.kill, AV.kills, Tk.kill, ep69]
theorem ep71 (s p : Str) (H : AH) : EP 62 [.str s, .str p] H = some (.val (.tup [.str (cutP s p), .bool (hp s p)]) H) := by
  refine uo_form e62 xf62 rfl rfl rfl rfl ?_ H
  simp only [AV.kills, AV.kill]
  cases h : hp s p with
  | true => simp only [c62, r62_0, r62_1, r62_3, opn_z, opn_s, sel_z, sel_s, qCd_eq, qIf_true, qIf_false, qFn_eq, qBl_eq, qO_some, qRes_val, qHp_some, qPick_true, qPick_false, qG_tt, qG_ff, qG_tf, qG_ft, cellsK_some, qLd_ptr, qLd_vptr, qLdA_ptr, qLdA_vptr, qFa_ptr, qFa_vptr, qNc_ptr, qNc_vptr, qNc_fn, qNot_bool, qExt_tup, qCallV_fn, qLss_int, qLeq_int, qGtr_int, qGeq_int, qEql_int, qNeq_int, qAdd_int, qSub_int, qMul_int, qConvI_int, qLenL_sl, qLenL_hsl, qLenS_str, foldO, min2_int, max2_int, qSame_refl, Nat.zero_add, List.getElem?_cons_zero, List.getElem?_cons_succ, List.nil_append, List.cons_append, List.append_nil, one_bool, one_int, one_str, one_nilp, one_ptr, one_sl, one_hsl, one_map, one_fn, List.length_cons, List.length_nil, List.set_cons_zero, List.set_cons_succ, Nat.reduceLT, Nat.reduceAdd, qG_un, qResN_val, qCallVN_fn, AV.kill, AV.kills, Tk.kill, ep88, h, Bool.not_true, slcS_lo _ _ (hp_le h), cutP, if_true]
  | false => simp only [c62, r62_0, r62_1, r62_2, opn_z, opn_s, sel_z, sel_s, qCd_eq, qIf_true, qIf_false, qFn_eq, qBl_eq, qO_some, qRes_val, qHp_some, qPick_true, qPick_false, qG_tt, qG_ff, qG_tf, qG_ft, cellsK_some, qLd_ptr, qLd_vptr, qLdA_ptr, qLdA_vptr, qFa_ptr, qFa_vptr, qNc_ptr, qNc_vptr, qNc_fn, qNot_bool, qExt_tup, qCallV_fn, qLss_int, qLeq_int, qGtr_int, qGeq_int, qEql_int, qNeq_int, qAdd_int, qSub_int, qMul_int, qConvI_int, qLenL_sl, qLenL_hsl, qLenS_str, foldO, min2_int, max2_int, qSame_refl, Nat.zero_add, List.getElem?_cons_zero, List.getElem?_cons_succ, List.nil_append, List.cons_append, List.append_nil, one_bool, one_int, one_str, one_nilp, one_ptr, one_sl, one_hsl, one_map, one_fn, List.length_cons, List.length_nil, List.set_cons_zero, List.set_cons_succ, Nat.reduceLT, Nat.reduceAdd, qG_un, qResN_val, qCallVN_fn, AV.kill, AV.kills, Tk.kill, ep88, h, Bool.not_false, cutP, Bool.false_eq_true, if_false]
theorem ep42 (s p : Str) (H : AH) : EP 48 [.str s, .str p] H = some (.val (.tup [.str (cutP s p), .bool (hp s p)]) H) := by
  refine uo_form e48 xf48 rfl rfl rfl rfl ?_ H
  simp only [AV.kills, AV.kill, c48, r48_0, r48_1, opn_z, opn_s, sel_z, sel_s, qCd_eq, qIf_true, qIf_false, qFn_eq, qBl_eq, qO_some, qRes_val, qHp_some, qPick_true, qPick_false, qG_tt, qG_ff, qG_tf, qG_ft, cellsK_some, qLd_ptr, qLd_vptr, qLdA_ptr, qLdA_vptr, qFa_ptr, qFa_vptr, qNc_ptr, qNc_vptr, qNc_fn, qNot_bool, qExt_tup, qCallV_fn, qLss_int, qLeq_int, qGtr_int, qGeq_int, qEql_int, qNeq_int, qAdd_int, qSub_int, qMul_int, qConvI_int, qLenL_sl, qLenL_hsl, qLenS_str, foldO, min2_int, max2_int, qSame_refl, Nat.zero_add, List.getElem?_cons_zero, List.getElem?_cons_succ, List.nil_append, List.cons_append, List.append_nil, one_bool, one_int, one_str, one_nilp, one_ptr, one_sl, one_hsl, one_map, one_fn, List.length_cons, List.length_nil, List.set_cons_zero, List.set_cons_succ, Nat.reduceLT, Nat.reduceAdd, qG_un, qResN_val, qCallVN_fn, AV.kill, AV.kills, Tk.kill, ep71]

/-! ### what a set of bytes begins with -/
def asS (p : Str) : List AV := (List.range 256).map fun c => .bool (p.any fun x => x.toNat == c)
theorem asS_len (p : Str) : (asS p).length = 256 := by simp [asS]
theorem z106_rep : z81 = List.replicate 256 (.bool false) := by kernel_rfl
theorem asS_nil : z81 = asS [] := by
  have : asS [] = List.replicate 256 (.bool false) := by
    apply List.ext_getElem?
    intro i
    simp only [asS, List.any_nil, List.getElem?_map, List.getElem?_replicate]
    by_cases h : i < 256
    · rw [List.getElem?_range h, if_pos h]; rfl
    · rw [List.getElem?_eq_none (by simpa using h), if_neg h]; rfl
  rw [this]
  exact z106_rep
theorem asS_get (p : Str) (c : UInt8) : (asS p)[c.toNat]? = some (.bool (p.contains c)) := by
  have hc : c.toNat < 256 := c.toNat_lt
  simp only [asS, List.getElem?_map, List.getElem?_range hc, Option.map_some, Option.some.injEq, AV.bool.injEq]
  rw [Bool.eq_iff_iff, List.any_eq_true, List.contains_iff_mem]
  constructor
  · rintro ⟨x, hx, h⟩
    have : x = c := UInt8.toNat_inj.1 (by simpa using h)
    rw [← this]; exact hx
  · intro h; exact ⟨c, h, by simp⟩
theorem asS_set (p : Str) (c : UInt8) : (asS p).set c.toNat (.bool true) = asS (p ++ [c]) := by
  apply List.ext_getElem?
  intro i
  simp only [asS, List.getElem?_set, List.getElem?_map, List.length_map, List.length_range]
  have hc : c.toNat < 256 := c.toNat_lt
  by_cases h : c.toNat = i
  · subst h
    rw [if_pos rfl, if_pos hc, List.getElem?_range hc]
    simp
  · rw [if_neg h]
    by_cases hi : i < 256
    · rw [List.getElem?_range hi]
      simp [h]
    · rw [List.getElem?_eq_none (by simpa using hi)]
      rfl
theorem asS_one (p : Str) : allOne (asS p) = true := by
  unfold allOne
  rw [List.all_eq_true]
  intro x hx
  obtain ⟨c, _, rfl⟩ := List.mem_map.1 hx
  rfl
theorem asS_free (p : Str) : AV.frees (AV.kills (asS p)) = true ∧ AV.kills (asS p) = asS p := by
  have h : AV.kills (asS p) = asS p := by
    rw [kills_map, asS, List.map_map]
    apply List.map_congr_left
    intro c _
    rfl
  refine ⟨?_, h⟩
  rw [h, frees_all]
  intro x hx
  obtain ⟨c, _, rfl⟩ := List.mem_map.1 hx
  rfl

theorem lt_i' {H : AH} [IsFn H] {i : Nat} {o : AO} (h : H.get i = some o) : i < H.nx := lt_i h

theorem ep90 (p : Str) (hp : ∀ c ∈ p, c.toNat < 128) (hl : p.length < 1000000) (H : AH) : EP 56 [.str p] H = some (.val (.tup [.agg (asS p), .bool true]) H) := by
  have hfr := asS_free p
  refine uo_form e56 xf56 rfl rfl rfl (by have h := hfr.1; rw [hfr.2] at h; simp only [AV.free, AV.frees, h]; rfl) ?_ H
  simp only [AV.kills, AV.kill]
  simp -implicitDefEqProofs only [c56, r56_0, r56_1, opn_z, opn_s, sel_z, sel_s, qCd_eq, qIf_true, qIf_false, qFn_eq, qBl_eq, qO_some, qRes_val, qHp_some, qPick_true, qPick_false, qG_tt, qG_ff, qG_tf, qG_ft, cellsK_some, qLd_ptr, qLd_vptr, qLdA_ptr, qLdA_vptr, qFa_ptr, qFa_vptr, qNc_ptr, qNc_vptr, qNc_fn, qNot_bool, qExt_tup, qCallV_fn, qLss_int, qLeq_int, qGtr_int, qGeq_int, qEql_int, qNeq_int, qAdd_int, qSub_int, qMul_int, qConvI_int, qLenL_sl, qLenL_hsl, qLenS_str, foldO, min2_int, max2_int, qSame_refl, Nat.zero_add, List.getElem?_cons_zero, List.getElem?_cons_succ, List.nil_append, List.cons_append, List.append_nil, one_bool, one_int, one_str, one_nilp, one_ptr, one_sl, one_hsl, one_map, one_fn, List.length_cons, List.length_nil, List.set_cons_zero, List.set_cons_succ, Nat.reduceLT, Nat.reduceAdd, qG_un, qResN_val, qCallVN_fn, AV.kill, AV.kills, Tk.kill, qNew_i, wr_ptr]
  have hn : (H0.nx : Nat) = 0 := rfl
  rw [hn]
  refine loop_inv (fun m fr H => ∃ (i : Nat) (x5 x9 x16 : AV), m = p.length - i ∧ i ≤ p.length ∧ fr = [.str p, .ptr 0 0, .bool false, .int .i64 (i : Int), x5, x9, x16] ∧ IsFn H ∧ H.get 0 = some (.cells (asS (p.take i)))) ?_ (m := p.length) ?_
  · rintro m fr H k ⟨i, x5, x9, x16, rfl, hi, rfl, hfn, hg⟩ hk
    rcases Nat.lt_or_ge i p.length with h | h
    · have h' : (i : Int) < (p.length : Int) := by omega
      have ix := fun k => qIx_str (R := Prop) (List.getElem?_eq_getElem h) .i64 k
      have h1 := hp p[i] (List.getElem_mem h)
      have h2 : ¬ ((128 : Int) ≤ (p[i].toNat : Int)) := by omega
      have hc : p[i].toNat < 256 := p[i].toNat_lt
      have ia := fun k => qIaA_ptr (R := Prop) .u8 k 256 1 0 0 p[i].toNat hc
      have st := fun k => qSt_1 (R := Prop) (v := .bool true) hg (o := p[i].toNat * 1) (by rw [asS_len]; omega) rfl k
      have hw := wrap_up i (by omega)
      simp -implicitDefEqProofs only [l56_5, r56_2, r56_3, r56_4, r56_5, r56_7, opn_z, opn_s, sel_z, sel_s, qCd_eq, qIf_true, qIf_false, qFn_eq, qBl_eq, qO_some, qRes_val, qHp_some, qPick_true, qPick_false, qG_tt, qG_ff, qG_tf, qG_ft, cellsK_some, qLd_ptr, qLd_vptr, qLdA_ptr, qLdA_vptr, qFa_ptr, qFa_vptr, qNc_ptr, qNc_vptr, qNc_fn, qNot_bool, qExt_tup, qCallV_fn, qLss_int, qLeq_int, qGtr_int, qGeq_int, qEql_int, qNeq_int, qAdd_int, qSub_int, qMul_int, qConvI_int, qLenL_sl, qLenL_hsl, qLenS_str, foldO, min2_int, max2_int, qSame_refl, Nat.zero_add, List.getElem?_cons_zero, List.getElem?_cons_succ, List.nil_append, List.cons_append, List.append_nil, one_bool, one_int, one_str, one_nilp, one_ptr, one_sl, one_hsl, one_map, one_fn, List.length_cons, List.length_nil, List.set_cons_zero, List.set_cons_succ, Nat.reduceLT, Nat.reduceAdd, qG_un, qResN_val, qCallVN_fn, AV.kill, AV.kills, Tk.kill, h', decide_true, ix, h2, decide_false, ia, st, hw]
      refine hk (p.length - (i + 1)) _ _ (by omega) ⟨i + 1, _, _, _, rfl, h, rfl, inferInstance, ?_⟩
      have hlt := lt_i hg
      rw [get_set_i hlt, if_pos rfl, Nat.mul_one, asS_set, take_succ' (List.getElem?_eq_getElem h)]
    · have h' : ¬ (i : Int) < (p.length : Int) := by omega
      have hi' : i = p.length := by omega
      subst hi'
      rw [List.take_length] at hg
      have ld := fun k => qLdA_whole (R := Prop) hg (asS_len p) k
      have st := fun k => qSt_whole (R := Prop) hg (asS_len p) (asS_len p) (asS_one p) k
      have ld2 := fun k => qLdA_whole (R := Prop) (H := H.set 0 (some (.cells (asS p)))) (i := 0) (by rw [get_set_i (lt_i hg), if_pos rfl]) (asS_len p) k
      simp -implicitDefEqProofs only [l56_5, r56_2, r56_8, opn_z, opn_s, sel_z, sel_s, qCd_eq, qIf_true, qIf_false, qFn_eq, qBl_eq, qO_some, qRes_val, qHp_some, qPick_true, qPick_false, qG_tt, qG_ff, qG_tf, qG_ft, cellsK_some, qLd_vptr, qLdA_vptr, qFa_ptr, qFa_vptr, qNc_ptr, qNc_vptr, qNc_fn, qNot_bool, qExt_tup, qCallV_fn, qLss_int, qLeq_int, qGtr_int, qGeq_int, qEql_int, qNeq_int, qAdd_int, qSub_int, qMul_int, qConvI_int, qLenL_sl, qLenL_hsl, qLenS_str, foldO, min2_int, max2_int, qSame_refl, Nat.zero_add, List.getElem?_cons_zero, List.getElem?_cons_succ, List.nil_append, List.cons_append, List.append_nil, one_bool, one_int, one_str, one_nilp, one_ptr, one_sl, one_hsl, one_map, one_fn, List.length_cons, List.length_nil, List.set_cons_zero, List.set_cons_succ, Nat.reduceLT, Nat.reduceAdd, qG_un, qResN_val, qCallVN_fn, h', decide_false, ld, st, qPtr_ptr, ld2]
      simp only [AV.kill, AV.kills, hfr.2]
  · exact ⟨0, _, _, _, rfl, by omega, rfl, inferInstance, by rw [List.take_zero, ← asS_nil]; exact get_push_at (H := H0) _⟩

theorem ep102 {H : AH} {i : Nat} {p : Str} (hg : H.get i = some (.cells (asS p))) (c : UInt8) : EP 71 [.ptr i 0, .int .u8 c.toNat] H = some (.val (.bool (p.contains c)) H) := by
  refine ao_form_eq e71 xf71 rfl rfl ?_
  have hc : c.toNat < 256 := c.toNat_lt
  have ia := fun k => qIaA_ptr (R := Prop) .u8 k 256 1 i 0 c.toNat hc
  have ld := fun k => ld1 (R := Prop) hg (c.toNat * 1) (.bool (p.contains c)) (by rw [Nat.mul_one]; exact asS_get p c) k
  simp -implicitDefEqProofs only [c71, r71_0, r71_1, opn_z, opn_s, sel_z, sel_s, qCd_eq, qIf_true, qIf_false, qFn_eq, qBl_eq, qO_some, qRes_val, qHp_some, qPick_true, qPick_false, qG_tt, qG_ff, qG_tf, qG_ft, cellsK_some, qLd_vptr, qLdA_vptr, qFa_ptr, qFa_vptr, qNc_ptr, qNc_vptr, qNc_fn, qNot_bool, qExt_tup, qCallV_fn, qLss_int, qLeq_int, qGtr_int, qGeq_int, qEql_int, qNeq_int, qAdd_int, qSub_int, qMul_int, qConvI_int, qLenL_sl, qLenL_hsl, qLenS_str, foldO, min2_int, max2_int, qSame_refl, Nat.zero_add, List.getElem?_cons_zero, List.getElem?_cons_succ, List.nil_append, List.cons_append, List.append_nil, one_bool, one_int, one_str, one_nilp, one_ptr, one_sl, one_hsl, one_map, one_fn, List.length_cons, List.length_nil, List.set_cons_zero, List.set_cons_succ, Nat.reduceLT, Nat.reduceAdd, qG_un, qResN_val, qCallVN_fn, ia, ld]
  exact ⟨trivial, trivial⟩

theorem ep91 {H : AH} {i : Nat} {p : Str} (hg : H.get i = some (.cells (asS p))) (s : Str) : EP 57 [.str s, .ptr i 0] H = some (.val (.str (s.dropWhile p.contains)) H) := by
  refine ao_form_eq e57 xf57 rfl rfl ?_
  simp -implicitDefEqProofs only [c57, r57_0, opn_z, opn_s, sel_z, sel_s, qCd_eq, qIf_true, qIf_false, qFn_eq, qBl_eq, qO_some, qRes_val, qHp_some, qPick_true, qPick_false, qG_tt, qG_ff, qG_tf, qG_ft, cellsK_some, qLd_ptr, qLd_vptr, qLdA_ptr, qLdA_vptr, qFa_ptr, qFa_vptr, qNc_ptr, qNc_vptr, qNc_fn, qNot_bool, qExt_tup, qCallV_fn, qLss_int, qLeq_int, qGtr_int, qGeq_int, qEql_int, qNeq_int, qAdd_int, qSub_int, qMul_int, qConvI_int, qLenL_sl, qLenL_hsl, qLenS_str, foldO, min2_int, max2_int, qSame_refl, Nat.zero_add, List.getElem?_cons_zero, List.getElem?_cons_succ, List.nil_append, List.cons_append, List.append_nil, one_bool, one_int, one_str, one_nilp, one_ptr, one_sl, one_hsl, one_map, one_fn, List.length_cons, List.length_nil, List.set_cons_zero, List.set_cons_succ, Nat.reduceLT, Nat.reduceAdd, qG_un, qResN_val, qCallVN_fn, AV.kill, AV.kills, Tk.kill]
  refine loop_inv (fun m fr H' => ∃ (t : Str) (x7 x12 : AV), m = t.length ∧ t.dropWhile p.contains = s.dropWhile p.contains ∧ fr = [.str t, .ptr i 0, .str [], x7, x12] ∧ H' = H) ?_ (m := s.length) ?_
  · rintro m fr H' k ⟨t, x7, x12, rfl, ht, rfl, rfl⟩ hk
    cases t with
    | nil =>
      have h0 : decide ((0 : Int) < ((0 : Nat) : Int)) = false := rfl
      simp -implicitDefEqProofs only [l57_5, r57_1, r57_4, opn_z, opn_s, sel_z, sel_s, qCd_eq, qIf_true, qIf_false, qFn_eq, qBl_eq, qO_some, qRes_val, qHp_some, qPick_true, qPick_false, qG_tt, qG_ff, qG_tf, qG_ft, cellsK_some, qLd_ptr, qLd_vptr, qLdA_ptr, qLdA_vptr, qFa_ptr, qFa_vptr, qNc_ptr, qNc_vptr, qNc_fn, qNot_bool, qExt_tup, qCallV_fn, qLss_int, qLeq_int, qGtr_int, qGeq_int, qEql_int, qNeq_int, qAdd_int, qSub_int, qMul_int, qConvI_int, qLenL_sl, qLenL_hsl, qLenS_str, foldO, min2_int, max2_int, qSame_refl, Nat.zero_add, List.getElem?_cons_zero, List.getElem?_cons_succ, List.nil_append, List.cons_append, List.append_nil, one_bool, one_int, one_str, one_nilp, one_ptr, one_sl, one_hsl, one_map, one_fn, List.length_cons, List.length_nil, List.set_cons_zero, List.set_cons_succ, Nat.reduceLT, Nat.reduceAdd, qG_un, qResN_val, qCallVN_fn, AV.kill, AV.kills, Tk.kill, h0]
      rw [← ht]
      exact ⟨rfl, trivial⟩
    | cons c t =>
      have h' : (0 : Int) < ((t.length + 1 : Nat) : Int) := by omega
      have hc := ep102 hg c
      cases hb : p.contains c with
      | true =>
        rw [hb] at hc
        simp -implicitDefEqProofs only [l57_5, r57_1, r57_2, r57_3, opn_z, opn_s, sel_z, sel_s, qCd_eq, qIf_true, qIf_false, qFn_eq, qBl_eq, qO_some, qRes_val, qHp_some, qPick_true, qPick_false, qG_tt, qG_ff, qG_tf, qG_ft, cellsK_some, qLd_ptr, qLd_vptr, qLdA_ptr, qLdA_vptr, qFa_ptr, qFa_vptr, qNc_ptr, qNc_vptr, qNc_fn, qNot_bool, qExt_tup, qCallV_fn, qLss_int, qLeq_int, qGtr_int, qGeq_int, qEql_int, qNeq_int, qAdd_int, qSub_int, qMul_int, qConvI_int, qLenL_sl, qLenL_hsl, qLenS_str, foldO, min2_int, max2_int, qSame_refl, Nat.zero_add, List.getElem?_cons_zero, List.getElem?_cons_succ, List.nil_append, List.cons_append, List.append_nil, one_bool, one_int, one_str, one_nilp, one_ptr, one_sl, one_hsl, one_map, one_fn, List.length_cons, List.length_nil, List.set_cons_zero, List.set_cons_succ, Nat.reduceLT, Nat.reduceAdd, qG_un, qResN_val, qCallVN_fn, AV.kill, AV.kills, Tk.kill, h', decide_true, qIx_0, hc, Bool.not_true, slcS_1]
        refine hk t.length _ _ (by simp) ⟨t, _, _, rfl, ?_, rfl, rfl⟩
        rw [← ht, List.dropWhile_cons, hb]; rfl
      | false =>
        rw [hb] at hc
        simp -implicitDefEqProofs only [l57_5, r57_1, r57_2, r57_4, opn_z, opn_s, sel_z, sel_s, qCd_eq, qIf_true, qIf_false, qFn_eq, qBl_eq, qO_some, qRes_val, qHp_some, qPick_true, qPick_false, qG_tt, qG_ff, qG_tf, qG_ft, cellsK_some, qLd_ptr, qLd_vptr, qLdA_ptr, qLdA_vptr, qFa_ptr, qFa_vptr, qNc_ptr, qNc_vptr, qNc_fn, qNot_bool, qExt_tup, qCallV_fn, qLss_int, qLeq_int, qGtr_int, qGeq_int, qEql_int, qNeq_int, qAdd_int, qSub_int, qMul_int, qConvI_int, qLenL_sl, qLenL_hsl, qLenS_str, foldO, min2_int, max2_int, qSame_refl, Nat.zero_add, List.getElem?_cons_zero, List.getElem?_cons_succ, List.nil_append, List.cons_append, List.append_nil, one_bool, one_int, one_str, one_nilp, one_ptr, one_sl, one_hsl, one_map, one_fn, List.length_cons, List.length_nil, List.set_cons_zero, List.set_cons_succ, Nat.reduceLT, Nat.reduceAdd, qG_un, qResN_val, qCallVN_fn, AV.kill, AV.kills, Tk.kill, h', decide_true, qIx_0, hc, Bool.not_false]
        rw [← ht, List.dropWhile_cons, hb]
        exact ⟨rfl, trivial⟩
  · exact ⟨s, _, _, rfl, rfl, rfl, rfl⟩

/-- strings.TrimLeft at two bytes or more below 128 -/
theorem ep70 (s : Str) (a b : UInt8) (p : Str) (hp : ∀ c ∈ a :: b :: p, c.toNat < 128) (hl : p.length < 100000) (H : AH) : EP 41 [.str s, .str (a :: b :: p)] H = some (.val (.str (s.dropWhile (a :: b :: p).contains)) H) := by
  refine uo_form e41 xf41 rfl rfl rfl rfl ?_ H
  simp only [AV.kills, AV.kill]
  cases s with
  | nil =>
    simp -implicitDefEqProofs only [c41, r41_0, r41_1, r41_2, opn_z, opn_s, sel_z, sel_s, qCd_eq, qIf_true, qIf_false, qFn_eq, qBl_eq, qO_some, qRes_val, qHp_some, qPick_true, qPick_false, qG_tt, qG_ff, qG_tf, qG_ft, cellsK_some, qLd_ptr, qLd_vptr, qLdA_ptr, qLdA_vptr, qFa_ptr, qFa_vptr, qNc_ptr, qNc_vptr, qNc_fn, qNot_bool, qExt_tup, qCallV_fn, qLss_int, qLeq_int, qGtr_int, qGeq_int, qEql_int, qNeq_int, qAdd_int, qSub_int, qMul_int, qConvI_int, qLenL_sl, qLenL_hsl, qLenS_str, foldO, min2_int, max2_int, qSame_refl, Nat.zero_add, List.getElem?_cons_zero, List.getElem?_cons_succ, List.nil_append, List.cons_append, List.append_nil, one_bool, one_int, one_str, one_nilp, one_ptr, one_sl, one_hsl, one_map, one_fn, List.length_cons, List.length_nil, List.set_cons_zero, List.set_cons_succ, Nat.reduceLT, Nat.reduceAdd, qG_un, qResN_val, qCallVN_fn, AV.kill, AV.kills, Tk.kill, qEql_str, decide_true]
    rfl
  | cons c s =>
    have n1 : decide (c :: s = []) = false := by simp
    have n2 : decide (a :: b :: p = []) = false := by simp
    have n3 : (((p.length + 1 + 1 : Nat) : Int) == 1) = false := by simp; omega
    obtain ⟨q, Ha, Hb, x1, x2, x3, x4, x5, x6⟩ := boxK (R := Prop) (Hs := H0) (H := H0) (.refl _) z81 (asS (a :: b :: p)) (n := 256) (by rw [asS_nil, asS_len]) (asS_len _) (asS_one _)
    haveI := x5.fn
    simp -implicitDefEqProofs only [c41, r41_0, r41_1, r41_3, r41_5, r41_6, r41_7, opn_z, opn_s, sel_z, sel_s, qCd_eq, qIf_true, qIf_false, qFn_eq, qBl_eq, qO_some, qRes_val, qHp_some, qPick_true, qPick_false, qG_tt, qG_ff, qG_tf, qG_ft, cellsK_some, qLd_ptr, qLd_vptr, qLdA_ptr, qLdA_vptr, qFa_ptr, qFa_vptr, qNc_ptr, qNc_vptr, qNc_fn, qNot_bool, qExt_tup, qCallV_fn, qLss_int, qLeq_int, qGtr_int, qGeq_int, qEql_int, qNeq_int, qAdd_int, qSub_int, qMul_int, qConvI_int, qLenL_sl, qLenL_hsl, qLenS_str, foldO, min2_int, max2_int, qSame_refl, Nat.zero_add, List.getElem?_cons_zero, List.getElem?_cons_succ, List.nil_append, List.cons_append, List.append_nil, one_bool, one_int, one_str, one_nilp, one_ptr, one_sl, one_hsl, one_map, one_fn, List.length_cons, List.length_nil, List.set_cons_zero, List.set_cons_succ, Nat.reduceLT, Nat.reduceAdd, qG_un, qResN_val, qCallVN_fn, AV.kill, AV.kills, Tk.kill, qEql_str, n1, n2, n3, ep90 (a :: b :: p) hp (by simp; omega), x1, x2, ep91 x3]

def isD (c : UInt8) : Bool := decide (48 ≤ c.toNat) && decide (c.toNat ≤ 57)
/-- how many digits it begins with -/
def dg (s : Str) : Nat := (s.takeWhile isD).length
theorem digs (c : UInt8) : [48, 49, 50, 51, 52, 53, 54, 55, 56, 57].contains c = isD c := by
  rw [Bool.eq_iff_iff]
  simp only [List.contains_iff_mem, List.mem_cons, List.not_mem_nil, or_false, isD, Bool.and_eq_true, decide_eq_true_eq, ← UInt8.toNat_inj]
  have e : ∀ n : Nat, n < 256 → (UInt8.ofNat n).toNat = n := fun n h => by simp [UInt8.toNat_ofNat']; omega
  show (c.toNat = 48 ∨ c.toNat = 49 ∨ c.toNat = 50 ∨ c.toNat = 51 ∨ c.toNat = 52 ∨ c.toNat = 53 ∨ c.toNat = 54 ∨ c.toNat = 55 ∨ c.toNat = 56 ∨ c.toNat = 57) ↔ _
  omega
theorem dg_le (s : Str) : dg s ≤ s.length := by
  unfold dg
  induction s with
  | nil => simp
  | cons a s ih =>
    rw [List.takeWhile_cons]
    cases isD a <;> simp [ih]
theorem dg_drop (s : Str) : s.dropWhile isD = s.drop (dg s) := by
  unfold dg
  induction s with
  | nil => rfl
  | cons a s ih =>
    rw [List.dropWhile_cons, List.takeWhile_cons]
    cases isD a <;> simp [ih]

theorem ep41 (s : Str) (hl : s.length < 1000000000000) (H : AH) : EP 70 [.str s] H = some (.val (.int .i64 (dg s : Int)) H) := by
  refine uo_form e70 xf70 rfl rfl rfl rfl ?_ H
  simp only [AV.kills, AV.kill]
  have ht := fun H => ep70 s 48 49 [50, 51, 52, 53, 54, 55, 56, 57] (by decide) (by decide) H
  have hd : s.dropWhile [48, 49, 50, 51, 52, 53, 54, 55, 56, 57].contains = s.drop (dg s) := by
    rw [← dg_drop]
    congr 1
    funext c
    exact digs c
  rw [hd] at ht
  have hle := dg_le s
  have hw : IntKind.i64.wrap ((s.length : Int) - ((s.drop (dg s)).length : Int)) = (dg s : Int) := by
    rw [i64_in' (by simp; omega)]
    simp; omega
  simp -implicitDefEqProofs only [c70, r70_0, r70_1, opn_z, opn_s, sel_z, sel_s, qCd_eq, qIf_true, qIf_false, qFn_eq, qBl_eq, qO_some, qRes_val, qHp_some, qPick_true, qPick_false, qG_tt, qG_ff, qG_tf, qG_ft, cellsK_some, qLd_ptr, qLd_vptr, qLdA_ptr, qLdA_vptr, qFa_ptr, qFa_vptr, qNc_ptr, qNc_vptr, qNc_fn, qNot_bool, qExt_tup, qCallV_fn, qLss_int, qLeq_int, qGtr_int, qGeq_int, qEql_int, qNeq_int, qAdd_int, qSub_int, qMul_int, qConvI_int, qLenL_sl, qLenL_hsl, qLenS_str, foldO, min2_int, max2_int, qSame_refl, Nat.zero_add, List.getElem?_cons_zero, List.getElem?_cons_succ, List.nil_append, List.cons_append, List.append_nil, one_bool, one_int, one_str, one_nilp, one_ptr, one_sl, one_hsl, one_map, one_fn, List.length_cons, List.length_nil, List.set_cons_zero, List.set_cons_succ, Nat.reduceLT, Nat.reduceAdd, qG_un, qResN_val, qCallVN_fn, AV.kill, AV.kills, Tk.kill, ht, hw]
end T
set_option linter.unusedVariables false
set_option linter.unusedSimpArgs false
set_option maxRecDepth 10000
namespace T
open Go Go.Aes Go.Proofs

/-! ### a byte in a text -/
theorem ib_ge : ∀ (s : Str) (c : UInt8), -1 ≤ Lib.indexByte s c ∧ (0 ≤ Lib.indexByte s c ↔ s.contains c = true)
  | [], c => by simp [Lib.indexByte]
  | b :: l, c => by
    have ih := ib_ge l c
    simp only [Lib.indexByte, List.contains_cons, Bool.or_eq_true]
    by_cases h : b == c
    · have hc : (c == b) = true := by rw [beq_iff_eq] at h ⊢; exact h.symm
      rw [if_pos h]
      exact ⟨by omega, by simp [hc]⟩
    · have hc : (c == b) = false := by
        cases hx : c == b with
        | false => rfl
        | true => rw [beq_iff_eq] at hx; subst hx; simp at h
      rw [if_neg h, hc]
      simp only [Bool.false_eq_true, false_or]
      by_cases h2 : Lib.indexByte l c == -1
      · rw [if_pos h2]
        have h3 : Lib.indexByte l c = -1 := by simpa using h2
        have h4 : ¬ l.contains c = true := fun e => by have := ih.2.2 e; omega
        exact ⟨by omega, ⟨fun e => by omega, fun e => absurd e h4⟩⟩
      · rw [if_neg h2]
        have h3 : Lib.indexByte l c ≠ -1 := by simpa using h2
        have h5 : 0 ≤ Lib.indexByte l c := by have := ih.1; omega
        exact ⟨by omega, ⟨fun _ => ih.2.1 h5, fun _ => by omega⟩⟩
theorem ib_dec (s : Str) (c : UInt8) : decide ((0 : Int) ≤ Lib.indexByte s c) = s.contains c := by
  rw [Bool.eq_iff_iff, decide_eq_true_eq]
  exact (ib_ge s c).2
theorem ep43 (s : Str) (c : UInt8) (H : AH) : EP 53 [.str s, .int .u8 c.toNat] H = some (.val (.int .i64 (Lib.indexByte s c)) H) := by
  refine evO_O rfl ?_
  have hc : (((c.toNat : Nat) : Int)).toNat.toUInt8 = c := by simp
  have : OF2 53 [.str s, .int .u8 c.toNat] H = some (.val (.int .i64 (Lib.indexByte s (((c.toNat : Nat) : Int)).toNat.toUInt8)) H) := rfl
  rw [this, hc]

/-! ### numbers -/
def fracN (s : Str) : Option Str :=
  match s with
  | c :: t => if c = 46 then (if dg t = 0 then none else some (t.drop (dg t))) else some s
  | [] => some []
def sgnN (t : Str) : Str :=
  match t with
  | d :: v => if [43, 45].contains d then v else t
  | [] => []
def expN (s : Str) : Option Str :=
  match s with
  | c :: t => if [101, 69].contains c then (if dg (sgnN t) = 0 then none else some ((sgnN t).drop (dg (sgnN t)))) else some s
  | [] => some []
def num (s : Str) : Bool × Bool :=
  if 40 < s.length then (false, false) else
  let s1 := cutP s [45]
  if dg s1 = 0 ∨ (1 < dg s1 ∧ s1.head? = some 48) then (false, false) else
  let s2 := s1.drop (dg s1)
  match fracN s2 with
  | none => (false, false)
  | some s3 => match expN s3 with
    | none => (false, false)
    | some s4 => (decide (s2 = []) && decide (s4 = []), decide (s4 = []))

theorem dec_nil_cons (c : UInt8) (s : Str) : decide (c :: s = []) = false := by simp
theorem dec_nil : decide (([] : Str) = []) = true := by simp

theorem tail15 (kr : KT Prop) (s3 : Str) (w : Bool) (hl : s3.length < 1000)
    (hk : ∀ (x0 x4 x5 x6 x7 x8 x11 x26 x37 x41 x52 x62 x68 : AV), kr [x0, .bool (match expN s3 with | none => false | some s4 => w && decide (s4 = [])), .bool (match expN s3 with | none => false | some s4 => decide (s4 = [])), x4, x5, x6, x7, x8, x11, x26, x37, x41, x52, x62, x68] H0) (x3 x4 x5 x6 x7 x8 x11 x26 x37 x41 x52 x62 x68 : AV) :
    (r54_15 EP (qCd (sel 12) (fun k1 => (r54_16 (r54_17 EP (qCd (sel 13) (fun k3 => (r54_18 k3)) (fun k3 => k3) (r54_19 EP (r54_20 (qCd (sel 14) (fun _ => (r54_21 kr)) (fun k2 => k2) (r54_22 k1)))))))) (fun k1 => k1) (r54_23 kr))) [.str s3, .bool w, x3, x4, x5, x6, x7, x8, x11, x26, x37, x41, x52, x62, x68] H0 := by
  have fin : ∀ (s4 : Str), expN s3 = some s4 → ∀ (x3 x4 x5 x6 x7 x8 x11 x26 x37 x41 x52 x62 x68 : AV), r54_23 kr [.str s4, .bool w, x3, x4, x5, x6, x7, x8, x11, x26, x37, x41, x52, x62, x68] H0 := by
    intro s4 h x3 x4 x5 x6 x7 x8 x11 x26 x37 x41 x52 x62 x68
    rw [h] at hk
    cases w with
    | true =>
      simp -implicitDefEqProofs only [r54_23, opn_z, opn_s, sel_z, sel_s, qCd_eq, qIf_true, qIf_false, qFn_eq, qBl_eq, qO_some, qRes_val, qHp_some, qPick_true, qPick_false, qG_tt, qG_ff, qG_tf, qG_ft, cellsK_some, qLd_ptr, qLd_vptr, qLdA_ptr, qLdA_vptr, qFa_ptr, qFa_vptr, qNc_ptr, qNc_vptr, qNc_fn, qNot_bool, qExt_tup, qCallV_fn, qLss_int, qLeq_int, qGtr_int, qGeq_int, qEql_int, qNeq_int, qAdd_int, qSub_int, qMul_int, qConvI_int, qLenL_sl, qLenL_hsl, qLenS_str, foldO, min2_int, max2_int, qSame_refl, Nat.zero_add, List.getElem?_cons_zero, List.getElem?_cons_succ, List.nil_append, List.cons_append, List.append_nil, one_bool, one_int, one_str, one_nilp, one_ptr, one_sl, one_hsl, one_map, one_fn, List.length_cons, List.length_nil, List.set_cons_zero, List.set_cons_succ, Nat.reduceLT, Nat.reduceAdd, qG_un, qResN_val, qCallVN_fn, qEql_str]
      simpa using hk _ _ _ _ _ _ _ _ _ _ _ _ _
    | false =>
      simp -implicitDefEqProofs only [r54_23, opn_z, opn_s, sel_z, sel_s, qCd_eq, qIf_true, qIf_false, qFn_eq, qBl_eq, qO_some, qRes_val, qHp_some, qPick_true, qPick_false, qG_tt, qG_ff, qG_tf, qG_ft, cellsK_some, qLd_ptr, qLd_vptr, qLdA_ptr, qLdA_vptr, qFa_ptr, qFa_vptr, qNc_ptr, qNc_vptr, qNc_fn, qNot_bool, qExt_tup, qCallV_fn, qLss_int, qLeq_int, qGtr_int, qGeq_int, qEql_int, qNeq_int, qAdd_int, qSub_int, qMul_int, qConvI_int, qLenL_sl, qLenL_hsl, qLenS_str, foldO, min2_int, max2_int, qSame_refl, Nat.zero_add, List.getElem?_cons_zero, List.getElem?_cons_succ, List.nil_append, List.cons_append, List.append_nil, one_bool, one_int, one_str, one_nilp, one_ptr, one_sl, one_hsl, one_map, one_fn, List.length_cons, List.length_nil, List.set_cons_zero, List.set_cons_succ, Nat.reduceLT, Nat.reduceAdd, qG_un, qResN_val, qCallVN_fn, qEql_str]
      simpa using hk _ _ _ _ _ _ _ _ _ _ _ _ _
  cases s3 with
  | nil =>
    simp -implicitDefEqProofs only [r54_15, opn_z, opn_s, sel_z, sel_s, qCd_eq, qIf_true, qIf_false, qFn_eq, qBl_eq, qO_some, qRes_val, qHp_some, qPick_true, qPick_false, qG_tt, qG_ff, qG_tf, qG_ft, cellsK_some, qLd_ptr, qLd_vptr, qLdA_ptr, qLdA_vptr, qFa_ptr, qFa_vptr, qNc_ptr, qNc_vptr, qNc_fn, qNot_bool, qExt_tup, qCallV_fn, qLss_int, qLeq_int, qGtr_int, qGeq_int, qEql_int, qNeq_int, qAdd_int, qSub_int, qMul_int, qConvI_int, qLenL_sl, qLenL_hsl, qLenS_str, foldO, min2_int, max2_int, qSame_refl, Nat.zero_add, List.getElem?_cons_zero, List.getElem?_cons_succ, List.nil_append, List.cons_append, List.append_nil, one_bool, one_int, one_str, one_nilp, one_ptr, one_sl, one_hsl, one_map, one_fn, List.length_cons, List.length_nil, List.set_cons_zero, List.set_cons_succ, Nat.reduceLT, Nat.reduceAdd, qG_un, qResN_val, qCallVN_fn, qNeq_str, dec_nil, Bool.not_true]
    apply fin [] rfl
    exact Aes.undef
  | cons c t =>
    cases he : ([101, 69] : Str).contains c with
    | false =>
      simp -implicitDefEqProofs only [r54_15, opn_z, opn_s, sel_z, sel_s, qCd_eq, qIf_true, qIf_false, qFn_eq, qBl_eq, qO_some, qRes_val, qHp_some, qPick_true, qPick_false, qG_tt, qG_ff, qG_tf, qG_ft, cellsK_some, qLd_ptr, qLd_vptr, qLdA_ptr, qLdA_vptr, qFa_ptr, qFa_vptr, qNc_ptr, qNc_vptr, qNc_fn, qNot_bool, qExt_tup, qCallV_fn, qLss_int, qLeq_int, qGtr_int, qGeq_int, qEql_int, qNeq_int, qAdd_int, qSub_int, qMul_int, qConvI_int, qLenL_sl, qLenL_hsl, qLenS_str, foldO, min2_int, max2_int, qSame_refl, Nat.zero_add, List.getElem?_cons_zero, List.getElem?_cons_succ, List.nil_append, List.cons_append, List.append_nil, one_bool, one_int, one_str, one_nilp, one_ptr, one_sl, one_hsl, one_map, one_fn, List.length_cons, List.length_nil, List.set_cons_zero, List.set_cons_succ, Nat.reduceLT, Nat.reduceAdd, qG_un, qResN_val, qCallVN_fn, qNeq_str, dec_nil_cons, Bool.not_false, qIx_0, ep43, ib_dec, he]
      exact fin (c :: t) (by show (if _ = true then _ else _) = _; rw [he]; rfl) _ _ _ _ _ _ _ _ _ _ _ _ _
    | true =>
      have mid : ∀ (x3 x4 x5 x6 x7 x8 x11 x26 x37 x41 x52 x62 x68 : AV), (r54_19 EP (r54_20 (qCd (sel 14) (fun _ => (r54_21 kr)) (fun k2 => k2) (r54_22 (r54_23 kr))))) [.str (sgnN t), .bool w, x3, x4, x5, x6, x7, x8, x11, x26, x37, x41, x52, x62, x68] H0 := by
        intro x3 x4 x5 x6 x7 x8 x11 x26 x37 x41 x52 x62 x68
        have hu : (sgnN t).length < 1000 := by
          cases t with
          | nil => simp [sgnN]
          | cons d v => simp only [sgnN]; split <;> simp at hl ⊢ <;> omega
        by_cases hz : dg (sgnN t) = 0
        · have h0 : (((dg (sgnN t) : Nat) : Int) == 0) = true := by simp [hz]
          have hn : expN (c :: t) = none := by
            show (if _ = true then (if _ then _ else _) else _) = _
            rw [if_pos he, if_pos hz]
          rw [hn] at hk
          simp -implicitDefEqProofs only [r54_19, r54_20, r54_21, opn_z, opn_s, sel_z, sel_s, qCd_eq, qIf_true, qIf_false, qFn_eq, qBl_eq, qO_some, qRes_val, qHp_some, qPick_true, qPick_false, qG_tt, qG_ff, qG_tf, qG_ft, cellsK_some, qLd_ptr, qLd_vptr, qLdA_ptr, qLdA_vptr, qFa_ptr, qFa_vptr, qNc_ptr, qNc_vptr, qNc_fn, qNot_bool, qExt_tup, qCallV_fn, qLss_int, qLeq_int, qGtr_int, qGeq_int, qEql_int, qNeq_int, qAdd_int, qSub_int, qMul_int, qConvI_int, qLenL_sl, qLenL_hsl, qLenS_str, foldO, min2_int, max2_int, qSame_refl, Nat.zero_add, List.getElem?_cons_zero, List.getElem?_cons_succ, List.nil_append, List.cons_append, List.append_nil, one_bool, one_int, one_str, one_nilp, one_ptr, one_sl, one_hsl, one_map, one_fn, List.length_cons, List.length_nil, List.set_cons_zero, List.set_cons_succ, Nat.reduceLT, Nat.reduceAdd, qG_un, qResN_val, qCallVN_fn, ep41 _ (show (sgnN t).length < 1000000000000 by omega), h0]
          exact hk _ _ _ _ _ _ _ _ _ _ _ _ _
        · have h0 : (((dg (sgnN t) : Nat) : Int) == 0) = false := by simp [hz]
          simp -implicitDefEqProofs only [r54_19, r54_20, r54_22, opn_z, opn_s, sel_z, sel_s, qCd_eq, qIf_true, qIf_false, qFn_eq, qBl_eq, qO_some, qRes_val, qHp_some, qPick_true, qPick_false, qG_tt, qG_ff, qG_tf, qG_ft, cellsK_some, qLd_ptr, qLd_vptr, qLdA_ptr, qLdA_vptr, qFa_ptr, qFa_vptr, qNc_ptr, qNc_vptr, qNc_fn, qNot_bool, qExt_tup, qCallV_fn, qLss_int, qLeq_int, qGtr_int, qGeq_int, qEql_int, qNeq_int, qAdd_int, qSub_int, qMul_int, qConvI_int, qLenL_sl, qLenL_hsl, qLenS_str, foldO, min2_int, max2_int, qSame_refl, Nat.zero_add, List.getElem?_cons_zero, List.getElem?_cons_succ, List.nil_append, List.cons_append, List.append_nil, one_bool, one_int, one_str, one_nilp, one_ptr, one_sl, one_hsl, one_map, one_fn, List.length_cons, List.length_nil, List.set_cons_zero, List.set_cons_succ, Nat.reduceLT, Nat.reduceAdd, qG_un, qResN_val, qCallVN_fn, ep41 _ (show (sgnN t).length < 1000000000000 by omega), h0, slcS_lo _ _ (dg_le (sgnN t))]
          exact fin _ (by show (if _ = true then (if _ then _ else _) else _) = _; rw [if_pos he, if_neg hz]) _ _ _ _ _ _ _ _ _ _ _ _ _
      cases t with
      | nil =>
        simp -implicitDefEqProofs only [r54_15, r54_16, r54_17, opn_z, opn_s, sel_z, sel_s, qCd_eq, qIf_true, qIf_false, qFn_eq, qBl_eq, qO_some, qRes_val, qHp_some, qPick_true, qPick_false, qG_tt, qG_ff, qG_tf, qG_ft, cellsK_some, qLd_ptr, qLd_vptr, qLdA_ptr, qLdA_vptr, qFa_ptr, qFa_vptr, qNc_ptr, qNc_vptr, qNc_fn, qNot_bool, qExt_tup, qCallV_fn, qLss_int, qLeq_int, qGtr_int, qGeq_int, qEql_int, qNeq_int, qAdd_int, qSub_int, qMul_int, qConvI_int, qLenL_sl, qLenL_hsl, qLenS_str, foldO, min2_int, max2_int, qSame_refl, Nat.zero_add, List.getElem?_cons_zero, List.getElem?_cons_succ, List.nil_append, List.cons_append, List.append_nil, one_bool, one_int, one_str, one_nilp, one_ptr, one_sl, one_hsl, one_map, one_fn, List.length_cons, List.length_nil, List.set_cons_zero, List.set_cons_succ, Nat.reduceLT, Nat.reduceAdd, qG_un, qResN_val, qCallVN_fn, qNeq_str, dec_nil_cons, dec_nil, Bool.not_false, Bool.not_true, qIx_0, ep43, ib_dec, he, slcS_1]
        (apply mid <;> exact Aes.undef)
      | cons d v =>
        cases hs : ([43, 45] : Str).contains d with
        | true =>
          have e : sgnN (d :: v) = v := if_pos hs
          rw [e] at mid
          simp -implicitDefEqProofs only [r54_15, r54_16, r54_17, r54_18, opn_z, opn_s, sel_z, sel_s, qCd_eq, qIf_true, qIf_false, qFn_eq, qBl_eq, qO_some, qRes_val, qHp_some, qPick_true, qPick_false, qG_tt, qG_ff, qG_tf, qG_ft, cellsK_some, qLd_ptr, qLd_vptr, qLdA_ptr, qLdA_vptr, qFa_ptr, qFa_vptr, qNc_ptr, qNc_vptr, qNc_fn, qNot_bool, qExt_tup, qCallV_fn, qLss_int, qLeq_int, qGtr_int, qGeq_int, qEql_int, qNeq_int, qAdd_int, qSub_int, qMul_int, qConvI_int, qLenL_sl, qLenL_hsl, qLenS_str, foldO, min2_int, max2_int, qSame_refl, Nat.zero_add, List.getElem?_cons_zero, List.getElem?_cons_succ, List.nil_append, List.cons_append, List.append_nil, one_bool, one_int, one_str, one_nilp, one_ptr, one_sl, one_hsl, one_map, one_fn, List.length_cons, List.length_nil, List.set_cons_zero, List.set_cons_succ, Nat.reduceLT, Nat.reduceAdd, qG_un, qResN_val, qCallVN_fn, qNeq_str, dec_nil_cons, Bool.not_false, qIx_0, ep43, ib_dec, he, hs, slcS_1]
          (apply mid <;> exact Aes.undef)
        | false =>
          have e : sgnN (d :: v) = d :: v := if_neg (by rw [hs]; simp)
          rw [e] at mid
          simp -implicitDefEqProofs only [r54_15, r54_16, r54_17, opn_z, opn_s, sel_z, sel_s, qCd_eq, qIf_true, qIf_false, qFn_eq, qBl_eq, qO_some, qRes_val, qHp_some, qPick_true, qPick_false, qG_tt, qG_ff, qG_tf, qG_ft, cellsK_some, qLd_ptr, qLd_vptr, qLdA_ptr, qLdA_vptr, qFa_ptr, qFa_vptr, qNc_ptr, qNc_vptr, qNc_fn, qNot_bool, qExt_tup, qCallV_fn, qLss_int, qLeq_int, qGtr_int, qGeq_int, qEql_int, qNeq_int, qAdd_int, qSub_int, qMul_int, qConvI_int, qLenL_sl, qLenL_hsl, qLenS_str, foldO, min2_int, max2_int, qSame_refl, Nat.zero_add, List.getElem?_cons_zero, List.getElem?_cons_succ, List.nil_append, List.cons_append, List.append_nil, one_bool, one_int, one_str, one_nilp, one_ptr, one_sl, one_hsl, one_map, one_fn, List.length_cons, List.length_nil, List.set_cons_zero, List.set_cons_succ, Nat.reduceLT, Nat.reduceAdd, qG_un, qResN_val, qCallVN_fn, qNeq_str, dec_nil_cons, Bool.not_false, qIx_0, ep43, ib_dec, he, hs, slcS_1]
          (apply mid <;> exact Aes.undef)

theorem dg_cons {c : UInt8} {s : Str} : dg (c :: s) = if isD c then dg s + 1 else 0 := by
  unfold dg
  rw [List.takeWhile_cons]
  cases isD c <;> simp

theorem cutP_len (s p : Str) : (cutP s p).length ≤ s.length := by
  unfold cutP
  split <;> simp

theorem ep15 (s : Str) (hl : s.length < 1000000000000) (H : AH) : EP 54 [.str s] H = some (.val (.tup [.bool (num s).1, .bool (num s).2]) H) := by
  refine uo_form e54 xf54 rfl rfl rfl rfl ?_ H
  simp only [AV.kills, AV.kill]
  by_cases h40 : 40 < s.length
  · have h' : (40 : Int) < (s.length : Int) := by omega
    have hn : num s = (false, false) := by simp [num, h40]
    simp -implicitDefEqProofs only [c54, r54_0, r54_1, r54_2, opn_z, opn_s, sel_z, sel_s, qCd_eq, qIf_true, qIf_false, qFn_eq, qBl_eq, qO_some, qRes_val, qHp_some, qPick_true, qPick_false, qG_tt, qG_ff, qG_tf, qG_ft, cellsK_some, qLd_ptr, qLd_vptr, qLdA_ptr, qLdA_vptr, qFa_ptr, qFa_vptr, qNc_ptr, qNc_vptr, qNc_fn, qNot_bool, qExt_tup, qCallV_fn, qLss_int, qLeq_int, qGtr_int, qGeq_int, qEql_int, qNeq_int, qAdd_int, qSub_int, qMul_int, qConvI_int, qLenL_sl, qLenL_hsl, qLenS_str, foldO, min2_int, max2_int, qSame_refl, Nat.zero_add, List.getElem?_cons_zero, List.getElem?_cons_succ, List.nil_append, List.cons_append, List.append_nil, one_bool, one_int, one_str, one_nilp, one_ptr, one_sl, one_hsl, one_map, one_fn, List.length_cons, List.length_nil, List.set_cons_zero, List.set_cons_succ, Nat.reduceLT, Nat.reduceAdd, qG_un, qResN_val, qCallVN_fn, AV.kill, AV.kills, Tk.kill, h', decide_true, hn]
  have h' : ¬ (40 : Int) < (s.length : Int) := by omega
  have hle := cutP_len s [45]
  generalize hs1 : cutP s [45] = s1 at hle
  have e69 := fun H => ep40 s [45] H
  rw [hs1] at e69
  have e70 := fun H => ep41 s1 (by omega) H
  simp -implicitDefEqProofs only [c54, r54_0, r54_1, r54_3, r54_4, opn_z, opn_s, sel_z, sel_s, qCd_eq, qIf_true, qIf_false, qFn_eq, qBl_eq, qO_some, qRes_val, qHp_some, qPick_true, qPick_false, qG_tt, qG_ff, qG_tf, qG_ft, cellsK_some, qLd_ptr, qLd_vptr, qLdA_ptr, qLdA_vptr, qFa_ptr, qFa_vptr, qNc_ptr, qNc_vptr, qNc_fn, qNot_bool, qExt_tup, qCallV_fn, qLss_int, qLeq_int, qGtr_int, qGeq_int, qEql_int, qNeq_int, qAdd_int, qSub_int, qMul_int, qConvI_int, qLenL_sl, qLenL_hsl, qLenS_str, foldO, min2_int, max2_int, qSame_refl, Nat.zero_add, List.getElem?_cons_zero, List.getElem?_cons_succ, List.nil_append, List.cons_append, List.append_nil, one_bool, one_int, one_str, one_nilp, one_ptr, one_sl, one_hsl, one_map, one_fn, List.length_cons, List.length_nil, List.set_cons_zero, List.set_cons_succ, Nat.reduceLT, Nat.reduceAdd, qG_un, qResN_val, qCallVN_fn, h', decide_false, e69, e70]
  by_cases hz : dg s1 = 0
  · have hn : num s = (false, false) := by simp [num, h40, hs1, hz]
    have z1 : (((dg s1 : Nat) : Int) == 0) = true := by simp [hz]
    simp -implicitDefEqProofs only [r54_5, r54_6, opn_z, opn_s, sel_z, sel_s, qCd_eq, qIf_true, qIf_false, qFn_eq, qBl_eq, qO_some, qRes_val, qHp_some, qPick_true, qPick_false, qG_tt, qG_ff, qG_tf, qG_ft, cellsK_some, qLd_ptr, qLd_vptr, qLdA_ptr, qLdA_vptr, qFa_ptr, qFa_vptr, qNc_ptr, qNc_vptr, qNc_fn, qNot_bool, qExt_tup, qCallV_fn, qLss_int, qLeq_int, qGtr_int, qGeq_int, qEql_int, qNeq_int, qAdd_int, qSub_int, qMul_int, qConvI_int, qLenL_sl, qLenL_hsl, qLenS_str, foldO, min2_int, max2_int, qSame_refl, Nat.zero_add, List.getElem?_cons_zero, List.getElem?_cons_succ, List.nil_append, List.cons_append, List.append_nil, one_bool, one_int, one_str, one_nilp, one_ptr, one_sl, one_hsl, one_map, one_fn, List.length_cons, List.length_nil, List.set_cons_zero, List.set_cons_succ, Nat.reduceLT, Nat.reduceAdd, qG_un, qResN_val, qCallVN_fn, AV.kill, AV.kills, Tk.kill, z1, hn]
  have z1 : (((dg s1 : Nat) : Int) == 0) = false := by simp [hz]
  cases s1 with
  | nil => exact absurd rfl hz
  | cons c t =>
  have goOn : ¬ (dg (c :: t) = 0 ∨ (1 < dg (c :: t) ∧ (c :: t).head? = some 48)) → ∀ (x5 x6 x7 x8 x11 x26 x37 x41 x52 x62 x68 : AV),
      (r54_7 (r54_8 (r54_9 EP (r54_10 (qCd (sel 10) (fun k4 => (r54_11 EP (r54_12 (qCd (sel 11) (fun _ => (r54_13 (fun fr H => (AV.tup [sel 1 fr, sel 2 fr]).kill = .tup [.bool (num s).1, .bool (num s).2]))) (fun k5 => k5) (r54_14 k4))))) (fun k4 => k4)
        (r54_15 EP (qCd (sel 12) (fun k1 => (r54_16 (r54_17 EP (qCd (sel 13) (fun k3 => (r54_18 k3)) (fun k3 => k3) (r54_19 EP (r54_20 (qCd (sel 14) (fun _ => (r54_21 (fun fr H => (AV.tup [sel 1 fr, sel 2 fr]).kill = .tup [.bool (num s).1, .bool (num s).2]))) (fun k2 => k2) (r54_22 k1)))))))) (fun k1 => k1)
        (r54_23 (fun fr H => (AV.tup [sel 1 fr, sel 2 fr]).kill = .tup [.bool (num s).1, .bool (num s).2]))))))))) [.str (c :: t), .bool false, .bool false, .int .i64 (dg (c :: t) : Int), x5, x6, x7, x8, x11, x26, x37, x41, x52, x62, x68] H0 := by
    intro hc x5 x6 x7 x8 x11 x26 x37 x41 x52 x62 x68
    have hd := dg_le (c :: t)
    generalize hs2 : (c :: t).drop (dg (c :: t)) = s2
    have hl2 : s2.length ≤ 40 := by rw [← hs2]; simp at hle ⊢; omega
    have sl := fun k => slcS_lo (c :: t) (dg (c :: t)) hd k
    rw [hs2] at sl
    have hnum : num s = match fracN s2 with
      | none => (false, false)
      | some s3 => match expN s3 with
        | none => (false, false)
        | some s4 => (decide (s2 = []) && decide (s4 = []), decide (s4 = [])) := by
      simp only [num, if_neg h40, hs1, if_neg hc, hs2]
    cases s2 with
    | nil =>
      have hnm : num s = (true, true) := by rw [hnum]; rfl
      have e48 : ∀ H, EP 48 [.str [], .str [46]] H = some (.val (.tup [.str [], .bool false]) H) := fun H => ep42 [] [46] H
      simp -implicitDefEqProofs only [r54_7, r54_8, r54_9, r54_10, opn_z, opn_s, sel_z, sel_s, qCd_eq, qIf_true, qIf_false, qFn_eq, qBl_eq, qO_some, qRes_val, qHp_some, qPick_true, qPick_false, qG_tt, qG_ff, qG_tf, qG_ft, cellsK_some, qLd_ptr, qLd_vptr, qLdA_ptr, qLdA_vptr, qFa_ptr, qFa_vptr, qNc_ptr, qNc_vptr, qNc_fn, qNot_bool, qExt_tup, qCallV_fn, qLss_int, qLeq_int, qGtr_int, qGeq_int, qEql_int, qNeq_int, qAdd_int, qSub_int, qMul_int, qConvI_int, qLenL_sl, qLenL_hsl, qLenS_str, foldO, min2_int, max2_int, qSame_refl, Nat.zero_add, List.getElem?_cons_zero, List.getElem?_cons_succ, List.nil_append, List.cons_append, List.append_nil, one_bool, one_int, one_str, one_nilp, one_ptr, one_sl, one_hsl, one_map, one_fn, List.length_cons, List.length_nil, List.set_cons_zero, List.set_cons_succ, Nat.reduceLT, Nat.reduceAdd, qG_un, qResN_val, qCallVN_fn, sl, qEql_str, dec_nil, e48]
      refine tail15 _ [] true (by simp) (fun x0 x4 x5 x6 x7 x8 x11 x26 x37 x41 x52 x62 x68 => ?_) _ _ _ _ _ _ _ _ _ _ _ _ _
      rw [hnm]
      rfl
    | cons a u =>
      by_cases ha : a = 46
      · subst ha
        have e48 : ∀ H, EP 48 [.str (46 :: u), .str [46]] H = some (.val (.tup [.str u, .bool true]) H) := fun H => by rw [ep42, cutP_1, hp_one]; rfl
        have e70 := fun H => ep41 u (by simp at hl2; omega) H
        by_cases hu : dg u = 0
        · have hnm : num s = (false, false) := by rw [hnum]; simp [fracN, hu]
          have z2 : (((dg u : Nat) : Int) == 0) = true := by simp [hu]
          simp -implicitDefEqProofs only [r54_7, r54_8, r54_9, r54_10, r54_11, r54_12, r54_13, opn_z, opn_s, sel_z, sel_s, qCd_eq, qIf_true, qIf_false, qFn_eq, qBl_eq, qO_some, qRes_val, qHp_some, qPick_true, qPick_false, qG_tt, qG_ff, qG_tf, qG_ft, cellsK_some, qLd_ptr, qLd_vptr, qLdA_ptr, qLdA_vptr, qFa_ptr, qFa_vptr, qNc_ptr, qNc_vptr, qNc_fn, qNot_bool, qExt_tup, qCallV_fn, qLss_int, qLeq_int, qGtr_int, qGeq_int, qEql_int, qNeq_int, qAdd_int, qSub_int, qMul_int, qConvI_int, qLenL_sl, qLenL_hsl, qLenS_str, foldO, min2_int, max2_int, qSame_refl, Nat.zero_add, List.getElem?_cons_zero, List.getElem?_cons_succ, List.nil_append, List.cons_append, List.append_nil, one_bool, one_int, one_str, one_nilp, one_ptr, one_sl, one_hsl, one_map, one_fn, List.length_cons, List.length_nil, List.set_cons_zero, List.set_cons_succ, Nat.reduceLT, Nat.reduceAdd, qG_un, qResN_val, qCallVN_fn, sl, qEql_str, dec_nil_cons, e48, e70, z2, hnm, AV.kill, AV.kills]
        · have z2 : (((dg u : Nat) : Int) == 0) = false := by simp [hu]
          simp -implicitDefEqProofs only [r54_7, r54_8, r54_9, r54_10, r54_11, r54_12, r54_14, opn_z, opn_s, sel_z, sel_s, qCd_eq, qIf_true, qIf_false, qFn_eq, qBl_eq, qO_some, qRes_val, qHp_some, qPick_true, qPick_false, qG_tt, qG_ff, qG_tf, qG_ft, cellsK_some, qLd_ptr, qLd_vptr, qLdA_ptr, qLdA_vptr, qFa_ptr, qFa_vptr, qNc_ptr, qNc_vptr, qNc_fn, qNot_bool, qExt_tup, qCallV_fn, qLss_int, qLeq_int, qGtr_int, qGeq_int, qEql_int, qNeq_int, qAdd_int, qSub_int, qMul_int, qConvI_int, qLenL_sl, qLenL_hsl, qLenS_str, foldO, min2_int, max2_int, qSame_refl, Nat.zero_add, List.getElem?_cons_zero, List.getElem?_cons_succ, List.nil_append, List.cons_append, List.append_nil, one_bool, one_int, one_str, one_nilp, one_ptr, one_sl, one_hsl, one_map, one_fn, List.length_cons, List.length_nil, List.set_cons_zero, List.set_cons_succ, Nat.reduceLT, Nat.reduceAdd, qG_un, qResN_val, qCallVN_fn, sl, qEql_str, dec_nil_cons, e48, e70, z2, slcS_lo _ _ (dg_le u)]
          refine tail15 _ (u.drop (dg u)) false (by simp at hl2 ⊢; omega) (fun x0 x4 x5 x6 x7 x8 x11 x26 x37 x41 x52 x62 x68 => ?_) _ _ _ _ _ _ _ _ _ _ _ _ _
          rw [hnum]
          simp only [fracN, if_pos, if_neg hu]
          cases expN (u.drop (dg u)) <;> rfl
      · have e48 : ∀ H, EP 48 [.str (a :: u), .str [46]] H = some (.val (.tup [.str (a :: u), .bool false]) H) := fun H => by
          rw [ep42]; simp [cutP, hp_one, ha]
        simp -implicitDefEqProofs only [r54_7, r54_8, r54_9, r54_10, opn_z, opn_s, sel_z, sel_s, qCd_eq, qIf_true, qIf_false, qFn_eq, qBl_eq, qO_some, qRes_val, qHp_some, qPick_true, qPick_false, qG_tt, qG_ff, qG_tf, qG_ft, cellsK_some, qLd_ptr, qLd_vptr, qLdA_ptr, qLdA_vptr, qFa_ptr, qFa_vptr, qNc_ptr, qNc_vptr, qNc_fn, qNot_bool, qExt_tup, qCallV_fn, qLss_int, qLeq_int, qGtr_int, qGeq_int, qEql_int, qNeq_int, qAdd_int, qSub_int, qMul_int, qConvI_int, qLenL_sl, qLenL_hsl, qLenS_str, foldO, min2_int, max2_int, qSame_refl, Nat.zero_add, List.getElem?_cons_zero, List.getElem?_cons_succ, List.nil_append, List.cons_append, List.append_nil, one_bool, one_int, one_str, one_nilp, one_ptr, one_sl, one_hsl, one_map, one_fn, List.length_cons, List.length_nil, List.set_cons_zero, List.set_cons_succ, Nat.reduceLT, Nat.reduceAdd, qG_un, qResN_val, qCallVN_fn, sl, qEql_str, dec_nil_cons, e48]
        refine tail15 _ (a :: u) false (by simp at hl2 ⊢; omega) (fun x0 x4 x5 x6 x7 x8 x11 x26 x37 x41 x52 x62 x68 => ?_) _ _ _ _ _ _ _ _ _ _ _ _ _
        rw [hnum]
        simp only [fracN, if_neg ha]
        cases expN (a :: u) <;> rfl
  by_cases h1 : 1 < dg (c :: t)
  · have h1' : (1 : Int) < (dg (c :: t) : Int) := by omega
    have hb := u8_eq c 48
    have e67 : (((48 : UInt8).toNat : Nat) : Int) = 48 := rfl
    rw [e67] at hb
    by_cases hc : c = 48
    · have hn : num s = (false, false) := by
        simp only [num, if_neg h40, hs1]
        rw [if_pos (.inr ⟨h1, by rw [hc]; rfl⟩)]
      rw [decide_eq_true hc] at hb
      simp -implicitDefEqProofs only [r54_5, r54_6, opn_z, opn_s, sel_z, sel_s, qCd_eq, qIf_true, qIf_false, qFn_eq, qBl_eq, qO_some, qRes_val, qHp_some, qPick_true, qPick_false, qG_tt, qG_ff, qG_tf, qG_ft, cellsK_some, qLd_ptr, qLd_vptr, qLdA_ptr, qLdA_vptr, qFa_ptr, qFa_vptr, qNc_ptr, qNc_vptr, qNc_fn, qNot_bool, qExt_tup, qCallV_fn, qLss_int, qLeq_int, qGtr_int, qGeq_int, qEql_int, qNeq_int, qAdd_int, qSub_int, qMul_int, qConvI_int, qLenL_sl, qLenL_hsl, qLenS_str, foldO, min2_int, max2_int, qSame_refl, Nat.zero_add, List.getElem?_cons_zero, List.getElem?_cons_succ, List.nil_append, List.cons_append, List.append_nil, one_bool, one_int, one_str, one_nilp, one_ptr, one_sl, one_hsl, one_map, one_fn, List.length_cons, List.length_nil, List.set_cons_zero, List.set_cons_succ, Nat.reduceLT, Nat.reduceAdd, qG_un, qResN_val, qCallVN_fn, z1, h1', decide_true, qIx_0, hb, hn, AV.kill, AV.kills]
    · rw [decide_eq_false hc] at hb
      simp -implicitDefEqProofs only [r54_5, opn_z, opn_s, sel_z, sel_s, qCd_eq, qIf_true, qIf_false, qFn_eq, qBl_eq, qO_some, qRes_val, qHp_some, qPick_true, qPick_false, qG_tt, qG_ff, qG_tf, qG_ft, cellsK_some, qLd_ptr, qLd_vptr, qLdA_ptr, qLdA_vptr, qFa_ptr, qFa_vptr, qNc_ptr, qNc_vptr, qNc_fn, qNot_bool, qExt_tup, qCallV_fn, qLss_int, qLeq_int, qGtr_int, qGeq_int, qEql_int, qNeq_int, qAdd_int, qSub_int, qMul_int, qConvI_int, qLenL_sl, qLenL_hsl, qLenS_str, foldO, min2_int, max2_int, qSame_refl, Nat.zero_add, List.getElem?_cons_zero, List.getElem?_cons_succ, List.nil_append, List.cons_append, List.append_nil, one_bool, one_int, one_str, one_nilp, one_ptr, one_sl, one_hsl, one_map, one_fn, List.length_cons, List.length_nil, List.set_cons_zero, List.set_cons_succ, Nat.reduceLT, Nat.reduceAdd, qG_un, qResN_val, qCallVN_fn, z1, h1', decide_true, qIx_0, hb]
      exact goOn (by simp [hz, hc]) _ _ _ _ _ _ _ _ _ _ _
  · have h1' : ¬ (1 : Int) < (dg (c :: t) : Int) := by omega
    simp -implicitDefEqProofs only [r54_5, opn_z, opn_s, sel_z, sel_s, qCd_eq, qIf_true, qIf_false, qFn_eq, qBl_eq, qO_some, qRes_val, qHp_some, qPick_true, qPick_false, qG_tt, qG_ff, qG_tf, qG_ft, cellsK_some, qLd_ptr, qLd_vptr, qLdA_ptr, qLdA_vptr, qFa_ptr, qFa_vptr, qNc_ptr, qNc_vptr, qNc_fn, qNot_bool, qExt_tup, qCallV_fn, qLss_int, qLeq_int, qGtr_int, qGeq_int, qEql_int, qNeq_int, qAdd_int, qSub_int, qMul_int, qConvI_int, qLenL_sl, qLenL_hsl, qLenS_str, foldO, min2_int, max2_int, qSame_refl, Nat.zero_add, List.getElem?_cons_zero, List.getElem?_cons_succ, List.nil_append, List.cons_append, List.append_nil, one_bool, one_int, one_str, one_nilp, one_ptr, one_sl, one_hsl, one_map, one_fn, List.length_cons, List.length_nil, List.set_cons_zero, List.set_cons_succ, Nat.reduceLT, Nat.reduceAdd, qG_un, qResN_val, qCallVN_fn, z1, h1', decide_false]
    exact goOn (by simp [hz]; omega) _ _ _ _ _ _ _ _ _ _ _
end T
set_option linter.unusedVariables false
set_option linter.unusedSimpArgs false
set_option maxRecDepth 10000
namespace T
open Go Go.Aes Go.Proofs

/-! ### a place -/
theorem place_eq (v n : Int) (hn : 0 < n) : (if v.tmod n < 0 then v.tmod n + n else v.tmod n) = v % n := by
  have h1 := Int.tmod_eq_emod (a := v) (b := n)
  have h2 := Int.emod_nonneg v (by omega : n ≠ 0)
  have h3 := Int.emod_lt_of_pos v hn
  split at h1 <;> split <;> omega
theorem ep26 (v n : Int) (hn : 0 < n) (hn2 : n ≤ 4611686018427387904) (H : AH) : EP 13 [.int .i64 v, .int .i64 n] H = some (.val (.int .i64 (v % n)) H) := by
  refine uo_form e13 xf13 rfl rfl rfl rfl ?_ H
  simp only [AV.kills, AV.kill]
  have h0 := place_eq v n hn
  have hrem := fun k => qRem_int (R := Prop) X 3 .i64 v n k (by omega)
  have h2 := Int.emod_nonneg v (by omega : n ≠ 0)
  have h3 := Int.emod_lt_of_pos v hn
  by_cases h : v.tmod n < 0
  · rw [if_pos h] at h0
    have hi : IntKind.i64.wrap (v.tmod n + n) = v % n := by rw [h0]; exact i64_in' (by omega)
    simp -implicitDefEqProofs only [c13, r13_0, r13_1, r13_2, r13_3, r13_4, opn_z, opn_s, sel_z, sel_s, qCd_eq, qIf_true, qIf_false, qFn_eq, qBl_eq, qO_some, qRes_val, qHp_some, qPick_true, qPick_false, qG_tt, qG_ff, qG_tf, qG_ft, cellsK_some, qLd_ptr, qLd_vptr, qLdA_ptr, qLdA_vptr, qFa_ptr, qFa_vptr, qNc_ptr, qNc_vptr, qNc_fn, qNot_bool, qExt_tup, qCallV_fn, qLss_int, qLeq_int, qGtr_int, qGeq_int, qEql_int, qNeq_int, qAdd_int, qSub_int, qMul_int, qConvI_int, qLenL_sl, qLenL_hsl, qLenS_str, foldO, min2_int, max2_int, qSame_refl, Nat.zero_add, List.getElem?_cons_zero, List.getElem?_cons_succ, List.nil_append, List.cons_append, List.append_nil, one_bool, one_int, one_str, one_nilp, one_ptr, one_sl, one_hsl, one_map, one_fn, List.length_cons, List.length_nil, List.set_cons_zero, List.set_cons_succ, Nat.reduceLT, Nat.reduceAdd, qG_un, qResN_val, qCallVN_fn, AV.kill, AV.kills, Tk.kill, hrem, h, decide_true, hi]
  · rw [if_neg h] at h0
    have h' : ¬ (v % n < 0) := by omega
    simp -implicitDefEqProofs only [c13, r13_0, r13_1, r13_2, r13_4, opn_z, opn_s, sel_z, sel_s, qCd_eq, qIf_true, qIf_false, qFn_eq, qBl_eq, qO_some, qRes_val, qHp_some, qPick_true, qPick_false, qG_tt, qG_ff, qG_tf, qG_ft, cellsK_some, qLd_ptr, qLd_vptr, qLdA_ptr, qLdA_vptr, qFa_ptr, qFa_vptr, qNc_ptr, qNc_vptr, qNc_fn, qNot_bool, qExt_tup, qCallV_fn, qLss_int, qLeq_int, qGtr_int, qGeq_int, qEql_int, qNeq_int, qAdd_int, qSub_int, qMul_int, qConvI_int, qLenL_sl, qLenL_hsl, qLenS_str, foldO, min2_int, max2_int, qSame_refl, Nat.zero_add, List.getElem?_cons_zero, List.getElem?_cons_succ, List.nil_append, List.cons_append, List.append_nil, one_bool, one_int, one_str, one_nilp, one_ptr, one_sl, one_hsl, one_map, one_fn, List.length_cons, List.length_nil, List.set_cons_zero, List.set_cons_succ, Nat.reduceLT, Nat.reduceAdd, qG_un, qResN_val, qCallVN_fn, AV.kill, AV.kills, Tk.kill, hrem, h0, h', decide_false]

/-! ### a number's digits -/
def dec : Nat → Nat → Str
  | 0, n => []
  | f + 1, n => if n < 10 then [UInt8.ofNat (48 + n)] else dec f (n / 10) ++ [UInt8.ofNat (48 + n % 10)]
/-- so many digits at most: enough -/
def decs (n : Nat) : Str := dec 20 n

theorem dec_mono : ∀ (f n : Nat), n < 10 ^ f → 0 < f → ∀ g, f ≤ g → dec g n = dec f n := by
  intro f
  induction f with
  | zero => intro n hn h0; omega
  | succ f ih =>
    intro n hn _ g hg
    cases g with
    | zero => omega
    | succ g =>
      simp only [dec]
      by_cases h : n < 10
      · rw [if_pos h, if_pos h]
      · have hf : 0 < f := by
          cases f with
          | zero => simp at hn; omega
          | succ f => omega
        rw [if_neg h, if_neg h, ih (n / 10) (by rw [Nat.pow_succ] at hn; omega) hf g (by omega)]

theorem digit_at {d : Nat} (h : d < 10) (k : AV → Prop) : qSlc Tryd.t9.desc 0 (.str [48, 49, 50, 51, 52, 53, 54, 55, 56, 57]) (some (.int .i64 (d : Int))) (some (.int .i64 ((d + 1 : Nat) : Int))) none k = k (.str [UInt8.ofNat (48 + d)]) := by
  rw [slcS_mid _ d (d + 1) (by omega) (by simp; omega)]
  congr 2
  match d, h with
  | 0, _ => rfl
  | 1, _ => rfl
  | 2, _ => rfl
  | 3, _ => rfl
  | 4, _ => rfl
  | 5, _ => rfl
  | 6, _ => rfl
  | 7, _ => rfl
  | 8, _ => rfl
  | 9, _ => rfl

theorem ep50 : ∀ (f n : Nat), n < 10 ^ f → 0 < f → f ≤ 18 → ∀ H, EP 20 [.int .i64 (n : Int)] H = some (.val (.str (dec f n)) H) := by
  intro f
  induction f with
  | zero => intro n hn h0; omega
  | succ f ih =>
    intro n hn _ hf H
    refine uo_form e20 xf20 rfl rfl rfl rfl ?_ H
    simp only [AV.kills, AV.kill]
    have hb : 10 ^ (f + 1) ≤ 10 ^ 18 := Nat.pow_le_pow_right (by omega) hf
    have hb2 : (10 : Nat) ^ 18 = 1000000000000000000 := by decide
    have h1 : ¬ ((n : Int) ≤ -10) := by omega
    have h2 : ¬ ((n : Int) < 0) := by omega
    by_cases h : n < 10
    · have h3 : (n : Int) < 10 := by omega
      have hw : IntKind.i64.wrap ((n : Int) + 1) = ((n + 1 : Nat) : Int) := wrap_up n (by omega)
      simp -implicitDefEqProofs only [c20, r20_0, r20_1, r20_4, r20_6, r20_7, opn_z, opn_s, sel_z, sel_s, qCd_eq, qIf_true, qIf_false, qFn_eq, qBl_eq, qO_some, qRes_val, qHp_some, qPick_true, qPick_false, qG_tt, qG_ff, qG_tf, qG_ft, cellsK_some, qLd_ptr, qLd_vptr, qLdA_ptr, qLdA_vptr, qFa_ptr, qFa_vptr, qNc_ptr, qNc_vptr, qNc_fn, qNot_bool, qExt_tup, qCallV_fn, qLss_int, qLeq_int, qGtr_int, qGeq_int, qEql_int, qNeq_int, qAdd_int, qSub_int, qMul_int, qConvI_int, qLenL_sl, qLenL_hsl, qLenS_str, foldO, min2_int, max2_int, qSame_refl, Nat.zero_add, List.getElem?_cons_zero, List.getElem?_cons_succ, List.nil_append, List.cons_append, List.append_nil, one_bool, one_int, one_str, one_nilp, one_ptr, one_sl, one_hsl, one_map, one_fn, List.length_cons, List.length_nil, List.set_cons_zero, List.set_cons_succ, Nat.reduceLT, Nat.reduceAdd, qG_un, qResN_val, qCallVN_fn, AV.kill, AV.kills, Tk.kill, h1, h2, h3, decide_true, decide_false, hw, digit_at h, dec, if_pos h]
    · have h3 : ¬ (n : Int) < 10 := by omega
      have hn' : n / 10 < 10 ^ f := by rw [Nat.pow_succ] at hn; omega
      have hf0 : 0 < f := by
        cases f with
        | zero => simp at hn'; omega
        | succ f => omega
      have hq := fun k => qQuo_int (R := Prop) X 3 .i64 (n : Int) 10 k (by omega)
      have hr := fun k => qRem_int (R := Prop) X 3 .i64 (n : Int) 10 k (by omega)
      have e1 : IntKind.i64.wrap ((n : Int).tdiv 10) = ((n / 10 : Nat) : Int) := by
        rw [show (n : Int).tdiv 10 = ((n / 10 : Nat) : Int) from by rw [Int.tdiv_eq_ediv_of_nonneg (by omega)]; rfl]
        exact i64_in' (by omega)
      have e2 : (n : Int).tmod 10 = ((n % 10 : Nat) : Int) := by rw [Int.tmod_eq_emod_of_nonneg (by omega)]; rfl
      have hw : IntKind.i64.wrap (((n % 10 : Nat) : Int) + 1) = ((n % 10 + 1 : Nat) : Int) := wrap_up _ (by omega)
      have dl : ∀ (f n : Nat), (dec f n).length ≤ f := by
        intro f
        induction f with
        | zero => intro n; simp [dec]
        | succ f ih => intro n; simp only [dec]; split <;> simp <;> have := ih (n / 10) <;> omega
      have hl := dl f (n / 10)
      have ha := fun k => qAdd_str (R := Prop) X 9 (dec f (n / 10)) [UInt8.ofNat (48 + n % 10)] (by unfold most; simp; omega) k
      simp -implicitDefEqProofs only [c20, r20_0, r20_1, r20_4, r20_6, r20_8, opn_z, opn_s, sel_z, sel_s, qCd_eq, qIf_true, qIf_false, qFn_eq, qBl_eq, qO_some, qRes_val, qHp_some, qPick_true, qPick_false, qG_tt, qG_ff, qG_tf, qG_ft, cellsK_some, qLd_ptr, qLd_vptr, qLdA_ptr, qLdA_vptr, qFa_ptr, qFa_vptr, qNc_ptr, qNc_vptr, qNc_fn, qNot_bool, qExt_tup, qCallV_fn, qLss_int, qLeq_int, qGtr_int, qGeq_int, qEql_int, qNeq_int, qAdd_int, qSub_int, qMul_int, qConvI_int, qLenL_sl, qLenL_hsl, qLenS_str, foldO, min2_int, max2_int, qSame_refl, Nat.zero_add, List.getElem?_cons_zero, List.getElem?_cons_succ, List.nil_append, List.cons_append, List.append_nil, one_bool, one_int, one_str, one_nilp, one_ptr, one_sl, one_hsl, one_map, one_fn, List.length_cons, List.length_nil, List.set_cons_zero, List.set_cons_succ, Nat.reduceLT, Nat.reduceAdd, qG_un, qResN_val, qCallVN_fn, AV.kill, AV.kills, Tk.kill, h1, h2, h3, decide_false, hq, hr, e1, e2, hw, digit_at (show n % 10 < 10 by omega), ih (n / 10) hn' hf0 (by omega), ha, dec, if_neg h]
theorem ep27 (n : Nat) (h : n < 10 ^ 18) (H : AH) : EP 14 [.int .i64 (n : Int)] H = some (.val (.str (decs n)) H) := by
  refine uo_form e14 xf14 rfl rfl rfl rfl ?_ H
  simp only [AV.kills, AV.kill]
  have := ep50 18 n h (by omega) (by omega) H0
  rw [show dec 18 n = decs n from (dec_mono 18 n h (by omega) 20 (by omega)).symm] at this
  simp -implicitDefEqProofs only [c14, r14_0, r14_1, opn_z, opn_s, sel_z, sel_s, qCd_eq, qIf_true, qIf_false, qFn_eq, qBl_eq, qO_some, qRes_val, qHp_some, qPick_true, qPick_false, qG_tt, qG_ff, qG_tf, qG_ft, cellsK_some, qLd_ptr, qLd_vptr, qLdA_ptr, qLdA_vptr, qFa_ptr, qFa_vptr, qNc_ptr, qNc_vptr, qNc_fn, qNot_bool, qExt_tup, qCallV_fn, qLss_int, qLeq_int, qGtr_int, qGeq_int, qEql_int, qNeq_int, qAdd_int, qSub_int, qMul_int, qConvI_int, qLenL_sl, qLenL_hsl, qLenS_str, foldO, min2_int, max2_int, qSame_refl, Nat.zero_add, List.getElem?_cons_zero, List.getElem?_cons_succ, List.nil_append, List.cons_append, List.append_nil, one_bool, one_int, one_str, one_nilp, one_ptr, one_sl, one_hsl, one_map, one_fn, List.length_cons, List.length_nil, List.set_cons_zero, List.set_cons_succ, Nat.reduceLT, Nat.reduceAdd, qG_un, qResN_val, qCallVN_fn, AV.kill, AV.kills, Tk.kill, this]

/-- a whole number's letters -/
structure Wh (x : Str) : Prop where
  ne : x ≠ []
  all : ∀ c ∈ x, isD c = true
  head : 1 < x.length → x.head? ≠ some 48
theorem isD_of {d : Nat} (h : d < 10) : isD (UInt8.ofNat (48 + d)) = true := by
  match d, h with
  | 0, _ => rfl
  | 1, _ => rfl
  | 2, _ => rfl
  | 3, _ => rfl
  | 4, _ => rfl
  | 5, _ => rfl
  | 6, _ => rfl
  | 7, _ => rfl
  | 8, _ => rfl
  | 9, _ => rfl
theorem dec_wh : ∀ (f n : Nat), n < 10 ^ f → 0 < f → Wh (dec f n) ∧ (0 < n → (dec f n).head? ≠ some 48) ∧ (dec f n).length ≤ f := by
  intro f
  induction f with
  | zero => intro n h h0; omega
  | succ f ih =>
    intro n hn _
    simp only [dec]
    by_cases h : n < 10
    · rw [if_pos h]
      refine ⟨⟨by simp, ?_, by simp⟩, ?_, by simp⟩
      · intro c hc
        obtain rfl := List.mem_singleton.1 hc
        exact isD_of h
      · intro h0
        match n, h, h0 with
        | 1, _, _ => decide
        | 2, _, _ => decide
        | 3, _, _ => decide
        | 4, _, _ => decide
        | 5, _, _ => decide
        | 6, _, _ => decide
        | 7, _, _ => decide
        | 8, _, _ => decide
        | 9, _, _ => decide
    · rw [if_neg h]
      have hn' : n / 10 < 10 ^ f := by rw [Nat.pow_succ] at hn; omega
      have hf : 0 < f := by
        cases f with
        | zero => simp at hn'; omega
        | succ f => omega
      obtain ⟨⟨i1, i2, i3⟩, i4, i5⟩ := ih (n / 10) hn' hf
      have hd := i4 (by omega)
      have hne : (dec f (n / 10) ++ [UInt8.ofNat (48 + n % 10)]).head? ≠ some 48 := by
        cases hx : dec f (n / 10) with
        | nil => exact absurd hx i1
        | cons a r => rw [hx] at hd; simpa using hd
      refine ⟨⟨by simp, ?_, fun _ => hne⟩, fun _ => hne, by simp; omega⟩
      intro c hc
      rcases List.mem_append.1 hc with hc | hc
      · exact i2 c hc
      · obtain rfl := List.mem_singleton.1 hc
        exact isD_of (by omega)
theorem decs_wh (f n : Nat) (hn : n < 10 ^ f) (h0 : 0 < f) (hf : f ≤ 20) : Wh (decs n) ∧ (decs n).length ≤ f := by
  rw [show decs n = dec f n from dec_mono f n hn h0 20 hf]
  exact ⟨(dec_wh f n hn h0).1, (dec_wh f n hn h0).2.2⟩

/-! ### numbers, as they are written -/
def sg (neg : Bool) : Str := if neg then [45] else []
def tailN (s2 : Str) : Bool × Bool :=
  match fracN s2 with
  | none => (false, false)
  | some s3 => match expN s3 with
    | none => (false, false)
    | some s4 => (decide (s2 = []) && decide (s4 = []), decide (s4 = []))
def ndg (r : Str) : Prop := ∀ c t, r = c :: t → isD c = false
theorem ndg_nil : ndg [] := fun c t h => by cases h
theorem ndg_cons {c : UInt8} {t : Str} (h : isD c = false) : ndg (c :: t) := fun c' t' e => by injection e with e _; rw [← e]; exact h
theorem dg_app : ∀ (x r : Str), (∀ c ∈ x, isD c = true) → ndg r → dg (x ++ r) = x.length
  | [], r, h, hr => by
    cases r with
    | nil => rfl
    | cons c t => rw [List.nil_append, dg_cons, hr c t rfl]; rfl
  | c :: x, r, h, hr => by
    rw [List.cons_append, dg_cons, h c (by simp), dg_app x r (fun c hc => h c (by simp [hc])) hr]
    rfl
theorem dg_all (x : Str) (h : ∀ c ∈ x, isD c = true) : dg x = x.length := by
  have := dg_app x [] h ndg_nil
  rwa [List.append_nil] at this
theorem isD_ne {c : UInt8} (h : isD c = true) (k : UInt8) (hk : isD k = false) : c ≠ k := fun e => by rw [e, hk] at h; cases h

theorem num_form (neg : Bool) {x r : Str} (hx : Wh x) (hr : ndg r) (hl : (sg neg ++ x ++ r).length ≤ 40) : num (sg neg ++ x ++ r) = tailN r := by
  have hc : cutP (sg neg ++ x ++ r) [45] = x ++ r := by
    cases neg with
    | true => simp [sg, cutP, hp, List.drop]
    | false =>
      cases x with
      | nil => exact absurd rfl hx.ne
      | cons c t =>
        have : c ≠ 45 := isD_ne (hx.all c (by simp)) 45 rfl
        simp [sg, cutP, hp_one, this]
  have hd := dg_app x r hx.all hr
  have h0 : x.length ≠ 0 := fun e => hx.ne (List.eq_nil_of_length_eq_zero e)
  have hcond : ¬ (dg (x ++ r) = 0 ∨ (1 < dg (x ++ r) ∧ (x ++ r).head? = some 48)) := by
    rw [hd]
    rintro (h | ⟨h1, h2⟩)
    · exact h0 h
    · refine hx.head h1 ?_
      cases x with
      | nil => exact absurd rfl hx.ne
      | cons c t => simpa using h2
  unfold num
  rw [if_neg (by omega), hc]
  simp only []
  rw [if_neg hcond, hd, List.drop_left]
  rfl

/-- no number: a sign or a blank ahead that does not belong there -/
theorem num_bad {s : Str} (h : ∀ c t, cutP s [45] = c :: t → isD c = false) : (num s).2 = false := by
  unfold num
  split
  · rfl
  · have : dg (cutP s [45]) = 0 := by
      cases hx : cutP s [45] with
      | nil => rfl
      | cons c t => rw [dg_cons, h c t hx]; rfl
    simp only []
    rw [if_pos (.inl this)]

theorem fracN_dot (y r : Str) (hy : ∀ c ∈ y, isD c = true) (h0 : y ≠ []) (hr : ndg r) : fracN (46 :: (y ++ r)) = some r := by
  have := dg_app y r hy hr
  have h1 : y.length ≠ 0 := fun e => h0 (List.eq_nil_of_length_eq_zero e)
  show (if (46 : UInt8) = 46 then (if dg (y ++ r) = 0 then none else some ((y ++ r).drop (dg (y ++ r)))) else some (46 :: (y ++ r))) = _
  rw [if_pos rfl, this, if_neg h1, List.drop_left]
theorem fracN_other {c : UInt8} {t : Str} (h : c ≠ 46) : fracN (c :: t) = some (c :: t) := if_neg h
theorem expN_e (e : UInt8) (he : ([101, 69] : Str).contains e = true) (z r : Str) (hz : ∀ c ∈ z, isD c = true) (h0 : z ≠ []) (hr : ndg r) : expN (e :: (z ++ r)) = some r := by
  have h1 : z.length ≠ 0 := fun e => h0 (List.eq_nil_of_length_eq_zero e)
  have hs : sgnN (z ++ r) = z ++ r := by
    cases z with
    | nil => exact absurd rfl h0
    | cons c t =>
      have hc := hz c (by simp)
      have n1 : c ≠ 43 := isD_ne hc 43 rfl
      have n2 : c ≠ 45 := isD_ne hc 45 rfl
      show (if ([43, 45] : Str).contains c = true then _ else _) = _
      rw [if_neg (by simp [n1, n2])]
  show (if ([101, 69] : Str).contains e = true then (if dg (sgnN (z ++ r)) = 0 then none else some ((sgnN (z ++ r)).drop (dg (sgnN (z ++ r))))) else _) = _
  rw [if_pos he, hs, dg_app z r hz hr, if_neg h1, List.drop_left]
theorem expN_es (e s : UInt8) (he : ([101, 69] : Str).contains e = true) (hs0 : ([43, 45] : Str).contains s = true) (z r : Str) (hz : ∀ c ∈ z, isD c = true) (h0 : z ≠ []) (hr : ndg r) : expN (e :: s :: (z ++ r)) = some r := by
  have h1 : z.length ≠ 0 := fun e => h0 (List.eq_nil_of_length_eq_zero e)
  have hs : sgnN (s :: (z ++ r)) = z ++ r := by
    show (if ([43, 45] : Str).contains s = true then _ else _) = _
    rw [if_pos hs0]
  show (if ([101, 69] : Str).contains e = true then (if dg (sgnN (s :: (z ++ r))) = 0 then none else some ((sgnN (s :: (z ++ r))).drop (dg (sgnN (s :: (z ++ r)))))) else _) = _
  rw [if_pos he, hs, dg_app z r hz hr, if_neg h1, List.drop_left]
theorem expN_other {c : UInt8} {t : Str} (h : ([101, 69] : Str).contains c = false) : expN (c :: t) = some (c :: t) := by
  show (if ([101, 69] : Str).contains c = true then _ else _) = _
  rw [h]; rfl
end T
set_option linter.unusedVariables false
set_option linter.unusedSimpArgs false
set_option maxRecDepth 10000
namespace T
open Go Go.Aes Go.Proofs

/-! ### values -/
inductive Val where
  | mk (kind : Int) (s : Str) (names : List Str) (list : List Val)

def strRows (l : List Str) : List (List AV) := l.map fun s => [.str s]
theorem strRows_len (l : List Str) : (strRows l).length = l.length := by simp [strRows]
theorem qIa_strs {l : List Str} {tk : Tk} {i : Nat} {s : Str} (h : l[i]? = some s) (k : AV → Prop) : qIa 1 (.sl (strRows l) tk) (.int .i64 (i : Int)) k = k (.vptr [.str s] 0) :=
  qIa_sl (R := Prop) .i64 k 1 (strRows l) tk i [.str s] (by simp [strRows, h]) rfl

mutual
def EV : Val → List AV → Prop
  | .mk k s ns l, row => ∃ t1 t2 rows, row = [.int .i64 k, .str s, .sl (strRows ns) t1, .sl rows t2] ∧ EVs l rows
def EVs : List Val → List (List AV) → Prop
  | [], rows => rows = []
  | v :: l, rows => ∃ r rs, rows = r :: rs ∧ EV v r ∧ EVs l rs
end

theorem EV.four {v : Val} {r : List AV} (h : EV v r) : r.length = 4 := by
  cases v; obtain ⟨t1, t2, rows, rfl, _⟩ := h; rfl
theorem EV.ones {v : Val} {r : List AV} (h : EV v r) : allOne r = true := by
  cases v; obtain ⟨t1, t2, rows, rfl, _⟩ := h; rfl
theorem EVs.append : ∀ {a b : List Val} {ra rb : List (List AV)}, EVs a ra → EVs b rb → EVs (a ++ b) (ra ++ rb)
  | [], b, ra, rb, ha, hb => by cases ha; exact hb
  | f :: a, b, ra, rb, ⟨r, rs, h1, h2, h3⟩, hb => by subst h1; exact ⟨r, rs ++ rb, rfl, h2, EVs.append h3 hb⟩
theorem EVs.one {f : Val} {r : List AV} (h : EV f r) : EVs [f] [r] := ⟨r, [], rfl, h, rfl⟩
theorem EVs.len : ∀ {a : List Val} {ra : List (List AV)}, EVs a ra → ra.length = a.length
  | [], ra, h => by cases h; rfl
  | f :: a, ra, ⟨r, rs, h1, h2, h3⟩ => by subst h1; simp [EVs.len h3]
theorem EVs.four : ∀ {a : List Val} {ra : List (List AV)}, EVs a ra → ∀ x ∈ ra, x.length = 4
  | [], ra, h, x, hx => by cases h; cases hx
  | f :: a, ra, ⟨r, rs, h1, h2, h3⟩, x, hx => by
    subst h1
    rcases List.mem_cons.1 hx with rfl | hx
    · exact h2.four
    · exact EVs.four h3 x hx
theorem EVs.get : ∀ {a : List Val} {ra : List (List AV)}, EVs a ra → ∀ {i : Nat} {f : Val}, a[i]? = some f → ∃ r, ra[i]? = some r ∧ EV f r
  | [], ra, h, i, f, hi => by simp at hi
  | g :: a, ra, ⟨r, rs, h1, h2, h3⟩, i, f, hi => by
    subst h1
    cases i with
    | zero => simp at hi; subst hi; exact ⟨r, rfl, h2⟩
    | succ i => simp at hi ⊢; exact EVs.get h3 hi
theorem strRows_kill (l : List Str) : AV.killss (strRows l) = strRows l := by
  rw [killss_map]; simp [strRows, AV.kill]
theorem strRows_free (l : List Str) : AV.freess (strRows l) = true := by
  rw [freess_all]
  intro r hr a ha
  obtain ⟨y, _, rfl⟩ := List.mem_map.1 hr
  simp at ha; subst ha; rfl
theorem Tk.kill_free (tk : Tk) (rows : List (List AV)) : (AV.sl rows tk.kill).free = AV.freess rows := by cases tk <;> rfl

mutual
theorem EV.kill : ∀ (v : Val) (r : List AV), EV v r → EV v (AV.kills r) ∧ AV.frees (AV.kills r) = true
  | .mk k s ns l, r, h => by
    obtain ⟨t1, t2, rows, rfl, h⟩ := h
    obtain ⟨h1, h2⟩ := EVs.kill l rows h
    simp only [AV.kills, AV.kill, strRows_kill]
    refine ⟨⟨_, _, _, rfl, h1⟩, ?_⟩
    simp only [AV.frees, Tk.kill_free, h2, strRows_free]
    rfl
theorem EVs.kill : ∀ (l : List Val) (rows : List (List AV)), EVs l rows → EVs l (AV.killss rows) ∧ AV.freess (AV.killss rows) = true
  | [], rows, h => by cases h; exact ⟨rfl, rfl⟩
  | v :: l, rows, h => by
    obtain ⟨r, rs, rfl, h1, h2⟩ := h
    obtain ⟨a1, a2⟩ := EV.kill v r h1
    obtain ⟨b1, b2⟩ := EVs.kill l rs h2
    refine ⟨⟨_, _, rfl, a1, b1⟩, ?_⟩
    simp only [AV.killss, AV.freess, a2, b2]; rfl
end

end T
set_option linter.unusedVariables false
set_option linter.unusedSimpArgs false
set_option maxRecDepth 10000
namespace T
open Go Go.Aes Go.Proofs

/-! ### a list that can be read: held in the hand, or in the heap -/
inductive Rd (H : AH) (n : Nat) (rows : List (List AV)) : AV → Prop where
  | sl (tk : Tk) : Rd H n rows (.sl rows tk)
  | hsl (i len cap : Nat) (g : Bool) (cs : List AV) (h : H.get i = some (.cells cs)) (hc : cs.take (rows.length * n) = rows.flatten) (hl : len = rows.length) : Rd H n rows (.hsl i 0 len cap n g)

theorem Rd.keep {H H' : AH} {n : Nat} {rows : List (List AV)} {v : AV} (h : Rd H n rows v) (k : ∀ i cs, H.get i = some (.cells cs) → H'.get i = some (.cells cs)) : Rd H' n rows v := by
  cases h with
  | sl tk => exact .sl tk
  | hsl i len cap g cs h hc hl => exact .hsl i len cap g cs (k i _ h) hc hl
theorem Rd.kp {H H' : AH} [IsFn H] {n : Nat} {rows : List (List AV)} {v : AV} (h : Rd H n rows v) (k : Kp H H' (fun _ => False)) : Rd H' n rows v :=
  h.keep fun i cs hg => (k.keep i (lt_i hg) (fun h => h)).trans hg
theorem Rd.len {H : AH} {n : Nat} {rows : List (List AV)} {v : AV} (h : Rd H n rows v) (k : AV → Prop) : qLenL v k = k (.int .i64 (rows.length : Int)) := by
  cases h with
  | sl tk => rfl
  | hsl i len cap g cs h hc hl => subst hl; rfl
theorem Rd.one {H : AH} {n : Nat} {rows : List (List AV)} {v : AV} (h : Rd H n rows v) : one v = true := by cases h <;> rfl
theorem flat_get : ∀ {rows : List (List AV)} {n : Nat}, (∀ r ∈ rows, r.length = n) → ∀ {i : Nat} {r : List AV}, rows[i]? = some r → (rows.flatten.drop (i * n)).take n = r
  | [], n, h, i, r, hi => by simp at hi
  | a :: rows, n, h, 0, r, hi => by
    simp at hi
    subst hi
    have := h a (by simp)
    simp [← this]
  | a :: rows, n, h, i + 1, r, hi => by
    have ha := h a (by simp)
    rw [List.flatten_cons, Nat.add_mul, Nat.one_mul, Nat.add_comm, ← List.drop_drop, ← ha, List.drop_left, ha]
    exact flat_get (fun r hr => h r (by simp [hr])) (by simpa using hi)
theorem Rd.at_ {H : AH} {n : Nat} {rows : List (List AV)} {v : AV} (h : Rd H n rows v) (hr : ∀ r ∈ rows, r.length = n) {i : Nat} {r : List AV} (hi : rows[i]? = some r) :
    ∃ p, (∀ k : AV → Prop, qIa n v (.int .i64 (i : Int)) k = k p) ∧ (∀ k : AV → Prop, qLdA n p H k = k (.agg r)) ∧ (∀ a, r = [a] → ∀ k : AV → Prop, qLd p H k = k a) := by
  have hrl := hr r (List.mem_of_getElem? hi)
  cases h with
  | sl tk =>
    refine ⟨.vptr r 0, fun k => qIa_rows hi hrl k, fun k => by rw [qLdA_vptr, slice_whole r n hrl, qO_some], fun a ha k => by subst ha; rfl⟩
  | hsl j len cap g cs hg hc hlen =>
    subst hlen
    have hil : i < rows.length := (List.getElem?_eq_some_iff.1 hi).1
    have hfl := flat_get hr hi
    rw [← hc, List.drop_take, List.take_take, Nat.min_eq_left (by
      have h1 : (i + 1) * n ≤ rows.length * n := Nat.mul_le_mul_right n hil
      rw [Nat.add_mul, Nat.one_mul] at h1
      omega)] at hfl
    have hsl : slice? cs (0 + i * n) n = some r := by
      rw [Nat.zero_add]
      simp only [slice?, hfl, hrl, Nat.beq_refl, cond_true]
    refine ⟨.ptr j (0 + i * n), fun k => qIa_hsl .i64 k n j 0 rows.length cap g i hil, fun k => ldA hg _ hsl k, fun a ha k => ?_⟩
    subst ha
    refine ld1 hg _ a ?_ k
    rw [Nat.zero_add]
    have := congrArg (·[0]?) hfl
    simpa [List.getElem?_take, List.getElem?_drop, ← hrl] using this

/-! ### maps that are sets of names -/
def setE (ns : List Str) : List (AV × AV) := ns.map fun n => (.str n, .bool true)
theorem und66 : X.und 66 = some (.map 9 4) := by kernel_rfl
theorem und9 : X.und 9 = some .string := by kernel_rfl
theorem und4 : X.und 4 = some .bool := by kernel_rfl
theorem unz4 : unZ X 4 = some (.bool false) := by kernel_rfl
theorem look_set : ∀ (ns : List Str) (s : Str), Aes.look (.str s) (setE ns) = some (if ns.contains s then some (.bool true) else none)
  | [], s => rfl
  | n :: ns, s => by
    have ih := look_set ns s
    simp only [setE, List.map_cons, Aes.look, keyEq]
    rw [show eqL s n = decide (s = n) from eqL_eq s n]
    by_cases h : s = n
    · subst h
      simp
    · rw [decide_eq_false h]
      simp only [setE] at ih
      simp only [ih, List.contains_cons]
      have : (s == n) = false := by simpa using h
      rw [this, Bool.false_or]
theorem lookup_set {H : AH} {r : Nat} {ns : List Str} (hg : H.get r = some (.map (setE ns))) (s : Str) : lookup X 66 (.map (some r)) (.str s) false H = some (.bool (ns.contains s)) := by
  unfold lookup
  simp only [und66, und9, keyTy, Bool.not_true, cond_false, hg, look_set]
  cases h : ns.contains s with
  | true => simp
  | false => simp [unz4]
theorem upd_set : ∀ (ns : List Str) (s : Str), ns.contains s = false → upd (.str s) (.bool true) (setE ns) = some (setE (ns ++ [s]))
  | [], s, _ => rfl
  | n :: ns, s, h => by
    simp only [List.contains_cons, Bool.or_eq_false_iff] at h
    have ih := upd_set ns s h.2
    have hn : eqL s n = false := by rw [eqL_eq]; simpa using h.1
    simp only [setE, List.map_cons, upd, keyEq, hn] at ih ⊢
    rw [ih]
    rfl
theorem mset_set {H : AH} [IsFn H] {r : Nat} {ns : List Str} (hg : H.get r = some (.map (setE ns))) (s : Str) (hs : ns.contains s = false) (k : AV → AH → Prop) :
    qMset X 66 (.map (some r)) (.str s) (.bool true) H k = k Aes.undef (H.set r (some (.map (setE (ns ++ [s]))))) := by
  unfold qMset mapSet
  simp only [und66, und9, keyTy, Bool.not_true, cond_false, okI_i (lt_i hg), hg, upd_set ns s hs]
  rfl

/-! ### right texts, right names -/
theorem ep55 (s : Str) (h : s.length < 1000000000000) (H : AH) : EP 76 [.str s] H = some (.val (.bool (Lib.validD s)) H) := by
  refine evO_O rfl ?_
  have hb : s.length.ble 9223372036854775807 = true := by rw [Nat.ble_eq]; omega
  have : OF2 76 [.str s] H = oValid [.str s] H := rfl
  rw [this]
  simp [oValid, hb]
theorem ep30 (s : Str) (h : s.length < 1000000000000) (H : AH) : EP 63 [.str s] H = some (.val (.bool (Lib.validD s)) H) := by
  refine uo_form e63 xf63 rfl rfl rfl rfl ?_ H
  simp only [AV.kills, AV.kill]
  simp -implicitDefEqProofs only [c63, r63_0, r63_1, opn_z, opn_s, sel_z, sel_s, qCd_eq, qIf_true, qIf_false, qFn_eq, qBl_eq, qO_some, qRes_val, qHp_some, qPick_true, qPick_false, qG_tt, qG_ff, qG_tf, qG_ft, cellsK_some, qLd_ptr, qLd_vptr, qLdA_ptr, qLdA_vptr, qFa_ptr, qFa_vptr, qNc_ptr, qNc_vptr, qNc_fn, qNot_bool, qExt_tup, qCallV_fn, qLss_int, qLeq_int, qGtr_int, qGeq_int, qEql_int, qNeq_int, qAdd_int, qSub_int, qMul_int, qConvI_int, qLenL_sl, qLenL_hsl, qLenS_str, foldO, min2_int, max2_int, qSame_refl, Nat.zero_add, List.getElem?_cons_zero, List.getElem?_cons_succ, List.nil_append, List.cons_append, List.append_nil, one_bool, one_int, one_str, one_nilp, one_ptr, one_sl, one_hsl, one_map, one_fn, List.length_cons, List.length_nil, List.set_cons_zero, List.set_cons_succ, Nat.reduceLT, Nat.reduceAdd, qG_un, qResN_val, qCallVN_fn, AV.kill, AV.kills, Tk.kill, ep55 s h]

end T
