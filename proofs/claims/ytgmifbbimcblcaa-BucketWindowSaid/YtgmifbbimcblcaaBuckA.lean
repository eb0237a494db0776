import Derived.Test.YtgmifbbimcblcaaLitRa
import Derived.Test.YtgmifbbimcblcaaS10
set_option linter.all false
set_option linter.unusedVariables false
set_option linter.unusedSimpArgs false
set_option maxRecDepth 10000
namespace T
open Go Go.Aes Go.Proofs

def OutO (O : CallF) : Prop := ∀ g l H, g ≠ 24 → g ≠ 33 → O g l H = none

/-- within its bounds -/
theorem i64_in {x : Int} (h : -9223372036854775808 ≤ x ∧ x ≤ 9223372036854775807) : IntKind.i64.wrap x = x := IntWalk.i64_in _ h

/-- one thing turned -/
structure Upd (H H' : AH) (p : Nat) (o : AO) : Prop where
  fn : Aes.Fn H'
  nx : H'.nx = H.nx
  at_ : H'.get p = some o
  other : ∀ j, j ≠ p → H'.get j = H.get j

theorem Upd.set {H : AH} (hf : Aes.Fn H) {p : Nat} {o0 : AO} (hg : H.get p = some o0) (o : AO) : Upd H (H.set p (some o)) p o :=
  ⟨hf.set p _, AH.nx_set _ _ _, by rw [hf.get_set (hf.lt hg)]; simp, fun j hj => by rw [hf.get_set (hf.lt hg)]; simp [hj]⟩

theorem Upd.trans {H H1 H2 : AH} {p : Nat} {o o2 : AO} (h : Upd H H1 p o) (k : Upd H1 H2 p o2) : Upd H H2 p o2 :=
  ⟨k.fn, k.nx.trans h.nx, k.at_, fun j hj => (k.other j hj).trans (h.other j hj)⟩

/-- one thing more -/
structure New (H H' : AH) (o : AO) : Prop where
  fn : Aes.Fn H'
  nx : H'.nx = H.nx + 1
  at_ : H'.get H.nx = some o
  other : ∀ j, j < H.nx → H'.get j = H.get j

theorem New.push {H : AH} (hf : Aes.Fn H) (o : AO) : New H (H.push o) o :=
  ⟨hf.push o, hf.nx_push o, by rw [hf.get_push]; simp, fun j hj => by rw [hf.get_push, if_neg (by omega)]⟩

theorem New.upd {H H1 H2 : AH} {o o2 : AO} (h : New H H1 o) (k : Upd H1 H2 H.nx o2) : New H H2 o2 :=
  ⟨k.fn, k.nx.trans h.nx, k.at_, fun j hj => (k.other j (by omega)).trans (h.other j hj)⟩

/-- a bucket -/
def bk (p : Nat) (rate burst level : Int) : AO := .cells [.int .i64 rate, .int .i64 burst, .int .i64 level, .fn (.func 45) [.ptr p 0] []]
/-- the document's -/
def rb (rate burst level : Int) : AO := .cells [.int .i64 rate, .int .i64 burst, .int .i64 level]

/-- what a bucket is -/
structure Fit (rate burst level : Int) : Prop where
  r0 : 0 ≤ rate
  r1 : rate ≤ 1000
  b1 : burst ≤ 100000
  l0 : 0 ≤ level
  lb : level ≤ burst

section
variable {O : CallF} (hO : OutO O)
include hO

theorem ev_cut (a m : Int) (H : AH) : evl X O 44 [.int .i64 a, .int .i64 m] H = some (.val (.int .i64 (max 0 (min a m))) H) := by
  refine of_form_eq e44 xf44 (hO _ _ _ (by decide) (by decide)) ?_
  simp only [c44, r44_0, r44_1, opn_z, opn_s, sel_z, sel_s, qCd_eq, qIf_true, qIf_false, qFn_eq, qBl_eq, qO_some, qRes_val, qHp_some, qPick_true, qPick_false, qG_tt, qG_ff, qG_tf, qG_ft, cellsK_some, qLd_ptr, qLd_vptr, qLdA_ptr, qLdA_vptr, qFa_ptr, qFa_vptr, qNc_ptr, qNc_vptr, qNc_fn, qNot_bool, qExt_tup, qCallV_fn, qLss_int, qLeq_int, qGtr_int, qGeq_int, qEql_int, qNeq_int, qAdd_int, qSub_int, qMul_int, qConvI_int, qLenL_sl, qLenL_hsl, qLenS_str, foldO, min2_int, max2_int, qSame_refl, Nat.zero_add, List.getElem?_cons_zero, List.getElem?_cons_succ, List.nil_append, List.cons_append, List.append_nil, one_bool, one_int, one_str, one_nilp, one_ptr, one_sl, one_hsl, one_map, one_fn, List.length_cons, List.length_nil, List.set_cons_zero, List.set_cons_succ, Nat.reduceLT, Nat.reduceAdd]
  exact ⟨trivial, trivial⟩

theorem ev_pour {H : AH} (hf : Aes.Fn H) {p : Nat} {rate burst level n : Int} (h : H.get p = some (bk p rate burst level)) (hb : -9223372036854775808 ≤ level + n ∧ level + n ≤ 9223372036854775807) :
    ∃ H', evl X O 45 [.ptr p 0, .int .i64 n] H = some (.val (.tup []) H') ∧ Upd H H' p (bk p rate burst (min (level + n) burst)) := by
  refine ⟨_, of_form_eq e45 xf45 (hO _ _ _ (by decide) (by decide)) (v := .tup []) (H' := H.set p (some (bk p rate burst (min (level + n) burst)))) ?_, .set hf h _⟩
  have h' := h
  unfold bk at h'
  simp only [c45, r45_0, opn_z, opn_s, sel_z, sel_s, qCd_eq, qIf_true, qIf_false, qFn_eq, qBl_eq, qO_some, qRes_val, qHp_some, qPick_true, qPick_false, qG_tt, qG_ff, qG_tf, qG_ft, cellsK_some, qLd_ptr, qLd_vptr, qLdA_ptr, qLdA_vptr, qFa_ptr, qFa_vptr, qNc_ptr, qNc_vptr, qNc_fn, qNot_bool, qExt_tup, qCallV_fn, qLss_int, qLeq_int, qGtr_int, qGeq_int, qEql_int, qNeq_int, qAdd_int, qSub_int, qMul_int, qConvI_int, qLenL_sl, qLenL_hsl, qLenS_str, foldO, min2_int, max2_int, qSame_refl, Nat.zero_add, List.getElem?_cons_zero, List.getElem?_cons_succ, List.nil_append, List.cons_append, List.append_nil, one_bool, one_int, one_str, one_nilp, one_ptr, one_sl, one_hsl, one_map, one_fn, List.length_cons, List.length_nil, List.set_cons_zero, List.set_cons_succ, Nat.reduceLT, Nat.reduceAdd, h', i64_in hb, qSt_one (R := Prop) hf h']
  exact ⟨trivial, rfl⟩

theorem ev_level {H : AH} {p : Nat} {rate burst level : Int} (h : H.get p = some (bk p rate burst level)) : evl X O 21 [.ptr p 0] H = some (.val (.int .i64 level) H) := by
  refine of_form_eq e21 xf21 (hO _ _ _ (by decide) (by decide)) ?_
  unfold bk at h
  simp only [c21, r21_0, r21_1, opn_z, opn_s, sel_z, sel_s, qCd_eq, qIf_true, qIf_false, qFn_eq, qBl_eq, qO_some, qRes_val, qHp_some, qPick_true, qPick_false, qG_tt, qG_ff, qG_tf, qG_ft, cellsK_some, qLd_ptr, qLd_vptr, qLdA_ptr, qLdA_vptr, qFa_ptr, qFa_vptr, qNc_ptr, qNc_vptr, qNc_fn, qNot_bool, qExt_tup, qCallV_fn, qLss_int, qLeq_int, qGtr_int, qGeq_int, qEql_int, qNeq_int, qAdd_int, qSub_int, qMul_int, qConvI_int, qLenL_sl, qLenL_hsl, qLenS_str, foldO, min2_int, max2_int, qSame_refl, Nat.zero_add, List.getElem?_cons_zero, List.getElem?_cons_succ, List.nil_append, List.cons_append, List.append_nil, one_bool, one_int, one_str, one_nilp, one_ptr, one_sl, one_hsl, one_map, one_fn, List.length_cons, List.length_nil, List.set_cons_zero, List.set_cons_succ, Nat.reduceLT, Nat.reduceAdd, h]
  exact ⟨trivial, trivial⟩

theorem ev_take {H : AH} (hf : Aes.Fn H) {p : Nat} {rate burst level : Int} (c : Int) (h : H.get p = some (bk p rate burst level)) (ft : Fit rate burst level) :
    ∃ H', evl X O 19 [.ptr p 0, .int .i64 c] H = some (.val (.bool (decide (max c 0 ≤ level))) H') ∧ Upd H H' p (bk p rate burst (if max c 0 ≤ level then level - max c 0 else level)) := by
  have h' := h
  unfold bk at h'
  have := ft.l0; have := ft.lb; have := ft.b1
  by_cases hc : max c 0 ≤ level
  · refine ⟨_, of_form_eq e19 xf19 (hO _ _ _ (by decide) (by decide)) (H' := H.set p (some (bk p rate burst (level - max c 0)))) ?_, by rw [if_pos hc]; exact .set hf h _⟩
    have h1 : ¬ level < max c 0 := by omega
    simp only [c19, r19_0, r19_1, r19_2, r19_3, r19_4, r19_5, opn_z, opn_s, sel_z, sel_s, qCd_eq, qIf_true, qIf_false, qFn_eq, qBl_eq, qO_some, qRes_val, qHp_some, qPick_true, qPick_false, qG_tt, qG_ff, qG_tf, qG_ft, cellsK_some, qLd_ptr, qLd_vptr, qLdA_ptr, qLdA_vptr, qFa_ptr, qFa_vptr, qNc_ptr, qNc_vptr, qNc_fn, qNot_bool, qExt_tup, qCallV_fn, qLss_int, qLeq_int, qGtr_int, qGeq_int, qEql_int, qNeq_int, qAdd_int, qSub_int, qMul_int, qConvI_int, qLenL_sl, qLenL_hsl, qLenS_str, foldO, min2_int, max2_int, qSame_refl, Nat.zero_add, List.getElem?_cons_zero, List.getElem?_cons_succ, List.nil_append, List.cons_append, List.append_nil, one_bool, one_int, one_str, one_nilp, one_ptr, one_sl, one_hsl, one_map, one_fn, List.length_cons, List.length_nil, List.set_cons_zero, List.set_cons_succ, Nat.reduceLT, Nat.reduceAdd, h', h1, hc, decide_true, decide_false, i64_in (x := level - max c 0) (by omega), qSt_one (R := Prop) hf h']
    exact ⟨trivial, rfl⟩
  · refine ⟨H, of_form_eq e19 xf19 (hO _ _ _ (by decide) (by decide)) ?_, ⟨hf, rfl, by rw [if_neg hc]; exact h, fun _ _ => rfl⟩⟩
    have h1 : level < max c 0 := by omega
    simp only [c19, r19_0, r19_1, r19_2, r19_3, r19_4, r19_5, opn_z, opn_s, sel_z, sel_s, qCd_eq, qIf_true, qIf_false, qFn_eq, qBl_eq, qO_some, qRes_val, qHp_some, qPick_true, qPick_false, qG_tt, qG_ff, qG_tf, qG_ft, cellsK_some, qLd_ptr, qLd_vptr, qLdA_ptr, qLdA_vptr, qFa_ptr, qFa_vptr, qNc_ptr, qNc_vptr, qNc_fn, qNot_bool, qExt_tup, qCallV_fn, qLss_int, qLeq_int, qGtr_int, qGeq_int, qEql_int, qNeq_int, qAdd_int, qSub_int, qMul_int, qConvI_int, qLenL_sl, qLenL_hsl, qLenS_str, foldO, min2_int, max2_int, qSame_refl, Nat.zero_add, List.getElem?_cons_zero, List.getElem?_cons_succ, List.nil_append, List.cons_append, List.append_nil, one_bool, one_int, one_str, one_nilp, one_ptr, one_sl, one_hsl, one_map, one_fn, List.length_cons, List.length_nil, List.set_cons_zero, List.set_cons_succ, Nat.reduceLT, Nat.reduceAdd, h', h1, hc, decide_true, decide_false]
    exact ⟨trivial, trivial⟩

/-- so many more -/
def more (rate burst level n : Int) : Int := min (level + rate * max 0 (min n 1073741824)) burst

theorem prod_ok {rate level n burst : Int} (ft : Fit rate burst level) : 0 ≤ rate * max 0 (min n 1073741824) ∧ rate * max 0 (min n 1073741824) ≤ 1073741824000 := by
  have h1 : 0 ≤ max 0 (min n 1073741824) := by omega
  have h2 : max 0 (min n 1073741824) ≤ 1073741824 := by omega
  have := Int.mul_le_mul ft.r1 h2 h1 (by decide)
  exact ⟨Int.mul_nonneg ft.r0 h1, by simpa using this⟩

omit hO in
theorem more_fit {rate burst level : Int} (n : Int) (ft : Fit rate burst level) : Fit rate burst (more rate burst level n) := by
  have := prod_ok (O := fun _ _ _ => none) (fun _ _ _ _ _ => rfl) (n := n) ft
  refine ⟨ft.r0, ft.r1, ft.b1, ?_, ?_⟩ <;> unfold more <;> have := ft.l0 <;> have := ft.lb <;> omega

theorem ev_tick {H : AH} (hf : Aes.Fn H) {p : Nat} {rate burst level : Int} (n : Int) (h : H.get p = some (bk p rate burst level)) (ft : Fit rate burst level) :
    ∃ H', evl X O 17 [.ptr p 0, .int .i64 n] H = some (.val (.tup []) H') ∧ Upd H H' p (bk p rate burst (more rate burst level n)) := by
  have hp := prod_ok hO (n := n) ft
  have := ft.l0; have := ft.lb; have := ft.b1
  obtain ⟨H', h1, h2⟩ := ev_pour hO hf (n := rate * max 0 (min n 1073741824)) h (by omega)
  refine ⟨H', of_form_eq e17 xf17 (hO _ _ _ (by decide) (by decide)) (v := .tup []) ?_, h2⟩
  unfold bk at h
  simp only [c17, r17_0, opn_z, opn_s, sel_z, sel_s, qCd_eq, qIf_true, qIf_false, qFn_eq, qBl_eq, qO_some, qRes_val, qHp_some, qPick_true, qPick_false, qG_tt, qG_ff, qG_tf, qG_ft, cellsK_some, qLd_ptr, qLd_vptr, qLdA_ptr, qLdA_vptr, qFa_ptr, qFa_vptr, qNc_ptr, qNc_vptr, qNc_fn, qNot_bool, qExt_tup, qCallV_fn, qLss_int, qLeq_int, qGtr_int, qGeq_int, qEql_int, qNeq_int, qAdd_int, qSub_int, qMul_int, qConvI_int, qLenL_sl, qLenL_hsl, qLenS_str, foldO, min2_int, max2_int, qSame_refl, Nat.zero_add, List.getElem?_cons_zero, List.getElem?_cons_succ, List.nil_append, List.cons_append, List.append_nil, one_bool, one_int, one_str, one_nilp, one_ptr, one_sl, one_hsl, one_map, one_fn, List.length_cons, List.length_nil, List.set_cons_zero, List.set_cons_succ, Nat.reduceLT, Nat.reduceAdd, h, ev_cut hO, i64_in (x := rate * max 0 (min n 1073741824)) (by omega), h1]
  exact ⟨trivial, trivial⟩

def cutR (x m : Int) : Int := max 0 (min x m)

theorem ev_new {H : AH} (hf : Aes.Fn H) (rate burst : Int) :
    ∃ H', evl X O 15 [.int .i64 rate, .int .i64 burst] H = some (.val (.ptr H.nx 0) H') ∧ New H H' (bk H.nx (cutR rate 1000) (cutR burst 100000) (cutR burst 100000)) ∧ Fit (cutR rate 1000) (cutR burst 100000) (cutR burst 100000) := by
  have ft : Fit (cutR rate 1000) (cutR burst 100000) (cutR burst 100000) := by constructor <;> unfold cutR <;> omega
  have n1 := New.push hf (.cells [.int .i64 (cutR rate 1000), .int .i64 (cutR burst 100000), .int .i64 0, .nilfn])
  generalize hH1 : H.push (.cells [.int .i64 (cutR rate 1000), .int .i64 (cutR burst 100000), .int .i64 0, .nilfn]) = H1 at n1
  have u1 := Upd.set n1.fn n1.at_ (bk H.nx (cutR rate 1000) (cutR burst 100000) 0)
  have hs := qSt_one (R := Prop) n1.fn n1.at_ 3 (.fn (.func 45) [.ptr H.nx 0] [])
  generalize hH2 : H1.set H.nx (some (bk H.nx (cutR rate 1000) (cutR burst 100000) 0)) = H2 at u1
  have := ft.b1; have := ft.l0
  obtain ⟨H', h1, h2⟩ := ev_pour hO u1.fn (n := cutR burst 100000) u1.at_ (by omega)
  have e : min (0 + cutR burst 100000) (cutR burst 100000) = cutR burst 100000 := by omega
  rw [e] at h2
  refine ⟨H', of_form_eq e15 xf15 (hO _ _ _ (by decide) (by decide)) ?_, n1.upd (u1.trans h2), ft⟩
  have hb : fillP z88 [(0, 1, .int .i64 (cutR rate 1000)), (1, 1, .int .i64 (cutR burst 100000))] = some [.int .i64 (cutR rate 1000), .int .i64 (cutR burst 100000), .int .i64 0, .nilfn] := rfl
  have hbx : ∀ k : AV → AH → Prop, qBox (.agg [.int .i64 (cutR rate 1000), .int .i64 (cutR burst 100000), .int .i64 0, .nilfn]) H k = k (.ptr H.nx 0) H1 := fun k => by rw [qBox_fn hf _ rfl, AV.cells, hH1]
  have ea := u1.at_
  unfold bk at ea hH2
  unfold cutR at *
  simp only [c15, r15_0, r15_1, r15_2, r15_3, r15_4, opn_z, opn_s, sel_z, sel_s, qCd_eq, qIf_true, qIf_false, qFn_eq, qBl_eq, qO_some, qRes_val, qHp_some, qPick_true, qPick_false, qG_tt, qG_ff, qG_tf, qG_ft, cellsK_some, qLd_ptr, qLd_vptr, qLdA_ptr, qLdA_vptr, qFa_ptr, qFa_vptr, qNc_ptr, qNc_vptr, qNc_fn, qNot_bool, qExt_tup, qCallV_fn, qLss_int, qLeq_int, qGtr_int, qGeq_int, qEql_int, qNeq_int, qAdd_int, qSub_int, qMul_int, qConvI_int, qLenL_sl, qLenL_hsl, qLenS_str, foldO, min2_int, max2_int, qSame_refl, Nat.zero_add, List.getElem?_cons_zero, List.getElem?_cons_succ, List.nil_append, List.cons_append, List.append_nil, one_bool, one_int, one_str, one_nilp, one_ptr, one_sl, one_hsl, one_map, one_fn, List.length_cons, List.length_nil, List.set_cons_zero, List.set_cons_succ, Nat.reduceLT, Nat.reduceAdd, ev_cut hO, qBld, hb, hbx, hs, hH2, ea, h1]
  exact ⟨trivial, trivial⟩

end
end T
