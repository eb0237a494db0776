import Derived.Test.YtgmifbbimcblcaaLitRa
import Derived.Test.YtgmifbbimcblcaaS10
set_option linter.all false
set_option linter.unusedVariables false
set_option linter.unusedSimpArgs false
set_option maxRecDepth 10000
namespace T
open Go Go.Aes Go.Proofs

def OutO (O : CallF) : Prop := ∀ g l H, g ≠ 99998 → g ≠ 99999 → O g l H = none

/-- within its bounds -/
theorem i64_in {x : Int} (h : -9223372036854775808 ≤ x ∧ x ≤ 9223372036854775807) : IntKind.i64.wrap x = x := IntWalk.i64_in _ h

/-- one thing turned -/
structure Upd (H H' : AH) (p : Nat) (o : AO) : Prop where
  fn : Aes.Fn H'
  nx : H'.nx = H.nx
  at_ : H'.get p = some o
  other : ∀ j, j ≠ p → H'.get j = H.get j

theorem Upd.set {H : AH} (hf : Aes.Fn H) {p : Nat} {o0 : AO} (hg : H.get p = some o0) (o : AO) : Upd H (H.set p (some o)) p o :=
  ⟨hf.set p _, AH.nx_set _ _ _, by rw [hf.get_set (hf.lt hg)]; simp, fun j hj => by rw [hf.get_set (hf.lt hg)]; simp [hj]⟩

theorem Upd.trans {H H1 H2 : AH} {p : Nat} {o o2 : AO} (h : Upd H H1 p o) (k : Upd H1 H2 p o2) : Upd H H2 p o2 :=
  ⟨k.fn, k.nx.trans h.nx, k.at_, fun j hj => (k.other j hj).trans (h.other j hj)⟩

/-- one thing more -/
structure New (H H' : AH) (o : AO) : Prop where
  fn : Aes.Fn H'
  nx : H'.nx = H.nx + 1
  at_ : H'.get H.nx = some o
  other : ∀ j, j < H.nx → H'.get j = H.get j

theorem New.push {H : AH} (hf : Aes.Fn H) (o : AO) : New H (H.push o) o :=
  ⟨hf.push o, hf.nx_push o, by rw [hf.get_push]; simp, fun j hj => by rw [hf.get_push, if_neg (by omega)]⟩

theorem New.upd {H H1 H2 : AH} {o o2 : AO} (h : New H H1 o) (k : Upd H1 H2 H.nx o2) : New H H2 o2 :=
  ⟨k.fn, k.nx.trans h.nx, k.at_, fun j hj => (k.other j (by omega)).trans (h.other j hj)⟩

/-- a bucket -/
def bk (p : Nat) (rate burst level : Int) : AO := .cells [.int .i64 rate, .int .i64 burst, .int .i64 level, .fn (.func 45) [.ptr p 0] []]
/-- the document's -/
def rb (rate burst level : Int) : AO := .cells [.int .i64 rate, .int .i64 burst, .int .i64 level]

/-- what a bucket is -/
structure Fit (rate burst level : Int) : Prop where
  r0 : 0 ≤ rate
  r1 : rate ≤ 1000
  b1 : burst ≤ 100000
  l0 : 0 ≤ level
  lb : level ≤ burst

section
variable {O : CallF} (hO : OutO O)
include hO

theorem ev_cut (a m : Int) (H : AH) : evl X O 44 [.int .i64 a, .int .i64 m] H = some (.val (.int .i64 (max 0 (min a m))) H) := by
  refine of_form_eq e44 xf44 (hO _ _ _ (by decide) (by decide)) ?_
  simp only [c44, r44_0, r44_1, opn_z, opn_s, sel_z, sel_s, qCd_eq, qIf_true, qIf_false, qFn_eq, qBl_eq, qO_some, qRes_val, qHp_some, qPick_true, qPick_false, qG_tt, qG_ff, qG_tf, qG_ft, cellsK_some, qLd_ptr, qLd_vptr, qLdA_ptr, qLdA_vptr, qFa_ptr, qFa_vptr, qNc_ptr, qNc_vptr, qNc_fn, qNot_bool, qExt_tup, qCallV_fn, qLss_int, qLeq_int, qGtr_int, qGeq_int, qEql_int, qNeq_int, qAdd_int, qSub_int, qMul_int, qConvI_int, qLenL_sl, qLenL_hsl, qLenS_str, foldO, min2_int, max2_int, qSame_refl, Nat.zero_add, List.getElem?_cons_zero, List.getElem?_cons_succ, List.nil_append, List.cons_append, List.append_nil, one_bool, one_int, one_str, one_nilp, one_ptr, one_sl, one_hsl, one_map, one_fn, List.length_cons, List.length_nil, List.set_cons_zero, List.set_cons_succ, Nat.reduceLT, Nat.reduceAdd]
  exact ⟨trivial, trivial⟩

theorem ev_pour {H : AH} (hf : Aes.Fn H) {p : Nat} {rate burst level n : Int} (h : H.get p = some (bk p rate burst level)) (hb : -9223372036854775808 ≤ level + n ∧ level + n ≤ 9223372036854775807) :
    ∃ H', evl X O 45 [.ptr p 0, .int .i64 n] H = some (.val (.tup []) H') ∧ Upd H H' p (bk p rate burst (min (level + n) burst)) := by
  refine ⟨_, of_form_eq e45 xf45 (hO _ _ _ (by decide) (by decide)) (v := .tup []) (H' := H.set p (some (bk p rate burst (min (level + n) burst)))) ?_, .set hf h _⟩
  have h' := h
  unfold bk at h'
  simp only [c45, r45_0, opn_z, opn_s, sel_z, sel_s, qCd_eq, qIf_true, qIf_false, qFn_eq, qBl_eq, qO_some, qRes_val, qHp_some, qPick_true, qPick_false, qG_tt, qG_ff, qG_tf, qG_ft, cellsK_some, qLd_ptr, qLd_vptr, qLdA_ptr, qLdA_vptr, qFa_ptr, qFa_vptr, qNc_ptr, qNc_vptr, qNc_fn, qNot_bool, qExt_tup, qCallV_fn, qLss_int, qLeq_int, qGtr_int, qGeq_int, qEql_int, qNeq_int, qAdd_int, qSub_int, qMul_int, qConvI_int, qLenL_sl, qLenL_hsl, qLenS_str, foldO, min2_int, max2_int, qSame_refl, Nat.zero_add, List.getElem?_cons_zero, List.getElem?_cons_succ, List.nil_append, List.cons_append, List.append_nil, one_bool, one_int, one_str, one_nilp, one_ptr, one_sl, one_hsl, one_map, one_fn, List.length_cons, List.length_nil, List.set_cons_zero, List.set_cons_succ, Nat.reduceLT, Nat.reduceAdd, h', i64_in hb, qSt_one (R := Prop) hf h']
  exact ⟨trivial, rfl⟩

theorem ev_level {H : AH} {p : Nat} {rate burst level : Int} (h : H.get p = some (bk p rate burst level)) : evl X O 21 [.ptr p 0] H = some (.val (.int .i64 level) H) := by
  refine of_form_eq e21 xf21 (hO _ _ _ (by decide) (by decide)) ?_
  unfold bk at h
  simp only [c21, r21_0, r21_1, opn_z, opn_s, sel_z, sel_s, qCd_eq, qIf_true, qIf_false, qFn_eq, qBl_eq, qO_some, qRes_val, qHp_some, qPick_true, qPick_false, qG_tt, qG_ff, qG_tf, qG_ft, cellsK_some, qLd_ptr, qLd_vptr, qLdA_ptr, qLdA_vptr, qFa_ptr, qFa_vptr, qNc_ptr, qNc_vptr, qNc_fn, qNot_bool, qExt_tup, qCallV_fn, qLss_int, qLeq_int, qGtr_int, qGeq_int, qEql_int, qNeq_int, qAdd_int, qSub_int, qMul_int, qConvI_int, qLenL_sl, qLenL_hsl, qLenS_str, foldO, min2_int, max2_int, qSame_refl, Nat.zero_add, List.getElem?_cons_zero, List.getElem?_cons_succ, List.nil_append, List.cons_append, List.append_nil, one_bool, one_int, one_str, one_nilp, one_ptr, one_sl, one_hsl, one_map, one_fn, List.length_cons, List.length_nil, List.set_cons_zero, List.set_cons_succ, Nat.reduceLT, Nat.reduceAdd, h]
  exact ⟨trivial, trivial⟩

theorem ev_take {H : AH} (hf : Aes.Fn H) {p : Nat} {rate burst level : Int} (c : Int) (h : H.get p = some (bk p rate burst level)) (ft : Fit rate burst level) :
    ∃ H', evl X O 19 [.ptr p 0, .int .i64 c] H = some (.val (.bool (decide (max c 0 ≤ level))) H') ∧ Upd H H' p (bk p rate burst (if max c 0 ≤ level then level - max c 0 else level)) := by
  have h' := h
  unfold bk at h'
  have := ft.l0; have := ft.lb; have := ft.b1
  by_cases hc : max c 0 ≤ level
  · refine ⟨_, of_form_eq e19 xf19 (hO _ _ _ (by decide) (by decide)) (H' := H.set p (some (bk p rate burst (level - max c 0)))) ?_, by rw [if_pos hc]; exact .set hf h _⟩
    have h1 : ¬ level < max c 0 := by omega
    simp only [c19, r19_0, r19_1, r19_2, r19_3, r19_4, r19_5, opn_z, opn_s, sel_z, sel_s, qCd_eq, qIf_true, qIf_false, qFn_eq, qBl_eq, qO_some, qRes_val, qHp_some, qPick_true, qPick_false, qG_tt, qG_ff, qG_tf, qG_ft, cellsK_some, qLd_ptr, qLd_vptr, qLdA_ptr, qLdA_vptr, qFa_ptr, qFa_vptr, qNc_ptr, qNc_vptr, qNc_fn, qNot_bool, qExt_tup, qCallV_fn, qLss_int, qLeq_int, qGtr_int, qGeq_int, qEql_int, qNeq_int, qAdd_int, qSub_int, qMul_int, qConvI_int, qLenL_sl, qLenL_hsl, qLenS_str, foldO, min2_int, max2_int, qSame_refl, Nat.zero_add, List.getElem?_cons_zero, List.getElem?_cons_succ, List.nil_append, List.cons_append, List.append_nil, one_bool, one_int, one_str, one_nilp, one_ptr, one_sl, one_hsl, one_map, one_fn, List.length_cons, List.length_nil, List.set_cons_zero, List.set_cons_succ, Nat.reduceLT, Nat.reduceAdd, h', h1, hc, decide_true, decide_false, i64_in (x := level - max c 0) (by omega), qSt_one (R := Prop) hf h']
    exact ⟨trivial, rfl⟩
  · refine ⟨H, of_form_eq e19 xf19 (hO _ _ _ (by decide) (by decide)) ?_, ⟨hf, rfl, by rw [if_neg hc]; exact h, fun _ _ => rfl⟩⟩
    have h1 : level < max c 0 := by omega
    simp only [c19, r19_0, r19_1, r19_2, r19_3, r19_4, r19_5, opn_z, opn_s, sel_z, sel_s, qCd_eq, qIf_true, qIf_false, qFn_eq, qBl_eq, qO_some, qRes_val, qHp_some, qPick_true, qPick_false, qG_tt, qG_ff, qG_tf, qG_ft, cellsK_some, qLd_ptr, qLd_vptr, qLdA_ptr, qLdA_vptr, qFa_ptr, qFa_vptr, qNc_ptr, qNc_vptr, qNc_fn, qNot_bool, qExt_tup, qCallV_fn, qLss_int, qLeq_int, qGtr_int, qGeq_int, qEql_int, qNeq_int, qAdd_int, qSub_int, qMul_int, qConvI_int, qLenL_sl, qLenL_hsl, qLenS_str, foldO, min2_int, max2_int, qSame_refl, Nat.zero_add, List.getElem?_cons_zero, List.getElem?_cons_succ, List.nil_append, List.cons_append, List.append_nil, one_bool, one_int, one_str, one_nilp, one_ptr, one_sl, one_hsl, one_map, one_fn, List.length_cons, List.length_nil, List.set_cons_zero, List.set_cons_succ, Nat.reduceLT, Nat.reduceAdd, h', h1, hc, decide_true, decide_false]
    exact ⟨trivial, trivial⟩

/-- so many more -/
def more (rate burst level n : Int) : Int := min (level + rate * max 0 (min n 1073741824)) burst

theorem prod_ok {rate level n burst : Int} (ft : Fit rate burst level) : 0 ≤ rate * max 0 (min n 1073741824) ∧ rate * max 0 (min n 1073741824) ≤ 1073741824000 := by
  have h1 : 0 ≤ max 0 (min n 1073741824) := by omega
  have h2 : max 0 (min n 1073741824) ≤ 1073741824 := by omega
  have := Int.mul_le_mul ft.r1 h2 h1 (by decide)
  exact ⟨Int.mul_nonneg ft.r0 h1, by simpa using this⟩

omit hO in
theorem more_fit {rate burst level : Int} (n : Int) (ft : Fit rate burst level) : Fit rate burst (more rate burst level n) := by
  have := prod_ok (O := fun _ _ _ => none) (fun _ _ _ _ _ => rfl) (n := n) ft
  refine ⟨ft.r0, ft.r1, ft.b1, ?_, ?_⟩ <;> unfold more <;> have := ft.l0 <;> have := ft.lb <;> omega

theorem ev_tick {H : AH} (hf : Aes.Fn H) {p : Nat} {rate burst level : Int} (n : Int) (h : H.get p = some (bk p rate burst level)) (ft : Fit rate burst level) :
    ∃ H', evl X O 17 [.ptr p 0, .int .i64 n] H = some (.val (.tup []) H') ∧ Upd H H' p (bk p rate burst (more rate burst level n)) := by
  have hp := prod_ok hO (n := n) ft
  have := ft.l0; have := ft.lb; have := ft.b1
  obtain ⟨H', h1, h2⟩ := ev_pour hO hf (n := rate * max 0 (min n 1073741824)) h (by omega)
  refine ⟨H', of_form_eq e17 xf17 (hO _ _ _ (by decide) (by decide)) (v := .tup []) ?_, h2⟩
  unfold bk at h
  simp only [c17, r17_0, opn_z, opn_s, sel_z, sel_s, qCd_eq, qIf_true, qIf_false, qFn_eq, qBl_eq, qO_some, qRes_val, qHp_some, qPick_true, qPick_false, qG_tt, qG_ff, qG_tf, qG_ft, cellsK_some, qLd_ptr, qLd_vptr, qLdA_ptr, qLdA_vptr, qFa_ptr, qFa_vptr, qNc_ptr, qNc_vptr, qNc_fn, qNot_bool, qExt_tup, qCallV_fn, qLss_int, qLeq_int, qGtr_int, qGeq_int, qEql_int, qNeq_int, qAdd_int, qSub_int, qMul_int, qConvI_int, qLenL_sl, qLenL_hsl, qLenS_str, foldO, min2_int, max2_int, qSame_refl, Nat.zero_add, List.getElem?_cons_zero, List.getElem?_cons_succ, List.nil_append, List.cons_append, List.append_nil, one_bool, one_int, one_str, one_nilp, one_ptr, one_sl, one_hsl, one_map, one_fn, List.length_cons, List.length_nil, List.set_cons_zero, List.set_cons_succ, Nat.reduceLT, Nat.reduceAdd, h, ev_cut hO, i64_in (x := rate * max 0 (min n 1073741824)) (by omega), h1]
  exact ⟨trivial, trivial⟩

def cutR (x m : Int) : Int := max 0 (min x m)

theorem ev_new {H : AH} (hf : Aes.Fn H) (rate burst : Int) :
    ∃ H', evl X O 15 [.int .i64 rate, .int .i64 burst] H = some (.val (.ptr H.nx 0) H') ∧ New H H' (bk H.nx (cutR rate 1000) (cutR burst 100000) (cutR burst 100000)) ∧ Fit (cutR rate 1000) (cutR burst 100000) (cutR burst 100000) := by
  have ft : Fit (cutR rate 1000) (cutR burst 100000) (cutR burst 100000) := by constructor <;> unfold cutR <;> omega
  have n1 := New.push hf (.cells [.int .i64 (cutR rate 1000), .int .i64 (cutR burst 100000), .int .i64 0, .nilfn])
  generalize hH1 : H.push (.cells [.int .i64 (cutR rate 1000), .int .i64 (cutR burst 100000), .int .i64 0, .nilfn]) = H1 at n1
  have u1 := Upd.set n1.fn n1.at_ (bk H.nx (cutR rate 1000) (cutR burst 100000) 0)
  have hs := qSt_one (R := Prop) n1.fn n1.at_ 3 (.fn (.func 45) [.ptr H.nx 0] [])
  generalize hH2 : H1.set H.nx (some (bk H.nx (cutR rate 1000) (cutR burst 100000) 0)) = H2 at u1
  have := ft.b1; have := ft.l0
  obtain ⟨H', h1, h2⟩ := ev_pour hO u1.fn (n := cutR burst 100000) u1.at_ (by omega)
  have e : min (0 + cutR burst 100000) (cutR burst 100000) = cutR burst 100000 := by omega
  rw [e] at h2
  refine ⟨H', of_form_eq e15 xf15 (hO _ _ _ (by decide) (by decide)) ?_, n1.upd (u1.trans h2), ft⟩
  have hb : fillP z88 [(0, 1, .int .i64 (cutR rate 1000)), (1, 1, .int .i64 (cutR burst 100000))] = some [.int .i64 (cutR rate 1000), .int .i64 (cutR burst 100000), .int .i64 0, .nilfn] := rfl
  have hbx : ∀ k : AV → AH → Prop, qBox (.agg [.int .i64 (cutR rate 1000), .int .i64 (cutR burst 100000), .int .i64 0, .nilfn]) H k = k (.ptr H.nx 0) H1 := fun k => by rw [qBox_fn hf _ rfl, AV.cells, hH1]
  have ea := u1.at_
  unfold bk at ea hH2
  unfold cutR at *
  simp only [c15, r15_0, r15_1, r15_2, r15_3, r15_4, opn_z, opn_s, sel_z, sel_s, qCd_eq, qIf_true, qIf_false, qFn_eq, qBl_eq, qO_some, qRes_val, qHp_some, qPick_true, qPick_false, qG_tt, qG_ff, qG_tf, qG_ft, cellsK_some, qLd_ptr, qLd_vptr, qLdA_ptr, qLdA_vptr, qFa_ptr, qFa_vptr, qNc_ptr, qNc_vptr, qNc_fn, qNot_bool, qExt_tup, qCallV_fn, qLss_int, qLeq_int, qGtr_int, qGeq_int, qEql_int, qNeq_int, qAdd_int, qSub_int, qMul_int, qConvI_int, qLenL_sl, qLenL_hsl, qLenS_str, foldO, min2_int, max2_int, qSame_refl, Nat.zero_add, List.getElem?_cons_zero, List.getElem?_cons_succ, List.nil_append, List.cons_append, List.append_nil, one_bool, one_int, one_str, one_nilp, one_ptr, one_sl, one_hsl, one_map, one_fn, List.length_cons, List.length_nil, List.set_cons_zero, List.set_cons_succ, Nat.reduceLT, Nat.reduceAdd, ev_cut hO, qBld, hb, hbx, hs, hH2, ea, h1]
  exact ⟨trivial, trivial⟩

end
end T
set_option linter.unusedVariables false
set_option linter.unusedSimpArgs false
set_option maxRecDepth 10000
namespace T
open Go Go.Aes Go.Proofs

theorem eq_nil23 (i o : Nat) (k : AV → Prop) : qEql X 23 (.ptr i o) .nilp k = k (.bool false) := rfl
theorem ne_nil23 (i o : Nat) (k : AV → Prop) : qNeq X 23 (.ptr i o) .nilp k = k (.bool true) := rfl

section
variable {O : CallF} (hO : OutO O)
include hO

def cutR2 (x m : Int) : Int := min (max x 0) m

theorem ev_rnew {H : AH} (hf : Aes.Fn H) (rate burst : Int) :
    ∃ H', evl X O 16 [.int .i64 rate, .int .i64 burst] H = some (.val (.ptr H.nx 0) H') ∧ New H H' (rb (cutR rate 1000) (cutR burst 100000) (cutR burst 100000)) := by
  have n1 := New.push hf (rb (cutR rate 1000) (cutR burst 100000) 0)
  generalize hH1 : H.push (rb (cutR rate 1000) (cutR burst 100000) 0) = H1 at n1
  have u1 := Upd.set n1.fn n1.at_ (rb (cutR rate 1000) (cutR burst 100000) (cutR burst 100000))
  have hs := qSt_one (R := Prop) n1.fn n1.at_ 2 (.int .i64 (cutR burst 100000))
  refine ⟨_, of_form_eq e16 xf16 (hO _ _ _ (by decide) (by decide)) ?_, n1.upd u1⟩
  have hb : fillP z31 [(0, 1, .int .i64 (cutR rate 1000)), (1, 1, .int .i64 (cutR burst 100000))] = some [.int .i64 (cutR rate 1000), .int .i64 (cutR burst 100000), .int .i64 0] := rfl
  have hbx : ∀ k : AV → AH → Prop, qBox (.agg [.int .i64 (cutR rate 1000), .int .i64 (cutR burst 100000), .int .i64 0]) H k = k (.ptr H.nx 0) H1 := fun k => by rw [qBox_fn hf _ rfl, AV.cells, ← hH1]; rfl
  have ea := n1.at_
  unfold rb at ea
  have e1 : ∀ x m : Int, 0 ≤ m → min (max x 0) m = cutR x m := fun x m hm => by unfold cutR; omega
  have e2 := e1 rate 1000 (by decide)
  have e3 := e1 burst 100000 (by decide)
  simp only [c16, r16_0, r16_1, r16_2, r16_3, opn_z, opn_s, sel_z, sel_s, qCd_eq, qIf_true, qIf_false, qFn_eq, qBl_eq, qO_some, qRes_val, qHp_some, qPick_true, qPick_false, qG_tt, qG_ff, qG_tf, qG_ft, cellsK_some, qLd_ptr, qLd_vptr, qLdA_ptr, qLdA_vptr, qFa_ptr, qFa_vptr, qNc_ptr, qNc_vptr, qNc_fn, qNot_bool, qExt_tup, qCallV_fn, qLss_int, qLeq_int, qGtr_int, qGeq_int, qEql_int, qNeq_int, qAdd_int, qSub_int, qMul_int, qConvI_int, qLenL_sl, qLenL_hsl, qLenS_str, foldO, min2_int, max2_int, qSame_refl, Nat.zero_add, List.getElem?_cons_zero, List.getElem?_cons_succ, List.nil_append, List.cons_append, List.append_nil, one_bool, one_int, one_str, one_nilp, one_ptr, one_sl, one_hsl, one_map, one_fn, List.length_cons, List.length_nil, List.set_cons_zero, List.set_cons_succ, Nat.reduceLT, Nat.reduceAdd, e2, e3, qBld, hb, hbx, hs, ea]
  exact ⟨trivial, rfl⟩

theorem ev_rtake {H : AH} (hf : Aes.Fn H) {p : Nat} {rate burst level : Int} (c : Int) (h : H.get p = some (rb rate burst level)) (ft : Fit rate burst level) :
    ∃ H', evl X O 20 [.ptr p 0, .int .i64 c] H = some (.val (.bool (decide (max c 0 ≤ level))) H') ∧ Upd H H' p (rb rate burst (if max c 0 ≤ level then level - max c 0 else level)) := by
  have h' := h
  unfold rb at h'
  have := ft.l0; have := ft.lb; have := ft.b1
  by_cases hc : max c 0 ≤ level
  · refine ⟨_, of_form_eq e20 xf20 (hO _ _ _ (by decide) (by decide)) (H' := H.set p (some (rb rate burst (level - max c 0)))) ?_, by rw [if_pos hc]; exact .set hf h _⟩
    have h1 : ¬ level < max c 0 := by omega
    simp only [c20, r20_0, r20_1, r20_2, r20_3, r20_4, r20_5, opn_z, opn_s, sel_z, sel_s, qCd_eq, qIf_true, qIf_false, qFn_eq, qBl_eq, qO_some, qRes_val, qHp_some, qPick_true, qPick_false, qG_tt, qG_ff, qG_tf, qG_ft, cellsK_some, qLd_ptr, qLd_vptr, qLdA_ptr, qLdA_vptr, qFa_ptr, qFa_vptr, qNc_ptr, qNc_vptr, qNc_fn, qNot_bool, qExt_tup, qCallV_fn, qLss_int, qLeq_int, qGtr_int, qGeq_int, qEql_int, qNeq_int, qAdd_int, qSub_int, qMul_int, qConvI_int, qLenL_sl, qLenL_hsl, qLenS_str, foldO, min2_int, max2_int, qSame_refl, Nat.zero_add, List.getElem?_cons_zero, List.getElem?_cons_succ, List.nil_append, List.cons_append, List.append_nil, one_bool, one_int, one_str, one_nilp, one_ptr, one_sl, one_hsl, one_map, one_fn, List.length_cons, List.length_nil, List.set_cons_zero, List.set_cons_succ, Nat.reduceLT, Nat.reduceAdd, h', h1, hc, decide_true, decide_false, i64_in (x := level - max c 0) (by omega), qSt_one (R := Prop) hf h']
    exact ⟨trivial, rfl⟩
  · refine ⟨H, of_form_eq e20 xf20 (hO _ _ _ (by decide) (by decide)) ?_, ⟨hf, rfl, by rw [if_neg hc]; exact h, fun _ _ => rfl⟩⟩
    have h1 : level < max c 0 := by omega
    simp only [c20, r20_0, r20_1, r20_2, r20_3, r20_4, r20_5, opn_z, opn_s, sel_z, sel_s, qCd_eq, qIf_true, qIf_false, qFn_eq, qBl_eq, qO_some, qRes_val, qHp_some, qPick_true, qPick_false, qG_tt, qG_ff, qG_tf, qG_ft, cellsK_some, qLd_ptr, qLd_vptr, qLdA_ptr, qLdA_vptr, qFa_ptr, qFa_vptr, qNc_ptr, qNc_vptr, qNc_fn, qNot_bool, qExt_tup, qCallV_fn, qLss_int, qLeq_int, qGtr_int, qGeq_int, qEql_int, qNeq_int, qAdd_int, qSub_int, qMul_int, qConvI_int, qLenL_sl, qLenL_hsl, qLenS_str, foldO, min2_int, max2_int, qSame_refl, Nat.zero_add, List.getElem?_cons_zero, List.getElem?_cons_succ, List.nil_append, List.cons_append, List.append_nil, one_bool, one_int, one_str, one_nilp, one_ptr, one_sl, one_hsl, one_map, one_fn, List.length_cons, List.length_nil, List.set_cons_zero, List.set_cons_succ, Nat.reduceLT, Nat.reduceAdd, h', h1, hc, decide_true, decide_false]
    exact ⟨trivial, trivial⟩

theorem ev_rtick {H : AH} (hf : Aes.Fn H) {p : Nat} {rate burst level : Int} (n : Int) (h : H.get p = some (rb rate burst level)) (ft : Fit rate burst level) :
    ∃ H', evl X O 18 [.ptr p 0, .int .i64 n] H = some (.val (.tup []) H') ∧ Upd H H' p (rb rate burst (more rate burst level n)) := by
  have hp := prod_ok hO (n := n) ft
  have := ft.l0; have := ft.lb; have := ft.b1
  refine ⟨_, of_form_eq e18 xf18 (hO _ _ _ (by decide) (by decide)) (v := .tup []) (H' := H.set p (some (rb rate burst (more rate burst level n)))) ?_, .set hf h _⟩
  have h' := h
  unfold rb at h'
  have e1 : min (max n 0) 1073741824 = max 0 (min n 1073741824) := by omega
  simp only [c18, r18_0, opn_z, opn_s, sel_z, sel_s, qCd_eq, qIf_true, qIf_false, qFn_eq, qBl_eq, qO_some, qRes_val, qHp_some, qPick_true, qPick_false, qG_tt, qG_ff, qG_tf, qG_ft, cellsK_some, qLd_ptr, qLd_vptr, qLdA_ptr, qLdA_vptr, qFa_ptr, qFa_vptr, qNc_ptr, qNc_vptr, qNc_fn, qNot_bool, qExt_tup, qCallV_fn, qLss_int, qLeq_int, qGtr_int, qGeq_int, qEql_int, qNeq_int, qAdd_int, qSub_int, qMul_int, qConvI_int, qLenL_sl, qLenL_hsl, qLenS_str, foldO, min2_int, max2_int, qSame_refl, Nat.zero_add, List.getElem?_cons_zero, List.getElem?_cons_succ, List.nil_append, List.cons_append, List.append_nil, one_bool, one_int, one_str, one_nilp, one_ptr, one_sl, one_hsl, one_map, one_fn, List.length_cons, List.length_nil, List.set_cons_zero, List.set_cons_succ, Nat.reduceLT, Nat.reduceAdd, h', e1, i64_in (x := rate * max 0 (min n 1073741824)) (by omega), i64_in (x := level + rate * max 0 (min n 1073741824)) (by omega), qSt_one (R := Prop) hf h']
  exact ⟨trivial, rfl⟩

/-- the document's example -/
theorem ev_awake {H : AH} (hf : Aes.Fn H) : ∃ H', evl X O 22 [] H = some (.val (.bool true) H') ∧ Aes.Fn H' := by
  obtain ⟨H1, a1, a2, a3⟩ := ev_new hO hf 1 5
  have ft : Fit 1 5 5 := ⟨by decide, by decide, by decide, by decide, by decide⟩
  have a4 : H1.get H.nx = some (bk H.nx 1 5 5) := a2.at_
  obtain ⟨H2, b1, b2⟩ := ev_take hO a2.fn 5 a4 ft
  have b3 : H2.get H.nx = some (bk H.nx 1 5 0) := b2.at_
  obtain ⟨H3, d1, d2⟩ := ev_take hO b2.fn 1 b3 ⟨by decide, by decide, by decide, by decide, by decide⟩
  have d3 : H3.get H.nx = some (bk H.nx 1 5 0) := d2.at_
  have d4 := ev_level hO d3
  have b1' : evl X O 19 [.ptr H.nx 0, .int .i64 5] H1 = some (.val (.bool true) H2) := b1
  have d1' : evl X O 19 [.ptr H.nx 0, .int .i64 1] H2 = some (.val (.bool false) H3) := d1
  refine ⟨H3, of_form_eq e22 xf22 (hO _ _ _ (by decide) (by decide)) ?_, d2.fn⟩
  simp only [c22, r22_0, r22_1, r22_2, opn_z, opn_s, sel_z, sel_s, qCd_eq, qIf_true, qIf_false, qFn_eq, qBl_eq, qO_some, qRes_val, qHp_some, qPick_true, qPick_false, qG_tt, qG_ff, qG_tf, qG_ft, cellsK_some, qLd_ptr, qLd_vptr, qLdA_ptr, qLdA_vptr, qFa_ptr, qFa_vptr, qNc_ptr, qNc_vptr, qNc_fn, qNot_bool, qExt_tup, qCallV_fn, qLss_int, qLeq_int, qGtr_int, qGeq_int, qEql_int, qNeq_int, qAdd_int, qSub_int, qMul_int, qConvI_int, qLenL_sl, qLenL_hsl, qLenS_str, foldO, min2_int, max2_int, qSame_refl, Nat.zero_add, List.getElem?_cons_zero, List.getElem?_cons_succ, List.nil_append, List.cons_append, List.append_nil, one_bool, one_int, one_str, one_nilp, one_ptr, one_sl, one_hsl, one_map, one_fn, List.length_cons, List.length_nil, List.set_cons_zero, List.set_cons_succ, Nat.reduceLT, Nat.reduceAdd, a1, ne_nil23, b1', d1', d4, Bool.not_false]
  exact ⟨rfl, trivial⟩

end
end T
set_option linter.unusedVariables false
set_option linter.unusedSimpArgs false
set_option maxRecDepth 10000
namespace T
open Go Go.Aes Go.Proofs

theorem intRows_len (k : IntKind) (zs : List Int) : (intRows k zs).length = zs.length := by simp [intRows]
theorem intRows_get (k : IntKind) (zs : List Int) (i : Nat) (z : Int) (h : zs[i]? = some z) : (intRows k zs)[i]? = some [.int k z] := by simp [intRows, h]

/-- a number of the slice, read -/
theorem qIa_ints {zs : List Int} {tk : Tk} {i : Nat} {z : Int} (h : zs[i]? = some z) (k : AV → Prop) : qIa 1 (.sl (intRows .i64 zs) tk) (.int .i64 (i : Int)) k = k (.vptr [.int .i64 z] 0) :=
  qIa_sl _ _ 1 _ _ i _ (intRows_get _ _ _ _ h) rfl

theorem wrap_succ (i : Nat) (h : i < 1000000) : IntKind.i64.wrap ((i : Int) + 1) = ((i + 1 : Nat) : Int) := by
  rw [i64_in (by omega)]; simp

section
variable {O : CallF} (hO : OutO O)
include hO

theorem ev_plays (rate burst : Int) (zs : List Int) (tk : Tk) : ∃ H', evl X O 3 [.int .i64 rate, .int .i64 burst, .sl (intRows .i64 zs) tk] H0 = some (.val (.bool true) H') := by
  obtain ⟨H1, a1, a2, ft⟩ := ev_new hO .H0 rate burst
  obtain ⟨H2, b1, b2⟩ := ev_rnew hO a2.fn rate burst
  generalize cutR rate 1000 = r at *
  generalize cutR burst 100000 = m at *
  suffices h : c3 (evl X O) [.int .i64 rate, .int .i64 burst, .sl (intRows .i64 zs) tk] H0 (fun v _ => v = .bool true) by
    obtain ⟨v, H', h1, rfl⟩ := of_form e3 xf3 (hO _ _ _ (by decide) (by decide)) h
    exact ⟨H', h1⟩
  simp only [c3, r3_0, r3_1, r3_2, r3_4, opn_z, opn_s, sel_z, sel_s, qCd_eq, qIf_true, qIf_false, qFn_eq, qBl_eq, qO_some, qRes_val, qHp_some, qPick_true, qPick_false, qG_tt, qG_ff, qG_tf, qG_ft, cellsK_some, qLd_ptr, qLd_vptr, qLdA_ptr, qLdA_vptr, qFa_ptr, qFa_vptr, qNc_ptr, qNc_vptr, qNc_fn, qNot_bool, qExt_tup, qCallV_fn, qLss_int, qLeq_int, qGtr_int, qGeq_int, qEql_int, qNeq_int, qAdd_int, qSub_int, qMul_int, qConvI_int, qLenL_sl, qLenL_hsl, qLenS_str, foldO, min2_int, max2_int, qSame_refl, Nat.zero_add, List.getElem?_cons_zero, List.getElem?_cons_succ, List.nil_append, List.cons_append, List.append_nil, one_bool, one_int, one_str, one_nilp, one_ptr, one_sl, one_hsl, one_map, one_fn, List.length_cons, List.length_nil, List.set_cons_zero, List.set_cons_succ, Nat.reduceLT, Nat.reduceAdd, a1, b1, eq_nil23]
  refine loop_inv (fun n fr H => ∃ (i : Nat) (lv : Int) (x17 x25 x30 x55 x62 : AV), n = 100 - i ∧ i ≤ 100 ∧
    fr = [.int .i64 rate, .int .i64 burst, .sl (intRows .i64 zs) tk, .bool false, .ptr 0 0, .ptr 1 0, .int .i64 (i : Int), x17, x25, x30, x55, x62] ∧ Aes.Fn H ∧ H.get 0 = some (bk 0 r m lv) ∧ H.get 1 = some (rb r m lv) ∧ Fit r m lv) ?_
    (m := 100) ?_
  · rintro n fr H k ⟨i, lv, x17, x25, x30, x55, x62, rfl, hi, rfl, hf, hb, hr, ft⟩ hk
    by_cases h1 : i < zs.length
    · have h1' : ((i : Int) < ((intRows .i64 zs).length : Int)) := by rw [intRows_len]; omega
      by_cases h2 : i < 100
      · have h2' : (i : Int) < 100 := by omega
        have hz : zs[i]? = some zs[i] := List.getElem?_eq_getElem h1
        generalize zs[i] = z at hz
        have hia := qIa_ints (tk := tk) hz
        have hrem := fun k => qRem_int (R := Prop) X 3 .i64 (i : Int) 2 k (by decide)
        have ht : (i : Int).tmod 2 = ((i % 2 : Nat) : Int) := by rw [Int.tmod_eq_emod_of_nonneg (by omega)]; omega
        have hrb : ∀ {H : AH} {lv : Int}, H.get 1 = some (rb r m lv) → H.get 1 = some (.cells [.int .i64 r, .int .i64 m, .int .i64 lv]) := fun h => h
        have fin : ∀ (lv' : Int) (H' : AH) (x30 x55 : AV) , Aes.Fn H' → H'.get 0 = some (bk 0 r m lv') → H'.get 1 = some (rb r m lv') → Fit r m lv' →
            r3_12 (evl X O) (qCd (sel 11) (fun _ => r3_13 (fun fr H => (fun v _ => v = .bool true) (sel 3 fr) H)) (fun k4 => k4) (r3_6 k)) [.int .i64 rate, .int .i64 burst, .sl (intRows .i64 zs) tk, .bool false, .ptr 0 0, .ptr 1 0, .int .i64 (i : Int), x17, .bool true, x30, x55, x62] H' := by
          intro lv' H' x30 x55 hf' hb' hr' ft'
          have e := ev_level hO hb'
          have hr2 := hrb hr'
          simp only [r3_12, r3_13, r3_6, opn_z, opn_s, sel_z, sel_s, qCd_eq, qIf_true, qIf_false, qFn_eq, qBl_eq, qO_some, qRes_val, qHp_some, qPick_true, qPick_false, qG_tt, qG_ff, qG_tf, qG_ft, cellsK_some, qLd_ptr, qLd_vptr, qLdA_ptr, qLdA_vptr, qFa_ptr, qFa_vptr, qNc_ptr, qNc_vptr, qNc_fn, qNot_bool, qExt_tup, qCallV_fn, qLss_int, qLeq_int, qGtr_int, qGeq_int, qEql_int, qNeq_int, qAdd_int, qSub_int, qMul_int, qConvI_int, qLenL_sl, qLenL_hsl, qLenS_str, foldO, min2_int, max2_int, qSame_refl, Nat.zero_add, List.getElem?_cons_zero, List.getElem?_cons_succ, List.nil_append, List.cons_append, List.append_nil, one_bool, one_int, one_str, one_nilp, one_ptr, one_sl, one_hsl, one_map, one_fn, List.length_cons, List.length_nil, List.set_cons_zero, List.set_cons_succ, Nat.reduceLT, Nat.reduceAdd, hr2, e, beq_self_eq_true, Bool.not_true, wrap_succ i (by omega)]
          exact hk (100 - (i + 1)) _ _ (by omega) ⟨i + 1, lv', _, _, _, _, _, rfl, by omega, rfl, hf', hb', hr', ft'⟩
        by_cases h3 : i % 2 = 0
        · have h3' : ((i : Int).tmod 2 == 0) = true := by rw [ht, h3]; rfl
          obtain ⟨H1, u1, u2⟩ := ev_tick hO hf z hb ft
          obtain ⟨H2, v1, v2⟩ := ev_rtick hO u2.fn z ((u2.other 1 (by decide)).trans hr) ft
          have := fin (more r m lv z) H2 (.bool true) x55 v2.fn ((v2.other 0 (by decide)).trans u2.at_) v2.at_ (more_fit z ft)
          simp only [l3_7, r3_5, r3_7, r3_8, r3_9, opn_z, opn_s, sel_z, sel_s, qCd_eq, qIf_true, qIf_false, qFn_eq, qBl_eq, qO_some, qRes_val, qHp_some, qPick_true, qPick_false, qG_tt, qG_ff, qG_tf, qG_ft, cellsK_some, qLd_ptr, qLd_vptr, qLdA_ptr, qLdA_vptr, qFa_ptr, qFa_vptr, qNc_ptr, qNc_vptr, qNc_fn, qNot_bool, qExt_tup, qCallV_fn, qLss_int, qLeq_int, qGtr_int, qGeq_int, qEql_int, qNeq_int, qAdd_int, qSub_int, qMul_int, qConvI_int, qLenL_sl, qLenL_hsl, qLenS_str, foldO, min2_int, max2_int, qSame_refl, Nat.zero_add, List.getElem?_cons_zero, List.getElem?_cons_succ, List.nil_append, List.cons_append, List.append_nil, one_bool, one_int, one_str, one_nilp, one_ptr, one_sl, one_hsl, one_map, one_fn, List.length_cons, List.length_nil, List.set_cons_zero, List.set_cons_succ, Nat.reduceLT, Nat.reduceAdd, h1', h2', h3', decide_true, hia, hrem, u1, v1]
          exact this
        · have h3' : ((i : Int).tmod 2 == 0) = false := by rw [ht, show i % 2 = 1 by omega]; rfl
          obtain ⟨H1, u1, u2⟩ := ev_take hO hf z hb ft
          obtain ⟨H2, v1, v2⟩ := ev_rtake hO u2.fn z ((u2.other 1 (by decide)).trans hr) ft
          have ft' : Fit r m (if max z 0 ≤ lv then lv - max z 0 else lv) := by
            have := ft.l0; have := ft.lb
            refine ⟨ft.r0, ft.r1, ft.b1, ?_, ?_⟩ <;> split <;> omega
          have := fin _ H2 (.bool false) (.bool false) v2.fn ((v2.other 0 (by decide)).trans u2.at_) v2.at_ ft'
          have hne : ∀ b : Bool, ∀ k : AV → Prop, qNeq X 4 (.bool b) (.bool b) k = k (.bool false) := fun b k => by cases b <;> rfl
          simp only [l3_7, r3_5, r3_7, r3_10, opn_z, opn_s, sel_z, sel_s, qCd_eq, qIf_true, qIf_false, qFn_eq, qBl_eq, qO_some, qRes_val, qHp_some, qPick_true, qPick_false, qG_tt, qG_ff, qG_tf, qG_ft, cellsK_some, qLd_ptr, qLd_vptr, qLdA_ptr, qLdA_vptr, qFa_ptr, qFa_vptr, qNc_ptr, qNc_vptr, qNc_fn, qNot_bool, qExt_tup, qCallV_fn, qLss_int, qLeq_int, qGtr_int, qGeq_int, qEql_int, qNeq_int, qAdd_int, qSub_int, qMul_int, qConvI_int, qLenL_sl, qLenL_hsl, qLenS_str, foldO, min2_int, max2_int, qSame_refl, Nat.zero_add, List.getElem?_cons_zero, List.getElem?_cons_succ, List.nil_append, List.cons_append, List.append_nil, one_bool, one_int, one_str, one_nilp, one_ptr, one_sl, one_hsl, one_map, one_fn, List.length_cons, List.length_nil, List.set_cons_zero, List.set_cons_succ, Nat.reduceLT, Nat.reduceAdd, h1', h2', h3', decide_true, hia, hrem, u1, v1, hne]
          exact this
      · have h2' : ¬ (i : Int) < 100 := by omega
        obtain ⟨H', u1, u2⟩ := ev_awake hO hf
        simp only [l3_7, r3_5, r3_14, opn_z, opn_s, sel_z, sel_s, qCd_eq, qIf_true, qIf_false, qFn_eq, qBl_eq, qO_some, qRes_val, qHp_some, qPick_true, qPick_false, qG_tt, qG_ff, qG_tf, qG_ft, cellsK_some, qLd_ptr, qLd_vptr, qLdA_ptr, qLdA_vptr, qFa_ptr, qFa_vptr, qNc_ptr, qNc_vptr, qNc_fn, qNot_bool, qExt_tup, qCallV_fn, qLss_int, qLeq_int, qGtr_int, qGeq_int, qEql_int, qNeq_int, qAdd_int, qSub_int, qMul_int, qConvI_int, qLenL_sl, qLenL_hsl, qLenS_str, foldO, min2_int, max2_int, qSame_refl, Nat.zero_add, List.getElem?_cons_zero, List.getElem?_cons_succ, List.nil_append, List.cons_append, List.append_nil, one_bool, one_int, one_str, one_nilp, one_ptr, one_sl, one_hsl, one_map, one_fn, List.length_cons, List.length_nil, List.set_cons_zero, List.set_cons_succ, Nat.reduceLT, Nat.reduceAdd, h1', h2', decide_true, decide_false, u1]
    · have h1' : ¬ ((i : Int) < ((intRows .i64 zs).length : Int)) := by rw [intRows_len]; omega
      obtain ⟨H', u1, u2⟩ := ev_awake hO hf
      simp only [l3_7, r3_5, r3_14, opn_z, opn_s, sel_z, sel_s, qCd_eq, qIf_true, qIf_false, qFn_eq, qBl_eq, qO_some, qRes_val, qHp_some, qPick_true, qPick_false, qG_tt, qG_ff, qG_tf, qG_ft, cellsK_some, qLd_ptr, qLd_vptr, qLdA_ptr, qLdA_vptr, qFa_ptr, qFa_vptr, qNc_ptr, qNc_vptr, qNc_fn, qNot_bool, qExt_tup, qCallV_fn, qLss_int, qLeq_int, qGtr_int, qGeq_int, qEql_int, qNeq_int, qAdd_int, qSub_int, qMul_int, qConvI_int, qLenL_sl, qLenL_hsl, qLenS_str, foldO, min2_int, max2_int, qSame_refl, Nat.zero_add, List.getElem?_cons_zero, List.getElem?_cons_succ, List.nil_append, List.cons_append, List.append_nil, one_bool, one_int, one_str, one_nilp, one_ptr, one_sl, one_hsl, one_map, one_fn, List.length_cons, List.length_nil, List.set_cons_zero, List.set_cons_succ, Nat.reduceLT, Nat.reduceAdd, h1', decide_false, u1]
  · have g0 : H2.get 0 = some (bk 0 r m m) := (b2.other 0 (by rw [a2.nx]; decide)).trans a2.at_
    have g1 : H1.nx = 1 := a2.nx
    have g2 : H2.get 1 = some (rb r m m) := by have := b2.at_; rwa [g1] at this
    refine ⟨0, m, .bool false, Aes.undef, Aes.undef, Aes.undef, Aes.undef, rfl, by omega, ?_, b2.fn, g0, g2, ft⟩
    rw [g1, H0_nx]
    rfl

end
end T
set_option linter.unusedVariables false
set_option linter.unusedSimpArgs false
set_option maxRecDepth 10000
namespace T
open Go Go.Aes Go.Proofs

theorem place_eq (v n : Int) (hn : 0 < n) : (if v.tmod n < 0 then v.tmod n + n else v.tmod n) = v % n := by
  have h1 := Int.tmod_eq_emod (a := v) (b := n)
  have h2 := Int.emod_nonneg v (by omega : n ≠ 0)
  have h3 := Int.emod_lt_of_pos v hn
  split at h1 <;> split <;> omega

section
variable {O : CallF} (hO : OutO O)
include hO

theorem ev_place (v n : Int) (hn : 0 < n) (hn2 : n ≤ 4611686018427387904) (H : AH) : evl X O 23 [.int .i64 v, .int .i64 n] H = some (.val (.int .i64 (v % n)) H) := by
  refine of_form_eq e23 xf23 (hO _ _ _ (by decide) (by decide)) ?_
  have h0 := place_eq v n hn
  have hrem := fun k => qRem_int (R := Prop) X 3 .i64 v n k (by omega)
  have h2 := Int.emod_nonneg v (by omega : n ≠ 0)
  have h3 := Int.emod_lt_of_pos v hn
  by_cases h : v.tmod n < 0
  · rw [if_pos h] at h0
    simp only [c23, r23_0, r23_1, r23_2, r23_3, r23_4, opn_z, opn_s, sel_z, sel_s, qCd_eq, qIf_true, qIf_false, qFn_eq, qBl_eq, qO_some, qRes_val, qHp_some, qPick_true, qPick_false, qG_tt, qG_ff, qG_tf, qG_ft, cellsK_some, qLd_ptr, qLd_vptr, qLdA_ptr, qLdA_vptr, qFa_ptr, qFa_vptr, qNc_ptr, qNc_vptr, qNc_fn, qNot_bool, qExt_tup, qCallV_fn, qLss_int, qLeq_int, qGtr_int, qGeq_int, qEql_int, qNeq_int, qAdd_int, qSub_int, qMul_int, qConvI_int, qLenL_sl, qLenL_hsl, qLenS_str, foldO, min2_int, max2_int, qSame_refl, Nat.zero_add, List.getElem?_cons_zero, List.getElem?_cons_succ, List.nil_append, List.cons_append, List.append_nil, one_bool, one_int, one_str, one_nilp, one_ptr, one_sl, one_hsl, one_map, one_fn, List.length_cons, List.length_nil, List.set_cons_zero, List.set_cons_succ, Nat.reduceLT, Nat.reduceAdd, hrem, h, decide_true, h0, i64_in (x := v % n) (by omega)]
    exact ⟨trivial, trivial⟩
  · rw [if_neg h] at h0
    simp only [c23, r23_0, r23_1, r23_2, r23_3, r23_4, opn_z, opn_s, sel_z, sel_s, qCd_eq, qIf_true, qIf_false, qFn_eq, qBl_eq, qO_some, qRes_val, qHp_some, qPick_true, qPick_false, qG_tt, qG_ff, qG_tf, qG_ft, cellsK_some, qLd_ptr, qLd_vptr, qLdA_ptr, qLdA_vptr, qFa_ptr, qFa_vptr, qNc_ptr, qNc_vptr, qNc_fn, qNot_bool, qExt_tup, qCallV_fn, qLss_int, qLeq_int, qGtr_int, qGeq_int, qEql_int, qNeq_int, qAdd_int, qSub_int, qMul_int, qConvI_int, qLenL_sl, qLenL_hsl, qLenS_str, foldO, min2_int, max2_int, qSame_refl, Nat.zero_add, List.getElem?_cons_zero, List.getElem?_cons_succ, List.nil_append, List.cons_append, List.append_nil, one_bool, one_int, one_str, one_nilp, one_ptr, one_sl, one_hsl, one_map, one_fn, List.length_cons, List.length_nil, List.set_cons_zero, List.set_cons_succ, Nat.reduceLT, Nat.reduceAdd, hrem, h, decide_false]
    exact ⟨by rw [h0], trivial⟩

theorem ev_edges (rate burst n : Int) : ∃ H', evl X O 5 [.int .i64 rate, .int .i64 burst, .int .i64 n] H0 = some (.val (.bool true) H') := by
  have p1 := Int.emod_nonneg rate (by decide : (1000 : Int) ≠ 0)
  have p2 := Int.emod_lt_of_pos rate (by decide : (0 : Int) < 1000)
  have p3 := Int.emod_nonneg burst (by decide : (1000 : Int) ≠ 0)
  have p4 := Int.emod_lt_of_pos burst (by decide : (0 : Int) < 1000)
  have p5 := Int.emod_nonneg n (by decide : (99 : Int) ≠ 0)
  have p6 := Int.emod_lt_of_pos n (by decide : (0 : Int) < 99)
  have e1 := fun H => ev_place hO rate 1000 (by decide) (by decide) H
  have e2 := fun H => ev_place hO burst 1000 (by decide) (by decide) H
  have e3 := fun H => ev_place hO n 99 (by decide) (by decide) H
  generalize rate % 1000 = a at *
  generalize burst % 1000 = b at *
  generalize n % 99 = k at *
  obtain ⟨H1, n1, n2, n3⟩ := ev_new hO .H0 (1001 + a) (100001 + b)
  rw [show cutR (1001 + a) 1000 = 1000 by unfold cutR; omega, show cutR (100001 + b) 100000 = 100000 by unfold cutR; omega] at n2 n3
  obtain ⟨H2, m1, m2, m3⟩ := ev_new hO n2.fn (-1 - a) (-1 - b)
  rw [show cutR (-1 - a) 1000 = 0 by unfold cutR; omega, show cutR (-1 - b) 100000 = 0 by unfold cutR; omega] at m2 m3
  have g1 : H1.nx = 1 := n2.nx
  rw [g1] at m1 m2
  have m2a : H2.get 1 = some (bk 1 0 0 0) := by have := m2.at_; rwa [g1] at this
  have b0 : H2.get 0 = some (bk 0 1000 100000 100000) := (m2.other 0 (by omega)).trans n2.at_
  have l1 := ev_level hO b0
  have l2 := ev_level hO m2a
  obtain ⟨H3, t1, t2⟩ := ev_take hO m2.fn 0 m2a m3
  have t1' : evl X O 19 [.ptr 1 0, .int .i64 0] H2 = some (.val (.bool true) H3) := t1
  have t3 : H3.get 1 = some (bk 1 0 0 0) := t2.at_
  obtain ⟨H4, u1, u2⟩ := ev_take hO t2.fn 1 t3 m3
  have u1' : evl X O 19 [.ptr 1 0, .int .i64 1] H3 = some (.val (.bool false) H4) := u1
  have u3 : H4.get 1 = some (bk 1 0 0 0) := u2.at_
  obtain ⟨H5, v1, v2⟩ := ev_tick hO u2.fn 5 u3 m3
  have v3 : H5.get 1 = some (bk 1 0 0 0) := v2.at_
  have l3 := ev_level hO v3
  have b1 : H5.get 0 = some (bk 0 1000 100000 100000) := (v2.other 0 (by decide)).trans ((u2.other 0 (by decide)).trans ((t2.other 0 (by decide)).trans b0))
  obtain ⟨H6, w1, w2⟩ := ev_take hO v2.fn 100000 b1 n3
  have w1' : evl X O 19 [.ptr 0 0, .int .i64 100000] H5 = some (.val (.bool true) H6) := w1
  have w3 : H6.get 0 = some (bk 0 1000 100000 0) := w2.at_
  have f0 : Fit 1000 100000 0 := ⟨by decide, by decide, by decide, by decide, by decide⟩
  have l4 := ev_level hO w3
  obtain ⟨H7, x1, x2⟩ := ev_take hO w2.fn (-5) w3 f0
  have x1' : evl X O 19 [.ptr 0 0, .int .i64 (-5)] H6 = some (.val (.bool true) H7) := x1
  have x3 : H7.get 0 = some (bk 0 1000 100000 0) := x2.at_
  have l5 := ev_level hO x3
  obtain ⟨H8, y1, y2⟩ := ev_tick hO x2.fn k x3 f0
  have f1 := more_fit k f0
  have ek : more 1000 100000 0 k = k * 1000 := by unfold more; omega
  rw [ek] at y2 f1
  have l6 := ev_level hO y2.at_
  obtain ⟨H9, z1, z2⟩ := ev_tick hO y2.fn (-1 - k) y2.at_ f1
  have f2 := more_fit (-1 - k) f1
  have ek2 : more 1000 100000 (k * 1000) (-1 - k) = k * 1000 := by unfold more; omega
  rw [ek2] at z2 f2
  obtain ⟨H10, q1, q2⟩ := ev_tick hO z2.fn (1073741825 + k) z2.at_ f2
  have ek3 : more 1000 100000 (k * 1000) (1073741825 + k) = 100000 := by unfold more; omega
  rw [ek3] at q2
  have l7 := ev_level hO q2.at_
  obtain ⟨H', a1, a2⟩ := ev_awake hO q2.fn
  suffices h : c5 (evl X O) [.int .i64 rate, .int .i64 burst, .int .i64 n] H0 (fun v _ => v = .bool true) by
    obtain ⟨v, H', h1, rfl⟩ := of_form e5 xf5 (hO _ _ _ (by decide) (by decide)) h
    exact ⟨H', h1⟩
  rw [H0_nx] at n1
  simp only [c5, r5_0, r5_1, r5_2, r5_3, r5_5, r5_6, r5_7, r5_9, r5_10, r5_12, r5_13, r5_14, opn_z, opn_s, sel_z, sel_s, qCd_eq, qIf_true, qIf_false, qFn_eq, qBl_eq, qO_some, qRes_val, qHp_some, qPick_true, qPick_false, qG_tt, qG_ff, qG_tf, qG_ft, cellsK_some, qLd_ptr, qLd_vptr, qLdA_ptr, qLdA_vptr, qFa_ptr, qFa_vptr, qNc_ptr, qNc_vptr, qNc_fn, qNot_bool, qExt_tup, qCallV_fn, qLss_int, qLeq_int, qGtr_int, qGeq_int, qEql_int, qNeq_int, qAdd_int, qSub_int, qMul_int, qConvI_int, qLenL_sl, qLenL_hsl, qLenS_str, foldO, min2_int, max2_int, qSame_refl, Nat.zero_add, List.getElem?_cons_zero, List.getElem?_cons_succ, List.nil_append, List.cons_append, List.append_nil, one_bool, one_int, one_str, one_nilp, one_ptr, one_sl, one_hsl, one_map, one_fn, List.length_cons, List.length_nil, List.set_cons_zero, List.set_cons_succ, Nat.reduceLT, Nat.reduceAdd, e1, e2, e3, i64_in (x := 1001 + a) (by omega), i64_in (x := 100001 + b) (by omega), i64_in (x := -1 - a) (by omega), i64_in (x := -1 - b) (by omega),
    i64_in (x := k * 1000) (by omega), i64_in (x := -1 - k) (by omega), i64_in (x := 1073741825 + k) (by omega), n1, m1, eq_nil23, l1, l2, t1', u1', v1, l3, w1', l4, x1', l5, y1, l6, z1, q1, l7, a1, beq_self_eq_true, Bool.not_true, Bool.not_false]

end
end T
