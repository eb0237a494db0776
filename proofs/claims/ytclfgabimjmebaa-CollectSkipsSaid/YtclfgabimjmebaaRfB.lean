import Derived.Test.YtclfgabimjmebaaRfA
import Derived.Test.YtclfgabimjmebaaS17
set_option linter.all false
set_option linter.unusedVariables false
set_option linter.unusedSimpArgs false
set_option maxRecDepth 100000
namespace T
open Go Go.Aes Go.Proofs

/-! ### a place -/
theorem place_eq (v n : Int) (hn : 0 < n) : (if v.tmod n < 0 then v.tmod n + n else v.tmod n) = v % n := by
  have h1 := Int.tmod_eq_emod (a := v) (b := n)
  have h2 := Int.emod_nonneg v (by omega : n ≠ 0)
  have h3 := Int.emod_lt_of_pos v hn
  split at h1 <;> split <;> omega

theorem place_c (C : CallF) (v n : Int) (hn : 0 < n) (hn2 : n ≤ 4611686018427387904) (H : AH) (k : AV → AH → Option Res) : c6 C [.int .i64 v, .int .i64 n] H k = k (.int .i64 (v % n)) H := by
  have h0 := place_eq v n hn
  have hrem := fun k => qRem_int (R := Option Res) X 3 .i64 v n k (by omega)
  have h2 := Int.emod_nonneg v (by omega : n ≠ 0)
  have h3 := Int.emod_lt_of_pos v hn
  by_cases h : v.tmod n < 0
  · rw [if_pos h] at h0
    have hi : IntKind.i64.wrap (v.tmod n + n) = v % n := by rw [h0]; exact IntWalk.i64_in _ (by omega)
    simp -implicitDefEqProofs only [c6, r6_0, r6_1, r6_2, r6_3, r6_4, opn_z, opn_s, sel_z, sel_s, qCd_eq, qIf_true, qIf_false, qFn_eq, qBl_eq, qO_some, qRes_val, qHp_some, qPick_true, qPick_false, qG_tt, qG_ff, qG_tf, qG_ft, cellsK_some, qLd_ptr, qLd_vptr, qLdA_ptr, qLdA_vptr, qFa_ptr, qFa_vptr, qNc_ptr, qNc_vptr, qNc_fn, qNot_bool, qExt_tup, qCallV_fn, qLss_int, qLeq_int, qGtr_int, qGeq_int, qEql_int, qNeq_int, qAdd_int, qSub_int, qMul_int, qConvI_int, qLenL_sl, qLenL_hsl, qLenS_str, foldO, min2_int, max2_int, qSame_refl, Nat.zero_add, List.getElem?_cons_zero, List.getElem?_cons_succ, List.nil_append, List.cons_append, List.append_nil, one_bool, one_int, one_str, one_nilp, one_ptr, one_sl, one_hsl, one_map, one_fn, List.length_cons, List.length_nil, List.set_cons_zero, List.set_cons_succ, Nat.reduceLT, Nat.reduceAdd, qG_un, hrem, h, decide_true, hi]
  · rw [if_neg h] at h0
    simp -implicitDefEqProofs only [c6, r6_0, r6_1, r6_2, r6_3, r6_4, opn_z, opn_s, sel_z, sel_s, qCd_eq, qIf_true, qIf_false, qFn_eq, qBl_eq, qO_some, qRes_val, qHp_some, qPick_true, qPick_false, qG_tt, qG_ff, qG_tf, qG_ft, cellsK_some, qLd_ptr, qLd_vptr, qLdA_ptr, qLdA_vptr, qFa_ptr, qFa_vptr, qNc_ptr, qNc_vptr, qNc_fn, qNot_bool, qExt_tup, qCallV_fn, qLss_int, qLeq_int, qGtr_int, qGeq_int, qEql_int, qNeq_int, qAdd_int, qSub_int, qMul_int, qConvI_int, qLenL_sl, qLenL_hsl, qLenS_str, foldO, min2_int, max2_int, qSame_refl, Nat.zero_add, List.getElem?_cons_zero, List.getElem?_cons_succ, List.nil_append, List.cons_append, List.append_nil, one_bool, one_int, one_str, one_nilp, one_ptr, one_sl, one_hsl, one_map, one_fn, List.length_cons, List.length_nil, List.set_cons_zero, List.set_cons_succ, Nat.reduceLT, Nat.reduceAdd, qG_un, hrem, h, decide_false]
    rw [h0]

theorem ce_place {l : List Ent} (hl : (l.all fun e => !(6 : Nat).beq e.g) = true) (n : Nat) (v k : Int) (hn : 0 < k) (hn2 : k ≤ 4611686018427387904) (H : AH) : CE l (n + 1) 6 [.int .i64 v, .int .i64 k] H = some (.val (.int .i64 (v % k)) H) := by
  have h0 : tabO l 6 [.int .i64 v, .int .i64 k] H = none := by
    induction l with
    | nil => rfl
    | cons e r ih =>
      simp only [List.all_cons, Bool.and_eq_true] at hl
      unfold tabO
      have : (6 : Nat).beq e.g = false := by simpa using hl.1
      rw [this]
      exact ih hl.2
  have h00 : OT l 6 [.int .i64 v, .int .i64 k] H = none := h0
  show (match OT l 6 [.int .i64 v, .int .i64 k] H with
    | some r => some r
    | none => runT cT 6 (CE l n) [.int .i64 v, .int .i64 k] H) = _
  rw [h00]
  have h1 : runT cT 6 (CE l n) [.int .i64 v, .int .i64 k] H = c6 (CE l n) [.int .i64 v, .int .i64 k] H (fun v H => some (.val v H)) := by kernel_rfl
  show runT cT 6 (CE l n) [.int .i64 v, .int .i64 k] H = _
  rw [h1, place_c _ v k hn hn2]


noncomputable def tbF : List Ent := ⟨8, [], .bool true⟩ :: tb0
theorem tbF_ok : ∀ e ∈ tbF, PEnt Try.prog e.g e.as e.v := by
  intro e h
  rcases List.mem_cons.1 h with rfl | h
  · exact aw8
  · exact tb0_ok e h
/-- one thing more, in a heap to compute with -/
def pT (H : AH) (o : AO) : AH :=
  match H with
  | .tr h nx => .tr (h.put (some o) 40 nx) (nx + 1)
  | H => H
noncomputable def mH1 : AH := (pT HT (.cells z24)).set 0 (some (.cells schV.cells))
theorem ev_skips (a b : Int) : ∃ H', CE tbF 101 3 [.int .i64 a, .int .i64 b] HT = some (.val (.bool true) H') := by
  apply okT_inv
  have h1 : CE tbF 101 3 [.int .i64 a, .int .i64 b] HT = c3 (CE tbF 100) [.int .i64 a, .int .i64 b] HT (fun v H => some (.val v H)) := by kernel_rfl
  rw [h1]
  obtain ⟨x, hx, hx2⟩ : ∃ x : Nat, a % 5 = (x : Int) ∧ x < 5 := ⟨(a % 5).toNat, by omega, by omega⟩
  obtain ⟨y, hy, hy2⟩ : ∃ y : Nat, b % 5 = (y : Int) ∧ y < 5 := ⟨(b % 5).toNat, by omega, by omega⟩
  have hp := fun (H : AH) => ce_place (l := tbF) (by kernel_rfl) 99 a 5 (by decide) (by decide) H
  have hq := fun (H : AH) => ce_place (l := tbF) (by kernel_rfl) 99 b 5 (by decide) (by decide) H
  rw [hx] at hp
  rw [hy] at hq
  have e5 : CE tbF 100 5 [.int .i64 1] HT = some (.val schV HT) := by kernel_rfl
  have n1 : ∀ k : AV → AH → Option Res, qNew (.cells z24) .ptr HT k = k (.ptr 0 0) (pT HT (.cells z24)) := fun k => by kernel_rfl
  have s1 : ∀ k : AV → AH → Option Res, qSt 3 (.ptr 0 0) schV (pT HT (.cells z24)) k = k undef mH1 := fun k => by kernel_rfl
  simp -implicitDefEqProofs only [c3, r3_0, r3_1, r3_2, opn_z, opn_s, sel_z, sel_s, qCd_eq, qIf_true, qIf_false, qFn_eq, qBl_eq, qO_some, qRes_val, qHp_some, qPick_true, qPick_false, qG_tt, qG_ff, qG_tf, qG_ft, cellsK_some, qLd_ptr, qLd_vptr, qLdA_ptr, qLdA_vptr, qFa_ptr, qFa_vptr, qNc_ptr, qNc_vptr, qNc_fn, qNot_bool, qExt_tup, qCallV_fn, qLss_int, qLeq_int, qGtr_int, qGeq_int, qEql_int, qNeq_int, qAdd_int, qSub_int, qMul_int, qConvI_int, qLenL_sl, qLenL_hsl, qLenS_str, foldO, min2_int, max2_int, qSame_refl, Nat.zero_add, List.getElem?_cons_zero, List.getElem?_cons_succ, List.nil_append, List.cons_append, List.append_nil, one_bool, one_int, one_str, one_nilp, one_ptr, one_sl, one_hsl, one_map, one_fn, List.length_cons, List.length_nil, List.set_cons_zero, List.set_cons_succ, Nat.reduceLT, Nat.reduceAdd, qG_un, e5, n1, s1, hp, hq]
  have tx : x = 0 ∨ x = 1 ∨ x = 2 ∨ x = 3 ∨ x = 4 := by omega
  have ty : y = 0 ∨ y = 1 ∨ y = 2 ∨ y = 3 ∨ y = 4 := by omega
  clear hx hx2 hy hy2 hp hq h1 e5 n1 s1
  rcases tx with rfl | rfl | rfl | rfl | rfl <;> rcases ty with rfl | rfl | rfl | rfl | rfl <;> (refine (?_ : okT _ = true); kernel_rfl)
end T
