import Derived.Test.YtphgikpdbaeeoaaDoorRdBX
import Derived.Test.YtphgikpdbaeeoaaDoorRdNm
set_option linter.all false
set_option linter.unusedVariables false
set_option linter.unusedSimpArgs false
set_option maxRecDepth 10000
namespace T
open Go Go.Aes Go.Proofs

/-! ### the document's letters -/
theorem beq_nat (a b : Nat) : (((a : Nat) : Int) == ((b : Nat) : Int)) = decide (a = b) := by rw [Bool.eq_iff_iff]; simp; omega
theorem ep59 (c : UInt8) (H : AH) : EP 59 [.int .u8 (c.toNat : Int)] H = some (.val (.bool (letB c)) H) := by
  refine uo_form (X := X) (D := OD2) (O := OF2) (S := PS) (al := [.int .u8 (c.toNat : Int)]) e59 xf59 rfl rfl rfl rfl ?_ H
  simp only [AV.kills, AV.kill]
  unfold letB
  generalize c.toNat = r
  by_cases h1 : 97 ≤ r
  · have c1 : ((r : Int) ≥ 97) := by omega
    by_cases h2 : r ≤ 122
    · have c2 : ((r : Int) ≤ 122) := by omega
      simp -implicitDefEqProofs only [c59, r59_0, r59_1, opn_z, opn_s, sel_z, sel_s, qFn_eq, qPick_true, qG_tt, qG_tf, qLeq_int, qGeq_int, qG_un, AV.kill, c1, c2, decide_true]
      simp [h1, h2]
    · have c2 : ¬ ((r : Int) ≤ 122) := by omega
      have c3 : ((r : Int) ≥ 65) := by omega
      have c4 : ¬ ((r : Int) ≤ 90) := by omega
      have c5 : ((r : Int) == 95) = false := by simp; omega
      have hf : ((decide (97 ≤ r) && decide (r ≤ 122)) || (decide (65 ≤ r) && decide (r ≤ 90)) || decide (r = 95)) = false := by simp; omega
      rw [hf]
      simp -implicitDefEqProofs only [c59, r59_0, r59_1, opn_z, opn_s, sel_z, sel_s, qFn_eq, qPick_true, qPick_false, qG_tt, qG_ff, qLeq_int, qGeq_int, qEql_int, AV.kill, c1, c2, c3, c4, c5, decide_true, decide_false]
  · have c1 : ¬ ((r : Int) ≥ 97) := by omega
    by_cases h3 : 65 ≤ r
    · have c3 : ((r : Int) ≥ 65) := by omega
      by_cases h4 : r ≤ 90
      · have c4 : ((r : Int) ≤ 90) := by omega
        have hf : ((decide (97 ≤ r) && decide (r ≤ 122)) || (decide (65 ≤ r) && decide (r ≤ 90)) || decide (r = 95)) = true := by simp; omega
        rw [hf]
        simp -implicitDefEqProofs only [c59, r59_0, r59_1, opn_z, opn_s, sel_z, sel_s, qFn_eq, qPick_true, qPick_false, qG_tt, qG_ff, qG_tf, qG_ft, qLeq_int, qGeq_int, AV.kill, c1, c3, c4, decide_true, decide_false]
      · have c4 : ¬ ((r : Int) ≤ 90) := by omega
        have hf : ((decide (97 ≤ r) && decide (r ≤ 122)) || (decide (65 ≤ r) && decide (r ≤ 90)) || decide (r = 95)) = ((r : Int) == 95) := by rw [Bool.eq_iff_iff]; simp; omega
        rw [hf]
        simp -implicitDefEqProofs only [c59, r59_0, r59_1, opn_z, opn_s, sel_z, sel_s, qFn_eq, qPick_true, qPick_false, qG_tt, qG_ff, qG_ft, qLeq_int, qGeq_int, qEql_int, AV.kill, c1, c3, c4, decide_true, decide_false]
    · have c3 : ¬ ((r : Int) ≥ 65) := by omega
      have c5 : ((r : Int) == 95) = false := by simp; omega
      have hf : ((decide (97 ≤ r) && decide (r ≤ 122)) || (decide (65 ≤ r) && decide (r ≤ 90)) || decide (r = 95)) = false := by simp; omega
      rw [hf]
      simp -implicitDefEqProofs only [c59, r59_0, r59_1, opn_z, opn_s, sel_z, sel_s, qFn_eq, qPick_false, qG_ff, qG_ft, qGeq_int, qEql_int, AV.kill, c1, c3, c5, decide_false]
theorem ep60 (c : UInt8) (H : AH) : EP 60 [.int .u8 (c.toNat : Int)] H = some (.val (.bool (digB c)) H) := by
  refine uo_form (X := X) (D := OD2) (O := OF2) (S := PS) (al := [.int .u8 (c.toNat : Int)]) e60 xf60 rfl rfl rfl rfl ?_ H
  simp only [AV.kills, AV.kill]
  unfold digB
  generalize c.toNat = r
  by_cases h1 : 48 ≤ r
  · have c1 : ((r : Int) ≥ 48) := by omega
    have hf : (decide (48 ≤ r) && decide (r ≤ 57)) = decide ((r : Int) ≤ 57) := by rw [Bool.eq_iff_iff]; simp; omega
    rw [hf]
    simp -implicitDefEqProofs only [c60, r60_0, r60_1, opn_z, opn_s, sel_z, sel_s, qFn_eq, qPick_true, qG_tt, qLeq_int, qGeq_int, AV.kill, c1, decide_true]
  · have c1 : ¬ ((r : Int) ≥ 48) := by omega
    have hf : (decide (48 ≤ r) && decide (r ≤ 57)) = false := by simp; omega
    rw [hf]
    simp -implicitDefEqProofs only [c60, r60_0, r60_1, opn_z, opn_s, sel_z, sel_s, qFn_eq, qPick_false, qG_ft, qGeq_int, AV.kill, c1, decide_false]

/-! ### the document's names -/
theorem nameB_rest : ∀ (s : Str) (i : Nat) (c : UInt8), s[i]? = some c → nameB (decide (i = 0)) (s.drop i) = ((letB c || (!(decide (i = 0)) && digB c)) && nameB (decide (i + 1 = 0)) (s.drop (i + 1)))
  | s, i, c, h => by
    have hl := (List.getElem?_eq_some_iff.1 h).1
    have hd : s.drop i = c :: s.drop (i + 1) := by
      rw [List.drop_eq_getElem_cons hl]
      congr 1
      have := List.getElem?_eq_getElem hl
      rw [h] at this
      injection this with this
      exact this.symm
    rw [hd]
    simp only [nameB]
    rw [show decide (i + 1 = 0) = false by simp]

set_option maxHeartbeats 1000000 in
theorem ep36 (s : Str) (hl : s.length < 9000000000000000000) (H : AH) : EP 36 [.str s] H = some (.val (.bool (nameF s)) H) := by
  refine uo_form (X := X) (D := OD2) (O := OF2) (S := PS) (al := [.str s]) e36 xf36 rfl rfl rfl rfl ?_ H
  simp -implicitDefEqProofs only [AV.kills, AV.kill, c36, r36_0, r36_1, opn_z, opn_s, qFn_eq, qBl_eq]
  refine loop_inv (fun m fr H' => ∃ (i : Nat) (x2 x7 x25 : AV), m = s.length - i ∧ i ≤ s.length ∧ fr = [.str s, x2, .int .i64 (i : Int), x7, x25] ∧ nameB true s = nameB (decide (i = 0)) (s.drop i)) ?_ (m := s.length) ?_
  case refine_2 => exact ⟨0, _, _, _, rfl, by omega, rfl, rfl⟩
  rintro m fr H' k ⟨i, x2, x7, x25, rfl, hi, rfl, hN⟩ hk
  rcases Nat.lt_or_ge i s.length with h | h
  · have h' : (i : Int) < (s.length : Int) := by omega
    have hc := List.getElem?_eq_getElem h
    have ix := fun k => qIx_at s i s[i] hc k
    generalize s[i] = c at hc ix
    have e59 := fun H => ep59 c H
    have e60 := fun H => ep60 c H
    have hw := wrap_up i (by omega)
    rw [nameB_rest s i c hc] at hN
    have i0 : ((i : Int) == 0) = decide (i = 0) := by rw [Bool.eq_iff_iff]; simp
    cases hb : letB c with
    | true =>
      rw [hb] at e59 hN
      simp -implicitDefEqProofs only [l36_5, r36_2, r36_4, r36_3, opn_z, opn_s, sel_z, sel_s, qCd_eq, qIf_true, qIf_false, qBl_eq, qRes_val, qPick_false, qG_ft, qNot_bool, qLss_int, qAdd_int, qLenS_str, qG_un, h', decide_true, ix, e59, Bool.not_true, hw]
      exact hk (s.length - (i + 1)) _ _ (by omega) ⟨i + 1, _, _, _, rfl, h, rfl, by rw [hN]; simp⟩
    | false =>
      rw [hb] at e59 hN
      by_cases hz : i = 0
      · have iz : ((i : Int) == 0) = true := by rw [i0]; simp [hz]
        simp -implicitDefEqProofs only [l36_5, r36_2, r36_4, r36_5, opn_z, opn_s, sel_z, sel_s, qCd_eq, qIf_true, qBl_eq, qRes_val, qPick_true, qG_tt, qG_tf, qNot_bool, qLss_int, qEql_int, qLenS_str, AV.kill, h', decide_true, ix, e59, Bool.not_false, iz]
        unfold nameF
        rw [hN, decide_eq_true hz]
        simp
      · have iz : ((i : Int) == 0) = false := by rw [i0]; simp [hz]
        cases hd : digB c with
        | true =>
          rw [hd] at e60 hN
          simp -implicitDefEqProofs only [l36_5, r36_2, r36_4, r36_3, opn_z, opn_s, sel_z, sel_s, qCd_eq, qIf_true, qIf_false, qBl_eq, qRes_val, qPick_true, qPick_false, qG_tt, qG_ff, qNot_bool, qLss_int, qEql_int, qAdd_int, qLenS_str, h', decide_true, ix, e59, Bool.not_false, iz, e60, Bool.not_true, hw]
          exact hk (s.length - (i + 1)) _ _ (by omega) ⟨i + 1, _, _, _, rfl, h, rfl, by rw [hN]; simp [hz]⟩
        | false =>
          rw [hd] at e60 hN
          simp -implicitDefEqProofs only [l36_5, r36_2, r36_4, r36_5, opn_z, opn_s, sel_z, sel_s, qCd_eq, qIf_true, qBl_eq, qRes_val, qPick_true, qPick_false, qG_tt, qG_ff, qNot_bool, qLss_int, qEql_int, qLenS_str, AV.kill, h', decide_true, ix, e59, Bool.not_false, iz, e60]
          unfold nameF
          rw [hN]
          simp
  · have h' : ¬ (i : Int) < (s.length : Int) := by omega
    rw [List.drop_of_length_le h] at hN
    have hN' : nameB true s = true := by rw [hN]; rfl
    by_cases h1 : 1 ≤ s.length
    · have c1 : ((s.length : Int) ≥ 1) := by omega
      have hf : nameF s = decide ((s.length : Int) ≤ 40) := by
        unfold nameF
        rw [hN', Bool.true_and, Bool.eq_iff_iff]
        simp; omega
      simp -implicitDefEqProofs only [l36_5, r36_2, r36_6, opn_z, opn_s, sel_z, sel_s, qCd_eq, qIf_false, qBl_eq, qPick_true, qG_tt, qLss_int, qLeq_int, qGeq_int, qLenS_str, AV.kill, h', decide_false, c1, decide_true]
      rw [hf]
    · have c1 : ¬ ((s.length : Int) ≥ 1) := by omega
      have hf : nameF s = false := by
        unfold nameF
        rw [hN', Bool.true_and]
        simp; omega
      simp -implicitDefEqProofs only [l36_5, r36_2, r36_6, opn_z, opn_s, sel_z, sel_s, qCd_eq, qIf_false, qBl_eq, qPick_false, qG_ft, qLss_int, qGeq_int, qLenS_str, AV.kill, h', decide_false, c1]
      rw [hf]
end T
