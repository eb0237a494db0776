import Derived.Test.YtphgikpdbaeeoaaDoorRuX
import Derived.Test.YtphgikpdbaeeoaaDoorRvD
set_option linter.all false
set_option linter.unusedVariables false
set_option linter.unusedSimpArgs false
set_option maxRecDepth 10000
namespace T
open Go Go.Aes Go.Proofs

/-! ### the document's digits of sixteen -/
theorem hexV_cases (c : UInt8) : (digB c = true ∧ hexV c = some (c.toNat - 48)) ∨ (digB c = false ∧ 97 ≤ c.toNat ∧ c.toNat ≤ 102 ∧ hexV c = some (c.toNat - 87)) ∨
    (digB c = false ∧ ¬ (97 ≤ c.toNat ∧ c.toNat ≤ 102) ∧ 65 ≤ c.toNat ∧ c.toNat ≤ 70 ∧ hexV c = some (c.toNat - 55)) ∨ (digB c = false ∧ ¬ (97 ≤ c.toNat ∧ c.toNat ≤ 102) ∧ ¬ (65 ≤ c.toNat ∧ c.toNat ≤ 70) ∧ hexV c = none) := by
  unfold hexV digB
  by_cases h1 : 48 ≤ c.toNat ∧ c.toNat ≤ 57
  · exact .inl ⟨by simp [h1], by rw [if_pos h1]⟩
  · have hd : (decide (48 ≤ c.toNat) && decide (c.toNat ≤ 57)) = false := by rw [← Bool.not_eq_true]; simp; omega
    rw [hd, if_neg h1]
    by_cases h2 : 97 ≤ c.toNat ∧ c.toNat ≤ 102
    · exact .inr (.inl ⟨rfl, h2.1, h2.2, by rw [if_pos h2]⟩)
    · rw [if_neg h2]
      by_cases h3 : 65 ≤ c.toNat ∧ c.toNat ≤ 70
      · exact .inr (.inr (.inl ⟨rfl, h2, h3.1, h3.2, by rw [if_pos h3]⟩))
      · exact .inr (.inr (.inr ⟨rfl, h2, h3, by rw [if_neg h3]⟩))

set_option maxHeartbeats 1000000 in
theorem ep83 (s : Str) (hl : s.length < 1000000000) (i : Nat) (hi : i < 2000000000) (H : AH) : EP 83 [.str s, .int .i64 (i : Int)] H = some (.val (.int .i64 (fourZ (s.drop i))) H) := by
  refine uo_form (X := X) (D := OD2) (O := OF2) (S := PS) (al := [.str s, .int .i64 (i : Int)]) e83 xf83 rfl rfl rfl rfl ?_ H
  simp only [AV.kills, AV.kill]
  have hw4 : IntKind.i64.wrap ((i : Int) + 4) = ((i + 4 : Nat) : Int) := by rw [i64_in' (by omega)]; omega
  by_cases h4 : s.length < i + 4
  · have c1 : (((i + 4 : Nat) : Int) > (s.length : Int)) := by omega
    simp -implicitDefEqProofs only [c83, r83_0, r83_1, r83_2, opn_z, opn_s, sel_z, sel_s, qCd_eq, qIf_true, qFn_eq, qBl_eq, qGtr_int, qAdd_int, qLenS_str, AV.kill, hw4, c1, decide_true]
    have : fourF (s.drop i) = none := if_pos (by rw [List.length_drop]; omega)
    simp [fourZ, this]
  have c1 : ¬ (((i + 4 : Nat) : Int) > (s.length : Int)) := by omega
  have hF : fourF (s.drop i) = hexN ((s.drop i).take 4) 0 := if_neg (by rw [List.length_drop]; omega)
  simp -implicitDefEqProofs only [c83, r83_0, r83_1, r83_3, r83_4, opn_z, opn_s, sel_z, sel_s, qCd_eq, qIf_false, qFn_eq, qBl_eq, qGtr_int, qAdd_int, qLenS_str, hw4, c1, decide_false]
  refine loop_inv (fun m fr H' => ∃ (k v : Nat) (x4 x7 x12 x17 x23 x32 x46 : AV), m = 4 - k ∧ k ≤ 4 ∧ fr = [.str s, .int .i64 (i : Int), x4, .int .i64 (v : Int), .int .i64 ((i + k : Nat) : Int), x7, x12, x17, x23, x32, x46] ∧ v < 16 ^ k ∧
      hexN ((s.drop i).take 4) 0 = hexN (((s.drop i).take 4).drop k) v) ?_ (m := 4) ?_
  case refine_2 => exact ⟨0, 0, _, _, _, _, _, _, _, rfl, by omega, rfl, by omega, rfl⟩
  rintro m fr H' kk ⟨k, v, x4, x7, x12, x17, x23, x32, x46, rfl, hk, rfl, hv, hX⟩ hkk
  by_cases h : k < 4
  · have c2 : (((i + k : Nat) : Int) < ((i + 4 : Nat) : Int)) := by omega
    obtain ⟨c, hc⟩ : ∃ c, s[i + k]? = some c := ⟨_, List.getElem?_eq_getElem (show i + k < s.length by omega)⟩
    have ix := fun k => qIx_at s _ c hc k
    have hcd : ((s.drop i).take 4).drop k = c :: ((s.drop i).take 4).drop (k + 1) := by
      have hkl : k < ((s.drop i).take 4).length := by rw [List.length_take, List.length_drop]; omega
      rw [List.drop_eq_getElem_cons hkl]
      congr 1
      have := List.getElem?_eq_getElem hkl
      rw [List.getElem?_take, if_pos h, List.getElem?_drop, hc] at this
      injection this with this
      exact this.symm
    rw [hcd] at hX
    simp only [hexN] at hX
    have hw := wrap_up (i + k) (by omega)
    have e60 := fun H => ep60 c H
    have hp : 16 ^ k ≤ 16 ^ 3 := Nat.pow_le_pow_right (by omega) (by omega)
    have hp1 : 16 ^ (k + 1) = 16 * 16 ^ k := by rw [Nat.pow_succ, Nat.mul_comm]
    have hm : IntKind.i64.wrap (16 * (v : Int)) = ((16 * v : Nat) : Int) := by rw [i64_in' (by omega)]; omega
    have w8 : ∀ x : Int, 0 ≤ x → x < 256 → IntKind.u8.wrap x = x := fun x h0 h1 => by
      show x % 2 ^ 8 = x
      omega
    have hik : i + k + 1 = i + (k + 1) := by omega
    rw [hik] at hw
    rcases hexV_cases c with ⟨hd, hh⟩ | ⟨hd, g1, g2, hh⟩ | ⟨hd, g0, g1, g2, hh⟩ | ⟨hd, g0, g1, hh⟩
    · rw [hd] at e60
      rw [hh] at hX
      have hlt := hexV_lt hh
      have g48 : 48 ≤ c.toNat := by
        have : digB c = true := hd
        unfold digB at this
        simp at this
        exact this.1
      have b1 : IntKind.u8.wrap (((c.toNat : Nat) : Int) - 48) = ((c.toNat - 48 : Nat) : Int) := by rw [w8 _ (by omega) (by omega)]; omega
      have b2 : IntKind.i64.wrap ((c.toNat - 48 : Nat) : Int) = ((c.toNat - 48 : Nat) : Int) := i64_in' (by omega)
      have b3 : IntKind.i64.wrap (((16 * v : Nat) : Int) + ((c.toNat - 48 : Nat) : Int)) = ((16 * v + (c.toNat - 48) : Nat) : Int) := by rw [i64_in' (by omega)]; omega
      simp -implicitDefEqProofs only [l83_8, r83_5, r83_7, r83_9, r83_10, r83_6, opn_z, opn_s, sel_z, sel_s, qCd_eq, qIf_true, qBl_eq, qRes_val, qLss_int, qAdd_int, qSub_int, qMul_int, qConvI_int, hw4, c2, decide_true, ix, e60, hm, b1, b2, b3, hw]
      exact hkk (4 - (k + 1)) _ _ (by omega) ⟨k + 1, _, _, _, _, _, _, _, _, rfl, by omega, rfl, by omega, hX⟩
    · rw [hd] at e60
      rw [hh] at hX
      have hlt := hexV_lt hh
      have d1 : ((c.toNat : Nat) : Int) ≥ 97 := by omega
      have d2 : ((c.toNat : Nat) : Int) ≤ 102 := by omega
      have b1 : IntKind.u8.wrap (((c.toNat : Nat) : Int) - 97) = ((c.toNat - 97 : Nat) : Int) := by rw [w8 _ (by omega) (by omega)]; omega
      have b2 : IntKind.i64.wrap ((c.toNat - 97 : Nat) : Int) = ((c.toNat - 97 : Nat) : Int) := i64_in' (by omega)
      have b3 : IntKind.i64.wrap (((16 * v : Nat) : Int) + ((c.toNat - 97 : Nat) : Int)) = ((16 * v + (c.toNat - 97) : Nat) : Int) := by rw [i64_in' (by omega)]; omega
      have b4 : IntKind.i64.wrap (((16 * v + (c.toNat - 97) : Nat) : Int) + 10) = ((16 * v + (c.toNat - 87) : Nat) : Int) := by rw [i64_in' (by omega)]; omega
      simp -implicitDefEqProofs only [l83_8, r83_5, r83_7, r83_9, r83_11, r83_12, r83_6, opn_z, opn_s, sel_z, sel_s, qCd_eq, qIf_true, qIf_false, qBl_eq, qRes_val, qPick_true, qG_tt, qLss_int, qLeq_int, qGeq_int, qAdd_int, qSub_int, qMul_int, qConvI_int, hw4, c2, decide_true, ix, e60, d1, d2, hm, b1, b2, b3, b4, hw]
      exact hkk (4 - (k + 1)) _ _ (by omega) ⟨k + 1, _, _, _, _, _, _, _, _, rfl, by omega, rfl, by omega, hX⟩
    · rw [hd] at e60
      rw [hh] at hX
      have hlt := hexV_lt hh
      have d1 : ¬ ((c.toNat : Nat) : Int) ≥ 97 := by omega
      have d3 : ((c.toNat : Nat) : Int) ≥ 65 := by omega
      have d4 : ((c.toNat : Nat) : Int) ≤ 70 := by omega
      have b1 : IntKind.u8.wrap (((c.toNat : Nat) : Int) - 65) = ((c.toNat - 65 : Nat) : Int) := by rw [w8 _ (by omega) (by omega)]; omega
      have b2 : IntKind.i64.wrap ((c.toNat - 65 : Nat) : Int) = ((c.toNat - 65 : Nat) : Int) := i64_in' (by omega)
      have b3 : IntKind.i64.wrap (((16 * v : Nat) : Int) + ((c.toNat - 65 : Nat) : Int)) = ((16 * v + (c.toNat - 65) : Nat) : Int) := by rw [i64_in' (by omega)]; omega
      have b4 : IntKind.i64.wrap (((16 * v + (c.toNat - 65) : Nat) : Int) + 10) = ((16 * v + (c.toNat - 55) : Nat) : Int) := by rw [i64_in' (by omega)]; omega
      simp -implicitDefEqProofs only [l83_8, r83_5, r83_7, r83_9, r83_11, r83_13, r83_14, r83_6, opn_z, opn_s, sel_z, sel_s, qCd_eq, qIf_true, qIf_false, qBl_eq, qRes_val, qPick_true, qPick_false, qG_tt, qG_ft, qLss_int, qLeq_int, qGeq_int, qAdd_int, qSub_int, qMul_int, qConvI_int, hw4, c2, decide_true, decide_false, ix, e60, d1, d3, d4, hm, b1, b2, b3, b4, hw]
      exact hkk (4 - (k + 1)) _ _ (by omega) ⟨k + 1, _, _, _, _, _, _, _, _, rfl, by omega, rfl, by omega, hX⟩
    · rw [hd] at e60
      rw [hh] at hX
      have hz : fourZ (s.drop i) = -1 := by unfold fourZ; rw [hF, hX]
      rw [hz]
      by_cases d1 : ((c.toNat : Nat) : Int) ≥ 97
      · have d2 : ¬ ((c.toNat : Nat) : Int) ≤ 102 := by omega
        have d3 : ((c.toNat : Nat) : Int) ≥ 65 := by omega
        have d4 : ¬ ((c.toNat : Nat) : Int) ≤ 70 := by omega
        simp -implicitDefEqProofs only [l83_8, r83_5, r83_7, r83_9, r83_11, r83_13, r83_8, opn_z, opn_s, sel_z, sel_s, qCd_eq, qIf_true, qIf_false, qBl_eq, qRes_val, qPick_true, qG_tt, qLss_int, qLeq_int, qGeq_int, qAdd_int, AV.kill, hw4, c2, decide_true, decide_false, ix, e60, d1, d2, d3, d4]
      · by_cases d3 : ((c.toNat : Nat) : Int) ≥ 65
        · have d4 : ¬ ((c.toNat : Nat) : Int) ≤ 70 := by omega
          simp -implicitDefEqProofs only [l83_8, r83_5, r83_7, r83_9, r83_11, r83_13, r83_8, opn_z, opn_s, sel_z, sel_s, qCd_eq, qIf_true, qIf_false, qBl_eq, qRes_val, qPick_true, qPick_false, qG_tt, qG_ft, qLss_int, qLeq_int, qGeq_int, qAdd_int, AV.kill, hw4, c2, decide_true, decide_false, ix, e60, d1, d3, d4]
        · simp -implicitDefEqProofs only [l83_8, r83_5, r83_7, r83_9, r83_11, r83_13, r83_8, opn_z, opn_s, sel_z, sel_s, qCd_eq, qIf_true, qIf_false, qBl_eq, qRes_val, qPick_false, qG_ft, qLss_int, qGeq_int, qAdd_int, AV.kill, hw4, c2, decide_true, decide_false, ix, e60, d1, d3]
  · obtain rfl : k = 4 := by omega
    have c2 : ¬ (((i + 4 : Nat) : Int) < ((i + 4 : Nat) : Int)) := by omega
    simp -implicitDefEqProofs only [l83_8, r83_5, r83_15, opn_z, opn_s, sel_z, sel_s, qCd_eq, qIf_false, qBl_eq, qLss_int, qAdd_int, AV.kill, hw4, c2, decide_false]
    have hnil : ((s.drop i).take 4).drop 4 = [] := List.drop_of_length_le (by rw [List.length_take]; omega)
    rw [hnil] at hX
    unfold fourZ
    rw [hF, hX]
    rfl
end T
