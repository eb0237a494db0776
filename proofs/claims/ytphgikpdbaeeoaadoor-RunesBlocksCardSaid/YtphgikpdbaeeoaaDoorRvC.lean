import Derived.Test.YtphgikpdbaeeoaaDoorRvB
set_option linter.all false
set_option linter.unusedVariables false
set_option linter.unusedSimpArgs false
set_option maxRecDepth 10000
namespace T
open Go Go.Aes Go.Proofs

theorem u8_i64 (c : UInt8) : IntKind.i64.wrap ((c.toNat : Nat) : Int) = ((c.toNat : Nat) : Int) := by
  have := c.toNat_lt
  exact i64_in' (by omega)

open Classical in
set_option maxHeartbeats 1000000 in
theorem ep58 (s : Str) (hl : s.length < 9000000000000000000) (i : Nat) (hi : i < s.length) (H : AH) :
    EP 58 [.str s, .int .i64 (i : Int)] H = some (.val (.tup [.int .i64 ((run1 (s.drop i)).1 : Int), .int .i64 ((run1 (s.drop i)).2 : Int)]) H) := by
  refine uo_form (X := X) (D := OD2) (O := OF2) (S := PS) (al := [.str s, .int .i64 (i : Int)]) e58 xf58 rfl rfl rfl rfl ?_ H
  simp only [AV.kills, AV.kill]
  obtain ⟨d, hd, hb⟩ := byt_at hi
  have hdl := d.toNat_lt
  have ix := fun k => qIx_at s i d hd k
  have wc := u8_i64 d
  by_cases h1 : d.toNat < 128
  · have c1 : ((d.toNat : Nat) : Int) < 128 := by omega
    have hr : run1 (s.drop i) = (d.toNat, 1) := by
      refine run1_ok ?_ (.inr (by omega))
      rw [run1_N s i hi, hb]
      unfold Lib.decodeN
      rw [if_pos h1]
    rw [hr]
    simp -implicitDefEqProofs only [c58, r58_0, r58_1, r58_2, r58_4, r58_5, opn_z, opn_s, sel_z, sel_s, qCd_eq, qIf_true, qFn_eq, qBl_eq, qLss_int, qConvI_int, AV.kill, AV.kills, ix, wc, c1, decide_true]
    rfl
  have c1 : ¬ ((d.toNat : Nat) : Int) < 128 := by omega
  have fin : ∀ (n v0 : Nat) (P : Prop) (inst : Decidable P), (run1 (s.drop i) = @ite _ P inst (accB s i v0 (n - 1), n) (0, 0)) → (P ↔ (i + n ≤ s.length ∧ (∀ j, 1 ≤ j → j < n → byt s (i + j) / 64 = 2) ∧ rngB n (accB s i v0 (n - 1)))) → v0 < 32 → (n = 2 ∨ n = 3 ∨ n = 4) →
      ∀ (x4 x5 x9 x14 x18 x27 x36 x50 x53 x62 x98 : AV) (H : AH), r58_12 (qCd (sel 12) (fun _ => (r58_13 (fun fr (_ : AH) => (AV.tup [sel 2 fr, sel 3 fr]).kill = .tup [.int .i64 ((run1 (s.drop i)).1 : Int), .int .i64 ((run1 (s.drop i)).2 : Int)]))) (fun k7 => k7) (r58_14 (qBl (fun k2 => (qLoop (l58_6 k2 (fun fr (_ : AH) => (AV.tup [sel 2 fr, sel 3 fr]).kill = .tup [.int .i64 ((run1 (s.drop i)).1 : Int), .int .i64 ((run1 (s.drop i)).2 : Int)])))) (r58_20 (qCd (sel 15) (fun _ => (r58_21 (fun fr (_ : AH) => (AV.tup [sel 2 fr, sel 3 fr]).kill = .tup [.int .i64 ((run1 (s.drop i)).1 : Int), .int .i64 ((run1 (s.drop i)).2 : Int)]))) (fun k1 => k1) (r58_22 (fun fr (_ : AH) => (AV.tup [sel 2 fr, sel 3 fr]).kill = .tup [.int .i64 ((run1 (s.drop i)).1 : Int), .int .i64 ((run1 (s.drop i)).2 : Int)]))))))) [.str s, .int .i64 (i : Int), x4, x5, .int .i64 ((d.toNat : Nat) : Int), .int .i64 (n : Int), .int .i64 (v0 : Int), x9, x14, x18, x27, x36, x50, x53, x62, x98] H := by
    intro n v0 P inst hrun hP h0 hn x4 x5 x9 x14 x18 x27 x36 x50 x53 x62 x98 H
    refine rune_tail s hl i n v0 h0 hn _ H _ (fun x6 x7 x8 x9 x14 x18 x27 x36 x50 x53 x62 x98 h => ?_) (fun x6 x7 x8 x9 x14 x18 x27 x36 x50 x53 x62 x98 h => ?_) hi _ _ _ _ _ _ _ _ _ _ _
    · rw [hrun, if_neg (fun g => h (hP.1 g))]
      rfl
    · rw [hrun, if_pos (hP.2 h)]
      rfl
  by_cases h2 : 194 ≤ d.toNat
  · have c2 : ((d.toNat : Nat) : Int) ≥ 194 := by omega
    by_cases h3 : d.toNat ≤ 223
    · have c3 : ((d.toNat : Nat) : Int) ≤ 223 := by omega
      have hrun := lead_two s i hi (by omega)
      rw [hb] at hrun
      have an : binop X .and 3 (.int .i64 (d.toNat : Int)) (.int .i64 31) = some (.int .i64 ((d.toNat % 32 : Nat) : Int)) := and_i64 d.toNat 31 (by omega) 5 rfl (by omega)
      simp -implicitDefEqProofs only [c58, r58_0, r58_1, r58_2, r58_4, r58_6, r58_7, opn_z, opn_s, sel_z, sel_s, qCd_eq, qIf_true, qIf_false, qFn_eq, qBl_eq, qO_some, qPick_true, qG_tt, qLss_int, qLeq_int, qGeq_int, qConvI_int, ix, wc, c1, c2, c3, decide_true, decide_false, an]
      exact fin 2 (d.toNat % 32) _ _ hrun Iff.rfl (by omega) (by omega) _ _ _ _ _ _ _ _ _ _ _ _
    have c3 : ¬ ((d.toNat : Nat) : Int) ≤ 223 := by omega
    have c4 : ((d.toNat : Nat) : Int) ≥ 224 := by omega
    by_cases h5 : d.toNat ≤ 239
    · have c5 : ((d.toNat : Nat) : Int) ≤ 239 := by omega
      have hrun := lead_three s i hi (by omega)
      rw [hb] at hrun
      have an : binop X .and 3 (.int .i64 (d.toNat : Int)) (.int .i64 15) = some (.int .i64 ((d.toNat % 16 : Nat) : Int)) := and_i64 d.toNat 15 (by omega) 4 rfl (by omega)
      simp -implicitDefEqProofs only [c58, r58_0, r58_1, r58_2, r58_4, r58_6, r58_8, r58_9, opn_z, opn_s, sel_z, sel_s, qCd_eq, qIf_true, qIf_false, qFn_eq, qBl_eq, qO_some, qPick_true, qG_tt, qLss_int, qLeq_int, qGeq_int, qConvI_int, ix, wc, c1, c2, c3, c4, c5, decide_true, decide_false, an]
      exact fin 3 (d.toNat % 16) _ _ hrun Iff.rfl (by omega) (by omega) _ _ _ _ _ _ _ _ _ _ _ _
    have c5 : ¬ ((d.toNat : Nat) : Int) ≤ 239 := by omega
    have c6 : ((d.toNat : Nat) : Int) ≥ 240 := by omega
    by_cases h7 : d.toNat ≤ 244
    · have c7 : ((d.toNat : Nat) : Int) ≤ 244 := by omega
      have hrun := lead_four s i hi (by omega)
      rw [hb] at hrun
      have an : binop X .and 3 (.int .i64 (d.toNat : Int)) (.int .i64 7) = some (.int .i64 ((d.toNat % 8 : Nat) : Int)) := and_i64 d.toNat 7 (by omega) 3 rfl (by omega)
      simp -implicitDefEqProofs only [c58, r58_0, r58_1, r58_2, r58_4, r58_6, r58_8, r58_10, r58_11, opn_z, opn_s, sel_z, sel_s, qCd_eq, qIf_true, qIf_false, qFn_eq, qBl_eq, qO_some, qPick_true, qG_tt, qLss_int, qLeq_int, qGeq_int, qConvI_int, ix, wc, c1, c2, c3, c4, c5, c6, c7, decide_true, decide_false, an]
      exact fin 4 (d.toNat % 8) _ _ hrun Iff.rfl (by omega) (by omega) _ _ _ _ _ _ _ _ _ _ _ _
    · have c7 : ¬ ((d.toNat : Nat) : Int) ≤ 244 := by omega
      rw [lead_none s i hi (by omega) (by omega) (by omega)]
      simp -implicitDefEqProofs only [c58, r58_0, r58_1, r58_2, r58_4, r58_6, r58_8, r58_10, r58_3, opn_z, opn_s, sel_z, sel_s, qCd_eq, qIf_false, qFn_eq, qBl_eq, qPick_true, qG_tt, qLss_int, qLeq_int, qGeq_int, qConvI_int, AV.kill, AV.kills, ix, wc, c1, c2, c3, c4, c5, c6, c7, decide_true, decide_false]
      rfl
  · have c2 : ¬ ((d.toNat : Nat) : Int) ≥ 194 := by omega
    have c4 : ¬ ((d.toNat : Nat) : Int) ≥ 224 := by omega
    have c6 : ¬ ((d.toNat : Nat) : Int) ≥ 240 := by omega
    rw [lead_none s i hi (by omega) (by omega) (by omega)]
    simp -implicitDefEqProofs only [c58, r58_0, r58_1, r58_2, r58_4, r58_6, r58_8, r58_10, r58_3, opn_z, opn_s, sel_z, sel_s, qCd_eq, qIf_false, qFn_eq, qBl_eq, qPick_false, qG_ft, qLss_int, qGeq_int, qConvI_int, AV.kill, AV.kills, ix, wc, c1, c2, c4, c6, decide_false]
    rfl

theorem ep35 (s : Str) (hl : s.length < 9000000000000000000) (H : AH) : EP 35 [.str s] H = some (.val (.bool (Lib.validD s)) H) := by
  refine uo_form (X := X) (D := OD2) (O := OF2) (S := PS) (al := [.str s]) e35 xf35 rfl rfl rfl rfl ?_ H
  simp -implicitDefEqProofs only [AV.kills, AV.kill, c35, r35_0, r35_1, opn_z, opn_s, qFn_eq, qBl_eq]
  refine loop_inv (fun m fr H' => ∃ (i : Nat) (x2 x5 x9 x17 : AV), m = s.length - i ∧ i ≤ s.length ∧ fr = [.str s, x2, .int .i64 (i : Int), x5, x9, x17] ∧ Lib.validD s = Lib.validD (s.drop i)) ?_ (m := s.length) ?_
  case refine_2 => exact ⟨0, _, _, _, _, rfl, by omega, rfl, rfl⟩
  rintro m fr H' k ⟨i, x2, x5, x9, x17, rfl, hi, rfl, hV⟩ hk
  rcases Nat.lt_or_ge i s.length with h | h
  · have h' : (i : Int) < (s.length : Int) := by omega
    have e58 := fun H => ep58 s hl i h H
    have hne : s.drop i ≠ [] := by
      intro e
      have := congrArg List.length e
      rw [List.length_drop] at this
      simp at this
      omega
    rw [vstep _ hne] at hV
    by_cases hb : Bad (s.drop i)
    · have hr : run1 (s.drop i) = (0, 0) := if_pos hb
      rw [hr] at e58
      rw [if_pos hb] at hV
      have z0 : (((0 : Nat) : Int) == 0) = true := by decide
      simp -implicitDefEqProofs only [l35_5, r35_2, r35_3, r35_4, r35_5, opn_z, opn_s, sel_z, sel_s, qCd_eq, qIf_true, qBl_eq, qO_some, qRes_val, qExt_tup, qLss_int, qEql_int, qLenS_str, List.getElem?_cons_zero, List.getElem?_cons_succ, AV.kill, h', decide_true, e58, z0]
      rw [hV]
    · have hr : run1 (s.drop i) = Lib.decodeL (s.drop i) := if_neg hb
      rw [hr] at e58
      rw [if_neg hb] at hV
      have hw1 := Lib.decodeL_width (s.drop i)
      have hw2 := Lib.decodeL_le (s.drop i) hne
      rw [List.length_drop] at hw2
      rw [List.drop_drop] at hV
      generalize Lib.decodeL (s.drop i) = dd at *
      have z0 : (((dd.2 : Nat) : Int) == 0) = false := by simp; omega
      have hw : IntKind.i64.wrap ((i : Int) + (dd.2 : Int)) = ((i + dd.2 : Nat) : Int) := by rw [i64_in' (by omega)]; omega
      simp -implicitDefEqProofs only [l35_5, r35_2, r35_3, r35_4, r35_6, opn_z, opn_s, sel_z, sel_s, qCd_eq, qIf_true, qIf_false, qBl_eq, qO_some, qRes_val, qExt_tup, qLss_int, qEql_int, qAdd_int, qLenS_str, List.getElem?_cons_zero, List.getElem?_cons_succ, h', decide_true, e58, z0, hw]
      exact hk (s.length - (i + dd.2)) _ _ (by omega) ⟨i + dd.2, _, _, _, _, rfl, by omega, rfl, hV⟩
  · have h' : ¬ (i : Int) < (s.length : Int) := by omega
    simp -implicitDefEqProofs only [l35_5, r35_2, r35_7, opn_z, opn_s, sel_z, sel_s, qCd_eq, qIf_false, qBl_eq, qLss_int, qLenS_str, AV.kill, h', decide_false]
    rw [hV, List.drop_of_length_le h]
    rfl
end T
