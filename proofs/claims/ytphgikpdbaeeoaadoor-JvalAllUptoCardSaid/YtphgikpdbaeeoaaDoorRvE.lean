import Derived.Test.YtphgikpdbaeeoaaDoorRvD
set_option linter.all false
set_option linter.unusedVariables false
set_option linter.unusedSimpArgs false
set_option maxRecDepth 10000
namespace T
open Go Go.Aes Go.Proofs

/-! ### the document's numbers -/
theorem at_pos (s : Str) (i : Nat) (h : i ≤ s.length) : (i = s.length ∧ s.drop i = []) ∨ ∃ c, s[i]? = some c ∧ i < s.length ∧ s.drop i = c :: s.drop (i + 1) := by
  rcases Nat.lt_or_ge i s.length with h1 | h1
  · refine .inr ⟨s[i], List.getElem?_eq_getElem h1, h1, List.drop_eq_getElem_cons h1⟩
  · exact .inl ⟨by omega, List.drop_of_length_le h1⟩
theorem digB_isD (c : UInt8) : digB c = isD c := by
  have key : ∀ x : Fin 256, digB (UInt8.ofNat x.val) = isD (UInt8.ofNat x.val) := by decide +kernel
  have := key ⟨c.toNat, c.toNat_lt⟩
  simpa using this
theorem dg_le' (s : Str) : dg s ≤ s.length := dg_le s

theorem ep44 (s : Str) (hl : s.length < 1000000000000) (i : Nat) (hi : i ≤ s.length) (H : AH) : EP 44 [.str s, .int .i64 (i : Int)] H = some (.val (.int .i64 (dg (s.drop i) : Int)) H) := by
  refine uo_form (X := X) (D := OD2) (O := OF2) (S := PS) (al := [.str s, .int .i64 (i : Int)]) e44 xf44 rfl rfl rfl rfl ?_ H
  simp -implicitDefEqProofs only [AV.kills, AV.kill, c44, r44_0, r44_1, opn_z, opn_s, qFn_eq, qBl_eq]
  refine loop_inv (fun m fr H' => ∃ (n : Nat) (x4 x19 : AV), m = s.length - (i + n) ∧ i + n ≤ s.length ∧ fr = [.str s, .int .i64 (i : Int), x4, .int .i64 (n : Int), x19] ∧ dg (s.drop i) = n + dg (s.drop (i + n))) ?_ (m := s.length - i) ?_
  case refine_2 => exact ⟨0, _, _, by omega, by omega, rfl, by simp⟩
  rintro m fr H' k ⟨n, x4, x19, rfl, hn, rfl, hD⟩ hk
  have hw : IntKind.i64.wrap ((i : Int) + (n : Int)) = ((i + n : Nat) : Int) := by rw [i64_in' (by omega)]; omega
  rcases at_pos s (i + n) hn with ⟨h1, h2⟩ | ⟨c, hc, h1, h2⟩
  · have c1 : ¬ (((i + n : Nat) : Int) < (s.length : Int)) := by omega
    rw [h2] at hD
    simp -implicitDefEqProofs only [l44_4, r44_2, r44_4, opn_z, opn_s, sel_z, sel_s, qCd_eq, qIf_false, qBl_eq, qPick_false, qG_ft, qLss_int, qAdd_int, qLenS_str, AV.kill, hw, c1, decide_false]
    rw [hD]
    rfl
  · have c1 : (((i + n : Nat) : Int) < (s.length : Int)) := by omega
    have ix := fun k => qIx_at s _ c hc k
    have e60 := fun H => ep60 c H
    rw [h2, dg_cons, ← digB_isD] at hD
    cases hd : digB c with
    | true =>
      rw [hd] at e60 hD
      have hwn := wrap_up n (by omega)
      simp -implicitDefEqProofs only [l44_4, r44_2, r44_3, opn_z, opn_s, sel_z, sel_s, qCd_eq, qIf_true, qBl_eq, qRes_val, qPick_true, qG_tt, qLss_int, qAdd_int, qLenS_str, hw, c1, decide_true, ix, e60, hwn]
      refine hk (s.length - (i + (n + 1))) _ _ (by omega) ⟨n + 1, _, _, rfl, by omega, rfl, ?_⟩
      rw [hD, if_pos rfl, show i + (n + 1) = i + n + 1 by omega]
      omega
    | false =>
      rw [hd] at e60 hD
      simp -implicitDefEqProofs only [l44_4, r44_2, r44_4, opn_z, opn_s, sel_z, sel_s, qCd_eq, qIf_false, qBl_eq, qRes_val, qPick_true, qG_tt, qLss_int, qAdd_int, qLenS_str, AV.kill, hw, c1, decide_true, ix, e60]
      rw [hD]
      rfl

section
variable (s : Str) (hl : s.length < 1000) (kr : KT Prop)
theorem n16_end (i : Nat) (hi : i ≤ s.length) (w : Bool) (H : AH)
    (hk : ∀ (x0 x4 x5 x6 x9 x19 x36 x49 x55 x75 x93 x100 x107 : AV), kr [x0, .bool (w && decide (s.drop i = [])), .bool (decide (s.drop i = [])), x4, x5, x6, x9, x19, x36, x49, x55, x75, x93, x100, x107] H) (x2 x3 x6 x9 x19 x36 x49 x55 x75 x93 x100 x107 : AV) :
    (r16_23 (qCd (sel 14) (fun _ => (r16_24 kr)) (fun k1 => k1) (r16_25 kr))) [.str s, x2, x3, .int .i64 (i : Int), .bool w, x6, x9, x19, x36, x49, x55, x75, x93, x100, x107] H := by
  rcases at_pos s i hi with ⟨h1, h2⟩ | ⟨c, hc, h1, h2⟩
  · have c1 : (((i : Nat) : Int) == (s.length : Int)) = true := by rw [beq_nat]; simp [h1]
    rw [h2] at hk
    simp -implicitDefEqProofs only [r16_23, r16_25, opn_z, opn_s, sel_z, sel_s, qCd_eq, qIf_false, qNeq_int, qLenS_str, c1, Bool.not_true]
    simpa using hk _ _ _ _ _ _ _ _ _ _ _ _ _
  · have c1 : (((i : Nat) : Int) == (s.length : Int)) = false := by rw [beq_nat]; simp; omega
    rw [h2] at hk
    simp -implicitDefEqProofs only [r16_23, r16_24, opn_z, opn_s, sel_z, sel_s, qCd_eq, qIf_true, qNeq_int, qLenS_str, c1, Bool.not_false]
    simpa using hk _ _ _ _ _ _ _ _ _ _ _ _ _

include hl in
theorem n16_exp (i : Nat) (hi : i ≤ s.length) (w : Bool) (H : AH)
    (hk : ∀ (x0 x4 x5 x6 x9 x19 x36 x49 x55 x75 x93 x100 x107 : AV), kr [x0, .bool (match expN (s.drop i) with | none => false | some s4 => (w && decide (s.drop i = [])) && decide (s4 = [])), .bool (match expN (s.drop i) with | none => false | some s4 => decide (s4 = [])), x4, x5, x6, x9, x19, x36, x49, x55, x75, x93, x100, x107] H) (x2 x3 x6 x9 x19 x36 x49 x55 x75 x93 x100 x107 : AV) :
    (r16_15 (qCd (sel 11) (fun k2 => (r16_16 (r16_17 (qCd (sel 12) (fun k4 => (r16_18 k4)) (fun k4 => k4) (r16_19 EP (r16_20 (qCd (sel 13) (fun _ => (r16_21 kr)) (fun k3 => k3) (r16_22 k2)))))))) (fun k2 => k2) (r16_23 (qCd (sel 14) (fun _ => (r16_24 kr)) (fun k1 => k1) (r16_25 kr))))) [.str s, x2, x3, .int .i64 (i : Int), .bool w, x6, x9, x19, x36, x49, x55, x75, x93, x100, x107] H := by
  rcases at_pos s i hi with ⟨h1, h2⟩ | ⟨c, hc, h1, h2⟩
  · have c1 : ¬ ((i : Int) < (s.length : Int)) := by omega
    simp -implicitDefEqProofs only [r16_15, opn_z, opn_s, sel_z, sel_s, qCd_eq, qIf_false, qPick_false, qG_ft, qLss_int, qLenS_str, qG_un, c1, decide_false]
    refine n16_end s kr i hi w H (fun x0 x4 x5 x6 x9 x19 x36 x49 x55 x75 x93 x100 x107 => ?_) _ _ _ _ _ _ _ _ _ _ _ _
    have := hk x0 x4 x5 x6 x9 x19 x36 x49 x55 x75 x93 x100 x107
    rw [h2] at this ⊢
    simpa [expN] using this
  have c1 : ((i : Int) < (s.length : Int)) := by omega
  have ix := fun k => qIx_at s _ c hc k
  have q101 : (((c.toNat : Nat) : Int) == 101) = decide (c = 101) := eqU c 101
  have q69 : (((c.toNat : Nat) : Int) == 69) = decide (c = 69) := eqU c 69
  cases he : ([101, 69] : Str).contains c with
  | false =>
    have hn1 : ¬ c = 101 := by rintro rfl; exact absurd he (by decide)
    have hn2 : ¬ c = 69 := by rintro rfl; exact absurd he (by decide)
    rw [decide_eq_false hn1] at q101
    rw [decide_eq_false hn2] at q69
    simp -implicitDefEqProofs only [r16_15, opn_z, opn_s, sel_z, sel_s, qCd_eq, qIf_false, qPick_true, qPick_false, qG_tt, qG_ff, qLss_int, qEql_int, qLenS_str, c1, decide_true, ix, q101, q69]
    refine n16_end s kr i hi w H (fun x0 x4 x5 x6 x9 x19 x36 x49 x55 x75 x93 x100 x107 => ?_) _ _ _ _ _ _ _ _ _ _ _ _
    have := hk x0 x4 x5 x6 x9 x19 x36 x49 x55 x75 x93 x100 x107
    have hx : expN (s.drop i) = some (s.drop i) := by rw [h2]; show (if _ = true then _ else _) = _; rw [he]; rfl
    rw [hx] at this
    simp only at this
    rw [h2] at this ⊢
    simpa using this
  | true =>
    have hw1 := wrap_up i (by omega)
    have hx : expN (s.drop i) = if dg (sgnN (s.drop (i + 1))) = 0 then none else some ((sgnN (s.drop (i + 1))).drop (dg (sgnN (s.drop (i + 1))))) := by
      rw [h2]
      show (if _ = true then _ else _) = _
      rw [if_pos he]
    have hne : decide (s.drop i = []) = false := by rw [h2]; rfl
    rw [hx, hne] at hk
    have mid : ∀ (j : Nat) (_ : j ≤ s.length) (_ : sgnN (s.drop (i + 1)) = s.drop j) (x2 x3 x6 x9 x19 x36 x49 x55 x75 x93 x100 x107 : AV),
        (r16_19 EP (r16_20 (qCd (sel 13) (fun _ => (r16_21 kr)) (fun k3 => k3) (r16_22 (r16_23 (qCd (sel 14) (fun _ => (r16_24 kr)) (fun k1 => k1) (r16_25 kr))))))) [.str s, x2, x3, .int .i64 (j : Int), .bool w, x6, x9, x19, x36, x49, x55, x75, x93, x100, x107] H := by
      intro j hj hs x2 x3 x6 x9 x19 x36 x49 x55 x75 x93 x100 x107
      rw [hs] at hk
      have e44 := fun H => ep44 s (by omega) j hj H
      have hdl := dg_le (s.drop j)
      rw [List.length_drop] at hdl
      by_cases hz : dg (s.drop j) = 0
      · have h0 : (((dg (s.drop j) : Nat) : Int) == 0) = true := by simp [hz]
        rw [if_pos hz] at hk
        simp -implicitDefEqProofs only [r16_19, r16_20, r16_21, opn_z, opn_s, sel_z, sel_s, qCd_eq, qIf_true, qRes_val, qEql_int, e44, h0]
        exact hk _ _ _ _ _ _ _ _ _ _ _ _ _
      · have h0 : (((dg (s.drop j) : Nat) : Int) == 0) = false := by simp [hz]
        rw [if_neg hz] at hk
        have hw2 : IntKind.i64.wrap ((j : Int) + (dg (s.drop j) : Int)) = ((j + dg (s.drop j) : Nat) : Int) := by rw [i64_in' (by omega)]; omega
        simp -implicitDefEqProofs only [r16_19, r16_20, r16_22, opn_z, opn_s, sel_z, sel_s, qCd_eq, qIf_false, qRes_val, qEql_int, qAdd_int, e44, h0, hw2]
        refine n16_end s kr (j + dg (s.drop j)) (by omega) false H (fun x0 x4 x5 x6 x9 x19 x36 x49 x55 x75 x93 x100 x107 => ?_) _ _ _ _ _ _ _ _ _ _ _ _
        have := hk x0 x4 x5 x6 x9 x19 x36 x49 x55 x75 x93 x100 x107
        simp only [List.drop_drop] at this
        simpa using this
    have sgn : ∀ (x2 x3 x6 x9 x19 x36 x49 x55 x75 x93 x100 x107 : AV), (r16_17 (qCd (sel 12) (fun k4 => (r16_18 k4)) (fun k4 => k4) (r16_19 EP (r16_20 (qCd (sel 13) (fun _ => (r16_21 kr)) (fun k3 => k3) (r16_22 (r16_23 (qCd (sel 14) (fun _ => (r16_24 kr)) (fun k1 => k1) (r16_25 kr))))))))) [.str s, x2, x3, .int .i64 ((i + 1 : Nat) : Int), .bool w, x6, x9, x19, x36, x49, x55, x75, x93, x100, x107] H := by
      intro x2 x3 x6 x9 x19 x36 x49 x55 x75 x93 x100 x107
      rcases at_pos s (i + 1) (by omega) with ⟨g1, g2⟩ | ⟨d, hd, g1, g2⟩
      · have c2 : ¬ (((i + 1 : Nat) : Int) < (s.length : Int)) := by omega
        simp -implicitDefEqProofs only [r16_17, opn_z, opn_s, sel_z, sel_s, qCd_eq, qIf_false, qPick_false, qG_ft, qLss_int, qLenS_str, qG_un, c2, decide_false]
        exact mid (i + 1) (by omega) (by rw [g2]; rfl) _ _ _ _ _ _ _ _ _ _ _ _
      · have c2 : (((i + 1 : Nat) : Int) < (s.length : Int)) := by omega
        have iy := fun k => qIx_at s _ d hd k
        have q43 : (((d.toNat : Nat) : Int) == 43) = decide (d = 43) := eqU d 43
        have q45 : (((d.toNat : Nat) : Int) == 45) = decide (d = 45) := eqU d 45
        have hw2 := wrap_up (i + 1) (by omega)
        by_cases g3 : d = 43
        · rw [decide_eq_true g3] at q43
          simp -implicitDefEqProofs only [r16_17, r16_18, opn_z, opn_s, sel_z, sel_s, qCd_eq, qIf_true, qPick_true, qG_tt, qG_tf, qLss_int, qEql_int, qAdd_int, qLenS_str, c2, decide_true, iy, q43, hw2]
          exact mid (i + 1 + 1) (by omega) (by rw [g2]; subst g3; rfl) _ _ _ _ _ _ _ _ _ _ _ _
        rw [decide_eq_false g3] at q43
        by_cases g4 : d = 45
        · rw [decide_eq_true g4] at q45
          simp -implicitDefEqProofs only [r16_17, r16_18, opn_z, opn_s, sel_z, sel_s, qCd_eq, qIf_true, qPick_true, qPick_false, qG_tt, qG_ff, qLss_int, qEql_int, qAdd_int, qLenS_str, c2, decide_true, iy, q43, q45, hw2]
          exact mid (i + 1 + 1) (by omega) (by rw [g2]; subst g4; rfl) _ _ _ _ _ _ _ _ _ _ _ _
        rw [decide_eq_false g4] at q45
        simp -implicitDefEqProofs only [r16_17, opn_z, opn_s, sel_z, sel_s, qCd_eq, qIf_false, qPick_true, qPick_false, qG_tt, qG_ff, qLss_int, qEql_int, qLenS_str, c2, decide_true, iy, q43, q45]
        refine mid (i + 1) (by omega) ?_ _ _ _ _ _ _ _ _ _ _ _ _
        rw [g2]
        show (if _ = true then _ else _) = _
        rw [if_neg]
        simp [g3, g4]
    have hc2 : c = 101 ∨ c = 69 := by simpa using he
    rcases hc2 with g | g
    · rw [decide_eq_true g] at q101
      simp -implicitDefEqProofs only [r16_15, r16_16, opn_z, opn_s, sel_z, sel_s, qCd_eq, qIf_true, qPick_true, qG_tt, qG_tf, qLss_int, qEql_int, qAdd_int, qLenS_str, c1, decide_true, ix, q101, hw1]
      exact sgn _ _ _ _ _ _ _ _ _ _ _ _
    · have n101 : (((c.toNat : Nat) : Int) == 101) = false := by rw [q101]; subst g; rfl
      rw [decide_eq_true g] at q69
      simp -implicitDefEqProofs only [r16_15, r16_16, opn_z, opn_s, sel_z, sel_s, qCd_eq, qIf_true, qPick_true, qPick_false, qG_tt, qG_ff, qLss_int, qEql_int, qAdd_int, qLenS_str, c1, decide_true, ix, n101, q69, hw1]
      exact sgn _ _ _ _ _ _ _ _ _ _ _ _
end

section
variable (s : Str) (hl : s.length < 1000) (kr : KT Prop)
include hl in
/-- behind the whole part -/
theorem n16_frac (i : Nat) (hi : i ≤ s.length) (H : AH)
    (hk : ∀ (x0 x4 x5 x6 x9 x19 x36 x49 x55 x75 x93 x100 x107 : AV), kr [x0, .bool (match fracN (s.drop i) with | none => false | some s3 => match expN s3 with | none => false | some s4 => decide (s.drop i = []) && decide (s4 = [])), .bool (match fracN (s.drop i) with | none => false | some s3 => match expN s3 with | none => false | some s4 => decide (s4 = [])), x4, x5, x6, x9, x19, x36, x49, x55, x75, x93, x100, x107] H) (x2 x3 x6 x9 x19 x36 x49 x55 x75 x93 x100 x107 : AV) :
    (r16_10 (qCd (sel 9) (fun k5 => (r16_11 EP (r16_12 (qCd (sel 10) (fun _ => (r16_13 kr)) (fun k6 => k6) (r16_14 k5))))) (fun k5 => k5) (r16_15 (qCd (sel 11) (fun k2 => (r16_16 (r16_17 (qCd (sel 12) (fun k4 => (r16_18 k4)) (fun k4 => k4) (r16_19 EP (r16_20 (qCd (sel 13) (fun _ => (r16_21 kr)) (fun k3 => k3) (r16_22 k2)))))))) (fun k2 => k2) (r16_23 (qCd (sel 14) (fun _ => (r16_24 kr)) (fun k1 => k1) (r16_25 kr)))))))
      [.str s, x2, x3, .int .i64 (i : Int), .bool true, x6, x9, x19, x36, x49, x55, x75, x93, x100, x107] H := by
  rcases at_pos s i hi with ⟨h1, h2⟩ | ⟨c, hc, h1, h2⟩
  · have c1 : ¬ ((i : Int) < (s.length : Int)) := by omega
    simp -implicitDefEqProofs only [r16_10, opn_z, opn_s, sel_z, sel_s, qCd_eq, qIf_false, qPick_false, qG_ft, qLss_int, qLenS_str, c1, decide_false]
    refine n16_exp s hl kr i hi true H (fun x0 x4 x5 x6 x9 x19 x36 x49 x55 x75 x93 x100 x107 => ?_) _ _ _ _ _ _ _ _ _ _ _ _
    have := hk x0 x4 x5 x6 x9 x19 x36 x49 x55 x75 x93 x100 x107
    rw [h2] at this ⊢
    simpa [expN, fracN] using this
  have c1 : ((i : Int) < (s.length : Int)) := by omega
  have ix := fun k => qIx_at s _ c hc k
  have q46 : (((c.toNat : Nat) : Int) == 46) = decide (c = 46) := eqU c 46
  by_cases h46 : c = 46
  case neg =>
    rw [decide_eq_false h46] at q46
    simp -implicitDefEqProofs only [r16_10, opn_z, opn_s, sel_z, sel_s, qCd_eq, qIf_false, qPick_true, qG_tt, qLss_int, qEql_int, qLenS_str, c1, decide_true, ix, q46]
    refine n16_exp s hl kr i hi true H (fun x0 x4 x5 x6 x9 x19 x36 x49 x55 x75 x93 x100 x107 => ?_) _ _ _ _ _ _ _ _ _ _ _ _
    have := hk x0 x4 x5 x6 x9 x19 x36 x49 x55 x75 x93 x100 x107
    have hx : fracN (s.drop i) = some (s.drop i) := by rw [h2]; exact if_neg h46
    rw [hx] at this
    simpa using this
  rw [decide_eq_true h46] at q46
  have hw1 := wrap_up i (by omega)
  have e44 := fun H => ep44 s (by omega) (i + 1) (by omega) H
  have hdl := dg_le (s.drop (i + 1))
  rw [List.length_drop] at hdl
  have hx : fracN (s.drop i) = if dg (s.drop (i + 1)) = 0 then none else some ((s.drop (i + 1)).drop (dg (s.drop (i + 1)))) := by rw [h2]; exact if_pos h46
  have hne : decide (s.drop i = []) = false := by rw [h2]; rfl
  rw [hx, hne] at hk
  by_cases hz : dg (s.drop (i + 1)) = 0
  · have h0 : (((dg (s.drop (i + 1)) : Nat) : Int) == 0) = true := by simp [hz]
    rw [if_pos hz] at hk
    simp -implicitDefEqProofs only [r16_10, r16_11, r16_12, r16_13, opn_z, opn_s, sel_z, sel_s, qCd_eq, qIf_true, qRes_val, qPick_true, qG_tt, qLss_int, qEql_int, qAdd_int, qLenS_str, c1, decide_true, ix, q46, hw1, e44, h0]
    exact hk _ _ _ _ _ _ _ _ _ _ _ _ _
  · have h0 : (((dg (s.drop (i + 1)) : Nat) : Int) == 0) = false := by simp [hz]
    rw [if_neg hz] at hk
    have hw2 : IntKind.i64.wrap (((i + 1 : Nat) : Int) + (dg (s.drop (i + 1)) : Int)) = ((i + 1 + dg (s.drop (i + 1)) : Nat) : Int) := by rw [i64_in' (by omega)]; omega
    simp -implicitDefEqProofs only [r16_10, r16_11, r16_12, r16_14, opn_z, opn_s, sel_z, sel_s, qCd_eq, qIf_true, qIf_false, qRes_val, qPick_true, qG_tt, qLss_int, qEql_int, qAdd_int, qLenS_str, c1, decide_true, ix, q46, hw1, e44, h0, hw2]
    refine n16_exp s hl kr (i + 1 + dg (s.drop (i + 1))) (by omega) false H (fun x0 x4 x5 x6 x9 x19 x36 x49 x55 x75 x93 x100 x107 => ?_) _ _ _ _ _ _ _ _ _ _ _ _
    have := hk x0 x4 x5 x6 x9 x19 x36 x49 x55 x75 x93 x100 x107
    simp only [List.drop_drop] at this
    simpa using this
end

theorem ep16 (s : Str) (hl : s.length < 1000000000000) (H : AH) : EP 16 [.str s] H = some (.val (.tup [.bool (num s).1, .bool (num s).2]) H) := by
  refine uo_form (X := X) (D := OD2) (O := OF2) (S := PS) (al := [.str s]) e16 xf16 rfl rfl rfl rfl ?_ H
  simp only [AV.kills, AV.kill]
  by_cases h40 : 40 < s.length
  · have c1 : ((s.length : Int) > 40) := by omega
    simp -implicitDefEqProofs only [c16, r16_0, r16_1, r16_2, r16_3, opn_z, opn_s, sel_z, sel_s, qCd_eq, qIf_true, qFn_eq, qGtr_int, qLenS_str, AV.kill, AV.kills, c1, decide_true]
    simp [num, h40]
  have c1 : ¬ ((s.length : Int) > 40) := by omega
  have mid : ∀ (j : Nat) (_ : j ≤ s.length) (_ : cutP s [45] = s.drop j) (x2 x3 x6 x9 x19 x36 x49 x55 x75 x93 x100 x107 : AV) (H : AH),
      (r16_6 EP (r16_7 (qCd (sel 8) (fun _ => (r16_8 (fun fr (_ : AH) => (AV.tup [sel 1 fr, sel 2 fr]).kill = .tup [.bool (num s).1, .bool (num s).2]))) (fun k7 => k7) (r16_9 (r16_10 (qCd (sel 9) (fun k5 => (r16_11 EP (r16_12 (qCd (sel 10) (fun _ => (r16_13 (fun fr (_ : AH) => (AV.tup [sel 1 fr, sel 2 fr]).kill = .tup [.bool (num s).1, .bool (num s).2]))) (fun k6 => k6) (r16_14 k5))))) (fun k5 => k5) (r16_15 (qCd (sel 11) (fun k2 => (r16_16 (r16_17 (qCd (sel 12) (fun k4 => (r16_18 k4)) (fun k4 => k4) (r16_19 EP (r16_20 (qCd (sel 13) (fun _ => (r16_21 (fun fr (_ : AH) => (AV.tup [sel 1 fr, sel 2 fr]).kill = .tup [.bool (num s).1, .bool (num s).2]))) (fun k3 => k3) (r16_22 k2)))))))) (fun k2 => k2) (r16_23 (qCd (sel 14) (fun _ => (r16_24 (fun fr (_ : AH) => (AV.tup [sel 1 fr, sel 2 fr]).kill = .tup [.bool (num s).1, .bool (num s).2]))) (fun k1 => k1) (r16_25 (fun fr (_ : AH) => (AV.tup [sel 1 fr, sel 2 fr]).kill = .tup [.bool (num s).1, .bool (num s).2]))))))))))))
        [.str s, x2, x3, .int .i64 (j : Int), .bool true, x6, x9, x19, x36, x49, x55, x75, x93, x100, x107] H := by
    intro j hj hs x2 x3 x6 x9 x19 x36 x49 x55 x75 x93 x100 x107 H
    have e44 := fun H => ep44 s (by omega) j hj H
    have hdl := dg_le (s.drop j)
    rw [List.length_drop] at hdl
    have hnum : num s = if dg (s.drop j) = 0 ∨ (1 < dg (s.drop j) ∧ (s.drop j).head? = some 48) then (false, false) else
        match fracN ((s.drop j).drop (dg (s.drop j))) with
        | none => (false, false)
        | some s3 => match expN s3 with
          | none => (false, false)
          | some s4 => (decide ((s.drop j).drop (dg (s.drop j)) = []) && decide (s4 = []), decide (s4 = [])) := by
      unfold num
      rw [if_neg h40, hs]
      rfl
    by_cases hz : dg (s.drop j) = 0
    · have h0 : (((dg (s.drop j) : Nat) : Int) == 0) = true := by simp [hz]
      rw [if_pos (.inl hz)] at hnum
      rw [hnum]
      simp -implicitDefEqProofs only [r16_6, r16_7, r16_8, opn_z, opn_s, sel_z, sel_s, qCd_eq, qIf_true, qRes_val, qPick_true, qG_tf, qEql_int, qG_un, AV.kill, AV.kills, e44, h0]
    have h0 : (((dg (s.drop j) : Nat) : Int) == 0) = false := by simp [hz]
    have rest : (¬ (dg (s.drop j) = 0 ∨ (1 < dg (s.drop j) ∧ (s.drop j).head? = some 48))) → ∀ (x2 x3 x9 x19 x36 x49 x55 x75 x93 x100 x107 : AV) (H : AH),
        (r16_9 (r16_10 (qCd (sel 9) (fun k5 => (r16_11 EP (r16_12 (qCd (sel 10) (fun _ => (r16_13 (fun fr (_ : AH) => (AV.tup [sel 1 fr, sel 2 fr]).kill = .tup [.bool (num s).1, .bool (num s).2]))) (fun k6 => k6) (r16_14 k5))))) (fun k5 => k5) (r16_15 (qCd (sel 11) (fun k2 => (r16_16 (r16_17 (qCd (sel 12) (fun k4 => (r16_18 k4)) (fun k4 => k4) (r16_19 EP (r16_20 (qCd (sel 13) (fun _ => (r16_21 (fun fr (_ : AH) => (AV.tup [sel 1 fr, sel 2 fr]).kill = .tup [.bool (num s).1, .bool (num s).2]))) (fun k3 => k3) (r16_22 k2)))))))) (fun k2 => k2) (r16_23 (qCd (sel 14) (fun _ => (r16_24 (fun fr (_ : AH) => (AV.tup [sel 1 fr, sel 2 fr]).kill = .tup [.bool (num s).1, .bool (num s).2]))) (fun k1 => k1) (r16_25 (fun fr (_ : AH) => (AV.tup [sel 1 fr, sel 2 fr]).kill = .tup [.bool (num s).1, .bool (num s).2])))))))))
          [.str s, x2, x3, .int .i64 (j : Int), .bool true, .int .i64 (dg (s.drop j) : Int), x9, x19, x36, x49, x55, x75, x93, x100, x107] H := by
      intro hno x2 x3 x9 x19 x36 x49 x55 x75 x93 x100 x107 H
      rw [if_neg hno] at hnum
      have hw2 : IntKind.i64.wrap ((j : Int) + (dg (s.drop j) : Int)) = ((j + dg (s.drop j) : Nat) : Int) := by rw [i64_in' (by omega)]; omega
      simp -implicitDefEqProofs only [r16_9, opn_z, opn_s, qAdd_int, hw2]
      refine n16_frac s (by omega) _ (j + dg (s.drop j)) (by omega) H (fun x0 x4 x5 x6 x9 x19 x36 x49 x55 x75 x93 x100 x107 => ?_) _ _ _ _ _ _ _ _ _ _ _ _
      rw [hnum, List.drop_drop]
      cases fracN (s.drop (j + dg (s.drop j))) with
      | none => rfl
      | some s3 =>
        simp only
        cases expN s3 with
        | none => rfl
        | some s4 => rfl
    by_cases h1 : 1 < dg (s.drop j)
    · have c2 : ((dg (s.drop j) : Nat) : Int) > 1 := by omega
      rcases at_pos s j hj with ⟨g1, g2⟩ | ⟨c, hc, g1, g2⟩
      · rw [g2] at h1; simp [dg] at h1
      have ix := fun k => qIx_at s _ c hc k
      have hhd : (s.drop j).head? = some c := by rw [g2]; rfl
      have q48 : (((c.toNat : Nat) : Int) == 48) = decide (c = 48) := eqU c 48
      by_cases h48 : c = 48
      · rw [decide_eq_true h48] at q48
        rw [if_pos (.inr ⟨h1, by rw [hhd, h48]⟩)] at hnum
        rw [hnum]
        simp -implicitDefEqProofs only [r16_6, r16_7, r16_8, opn_z, opn_s, sel_z, sel_s, qCd_eq, qIf_true, qRes_val, qPick_true, qPick_false, qG_tt, qG_ff, qGtr_int, qEql_int, AV.kill, AV.kills, e44, h0, c2, decide_true, ix, q48]
      · rw [decide_eq_false h48] at q48
        simp -implicitDefEqProofs only [r16_6, r16_7, opn_z, opn_s, sel_z, sel_s, qCd_eq, qIf_false, qRes_val, qPick_true, qPick_false, qG_tt, qG_ff, qGtr_int, qEql_int, e44, h0, c2, decide_true, ix, q48]
        exact rest (by rw [hhd]; rintro (h | ⟨_, h⟩) <;> simp_all) _ _ _ _ _ _ _ _ _ _ _ H
    · have c2 : ¬ ((dg (s.drop j) : Nat) : Int) > 1 := by omega
      simp -implicitDefEqProofs only [r16_6, r16_7, opn_z, opn_s, sel_z, sel_s, qCd_eq, qIf_false, qRes_val, qPick_false, qG_ff, qG_ft, qGtr_int, qEql_int, e44, h0, c2, decide_false]
      exact rest (by rintro (h | ⟨h, _⟩) <;> contradiction) _ _ _ _ _ _ _ _ _ _ _ H
  rcases at_pos s 0 (by omega) with ⟨g1, g2⟩ | ⟨c, hc, g1, g2⟩
  · have c2 : ¬ ((0 : Int) < (s.length : Int)) := by omega
    have hs : s = [] := by simpa using g2
    simp -implicitDefEqProofs only [c16, r16_0, r16_1, r16_2, r16_4, opn_z, opn_s, sel_z, sel_s, qCd_eq, qIf_false, qFn_eq, qPick_false, qG_ft, qLss_int, qGtr_int, qLenS_str, c1, c2, decide_false]
    exact mid 0 (by omega) (by subst hs; rfl) _ _ _ _ _ _ _ _ _ _ _ _ _
  · have c2 : ((0 : Int) < (s.length : Int)) := by omega
    have ix : ∀ k : AV → Prop, qIx (.str s) (.int .i64 0) k = k (.int .u8 c.toNat) := fun k => qIx_at s 0 c hc k
    have q45 : (((c.toNat : Nat) : Int) == 45) = decide (c = 45) := eqU c 45
    have hsc : s = c :: s.drop 1 := by simpa using g2
    have hw0 : IntKind.i64.wrap ((0 : Int) + 1) = ((1 : Nat) : Int) := by decide
    by_cases h45 : c = 45
    · rw [decide_eq_true h45] at q45
      simp -implicitDefEqProofs only [c16, r16_0, r16_1, r16_2, r16_4, r16_5, opn_z, opn_s, sel_z, sel_s, qCd_eq, qIf_true, qIf_false, qFn_eq, qPick_true, qG_tt, qLss_int, qGtr_int, qEql_int, qAdd_int, qLenS_str, c1, c2, decide_true, decide_false, ix, q45, hw0]
      refine mid 1 (by omega) ?_ _ _ _ _ _ _ _ _ _ _ _ _ _
      conv => lhs; rw [hsc]
      subst h45
      rw [cutP_1]
    · rw [decide_eq_false h45] at q45
      simp -implicitDefEqProofs only [c16, r16_0, r16_1, r16_2, r16_4, opn_z, opn_s, sel_z, sel_s, qCd_eq, qIf_false, qFn_eq, qPick_true, qG_tt, qLss_int, qGtr_int, qEql_int, qLenS_str, c1, c2, decide_true, decide_false, ix, q45]
      refine mid 0 (by omega) ?_ _ _ _ _ _ _ _ _ _ _ _ _ _
      unfold cutP
      have : hp s [45] = false := by rw [hsc, hp_one]; exact decide_eq_false h45
      rw [this]
      simp
end T
