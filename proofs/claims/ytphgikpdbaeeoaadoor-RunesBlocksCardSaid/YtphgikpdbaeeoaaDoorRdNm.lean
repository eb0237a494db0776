import Derived.Test.YtphgikpdbaeeoaaDoorRdBX
set_option linter.all false
set_option linter.unusedVariables false
set_option linter.unusedSimpArgs false
set_option maxRecDepth 10000
namespace T
open Go Go.Aes Go.Proofs

/-! ### Name -/
def letB (c : UInt8) : Bool := (decide (97 ≤ c.toNat) && decide (c.toNat ≤ 122)) || (decide (65 ≤ c.toNat) && decide (c.toNat ≤ 90)) || decide (c.toNat = 95)
def digB (c : UInt8) : Bool := decide (48 ≤ c.toNat) && decide (c.toNat ≤ 57)
def nameB : Bool → Str → Bool
  | _, [] => true
  | f, c :: l => (letB c || (!f && digB c)) && nameB false l
def nameF (s : Str) : Bool := nameB true s && (decide (1 ≤ s.length) && decide (s.length ≤ 40))

/-- what the program asks of a rune -/
theorem letter_walk (r : Nat) (L : Bool) (hL : L = ((decide (97 ≤ r) && decide (r ≤ 122)) || (decide (65 ≤ r) && decide (r ≤ 90)) || decide (r = 95))) (kk : KT Prop) (H : AH) (p : AV) (q0 q2 it b8 b9 : AV)
    (hk : ∀ (x43 : AV), kk [q0, q2, p, .int .i32 (r : Int), .bool L, it, b8, b9, x43] H) (x5 x43 : AV) : r33_4 kk [q0, q2, p, .int .i32 (r : Int), x5, it, b8, b9, x43] H := by
  by_cases h1 : 97 ≤ r
  · have c1 : ((r : Int) ≥ 97) := by omega
    by_cases h2 : r ≤ 122
    · have c2 : ((r : Int) ≤ 122) := by omega
      have : L = true := by rw [hL]; simp [h1, h2]
      subst this
      simp -implicitDefEqProofs only [r33_4, opn_z, opn_s, qPick_true, qG_tt, qG_tf, qLeq_int, qGeq_int, qG_un, c1, c2, decide_true]
      (first | exact hk _ | (apply hk <;> exact Aes.undef))
    · have c2 : ¬ ((r : Int) ≤ 122) := by omega
      have c3 : ((r : Int) ≥ 65) := by omega
      have c4 : ¬ ((r : Int) ≤ 90) := by omega
      have c5 : ((r : Int) == 95) = false := by simp; omega
      have : L = false := by rw [hL]; simp; omega
      subst this
      simp -implicitDefEqProofs only [r33_4, opn_z, opn_s, qPick_true, qPick_false, qG_tt, qG_ff, qLeq_int, qGeq_int, qEql_int, c1, c2, c3, c4, c5, decide_true, decide_false]
      (first | exact hk _ | (apply hk <;> exact Aes.undef))
  · have c1 : ¬ ((r : Int) ≥ 97) := by omega
    by_cases h3 : 65 ≤ r
    · have c3 : ((r : Int) ≥ 65) := by omega
      by_cases h4 : r ≤ 90
      · have c4 : ((r : Int) ≤ 90) := by omega
        have : L = true := by rw [hL]; simp [h3, h4]
        subst this
        simp -implicitDefEqProofs only [r33_4, opn_z, opn_s, qPick_true, qPick_false, qG_tt, qG_ff, qG_tf, qG_ft, qLeq_int, qGeq_int, c1, c3, c4, decide_true, decide_false]
        (first | exact hk _ | (apply hk <;> exact Aes.undef))
      · have c4 : ¬ ((r : Int) ≤ 90) := by omega
        have : L = decide (r = 95) := by rw [hL]; simp; omega
        have c5 : ((r : Int) == 95) = L := by rw [this, Bool.eq_iff_iff]; simp; omega
        simp -implicitDefEqProofs only [r33_4, opn_z, opn_s, qPick_true, qPick_false, qG_tt, qG_ff, qG_ft, qLeq_int, qGeq_int, qEql_int, c1, c3, c4, c5, decide_true, decide_false]
        (first | exact hk _ | (apply hk <;> exact Aes.undef))
    · have c3 : ¬ ((r : Int) ≥ 65) := by omega
      have c5 : ((r : Int) == 95) = false := by simp; omega
      have : L = false := by rw [hL]; simp; omega
      subst this
      simp -implicitDefEqProofs only [r33_4, opn_z, opn_s, qPick_false, qG_ff, qG_ft, qGeq_int, qEql_int, c1, c3, c5, decide_false]
      (first | exact hk _ | (apply hk <;> exact Aes.undef))

set_option maxHeartbeats 1000000 in
theorem ep33 (s : Str) (H : AH) : EP 33 [.str s] H = some (.val (.bool (nameF s)) H) := by
  refine uo_form e33 xf33 rfl rfl rfl rfl ?_ H
  simp only [AV.kills, AV.kill]
  have rg := fun k => range_i (H := H0) s k
  have hgi := get_push_at (H := H0) (.iter s 0)
  have hif : IsFn (H0.push (.iter s 0)) := inferInstance
  simp -implicitDefEqProofs only [c33, r33_0, r33_1, opn_z, opn_s, qFn_eq, qBl_eq, rg]
  generalize H0.nx = i at *
  generalize H0.push (.iter s 0) = H1 at *
  refine loop_inv (fun m fr H' => ∃ (l : Str) (p : Nat) (x3 x4 x5 x8 x9 x43 : AV), m = l.length ∧ fr = [.str s, .bool false, x3, x4, x5, .it i, x8, x9, x43] ∧ IsFn H' ∧ H'.get i = some (.iter l p) ∧ nameB true s = nameB (p == 0) l) ?_ (m := s.length) ?_
  case refine_2 => exact ⟨s, 0, _, _, _, _, _, _, rfl, rfl, hif, hgi, rfl⟩
  rintro m fr H' k ⟨l, p, x3, x4, x5, x8, x9, x43, rfl, rfl, hf, hg, hn⟩ hk
  cases l with
  | nil =>
    have nx := fun k => next_nil hg k
    have hnt : nameB true s = true := hn
    rcases Nat.lt_or_ge s.length 1 with h | h
    · have c1 : ¬ ((s.length : Int) ≥ 1) := by omega
      have : nameF s = false := by simp [nameF]; omega
      rw [this]
      simp -implicitDefEqProofs only [l33_5, r33_2, r33_7, opn_z, opn_s, sel_z, sel_s, qCd_eq, qIf_false, qBl_eq, qO_some, qPick_false, qG_ft, qExt_tup, qGeq_int, qLenS_str, List.getElem?_cons_zero, AV.kill, nx, c1, decide_false]
    · have c1 : ((s.length : Int) ≥ 1) := by omega
      rcases Nat.lt_or_ge 40 s.length with h2 | h2
      · have c2 : ¬ ((s.length : Int) ≤ 40) := by omega
        have : nameF s = false := by simp [nameF]; omega
        rw [this]
        simp -implicitDefEqProofs only [l33_5, r33_2, r33_7, opn_z, opn_s, sel_z, sel_s, qCd_eq, qIf_false, qBl_eq, qO_some, qPick_true, qG_tt, qExt_tup, qLeq_int, qGeq_int, qLenS_str, List.getElem?_cons_zero, AV.kill, nx, c1, c2, decide_true, decide_false]
      · have c2 : ((s.length : Int) ≤ 40) := by omega
        have : nameF s = true := by simp [nameF, hnt]; omega
        rw [this]
        simp -implicitDefEqProofs only [l33_5, r33_2, r33_7, opn_z, opn_s, sel_z, sel_s, qCd_eq, qIf_false, qBl_eq, qO_some, qPick_true, qG_tt, qExt_tup, qLeq_int, qGeq_int, qLenS_str, List.getElem?_cons_zero, AV.kill, nx, c1, c2, decide_true]
  | cons c l =>
    have nx := fun k => next_cons hg k
    have wd := Lib.decodeL_width (c :: l)
    have hg' : (H'.set i (some (.iter ((c :: l).drop (Lib.decodeL (c :: l)).2) (p + (Lib.decodeL (c :: l)).2)))).get i = some (.iter ((c :: l).drop (Lib.decodeL (c :: l)).2) (p + (Lib.decodeL (c :: l)).2)) := by rw [get_set_i (lt_i hg), if_pos rfl]
    have hif' : IsFn (H'.set i (some (.iter ((c :: l).drop (Lib.decodeL (c :: l)).2) (p + (Lib.decodeL (c :: l)).2)))) := inferInstance
    have big : 128 ≤ c.toNat → 128 ≤ (Lib.decodeL (c :: l)).1 := by
      intro h
      by_cases hv : (Lib.decodeL (c :: l)).1 = 65533 ∧ (Lib.decodeL (c :: l)).2 = 1
      · omega
      · rw [Lib.decodeL_N] at hv ⊢
        have hg : (c :: l).getD 0 0 = c := rfl
        rw [hg] at hv ⊢
        rcases Lib.decodeN_shape (c :: l).length c.toNat ((c :: l).getD 1 0).toNat ((c :: l).getD 2 0).toNat ((c :: l).getD 3 0).toNat with ⟨c, e⟩ | ⟨c1, c2, c3, cv, e⟩ | ⟨c1, c2, c3, c4, cv, cs, e⟩ | ⟨c1, c2, c3, c4, c5, cv, cw, e⟩ | e
        · omega
        · rw [e]; simp only; omega
        · rw [e]; simp only; omega
        · rw [e]; simp only; omega
        · rw [e] at hv; exact absurd ⟨rfl, rfl⟩ hv
    generalize H'.set i (some (.iter ((c :: l).drop (Lib.decodeL (c :: l)).2) (p + (Lib.decodeL (c :: l)).2))) = H'' at *
    have hc0 : ((p : Int) == 0) = (p == 0) := by rw [Bool.eq_iff_iff]; simp
    simp only [nameB] at hn
    have stop : nameB true s = false → (fun (v' : AV) (_ : AH) => v'.kill = AV.bool (nameF s)) (.bool false) H'' := by
      intro h
      show AV.bool false = _
      simp [nameF, h]
    rcases Nat.lt_or_ge c.toNat 128 with hc | hc
    · rw [dec_ascii c l hc] at nx hg'
      simp -implicitDefEqProofs only [l33_5, r33_2, r33_3, opn_z, opn_s, sel_z, sel_s, qCd_eq, qIf_true, qBl_eq, qO_some, qExt_tup, List.getElem?_cons_zero, List.getElem?_cons_succ, nx]
      refine letter_walk c.toNat (letB c) rfl _ _ _ _ _ _ _ _ (fun x43 => ?_) _ _
      cases hL : letB c with
      | true =>
        rw [hL] at hn
        simp -implicitDefEqProofs only [r33_5, opn_z, opn_s, sel_z, sel_s, qCd_eq, qIf_false, qPick_false, qG_ft, qNot_bool, qG_un, Bool.not_true]
        refine hk l.length _ _ (by simp) ⟨l, p + 1, _, _, _, _, _, _, rfl, rfl, hif', hg', ?_⟩
        rw [hn]; simp
      | false =>
        rw [hL] at hn
        cases hp : (p == 0) with
        | true =>
          rw [hp] at hn hc0
          simp -implicitDefEqProofs only [r33_5, r33_6, opn_z, opn_s, sel_z, sel_s, qCd_eq, qIf_true, qPick_true, qG_tt, qG_tf, qNot_bool, qEql_int, Bool.not_false, hc0]
          exact stop (by rw [hn]; rfl)
        | false =>
          rw [hp] at hn hc0
          simp only [Bool.false_or, Bool.not_false, Bool.true_and] at hn
          rcases Nat.lt_or_ge c.toNat 48 with h1 | h1
          · have c1 : (((c.toNat : Nat) : Int) < 48) := by omega
            have hd : digB c = false := by simp [digB]; omega
            rw [hd] at hn
            simp -implicitDefEqProofs only [r33_5, r33_6, opn_z, opn_s, sel_z, sel_s, qCd_eq, qIf_true, qPick_true, qPick_false, qG_tt, qG_ff, qG_tf, qNot_bool, qLss_int, qEql_int, Bool.not_false, hc0, c1, decide_true]
            exact stop (by rw [hn]; rfl)
          · have c1 : ¬ (((c.toNat : Nat) : Int) < 48) := by omega
            rcases Nat.lt_or_ge 57 c.toNat with h2 | h2
            · have c2 : (((c.toNat : Nat) : Int) > 57) := by omega
              have hd : digB c = false := by simp [digB]; omega
              rw [hd] at hn
              simp -implicitDefEqProofs only [r33_5, r33_6, opn_z, opn_s, sel_z, sel_s, qCd_eq, qIf_true, qPick_true, qPick_false, qG_tt, qG_ff, qNot_bool, qLss_int, qGtr_int, qEql_int, Bool.not_false, hc0, c1, c2, decide_true, decide_false]
              exact stop (by rw [hn]; rfl)
            · have c2 : ¬ (((c.toNat : Nat) : Int) > 57) := by omega
              have hd : digB c = true := by simp [digB]; omega
              rw [hd] at hn
              simp -implicitDefEqProofs only [r33_5, opn_z, opn_s, sel_z, sel_s, qCd_eq, qIf_false, qPick_true, qPick_false, qG_tt, qG_ff, qNot_bool, qLss_int, qGtr_int, qEql_int, Bool.not_false, hc0, c1, c2, decide_false]
              refine hk l.length _ _ (by simp) ⟨l, p + 1, _, _, _, _, _, _, rfl, rfl, hif', hg', ?_⟩
              rw [hn]; simp
    · have hr := big hc
      have hL : letB c = false := by simp [letB]; omega
      have hd : digB c = false := by simp [digB]; omega
      rw [hL, hd, Bool.and_false, Bool.or_false, Bool.false_and] at hn
      generalize Lib.decodeL (c :: l) = d at *
      obtain ⟨r, w⟩ := d
      simp only at *
      have c1 : ¬ ((r : Int) < 48) := by omega
      have c2 : ((r : Int) > 57) := by omega
      simp -implicitDefEqProofs only [l33_5, r33_2, r33_3, opn_z, opn_s, sel_z, sel_s, qCd_eq, qIf_true, qBl_eq, qO_some, qExt_tup, List.getElem?_cons_zero, List.getElem?_cons_succ, nx]
      refine letter_walk r false (by simp; omega) _ _ _ _ _ _ _ _ (fun x43 => ?_) _ _
      cases hp : (p == 0) with
      | true =>
        rw [hp] at hc0
        simp -implicitDefEqProofs only [r33_5, r33_6, opn_z, opn_s, sel_z, sel_s, qCd_eq, qIf_true, qPick_true, qG_tt, qG_tf, qNot_bool, qEql_int, Bool.not_false, hc0]
        exact stop hn
      | false =>
        rw [hp] at hc0
        simp -implicitDefEqProofs only [r33_5, r33_6, opn_z, opn_s, sel_z, sel_s, qCd_eq, qIf_true, qPick_true, qPick_false, qG_tt, qG_ff, qNot_bool, qLss_int, qGtr_int, qEql_int, Bool.not_false, hc0, c1, c2, decide_true, decide_false]
        exact stop hn
end T
