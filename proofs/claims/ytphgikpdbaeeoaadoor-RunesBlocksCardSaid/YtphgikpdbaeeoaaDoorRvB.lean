import Derived.Test.YtphgikpdbaeeoaaDoorRvA
set_option linter.all false
set_option linter.unusedVariables false
set_option linter.unusedSimpArgs false
set_option maxRecDepth 10000
namespace T
open Go Go.Aes Go.Proofs

/-! ### the document's runes -/
def byt (s : Str) (i : Nat) : Nat := (s.getD i 0).toNat
def run1 (l : Str) : Nat × Nat := if Bad l then (0, 0) else Lib.decodeL l
def accB (s : Str) (i v0 : Nat) : Nat → Nat
  | 0 => v0
  | k + 1 => accB s i v0 k * 64 + byt s (i + (k + 1)) % 64
theorem byt_at {s : Str} {i : Nat} (h : i < s.length) : ∃ c : UInt8, s[i]? = some c ∧ byt s i = c.toNat := by
  refine ⟨s[i], List.getElem?_eq_getElem h, ?_⟩
  unfold byt
  simp [List.getD, h]
theorem accB_lt (s : Str) (i v0 : Nat) (h0 : v0 < 32) : ∀ k, k ≤ 3 → accB s i v0 k < 32 * 64 ^ k
  | 0, _ => by simpa [accB] using h0
  | k + 1, hk => by
    have h1 := accB_lt s i v0 h0 k (by omega)
    have h2 := Nat.mod_lt (byt s (i + (k + 1))) (show 0 < 64 by omega)
    simp only [accB]
    rw [Nat.pow_succ]
    omega

set_option maxHeartbeats 1000000 in
theorem rune_loop (s : Str) (hl : s.length < 9000000000000000000) (i n v0 : Nat) (h0 : v0 < 32) (hn : 2 ≤ n ∧ n ≤ 4) (hin : i + n ≤ s.length) (kr k2 : KT Prop) (H : AH) (c : AV)
    (hbad : ∀ (x6 x7 x8 x9 x14 x18 x27 x36 x50 x53 x62 x98 : AV), (∃ j, 1 ≤ j ∧ j < n ∧ byt s (i + j) / 64 ≠ 2) → kr [.str s, .int .i64 (i : Int), .int .i64 0, .int .i64 0, x6, x7, x8, x9, x14, x18, x27, x36, x50, x53, x62, x98] H)
    (hok : ∀ (x4 x5 x9 x14 x18 x27 x36 x50 x53 x62 x98 : AV), (∀ j, 1 ≤ j → j < n → byt s (i + j) / 64 = 2) → k2 [.str s, .int .i64 (i : Int), x4, x5, c, .int .i64 (n : Int), .int .i64 (accB s i v0 (n - 1) : Int), x9, x14, x18, x27, x36, x50, x53, x62, x98] H) (x4 x5 x14 x18 x27 x36 x50 x53 x62 x98 : AV) :
    qLoop (l58_6 k2 kr) [.str s, .int .i64 (i : Int), x4, x5, c, .int .i64 (n : Int), .int .i64 (v0 : Int), .int .i64 1, x14, x18, x27, x36, x50, x53, x62, x98] H := by
  refine loop_inv (fun m fr H' => ∃ (k : Nat) (x4 x5 x14 x18 x27 x36 x50 x53 x62 x98 : AV), m = n - k ∧ k < n ∧ fr = [.str s, .int .i64 (i : Int), x4, x5, c, .int .i64 (n : Int), .int .i64 (accB s i v0 k : Int), .int .i64 ((k + 1 : Nat) : Int), x14, x18, x27, x36, x50, x53, x62, x98] ∧ H' = H ∧
      (∀ j, 1 ≤ j → j ≤ k → byt s (i + j) / 64 = 2)) ?_ (m := n) ?_
  case refine_2 => exact ⟨0, _, _, _, _, _, _, _, _, _, _, rfl, by omega, rfl, rfl, fun j h1 h2 => by omega⟩
  rintro m fr H' kk ⟨k, x4, x5, x14, x18, x27, x36, x50, x53, x62, x98, rfl, hk, rfl, rfl, hA⟩ hkk
  by_cases h1 : k + 1 < n
  · have c1 : (((k + 1 : Nat) : Int) < (n : Int)) := by omega
    have hwi : IntKind.i64.wrap ((i : Int) + ((k + 1 : Nat) : Int)) = ((i + (k + 1) : Nat) : Int) := by rw [i64_in' (by omega)]; omega
    obtain ⟨d, hd, hb⟩ := byt_at (s := s) (i := i + (k + 1)) (by omega)
    have ix := fun k => qIx_at s _ d hd k
    have an := and192 ⟨d.toNat, d.toNat_lt⟩
    simp only at an
    have a192 : binop X .and 5 (.int .u8 (d.toNat : Int)) (.int .u8 192) = some (.int .u8 (bits .and .u8 (d.toNat : Int) 192)) := rfl
    by_cases h2 : d.toNat / 64 = 2
    · rw [decide_eq_true h2] at an
      simp only [Bool.not_true] at an
      have hal := accB_lt s i v0 h0 k (by omega)
      have hp : 64 ^ k ≤ 64 ^ 3 := Nat.pow_le_pow_right (by omega) (by omega)
      have sh := shl6_i64 (accB s i v0 k) (by omega)
      have a63 : binop X .and 5 (.int .u8 (d.toNat : Int)) (.int .u8 63) = some (.int .u8 ((d.toNat % 64 : Nat) : Int)) := by
        have := and63 ⟨d.toNat, d.toNat_lt⟩
        simp only at this
        rw [and_u8, this]
      have w63 : IntKind.i64.wrap ((d.toNat % 64 : Nat) : Int) = ((d.toNat % 64 : Nat) : Int) := i64_in' (by omega)
      have orr := or6_i64 (accB s i v0 k) (d.toNat % 64) (by omega) (Nat.mod_lt _ (by omega))
      have hwk := wrap_up (k + 1) (by omega)
      simp -implicitDefEqProofs only [l58_6, r58_15, r58_17, r58_19, r58_16, opn_z, opn_s, sel_z, sel_s, qCd_eq, qIf_true, qIf_false, qBl_eq, qO_some, qLss_int, qNeq_int, qAdd_int, qConvI_int, c1, decide_true, hwi, ix, a192, an, sh, a63, w63, orr, hwk]
      have hacc : accB s i v0 k * 64 + d.toNat % 64 = accB s i v0 (k + 1) := by simp only [accB, hb]
      rw [hacc]
      refine hkk (n - (k + 1)) _ _ (by omega) ⟨k + 1, _, _, _, _, _, _, _, _, _, _, rfl, h1, rfl, rfl, fun j g1 g2 => ?_⟩
      · by_cases g3 : j = k + 1
        · subst g3; rw [hb]; exact h2
        · exact hA j g1 (by omega)
    · rw [decide_eq_false h2] at an
      simp only [Bool.not_false] at an
      simp -implicitDefEqProofs only [l58_6, r58_15, r58_17, r58_18, opn_z, opn_s, sel_z, sel_s, qCd_eq, qIf_true, qBl_eq, qO_some, qLss_int, qNeq_int, qAdd_int, c1, decide_true, hwi, ix, a192, an]
      exact hbad _ _ _ _ _ _ _ _ _ _ _ _ ⟨k + 1, by omega, h1, by rw [hb]; exact h2⟩
  · have c1 : ¬ (((k + 1 : Nat) : Int) < (n : Int)) := by omega
    have hkn : k = n - 1 := by omega
    simp -implicitDefEqProofs only [l58_6, r58_15, opn_z, opn_s, sel_z, sel_s, qCd_eq, qIf_false, qBl_eq, qLss_int, c1, decide_false]
    rw [hkn]
    exact hok _ _ _ _ _ _ _ _ _ _ _ fun j g1 g2 => hA j g1 (by omega)

/-- what is decoded, by its bytes -/
theorem run1_N (s : Str) (i : Nat) (h : i < s.length) : Lib.decodeL (s.drop i) = Lib.decodeN (s.length - i) (byt s i) (byt s (i + 1)) (byt s (i + 2)) (byt s (i + 3)) := by
  rw [Lib.decodeL_N, List.length_drop]
  have hb : ∀ j, ((s.drop i).getD j 0).toNat = byt s (i + j) := fun j => by
    unfold byt
    simp [List.getD, List.getElem?_drop]
  rw [hb, hb, hb, hb]
  rfl

def rngB (n a : Nat) : Prop := (n = 3 → 2048 ≤ a) ∧ (n = 4 → 65536 ≤ a ∧ a ≤ 1114111) ∧ ¬ (55296 ≤ a ∧ a ≤ 57343)
theorem rune_end2 (s : Str) (i n a : Nat) (hn : n = 2) (hal3 : a < 2048) (kr : KT Prop) (H : AH) (c : AV)
    (hz' : ∀ (x6 x7 x8 x9 x14 x18 x27 x36 x50 x53 x62 x98 : AV), ¬ rngB n a → kr [.str s, .int .i64 (i : Int), .int .i64 0, .int .i64 0, x6, x7, x8, x9, x14, x18, x27, x36, x50, x53, x62, x98] H)
    (hg' : ∀ (x6 x7 x8 x9 x14 x18 x27 x36 x50 x53 x62 x98 : AV), rngB n a → kr [.str s, .int .i64 (i : Int), .int .i64 (a : Int), .int .i64 (n : Int), x6, x7, x8, x9, x14, x18, x27, x36, x50, x53, x62, x98] H) (x4 x5 x9 x14 x18 x27 x36 x50 x53 x62 x98 : AV) :
    r58_20 (qCd (sel 15) (fun _ => (r58_21 kr)) (fun k1 => k1) (r58_22 kr)) [.str s, .int .i64 (i : Int), x4, x5, c, .int .i64 (n : Int), .int .i64 (a : Int), x9, x14, x18, x27, x36, x50, x53, x62, x98] H := by
  unfold rngB at hz' hg'
  have c2 : ((n : Int) == 3) = false := by subst hn; decide
  have c3 : ((n : Int) == 4) = false := by subst hn; decide
  have c4 : ¬ ((a : Int) ≥ 55296) := by omega
  simp -implicitDefEqProofs only [r58_20, r58_22, opn_z, opn_s, sel_z, sel_s, qCd_eq, qIf_false, qPick_false, qG_ff, qG_ft, qGeq_int, qEql_int, qG_un, c2, c3, c4, decide_false]
  exact hg' _ _ _ _ _ _ _ _ _ _ _ _ ⟨by omega, by omega, by omega⟩
theorem rune_end3 (s : Str) (i n a : Nat) (hn : n = 3) (kr : KT Prop) (H : AH) (c : AV)
    (hz' : ∀ (x6 x7 x8 x9 x14 x18 x27 x36 x50 x53 x62 x98 : AV), ¬ rngB n a → kr [.str s, .int .i64 (i : Int), .int .i64 0, .int .i64 0, x6, x7, x8, x9, x14, x18, x27, x36, x50, x53, x62, x98] H)
    (hg' : ∀ (x6 x7 x8 x9 x14 x18 x27 x36 x50 x53 x62 x98 : AV), rngB n a → kr [.str s, .int .i64 (i : Int), .int .i64 (a : Int), .int .i64 (n : Int), x6, x7, x8, x9, x14, x18, x27, x36, x50, x53, x62, x98] H) (x4 x5 x9 x14 x18 x27 x36 x50 x53 x62 x98 : AV) :
    r58_20 (qCd (sel 15) (fun _ => (r58_21 kr)) (fun k1 => k1) (r58_22 kr)) [.str s, .int .i64 (i : Int), x4, x5, c, .int .i64 (n : Int), .int .i64 (a : Int), x9, x14, x18, x27, x36, x50, x53, x62, x98] H := by
  unfold rngB at hz' hg'
  have c2 : ((n : Int) == 3) = true := by subst hn; decide
  have c3 : ((n : Int) == 4) = false := by subst hn; decide
  by_cases h2 : a < 2048
  · have c5 : ((a : Int) < 2048) := by omega
    simp -implicitDefEqProofs only [r58_20, r58_21, opn_z, opn_s, sel_z, sel_s, qCd_eq, qIf_true, qPick_true, qG_tt, qG_tf, qLss_int, qEql_int, qG_un, c2, c5, decide_true]
    exact hz' _ _ _ _ _ _ _ _ _ _ _ _ (by omega)
  have c5 : ¬ ((a : Int) < 2048) := by omega
  by_cases h3 : 55296 ≤ a
  · have c4 : ((a : Int) ≥ 55296) := by omega
    by_cases h4 : a ≤ 57343
    · have c6 : ((a : Int) ≤ 57343) := by omega
      simp -implicitDefEqProofs only [r58_20, r58_21, opn_z, opn_s, sel_z, sel_s, qCd_eq, qIf_true, qPick_true, qPick_false, qG_tt, qG_ff, qG_ft, qLss_int, qLeq_int, qGeq_int, qEql_int, qG_un, c2, c3, c4, c5, c6, decide_true, decide_false]
      exact hz' _ _ _ _ _ _ _ _ _ _ _ _ (by omega)
    · have c6 : ¬ ((a : Int) ≤ 57343) := by omega
      simp -implicitDefEqProofs only [r58_20, r58_22, opn_z, opn_s, sel_z, sel_s, qCd_eq, qIf_false, qPick_true, qPick_false, qG_tt, qG_ff, qG_ft, qLss_int, qLeq_int, qGeq_int, qEql_int, qG_un, c2, c3, c4, c5, c6, decide_true, decide_false]
      exact hg' _ _ _ _ _ _ _ _ _ _ _ _ (by omega)
  · have c4 : ¬ ((a : Int) ≥ 55296) := by omega
    simp -implicitDefEqProofs only [r58_20, r58_22, opn_z, opn_s, sel_z, sel_s, qCd_eq, qIf_false, qPick_true, qPick_false, qG_tt, qG_ff, qG_ft, qLss_int, qGeq_int, qEql_int, qG_un, c2, c3, c4, c5, decide_false]
    exact hg' _ _ _ _ _ _ _ _ _ _ _ _ (by omega)
theorem rune_end4 (s : Str) (i n a : Nat) (hn : n = 4) (kr : KT Prop) (H : AH) (c : AV)
    (hz : ∀ (x6 x7 x8 x9 x14 x18 x27 x36 x50 x53 x62 x98 : AV), ¬ rngB n a → kr [.str s, .int .i64 (i : Int), .int .i64 0, .int .i64 0, x6, x7, x8, x9, x14, x18, x27, x36, x50, x53, x62, x98] H)
    (hg : ∀ (x6 x7 x8 x9 x14 x18 x27 x36 x50 x53 x62 x98 : AV), rngB n a → kr [.str s, .int .i64 (i : Int), .int .i64 (a : Int), .int .i64 (n : Int), x6, x7, x8, x9, x14, x18, x27, x36, x50, x53, x62, x98] H) (x4 x5 x9 x14 x18 x27 x36 x50 x53 x62 x98 : AV) :
    r58_20 (qCd (sel 15) (fun _ => (r58_21 kr)) (fun k1 => k1) (r58_22 kr)) [.str s, .int .i64 (i : Int), x4, x5, c, .int .i64 (n : Int), .int .i64 (a : Int), x9, x14, x18, x27, x36, x50, x53, x62, x98] H := by
  unfold rngB at hz hg
  have c2 : ((n : Int) == 3) = false := by subst hn; decide
  have c3 : ((n : Int) == 4) = true := by subst hn; decide
  have key : ((a : Int) < 65536) ∨ (¬ ((a : Int) < 65536) ∧ ((a : Int) > 1114111)) ∨ (¬ ((a : Int) < 65536) ∧ ¬ ((a : Int) > 1114111)) := by omega
  cases key with
  | inl c5 =>
    simp -implicitDefEqProofs only [r58_20, r58_21, opn_z, opn_s, sel_z, sel_s, qCd_eq, qIf_true, qPick_true, qPick_false, qG_tt, qG_ff, qG_tf, qG_ft, qLss_int, qEql_int, qG_un, c2, c3, c5, decide_true]
    exact hz _ _ _ _ _ _ _ _ _ _ _ _ (by omega)
  | inr key =>
    cases key with
    | inl h =>
      have c5 := h.1
      have c4 := h.2
      simp -implicitDefEqProofs only [r58_20, r58_21, opn_z, opn_s, sel_z, sel_s, qCd_eq, qIf_true, qPick_true, qPick_false, qG_tt, qG_ff, qG_tf, qG_ft, qLss_int, qGtr_int, qEql_int, qG_un, c2, c3, c5, c4, decide_true, decide_false]
      exact hz _ _ _ _ _ _ _ _ _ _ _ _ (by omega)
    | inr h =>
      have c5 := h.1
      have c4 := h.2
      have c6 : ((a : Int) ≥ 55296) := by omega
      have c7 : ¬ ((a : Int) ≤ 57343) := by omega
      simp -implicitDefEqProofs only [r58_20, r58_22, opn_z, opn_s, sel_z, sel_s, qCd_eq, qIf_false, qPick_true, qPick_false, qG_tt, qG_ff, qG_ft, qLss_int, qLeq_int, qGtr_int, qGeq_int, qEql_int, c2, c3, c5, c4, c6, c7, decide_true, decide_false]
      exact hg _ _ _ _ _ _ _ _ _ _ _ _ (by omega)
theorem rune_end (s : Str) (i n a : Nat) (hn : n = 2 ∨ n = 3 ∨ n = 4) (hal : n = 2 → a < 2048) (kr : KT Prop) (H : AH) (c : AV)
    (hz' : ∀ (x6 x7 x8 x9 x14 x18 x27 x36 x50 x53 x62 x98 : AV), ¬ rngB n a → kr [.str s, .int .i64 (i : Int), .int .i64 0, .int .i64 0, x6, x7, x8, x9, x14, x18, x27, x36, x50, x53, x62, x98] H)
    (hg' : ∀ (x6 x7 x8 x9 x14 x18 x27 x36 x50 x53 x62 x98 : AV), rngB n a → kr [.str s, .int .i64 (i : Int), .int .i64 (a : Int), .int .i64 (n : Int), x6, x7, x8, x9, x14, x18, x27, x36, x50, x53, x62, x98] H) (x4 x5 x9 x14 x18 x27 x36 x50 x53 x62 x98 : AV) :
    r58_20 (qCd (sel 15) (fun _ => (r58_21 kr)) (fun k1 => k1) (r58_22 kr)) [.str s, .int .i64 (i : Int), x4, x5, c, .int .i64 (n : Int), .int .i64 (a : Int), x9, x14, x18, x27, x36, x50, x53, x62, x98] H := by
  rcases hn with h | h | h
  · exact rune_end2 s i n a h (hal h) kr H c hz' hg' _ _ _ _ _ _ _ _ _ _ _
  · exact rune_end3 s i n a h kr H c hz' hg' _ _ _ _ _ _ _ _ _ _ _
  · exact rune_end4 s i n a h kr H c hz' hg' _ _ _ _ _ _ _ _ _ _ _
set_option maxHeartbeats 1000000 in
theorem rune_tail (s : Str) (hl : s.length < 9000000000000000000) (i n v0 : Nat) (h0 : v0 < 32) (hn : n = 2 ∨ n = 3 ∨ n = 4) (kr : KT Prop) (H : AH) (c : AV)
    (hz : ∀ (x6 x7 x8 x9 x14 x18 x27 x36 x50 x53 x62 x98 : AV), ¬ (i + n ≤ s.length ∧ (∀ j, 1 ≤ j → j < n → byt s (i + j) / 64 = 2) ∧ rngB n (accB s i v0 (n - 1))) → kr [.str s, .int .i64 (i : Int), .int .i64 0, .int .i64 0, x6, x7, x8, x9, x14, x18, x27, x36, x50, x53, x62, x98] H)
    (hg : ∀ (x6 x7 x8 x9 x14 x18 x27 x36 x50 x53 x62 x98 : AV), (i + n ≤ s.length ∧ (∀ j, 1 ≤ j → j < n → byt s (i + j) / 64 = 2) ∧ rngB n (accB s i v0 (n - 1))) → kr [.str s, .int .i64 (i : Int), .int .i64 (accB s i v0 (n - 1) : Int), .int .i64 (n : Int), x6, x7, x8, x9, x14, x18, x27, x36, x50, x53, x62, x98] H)
    (hi : i < s.length) (x4 x5 x9 x14 x18 x27 x36 x50 x53 x62 x98 : AV) :
    r58_12 (qCd (sel 12) (fun _ => (r58_13 kr)) (fun k7 => k7) (r58_14 (qBl (fun k2 => (qLoop (l58_6 k2 kr))) (r58_20 (qCd (sel 15) (fun _ => (r58_21 kr)) (fun k1 => k1) (r58_22 kr)))))) [.str s, .int .i64 (i : Int), x4, x5, c, .int .i64 (n : Int), .int .i64 (v0 : Int), x9, x14, x18, x27, x36, x50, x53, x62, x98] H := by
  have hw : IntKind.i64.wrap ((i : Int) + (n : Int)) = ((i + n : Nat) : Int) := by rw [i64_in' (by omega)]; omega
  by_cases h1 : s.length < i + n
  · have c1 : (((i + n : Nat) : Int) > (s.length : Int)) := by omega
    simp -implicitDefEqProofs only [r58_12, r58_13, opn_z, opn_s, sel_z, sel_s, qCd_eq, qIf_true, qBl_eq, qGtr_int, qAdd_int, qLenS_str, hw, c1, decide_true]
    exact hz _ _ _ _ _ _ _ _ _ _ _ _ fun h => by omega
  have c1 : ¬ (((i + n : Nat) : Int) > (s.length : Int)) := by omega
  simp -implicitDefEqProofs only [r58_12, r58_14, opn_z, opn_s, sel_z, sel_s, qCd_eq, qIf_false, qBl_eq, qGtr_int, qAdd_int, qLenS_str, hw, c1, decide_false]
  refine rune_loop s hl i n v0 h0 (by omega) (by omega) kr _ H c (fun x6 x7 x8 x9 x14 x18 x27 x36 x50 x53 x62 x98 hb => ?_) (fun x4 x5 x9 x14 x18 x27 x36 x50 x53 x62 x98 hA => ?_) _ _ _ _ _ _ _ _ _ _
  · obtain ⟨j, g1, g2, g3⟩ := hb
    (first | exact hz _ _ _ _ _ _ _ _ _ _ _ _ (fun h => g3 (h.2.1 j g1 g2)) | (apply hz <;> first | exact (fun h => g3 (h.2.1 j g1 g2)) | exact Aes.undef))
  · have hal := accB_lt s i v0 h0 (n - 1) (by omega)
    have hz' := fun (x6 x7 x8 x9 x14 x18 x27 x36 x50 x53 x62 x98 : AV) (h : ¬ rngB n (accB s i v0 (n - 1))) => hz x6 x7 x8 x9 x14 x18 x27 x36 x50 x53 x62 x98 (fun g => h g.2.2)
    have hg' := fun (x6 x7 x8 x9 x14 x18 x27 x36 x50 x53 x62 x98 : AV) (h : rngB n (accB s i v0 (n - 1))) => hg x6 x7 x8 x9 x14 x18 x27 x36 x50 x53 x62 x98 ⟨by omega, hA, h⟩
    clear hz hg hA
    generalize accB s i v0 (n - 1) = a at *
    have hal2 : n = 2 → a < 2048 := fun e => by rw [e] at hal; simpa using hal
    clear hal
    exact rune_end s i n a hn hal2 kr H c hz' hg' _ _ _ _ _ _ _ _ _ _ _

theorem run1_bad {s : Str} {i : Nat} (h : Lib.decodeL (s.drop i) = (65533, 1)) : run1 (s.drop i) = (0, 0) := by
  unfold run1
  rw [if_pos ⟨by rw [h], by rw [h]⟩]
theorem run1_ok {s : Str} {i a n : Nat} (h : Lib.decodeL (s.drop i) = (a, n)) (hn : n ≠ 1 ∨ a < 65533) : run1 (s.drop i) = (a, n) := by
  unfold run1
  rw [if_neg, h]
  rintro ⟨h1, h2⟩
  rw [h] at h1 h2
  simp only at h1 h2
  omega

open Classical in
/-- the lead byte and what follows, held against what is decoded -/
theorem lead_two (s : Str) (i : Nat) (hi : i < s.length) (hc : 194 ≤ byt s i ∧ byt s i ≤ 223) :
    run1 (s.drop i) = if (i + 2 ≤ s.length ∧ (∀ j, 1 ≤ j → j < 2 → byt s (i + j) / 64 = 2) ∧ rngB 2 (accB s i (byt s i % 32) (2 - 1))) then (accB s i (byt s i % 32) (2 - 1), 2) else (0, 0) := by
  have hN := run1_N s i hi
  have ha : accB s i (byt s i % 32) (2 - 1) = byt s i % 32 * 64 + byt s (i + 1) % 64 := rfl
  rw [ha]
  have hx : (∀ j, 1 ≤ j → j < 2 → byt s (i + j) / 64 = 2) ↔ byt s (i + 1) / 64 = 2 := ⟨fun h => h 1 (by omega) (by omega), fun h j g1 g2 => by
    have : j = 1 := by omega
    subst this
    exact h⟩
  rw [hx]
  unfold Lib.decodeN at hN
  rw [if_neg (by omega)] at hN
  unfold rngB
  generalize byt s i = b0 at *
  generalize byt s (i + 1) = b1 at *
  generalize byt s (i + 2) = b2 at *
  generalize byt s (i + 3) = b3 at *
  by_cases h1 : i + 2 ≤ s.length ∧ b1 / 64 = 2
  · rw [if_pos (by omega), if_pos (by omega)] at hN
    rw [if_pos (by omega)]
    exact run1_ok hN (.inl (by omega))
  · rw [if_neg (by omega), if_neg (by omega), if_neg (by omega)] at hN
    rw [if_neg (by omega)]
    exact run1_bad hN
open Classical in
theorem lead_three (s : Str) (i : Nat) (hi : i < s.length) (hc : 224 ≤ byt s i ∧ byt s i ≤ 239) :
    run1 (s.drop i) = if (i + 3 ≤ s.length ∧ (∀ j, 1 ≤ j → j < 3 → byt s (i + j) / 64 = 2) ∧ rngB 3 (accB s i (byt s i % 16) (3 - 1))) then (accB s i (byt s i % 16) (3 - 1), 3) else (0, 0) := by
  have hN := run1_N s i hi
  have ha : accB s i (byt s i % 16) (3 - 1) = (byt s i % 16 * 64 + byt s (i + 1) % 64) * 64 + byt s (i + 2) % 64 := rfl
  rw [ha]
  have hx : (∀ j, 1 ≤ j → j < 3 → byt s (i + j) / 64 = 2) ↔ (byt s (i + 1) / 64 = 2 ∧ byt s (i + 2) / 64 = 2) := ⟨fun h => ⟨h 1 (by omega) (by omega), h 2 (by omega) (by omega)⟩, fun h j g1 g2 => by
    have : j = 1 ∨ j = 2 := by omega
    rcases this with rfl | rfl
    · exact h.1
    · exact h.2⟩
  rw [hx]
  unfold Lib.decodeN at hN
  rw [if_neg (by omega), if_neg (by omega)] at hN
  unfold rngB
  generalize byt s i = b0 at *
  generalize byt s (i + 1) = b1 at *
  generalize byt s (i + 2) = b2 at *
  generalize byt s (i + 3) = b3 at *
  by_cases h1 : i + 3 ≤ s.length ∧ b1 / 64 = 2 ∧ b2 / 64 = 2
  · rw [if_pos (by omega)] at hN
    have hv : b0 % 16 * 4096 + b1 % 64 * 64 + b2 % 64 = (b0 % 16 * 64 + b1 % 64) * 64 + b2 % 64 := by omega
    rw [hv] at hN
    generalize (b0 % 16 * 64 + b1 % 64) * 64 + b2 % 64 = v at *
    by_cases h2 : 2048 ≤ v ∧ ¬ (55296 ≤ v ∧ v ≤ 57343)
    · by_cases h3 : v ≤ 1114111
      · rw [if_pos (by omega)] at hN
        rw [if_pos (by omega)]
        exact run1_ok hN (.inl (by omega))
      · omega
    · rw [if_neg (by omega)] at hN
      rw [if_neg (by omega)]
      exact run1_bad hN
  · rw [if_neg (by omega), if_neg (by omega)] at hN
    rw [if_neg (by omega)]
    exact run1_bad hN
open Classical in
theorem lead_four (s : Str) (i : Nat) (hi : i < s.length) (hc : 240 ≤ byt s i ∧ byt s i ≤ 244) :
    run1 (s.drop i) = if (i + 4 ≤ s.length ∧ (∀ j, 1 ≤ j → j < 4 → byt s (i + j) / 64 = 2) ∧ rngB 4 (accB s i (byt s i % 8) (4 - 1))) then (accB s i (byt s i % 8) (4 - 1), 4) else (0, 0) := by
  have hN := run1_N s i hi
  have ha : accB s i (byt s i % 8) (4 - 1) = ((byt s i % 8 * 64 + byt s (i + 1) % 64) * 64 + byt s (i + 2) % 64) * 64 + byt s (i + 3) % 64 := rfl
  rw [ha]
  have hx : (∀ j, 1 ≤ j → j < 4 → byt s (i + j) / 64 = 2) ↔ (byt s (i + 1) / 64 = 2 ∧ byt s (i + 2) / 64 = 2 ∧ byt s (i + 3) / 64 = 2) := ⟨fun h => ⟨h 1 (by omega) (by omega), h 2 (by omega) (by omega), h 3 (by omega) (by omega)⟩, fun h j g1 g2 => by
    have : j = 1 ∨ j = 2 ∨ j = 3 := by omega
    rcases this with rfl | rfl | rfl
    · exact h.1
    · exact h.2.1
    · exact h.2.2⟩
  rw [hx]
  unfold Lib.decodeN at hN
  rw [if_neg (by omega), if_neg (by omega), if_neg (by omega)] at hN
  unfold rngB
  generalize byt s i = b0 at *
  generalize byt s (i + 1) = b1 at *
  generalize byt s (i + 2) = b2 at *
  generalize byt s (i + 3) = b3 at *
  by_cases h1 : i + 4 ≤ s.length ∧ b1 / 64 = 2 ∧ b2 / 64 = 2 ∧ b3 / 64 = 2
  · rw [if_pos (by omega)] at hN
    have hv : b0 % 8 * 262144 + b1 % 64 * 4096 + b2 % 64 * 64 + b3 % 64 = ((b0 % 8 * 64 + b1 % 64) * 64 + b2 % 64) * 64 + b3 % 64 := by omega
    rw [hv] at hN
    generalize ((b0 % 8 * 64 + b1 % 64) * 64 + b2 % 64) * 64 + b3 % 64 = v at *
    by_cases h2 : 65536 ≤ v ∧ v ≤ 1114111
    · rw [if_pos (by omega)] at hN
      rw [if_pos (by omega)]
      exact run1_ok hN (.inl (by omega))
    · rw [if_neg (by omega)] at hN
      rw [if_neg (by omega)]
      exact run1_bad hN
  · rw [if_neg (by omega)] at hN
    rw [if_neg (by omega)]
    exact run1_bad hN
theorem lead_none (s : Str) (i : Nat) (hi : i < s.length) (h0 : 128 ≤ byt s i) (h1 : ¬ (194 ≤ byt s i ∧ byt s i ≤ 244)) (hb : byt s i < 256) : run1 (s.drop i) = (0, 0) := by
  have hN := run1_N s i hi
  unfold Lib.decodeN at hN
  rw [if_neg (by omega)] at hN
  generalize byt s i = b0 at *
  generalize byt s (i + 1) = b1 at *
  generalize byt s (i + 2) = b2 at *
  generalize byt s (i + 3) = b3 at *
  refine run1_bad ?_
  by_cases h2 : b0 / 32 = 6 ∧ (1 < s.length - i ∧ b1 / 64 = 2)
  · rw [if_pos h2, if_neg (by omega)] at hN
    exact hN
  rw [if_neg h2, if_neg (by omega)] at hN
  by_cases h3 : b0 / 8 = 30 ∧ (1 < s.length - i ∧ b1 / 64 = 2) ∧ (2 < s.length - i ∧ b2 / 64 = 2) ∧ (3 < s.length - i ∧ b3 / 64 = 2)
  · rw [if_pos h3, if_neg (by omega)] at hN
    exact hN
  · rw [if_neg h3] at hN
    exact hN
end T
