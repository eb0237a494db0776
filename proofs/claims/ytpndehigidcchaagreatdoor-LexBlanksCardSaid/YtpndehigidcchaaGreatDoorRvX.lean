import Derived.Test.YtpndehigidcchaaGreatDoorRdBX
import Derived.Laws.DeepBits32
set_option linter.all false
set_option linter.unusedVariables false
set_option linter.unusedSimpArgs false
set_option maxRecDepth 10000
namespace T
open Go Go.Aes Go.Proofs
def letB (c : UInt8) : Bool := (decide (97 ≤ c.toNat) && decide (c.toNat ≤ 122)) || (decide (65 ≤ c.toNat) && decide (c.toNat ≤ 90)) || decide (c.toNat = 95)
def digB (c : UInt8) : Bool := decide (48 ≤ c.toNat) && decide (c.toNat ≤ 57)
end T
set_option linter.unusedVariables false
set_option linter.unusedSimpArgs false
set_option maxRecDepth 10000
namespace T
open Go Go.Aes Go.Proofs
theorem and_i64 (a m : Nat) (ha : a < 4611686018427387904) (k : Nat) (hk : m = 2 ^ k - 1) (hm : m < 65536) : binop X .and 3 (.int .i64 (a : Int)) (.int .i64 (m : Int)) = some (.int .i64 ((a % 2 ^ k : Nat) : Int)) := by
  show some (AV.int .i64 (IntKind.i64.wrap ((BitVec.ofInt 64 (a : Int) &&& BitVec.ofInt 64 (m : Int)).toNat : Int))) = _
  rw [BitVec.toNat_and, ofInt_u64 a (by omega), ofInt_u64 m (by omega), hk, Nat.and_two_pow_sub_one_eq_mod]
  have h1 : a % 2 ^ k ≤ a := Nat.mod_le _ _
  rw [i64_in' (by omega)]
theorem shr_i64 (a s : Nat) (hs : s ≤ 63) : binop X .shr 3 (.int .i64 (a : Int)) (.int .u64 (s : Int)) = some (.int .i64 ((a / 2 ^ s : Nat) : Int)) := by
  show ofSem (Op.shift .shr .i64 (a : Int) .u64 (s : Int)) = _
  rw [shift_shr .i64 .u64 (a : Int) (s : Int) (by omega) (by show (s : Int) ≤ 64; omega)]
  simp only [Int.toNat_natCast]
  show some (AV.int .i64 _) = _
  congr 2
theorem shl6_i64 (a : Nat) (ha : a < 1000000000000) : binop X .shl 3 (.int .i64 (a : Int)) (.int .u64 6) = some (.int .i64 ((a * 64 : Nat) : Int)) := by
  show ofSem (Op.shift .shl .i64 (a : Int) .u64 6) = _
  rw [shift_shl .i64 .u64 (a : Int) 6 (by decide) (by decide)]
  show some (AV.int .i64 (IntKind.i64.wrap ((a : Int) * 2 ^ (6 : Int).toNat))) = _
  rw [show (2 : Int) ^ (6 : Int).toNat = 64 from rfl, i64_in' (by omega)]
  congr 2
theorem or6_i64 (a x : Nat) (ha : a < 1000000000000) (hx : x < 64) : binop X .or 3 (.int .i64 ((a * 64 : Nat) : Int)) (.int .i64 (x : Int)) = some (.int .i64 ((a * 64 + x : Nat) : Int)) := by
  show some (AV.int .i64 (IntKind.i64.wrap ((BitVec.ofInt 64 ((a * 64 : Nat) : Int) ||| BitVec.ofInt 64 (x : Int)).toNat : Int))) = _
  have h := Nat.shiftLeft_add_eq_or_of_lt (b := x) (i := 6) (by omega) a
  rw [Nat.shiftLeft_eq, show (2 : Nat) ^ 6 = 64 from rfl] at h
  rw [BitVec.toNat_or, ofInt_u64 (a * 64) (by omega), ofInt_u64 x (by omega), ← h, i64_in' (by omega)]
theorem and192 : ∀ x : Fin 256, (!((bits .and .u8 (x.val : Int) 192) == 128)) = !decide (x.val / 64 = 2) := by decide +kernel
end T
set_option linter.unusedVariables false
set_option linter.unusedSimpArgs false
set_option maxRecDepth 10000
namespace T
open Go Go.Aes Go.Proofs
theorem beq_nat (a b : Nat) : (((a : Nat) : Int) == ((b : Nat) : Int)) = decide (a = b) := by rw [Bool.eq_iff_iff]; simp; omega
theorem ep59 (c : UInt8) (H : AH) : EP 23 [.int .u8 (c.toNat : Int)] H = some (.val (.bool (letB c)) H) := by
  refine uo_form (X := X) (D := OD2) (O := OF2) (S := PS) (al := [.int .u8 (c.toNat : Int)]) e23 xf23 rfl rfl rfl rfl ?_ H
  simp only [AV.kills, AV.kill]
  unfold letB
  generalize c.toNat = r
  by_cases h1 : 97 ≤ r
  · have c1 : ((r : Int) ≥ 97) := by omega
    by_cases h2 : r ≤ 122
    · have c2 : ((r : Int) ≤ 122) := by omega
      simp -implicitDefEqProofs only [c23, r23_0, r23_1, opn_z, opn_s, sel_z, sel_s, qFn_eq, qPick_true, qG_tt, qG_tf, qLeq_int, qGeq_int, qG_un, AV.kill, c1, c2, decide_true]
      simp [h1, h2]
    · have c2 : ¬ ((r : Int) ≤ 122) := by omega
      have c1003 : ((r : Int) ≥ 65) := by omega
      have c1004 : ¬ ((r : Int) ≤ 90) := by omega
      have c1005 : ((r : Int) == 95) = false := by simp; omega
      have hf : ((decide (97 ≤ r) && decide (r ≤ 122)) || (decide (65 ≤ r) && decide (r ≤ 90)) || decide (r = 95)) = false := by simp; omega
      rw [hf]
      simp -implicitDefEqProofs only [c23, r23_0, r23_1, opn_z, opn_s, sel_z, sel_s, qFn_eq, qPick_true, qPick_false, qG_tt, qG_ff, qLeq_int, qGeq_int, qEql_int, AV.kill, c1, c2, c1003, c1004, c1005, decide_true, decide_false]
  · have c1 : ¬ ((r : Int) ≥ 97) := by omega
    by_cases h3 : 65 ≤ r
    · have c1003 : ((r : Int) ≥ 65) := by omega
      by_cases h4 : r ≤ 90
      · have c1004 : ((r : Int) ≤ 90) := by omega
        have hf : ((decide (97 ≤ r) && decide (r ≤ 122)) || (decide (65 ≤ r) && decide (r ≤ 90)) || decide (r = 95)) = true := by simp; omega
        rw [hf]
        simp -implicitDefEqProofs only [c23, r23_0, r23_1, opn_z, opn_s, sel_z, sel_s, qFn_eq, qPick_true, qPick_false, qG_tt, qG_ff, qG_tf, qG_ft, qLeq_int, qGeq_int, AV.kill, c1, c1003, c1004, decide_true, decide_false]
      · have c1004 : ¬ ((r : Int) ≤ 90) := by omega
        have hf : ((decide (97 ≤ r) && decide (r ≤ 122)) || (decide (65 ≤ r) && decide (r ≤ 90)) || decide (r = 95)) = ((r : Int) == 95) := by rw [Bool.eq_iff_iff]; simp; omega
        rw [hf]
        simp -implicitDefEqProofs only [c23, r23_0, r23_1, opn_z, opn_s, sel_z, sel_s, qFn_eq, qPick_true, qPick_false, qG_tt, qG_ff, qG_ft, qLeq_int, qGeq_int, qEql_int, AV.kill, c1, c1003, c1004, decide_true, decide_false]
    · have c1003 : ¬ ((r : Int) ≥ 65) := by omega
      have c1005 : ((r : Int) == 95) = false := by simp; omega
      have hf : ((decide (97 ≤ r) && decide (r ≤ 122)) || (decide (65 ≤ r) && decide (r ≤ 90)) || decide (r = 95)) = false := by simp; omega
      rw [hf]
      simp -implicitDefEqProofs only [c23, r23_0, r23_1, opn_z, opn_s, sel_z, sel_s, qFn_eq, qPick_false, qG_ff, qG_ft, qGeq_int, qEql_int, AV.kill, c1, c1003, c1005, decide_false]
theorem ep60 (c : UInt8) (H : AH) : EP 24 [.int .u8 (c.toNat : Int)] H = some (.val (.bool (digB c)) H) := by
  refine uo_form (X := X) (D := OD2) (O := OF2) (S := PS) (al := [.int .u8 (c.toNat : Int)]) e24 xf24 rfl rfl rfl rfl ?_ H
  simp only [AV.kills, AV.kill]
  unfold digB
  generalize c.toNat = r
  by_cases h1 : 48 ≤ r
  · have c1 : ((r : Int) ≥ 48) := by omega
    have hf : (decide (48 ≤ r) && decide (r ≤ 57)) = decide ((r : Int) ≤ 57) := by rw [Bool.eq_iff_iff]; simp; omega
    rw [hf]
    simp -implicitDefEqProofs only [c24, r24_0, r24_1, opn_z, opn_s, sel_z, sel_s, qFn_eq, qPick_true, qG_tt, qLeq_int, qGeq_int, AV.kill, c1, decide_true]
  · have c1 : ¬ ((r : Int) ≥ 48) := by omega
    have hf : (decide (48 ≤ r) && decide (r ≤ 57)) = false := by simp; omega
    rw [hf]
    simp -implicitDefEqProofs only [c24, r24_0, r24_1, opn_z, opn_s, sel_z, sel_s, qFn_eq, qPick_false, qG_ft, qGeq_int, AV.kill, c1, decide_false]
end T
set_option linter.unusedVariables false
set_option linter.unusedSimpArgs false
set_option maxRecDepth 10000
namespace T
open Go Go.Aes Go.Proofs
def byt (s : Str) (i : Nat) : Nat := (s.getD i 0).toNat
def run1 (l : Str) : Nat × Nat := if Bad l then (0, 0) else Lib.decodeL l
def accB (s : Str) (i v0 : Nat) : Nat → Nat
  | 0 => v0
  | k + 1 => accB s i v0 k * 64 + byt s (i + (k + 1)) % 64
theorem byt_at {s : Str} {i : Nat} (h : i < s.length) : ∃ c : UInt8, s[i]? = some c ∧ byt s i = c.toNat := by
  refine ⟨s[i], List.getElem?_eq_getElem h, ?_⟩
  unfold byt
  simp [List.getD, h]
theorem accB_lt (s : Str) (i v0 : Nat) (h0 : v0 < 32) : ∀ k, k ≤ 3 → accB s i v0 k < 32 * 64 ^ k
  | 0, _ => by simpa [accB] using h0
  | k + 1, hk => by
    have h1 := accB_lt s i v0 h0 k (by omega)
    have h2 := Nat.mod_lt (byt s (i + (k + 1))) (show 0 < 64 by omega)
    simp only [accB]
    rw [Nat.pow_succ]
    omega
set_option maxHeartbeats 1000000 in
theorem rune_loop (s : Str) (hl : s.length < 9000000000000000000) (i n v0 : Nat) (h0 : v0 < 32) (hn : 2 ≤ n ∧ n ≤ 4) (hin : i + n ≤ s.length) (kr k2 : KT Prop) (H : AH) (c : AV)
    (hbad : ∀ (x6 x7 x8 x9 x14 x18 x27 x36 x50 x53 x62 x98 : AV), (∃ j, 1 ≤ j ∧ j < n ∧ byt s (i + j) / 64 ≠ 2) → kr [.str s, .int .i64 (i : Int), .int .i64 0, .int .i64 0, x6, x7, x8, x9, x14, x18, x27, x36, x50, x53, x62, x98] H)
    (hok : ∀ (x4 x5 x9 x14 x18 x27 x36 x50 x53 x62 x98 : AV), (∀ j, 1 ≤ j → j < n → byt s (i + j) / 64 = 2) → k2 [.str s, .int .i64 (i : Int), x4, x5, c, .int .i64 (n : Int), .int .i64 (accB s i v0 (n - 1) : Int), x9, x14, x18, x27, x36, x50, x53, x62, x98] H) (x4 x5 x14 x18 x27 x36 x50 x53 x62 x98 : AV) :
    qLoop (l75_6 k2 kr) [.str s, .int .i64 (i : Int), x4, x5, c, .int .i64 (n : Int), .int .i64 (v0 : Int), .int .i64 1, x14, x18, x27, x36, x50, x53, x62, x98] H := by
  refine loop_inv (fun m fr H' => ∃ (k : Nat) (x4 x5 x14 x18 x27 x36 x50 x53 x62 x98 : AV), m = n - k ∧ k < n ∧ fr = [.str s, .int .i64 (i : Int), x4, x5, c, .int .i64 (n : Int), .int .i64 (accB s i v0 k : Int), .int .i64 ((k + 1 : Nat) : Int), x14, x18, x27, x36, x50, x53, x62, x98] ∧ H' = H ∧
      (∀ j, 1 ≤ j → j ≤ k → byt s (i + j) / 64 = 2)) ?_ (m := n) ?_
  case refine_2 => exact ⟨0, _, _, _, _, _, _, _, _, _, _, rfl, by omega, rfl, rfl, fun j h1 h2 => by omega⟩
  rintro m fr H' kk ⟨k, x4, x5, x14, x18, x27, x36, x50, x53, x62, x98, rfl, hk, rfl, rfl, hA⟩ hkk
  by_cases h1 : k + 1 < n
  · have c1 : (((k + 1 : Nat) : Int) < (n : Int)) := by omega
    have hwi : IntKind.i64.wrap ((i : Int) + ((k + 1 : Nat) : Int)) = ((i + (k + 1) : Nat) : Int) := by rw [i64_in' (by omega)]; omega
    obtain ⟨d, hd, hb⟩ := byt_at (s := s) (i := i + (k + 1)) (by omega)
    have ix := fun k => qIx_at s _ d hd k
    have an := and192 ⟨d.toNat, d.toNat_lt⟩
    simp only at an
    have a192 : binop X .and 5 (.int .u8 (d.toNat : Int)) (.int .u8 192) = some (.int .u8 (bits .and .u8 (d.toNat : Int) 192)) := rfl
    by_cases h2 : d.toNat / 64 = 2
    · rw [decide_eq_true h2] at an
      simp only [Bool.not_true] at an
      have hal := accB_lt s i v0 h0 k (by omega)
      have hp : 64 ^ k ≤ 64 ^ 3 := Nat.pow_le_pow_right (by omega) (by omega)
      have sh := shl6_i64 (accB s i v0 k) (by omega)
      have a63 : binop X .and 5 (.int .u8 (d.toNat : Int)) (.int .u8 63) = some (.int .u8 ((d.toNat % 64 : Nat) : Int)) := by
        have := and63 ⟨d.toNat, d.toNat_lt⟩
        simp only at this
        rw [and_u8, this]
      have w63 : IntKind.i64.wrap ((d.toNat % 64 : Nat) : Int) = ((d.toNat % 64 : Nat) : Int) := i64_in' (by omega)
      have orr := or6_i64 (accB s i v0 k) (d.toNat % 64) (by omega) (Nat.mod_lt _ (by omega))
      have hwk := wrap_up (k + 1) (by omega)
      simp -implicitDefEqProofs only [l75_6, r75_15, r75_17, r75_19, r75_16, opn_z, opn_s, sel_z, sel_s, qCd_eq, qIf_true, qIf_false, qBl_eq, qO_some, qLss_int, qNeq_int, qAdd_int, qConvI_int, c1, decide_true, hwi, ix, a192, an, sh, a63, w63, orr, hwk]
      have hacc : accB s i v0 k * 64 + d.toNat % 64 = accB s i v0 (k + 1) := by simp only [accB, hb]
      rw [hacc]
      refine hkk (n - (k + 1)) _ _ (by omega) ⟨k + 1, _, _, _, _, _, _, _, _, _, _, rfl, h1, rfl, rfl, fun j g1 g2 => ?_⟩
      · by_cases g3 : j = k + 1
        · subst g3; rw [hb]; exact h2
        · exact hA j g1 (by omega)
    · rw [decide_eq_false h2] at an
      simp only [Bool.not_false] at an
      simp -implicitDefEqProofs only [l75_6, r75_15, r75_17, r75_18, opn_z, opn_s, sel_z, sel_s, qCd_eq, qIf_true, qBl_eq, qO_some, qLss_int, qNeq_int, qAdd_int, c1, decide_true, hwi, ix, a192, an]
      exact hbad _ _ _ _ _ _ _ _ _ _ _ _ ⟨k + 1, by omega, h1, by rw [hb]; exact h2⟩
  · have c1 : ¬ (((k + 1 : Nat) : Int) < (n : Int)) := by omega
    have hkn : k = n - 1 := by omega
    simp -implicitDefEqProofs only [l75_6, r75_15, opn_z, opn_s, sel_z, sel_s, qCd_eq, qIf_false, qBl_eq, qLss_int, c1, decide_false]
    rw [hkn]
    exact hok _ _ _ _ _ _ _ _ _ _ _ fun j g1 g2 => hA j g1 (by omega)
theorem run1_N (s : Str) (i : Nat) (h : i < s.length) : Lib.decodeL (s.drop i) = Lib.decodeN (s.length - i) (byt s i) (byt s (i + 1)) (byt s (i + 2)) (byt s (i + 3)) := by
  rw [Lib.decodeL_N, List.length_drop]
  have hb : ∀ j, ((s.drop i).getD j 0).toNat = byt s (i + j) := fun j => by
    unfold byt
    simp [List.getD, List.getElem?_drop]
  rw [hb, hb, hb, hb]
  rfl
def rngB (n a : Nat) : Prop := (n = 3 → 2048 ≤ a) ∧ (n = 4 → 65536 ≤ a ∧ a ≤ 1114111) ∧ ¬ (55296 ≤ a ∧ a ≤ 57343)
theorem rune_end2 (s : Str) (i n a : Nat) (hn : n = 2) (hal3 : a < 2048) (kr : KT Prop) (H : AH) (c : AV)
    (hz' : ∀ (x6 x7 x8 x9 x14 x18 x27 x36 x50 x53 x62 x98 : AV), ¬ rngB n a → kr [.str s, .int .i64 (i : Int), .int .i64 0, .int .i64 0, x6, x7, x8, x9, x14, x18, x27, x36, x50, x53, x62, x98] H)
    (hg' : ∀ (x6 x7 x8 x9 x14 x18 x27 x36 x50 x53 x62 x98 : AV), rngB n a → kr [.str s, .int .i64 (i : Int), .int .i64 (a : Int), .int .i64 (n : Int), x6, x7, x8, x9, x14, x18, x27, x36, x50, x53, x62, x98] H) (x4 x5 x9 x14 x18 x27 x36 x50 x53 x62 x98 : AV) :
    r75_20 (qCd (sel 15) (fun _ => (r75_21 kr)) (fun k1 => k1) (r75_22 kr)) [.str s, .int .i64 (i : Int), x4, x5, c, .int .i64 (n : Int), .int .i64 (a : Int), x9, x14, x18, x27, x36, x50, x53, x62, x98] H := by
  unfold rngB at hz' hg'
  have c2 : ((n : Int) == 3) = false := by subst hn; decide
  have c1003 : ((n : Int) == 4) = false := by subst hn; decide
  have c1004 : ¬ ((a : Int) ≥ 55296) := by omega
  simp -implicitDefEqProofs only [r75_20, r75_22, opn_z, opn_s, sel_z, sel_s, qCd_eq, qIf_false, qPick_false, qG_ff, qG_ft, qGeq_int, qEql_int, qG_un, c2, c1003, c1004, decide_false]
  exact hg' _ _ _ _ _ _ _ _ _ _ _ _ ⟨by omega, by omega, by omega⟩
theorem rune_end3 (s : Str) (i n a : Nat) (hn : n = 3) (kr : KT Prop) (H : AH) (c : AV)
    (hz' : ∀ (x6 x7 x8 x9 x14 x18 x27 x36 x50 x53 x62 x98 : AV), ¬ rngB n a → kr [.str s, .int .i64 (i : Int), .int .i64 0, .int .i64 0, x6, x7, x8, x9, x14, x18, x27, x36, x50, x53, x62, x98] H)
    (hg' : ∀ (x6 x7 x8 x9 x14 x18 x27 x36 x50 x53 x62 x98 : AV), rngB n a → kr [.str s, .int .i64 (i : Int), .int .i64 (a : Int), .int .i64 (n : Int), x6, x7, x8, x9, x14, x18, x27, x36, x50, x53, x62, x98] H) (x4 x5 x9 x14 x18 x27 x36 x50 x53 x62 x98 : AV) :
    r75_20 (qCd (sel 15) (fun _ => (r75_21 kr)) (fun k1 => k1) (r75_22 kr)) [.str s, .int .i64 (i : Int), x4, x5, c, .int .i64 (n : Int), .int .i64 (a : Int), x9, x14, x18, x27, x36, x50, x53, x62, x98] H := by
  unfold rngB at hz' hg'
  have c2 : ((n : Int) == 3) = true := by subst hn; decide
  have c1003 : ((n : Int) == 4) = false := by subst hn; decide
  by_cases h2 : a < 2048
  · have c1005 : ((a : Int) < 2048) := by omega
    simp -implicitDefEqProofs only [r75_20, r75_21, opn_z, opn_s, sel_z, sel_s, qCd_eq, qIf_true, qPick_true, qG_tt, qG_tf, qLss_int, qEql_int, qG_un, c2, c1005, decide_true]
    exact hz' _ _ _ _ _ _ _ _ _ _ _ _ (by omega)
  have c1005 : ¬ ((a : Int) < 2048) := by omega
  by_cases h3 : 55296 ≤ a
  · have c1004 : ((a : Int) ≥ 55296) := by omega
    by_cases h4 : a ≤ 57343
    · have c1006 : ((a : Int) ≤ 57343) := by omega
      simp -implicitDefEqProofs only [r75_20, r75_21, opn_z, opn_s, sel_z, sel_s, qCd_eq, qIf_true, qPick_true, qPick_false, qG_tt, qG_ff, qG_ft, qLss_int, qLeq_int, qGeq_int, qEql_int, qG_un, c2, c1003, c1004, c1005, c1006, decide_true, decide_false]
      exact hz' _ _ _ _ _ _ _ _ _ _ _ _ (by omega)
    · have c1006 : ¬ ((a : Int) ≤ 57343) := by omega
      simp -implicitDefEqProofs only [r75_20, r75_22, opn_z, opn_s, sel_z, sel_s, qCd_eq, qIf_false, qPick_true, qPick_false, qG_tt, qG_ff, qG_ft, qLss_int, qLeq_int, qGeq_int, qEql_int, qG_un, c2, c1003, c1004, c1005, c1006, decide_true, decide_false]
      exact hg' _ _ _ _ _ _ _ _ _ _ _ _ (by omega)
  · have c1004 : ¬ ((a : Int) ≥ 55296) := by omega
    simp -implicitDefEqProofs only [r75_20, r75_22, opn_z, opn_s, sel_z, sel_s, qCd_eq, qIf_false, qPick_true, qPick_false, qG_tt, qG_ff, qG_ft, qLss_int, qGeq_int, qEql_int, qG_un, c2, c1003, c1004, c1005, decide_false]
    exact hg' _ _ _ _ _ _ _ _ _ _ _ _ (by omega)
theorem rune_end4 (s : Str) (i n a : Nat) (hn : n = 4) (kr : KT Prop) (H : AH) (c : AV)
    (hz : ∀ (x6 x7 x8 x9 x14 x18 x27 x36 x50 x53 x62 x98 : AV), ¬ rngB n a → kr [.str s, .int .i64 (i : Int), .int .i64 0, .int .i64 0, x6, x7, x8, x9, x14, x18, x27, x36, x50, x53, x62, x98] H)
    (hg : ∀ (x6 x7 x8 x9 x14 x18 x27 x36 x50 x53 x62 x98 : AV), rngB n a → kr [.str s, .int .i64 (i : Int), .int .i64 (a : Int), .int .i64 (n : Int), x6, x7, x8, x9, x14, x18, x27, x36, x50, x53, x62, x98] H) (x4 x5 x9 x14 x18 x27 x36 x50 x53 x62 x98 : AV) :
    r75_20 (qCd (sel 15) (fun _ => (r75_21 kr)) (fun k1 => k1) (r75_22 kr)) [.str s, .int .i64 (i : Int), x4, x5, c, .int .i64 (n : Int), .int .i64 (a : Int), x9, x14, x18, x27, x36, x50, x53, x62, x98] H := by
  unfold rngB at hz hg
  have c2 : ((n : Int) == 3) = false := by subst hn; decide
  have c1003 : ((n : Int) == 4) = true := by subst hn; decide
  have key : ((a : Int) < 65536) ∨ (¬ ((a : Int) < 65536) ∧ ((a : Int) > 1114111)) ∨ (¬ ((a : Int) < 65536) ∧ ¬ ((a : Int) > 1114111)) := by omega
  cases key with
  | inl c1005 =>
    simp -implicitDefEqProofs only [r75_20, r75_21, opn_z, opn_s, sel_z, sel_s, qCd_eq, qIf_true, qPick_true, qPick_false, qG_tt, qG_ff, qG_tf, qG_ft, qLss_int, qEql_int, qG_un, c2, c1003, c1005, decide_true]
    exact hz _ _ _ _ _ _ _ _ _ _ _ _ (by omega)
  | inr key =>
    cases key with
    | inl h =>
      have c1005 := h.1
      have c1004 := h.2
      simp -implicitDefEqProofs only [r75_20, r75_21, opn_z, opn_s, sel_z, sel_s, qCd_eq, qIf_true, qPick_true, qPick_false, qG_tt, qG_ff, qG_tf, qG_ft, qLss_int, qGtr_int, qEql_int, qG_un, c2, c1003, c1005, c1004, decide_true, decide_false]
      exact hz _ _ _ _ _ _ _ _ _ _ _ _ (by omega)
    | inr h =>
      have c1005 := h.1
      have c1004 := h.2
      have c1006 : ((a : Int) ≥ 55296) := by omega
      have c1007 : ¬ ((a : Int) ≤ 57343) := by omega
      simp -implicitDefEqProofs only [r75_20, r75_22, opn_z, opn_s, sel_z, sel_s, qCd_eq, qIf_false, qPick_true, qPick_false, qG_tt, qG_ff, qG_ft, qLss_int, qLeq_int, qGtr_int, qGeq_int, qEql_int, c2, c1003, c1005, c1004, c1006, c1007, decide_true, decide_false]
      exact hg _ _ _ _ _ _ _ _ _ _ _ _ (by omega)
theorem rune_end (s : Str) (i n a : Nat) (hn : n = 2 ∨ n = 3 ∨ n = 4) (hal : n = 2 → a < 2048) (kr : KT Prop) (H : AH) (c : AV)
    (hz' : ∀ (x6 x7 x8 x9 x14 x18 x27 x36 x50 x53 x62 x98 : AV), ¬ rngB n a → kr [.str s, .int .i64 (i : Int), .int .i64 0, .int .i64 0, x6, x7, x8, x9, x14, x18, x27, x36, x50, x53, x62, x98] H)
    (hg' : ∀ (x6 x7 x8 x9 x14 x18 x27 x36 x50 x53 x62 x98 : AV), rngB n a → kr [.str s, .int .i64 (i : Int), .int .i64 (a : Int), .int .i64 (n : Int), x6, x7, x8, x9, x14, x18, x27, x36, x50, x53, x62, x98] H) (x4 x5 x9 x14 x18 x27 x36 x50 x53 x62 x98 : AV) :
    r75_20 (qCd (sel 15) (fun _ => (r75_21 kr)) (fun k1 => k1) (r75_22 kr)) [.str s, .int .i64 (i : Int), x4, x5, c, .int .i64 (n : Int), .int .i64 (a : Int), x9, x14, x18, x27, x36, x50, x53, x62, x98] H := by
  rcases hn with h | h | h
  · exact rune_end2 s i n a h (hal h) kr H c hz' hg' _ _ _ _ _ _ _ _ _ _ _
  · exact rune_end3 s i n a h kr H c hz' hg' _ _ _ _ _ _ _ _ _ _ _
  · exact rune_end4 s i n a h kr H c hz' hg' _ _ _ _ _ _ _ _ _ _ _
set_option maxHeartbeats 1000000 in
theorem rune_tail (s : Str) (hl : s.length < 9000000000000000000) (i n v0 : Nat) (h0 : v0 < 32) (hn : n = 2 ∨ n = 3 ∨ n = 4) (kr : KT Prop) (H : AH) (c : AV)
    (hz : ∀ (x6 x7 x8 x9 x14 x18 x27 x36 x50 x53 x62 x98 : AV), ¬ (i + n ≤ s.length ∧ (∀ j, 1 ≤ j → j < n → byt s (i + j) / 64 = 2) ∧ rngB n (accB s i v0 (n - 1))) → kr [.str s, .int .i64 (i : Int), .int .i64 0, .int .i64 0, x6, x7, x8, x9, x14, x18, x27, x36, x50, x53, x62, x98] H)
    (hg : ∀ (x6 x7 x8 x9 x14 x18 x27 x36 x50 x53 x62 x98 : AV), (i + n ≤ s.length ∧ (∀ j, 1 ≤ j → j < n → byt s (i + j) / 64 = 2) ∧ rngB n (accB s i v0 (n - 1))) → kr [.str s, .int .i64 (i : Int), .int .i64 (accB s i v0 (n - 1) : Int), .int .i64 (n : Int), x6, x7, x8, x9, x14, x18, x27, x36, x50, x53, x62, x98] H)
    (hi : i < s.length) (x4 x5 x9 x14 x18 x27 x36 x50 x53 x62 x98 : AV) :
    r75_12 (qCd (sel 12) (fun _ => (r75_13 kr)) (fun k7 => k7) (r75_14 (qBl (fun k2 => (qLoop (l75_6 k2 kr))) (r75_20 (qCd (sel 15) (fun _ => (r75_21 kr)) (fun k1 => k1) (r75_22 kr)))))) [.str s, .int .i64 (i : Int), x4, x5, c, .int .i64 (n : Int), .int .i64 (v0 : Int), x9, x14, x18, x27, x36, x50, x53, x62, x98] H := by
  have hw : IntKind.i64.wrap ((i : Int) + (n : Int)) = ((i + n : Nat) : Int) := by rw [i64_in' (by omega)]; omega
  by_cases h1 : s.length < i + n
  · have c1 : (((i + n : Nat) : Int) > (s.length : Int)) := by omega
    simp -implicitDefEqProofs only [r75_12, r75_13, opn_z, opn_s, sel_z, sel_s, qCd_eq, qIf_true, qBl_eq, qGtr_int, qAdd_int, qLenS_str, hw, c1, decide_true]
    exact hz _ _ _ _ _ _ _ _ _ _ _ _ fun h => by omega
  have c1 : ¬ (((i + n : Nat) : Int) > (s.length : Int)) := by omega
  simp -implicitDefEqProofs only [r75_12, r75_14, opn_z, opn_s, sel_z, sel_s, qCd_eq, qIf_false, qBl_eq, qGtr_int, qAdd_int, qLenS_str, hw, c1, decide_false]
  refine rune_loop s hl i n v0 h0 (by omega) (by omega) kr _ H c (fun x6 x7 x8 x9 x14 x18 x27 x36 x50 x53 x62 x98 hb => ?_) (fun x4 x5 x9 x14 x18 x27 x36 x50 x53 x62 x98 hA => ?_) _ _ _ _ _ _ _ _ _ _
  · obtain ⟨j, g1, g2, g3⟩ := hb
    (first | exact hz _ _ _ _ _ _ _ _ _ _ _ _ (fun h => g3 (h.2.1 j g1 g2)) | (apply hz <;> first | exact (fun h => g3 (h.2.1 j g1 g2)) | exact Aes.undef))
  · have hal := accB_lt s i v0 h0 (n - 1) (by omega)
    have hz' := fun (x6 x7 x8 x9 x14 x18 x27 x36 x50 x53 x62 x98 : AV) (h : ¬ rngB n (accB s i v0 (n - 1))) => hz x6 x7 x8 x9 x14 x18 x27 x36 x50 x53 x62 x98 (fun g => h g.2.2)
    have hg' := fun (x6 x7 x8 x9 x14 x18 x27 x36 x50 x53 x62 x98 : AV) (h : rngB n (accB s i v0 (n - 1))) => hg x6 x7 x8 x9 x14 x18 x27 x36 x50 x53 x62 x98 ⟨by omega, hA, h⟩
    clear hz hg hA
    generalize accB s i v0 (n - 1) = a at *
    have hal2 : n = 2 → a < 2048 := fun e => by rw [e] at hal; simpa using hal
    clear hal
    exact rune_end s i n a hn hal2 kr H c hz' hg' _ _ _ _ _ _ _ _ _ _ _
theorem run1_bad {s : Str} {i : Nat} (h : Lib.decodeL (s.drop i) = (65533, 1)) : run1 (s.drop i) = (0, 0) := by
  unfold run1
  rw [if_pos ⟨by rw [h], by rw [h]⟩]
theorem run1_ok {s : Str} {i a n : Nat} (h : Lib.decodeL (s.drop i) = (a, n)) (hn : n ≠ 1 ∨ a < 65533) : run1 (s.drop i) = (a, n) := by
  unfold run1
  rw [if_neg, h]
  rintro ⟨h1, h2⟩
  rw [h] at h1 h2
  simp only at h1 h2
  omega
open Classical in
theorem lead_two (s : Str) (i : Nat) (hi : i < s.length) (hc : 194 ≤ byt s i ∧ byt s i ≤ 223) :
    run1 (s.drop i) = if (i + 2 ≤ s.length ∧ (∀ j, 1 ≤ j → j < 2 → byt s (i + j) / 64 = 2) ∧ rngB 2 (accB s i (byt s i % 32) (2 - 1))) then (accB s i (byt s i % 32) (2 - 1), 2) else (0, 0) := by
  have hN := run1_N s i hi
  have ha : accB s i (byt s i % 32) (2 - 1) = byt s i % 32 * 64 + byt s (i + 1) % 64 := rfl
  rw [ha]
  have hx : (∀ j, 1 ≤ j → j < 2 → byt s (i + j) / 64 = 2) ↔ byt s (i + 1) / 64 = 2 := ⟨fun h => h 1 (by omega) (by omega), fun h j g1 g2 => by
    have : j = 1 := by omega
    subst this
    exact h⟩
  rw [hx]
  unfold Lib.decodeN at hN
  rw [if_neg (by omega)] at hN
  unfold rngB
  generalize byt s i = b0 at *
  generalize byt s (i + 1) = b1 at *
  generalize byt s (i + 2) = b2 at *
  generalize byt s (i + 3) = b3 at *
  by_cases h1 : i + 2 ≤ s.length ∧ b1 / 64 = 2
  · rw [if_pos (by omega), if_pos (by omega)] at hN
    rw [if_pos (by omega)]
    exact run1_ok hN (.inl (by omega))
  · rw [if_neg (by omega), if_neg (by omega), if_neg (by omega)] at hN
    rw [if_neg (by omega)]
    exact run1_bad hN
open Classical in
theorem lead_three (s : Str) (i : Nat) (hi : i < s.length) (hc : 224 ≤ byt s i ∧ byt s i ≤ 239) :
    run1 (s.drop i) = if (i + 3 ≤ s.length ∧ (∀ j, 1 ≤ j → j < 3 → byt s (i + j) / 64 = 2) ∧ rngB 3 (accB s i (byt s i % 16) (3 - 1))) then (accB s i (byt s i % 16) (3 - 1), 3) else (0, 0) := by
  have hN := run1_N s i hi
  have ha : accB s i (byt s i % 16) (3 - 1) = (byt s i % 16 * 64 + byt s (i + 1) % 64) * 64 + byt s (i + 2) % 64 := rfl
  rw [ha]
  have hx : (∀ j, 1 ≤ j → j < 3 → byt s (i + j) / 64 = 2) ↔ (byt s (i + 1) / 64 = 2 ∧ byt s (i + 2) / 64 = 2) := ⟨fun h => ⟨h 1 (by omega) (by omega), h 2 (by omega) (by omega)⟩, fun h j g1 g2 => by
    have : j = 1 ∨ j = 2 := by omega
    rcases this with rfl | rfl
    · exact h.1
    · exact h.2⟩
  rw [hx]
  unfold Lib.decodeN at hN
  rw [if_neg (by omega), if_neg (by omega)] at hN
  unfold rngB
  generalize byt s i = b0 at *
  generalize byt s (i + 1) = b1 at *
  generalize byt s (i + 2) = b2 at *
  generalize byt s (i + 3) = b3 at *
  by_cases h1 : i + 3 ≤ s.length ∧ b1 / 64 = 2 ∧ b2 / 64 = 2
  · rw [if_pos (by omega)] at hN
    have hv : b0 % 16 * 4096 + b1 % 64 * 64 + b2 % 64 = (b0 % 16 * 64 + b1 % 64) * 64 + b2 % 64 := by omega
    rw [hv] at hN
    generalize (b0 % 16 * 64 + b1 % 64) * 64 + b2 % 64 = v at *
    by_cases h2 : 2048 ≤ v ∧ ¬ (55296 ≤ v ∧ v ≤ 57343)
    · by_cases h3 : v ≤ 1114111
      · rw [if_pos (by omega)] at hN
        rw [if_pos (by omega)]
        exact run1_ok hN (.inl (by omega))
      · omega
    · rw [if_neg (by omega)] at hN
      rw [if_neg (by omega)]
      exact run1_bad hN
  · rw [if_neg (by omega), if_neg (by omega)] at hN
    rw [if_neg (by omega)]
    exact run1_bad hN
open Classical in
theorem lead_four (s : Str) (i : Nat) (hi : i < s.length) (hc : 240 ≤ byt s i ∧ byt s i ≤ 244) :
    run1 (s.drop i) = if (i + 4 ≤ s.length ∧ (∀ j, 1 ≤ j → j < 4 → byt s (i + j) / 64 = 2) ∧ rngB 4 (accB s i (byt s i % 8) (4 - 1))) then (accB s i (byt s i % 8) (4 - 1), 4) else (0, 0) := by
  have hN := run1_N s i hi
  have ha : accB s i (byt s i % 8) (4 - 1) = ((byt s i % 8 * 64 + byt s (i + 1) % 64) * 64 + byt s (i + 2) % 64) * 64 + byt s (i + 3) % 64 := rfl
  rw [ha]
  have hx : (∀ j, 1 ≤ j → j < 4 → byt s (i + j) / 64 = 2) ↔ (byt s (i + 1) / 64 = 2 ∧ byt s (i + 2) / 64 = 2 ∧ byt s (i + 3) / 64 = 2) := ⟨fun h => ⟨h 1 (by omega) (by omega), h 2 (by omega) (by omega), h 3 (by omega) (by omega)⟩, fun h j g1 g2 => by
    have : j = 1 ∨ j = 2 ∨ j = 3 := by omega
    rcases this with rfl | rfl | rfl
    · exact h.1
    · exact h.2.1
    · exact h.2.2⟩
  rw [hx]
  unfold Lib.decodeN at hN
  rw [if_neg (by omega), if_neg (by omega), if_neg (by omega)] at hN
  unfold rngB
  generalize byt s i = b0 at *
  generalize byt s (i + 1) = b1 at *
  generalize byt s (i + 2) = b2 at *
  generalize byt s (i + 3) = b3 at *
  by_cases h1 : i + 4 ≤ s.length ∧ b1 / 64 = 2 ∧ b2 / 64 = 2 ∧ b3 / 64 = 2
  · rw [if_pos (by omega)] at hN
    have hv : b0 % 8 * 262144 + b1 % 64 * 4096 + b2 % 64 * 64 + b3 % 64 = ((b0 % 8 * 64 + b1 % 64) * 64 + b2 % 64) * 64 + b3 % 64 := by omega
    rw [hv] at hN
    generalize ((b0 % 8 * 64 + b1 % 64) * 64 + b2 % 64) * 64 + b3 % 64 = v at *
    by_cases h2 : 65536 ≤ v ∧ v ≤ 1114111
    · rw [if_pos (by omega)] at hN
      rw [if_pos (by omega)]
      exact run1_ok hN (.inl (by omega))
    · rw [if_neg (by omega)] at hN
      rw [if_neg (by omega)]
      exact run1_bad hN
  · rw [if_neg (by omega)] at hN
    rw [if_neg (by omega)]
    exact run1_bad hN
theorem lead_none (s : Str) (i : Nat) (hi : i < s.length) (h0 : 128 ≤ byt s i) (h1 : ¬ (194 ≤ byt s i ∧ byt s i ≤ 244)) (hb : byt s i < 256) : run1 (s.drop i) = (0, 0) := by
  have hN := run1_N s i hi
  unfold Lib.decodeN at hN
  rw [if_neg (by omega)] at hN
  generalize byt s i = b0 at *
  generalize byt s (i + 1) = b1 at *
  generalize byt s (i + 2) = b2 at *
  generalize byt s (i + 3) = b3 at *
  refine run1_bad ?_
  by_cases h2 : b0 / 32 = 6 ∧ (1 < s.length - i ∧ b1 / 64 = 2)
  · rw [if_pos h2, if_neg (by omega)] at hN
    exact hN
  rw [if_neg h2, if_neg (by omega)] at hN
  by_cases h3 : b0 / 8 = 30 ∧ (1 < s.length - i ∧ b1 / 64 = 2) ∧ (2 < s.length - i ∧ b2 / 64 = 2) ∧ (3 < s.length - i ∧ b3 / 64 = 2)
  · rw [if_pos h3, if_neg (by omega)] at hN
    exact hN
  · rw [if_neg h3] at hN
    exact hN
end T
set_option linter.unusedVariables false
set_option linter.unusedSimpArgs false
set_option maxRecDepth 10000
namespace T
open Go Go.Aes Go.Proofs
theorem u8_i64 (c : UInt8) : IntKind.i64.wrap ((c.toNat : Nat) : Int) = ((c.toNat : Nat) : Int) := by
  have := c.toNat_lt
  exact i64_in' (by omega)
open Classical in
set_option maxHeartbeats 1000000 in
theorem ep58 (s : Str) (hl : s.length < 9000000000000000000) (i : Nat) (hi : i < s.length) (H : AH) :
    EP 75 [.str s, .int .i64 (i : Int)] H = some (.val (.tup [.int .i64 ((run1 (s.drop i)).1 : Int), .int .i64 ((run1 (s.drop i)).2 : Int)]) H) := by
  refine uo_form (X := X) (D := OD2) (O := OF2) (S := PS) (al := [.str s, .int .i64 (i : Int)]) e75 xf75 rfl rfl rfl rfl ?_ H
  simp only [AV.kills, AV.kill]
  obtain ⟨d, hd, hb⟩ := byt_at hi
  have hdl := d.toNat_lt
  have ix := fun k => qIx_at s i d hd k
  have wc := u8_i64 d
  by_cases h1 : d.toNat < 128
  · have c1 : ((d.toNat : Nat) : Int) < 128 := by omega
    have hr : run1 (s.drop i) = (d.toNat, 1) := by
      refine run1_ok ?_ (.inr (by omega))
      rw [run1_N s i hi, hb]
      unfold Lib.decodeN
      rw [if_pos h1]
    rw [hr]
    simp -implicitDefEqProofs only [c75, r75_0, r75_1, r75_2, r75_4, r75_5, opn_z, opn_s, sel_z, sel_s, qCd_eq, qIf_true, qFn_eq, qBl_eq, qLss_int, qConvI_int, AV.kill, AV.kills, ix, wc, c1, decide_true]
    rfl
  have c1 : ¬ ((d.toNat : Nat) : Int) < 128 := by omega
  have fin : ∀ (n v0 : Nat) (P : Prop) (inst : Decidable P), (run1 (s.drop i) = @ite _ P inst (accB s i v0 (n - 1), n) (0, 0)) → (P ↔ (i + n ≤ s.length ∧ (∀ j, 1 ≤ j → j < n → byt s (i + j) / 64 = 2) ∧ rngB n (accB s i v0 (n - 1)))) → v0 < 32 → (n = 2 ∨ n = 3 ∨ n = 4) →
      ∀ (x4 x5 x9 x14 x18 x27 x36 x50 x53 x62 x98 : AV) (H : AH), r75_12 (qCd (sel 12) (fun _ => (r75_13 (fun fr (_ : AH) => (AV.tup [sel 2 fr, sel 3 fr]).kill = .tup [.int .i64 ((run1 (s.drop i)).1 : Int), .int .i64 ((run1 (s.drop i)).2 : Int)]))) (fun k7 => k7) (r75_14 (qBl (fun k2 => (qLoop (l75_6 k2 (fun fr (_ : AH) => (AV.tup [sel 2 fr, sel 3 fr]).kill = .tup [.int .i64 ((run1 (s.drop i)).1 : Int), .int .i64 ((run1 (s.drop i)).2 : Int)])))) (r75_20 (qCd (sel 15) (fun _ => (r75_21 (fun fr (_ : AH) => (AV.tup [sel 2 fr, sel 3 fr]).kill = .tup [.int .i64 ((run1 (s.drop i)).1 : Int), .int .i64 ((run1 (s.drop i)).2 : Int)]))) (fun k1 => k1) (r75_22 (fun fr (_ : AH) => (AV.tup [sel 2 fr, sel 3 fr]).kill = .tup [.int .i64 ((run1 (s.drop i)).1 : Int), .int .i64 ((run1 (s.drop i)).2 : Int)]))))))) [.str s, .int .i64 (i : Int), x4, x5, .int .i64 ((d.toNat : Nat) : Int), .int .i64 (n : Int), .int .i64 (v0 : Int), x9, x14, x18, x27, x36, x50, x53, x62, x98] H := by
    intro n v0 P inst hrun hP h0 hn x4 x5 x9 x14 x18 x27 x36 x50 x53 x62 x98 H
    refine rune_tail s hl i n v0 h0 hn _ H _ (fun x6 x7 x8 x9 x14 x18 x27 x36 x50 x53 x62 x98 h => ?_) (fun x6 x7 x8 x9 x14 x18 x27 x36 x50 x53 x62 x98 h => ?_) hi _ _ _ _ _ _ _ _ _ _ _
    · rw [hrun, if_neg (fun g => h (hP.1 g))]
      rfl
    · rw [hrun, if_pos (hP.2 h)]
      rfl
  by_cases h2 : 194 ≤ d.toNat
  · have c2 : ((d.toNat : Nat) : Int) ≥ 194 := by omega
    by_cases h3 : d.toNat ≤ 223
    · have c1003 : ((d.toNat : Nat) : Int) ≤ 223 := by omega
      have hrun := lead_two s i hi (by omega)
      rw [hb] at hrun
      have an : binop X .and 3 (.int .i64 (d.toNat : Int)) (.int .i64 31) = some (.int .i64 ((d.toNat % 32 : Nat) : Int)) := and_i64 d.toNat 31 (by omega) 5 rfl (by omega)
      simp -implicitDefEqProofs only [c75, r75_0, r75_1, r75_2, r75_4, r75_6, r75_7, opn_z, opn_s, sel_z, sel_s, qCd_eq, qIf_true, qIf_false, qFn_eq, qBl_eq, qO_some, qPick_true, qG_tt, qLss_int, qLeq_int, qGeq_int, qConvI_int, ix, wc, c1, c2, c1003, decide_true, decide_false, an]
      exact fin 2 (d.toNat % 32) _ _ hrun Iff.rfl (by omega) (by omega) _ _ _ _ _ _ _ _ _ _ _ _
    have c1003 : ¬ ((d.toNat : Nat) : Int) ≤ 223 := by omega
    have c1004 : ((d.toNat : Nat) : Int) ≥ 224 := by omega
    by_cases h5 : d.toNat ≤ 239
    · have c1005 : ((d.toNat : Nat) : Int) ≤ 239 := by omega
      have hrun := lead_three s i hi (by omega)
      rw [hb] at hrun
      have an : binop X .and 3 (.int .i64 (d.toNat : Int)) (.int .i64 15) = some (.int .i64 ((d.toNat % 16 : Nat) : Int)) := and_i64 d.toNat 15 (by omega) 4 rfl (by omega)
      simp -implicitDefEqProofs only [c75, r75_0, r75_1, r75_2, r75_4, r75_6, r75_8, r75_9, opn_z, opn_s, sel_z, sel_s, qCd_eq, qIf_true, qIf_false, qFn_eq, qBl_eq, qO_some, qPick_true, qG_tt, qLss_int, qLeq_int, qGeq_int, qConvI_int, ix, wc, c1, c2, c1003, c1004, c1005, decide_true, decide_false, an]
      exact fin 3 (d.toNat % 16) _ _ hrun Iff.rfl (by omega) (by omega) _ _ _ _ _ _ _ _ _ _ _ _
    have c1005 : ¬ ((d.toNat : Nat) : Int) ≤ 239 := by omega
    have c1006 : ((d.toNat : Nat) : Int) ≥ 240 := by omega
    by_cases h7 : d.toNat ≤ 244
    · have c1007 : ((d.toNat : Nat) : Int) ≤ 244 := by omega
      have hrun := lead_four s i hi (by omega)
      rw [hb] at hrun
      have an : binop X .and 3 (.int .i64 (d.toNat : Int)) (.int .i64 7) = some (.int .i64 ((d.toNat % 8 : Nat) : Int)) := and_i64 d.toNat 7 (by omega) 3 rfl (by omega)
      simp -implicitDefEqProofs only [c75, r75_0, r75_1, r75_2, r75_4, r75_6, r75_8, r75_10, r75_11, opn_z, opn_s, sel_z, sel_s, qCd_eq, qIf_true, qIf_false, qFn_eq, qBl_eq, qO_some, qPick_true, qG_tt, qLss_int, qLeq_int, qGeq_int, qConvI_int, ix, wc, c1, c2, c1003, c1004, c1005, c1006, c1007, decide_true, decide_false, an]
      exact fin 4 (d.toNat % 8) _ _ hrun Iff.rfl (by omega) (by omega) _ _ _ _ _ _ _ _ _ _ _ _
    · have c1007 : ¬ ((d.toNat : Nat) : Int) ≤ 244 := by omega
      rw [lead_none s i hi (by omega) (by omega) (by omega)]
      simp -implicitDefEqProofs only [c75, r75_0, r75_1, r75_2, r75_4, r75_6, r75_8, r75_10, r75_3, opn_z, opn_s, sel_z, sel_s, qCd_eq, qIf_false, qFn_eq, qBl_eq, qPick_true, qG_tt, qLss_int, qLeq_int, qGeq_int, qConvI_int, AV.kill, AV.kills, ix, wc, c1, c2, c1003, c1004, c1005, c1006, c1007, decide_true, decide_false]
      rfl
  · have c2 : ¬ ((d.toNat : Nat) : Int) ≥ 194 := by omega
    have c1004 : ¬ ((d.toNat : Nat) : Int) ≥ 224 := by omega
    have c1006 : ¬ ((d.toNat : Nat) : Int) ≥ 240 := by omega
    rw [lead_none s i hi (by omega) (by omega) (by omega)]
    simp -implicitDefEqProofs only [c75, r75_0, r75_1, r75_2, r75_4, r75_6, r75_8, r75_10, r75_3, opn_z, opn_s, sel_z, sel_s, qCd_eq, qIf_false, qFn_eq, qBl_eq, qPick_false, qG_ft, qLss_int, qGeq_int, qConvI_int, AV.kill, AV.kills, ix, wc, c1, c2, c1004, c1006, decide_false]
    rfl
theorem ep35 (s : Str) (hl : s.length < 9000000000000000000) (H : AH) : EP 57 [.str s] H = some (.val (.bool (Lib.validD s)) H) := by
  refine uo_form (X := X) (D := OD2) (O := OF2) (S := PS) (al := [.str s]) e57 xf57 rfl rfl rfl rfl ?_ H
  simp -implicitDefEqProofs only [AV.kills, AV.kill, c57, r57_0, r57_1, opn_z, opn_s, qFn_eq, qBl_eq]
  refine loop_inv (fun m fr H' => ∃ (i : Nat) (x2 x5 x9 x17 : AV), m = s.length - i ∧ i ≤ s.length ∧ fr = [.str s, x2, .int .i64 (i : Int), x5, x9, x17] ∧ Lib.validD s = Lib.validD (s.drop i)) ?_ (m := s.length) ?_
  case refine_2 => exact ⟨0, _, _, _, _, rfl, by omega, rfl, rfl⟩
  rintro m fr H' k ⟨i, x2, x5, x9, x17, rfl, hi, rfl, hV⟩ hk
  rcases Nat.lt_or_ge i s.length with h | h
  · have h' : (i : Int) < (s.length : Int) := by omega
    have e75 := fun H => ep58 s hl i h H
    have hne : s.drop i ≠ [] := by
      intro e
      have := congrArg List.length e
      rw [List.length_drop] at this
      simp at this
      omega
    rw [vstep _ hne] at hV
    by_cases hb : Bad (s.drop i)
    · have hr : run1 (s.drop i) = (0, 0) := if_pos hb
      rw [hr] at e75
      rw [if_pos hb] at hV
      have z0 : (((0 : Nat) : Int) == 0) = true := by decide
      simp -implicitDefEqProofs only [l57_5, r57_2, r57_3, r57_4, r57_5, opn_z, opn_s, sel_z, sel_s, qCd_eq, qIf_true, qBl_eq, qO_some, qRes_val, qExt_tup, qLss_int, qEql_int, qLenS_str, List.getElem?_cons_zero, List.getElem?_cons_succ, AV.kill, h', decide_true, e75, z0]
      rw [hV]
    · have hr : run1 (s.drop i) = Lib.decodeL (s.drop i) := if_neg hb
      rw [hr] at e75
      rw [if_neg hb] at hV
      have hw1 := Lib.decodeL_width (s.drop i)
      have hw2 := Lib.decodeL_le (s.drop i) hne
      rw [List.length_drop] at hw2
      rw [List.drop_drop] at hV
      generalize Lib.decodeL (s.drop i) = dd at *
      have z0 : (((dd.2 : Nat) : Int) == 0) = false := by simp; omega
      have hw : IntKind.i64.wrap ((i : Int) + (dd.2 : Int)) = ((i + dd.2 : Nat) : Int) := by rw [i64_in' (by omega)]; omega
      simp -implicitDefEqProofs only [l57_5, r57_2, r57_3, r57_4, r57_6, opn_z, opn_s, sel_z, sel_s, qCd_eq, qIf_true, qIf_false, qBl_eq, qO_some, qRes_val, qExt_tup, qLss_int, qEql_int, qAdd_int, qLenS_str, List.getElem?_cons_zero, List.getElem?_cons_succ, h', decide_true, e75, z0, hw]
      exact hk (s.length - (i + dd.2)) _ _ (by omega) ⟨i + dd.2, _, _, _, _, rfl, by omega, rfl, hV⟩
  · have h' : ¬ (i : Int) < (s.length : Int) := by omega
    simp -implicitDefEqProofs only [l57_5, r57_2, r57_7, opn_z, opn_s, sel_z, sel_s, qCd_eq, qIf_false, qBl_eq, qLss_int, qLenS_str, AV.kill, h', decide_false]
    rw [hV, List.drop_of_length_le h]
    rfl
end T
set_option linter.unusedVariables false
set_option linter.unusedSimpArgs false
set_option maxRecDepth 10000
namespace T
open Go Go.Aes Go.Proofs
theorem eqU (c d : UInt8) : (((c.toNat : Nat) : Int) == ((d.toNat : Nat) : Int)) = decide (c = d) := by
  rw [beq_nat, Bool.eq_iff_iff, decide_eq_true_eq, decide_eq_true_eq, UInt8.toNat_inj]
theorem slc_one {s : Str} {i : Nat} {c : UInt8} (h : s[i]? = some c) (k : AV → Prop) : qSlc Tryz.t9.desc 0 (.str s) (some (.int .i64 (i : Int))) (some (.int .i64 ((i + 1 : Nat) : Int))) none k = k (.str [c]) := by
  have hl := (List.getElem?_eq_some_iff.1 h).1
  rw [slcS_mid s i (i + 1) (by omega) (by omega)]
  congr 2
  rw [List.drop_take, show i + 1 - i = 1 by omega, List.drop_eq_getElem_cons hl]
  have := List.getElem?_eq_getElem hl
  rw [h] at this
  injection this with this
  rw [← this]
  rfl
end T
set_option linter.unusedVariables false
set_option linter.unusedSimpArgs false
set_option maxRecDepth 10000
namespace T
open Go Go.Aes Go.Proofs
theorem at_pos (s : Str) (i : Nat) (h : i ≤ s.length) : (i = s.length ∧ s.drop i = []) ∨ ∃ c, s[i]? = some c ∧ i < s.length ∧ s.drop i = c :: s.drop (i + 1) := by
  rcases Nat.lt_or_ge i s.length with h1 | h1
  · refine .inr ⟨s[i], List.getElem?_eq_getElem h1, h1, List.drop_eq_getElem_cons h1⟩
  · exact .inl ⟨by omega, List.drop_of_length_le h1⟩
theorem digB_isD (c : UInt8) : digB c = isD c := by
  have key : ∀ x : Fin 256, digB (UInt8.ofNat x.val) = isD (UInt8.ofNat x.val) := by decide +kernel
  have := key ⟨c.toNat, c.toNat_lt⟩
  simpa using this
theorem ep44 (s : Str) (hl : s.length < 1000000000000) (i : Nat) (hi : i ≤ s.length) (H : AH) : EP 40 [.str s, .int .i64 (i : Int)] H = some (.val (.int .i64 (dg (s.drop i) : Int)) H) := by
  refine uo_form (X := X) (D := OD2) (O := OF2) (S := PS) (al := [.str s, .int .i64 (i : Int)]) e40 xf40 rfl rfl rfl rfl ?_ H
  simp -implicitDefEqProofs only [AV.kills, AV.kill, c40, r40_0, r40_1, opn_z, opn_s, qFn_eq, qBl_eq]
  refine loop_inv (fun m fr H' => ∃ (n : Nat) (x4 x19 : AV), m = s.length - (i + n) ∧ i + n ≤ s.length ∧ fr = [.str s, .int .i64 (i : Int), x4, .int .i64 (n : Int), x19] ∧ dg (s.drop i) = n + dg (s.drop (i + n))) ?_ (m := s.length - i) ?_
  case refine_2 => exact ⟨0, _, _, by omega, by omega, rfl, by simp⟩
  rintro m fr H' k ⟨n, x4, x19, rfl, hn, rfl, hD⟩ hk
  have hw : IntKind.i64.wrap ((i : Int) + (n : Int)) = ((i + n : Nat) : Int) := by rw [i64_in' (by omega)]; omega
  rcases at_pos s (i + n) hn with ⟨h1, h2⟩ | ⟨c, hc, h1, h2⟩
  · have c1 : ¬ (((i + n : Nat) : Int) < (s.length : Int)) := by omega
    rw [h2] at hD
    simp -implicitDefEqProofs only [l40_4, r40_2, r40_4, opn_z, opn_s, sel_z, sel_s, qCd_eq, qIf_false, qBl_eq, qPick_false, qG_ft, qLss_int, qAdd_int, qLenS_str, AV.kill, hw, c1, decide_false]
    rw [hD]
    rfl
  · have c1 : (((i + n : Nat) : Int) < (s.length : Int)) := by omega
    have ix := fun k => qIx_at s _ c hc k
    have e24 := fun H => ep60 c H
    rw [h2, dg_cons, ← digB_isD] at hD
    cases hd : digB c with
    | true =>
      rw [hd] at e24 hD
      have hwn := wrap_up n (by omega)
      simp -implicitDefEqProofs only [l40_4, r40_2, r40_3, opn_z, opn_s, sel_z, sel_s, qCd_eq, qIf_true, qBl_eq, qRes_val, qPick_true, qG_tt, qLss_int, qAdd_int, qLenS_str, hw, c1, decide_true, ix, e24, hwn]
      refine hk (s.length - (i + (n + 1))) _ _ (by omega) ⟨n + 1, _, _, rfl, by omega, rfl, ?_⟩
      rw [hD, if_pos rfl, show i + (n + 1) = i + n + 1 by omega]
      omega
    | false =>
      rw [hd] at e24 hD
      simp -implicitDefEqProofs only [l40_4, r40_2, r40_4, opn_z, opn_s, sel_z, sel_s, qCd_eq, qIf_false, qBl_eq, qRes_val, qPick_true, qG_tt, qLss_int, qAdd_int, qLenS_str, AV.kill, hw, c1, decide_true, ix, e24]
      rw [hD]
      rfl
section
variable (s : Str) (hl : s.length < 1000) (kr : KT Prop)
theorem n16_end (i : Nat) (hi : i ≤ s.length) (w : Bool) (H : AH)
    (hk : ∀ (x0 x4 x5 x6 x9 x19 x36 x49 x55 x75 x93 x100 x107 : AV), kr [x0, .bool (w && decide (s.drop i = [])), .bool (decide (s.drop i = [])), x4, x5, x6, x9, x19, x36, x49, x55, x75, x93, x100, x107] H) (x2 x3 x6 x9 x19 x36 x49 x55 x75 x93 x100 x107 : AV) :
    (r26_23 (qCd (sel 14) (fun _ => (r26_24 kr)) (fun k1 => k1) (r26_25 kr))) [.str s, x2, x3, .int .i64 (i : Int), .bool w, x6, x9, x19, x36, x49, x55, x75, x93, x100, x107] H := by
  rcases at_pos s i hi with ⟨h1, h2⟩ | ⟨c, hc, h1, h2⟩
  · have c1 : (((i : Nat) : Int) == (s.length : Int)) = true := by rw [beq_nat]; simp [h1]
    rw [h2] at hk
    simp -implicitDefEqProofs only [r26_23, r26_25, opn_z, opn_s, sel_z, sel_s, qCd_eq, qIf_false, qNeq_int, qLenS_str, c1, Bool.not_true]
    simpa using hk _ _ _ _ _ _ _ _ _ _ _ _ _
  · have c1 : (((i : Nat) : Int) == (s.length : Int)) = false := by rw [beq_nat]; simp; omega
    rw [h2] at hk
    simp -implicitDefEqProofs only [r26_23, r26_24, opn_z, opn_s, sel_z, sel_s, qCd_eq, qIf_true, qNeq_int, qLenS_str, c1, Bool.not_false]
    simpa using hk _ _ _ _ _ _ _ _ _ _ _ _ _
include hl in
theorem n16_exp (i : Nat) (hi : i ≤ s.length) (w : Bool) (H : AH)
    (hk : ∀ (x0 x4 x5 x6 x9 x19 x36 x49 x55 x75 x93 x100 x107 : AV), kr [x0, .bool (match expN (s.drop i) with | none => false | some s4 => (w && decide (s.drop i = [])) && decide (s4 = [])), .bool (match expN (s.drop i) with | none => false | some s4 => decide (s4 = [])), x4, x5, x6, x9, x19, x36, x49, x55, x75, x93, x100, x107] H) (x2 x3 x6 x9 x19 x36 x49 x55 x75 x93 x100 x107 : AV) :
    (r26_15 (qCd (sel 11) (fun k2 => (r26_16 (r26_17 (qCd (sel 12) (fun k4 => (r26_18 k4)) (fun k4 => k4) (r26_19 EP (r26_20 (qCd (sel 13) (fun _ => (r26_21 kr)) (fun k3 => k3) (r26_22 k2)))))))) (fun k2 => k2) (r26_23 (qCd (sel 14) (fun _ => (r26_24 kr)) (fun k1 => k1) (r26_25 kr))))) [.str s, x2, x3, .int .i64 (i : Int), .bool w, x6, x9, x19, x36, x49, x55, x75, x93, x100, x107] H := by
  rcases at_pos s i hi with ⟨h1, h2⟩ | ⟨c, hc, h1, h2⟩
  · have c1 : ¬ ((i : Int) < (s.length : Int)) := by omega
    simp -implicitDefEqProofs only [r26_15, opn_z, opn_s, sel_z, sel_s, qCd_eq, qIf_false, qPick_false, qG_ft, qLss_int, qLenS_str, qG_un, c1, decide_false]
    refine n16_end s kr i hi w H (fun x0 x4 x5 x6 x9 x19 x36 x49 x55 x75 x93 x100 x107 => ?_) _ _ _ _ _ _ _ _ _ _ _ _
    have := hk x0 x4 x5 x6 x9 x19 x36 x49 x55 x75 x93 x100 x107
    rw [h2] at this ⊢
    simpa [expN] using this
  have c1 : ((i : Int) < (s.length : Int)) := by omega
  have ix := fun k => qIx_at s _ c hc k
  have q101 : (((c.toNat : Nat) : Int) == 101) = decide (c = 101) := eqU c 101
  have q69 : (((c.toNat : Nat) : Int) == 69) = decide (c = 69) := eqU c 69
  cases he : ([101, 69] : Str).contains c with
  | false =>
    have hn1 : ¬ c = 101 := by rintro rfl; exact absurd he (by decide)
    have hn2 : ¬ c = 69 := by rintro rfl; exact absurd he (by decide)
    rw [decide_eq_false hn1] at q101
    rw [decide_eq_false hn2] at q69
    simp -implicitDefEqProofs only [r26_15, opn_z, opn_s, sel_z, sel_s, qCd_eq, qIf_false, qPick_true, qPick_false, qG_tt, qG_ff, qLss_int, qEql_int, qLenS_str, c1, decide_true, ix, q101, q69]
    refine n16_end s kr i hi w H (fun x0 x4 x5 x6 x9 x19 x36 x49 x55 x75 x93 x100 x107 => ?_) _ _ _ _ _ _ _ _ _ _ _ _
    have := hk x0 x4 x5 x6 x9 x19 x36 x49 x55 x75 x93 x100 x107
    have hx : expN (s.drop i) = some (s.drop i) := by rw [h2]; show (if _ = true then _ else _) = _; rw [he]; rfl
    rw [hx] at this
    simp only at this
    rw [h2] at this ⊢
    simpa using this
  | true =>
    have hw1 := wrap_up i (by omega)
    have hx : expN (s.drop i) = if dg (sgnN (s.drop (i + 1))) = 0 then none else some ((sgnN (s.drop (i + 1))).drop (dg (sgnN (s.drop (i + 1))))) := by
      rw [h2]
      show (if _ = true then _ else _) = _
      rw [if_pos he]
    have hne : decide (s.drop i = []) = false := by rw [h2]; rfl
    rw [hx, hne] at hk
    have mid : ∀ (j : Nat) (_ : j ≤ s.length) (_ : sgnN (s.drop (i + 1)) = s.drop j) (x2 x3 x6 x9 x19 x36 x49 x55 x75 x93 x100 x107 : AV),
        (r26_19 EP (r26_20 (qCd (sel 13) (fun _ => (r26_21 kr)) (fun k3 => k3) (r26_22 (r26_23 (qCd (sel 14) (fun _ => (r26_24 kr)) (fun k1 => k1) (r26_25 kr))))))) [.str s, x2, x3, .int .i64 (j : Int), .bool w, x6, x9, x19, x36, x49, x55, x75, x93, x100, x107] H := by
      intro j hj hs x2 x3 x6 x9 x19 x36 x49 x55 x75 x93 x100 x107
      rw [hs] at hk
      have e40 := fun H => ep44 s (by omega) j hj H
      have hdl := dg_le (s.drop j)
      rw [List.length_drop] at hdl
      by_cases hz : dg (s.drop j) = 0
      · have h0 : (((dg (s.drop j) : Nat) : Int) == 0) = true := by simp [hz]
        rw [if_pos hz] at hk
        simp -implicitDefEqProofs only [r26_19, r26_20, r26_21, opn_z, opn_s, sel_z, sel_s, qCd_eq, qIf_true, qRes_val, qEql_int, e40, h0]
        exact hk _ _ _ _ _ _ _ _ _ _ _ _ _
      · have h0 : (((dg (s.drop j) : Nat) : Int) == 0) = false := by simp [hz]
        rw [if_neg hz] at hk
        have hw2 : IntKind.i64.wrap ((j : Int) + (dg (s.drop j) : Int)) = ((j + dg (s.drop j) : Nat) : Int) := by rw [i64_in' (by omega)]; omega
        simp -implicitDefEqProofs only [r26_19, r26_20, r26_22, opn_z, opn_s, sel_z, sel_s, qCd_eq, qIf_false, qRes_val, qEql_int, qAdd_int, e40, h0, hw2]
        refine n16_end s kr (j + dg (s.drop j)) (by omega) false H (fun x0 x4 x5 x6 x9 x19 x36 x49 x55 x75 x93 x100 x107 => ?_) _ _ _ _ _ _ _ _ _ _ _ _
        have := hk x0 x4 x5 x6 x9 x19 x36 x49 x55 x75 x93 x100 x107
        simp only [List.drop_drop] at this
        simpa using this
    have sgn : ∀ (x2 x3 x6 x9 x19 x36 x49 x55 x75 x93 x100 x107 : AV), (r26_17 (qCd (sel 12) (fun k4 => (r26_18 k4)) (fun k4 => k4) (r26_19 EP (r26_20 (qCd (sel 13) (fun _ => (r26_21 kr)) (fun k3 => k3) (r26_22 (r26_23 (qCd (sel 14) (fun _ => (r26_24 kr)) (fun k1 => k1) (r26_25 kr))))))))) [.str s, x2, x3, .int .i64 ((i + 1 : Nat) : Int), .bool w, x6, x9, x19, x36, x49, x55, x75, x93, x100, x107] H := by
      intro x2 x3 x6 x9 x19 x36 x49 x55 x75 x93 x100 x107
      rcases at_pos s (i + 1) (by omega) with ⟨g1, g2⟩ | ⟨d, hd, g1, g2⟩
      · have c2 : ¬ (((i + 1 : Nat) : Int) < (s.length : Int)) := by omega
        simp -implicitDefEqProofs only [r26_17, opn_z, opn_s, sel_z, sel_s, qCd_eq, qIf_false, qPick_false, qG_ft, qLss_int, qLenS_str, qG_un, c2, decide_false]
        exact mid (i + 1) (by omega) (by rw [g2]; rfl) _ _ _ _ _ _ _ _ _ _ _ _
      · have c2 : (((i + 1 : Nat) : Int) < (s.length : Int)) := by omega
        have iy := fun k => qIx_at s _ d hd k
        have q43 : (((d.toNat : Nat) : Int) == 43) = decide (d = 43) := eqU d 43
        have q45 : (((d.toNat : Nat) : Int) == 45) = decide (d = 45) := eqU d 45
        have hw2 := wrap_up (i + 1) (by omega)
        by_cases g3 : d = 43
        · rw [decide_eq_true g3] at q43
          simp -implicitDefEqProofs only [r26_17, r26_18, opn_z, opn_s, sel_z, sel_s, qCd_eq, qIf_true, qPick_true, qG_tt, qG_tf, qLss_int, qEql_int, qAdd_int, qLenS_str, c2, decide_true, iy, q43, hw2]
          exact mid (i + 1 + 1) (by omega) (by rw [g2]; subst g3; rfl) _ _ _ _ _ _ _ _ _ _ _ _
        rw [decide_eq_false g3] at q43
        by_cases g4 : d = 45
        · rw [decide_eq_true g4] at q45
          simp -implicitDefEqProofs only [r26_17, r26_18, opn_z, opn_s, sel_z, sel_s, qCd_eq, qIf_true, qPick_true, qPick_false, qG_tt, qG_ff, qLss_int, qEql_int, qAdd_int, qLenS_str, c2, decide_true, iy, q43, q45, hw2]
          exact mid (i + 1 + 1) (by omega) (by rw [g2]; subst g4; rfl) _ _ _ _ _ _ _ _ _ _ _ _
        rw [decide_eq_false g4] at q45
        simp -implicitDefEqProofs only [r26_17, opn_z, opn_s, sel_z, sel_s, qCd_eq, qIf_false, qPick_true, qPick_false, qG_tt, qG_ff, qLss_int, qEql_int, qLenS_str, c2, decide_true, iy, q43, q45]
        refine mid (i + 1) (by omega) ?_ _ _ _ _ _ _ _ _ _ _ _ _
        rw [g2]
        show (if _ = true then _ else _) = _
        rw [if_neg]
        simp [g3, g4]
    have hc2 : c = 101 ∨ c = 69 := by simpa using he
    rcases hc2 with g | g
    · rw [decide_eq_true g] at q101
      simp -implicitDefEqProofs only [r26_15, r26_16, opn_z, opn_s, sel_z, sel_s, qCd_eq, qIf_true, qPick_true, qG_tt, qG_tf, qLss_int, qEql_int, qAdd_int, qLenS_str, c1, decide_true, ix, q101, hw1]
      exact sgn _ _ _ _ _ _ _ _ _ _ _ _
    · have n101 : (((c.toNat : Nat) : Int) == 101) = false := by rw [q101]; subst g; rfl
      rw [decide_eq_true g] at q69
      simp -implicitDefEqProofs only [r26_15, r26_16, opn_z, opn_s, sel_z, sel_s, qCd_eq, qIf_true, qPick_true, qPick_false, qG_tt, qG_ff, qLss_int, qEql_int, qAdd_int, qLenS_str, c1, decide_true, ix, n101, q69, hw1]
      exact sgn _ _ _ _ _ _ _ _ _ _ _ _
end
section
variable (s : Str) (hl : s.length < 1000) (kr : KT Prop)
include hl in
theorem n16_frac (i : Nat) (hi : i ≤ s.length) (H : AH)
    (hk : ∀ (x0 x4 x5 x6 x9 x19 x36 x49 x55 x75 x93 x100 x107 : AV), kr [x0, .bool (match fracN (s.drop i) with | none => false | some s3 => match expN s3 with | none => false | some s4 => decide (s.drop i = []) && decide (s4 = [])), .bool (match fracN (s.drop i) with | none => false | some s3 => match expN s3 with | none => false | some s4 => decide (s4 = [])), x4, x5, x6, x9, x19, x36, x49, x55, x75, x93, x100, x107] H) (x2 x3 x6 x9 x19 x36 x49 x55 x75 x93 x100 x107 : AV) :
    (r26_10 (qCd (sel 9) (fun k5 => (r26_11 EP (r26_12 (qCd (sel 10) (fun _ => (r26_13 kr)) (fun k6 => k6) (r26_14 k5))))) (fun k5 => k5) (r26_15 (qCd (sel 11) (fun k2 => (r26_16 (r26_17 (qCd (sel 12) (fun k4 => (r26_18 k4)) (fun k4 => k4) (r26_19 EP (r26_20 (qCd (sel 13) (fun _ => (r26_21 kr)) (fun k3 => k3) (r26_22 k2)))))))) (fun k2 => k2) (r26_23 (qCd (sel 14) (fun _ => (r26_24 kr)) (fun k1 => k1) (r26_25 kr)))))))
      [.str s, x2, x3, .int .i64 (i : Int), .bool true, x6, x9, x19, x36, x49, x55, x75, x93, x100, x107] H := by
  rcases at_pos s i hi with ⟨h1, h2⟩ | ⟨c, hc, h1, h2⟩
  · have c1 : ¬ ((i : Int) < (s.length : Int)) := by omega
    simp -implicitDefEqProofs only [r26_10, opn_z, opn_s, sel_z, sel_s, qCd_eq, qIf_false, qPick_false, qG_ft, qLss_int, qLenS_str, c1, decide_false]
    refine n16_exp s hl kr i hi true H (fun x0 x4 x5 x6 x9 x19 x36 x49 x55 x75 x93 x100 x107 => ?_) _ _ _ _ _ _ _ _ _ _ _ _
    have := hk x0 x4 x5 x6 x9 x19 x36 x49 x55 x75 x93 x100 x107
    rw [h2] at this ⊢
    simpa [expN, fracN] using this
  have c1 : ((i : Int) < (s.length : Int)) := by omega
  have ix := fun k => qIx_at s _ c hc k
  have q46 : (((c.toNat : Nat) : Int) == 46) = decide (c = 46) := eqU c 46
  by_cases h46 : c = 46
  case neg =>
    rw [decide_eq_false h46] at q46
    simp -implicitDefEqProofs only [r26_10, opn_z, opn_s, sel_z, sel_s, qCd_eq, qIf_false, qPick_true, qG_tt, qLss_int, qEql_int, qLenS_str, c1, decide_true, ix, q46]
    refine n16_exp s hl kr i hi true H (fun x0 x4 x5 x6 x9 x19 x36 x49 x55 x75 x93 x100 x107 => ?_) _ _ _ _ _ _ _ _ _ _ _ _
    have := hk x0 x4 x5 x6 x9 x19 x36 x49 x55 x75 x93 x100 x107
    have hx : fracN (s.drop i) = some (s.drop i) := by rw [h2]; exact if_neg h46
    rw [hx] at this
    simpa using this
  rw [decide_eq_true h46] at q46
  have hw1 := wrap_up i (by omega)
  have e40 := fun H => ep44 s (by omega) (i + 1) (by omega) H
  have hdl := dg_le (s.drop (i + 1))
  rw [List.length_drop] at hdl
  have hx : fracN (s.drop i) = if dg (s.drop (i + 1)) = 0 then none else some ((s.drop (i + 1)).drop (dg (s.drop (i + 1)))) := by rw [h2]; exact if_pos h46
  have hne : decide (s.drop i = []) = false := by rw [h2]; rfl
  rw [hx, hne] at hk
  by_cases hz : dg (s.drop (i + 1)) = 0
  · have h0 : (((dg (s.drop (i + 1)) : Nat) : Int) == 0) = true := by simp [hz]
    rw [if_pos hz] at hk
    simp -implicitDefEqProofs only [r26_10, r26_11, r26_12, r26_13, opn_z, opn_s, sel_z, sel_s, qCd_eq, qIf_true, qRes_val, qPick_true, qG_tt, qLss_int, qEql_int, qAdd_int, qLenS_str, c1, decide_true, ix, q46, hw1, e40, h0]
    exact hk _ _ _ _ _ _ _ _ _ _ _ _ _
  · have h0 : (((dg (s.drop (i + 1)) : Nat) : Int) == 0) = false := by simp [hz]
    rw [if_neg hz] at hk
    have hw2 : IntKind.i64.wrap (((i + 1 : Nat) : Int) + (dg (s.drop (i + 1)) : Int)) = ((i + 1 + dg (s.drop (i + 1)) : Nat) : Int) := by rw [i64_in' (by omega)]; omega
    simp -implicitDefEqProofs only [r26_10, r26_11, r26_12, r26_14, opn_z, opn_s, sel_z, sel_s, qCd_eq, qIf_true, qIf_false, qRes_val, qPick_true, qG_tt, qLss_int, qEql_int, qAdd_int, qLenS_str, c1, decide_true, ix, q46, hw1, e40, h0, hw2]
    refine n16_exp s hl kr (i + 1 + dg (s.drop (i + 1))) (by omega) false H (fun x0 x4 x5 x6 x9 x19 x36 x49 x55 x75 x93 x100 x107 => ?_) _ _ _ _ _ _ _ _ _ _ _ _
    have := hk x0 x4 x5 x6 x9 x19 x36 x49 x55 x75 x93 x100 x107
    simp only [List.drop_drop] at this
    simpa using this
end
theorem ep16 (s : Str) (hl : s.length < 1000000000000) (H : AH) : EP 26 [.str s] H = some (.val (.tup [.bool (num s).1, .bool (num s).2]) H) := by
  refine uo_form (X := X) (D := OD2) (O := OF2) (S := PS) (al := [.str s]) e26 xf26 rfl rfl rfl rfl ?_ H
  simp only [AV.kills, AV.kill]
  by_cases h40 : 40 < s.length
  · have c1 : ((s.length : Int) > 40) := by omega
    simp -implicitDefEqProofs only [c26, r26_0, r26_1, r26_2, r26_3, opn_z, opn_s, sel_z, sel_s, qCd_eq, qIf_true, qFn_eq, qGtr_int, qLenS_str, AV.kill, AV.kills, c1, decide_true]
    simp [num, h40]
  have c1 : ¬ ((s.length : Int) > 40) := by omega
  have mid : ∀ (j : Nat) (_ : j ≤ s.length) (_ : cutP s [45] = s.drop j) (x2 x3 x6 x9 x19 x36 x49 x55 x75 x93 x100 x107 : AV) (H : AH),
      (r26_6 EP (r26_7 (qCd (sel 8) (fun _ => (r26_8 (fun fr (_ : AH) => (AV.tup [sel 1 fr, sel 2 fr]).kill = .tup [.bool (num s).1, .bool (num s).2]))) (fun k7 => k7) (r26_9 (r26_10 (qCd (sel 9) (fun k5 => (r26_11 EP (r26_12 (qCd (sel 10) (fun _ => (r26_13 (fun fr (_ : AH) => (AV.tup [sel 1 fr, sel 2 fr]).kill = .tup [.bool (num s).1, .bool (num s).2]))) (fun k6 => k6) (r26_14 k5))))) (fun k5 => k5) (r26_15 (qCd (sel 11) (fun k2 => (r26_16 (r26_17 (qCd (sel 12) (fun k4 => (r26_18 k4)) (fun k4 => k4) (r26_19 EP (r26_20 (qCd (sel 13) (fun _ => (r26_21 (fun fr (_ : AH) => (AV.tup [sel 1 fr, sel 2 fr]).kill = .tup [.bool (num s).1, .bool (num s).2]))) (fun k3 => k3) (r26_22 k2)))))))) (fun k2 => k2) (r26_23 (qCd (sel 14) (fun _ => (r26_24 (fun fr (_ : AH) => (AV.tup [sel 1 fr, sel 2 fr]).kill = .tup [.bool (num s).1, .bool (num s).2]))) (fun k1 => k1) (r26_25 (fun fr (_ : AH) => (AV.tup [sel 1 fr, sel 2 fr]).kill = .tup [.bool (num s).1, .bool (num s).2]))))))))))))
        [.str s, x2, x3, .int .i64 (j : Int), .bool true, x6, x9, x19, x36, x49, x55, x75, x93, x100, x107] H := by
    intro j hj hs x2 x3 x6 x9 x19 x36 x49 x55 x75 x93 x100 x107 H
    have e40 := fun H => ep44 s (by omega) j hj H
    have hdl := dg_le (s.drop j)
    rw [List.length_drop] at hdl
    have hnum : num s = if dg (s.drop j) = 0 ∨ (1 < dg (s.drop j) ∧ (s.drop j).head? = some 48) then (false, false) else
        match fracN ((s.drop j).drop (dg (s.drop j))) with
        | none => (false, false)
        | some s3 => match expN s3 with
          | none => (false, false)
          | some s4 => (decide ((s.drop j).drop (dg (s.drop j)) = []) && decide (s4 = []), decide (s4 = [])) := by
      unfold num
      rw [if_neg h40, hs]
      rfl
    by_cases hz : dg (s.drop j) = 0
    · have h0 : (((dg (s.drop j) : Nat) : Int) == 0) = true := by simp [hz]
      rw [if_pos (.inl hz)] at hnum
      rw [hnum]
      simp -implicitDefEqProofs only [r26_6, r26_7, r26_8, opn_z, opn_s, sel_z, sel_s, qCd_eq, qIf_true, qRes_val, qPick_true, qG_tf, qEql_int, qG_un, AV.kill, AV.kills, e40, h0]
    have h0 : (((dg (s.drop j) : Nat) : Int) == 0) = false := by simp [hz]
    have rest : (¬ (dg (s.drop j) = 0 ∨ (1 < dg (s.drop j) ∧ (s.drop j).head? = some 48))) → ∀ (x2 x3 x9 x19 x36 x49 x55 x75 x93 x100 x107 : AV) (H : AH),
        (r26_9 (r26_10 (qCd (sel 9) (fun k5 => (r26_11 EP (r26_12 (qCd (sel 10) (fun _ => (r26_13 (fun fr (_ : AH) => (AV.tup [sel 1 fr, sel 2 fr]).kill = .tup [.bool (num s).1, .bool (num s).2]))) (fun k6 => k6) (r26_14 k5))))) (fun k5 => k5) (r26_15 (qCd (sel 11) (fun k2 => (r26_16 (r26_17 (qCd (sel 12) (fun k4 => (r26_18 k4)) (fun k4 => k4) (r26_19 EP (r26_20 (qCd (sel 13) (fun _ => (r26_21 (fun fr (_ : AH) => (AV.tup [sel 1 fr, sel 2 fr]).kill = .tup [.bool (num s).1, .bool (num s).2]))) (fun k3 => k3) (r26_22 k2)))))))) (fun k2 => k2) (r26_23 (qCd (sel 14) (fun _ => (r26_24 (fun fr (_ : AH) => (AV.tup [sel 1 fr, sel 2 fr]).kill = .tup [.bool (num s).1, .bool (num s).2]))) (fun k1 => k1) (r26_25 (fun fr (_ : AH) => (AV.tup [sel 1 fr, sel 2 fr]).kill = .tup [.bool (num s).1, .bool (num s).2])))))))))
          [.str s, x2, x3, .int .i64 (j : Int), .bool true, .int .i64 (dg (s.drop j) : Int), x9, x19, x36, x49, x55, x75, x93, x100, x107] H := by
      intro hno x2 x3 x9 x19 x36 x49 x55 x75 x93 x100 x107 H
      rw [if_neg hno] at hnum
      have hw2 : IntKind.i64.wrap ((j : Int) + (dg (s.drop j) : Int)) = ((j + dg (s.drop j) : Nat) : Int) := by rw [i64_in' (by omega)]; omega
      simp -implicitDefEqProofs only [r26_9, opn_z, opn_s, qAdd_int, hw2]
      refine n16_frac s (by omega) _ (j + dg (s.drop j)) (by omega) H (fun x0 x4 x5 x6 x9 x19 x36 x49 x55 x75 x93 x100 x107 => ?_) _ _ _ _ _ _ _ _ _ _ _ _
      rw [hnum, List.drop_drop]
      cases fracN (s.drop (j + dg (s.drop j))) with
      | none => rfl
      | some s3 =>
        simp only
        cases expN s3 with
        | none => rfl
        | some s4 => rfl
    by_cases h1 : 1 < dg (s.drop j)
    · have c2 : ((dg (s.drop j) : Nat) : Int) > 1 := by omega
      rcases at_pos s j hj with ⟨g1, g2⟩ | ⟨c, hc, g1, g2⟩
      · rw [g2] at h1; simp [dg] at h1
      have ix := fun k => qIx_at s _ c hc k
      have hhd : (s.drop j).head? = some c := by rw [g2]; rfl
      have q48 : (((c.toNat : Nat) : Int) == 48) = decide (c = 48) := eqU c 48
      by_cases h48 : c = 48
      · rw [decide_eq_true h48] at q48
        rw [if_pos (.inr ⟨h1, by rw [hhd, h48]⟩)] at hnum
        rw [hnum]
        simp -implicitDefEqProofs only [r26_6, r26_7, r26_8, opn_z, opn_s, sel_z, sel_s, qCd_eq, qIf_true, qRes_val, qPick_true, qPick_false, qG_tt, qG_ff, qGtr_int, qEql_int, AV.kill, AV.kills, e40, h0, c2, decide_true, ix, q48]
      · rw [decide_eq_false h48] at q48
        simp -implicitDefEqProofs only [r26_6, r26_7, opn_z, opn_s, sel_z, sel_s, qCd_eq, qIf_false, qRes_val, qPick_true, qPick_false, qG_tt, qG_ff, qGtr_int, qEql_int, e40, h0, c2, decide_true, ix, q48]
        exact rest (by rw [hhd]; rintro (h | ⟨_, h⟩) <;> simp_all) _ _ _ _ _ _ _ _ _ _ _ H
    · have c2 : ¬ ((dg (s.drop j) : Nat) : Int) > 1 := by omega
      simp -implicitDefEqProofs only [r26_6, r26_7, opn_z, opn_s, sel_z, sel_s, qCd_eq, qIf_false, qRes_val, qPick_false, qG_ff, qG_ft, qGtr_int, qEql_int, e40, h0, c2, decide_false]
      exact rest (by rintro (h | ⟨h, _⟩) <;> contradiction) _ _ _ _ _ _ _ _ _ _ _ H
  rcases at_pos s 0 (by omega) with ⟨g1, g2⟩ | ⟨c, hc, g1, g2⟩
  · have c2 : ¬ ((0 : Int) < (s.length : Int)) := by omega
    have hs : s = [] := by simpa using g2
    simp -implicitDefEqProofs only [c26, r26_0, r26_1, r26_2, r26_4, opn_z, opn_s, sel_z, sel_s, qCd_eq, qIf_false, qFn_eq, qPick_false, qG_ft, qLss_int, qGtr_int, qLenS_str, c1, c2, decide_false]
    exact mid 0 (by omega) (by subst hs; rfl) _ _ _ _ _ _ _ _ _ _ _ _ _
  · have c2 : ((0 : Int) < (s.length : Int)) := by omega
    have ix : ∀ k : AV → Prop, qIx (.str s) (.int .i64 0) k = k (.int .u8 c.toNat) := fun k => qIx_at s 0 c hc k
    have q45 : (((c.toNat : Nat) : Int) == 45) = decide (c = 45) := eqU c 45
    have hsc : s = c :: s.drop 1 := by simpa using g2
    have hw0 : IntKind.i64.wrap ((0 : Int) + 1) = ((1 : Nat) : Int) := by decide
    by_cases h45 : c = 45
    · rw [decide_eq_true h45] at q45
      simp -implicitDefEqProofs only [c26, r26_0, r26_1, r26_2, r26_4, r26_5, opn_z, opn_s, sel_z, sel_s, qCd_eq, qIf_true, qIf_false, qFn_eq, qPick_true, qG_tt, qLss_int, qGtr_int, qEql_int, qAdd_int, qLenS_str, c1, c2, decide_true, decide_false, ix, q45, hw0]
      refine mid 1 (by omega) ?_ _ _ _ _ _ _ _ _ _ _ _ _ _
      conv => lhs; rw [hsc]
      subst h45
      rw [cutP_1]
    · rw [decide_eq_false h45] at q45
      simp -implicitDefEqProofs only [c26, r26_0, r26_1, r26_2, r26_4, opn_z, opn_s, sel_z, sel_s, qCd_eq, qIf_false, qFn_eq, qPick_true, qG_tt, qLss_int, qGtr_int, qEql_int, qLenS_str, c1, c2, decide_true, decide_false, ix, q45]
      refine mid 0 (by omega) ?_ _ _ _ _ _ _ _ _ _ _ _ _ _
      unfold cutP
      have : hp s [45] = false := by rw [hsc, hp_one]; exact decide_eq_false h45
      rw [this]
      simp
end T
