import Derived.Test.YtpndehigidcchaaGreatDoorRuX
import Derived.Test.YtpndehigidcchaaGreatDoorRvX
set_option linter.all false
set_option linter.unusedVariables false
set_option linter.unusedSimpArgs false
set_option maxRecDepth 10000
namespace T
open Go Go.Aes Go.Proofs
theorem hexV_cases (c : UInt8) : (digB c = true ∧ hexV c = some (c.toNat - 48)) ∨ (digB c = false ∧ 97 ≤ c.toNat ∧ c.toNat ≤ 102 ∧ hexV c = some (c.toNat - 87)) ∨
    (digB c = false ∧ ¬ (97 ≤ c.toNat ∧ c.toNat ≤ 102) ∧ 65 ≤ c.toNat ∧ c.toNat ≤ 70 ∧ hexV c = some (c.toNat - 55)) ∨ (digB c = false ∧ ¬ (97 ≤ c.toNat ∧ c.toNat ≤ 102) ∧ ¬ (65 ≤ c.toNat ∧ c.toNat ≤ 70) ∧ hexV c = none) := by
  unfold hexV digB
  by_cases h1 : 48 ≤ c.toNat ∧ c.toNat ≤ 57
  · exact .inl ⟨by simp [h1], by rw [if_pos h1]⟩
  · have hd : (decide (48 ≤ c.toNat) && decide (c.toNat ≤ 57)) = false := by rw [← Bool.not_eq_true]; simp; omega
    rw [hd, if_neg h1]
    by_cases h2 : 97 ≤ c.toNat ∧ c.toNat ≤ 102
    · exact .inr (.inl ⟨rfl, h2.1, h2.2, by rw [if_pos h2]⟩)
    · rw [if_neg h2]
      by_cases h3 : 65 ≤ c.toNat ∧ c.toNat ≤ 70
      · exact .inr (.inr (.inl ⟨rfl, h2, h3.1, h3.2, by rw [if_pos h3]⟩))
      · exact .inr (.inr (.inr ⟨rfl, h2, h3, by rw [if_neg h3]⟩))
set_option maxHeartbeats 1000000 in
theorem ep83 (s : Str) (hl : s.length < 1000000000) (i : Nat) (hi : i < 2000000000) (H : AH) : EP 76 [.str s, .int .i64 (i : Int)] H = some (.val (.int .i64 (fourZ (s.drop i))) H) := by
  refine uo_form (X := X) (D := OD2) (O := OF2) (S := PS) (al := [.str s, .int .i64 (i : Int)]) e76 xf76 rfl rfl rfl rfl ?_ H
  simp only [AV.kills, AV.kill]
  have hw4 : IntKind.i64.wrap ((i : Int) + 4) = ((i + 4 : Nat) : Int) := by rw [i64_in' (by omega)]; omega
  by_cases h4 : s.length < i + 4
  · have c1 : (((i + 4 : Nat) : Int) > (s.length : Int)) := by omega
    simp -implicitDefEqProofs only [c76, r76_0, r76_1, r76_2, opn_z, opn_s, sel_z, sel_s, qCd_eq, qIf_true, qFn_eq, qBl_eq, qGtr_int, qAdd_int, qLenS_str, AV.kill, hw4, c1, decide_true]
    have : fourF (s.drop i) = none := if_pos (by rw [List.length_drop]; omega)
    simp [fourZ, this]
  have c1 : ¬ (((i + 4 : Nat) : Int) > (s.length : Int)) := by omega
  have hF : fourF (s.drop i) = hexN ((s.drop i).take 4) 0 := if_neg (by rw [List.length_drop]; omega)
  simp -implicitDefEqProofs only [c76, r76_0, r76_1, r76_3, r76_4, opn_z, opn_s, sel_z, sel_s, qCd_eq, qIf_false, qFn_eq, qBl_eq, qGtr_int, qAdd_int, qLenS_str, hw4, c1, decide_false]
  refine loop_inv (fun m fr H' => ∃ (k v : Nat) (x4 x7 x12 x17 x23 x32 x46 : AV), m = 4 - k ∧ k ≤ 4 ∧ fr = [.str s, .int .i64 (i : Int), x4, .int .i64 (v : Int), .int .i64 ((i + k : Nat) : Int), x7, x12, x17, x23, x32, x46] ∧ v < 16 ^ k ∧
      hexN ((s.drop i).take 4) 0 = hexN (((s.drop i).take 4).drop k) v) ?_ (m := 4) ?_
  case refine_2 => exact ⟨0, 0, _, _, _, _, _, _, _, rfl, by omega, rfl, by omega, rfl⟩
  rintro m fr H' kk ⟨k, v, x4, x7, x12, x17, x23, x32, x46, rfl, hk, rfl, hv, hX⟩ hkk
  by_cases h : k < 4
  · have c2 : (((i + k : Nat) : Int) < ((i + 4 : Nat) : Int)) := by omega
    obtain ⟨c, hc⟩ : ∃ c, s[i + k]? = some c := ⟨_, List.getElem?_eq_getElem (show i + k < s.length by omega)⟩
    have ix := fun k => qIx_at s _ c hc k
    have hcd : ((s.drop i).take 4).drop k = c :: ((s.drop i).take 4).drop (k + 1) := by
      have hkl : k < ((s.drop i).take 4).length := by rw [List.length_take, List.length_drop]; omega
      rw [List.drop_eq_getElem_cons hkl]
      congr 1
      have := List.getElem?_eq_getElem hkl
      rw [List.getElem?_take, if_pos h, List.getElem?_drop, hc] at this
      injection this with this
      exact this.symm
    rw [hcd] at hX
    simp only [hexN] at hX
    have hw := wrap_up (i + k) (by omega)
    have e24 := fun H => ep60 c H
    have hp : 16 ^ k ≤ 16 ^ 3 := Nat.pow_le_pow_right (by omega) (by omega)
    have hp1 : 16 ^ (k + 1) = 16 * 16 ^ k := by rw [Nat.pow_succ, Nat.mul_comm]
    have hm : IntKind.i64.wrap (16 * (v : Int)) = ((16 * v : Nat) : Int) := by rw [i64_in' (by omega)]; omega
    have w8 : ∀ x : Int, 0 ≤ x → x < 256 → IntKind.u8.wrap x = x := fun x h0 h1 => by
      show x % 2 ^ 8 = x
      omega
    have hik : i + k + 1 = i + (k + 1) := by omega
    rw [hik] at hw
    rcases hexV_cases c with ⟨hd, hh⟩ | ⟨hd, g1, g2, hh⟩ | ⟨hd, g0, g1, g2, hh⟩ | ⟨hd, g0, g1, hh⟩
    · rw [hd] at e24
      rw [hh] at hX
      have hlt := hexV_lt hh
      have g48 : 48 ≤ c.toNat := by
        have : digB c = true := hd
        unfold digB at this
        simp at this
        exact this.1
      have b1 : IntKind.u8.wrap (((c.toNat : Nat) : Int) - 48) = ((c.toNat - 48 : Nat) : Int) := by rw [w8 _ (by omega) (by omega)]; omega
      have b2 : IntKind.i64.wrap ((c.toNat - 48 : Nat) : Int) = ((c.toNat - 48 : Nat) : Int) := i64_in' (by omega)
      have b3 : IntKind.i64.wrap (((16 * v : Nat) : Int) + ((c.toNat - 48 : Nat) : Int)) = ((16 * v + (c.toNat - 48) : Nat) : Int) := by rw [i64_in' (by omega)]; omega
      simp -implicitDefEqProofs only [l76_8, r76_5, r76_7, r76_9, r76_10, r76_6, opn_z, opn_s, sel_z, sel_s, qCd_eq, qIf_true, qBl_eq, qRes_val, qLss_int, qAdd_int, qSub_int, qMul_int, qConvI_int, hw4, c2, decide_true, ix, e24, hm, b1, b2, b3, hw]
      exact hkk (4 - (k + 1)) _ _ (by omega) ⟨k + 1, _, _, _, _, _, _, _, _, rfl, by omega, rfl, by omega, hX⟩
    · rw [hd] at e24
      rw [hh] at hX
      have hlt := hexV_lt hh
      have d1 : ((c.toNat : Nat) : Int) ≥ 97 := by omega
      have d2 : ((c.toNat : Nat) : Int) ≤ 102 := by omega
      have b1 : IntKind.u8.wrap (((c.toNat : Nat) : Int) - 97) = ((c.toNat - 97 : Nat) : Int) := by rw [w8 _ (by omega) (by omega)]; omega
      have b2 : IntKind.i64.wrap ((c.toNat - 97 : Nat) : Int) = ((c.toNat - 97 : Nat) : Int) := i64_in' (by omega)
      have b3 : IntKind.i64.wrap (((16 * v : Nat) : Int) + ((c.toNat - 97 : Nat) : Int)) = ((16 * v + (c.toNat - 97) : Nat) : Int) := by rw [i64_in' (by omega)]; omega
      have b4 : IntKind.i64.wrap (((16 * v + (c.toNat - 97) : Nat) : Int) + 10) = ((16 * v + (c.toNat - 87) : Nat) : Int) := by rw [i64_in' (by omega)]; omega
      simp -implicitDefEqProofs only [l76_8, r76_5, r76_7, r76_9, r76_11, r76_12, r76_6, opn_z, opn_s, sel_z, sel_s, qCd_eq, qIf_true, qIf_false, qBl_eq, qRes_val, qPick_true, qG_tt, qLss_int, qLeq_int, qGeq_int, qAdd_int, qSub_int, qMul_int, qConvI_int, hw4, c2, decide_true, ix, e24, d1, d2, hm, b1, b2, b3, b4, hw]
      exact hkk (4 - (k + 1)) _ _ (by omega) ⟨k + 1, _, _, _, _, _, _, _, _, rfl, by omega, rfl, by omega, hX⟩
    · rw [hd] at e24
      rw [hh] at hX
      have hlt := hexV_lt hh
      have d1 : ¬ ((c.toNat : Nat) : Int) ≥ 97 := by omega
      have d3 : ((c.toNat : Nat) : Int) ≥ 65 := by omega
      have d4 : ((c.toNat : Nat) : Int) ≤ 70 := by omega
      have b1 : IntKind.u8.wrap (((c.toNat : Nat) : Int) - 65) = ((c.toNat - 65 : Nat) : Int) := by rw [w8 _ (by omega) (by omega)]; omega
      have b2 : IntKind.i64.wrap ((c.toNat - 65 : Nat) : Int) = ((c.toNat - 65 : Nat) : Int) := i64_in' (by omega)
      have b3 : IntKind.i64.wrap (((16 * v : Nat) : Int) + ((c.toNat - 65 : Nat) : Int)) = ((16 * v + (c.toNat - 65) : Nat) : Int) := by rw [i64_in' (by omega)]; omega
      have b4 : IntKind.i64.wrap (((16 * v + (c.toNat - 65) : Nat) : Int) + 10) = ((16 * v + (c.toNat - 55) : Nat) : Int) := by rw [i64_in' (by omega)]; omega
      simp -implicitDefEqProofs only [l76_8, r76_5, r76_7, r76_9, r76_11, r76_13, r76_14, r76_6, opn_z, opn_s, sel_z, sel_s, qCd_eq, qIf_true, qIf_false, qBl_eq, qRes_val, qPick_true, qPick_false, qG_tt, qG_ft, qLss_int, qLeq_int, qGeq_int, qAdd_int, qSub_int, qMul_int, qConvI_int, hw4, c2, decide_true, decide_false, ix, e24, d1, d3, d4, hm, b1, b2, b3, b4, hw]
      exact hkk (4 - (k + 1)) _ _ (by omega) ⟨k + 1, _, _, _, _, _, _, _, _, rfl, by omega, rfl, by omega, hX⟩
    · rw [hd] at e24
      rw [hh] at hX
      have hz : fourZ (s.drop i) = -1 := by unfold fourZ; rw [hF, hX]
      rw [hz]
      by_cases d1 : ((c.toNat : Nat) : Int) ≥ 97
      · have d2 : ¬ ((c.toNat : Nat) : Int) ≤ 102 := by omega
        have d3 : ((c.toNat : Nat) : Int) ≥ 65 := by omega
        have d4 : ¬ ((c.toNat : Nat) : Int) ≤ 70 := by omega
        simp -implicitDefEqProofs only [l76_8, r76_5, r76_7, r76_9, r76_11, r76_13, r76_8, opn_z, opn_s, sel_z, sel_s, qCd_eq, qIf_true, qIf_false, qBl_eq, qRes_val, qPick_true, qG_tt, qLss_int, qLeq_int, qGeq_int, qAdd_int, AV.kill, hw4, c2, decide_true, decide_false, ix, e24, d1, d2, d3, d4]
      · by_cases d3 : ((c.toNat : Nat) : Int) ≥ 65
        · have d4 : ¬ ((c.toNat : Nat) : Int) ≤ 70 := by omega
          simp -implicitDefEqProofs only [l76_8, r76_5, r76_7, r76_9, r76_11, r76_13, r76_8, opn_z, opn_s, sel_z, sel_s, qCd_eq, qIf_true, qIf_false, qBl_eq, qRes_val, qPick_true, qPick_false, qG_tt, qG_ft, qLss_int, qLeq_int, qGeq_int, qAdd_int, AV.kill, hw4, c2, decide_true, decide_false, ix, e24, d1, d3, d4]
        · simp -implicitDefEqProofs only [l76_8, r76_5, r76_7, r76_9, r76_11, r76_13, r76_8, opn_z, opn_s, sel_z, sel_s, qCd_eq, qIf_true, qIf_false, qBl_eq, qRes_val, qPick_false, qG_ft, qLss_int, qGeq_int, qAdd_int, AV.kill, hw4, c2, decide_true, decide_false, ix, e24, d1, d3]
  · obtain rfl : k = 4 := by omega
    have c2 : ¬ (((i + 4 : Nat) : Int) < ((i + 4 : Nat) : Int)) := by omega
    simp -implicitDefEqProofs only [l76_8, r76_5, r76_15, opn_z, opn_s, sel_z, sel_s, qCd_eq, qIf_false, qBl_eq, qLss_int, qAdd_int, AV.kill, hw4, c2, decide_false]
    have hnil : ((s.drop i).take 4).drop 4 = [] := List.drop_of_length_le (by rw [List.length_take]; omega)
    rw [hnil] at hX
    unfold fourZ
    rw [hF, hX]
    rfl
end T
set_option linter.unusedVariables false
set_option linter.unusedSimpArgs false
set_option maxRecDepth 10000
namespace T
open Go Go.Aes Go.Proofs
theorem orL192 : ∀ x : Fin 32, bits .or .i64 192 (x.val : Int) = ((192 + x.val : Nat) : Int) := by decide +kernel
theorem orL224 : ∀ x : Fin 16, bits .or .i64 224 (x.val : Int) = ((224 + x.val : Nat) : Int) := by decide +kernel
theorem orL240 : ∀ x : Fin 8, bits .or .i64 240 (x.val : Int) = ((240 + x.val : Nat) : Int) := by decide +kernel
theorem orL128 : ∀ x : Fin 64, bits .or .i64 128 (x.val : Int) = ((128 + x.val : Nat) : Int) := by decide +kernel
theorem or_i64 (a b : Int) : binop X .or 3 (.int .i64 a) (.int .i64 b) = some (.int .i64 (bits .or .i64 a b)) := rfl
theorem and63n (a : Nat) (ha : a < 4611686018427387904) : binop X .and 3 (.int .i64 (a : Int)) (.int .i64 63) = some (.int .i64 ((a % 64 : Nat) : Int)) := and_i64 a 63 ha 6 rfl (by omega)
theorem w8n (x : Nat) (h : x < 256) : IntKind.u8.wrap (x : Int) = (x : Int) := by rw [wrap_u8]; omega
theorem bstr_bys (s : Str) (H : AH) (k : AV → Prop) : qBstr (.sl (byR s) .full) H k = k (.str s) := by
  have h1 : readRows 1 (.sl (byR s) .full) H = some (byR s) := by
    simp only [readRows]
    have : ((byR s).all fun r => r.length.beq 1) = true := by
      rw [List.all_eq_true]
      intro x hx
      obtain ⟨y, _, rfl⟩ := List.mem_map.1 hx
      rfl
    rw [this]; rfl
  have h2 : ∀ l : Str, bytesOf (byR l) = some l := by
    intro l
    induction l with
    | nil => rfl
    | cons b l ih =>
      show (bytesOf (byR l)).map (UInt8.ofNat (((b.toNat : Nat) : Int)).toNat :: ·) = _
      rw [ih]
      simp
  show (bif true then qO (readRows 1 (.sl (byR s) .full) H) fun rows => qO (bytesOf rows) fun s => k (.str s) else fail) = _
  simp only [cond_true, h1, qO_some, h2]
set_option maxHeartbeats 1000000 in
theorem ep84 (v : Nat) (hv : okR v) (H : AH) : EP 77 [.int .i64 (v : Int)] H = some (.val (.str (encR v)) H) := by
  refine uo_form (X := X) (D := OD2) (O := OF2) (S := PS) (al := [.int .i64 (v : Int)]) e77 xf77 rfl rfl rfl rfl ?_ H
  simp only [AV.kills, AV.kill]
  have hv' := hv
  unfold okR at hv'
  have fin : ∀ l, bys (encR v) = l → ∀ k : AV → Prop, qBstr (.sl (rowsB l) .full) H0 k = k (.str (encR v)) := by
    rintro l rfl k
    rw [rowsB_bys, bstr_bys]
  have s6 : binop X .shr 3 (.int .i64 (v : Int)) (.int .u64 6) = some (.int .i64 ((v / 64 : Nat) : Int)) := shr_i64 v 6 (by omega)
  have s12 : binop X .shr 3 (.int .i64 (v : Int)) (.int .u64 12) = some (.int .i64 ((v / 4096 : Nat) : Int)) := shr_i64 v 12 (by omega)
  have s18 : binop X .shr 3 (.int .i64 (v : Int)) (.int .u64 18) = some (.int .i64 ((v / 262144 : Nat) : Int)) := shr_i64 v 18 (by omega)
  have m0 := and63n v (by omega)
  have m6 := and63n (v / 64) (by omega)
  have m12 := and63n (v / 4096) (by omega)
  have t0 := orL128 ⟨v % 64, by omega⟩
  have t6 := orL128 ⟨v / 64 % 64, by omega⟩
  have t12 := orL128 ⟨v / 4096 % 64, by omega⟩
  simp only at t0 t6 t12
  have w0 := w8n (128 + v % 64) (by omega)
  have w6 := w8n (128 + v / 64 % 64) (by omega)
  have w12 := w8n (128 + v / 4096 % 64) (by omega)
  by_cases h1 : v < 128
  · have c1 : (v : Int) < 128 := by omega
    have q := fin _ (enc1 h1)
    simp only [rowsB, List.map_cons, List.map_nil] at q
    have wv := w8n v (by omega)
    simp -implicitDefEqProofs only [c77, r77_0, r77_1, r77_2, opn_z, opn_s, sel_z, sel_s, qCd_eq, qIf_true, qFn_eq, qBl_eq, qLss_int, qConvI_int, AV.kill, c1, decide_true, wv, row1, q]
  have c1 : ¬ (v : Int) < 128 := by omega
  by_cases h2 : v < 2048
  · have c2 : (v : Int) < 2048 := by omega
    have q := fin _ (enc2 (by omega) h2)
    simp only [rowsB, List.map_cons, List.map_nil] at q
    have b0 := orL192 ⟨v / 64, by omega⟩
    simp only at b0
    have wb := w8n (192 + v / 64) (by omega)
    simp -implicitDefEqProofs only [c77, r77_0, r77_1, r77_3, r77_4, opn_z, opn_s, sel_z, sel_s, qCd_eq, qIf_true, qIf_false, qFn_eq, qBl_eq, qO_some, qLss_int, qConvI_int, AV.kill, c1, c2, decide_true, decide_false, s6, or_i64, b0, wb, m0, t0, w0, row2, q]
  have c2 : ¬ (v : Int) < 2048 := by omega
  by_cases h3 : (v : Int) < 65536
  · have q := fin _ (enc3 (by omega) (by omega) hv)
    simp only [rowsB, List.map_cons, List.map_nil] at q
    have b0 := orL224 ⟨v / 4096, by omega⟩
    simp only at b0
    have wb := w8n (224 + v / 4096) (by omega)
    simp -implicitDefEqProofs only [c77, r77_0, r77_1, r77_3, r77_5, r77_6, opn_z, opn_s, sel_z, sel_s, qCd_eq, qIf_true, qIf_false, qFn_eq, qBl_eq, qO_some, qLss_int, qConvI_int, AV.kill, c1, c2, h3, decide_true, decide_false, s12, or_i64, b0, wb, s6, m6, t6, w6, m0, t0, w0, row3, q]
  · have q := fin _ (enc4 (by omega) (by omega))
    simp only [rowsB, List.map_cons, List.map_nil] at q
    have b0 := orL240 ⟨v / 262144, by omega⟩
    simp only at b0
    have wb := w8n (240 + v / 262144) (by omega)
    simp -implicitDefEqProofs only [c77, r77_0, r77_1, r77_3, r77_5, r77_7, opn_z, opn_s, sel_z, sel_s, qCd_eq, qIf_false, qFn_eq, qBl_eq, qO_some, qLss_int, qConvI_int, AV.kill, c1, c2, h3, decide_false, s18, or_i64, b0, wb, s12, m12, t12, w12, s6, m6, t6, w6, m0, t0, w0, row4, q]
def oneF (t : Str) : Option (Str × Nat) :=
  match t with
  | [] => none
  | c :: r =>
    if c = 34 ∨ c = 92 ∨ c = 47 then some ([c], 1)
    else if c = 98 then some ([8], 1)
    else if c = 102 then some ([12], 1)
    else if c = 110 then some ([10], 1)
    else if c = 114 then some ([13], 1)
    else if c = 116 then some ([9], 1)
    else if c = 117 then (pointF r).map fun q => (encR q.1, 1 + q.2)
    else none
def oneR (o : Option (Str × Nat)) : AV := match o with
  | some q => .tup [.str q.1, .int .i64 (q.2 : Int)]
  | none => .tup [.str [], .int .i64 0]
theorem hp2 (t : Str) (hl : 2 ≤ t.length) : hp t [92, 117] = (decide (t[0]? = some 92) && decide (t[1]? = some 117)) := by
  match t, hl with
  | a :: b :: t, _ =>
    rw [hp_cons, hp_cons, hp_nil, Bool.and_true]
    simp
theorem hp2_no (t : Str) (hl : t.length < 2) : hp t [92, 117] = false := by
  cases h : hp t [92, 117] with
  | false => rfl
  | true =>
    have := hp_len h
    simp at this
    omega
theorem pointF_hi {s : Str} {v : Nat} (hf : fourF s = some v) (h1 : 55296 ≤ v) (h2 : v < 56320) : pointF s = halfF v (s.drop 4) := by
  unfold pointF
  rw [hf]
  simp only
  rw [if_neg (by omega), if_neg (by omega)]
theorem shl10_i64 (a : Nat) (ha : a < 1024) : binop X .shl 3 (.int .i64 (a : Int)) (.int .u64 10) = some (.int .i64 ((a * 1024 : Nat) : Int)) := by
  show ofSem (Op.shift .shl .i64 (a : Int) .u64 10) = _
  rw [shift_shl .i64 .u64 (a : Int) 10 (by decide) (by decide)]
  show some (AV.int .i64 (IntKind.i64.wrap ((a : Int) * 2 ^ (10 : Int).toNat))) = _
  rw [show (2 : Int) ^ (10 : Int).toNat = 1024 from rfl, i64_in' (by omega)]
  congr 2
set_option maxHeartbeats 2000000 in
theorem ep57 (s : Str) (hl : s.length < 1000000000) (i : Nat) (hi : i < 2000000000) (H : AH) : EP 58 [.str s, .int .i64 (i : Int)] H = some (.val (oneR (oneF (s.drop i))) H) := by
  refine uo_form (X := X) (D := OD2) (O := OF2) (S := PS) (al := [.str s, .int .i64 (i : Int)]) e58 xf58 rfl rfl rfl (by cases oneF (s.drop i) <;> rfl) ?_ H
  simp only [AV.kills, AV.kill]
  rcases Nat.lt_or_ge i s.length with h | h
  case inr =>
    have c1 : ((i : Int) ≥ (s.length : Int)) := by omega
    simp -implicitDefEqProofs only [c58, r58_0, r58_1, r58_2, opn_z, opn_s, sel_z, sel_s, qCd_eq, qIf_true, qFn_eq, qBl_eq, qGeq_int, qLenS_str, AV.kill, AV.kills, c1, decide_true]
    rw [List.drop_of_length_le h]
    rfl
  have c1 : ¬ ((i : Int) ≥ (s.length : Int)) := by omega
  obtain ⟨c, hc⟩ : ∃ c, s[i]? = some c := ⟨_, List.getElem?_eq_getElem h⟩
  have ix := fun k => qIx_at s i c hc k
  have hd : s.drop i = c :: s.drop (i + 1) := by
    rw [List.drop_eq_getElem_cons h]
    congr 1
    have := List.getElem?_eq_getElem h
    rw [hc] at this
    injection this with this
    exact this.symm
  rw [hd]
  have q : ∀ d : UInt8, (((c.toNat : Nat) : Int) == ((d.toNat : Nat) : Int)) = decide (c = d) := fun d => eqU c d
  have q34 : (((c.toNat : Nat) : Int) == 34) = decide (c = 34) := q 34
  have q92 : (((c.toNat : Nat) : Int) == 92) = decide (c = 92) := q 92
  have q47 : (((c.toNat : Nat) : Int) == 47) = decide (c = 47) := q 47
  have q98 : (((c.toNat : Nat) : Int) == 98) = decide (c = 98) := q 98
  have q102 : (((c.toNat : Nat) : Int) == 102) = decide (c = 102) := q 102
  have q110 : (((c.toNat : Nat) : Int) == 110) = decide (c = 110) := q 110
  have q114 : (((c.toNat : Nat) : Int) == 114) = decide (c = 114) := q 114
  have q116 : (((c.toNat : Nat) : Int) == 116) = decide (c = 116) := q 116
  have q117 : (((c.toNat : Nat) : Int) == 117) = decide (c = 117) := q 117
  clear q
  have hw1 := wrap_up i (by omega)
  have so := fun k => slc_one hc k
  unfold oneF
  by_cases h1 : c = 34
  · rw [decide_eq_true h1] at q34
    simp -implicitDefEqProofs only [c58, r58_0, r58_1, r58_3, r58_4, r58_7, opn_z, opn_s, sel_z, sel_s, qCd_eq, qIf_true, qIf_false, qFn_eq, qBl_eq, qGeq_int, qEql_int, qAdd_int, qLenS_str, AV.kill, AV.kills, c1, decide_false, ix, q34, hw1, so]
    rw [if_pos (.inl h1)]; rfl
  rw [decide_eq_false h1] at q34
  by_cases h2 : c = 92
  · rw [decide_eq_true h2] at q92
    simp -implicitDefEqProofs only [c58, r58_0, r58_1, r58_3, r58_4, r58_5, r58_7, opn_z, opn_s, sel_z, sel_s, qCd_eq, qIf_true, qIf_false, qFn_eq, qBl_eq, qGeq_int, qEql_int, qAdd_int, qLenS_str, AV.kill, AV.kills, c1, decide_false, ix, q34, q92, hw1, so]
    rw [if_pos (.inr (.inl h2))]; rfl
  rw [decide_eq_false h2] at q92
  by_cases h3 : c = 47
  · rw [decide_eq_true h3] at q47
    simp -implicitDefEqProofs only [c58, r58_0, r58_1, r58_3, r58_4, r58_5, r58_6, r58_7, opn_z, opn_s, sel_z, sel_s, qCd_eq, qIf_true, qIf_false, qFn_eq, qBl_eq, qGeq_int, qEql_int, qAdd_int, qLenS_str, AV.kill, AV.kills, c1, decide_false, ix, q34, q92, q47, hw1, so]
    rw [if_pos (.inr (.inr h3))]; rfl
  rw [decide_eq_false h3] at q47
  simp only
  rw [if_neg (by rintro (h | h | h) <;> contradiction)]
  by_cases h4 : c = 98
  · rw [decide_eq_true h4] at q98
    simp -implicitDefEqProofs only [c58, r58_0, r58_1, r58_3, r58_4, r58_5, r58_6, r58_8, r58_9, opn_z, opn_s, sel_z, sel_s, qCd_eq, qIf_true, qIf_false, qFn_eq, qBl_eq, qGeq_int, qEql_int, qLenS_str, AV.kill, AV.kills, c1, decide_false, ix, q34, q92, q47, q98]
    rw [if_pos h4]; rfl
  rw [decide_eq_false h4] at q98
  rw [if_neg h4]
  by_cases h5 : c = 102
  · rw [decide_eq_true h5] at q102
    simp -implicitDefEqProofs only [c58, r58_0, r58_1, r58_3, r58_4, r58_5, r58_6, r58_8, r58_10, r58_11, opn_z, opn_s, sel_z, sel_s, qCd_eq, qIf_true, qIf_false, qFn_eq, qBl_eq, qGeq_int, qEql_int, qLenS_str, AV.kill, AV.kills, c1, decide_false, ix, q34, q92, q47, q98, q102]
    rw [if_pos h5]; rfl
  rw [decide_eq_false h5] at q102
  rw [if_neg h5]
  by_cases h6 : c = 110
  · rw [decide_eq_true h6] at q110
    simp -implicitDefEqProofs only [c58, r58_0, r58_1, r58_3, r58_4, r58_5, r58_6, r58_8, r58_10, r58_12, r58_13, opn_z, opn_s, sel_z, sel_s, qCd_eq, qIf_true, qIf_false, qFn_eq, qBl_eq, qGeq_int, qEql_int, qLenS_str, AV.kill, AV.kills, c1, decide_false, ix, q34, q92, q47, q98, q102, q110]
    rw [if_pos h6]; rfl
  rw [decide_eq_false h6] at q110
  rw [if_neg h6]
  by_cases h7 : c = 114
  · rw [decide_eq_true h7] at q114
    simp -implicitDefEqProofs only [c58, r58_0, r58_1, r58_3, r58_4, r58_5, r58_6, r58_8, r58_10, r58_12, r58_14, r58_15, opn_z, opn_s, sel_z, sel_s, qCd_eq, qIf_true, qIf_false, qFn_eq, qBl_eq, qGeq_int, qEql_int, qLenS_str, AV.kill, AV.kills, c1, decide_false, ix, q34, q92, q47, q98, q102, q110, q114]
    rw [if_pos h7]; rfl
  rw [decide_eq_false h7] at q114
  rw [if_neg h7]
  by_cases h8 : c = 116
  · rw [decide_eq_true h8] at q116
    simp -implicitDefEqProofs only [c58, r58_0, r58_1, r58_3, r58_4, r58_5, r58_6, r58_8, r58_10, r58_12, r58_14, r58_16, r58_17, opn_z, opn_s, sel_z, sel_s, qCd_eq, qIf_true, qIf_false, qFn_eq, qBl_eq, qGeq_int, qEql_int, qLenS_str, AV.kill, AV.kills, c1, decide_false, ix, q34, q92, q47, q98, q102, q110, q114, q116]
    rw [if_pos h8]; rfl
  rw [decide_eq_false h8] at q116
  rw [if_neg h8]
  by_cases h9 : c = 117
  case neg =>
    rw [decide_eq_false h9] at q117
    simp -implicitDefEqProofs only [c58, r58_0, r58_1, r58_3, r58_4, r58_5, r58_6, r58_8, r58_10, r58_12, r58_14, r58_16, r58_18, r58_27, opn_z, opn_s, sel_z, sel_s, qCd_eq, qIf_false, qFn_eq, qBl_eq, qGeq_int, qEql_int, qLenS_str, AV.kill, AV.kills, c1, decide_false, ix, q34, q92, q47, q98, q102, q110, q114, q116, q117]
    rw [if_neg h9]; rfl
  rw [decide_eq_true h9] at q117
  rw [if_pos h9]
  have e76 := fun H => ep83 s hl (i + 1) (by omega) H
  simp -implicitDefEqProofs only [c58, r58_0, r58_1, r58_3, r58_4, r58_5, r58_6, r58_8, r58_10, r58_12, r58_14, r58_16, r58_18, r58_19, opn_z, opn_s, sel_z, sel_s, qCd_eq, qIf_true, qIf_false, qFn_eq, qBl_eq, qRes_val, qGeq_int, qEql_int, qAdd_int, qLenS_str, c1, decide_false, ix, q34, q92, q47, q98, q102, q110, q114, q116, q117, hw1, e76]
  clear q34 q92 q47 q98 q102 q110 q114 q116 q117 h1 h2 h3 h4 h5 h6 h7 h8 e76
  generalize hr : s.drop (i + 1) = r
  have hrl : r.length = s.length - (i + 1) := by rw [← hr, List.length_drop]
  cases hf : fourF r with
  | none =>
    have hz : fourZ r = -1 := by simp [fourZ, hf]
    rw [hz]
    have d1 : ¬ ((-1 : Int) ≥ 55296) := by omega
    have d2 : ((-1 : Int) < 0) := by omega
    simp -implicitDefEqProofs only [r58_20, r58_24, r58_25, opn_z, opn_s, sel_z, sel_s, qCd_eq, qIf_true, qIf_false, qPick_true, qPick_false, qG_tf, qG_ft, qLss_int, qGeq_int, qG_un, AV.kill, AV.kills, d1, d2, decide_true, decide_false]
    simp [pointF, hf, oneR]
  | some v =>
    have hz : fourZ r = (v : Int) := by simp [fourZ, hf]
    rw [hz]
    obtain ⟨hv, hl4⟩ := fourF_lt hf
    have d2 : ¬ ((v : Int) < 0) := by omega
    have alone : ∀ (q : AV) (x4 x5 x7 x11 x14 x15 x24 x26 x28 x30 x32 x34 x66 x76 x94 : AV), (pointF r = if v < 55296 ∨ 57344 ≤ v then some (v, 4) else none) →
        r58_24 (qCd (sel 17) (fun _ => r58_25 (fun fr (_ : AH) => (AV.tup [sel 2 fr, sel 3 fr]).kill = oneR (Option.map (fun q => (encR q.1, 1 + q.2)) (pointF r)))) (fun k9 => k9) (r58_26 EP (fun fr (_ : AH) => (AV.tup [sel 2 fr, sel 3 fr]).kill = oneR (Option.map (fun q => (encR q.1, 1 + q.2)) (pointF r)))))
          [.str s, .int .i64 (i : Int), x4, x5, .int .i64 (v : Int), x7, x11, x14, x15, x24, x26, x28, x30, x32, x34, x66, x76, x94] H0 := by
      intro _ x4 x5 x7 x11 x14 x15 x24 x26 x28 x30 x32 x34 x66 x76 x94 hp
      rw [hp]
      by_cases g1 : v < 55296
      · have d1 : ¬ ((v : Int) ≥ 55296) := by omega
        have e77 := fun H => ep84 v (.inl g1) H
        rw [if_pos (.inl g1)]
        simp -implicitDefEqProofs only [r58_24, r58_26, opn_z, opn_s, sel_z, sel_s, qCd_eq, qIf_false, qRes_val, qPick_false, qG_ff, qG_ft, qLss_int, qGeq_int, AV.kill, AV.kills, d1, d2, decide_false, e77]
        rfl
      · have d1 : ((v : Int) ≥ 55296) := by omega
        by_cases g2 : 57344 ≤ v
        · have d3 : ¬ ((v : Int) ≤ 57343) := by omega
          have e77 := fun H => ep84 v (.inr (by omega)) H
          rw [if_pos (.inr g2)]
          simp -implicitDefEqProofs only [r58_24, r58_26, opn_z, opn_s, sel_z, sel_s, qCd_eq, qIf_false, qRes_val, qPick_true, qPick_false, qG_tt, qG_ff, qLss_int, qLeq_int, qGeq_int, AV.kill, AV.kills, d1, d2, d3, decide_true, decide_false, e77]
          rfl
        · have d3 : ((v : Int) ≤ 57343) := by omega
          rw [if_neg (by omega)]
          simp -implicitDefEqProofs only [r58_24, r58_25, opn_z, opn_s, sel_z, sel_s, qCd_eq, qIf_true, qPick_true, qPick_false, qG_tt, qG_ff, qLss_int, qLeq_int, qGeq_int, AV.kill, AV.kills, d1, d2, d3, decide_true, decide_false]
          rfl
    have hlow : v < 55296 ∨ 56320 ≤ v → (pointF r = if v < 55296 ∨ 57344 ≤ v then some (v, 4) else none) := by
      intro hh
      unfold pointF
      rw [hf]
      simp only
      by_cases g : v < 55296 ∨ 57344 ≤ v
      · rw [if_pos g, if_pos g]
      · rw [if_neg g, if_neg g, if_pos (by omega)]
    by_cases g1 : v < 55296
    · have d1 : ¬ ((v : Int) ≥ 55296) := by omega
      simp -implicitDefEqProofs only [r58_20, opn_z, opn_s, sel_z, sel_s, qCd_eq, qIf_false, qPick_false, qG_ft, qGeq_int, d1, decide_false]
      exact alone .nilp _ _ _ _ _ _ _ _ _ _ _ _ _ _ _ (hlow (.inl g1))
    have d1 : ((v : Int) ≥ 55296) := by omega
    by_cases g2 : 56320 ≤ v
    · have d3 : ¬ ((v : Int) ≤ 56319) := by omega
      simp -implicitDefEqProofs only [r58_20, opn_z, opn_s, sel_z, sel_s, qCd_eq, qIf_false, qPick_true, qPick_false, qG_tt, qG_ft, qLeq_int, qGeq_int, d1, d3, decide_true, decide_false]
      exact alone .nilp _ _ _ _ _ _ _ _ _ _ _ _ _ _ _ (hlow (.inr g2))
    have d3 : ((v : Int) ≤ 56319) := by omega
    have hpt := pointF_hi hf (by omega) (by omega)
    have hn0 : (if v < 55296 ∨ 57344 ≤ v then some (v, 4) else none) = (none : Option (Nat × Nat)) := if_neg (by omega)
    have hw6 : IntKind.i64.wrap ((i : Int) + 6) = ((i + 6 : Nat) : Int) := by rw [i64_in' (by omega)]; omega
    have hw5 : IntKind.i64.wrap ((i : Int) + 5) = ((i + 5 : Nat) : Int) := by rw [i64_in' (by omega)]; omega
    have hw7 : IntKind.i64.wrap ((i : Int) + 7) = ((i + 7 : Nat) : Int) := by rw [i64_in' (by omega)]; omega
    have hr4 : r.drop 4 = s.drop (i + 5) := by rw [← hr, List.drop_drop]
    by_cases g3 : s.length ≤ i + 6
    · have d4 : ¬ (((i + 6 : Nat) : Int) < (s.length : Int)) := by omega
      have hno : pointF r = none := by
        rw [hpt]
        unfold halfF
        rw [hp2_no _ (by rw [List.length_drop]; omega)]
        rfl
      simp -implicitDefEqProofs only [r58_20, opn_z, opn_s, sel_z, sel_s, qCd_eq, qIf_false, qPick_true, qPick_false, qG_tt, qG_ft, qLss_int, qLeq_int, qGeq_int, qAdd_int, qLenS_str, d1, d3, decide_true, hw6, d4, decide_false]
      exact alone .nilp _ _ _ _ _ _ _ _ _ _ _ _ _ _ _ (hno.trans hn0.symm)
    have d4 : (((i + 6 : Nat) : Int) < (s.length : Int)) := by omega
    obtain ⟨a, ha⟩ : ∃ a, s[i + 5]? = some a := ⟨_, List.getElem?_eq_getElem (show i + 5 < s.length by omega)⟩
    obtain ⟨b, hb⟩ : ∃ a, s[i + 6]? = some a := ⟨_, List.getElem?_eq_getElem (show i + 6 < s.length by omega)⟩
    have ia := fun k => qIx_at s _ a ha k
    have ib := fun k => qIx_at s _ b hb k
    have hhp : hp (r.drop 4) [92, 117] = (decide (a = 92) && decide (b = 117)) := by
      rw [hp2 _ (by rw [List.length_drop]; omega), hr4]
      rw [List.getElem?_drop, List.getElem?_drop, Nat.add_zero, ha, show i + 5 + 1 = i + 6 by omega, hb]
      simp
    have qa : (((a.toNat : Nat) : Int) == 92) = decide (a = 92) := eqU a 92
    have qb : (((b.toNat : Nat) : Int) == 117) = decide (b = 117) := eqU b 117
    by_cases ga : a = 92
    case neg =>
      rw [decide_eq_false ga] at qa hhp
      have hno : pointF r = none := by
        rw [hpt]
        unfold halfF
        rw [hhp]
        rfl
      simp -implicitDefEqProofs only [r58_20, opn_z, opn_s, sel_z, sel_s, qCd_eq, qIf_false, qPick_true, qPick_false, qG_tt, qG_ft, qLss_int, qLeq_int, qGeq_int, qEql_int, qAdd_int, qLenS_str, d1, d3, decide_true, hw6, d4, hw5, ia, qa]
      exact alone .nilp _ _ _ _ _ _ _ _ _ _ _ _ _ _ _ (hno.trans hn0.symm)
    by_cases gb : b = 117
    case neg =>
      rw [decide_eq_false gb] at qb hhp
      rw [decide_eq_true ga] at qa
      have hno : pointF r = none := by
        rw [hpt]
        unfold halfF
        rw [hhp, Bool.and_false]
        rfl
      simp -implicitDefEqProofs only [r58_20, opn_z, opn_s, sel_z, sel_s, qCd_eq, qIf_false, qPick_true, qG_tt, qLss_int, qLeq_int, qGeq_int, qEql_int, qAdd_int, qLenS_str, d1, d3, decide_true, hw6, d4, hw5, ia, qa, ib, qb]
      exact alone .nilp _ _ _ _ _ _ _ _ _ _ _ _ _ _ _ (hno.trans hn0.symm)
    rw [decide_eq_true ga] at qa hhp
    rw [decide_eq_true gb] at qb hhp
    have e76 := fun H => ep83 s hl (i + 7) (by omega) H
    have hr6 : (r.drop 4).drop 2 = s.drop (i + 7) := by rw [hr4, List.drop_drop]
    have hhalf : halfF v (r.drop 4) = match fourF (s.drop (i + 7)) with
        | some w => if w < 56320 ∨ 57344 ≤ w then none else some ((v - 55296) * 1024 + (w - 56320) + 65536, 10)
        | none => none := by
      unfold halfF
      rw [if_pos (by rw [hhp]; rfl), hr6] <;> (cases fourF (s.drop (i + 7)) <;> rfl)
    rw [hhalf] at hpt
    simp -implicitDefEqProofs only [r58_20, r58_21, opn_z, opn_s, sel_z, sel_s, qCd_eq, qIf_true, qRes_val, qPick_true, qG_tt, qLss_int, qLeq_int, qGeq_int, qEql_int, qAdd_int, qLenS_str, d1, d3, decide_true, hw6, d4, hw5, ia, qa, ib, qb, hw7, e76]
    cases hg : fourF (s.drop (i + 7)) with
    | none =>
      rw [hg] at hpt
      simp only at hpt
      have hz2 : fourZ (s.drop (i + 7)) = -1 := by simp [fourZ, hg]
      rw [hz2]
      have d5 : ¬ ((-1 : Int) ≥ 56320) := by omega
      simp -implicitDefEqProofs only [r58_22, opn_z, opn_s, sel_z, sel_s, qCd_eq, qIf_false, qPick_false, qG_ft, qGeq_int, d5, decide_false]
      exact alone .nilp _ _ _ _ _ _ _ _ _ _ _ _ _ _ _ (hpt.trans hn0.symm)
    | some w =>
      rw [hg] at hpt
      simp only at hpt
      have hz2 : fourZ (s.drop (i + 7)) = (w : Int) := by simp [fourZ, hg]
      rw [hz2]
      obtain ⟨hw, _⟩ := fourF_lt hg
      by_cases k1 : w < 56320
      · have d5 : ¬ ((w : Int) ≥ 56320) := by omega
        rw [if_pos (.inl k1)] at hpt
        simp -implicitDefEqProofs only [r58_22, opn_z, opn_s, sel_z, sel_s, qCd_eq, qIf_false, qPick_false, qG_ft, qGeq_int, d5, decide_false]
        exact alone .nilp _ _ _ _ _ _ _ _ _ _ _ _ _ _ _ (hpt.trans hn0.symm)
      have d5 : ((w : Int) ≥ 56320) := by omega
      by_cases k2 : 57344 ≤ w
      · have d6 : ¬ ((w : Int) ≤ 57343) := by omega
        rw [if_pos (.inr k2)] at hpt
        simp -implicitDefEqProofs only [r58_22, opn_z, opn_s, sel_z, sel_s, qCd_eq, qIf_false, qPick_true, qG_tt, qLeq_int, qGeq_int, d5, d6, decide_true, decide_false]
        exact alone .nilp _ _ _ _ _ _ _ _ _ _ _ _ _ _ _ (hpt.trans hn0.symm)
      have d6 : ((w : Int) ≤ 57343) := by omega
      rw [if_neg (by omega)] at hpt
      have b1 : IntKind.i64.wrap ((v : Int) - 55296) = ((v - 55296 : Nat) : Int) := by rw [i64_in' (by omega)]; omega
      have sh := shl10_i64 (v - 55296) (by omega)
      have b2 : IntKind.i64.wrap (65536 + (((v - 55296) * 1024 : Nat) : Int)) = ((65536 + (v - 55296) * 1024 : Nat) : Int) := by rw [i64_in' (by omega)]; omega
      have b3 : IntKind.i64.wrap (((65536 + (v - 55296) * 1024 : Nat) : Int) + (w : Int)) = ((65536 + (v - 55296) * 1024 + w : Nat) : Int) := by rw [i64_in' (by omega)]; omega
      have b4 : IntKind.i64.wrap (((65536 + (v - 55296) * 1024 + w : Nat) : Int) - 56320) = (((v - 55296) * 1024 + (w - 56320) + 65536 : Nat) : Int) := by rw [i64_in' (by omega)]; omega
      have e77 := fun H => ep84 ((v - 55296) * 1024 + (w - 56320) + 65536) (.inr (by omega)) H
      simp -implicitDefEqProofs only [r58_22, r58_23, opn_z, opn_s, sel_z, sel_s, qCd_eq, qIf_true, qO_some, qRes_val, qPick_true, qG_tt, qLeq_int, qGeq_int, qAdd_int, qSub_int, AV.kill, AV.kills, d5, d6, decide_true, b1, sh, b2, b3, b4, e77]
      rw [hpt]
      generalize (v - 55296) * 1024 + (w - 56320) + 65536 = N
      rfl
end T
set_option linter.unusedVariables false
set_option linter.unusedSimpArgs false
set_option maxRecDepth 10000
namespace T
open Go Go.Aes Go.Proofs
theorem esc_none {c : UInt8} (h : ¬ (c = 34 ∨ c = 92 ∨ c = 47)) (h1 : c ≠ 98) (h2 : c ≠ 102) (h3 : c ≠ 110) (h4 : c ≠ 114) (h5 : c ≠ 116) : Lib.indexByte escd c < 0 := by
  have hib := ib_ge escd c
  have hn : escd.contains c = false := by
    cases hx : escd.contains c with
    | false => rfl
    | true =>
      have hm : c ∈ escd := by simpa using hx
      simp only [escd, List.mem_cons, List.not_mem_nil, or_false] at hm
      rcases hm with rfl | rfl | rfl | rfl | rfl | rfl | rfl | rfl <;> simp_all
  rw [hn] at hib
  have := hib.2
  simp at this
  omega
theorem unqF_one (r : Str) : unqF (92 :: r) = match oneF r with
    | none => none
    | some q => (unqF (r.drop q.2)).map (q.1 ++ ·) := by
  rw [unqF_cons, if_neg (by decide), if_neg (by decide)]
  cases r with
  | nil => rfl
  | cons c t =>
    simp only [oneF]
    by_cases hu : c = 117
    · subst hu
      rw [if_pos rfl, if_neg (by decide), if_neg (by decide), if_neg (by decide), if_neg (by decide), if_neg (by decide), if_neg (by decide), if_pos rfl]
      cases hp : pointF t with
      | none => rfl
      | some q =>
        simp only [Option.map_some]
        rw [show 1 + q.2 = q.2 + 1 by omega, List.drop_succ_cons]
    · rw [if_neg hu]
      by_cases h0 : c = 34 ∨ c = 92 ∨ c = 47
      · rw [if_pos h0]
        rcases h0 with rfl | rfl | rfl <;> rfl
      rw [if_neg h0]
      by_cases h1 : c = 98
      · subst h1; rfl
      rw [if_neg h1]
      by_cases h2 : c = 102
      · subst h2; rfl
      rw [if_neg h2]
      by_cases h3 : c = 110
      · subst h3; rfl
      rw [if_neg h3]
      by_cases h4 : c = 114
      · subst h4; rfl
      rw [if_neg h4]
      by_cases h5 : c = 116
      · subst h5; rfl
      rw [if_neg h5, if_neg hu, if_pos (esc_none h0 h1 h2 h3 h4 h5)]
theorem oneF_lt {r : Str} {q : Str × Nat} (h : oneF r = some q) : q.1.length ≤ q.2 ∧ 1 ≤ q.2 ∧ q.2 ≤ r.length := by
  cases r with
  | nil => cases h
  | cons c t =>
    simp only [oneF] at h
    have one : ∀ x : UInt8, some ([x], 1) = some q → q.1.length ≤ q.2 ∧ 1 ≤ q.2 ∧ q.2 ≤ (c :: t).length := by
      intro x hx
      injection hx with hx
      subst hx
      simp
    by_cases h0 : c = 34 ∨ c = 92 ∨ c = 47
    · rw [if_pos h0] at h; exact one _ h
    rw [if_neg h0] at h
    by_cases h1 : c = 98
    · rw [if_pos h1] at h; exact one _ h
    rw [if_neg h1] at h
    by_cases h2 : c = 102
    · rw [if_pos h2] at h; exact one _ h
    rw [if_neg h2] at h
    by_cases h3 : c = 110
    · rw [if_pos h3] at h; exact one _ h
    rw [if_neg h3] at h
    by_cases h4 : c = 114
    · rw [if_pos h4] at h; exact one _ h
    rw [if_neg h4] at h
    by_cases h5 : c = 116
    · rw [if_pos h5] at h; exact one _ h
    rw [if_neg h5] at h
    by_cases h6 : c = 117
    · rw [if_pos h6] at h
      cases hp : pointF t with
      | none => rw [hp] at h; cases h
      | some p =>
        rw [hp] at h
        simp only [Option.map_some, Option.some.injEq] at h
        subst h
        obtain ⟨_, g2, g3⟩ := pointF_lt hp
        have := encR_len p.1
        simp only [List.length_cons]
        omega
    · rw [if_neg h6] at h; cases h
set_option maxHeartbeats 2000000 in
theorem ep34 (s : Str) (hl : s.length < 1000000000) (H : AH) : EP 42 [.str s] H = some (.val (uqR (uqF s)) H) := by
  refine uo_form (X := X) (D := OD2) (O := OF2) (S := PS) (al := [.str s]) e42 xf42 rfl rfl rfl (by cases uqF s <;> rfl) ?_ H
  simp only [AV.kills, AV.kill]
  by_cases h2 : s.length < 2
  · have c1 : (s.length : Int) < 2 := by omega
    simp -implicitDefEqProofs only [c42, r42_0, r42_1, r42_2, opn_z, opn_s, sel_z, sel_s, qCd_eq, qIf_true, qFn_eq, qBl_eq, qPick_true, qG_tf, qLss_int, qLenS_str, AV.kill, AV.kills, c1, decide_true]
    simp [uqF, h2, uqR]
  have c1 : ¬ (s.length : Int) < 2 := by omega
  obtain ⟨a, m, z, hs⟩ := two_ends s h2
  have hlen : s.length = m.length + 2 := by rw [hs]; simp
  have hs0 : s[0]? = some a := by rw [hs]; rfl
  have hsz : s[m.length + 1]? = some z := by rw [hs]; simp
  have i0 : ∀ k : AV → Prop, qIx (.str s) (.int .i64 0) k = k (.int .u8 a.toNat) := fun k => qIx_at s 0 a hs0 k
  have hw : IntKind.i64.wrap ((s.length : Int) - 1) = ((m.length + 1 : Nat) : Int) := by rw [i64_in' (by omega)]; omega
  have iz := fun k => qIx_at s (m.length + 1) z hsz k
  have hno : ∀ h : s.head? ≠ some 34 ∨ s.getLast? ≠ some 34 ∨ Lib.validD s = false, uqF s = none := fun h => if_pos (.inr h)
  by_cases ha : a = 34
  case neg =>
    have c2 : (((a.toNat : Nat) : Int) == 34) = false := by rw [show (((a.toNat : Nat) : Int) == 34) = decide (a = 34) from eqU a 34, decide_eq_false ha]
    simp -implicitDefEqProofs only [c42, r42_0, r42_1, r42_2, opn_z, opn_s, sel_z, sel_s, qCd_eq, qIf_true, qFn_eq, qBl_eq, qPick_true, qPick_false, qG_ff, qG_tf, qLss_int, qNeq_int, qLenS_str, AV.kill, AV.kills, c1, decide_false, i0, c2, Bool.not_false]
    rw [hno (.inl (by rw [hs]; simpa using ha))]
    rfl
  have c2 : (((a.toNat : Nat) : Int) == 34) = true := by rw [show (((a.toNat : Nat) : Int) == 34) = decide (a = 34) from eqU a 34, decide_eq_true ha]
  by_cases hz : z = 34
  case neg =>
    have c1003 : (((z.toNat : Nat) : Int) == 34) = false := by rw [show (((z.toNat : Nat) : Int) == 34) = decide (z = 34) from eqU z 34, decide_eq_false hz]
    simp -implicitDefEqProofs only [c42, r42_0, r42_1, r42_2, opn_z, opn_s, sel_z, sel_s, qCd_eq, qIf_true, qFn_eq, qBl_eq, qPick_true, qPick_false, qG_ff, qG_tf, qLss_int, qNeq_int, qSub_int, qLenS_str, AV.kill, AV.kills, c1, decide_false, i0, c2, Bool.not_true, hw, iz, c1003, Bool.not_false]
    rw [hno (.inr (.inl (by rw [hs, ← List.cons_append, List.getLast?_concat]; simpa using hz)))]
    rfl
  have c1003 : (((z.toNat : Nat) : Int) == 34) = true := by rw [show (((z.toNat : Nat) : Int) == 34) = decide (z = 34) from eqU z 34, decide_eq_true hz]
  have e57 := fun H => ep35 s (by omega) H
  cases hv : Lib.validD s with
  | false =>
    rw [hv] at e57
    simp -implicitDefEqProofs only [c42, r42_0, r42_1, r42_2, opn_z, opn_s, sel_z, sel_s, qCd_eq, qIf_true, qFn_eq, qBl_eq, qRes_val, qPick_false, qG_ff, qNot_bool, qLss_int, qNeq_int, qSub_int, qLenS_str, AV.kill, AV.kills, c1, decide_false, i0, c2, Bool.not_true, hw, iz, c1003, e57, Bool.not_false]
    rw [hno (.inr (.inr hv))]
    rfl
  | true =>
  rw [hv] at e57
  subst ha; subst hz
  have hvm : Lib.validD m = true := by
    cases hx : Lib.validD m with
    | true => rfl
    | false =>
      have hh : Lib.validD [34] = true := by decide
      have := validD_bad (valid_halt hh) _ m (Nat.le_refl _) hx
      rw [hs, Lib.validD_cons _ _ (by decide), this] at hv
      cases hv
  have hU : uqF s = unqF m := by rw [hs, uqF_mid, hvm]; rfl
  have sl : ∀ k : AV → Prop, qSlc Tryz.t9.desc 0 (.str s) (some (.int .i64 1)) (some (.int .i64 ((m.length + 1 : Nat) : Int))) none k = k (.str m) := fun k => by
    have := slcS_mid s 1 (m.length + 1) (by omega) (by omega) k
    rw [show (s.take (m.length + 1)).drop 1 = m by rw [hs]; simp] at this
    exact this
  rw [hU]
  simp -implicitDefEqProofs only [c42, r42_0, r42_1, r42_3, r42_4, r42_5, opn_z, opn_s, sel_z, sel_s, qCd_eq, qIf_false, qFn_eq, qBl_eq, qRes_val, qPick_false, qG_ff, qNot_bool, qLss_int, qNeq_int, qSub_int, qLenS_str, c1, decide_false, i0, c2, Bool.not_true, hw, iz, e57, sl]
  have hml : m.length < 1000000000 := by omega
  clear i0 iz hsz hs0 hs hno c2 c1003 e57 sl hw hU c1 h2 hv hvm
  refine loop_inv (fun mm fr H' => ∃ (i : Nat) (t : Str) (x2 x3 x7 x8 x29 x38 x48 x61 x69 : AV), mm = m.length - i ∧ fr = [.str s, x2, x3, .str m, .str t, .int .i64 (i : Int), x7, x8, x29, x38, x48, x61, x69] ∧ i ≤ m.length ∧ unqF m = (unqF (m.drop i)).map (t ++ ·) ∧ t.length ≤ i) ?_ (m := m.length) ?_
  case refine_2 => exact ⟨0, [], _, _, _, _, _, _, _, _, _, rfl, rfl, by omega, by simp, by simp⟩
  rintro mm fr H' k ⟨i, t, x2, x3, x7, x8, x29, x38, x48, x61, x69, rfl, rfl, hi, hX, ht⟩ hk
  rcases Nat.lt_or_ge i m.length with h | h
  case inr =>
    have d1 : ¬ (i : Int) < (m.length : Int) := by omega
    simp -implicitDefEqProofs only [l42_8, r42_6, r42_15, opn_z, opn_s, sel_z, sel_s, qCd_eq, qIf_false, qBl_eq, qLss_int, qLenS_str, AV.kill, AV.kills, d1, decide_false]
    rw [List.drop_of_length_le h] at hX
    rw [hX]
    simp [unqF, unqN, uqR]
  have d1 : (i : Int) < (m.length : Int) := by omega
  obtain ⟨c, hc⟩ : ∃ c, m[i]? = some c := ⟨_, List.getElem?_eq_getElem h⟩
  have ix := fun k => qIx_at m i c hc k
  have hd : m.drop i = c :: m.drop (i + 1) := by
    rw [List.drop_eq_getElem_cons h]
    congr 1
    have := List.getElem?_eq_getElem h
    rw [hc] at this
    injection this with this
    exact this.symm
  rw [hd] at hX
  have hw1 := wrap_up i (by omega)
  by_cases h92 : c = 92
  · subst h92
    have q92 : ((((92 : UInt8).toNat : Nat) : Int) == 92) = true := by decide
    rw [unqF_one] at hX
    have e58 := fun H => ep57 m hml (i + 1) (by omega) H
    cases ho : oneF (m.drop (i + 1)) with
    | none =>
      rw [ho] at e58 hX
      simp only [oneR] at e58
      simp only [Option.map_none] at hX
      have z0 : ((0 : Int) == 0) = true := by decide
      simp -implicitDefEqProofs only [l42_8, r42_6, r42_8, r42_9, r42_10, r42_11, opn_z, opn_s, sel_z, sel_s, qCd_eq, qIf_true, qBl_eq, qO_some, qRes_val, qExt_tup, qLss_int, qEql_int, qAdd_int, qLenS_str, List.getElem?_cons_zero, List.getElem?_cons_succ, AV.kill, AV.kills, d1, decide_true, ix, q92, hw1, e58, z0]
      rw [hX]
      rfl
    | some q =>
      rw [ho] at e58 hX
      simp only [oneR] at e58
      simp only at hX
      obtain ⟨g1, g2, g3⟩ := oneF_lt ho
      rw [List.length_drop] at g3
      have z0 : (((q.2 : Nat) : Int) == 0) = false := by simp; omega
      have ad : ∀ k : AV → Prop, qAdd X 9 (.str t) (.str q.1) k = k (.str (t ++ q.1)) := fun k => qAdd_str (R := Prop) X 9 t q.1 (by unfold most; omega) k
      have hw2 : IntKind.i64.wrap (((i + 1 : Nat) : Int) + (q.2 : Int)) = ((i + 1 + q.2 : Nat) : Int) := by rw [i64_in' (by omega)]; omega
      simp -implicitDefEqProofs only [l42_8, r42_6, r42_8, r42_9, r42_10, r42_12, opn_z, opn_s, sel_z, sel_s, qCd_eq, qIf_true, qIf_false, qBl_eq, qO_some, qRes_val, qExt_tup, qLss_int, qEql_int, qAdd_int, qLenS_str, List.getElem?_cons_zero, List.getElem?_cons_succ, d1, decide_true, ix, q92, hw1, e58, z0, ad, hw2]
      refine hk (m.length - (i + 1 + q.2)) _ _ (by omega) ⟨i + 1 + q.2, t ++ q.1, _, _, _, _, _, _, _, _, _, rfl, rfl, by omega, ?_, by rw [List.length_append]; omega⟩
      rw [hX, List.drop_drop, Option.map_map]
      congr 1
      funext x
      simp
  · have q92 : (((c.toNat : Nat) : Int) == 92) = false := by rw [show (((c.toNat : Nat) : Int) == 92) = decide (c = 92) from eqU c 92, decide_eq_false h92]
    rw [unqF_cons] at hX
    by_cases h32 : c.toNat < 32
    · have d2 : ((c.toNat : Nat) : Int) < 32 := by omega
      rw [if_pos (.inl h32)] at hX
      simp -implicitDefEqProofs only [l42_8, r42_6, r42_8, r42_13, r42_14, opn_z, opn_s, sel_z, sel_s, qCd_eq, qIf_true, qIf_false, qBl_eq, qPick_true, qG_tf, qLss_int, qEql_int, qLenS_str, AV.kill, AV.kills, d1, d2, decide_true, ix, q92]
      rw [hX]
      rfl
    have d2 : ¬ ((c.toNat : Nat) : Int) < 32 := by omega
    by_cases h34 : c = 34
    · have q34 : (((c.toNat : Nat) : Int) == 34) = true := by rw [show (((c.toNat : Nat) : Int) == 34) = decide (c = 34) from eqU c 34, decide_eq_true h34]
      rw [if_pos (.inr h34)] at hX
      simp -implicitDefEqProofs only [l42_8, r42_6, r42_8, r42_13, r42_14, opn_z, opn_s, sel_z, sel_s, qCd_eq, qIf_true, qIf_false, qBl_eq, qPick_false, qG_ff, qLss_int, qEql_int, qLenS_str, AV.kill, AV.kills, d1, d2, decide_true, decide_false, ix, q92, q34]
      rw [hX]
      rfl
    have q34 : (((c.toNat : Nat) : Int) == 34) = false := by rw [show (((c.toNat : Nat) : Int) == 34) = decide (c = 34) from eqU c 34, decide_eq_false h34]
    rw [if_neg (by rintro (g | g) <;> contradiction), if_pos h92] at hX
    have so := fun k => slc_one hc k
    have ad : ∀ k : AV → Prop, qAdd X 9 (.str t) (.str [c]) k = k (.str (t ++ [c])) := fun k => qAdd_str (R := Prop) X 9 t [c] (by simp; unfold most; omega) k
    simp -implicitDefEqProofs only [l42_8, r42_6, r42_8, r42_13, r42_7, opn_z, opn_s, sel_z, sel_s, qCd_eq, qIf_true, qIf_false, qBl_eq, qPick_false, qG_ff, qLss_int, qEql_int, qAdd_int, qLenS_str, d1, d2, decide_true, decide_false, ix, q92, q34, hw1, so, ad]
    refine hk (m.length - (i + 1)) _ _ (by omega) ⟨i + 1, t ++ [c], _, _, _, _, _, _, _, _, _, rfl, rfl, by omega, ?_, by simp; omega⟩
    rw [hX, Option.map_map]
    congr 1
    funext x
    simp
end T
