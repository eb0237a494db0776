import Derived.Test.YtgmifbbimcblcaaShareZ
import Derived.Test.YtgmifbbimcblcaaRefX
set_option linter.all false
set_option linter.unusedVariables false
set_option linter.unusedSimpArgs false
set_option maxRecDepth 10000
namespace T
open Go Go.Aes Go.Proofs

/-! ### two who always have something -/
/-- whose visit of this round has begun -/
def beg (s : Sh) (i : Nat) : Int := if i < s.pos ∨ (i = s.pos ∧ s.vis = true) then 1 else 0

structure GS (n : Nat) (q : Int) (w : List Int) (s : Sh) (r : Int) : Prop where
  n_ : s.n = n
  q_ : s.q = q
  n8 : n ≤ 8
  wl : s.W.length = 8
  cl : s.Cr.length = 8
  vl : s.Sv.length = 8
  W : ∀ l, l < n → s.W.getD l 0 = w.getD l 0
  wb : ∀ l, l < n → 1 ≤ w.getD l 0 ∧ w.getD l 0 ≤ 10
  qb : 50 ≤ q ∧ q ≤ 249
  pos : s.pos < n
  sv : ∀ l, l < n → s.Sv.getD l 0 + s.Cr.getD l 0 = q * w.getD l 0 * (r + beg s l)
  c0 : ∀ l, l < n → 0 ≤ s.Cr.getD l 0
  c1 : ∀ l, l < n → ¬ (l = s.pos ∧ s.vis = true) → s.Cr.getD l 0 ≤ 49
  c2 : s.vis = true → s.Cr.getD s.pos 0 ≤ q * w.getD s.pos 0 + 49

theorem qw_bd10 {q x : Int} (hq : 50 ≤ q ∧ q ≤ 249) (hx : 1 ≤ x ∧ x ≤ 10) : 50 ≤ q * x ∧ q * x ≤ 2490 := by
  have h1 := Int.mul_le_mul hq.1 hx.1 (by decide) (by omega)
  have h2 := Int.mul_le_mul hq.2 hx.2 (by omega) (by decide)
  omega

theorem GS.step {n : Nat} {q : Int} {w A : List Int} (hA : ∀ l, l < n → 1 ≤ A.getD l 0 ∧ A.getD l 0 ≤ 50) {s : Sh} {r : Int} (h : GS n q w s r) : ∃ r', GS n q w (stp A s).1 r' := by
  obtain ⟨n_, q_, n8, wl, cl, vl, W, wb, qb, pos, sv, c0, c1, c2⟩ := h
  have qw := qw_bd10 qb (wb s.pos pos)
  have ha := hA s.pos pos
  have hpl : s.pos < s.Cr.length := by omega
  have hvl : s.pos < s.Sv.length := by omega
  have hsv := sv s.pos pos
  have hc0 := c0 s.pos pos
  unfold stp
  simp only []
  rw [if_neg (by omega)]
  generalize hc : (if s.vis = true then s.Cr.getD s.pos 0 else s.Cr.getD s.pos 0 + s.q * s.W.getD s.pos 0) = c
  -- what is there once the visit has begun
  have key : s.Sv.getD s.pos 0 + c = q * w.getD s.pos 0 * (r + 1) ∧ 0 ≤ c ∧ c ≤ q * w.getD s.pos 0 + 49 := by
    cases hv : s.vis with
    | true =>
      rw [if_pos hv] at hc
      subst hc
      have : beg s s.pos = 1 := by unfold beg; rw [if_pos (.inr ⟨rfl, hv⟩)]
      rw [this] at hsv
      exact ⟨hsv, hc0, c2 hv⟩
    | false =>
      rw [if_neg (by rw [hv]; decide), q_, W s.pos pos] at hc
      have : beg s s.pos = 0 := by unfold beg; rw [if_neg (by rw [hv]; simp)]
      rw [this] at hsv
      have h49 := c1 s.pos pos (by rw [hv]; simp)
      have hm : q * w.getD s.pos 0 * (r + 1) = q * w.getD s.pos 0 * (r + 0) + q * w.getD s.pos 0 := by rw [Int.add_zero, Int.mul_add, Int.mul_one]
      omega
  obtain ⟨k1, k2, k3⟩ := key
  by_cases hle : A.getD s.pos 0 ≤ c
  · rw [if_pos hle]
    refine ⟨r, n_, q_, n8, wl, by simpa using cl, by simpa using vl, W, wb, qb, pos, fun l hl => ?_, fun l hl => ?_, fun l hl hn => ?_, fun _ => ?_⟩
    · show (s.Sv.set s.pos _).getD l 0 + (s.Cr.set s.pos _).getD l 0 = _
      by_cases e : l = s.pos
      · subst e
        rw [getD_set_eq hpl, getD_set_eq hvl]
        have : beg { s with Cr := s.Cr.set s.pos (c - A.getD s.pos 0), Sv := s.Sv.set s.pos (s.Sv.getD s.pos 0 + A.getD s.pos 0), vis := true } s.pos = 1 := by unfold beg; rw [if_pos (.inr ⟨rfl, rfl⟩)]
        rw [this]
        omega
      · rw [getD_set_ne (Ne.symm e), getD_set_ne (Ne.symm e), sv l hl]
        congr 2
        unfold beg
        simp only [e, false_and, or_false]
    · show 0 ≤ (s.Cr.set s.pos _).getD l 0
      by_cases e : l = s.pos
      · subst e; rw [getD_set_eq hpl]; omega
      · rw [getD_set_ne (Ne.symm e)]; exact c0 l hl
    · show (s.Cr.set s.pos _).getD l 0 ≤ 49
      have e : l ≠ s.pos := fun e => hn ⟨e, rfl⟩
      rw [getD_set_ne (Ne.symm e)]
      exact c1 l hl (fun h => e h.1)
    · show (s.Cr.set s.pos _).getD s.pos 0 ≤ _
      rw [getD_set_eq hpl]
      show _ ≤ q * w.getD s.pos 0 + 49
      omega
  · rw [if_neg hle]
    have hmod : (s.pos + 1) % s.n < n := by rw [n_]; exact Nat.mod_lt _ (by omega)
    by_cases hlast : s.pos + 1 < n
    · have hm : (s.pos + 1) % s.n = s.pos + 1 := by rw [n_]; exact Nat.mod_eq_of_lt hlast
      refine ⟨r, n_, q_, n8, wl, by simpa using cl, vl, W, wb, qb, hmod, fun l hl => ?_, fun l hl => ?_, fun l hl hn => ?_, fun h => by cases h⟩
      · show s.Sv.getD l 0 + (s.Cr.set s.pos _).getD l 0 = _
        by_cases e : l = s.pos
        · subst e
          rw [getD_set_eq hpl]
          have : beg { s with Cr := s.Cr.set s.pos c, pos := (s.pos + 1) % s.n, vis := false } s.pos = 1 := by unfold beg; rw [if_pos (.inl (by show s.pos < (s.pos + 1) % s.n; omega))]
          rw [this]
          exact k1
        · rw [getD_set_ne (Ne.symm e), sv l hl]
          congr 2
          unfold beg
          simp only [e, false_and, or_false, Bool.false_eq_true, and_false, hm]
          have : (l < s.pos) ↔ (l < s.pos + 1) := by omega
          simp only [this]
      · show 0 ≤ (s.Cr.set s.pos _).getD l 0
        by_cases e : l = s.pos
        · subst e; rw [getD_set_eq hpl]; omega
        · rw [getD_set_ne (Ne.symm e)]; exact c0 l hl
      · show (s.Cr.set s.pos _).getD l 0 ≤ 49
        by_cases e : l = s.pos
        · subst e; rw [getD_set_eq hpl]; omega
        · rw [getD_set_ne (Ne.symm e)]; exact c1 l hl (fun h => e h.1)
    · have hm : (s.pos + 1) % s.n = 0 := by rw [n_, show s.pos + 1 = n by omega]; exact Nat.mod_self n
      refine ⟨r + 1, n_, q_, n8, wl, by simpa using cl, vl, W, wb, qb, hmod, fun l hl => ?_, fun l hl => ?_, fun l hl hn => ?_, fun h => by cases h⟩
      · show s.Sv.getD l 0 + (s.Cr.set s.pos _).getD l 0 = _
        have hb : beg { s with Cr := s.Cr.set s.pos c, pos := (s.pos + 1) % s.n, vis := false } l = 0 := by unfold beg; rw [if_neg]; simp only [hm, Bool.false_eq_true, and_false, or_false]; omega
        rw [hb]
        by_cases e : l = s.pos
        · subst e
          rw [getD_set_eq hpl, Int.add_zero]
          exact k1
        · rw [getD_set_ne (Ne.symm e), sv l hl]
          have : beg s l = 1 := by unfold beg; rw [if_pos (.inl (by omega))]
          rw [this, Int.add_zero]
      · show 0 ≤ (s.Cr.set s.pos _).getD l 0
        by_cases e : l = s.pos
        · subst e; rw [getD_set_eq hpl]; omega
        · rw [getD_set_ne (Ne.symm e)]; exact c0 l hl
      · show (s.Cr.set s.pos _).getD l 0 ≤ 49
        by_cases e : l = s.pos
        · subst e; rw [getD_set_eq hpl]; omega
        · rw [getD_set_ne (Ne.symm e)]; exact c1 l hl (fun h => e h.1)

theorem GS.srv {n : Nat} {q : Int} {w A : List Int} (hA : ∀ l, l < n → 1 ≤ A.getD l 0 ∧ A.getD l 0 ≤ 50) : ∀ {m : Nat} {s : Sh} {r : Int} {R : Nat × Sh}, GS n q w s r → T.srv A m s = some R → ∃ r', GS n q w R.2 r'
  | 0, s, r, R, h, hr => by cases hr
  | m + 1, s, r, R, h, hr => by
    obtain ⟨r', h1⟩ := h.step hA
    simp only [T.srv] at hr
    cases hst : stp A s with
    | mk s' o =>
      rw [hst] at hr h1
      cases o with
      | some i =>
        simp only [Option.some.injEq] at hr
        subst hr
        exact ⟨r', h1⟩
      | none =>
        simp only at hr h1
        exact GS.srv hA h1 hr

/-- whose visit has begun at neither, one or both -/
theorem beg_bd {s s' : Sh} {i j : Nat} (hij : i ≠ j) : (beg s' i - beg s i) - (beg s' j - beg s j) + (if i = s.pos ∧ s.vis = true then 1 else 0) + (if j = s'.pos ∧ s'.vis = true then 1 else 0) ≤ 1 := by
  unfold beg
  cases hv : s.vis <;> cases hv' : s'.vis <;> simp only [Bool.false_eq_true, and_false, or_false, and_true, if_false] <;> (repeat' split) <;> omega

end T
set_option linter.unusedVariables false
set_option linter.unusedSimpArgs false
set_option maxRecDepth 10000
namespace T
open Go Go.Aes Go.Proofs

theorem GS.fair {n : Nat} {q : Int} {w : List Int} {s s' : Sh} {r r' : Int} (h : GS n q w s r) (h' : GS n q w s' r') {i j : Nat} (hi : i < n) (hj : j < n) :
    (s'.Sv.getD i 0 - s.Sv.getD i 0) * w.getD j 0 - (s'.Sv.getD j 0 - s.Sv.getD j 0) * w.getD i 0 ≤ w.getD i 0 * w.getD j 0 * q + 50 * (w.getD i 0 + w.getD j 0) := by
  have wi := h.wb i hi
  have wj := h.wb j hj
  have qi := qw_bd10 h.qb wi
  have qb := h.qb
  have P0 : 0 ≤ q * w.getD i 0 * w.getD j 0 := Int.mul_nonneg (by omega) (by omega)
  have eP : w.getD i 0 * w.getD j 0 * q = q * w.getD i 0 * w.getD j 0 := by rw [Int.mul_comm (w.getD i 0 * w.getD j 0) q, Int.mul_assoc]
  by_cases e : i = j
  · subst e
    rw [Int.sub_self, eP]
    omega
  have hb := beg_bd (s := s) (s' := s') e
  -- credits
  have C1 : s.Cr.getD i 0 * w.getD j 0 ≤ q * w.getD i 0 * w.getD j 0 * (if i = s.pos ∧ s.vis = true then 1 else 0) + 49 * w.getD j 0 := by
    split
    · rename_i ho
      have := h.c2 ho.2
      rw [← ho.1] at this
      have h1 := Int.mul_le_mul_of_nonneg_right this (by omega : 0 ≤ w.getD j 0)
      rw [Int.add_mul] at h1
      omega
    · rename_i ho
      have h1 := Int.mul_le_mul_of_nonneg_right (h.c1 i hi ho) (by omega : 0 ≤ w.getD j 0)
      omega
  have C2 : s'.Cr.getD j 0 * w.getD i 0 ≤ q * w.getD i 0 * w.getD j 0 * (if j = s'.pos ∧ s'.vis = true then 1 else 0) + 49 * w.getD i 0 := by
    split
    · rename_i ho
      have := h'.c2 ho.2
      rw [← ho.1] at this
      have h1 := Int.mul_le_mul_of_nonneg_right this (by omega : 0 ≤ w.getD i 0)
      rw [Int.add_mul, Int.mul_right_comm] at h1
      omega
    · rename_i ho
      have h1 := Int.mul_le_mul_of_nonneg_right (h'.c1 j hj ho) (by omega : 0 ≤ w.getD i 0)
      omega
  have D1 : 0 ≤ s'.Cr.getD i 0 * w.getD j 0 := Int.mul_nonneg (h'.c0 i hi) (by omega)
  have D2 : 0 ≤ s.Cr.getD j 0 * w.getD i 0 := Int.mul_nonneg (h.c0 j hj) (by omega)
  -- what they were served
  have S : ∀ {t : Sh} {r : Int}, GS n q w t r → t.Sv.getD i 0 * w.getD j 0 + t.Cr.getD i 0 * w.getD j 0 = q * w.getD i 0 * w.getD j 0 * r + q * w.getD i 0 * w.getD j 0 * beg t i ∧
      t.Sv.getD j 0 * w.getD i 0 + t.Cr.getD j 0 * w.getD i 0 = q * w.getD i 0 * w.getD j 0 * r + q * w.getD i 0 * w.getD j 0 * beg t j := fun {t r} g => by
    constructor
    · rw [← Int.add_mul, g.sv i hi, Int.mul_right_comm, Int.mul_add]
    · rw [← Int.add_mul, g.sv j hj, Int.mul_right_comm, Int.mul_right_comm q (w.getD j 0), Int.mul_add]
  obtain ⟨s1, s2⟩ := S h
  obtain ⟨s3, s4⟩ := S h'
  have hm := Int.mul_le_mul_of_nonneg_left hb P0
  rw [Int.mul_one, Int.mul_add, Int.mul_add, Int.mul_sub, Int.mul_sub, Int.mul_sub] at hm
  rw [eP, Int.sub_mul, Int.sub_mul]
  generalize q * w.getD i 0 * w.getD j 0 = P at *
  generalize (if i = s.pos ∧ s.vis = true then (1 : Int) else 0) = o1 at *
  generalize (if j = s'.pos ∧ s'.vis = true then (1 : Int) else 0) = o2 at *
  omega

end T
set_option linter.unusedVariables false
set_option linter.unusedSimpArgs false
set_option maxRecDepth 10000
namespace T
open Go Go.Aes Go.Proofs

section
variable {O : CallF} (hO : OutO O)
include hO

theorem fair_w {ws : List Int} {tk1 : Tk} {S2 S3 S4 S11 : AV} (K : KT Prop)
    (hK : ∀ (v : AV) (H' : AH), Aes.Fn H' → Own H' v (wts ws 10 (min ws.length 6)) → ∀ (x0 x10 x13 x14 x15 x16 x17 x18 x19 x20 x21 x22 x23 x24 x25 x26 x37 x68 x84 x89 x98 x135 x154 x158 x164 x220 : AV), K [x0, .sl (intRows .i64 ws) tk1, S2, S3, S4, x10, S11, v, x13, x14, x15, x16, x17, x18, x19, x20, x21, x22, x23, x24, x25, x26, x37, x68, x84, x89, x98, x135, x154, x158, x164, x220] H')
    {H : AH} (hf : Aes.Fn H) (x0 x10 x14 x15 x16 x17 x18 x19 x20 x21 x22 x23 x24 x25 x26 x37 x68 x84 x89 x98 x135 x154 x158 x164 x220 : AV) :
    qLoop (l7_25 (evl X O) K) [x0, .sl (intRows .i64 ws) tk1, S2, S3, S4, x10, S11, .sl [] .nil, .int .i64 0, x14, x15, x16, x17, x18, x19, x20, x21, x22, x23, x24, x25, x26, x37, x68, x84, x89, x98, x135, x154, x158, x164, x220] H := by
  refine loop_inv (fun m fr H => ∃ (i : Nat) (v : AV) (x0 x10 x14 x15 x16 x17 x18 x19 x20 x21 x22 x23 x24 x25 x26 x37 x68 x84 x89 x98 x135 x154 x158 x164 x220 : AV), m = 6 - i ∧ i ≤ min ws.length 6 ∧ fr = [x0, .sl (intRows .i64 ws) tk1, S2, S3, S4, x10, S11, v, .int .i64 (i : Int), x14, x15, x16, x17, x18, x19, x20, x21, x22, x23, x24, x25, x26, x37, x68, x84, x89, x98, x135, x154, x158, x164, x220] ∧ Aes.Fn H ∧ Own H v (wts ws 10 i)) ?_ (m := 6) ?_
  · rintro m fr H k ⟨i, v, x0, x10, x14, x15, x16, x17, x18, x19, x20, x21, x22, x23, x24, x25, x26, x37, x68, x84, x89, x98, x135, x154, x158, x164, x220, rfl, hi, rfl, hf, ow⟩ hk
    by_cases h1 : i < ws.length
    · have h1' : (i : Int) < ((intRows .i64 ws).length : Int) := by rw [intRows_len]; omega
      by_cases h2 : i < 6
      · have h2' : (i : Int) < 6 := by omega
        have hz : ws[i]? = some ws[i] := List.getElem?_eq_getElem h1
        have hia := qIa_ints (tk := tk1) hz
        have p0 := Int.emod_nonneg ws[i] (by decide : (10 : Int) ≠ 0)
        have p1 := Int.emod_lt_of_pos ws[i] (by decide : (0 : Int) < 10)
        have pl := fun H => ev_place hO ws[i] 10 (by decide) (by decide) H
        obtain ⟨v', H', a1, a2, a3, _, _⟩ := app_own hf ow (by rw [wts_len _ _ _ (by omega)]; omega) (1 + ws[i] % 10)
        rw [← wts_succ _ _ _ _ hz] at a2
        simp only [l7_25, r7_4, r7_5, r7_6, opn_z, opn_s, sel_z, sel_s, qCd_eq, qIf_true, qIf_false, qFn_eq, qBl_eq, qO_some, qRes_val, qHp_some, qPick_true, qPick_false, qG_tt, qG_ff, qG_tf, qG_ft, cellsK_some, qLd_vptr, qLdA_vptr, qFa_ptr, qFa_vptr, qNc_ptr, qNc_vptr, qNc_fn, qNot_bool, qExt_tup, qCallV_fn, qLss_int, qLeq_int, qGtr_int, qGeq_int, qEql_int, qNeq_int, qAdd_int, qSub_int, qMul_int, qConvI_int, qLenL_sl, qLenL_hsl, qLenS_str, foldO, min2_int, max2_int, qSame_refl, Nat.zero_add, List.getElem?_cons_zero, List.getElem?_cons_succ, List.nil_append, List.cons_append, List.append_nil, one_bool, one_int, one_str, one_nilp, one_ptr, one_sl, one_hsl, one_map, one_fn, List.length_cons, List.length_nil, List.set_cons_zero, List.set_cons_succ, Nat.reduceLT, Nat.reduceAdd, qLd_vptr, h1', h2', decide_true, hia, pl, i64_in (x := 1 + ws[i] % 10) (by omega), rows1, a1, wrap_succ i (by omega)]
        exact hk (6 - (i + 1)) _ _ (by omega) ⟨i + 1, v', _, _, _, _, _, _, _, _, _, _, _, _, _, _, _, _, _, _, _, _, _, _, _, _, _, rfl, by omega, rfl, a3.fn, a2⟩
      · have h2' : ¬ (i : Int) < 6 := by omega
        have : i = min ws.length 6 := by omega
        subst this
        simp only [l7_25, r7_4, opn_z, opn_s, sel_z, sel_s, qCd_eq, qIf_true, qIf_false, qFn_eq, qBl_eq, qO_some, qRes_val, qHp_some, qPick_true, qPick_false, qG_tt, qG_ff, qG_tf, qG_ft, cellsK_some, qLd_vptr, qLdA_vptr, qFa_ptr, qFa_vptr, qNc_ptr, qNc_vptr, qNc_fn, qNot_bool, qExt_tup, qCallV_fn, qLss_int, qLeq_int, qGtr_int, qGeq_int, qEql_int, qNeq_int, qAdd_int, qSub_int, qMul_int, qConvI_int, qLenL_sl, qLenL_hsl, qLenS_str, foldO, min2_int, max2_int, qSame_refl, Nat.zero_add, List.getElem?_cons_zero, List.getElem?_cons_succ, List.nil_append, List.cons_append, List.append_nil, one_bool, one_int, one_str, one_nilp, one_ptr, one_sl, one_hsl, one_map, one_fn, List.length_cons, List.length_nil, List.set_cons_zero, List.set_cons_succ, Nat.reduceLT, Nat.reduceAdd, h1', h2', decide_true, decide_false]
        exact hK v H hf ow _ _ _ _ _ _ _ _ _ _ _ _ _ _ _ _ _ _ _ _ _ _ _ _ _ _
    · have h1' : ¬ (i : Int) < ((intRows .i64 ws).length : Int) := by rw [intRows_len]; omega
      have : i = min ws.length 6 := by omega
      subst this
      simp only [l7_25, r7_4, opn_z, opn_s, sel_z, sel_s, qCd_eq, qIf_true, qIf_false, qFn_eq, qBl_eq, qO_some, qRes_val, qHp_some, qPick_true, qPick_false, qG_tt, qG_ff, qG_tf, qG_ft, cellsK_some, qLd_vptr, qLdA_vptr, qFa_ptr, qFa_vptr, qNc_ptr, qNc_vptr, qNc_fn, qNot_bool, qExt_tup, qCallV_fn, qLss_int, qLeq_int, qGtr_int, qGeq_int, qEql_int, qNeq_int, qAdd_int, qSub_int, qMul_int, qConvI_int, qLenL_sl, qLenL_hsl, qLenS_str, foldO, min2_int, max2_int, qSame_refl, Nat.zero_add, List.getElem?_cons_zero, List.getElem?_cons_succ, List.nil_append, List.cons_append, List.append_nil, one_bool, one_int, one_str, one_nilp, one_ptr, one_sl, one_hsl, one_map, one_fn, List.length_cons, List.length_nil, List.set_cons_zero, List.set_cons_succ, Nat.reduceLT, Nat.reduceAdd, h1', decide_false]
      exact hK v H hf ow _ _ _ _ _ _ _ _ _ _ _ _ _ _ _ _ _ _ _ _ _ _ _ _ _ _
  · exact ⟨0, .sl [] .nil, _, _, _, _, _, _, _, _, _, _, _, _, _, _, _, _, _, _, _, _, _, _, _, _, _, rfl, by omega, rfl, hf, .inl ⟨rfl, rfl⟩⟩

/-- the costs of one step -/
theorem fair_c {costs : List Int} {tkc : Tk} {S1 S3 S4 S10 S11 S12 S14 S15 S16 : AV} {n pS pc t : Nat} {s : Sh} (hc0 : costs.length ≠ 0) (hc1 : costs.length ≤ 100) (ht : t ≤ 1000) (hn : n ≤ 8) (hne : pc ≠ pS) (K : KT Prop)
    (hK : ∀ (H' : AH) (cs : List Int), Aes.Fn H' → H'.get pS = some (.cells s.cells) → H'.get pc = some (.cells (ints cs)) → cs.length = n → (∀ l, l < n → 1 ≤ cs.getD l 0 ∧ cs.getD l 0 ≤ 50) →
      ∀ (x0 x13 x19 x20 x21 x22 x23 x24 x25 x26 x37 x68 x84 x89 x98 x135 x154 x158 x164 x220 : AV), K [x0, S1, .sl (intRows .i64 costs) tkc, S3, S4, S10, S11, S12, x13, S14, S15, S16, .int .i64 (t : Int), hs pc n, x19, x20, x21, x22, x23, x24, x25, x26, x37, x68, x84, x89, x98, x135, x154, x158, x164, x220] H')
    {H : AH} (hf : Aes.Fn H) (h1 : H.get pS = some (.cells s.cells)) (h2 : H.get pc = some (.cells (ints (List.replicate n 0)))) (x0 x13 x20 x21 x22 x23 x24 x25 x26 x37 x68 x84 x89 x98 x135 x154 x158 x164 x220 : AV) :
    qLoop (l7_18 (evl X O) K) [x0, S1, .sl (intRows .i64 costs) tkc, S3, S4, S10, S11, S12, x13, S14, S15, S16, .int .i64 (t : Int), hs pc n, .int .i64 0, x20, x21, x22, x23, x24, x25, x26, x37, x68, x84, x89, x98, x135, x154, x158, x164, x220] H := by
  refine loop_inv (fun m fr H => ∃ (i : Nat) (cs : List Int) (x0 x13 x20 x21 x22 x23 x24 x25 x26 x37 x68 x84 x89 x98 x135 x154 x158 x164 x220 : AV), m = 8 - i ∧ i ≤ n ∧ fr = [x0, S1, .sl (intRows .i64 costs) tkc, S3, S4, S10, S11, S12, x13, S14, S15, S16, .int .i64 (t : Int), hs pc n, .int .i64 (i : Int), x20, x21, x22, x23, x24, x25, x26, x37, x68, x84, x89, x98, x135, x154, x158, x164, x220] ∧
    Aes.Fn H ∧ H.get pS = some (.cells s.cells) ∧ H.get pc = some (.cells (ints cs)) ∧ cs.length = n ∧ (∀ l, l < i → 1 ≤ cs.getD l 0 ∧ cs.getD l 0 ≤ 50)) ?_ (m := 8) ?_
  · rintro m fr H k ⟨i, cs, x0, x13, x20, x21, x22, x23, x24, x25, x26, x37, x68, x84, x89, x98, x135, x154, x158, x164, x220, rfl, hi, rfl, hf, g1, g2, hcl, hcb⟩ hk
    by_cases l1 : i < n
    · have l1' : (i : Int) < (n : Int) := by omega
      have htn : t * n ≤ 8000 := by have := Nat.mul_le_mul ht hn; omega
      have w1 : IntKind.i64.wrap ((t : Int) * (n : Int)) = ((t * n : Nat) : Int) := by
        have e : (t : Int) * (n : Int) = ((t * n : Nat) : Int) := by push_cast; rfl
        rw [e]; exact i64_in (by omega)
      have w2 : IntKind.i64.wrap (((t * n : Nat) : Int) + (i : Int)) = ((t * n + i : Nat) : Int) := by
        have e : ((t * n : Nat) : Int) + (i : Int) = ((t * n + i : Nat) : Int) := by push_cast; rfl
        rw [e]; exact i64_in (by omega)
      have hlc : ((intRows .i64 costs).length : Int) = (costs.length : Int) := by rw [intRows_len]
      have hrem := fun k => qRem_int (R := Prop) X 3 .i64 ((t * n + i : Nat) : Int) (costs.length : Int) k (by omega)
      have hm : (((t * n + i : Nat) : Int)).tmod (costs.length : Int) = (((t * n + i) % costs.length : Nat) : Int) := by
        rw [Int.tmod_eq_emod_of_nonneg (by omega)]
        simp
      have hlt : (t * n + i) % costs.length < costs.length := Nat.mod_lt _ (by omega)
      generalize (t * n + i) % costs.length = y at *
      have hia := qIa_ints (tk := tkc) (getD_some hlt)
      generalize costs.getD y 0 = z at *
      have p0 := Int.emod_nonneg z (by decide : (50 : Int) ≠ 0)
      have p1 := Int.emod_lt_of_pos z (by decide : (0 : Int) < 50)
      have pl := fun H => ev_place hO z 50 (by decide) (by decide) H
      have hst := qSt_one (R := Prop) hf g2 i (.int .i64 (1 + z % 50))
      rw [ints_set] at hst
      have u := Upd.set hf g2 (.cells (ints (cs.set i (1 + z % 50))))
      have hl : (ints cs).length = n := by rw [ints_len, hcl]
      simp only [l7_18, r7_19, r7_20, r7_21, opn_z, opn_s, sel_z, sel_s, qCd_eq, qIf_true, qIf_false, qFn_eq, qBl_eq, qO_some, qRes_val, qHp_some, qPick_true, qPick_false, qG_tt, qG_ff, qG_tf, qG_ft, cellsK_some, qLd_vptr, qLdA_vptr, qFa_ptr, qFa_vptr, qNc_ptr, qNc_vptr, qNc_fn, qNot_bool, qExt_tup, qCallV_fn, qLss_int, qLeq_int, qGtr_int, qGeq_int, qEql_int, qNeq_int, qAdd_int, qSub_int, qMul_int, qConvI_int, qLenL_sl, qLenL_hsl, qLenS_str, foldO, min2_int, max2_int, qSame_refl, Nat.zero_add, List.getElem?_cons_zero, List.getElem?_cons_succ, List.nil_append, List.cons_append, List.append_nil, one_bool, one_int, one_str, one_nilp, one_ptr, one_sl, one_hsl, one_map, one_fn, List.length_cons, List.length_nil, List.set_cons_zero, List.set_cons_succ, Nat.reduceLT, Nat.reduceAdd, qLd_vptr, l1', decide_true, w1, w2, hlc, hrem, hm, hia, pl, i64_in (x := 1 + z % 50) (by omega), qIa_h pc n n i true l1, hst, hl, l1, wrap_succ i (by omega)]
      refine hk (8 - (i + 1)) _ _ (by omega) ⟨i + 1, cs.set i (1 + z % 50), _, _, _, _, _, _, _, _, _, _, _, _, _, _, _, _, _, _, _, rfl, by omega, rfl, u.fn, (u.other pS (Ne.symm hne)).trans g1, u.at_, by rw [List.length_set, hcl], fun l hl => ?_⟩
      by_cases e : l = i
      · subst e; rw [getD_set_eq (by omega)]; omega
      · rw [getD_set_ne (Ne.symm e)]; exact hcb l (by omega)
    · have l1' : ¬ (i : Int) < (n : Int) := by omega
      simp only [l7_18, r7_19, opn_z, opn_s, sel_z, sel_s, qCd_eq, qIf_true, qIf_false, qFn_eq, qBl_eq, qO_some, qRes_val, qHp_some, qPick_true, qPick_false, qG_tt, qG_ff, qG_tf, qG_ft, cellsK_some, qLd_vptr, qLdA_vptr, qFa_ptr, qFa_vptr, qNc_ptr, qNc_vptr, qNc_fn, qNot_bool, qExt_tup, qCallV_fn, qLss_int, qLeq_int, qGtr_int, qGeq_int, qEql_int, qNeq_int, qAdd_int, qSub_int, qMul_int, qConvI_int, qLenL_sl, qLenL_hsl, qLenS_str, foldO, min2_int, max2_int, qSame_refl, Nat.zero_add, List.getElem?_cons_zero, List.getElem?_cons_succ, List.nil_append, List.cons_append, List.append_nil, one_bool, one_int, one_str, one_nilp, one_ptr, one_sl, one_hsl, one_map, one_fn, List.length_cons, List.length_nil, List.set_cons_zero, List.set_cons_succ, Nat.reduceLT, Nat.reduceAdd, l1', decide_false]
      exact hK H cs hf g1 g2 hcl (fun l hl => hcb l (by omega)) _ _ _ _ _ _ _ _ _ _ _ _ _ _ _ _ _ _ _ _
  · exact ⟨0, List.replicate n 0, _, _, _, _, _, _, _, _, _, _, _, _, _, _, _, _, _, _, _, rfl, by omega, rfl, hf, h1, h2, by simp, fun l hl => by omega⟩

end
end T
set_option linter.unusedVariables false
set_option linter.unusedSimpArgs false
set_option maxRecDepth 10000
namespace T
open Go Go.Aes Go.Proofs

theorem mul_b10 {a x : Int} {B : Int} (h1 : -B ≤ a) (h2 : a ≤ B) (hx : 1 ≤ x ∧ x ≤ 10) (hB : 0 ≤ B) : -(10 * B) ≤ a * x ∧ a * x ≤ 10 * B := by
  have l1 := Int.mul_le_mul_of_nonneg_right h2 (by omega : 0 ≤ x)
  have l2 := Int.mul_le_mul_of_nonneg_right h1 (by omega : 0 ≤ x)
  have l3 := Int.mul_le_mul_of_nonneg_left hx.2 hB
  rw [Int.neg_mul] at l2
  omega

section
variable {O : CallF} (hO : OutO O)
include hO

theorem fair_j {w sv0 sv1 : List Int} {tk tk0 tk1 : Tk} {S2 S4 S14 S15 S17 : AV} {n i : Nat} {q : Int} (hwl : w.length = n) (h0 : sv0.length = n) (h1 : sv1.length = n) (hn : n ≤ 8) (hi : i < n) (wb : ∀ l, l < n → 1 ≤ w.getD l 0 ∧ w.getD l 0 ≤ 10) (qb : 50 ≤ q ∧ q ≤ 249)
    (b0 : ∀ l, l < n → 0 ≤ sv0.getD l 0 ∧ sv0.getD l 0 ≤ 10000000) (b1 : ∀ l, l < n → 0 ≤ sv1.getD l 0 ∧ sv1.getD l 0 ≤ 10000000)
    (hfair : ∀ i j, i < n → j < n → (sv1.getD i 0 - sv0.getD i 0) * w.getD j 0 - (sv1.getD j 0 - sv0.getD j 0) * w.getD i 0 ≤ w.getD i 0 * w.getD j 0 * q + 50 * (w.getD i 0 + w.getD j 0)) {H : AH} {Q : AV → AH → Prop} (K : KT Prop)
    (hK : ∀ (x0 x1 x3 x10 x13 x18 x19 x20 x21 x24 x25 x26 x37 x68 x84 x89 x98 x135 x154 x158 x164 x220 : AV), K [x0, x1, S2, x3, S4, x10, .int .i64 q, .sl (intRows .i64 w) tk, x13, S14, S15, .sl (intRows .i64 sv0) tk0, S17, x18, x19, x20, x21, .sl (intRows .i64 sv1) tk1, .int .i64 (i : Int), x24, x25, x26, x37, x68, x84, x89, x98, x135, x154, x158, x164, x220] H)
    (x0 x1 x3 x10 x13 x18 x19 x20 x21 x25 x26 x37 x68 x84 x89 x98 x135 x154 x158 x164 x220 : AV) :
    qLoop (l7_11 K (fun fr H => Q (sel 5 fr) H)) [x0, x1, S2, x3, S4, x10, .int .i64 q, .sl (intRows .i64 w) tk, x13, S14, S15, .sl (intRows .i64 sv0) tk0, S17, x18, x19, x20, x21, .sl (intRows .i64 sv1) tk1, .int .i64 (i : Int), .int .i64 0, x25, x26, x37, x68, x84, x89, x98, x135, x154, x158, x164, x220] H := by
  refine loop_inv (fun m fr H' => ∃ (j : Nat) (x0 x1 x3 x10 x13 x18 x19 x20 x21 x25 x26 x37 x68 x84 x89 x98 x135 x154 x158 x164 x220 : AV), m = 8 - j ∧ j ≤ n ∧ fr = [x0, x1, S2, x3, S4, x10, .int .i64 q, .sl (intRows .i64 w) tk, x13, S14, S15, .sl (intRows .i64 sv0) tk0, S17, x18, x19, x20, x21, .sl (intRows .i64 sv1) tk1, .int .i64 (i : Int), .int .i64 (j : Int), x25, x26, x37, x68, x84, x89, x98, x135, x154, x158, x164, x220] ∧ H' = H) ?_ (m := 8) ?_
  · rintro m fr H' k ⟨j, x0, x1, x3, x10, x13, x18, x19, x20, x21, x25, x26, x37, x68, x84, x89, x98, x135, x154, x158, x164, x220, rfl, hj, rfl, rfl⟩ hk
    by_cases l1 : j < n
    · have l1' : (j : Int) < ((intRows .i64 w).length : Int) := by rw [intRows_len]; omega
      have iwi := qIa_ints (tk := tk) (getD_some (l := w) (i := i) (by omega))
      have iwj := qIa_ints (tk := tk) (getD_some (l := w) (i := j) (by omega))
      have i0i := qIa_ints (tk := tk0) (getD_some (l := sv0) (i := i) (by omega))
      have i0j := qIa_ints (tk := tk0) (getD_some (l := sv0) (i := j) (by omega))
      have i1i := qIa_ints (tk := tk1) (getD_some (l := sv1) (i := i) (by omega))
      have i1j := qIa_ints (tk := tk1) (getD_some (l := sv1) (i := j) (by omega))
      have wi := wb i hi
      have wj := wb j l1
      have x0i := b0 i hi; have x0j := b0 j l1; have x1i := b1 i hi; have x1j := b1 j l1
      have hf := hfair i j hi l1
      have m1 := mul_b10 (a := sv1.getD i 0 - sv0.getD i 0) (B := 10000000) (by omega) (by omega) wj (by decide)
      have m2 := mul_b10 (a := sv1.getD j 0 - sv0.getD j 0) (B := 10000000) (by omega) (by omega) wi (by decide)
      have m3 := mul_b10 (a := w.getD i 0) (B := 10) (by omega) (by omega) wj (by decide)
      have m4a := Int.mul_le_mul_of_nonneg_right (m3.2) (by omega : 0 ≤ q)
      have m4b := Int.mul_le_mul_of_nonneg_right (m3.1) (by omega : 0 ≤ q)
      have hng : ¬ (w.getD i 0 * w.getD j 0 * q + 50 * (w.getD i 0 + w.getD j 0) < (sv1.getD i 0 - sv0.getD i 0) * w.getD j 0 - (sv1.getD j 0 - sv0.getD j 0) * w.getD i 0) := by omega
      simp only [l7_11, r7_31, r7_33, r7_34, r7_32, opn_z, opn_s, sel_z, sel_s, qCd_eq, qIf_true, qIf_false, qFn_eq, qBl_eq, qO_some, qRes_val, qHp_some, qPick_true, qPick_false, qG_tt, qG_ff, qG_tf, qG_ft, cellsK_some, qLd_vptr, qLdA_vptr, qFa_ptr, qFa_vptr, qNc_ptr, qNc_vptr, qNc_fn, qNot_bool, qExt_tup, qCallV_fn, qLss_int, qLeq_int, qGtr_int, qGeq_int, qEql_int, qNeq_int, qAdd_int, qSub_int, qMul_int, qConvI_int, qLenL_sl, qLenL_hsl, qLenS_str, foldO, min2_int, max2_int, qSame_refl, Nat.zero_add, List.getElem?_cons_zero, List.getElem?_cons_succ, List.nil_append, List.cons_append, List.append_nil, one_bool, one_int, one_str, one_nilp, one_ptr, one_sl, one_hsl, one_map, one_fn, List.length_cons, List.length_nil, List.set_cons_zero, List.set_cons_succ, Nat.reduceLT, Nat.reduceAdd, qLd_vptr, l1', decide_true, i1i, i0i, i1j, i0j, iwi, iwj, i64_in (x := sv1.getD i 0 - sv0.getD i 0) (by omega), i64_in (x := sv1.getD j 0 - sv0.getD j 0) (by omega),
        i64_in (x := (sv1.getD i 0 - sv0.getD i 0) * w.getD j 0) (by omega), i64_in (x := (sv1.getD j 0 - sv0.getD j 0) * w.getD i 0) (by omega), i64_in (x := (sv1.getD i 0 - sv0.getD i 0) * w.getD j 0 - (sv1.getD j 0 - sv0.getD j 0) * w.getD i 0) (by omega),
        i64_in (x := w.getD i 0 * w.getD j 0) (by omega), i64_in (x := w.getD i 0 * w.getD j 0 * q) (by omega), i64_in (x := w.getD i 0 + w.getD j 0) (by omega), i64_in (x := 50 * (w.getD i 0 + w.getD j 0)) (by omega), i64_in (x := w.getD i 0 * w.getD j 0 * q + 50 * (w.getD i 0 + w.getD j 0)) (by omega), hng, decide_false, wrap_succ j (by omega)]
      exact hk (8 - (j + 1)) _ _ (by omega) ⟨j + 1, _, _, _, _, _, _, _, _, _, _, _, _, _, _, _, _, _, _, _, _, _, rfl, by omega, rfl, rfl⟩
    · have l1' : ¬ (j : Int) < ((intRows .i64 w).length : Int) := by rw [intRows_len]; omega
      simp only [l7_11, r7_31, opn_z, opn_s, sel_z, sel_s, qCd_eq, qIf_true, qIf_false, qFn_eq, qBl_eq, qO_some, qRes_val, qHp_some, qPick_true, qPick_false, qG_tt, qG_ff, qG_tf, qG_ft, cellsK_some, qLd_vptr, qLdA_vptr, qFa_ptr, qFa_vptr, qNc_ptr, qNc_vptr, qNc_fn, qNot_bool, qExt_tup, qCallV_fn, qLss_int, qLeq_int, qGtr_int, qGeq_int, qEql_int, qNeq_int, qAdd_int, qSub_int, qMul_int, qConvI_int, qLenL_sl, qLenL_hsl, qLenS_str, foldO, min2_int, max2_int, qSame_refl, Nat.zero_add, List.getElem?_cons_zero, List.getElem?_cons_succ, List.nil_append, List.cons_append, List.append_nil, one_bool, one_int, one_str, one_nilp, one_ptr, one_sl, one_hsl, one_map, one_fn, List.length_cons, List.length_nil, List.set_cons_zero, List.set_cons_succ, Nat.reduceLT, Nat.reduceAdd, l1', decide_false]
      exact hK _ _ _ _ _ _ _ _ _ _ _ _ _ _ _ _ _ _ _ _ _ _
  · exact ⟨0, _, _, _, _, _, _, _, _, _, _, _, _, _, _, _, _, _, _, _, _, _, rfl, by omega, rfl, rfl⟩

theorem fair_i {w sv0 sv1 : List Int} {tk tk0 tk1 : Tk} {S2 S4 S14 S15 S17 : AV} {n : Nat} {q : Int} (hwl : w.length = n) (h0 : sv0.length = n) (h1 : sv1.length = n) (hn : n ≤ 8) (wb : ∀ l, l < n → 1 ≤ w.getD l 0 ∧ w.getD l 0 ≤ 10) (qb : 50 ≤ q ∧ q ≤ 249)
    (b0 : ∀ l, l < n → 0 ≤ sv0.getD l 0 ∧ sv0.getD l 0 ≤ 10000000) (b1 : ∀ l, l < n → 0 ≤ sv1.getD l 0 ∧ sv1.getD l 0 ≤ 10000000)
    (hfair : ∀ i j, i < n → j < n → (sv1.getD i 0 - sv0.getD i 0) * w.getD j 0 - (sv1.getD j 0 - sv0.getD j 0) * w.getD i 0 ≤ w.getD i 0 * w.getD j 0 * q + 50 * (w.getD i 0 + w.getD j 0)) {H : AH} {Q : AV → AH → Prop} (K : KT Prop)
    (hK : ∀ (x0 x1 x3 x10 x13 x18 x19 x20 x21 x22 x23 x24 x25 x26 x37 x68 x84 x89 x98 x135 x154 x158 x164 x220 : AV), K [x0, x1, S2, x3, S4, x10, .int .i64 q, .sl (intRows .i64 w) tk, x13, S14, S15, .sl (intRows .i64 sv0) tk0, S17, x18, x19, x20, x21, x22, x23, x24, x25, x26, x37, x68, x84, x89, x98, x135, x154, x158, x164, x220] H)
    (x0 x1 x3 x10 x13 x18 x19 x20 x21 x24 x25 x26 x37 x68 x84 x89 x98 x135 x154 x158 x164 x220 : AV) :
    qLoop (l7_12 K (fun fr H => Q (sel 5 fr) H)) [x0, x1, S2, x3, S4, x10, .int .i64 q, .sl (intRows .i64 w) tk, x13, S14, S15, .sl (intRows .i64 sv0) tk0, S17, x18, x19, x20, x21, .sl (intRows .i64 sv1) tk1, .int .i64 0, x24, x25, x26, x37, x68, x84, x89, x98, x135, x154, x158, x164, x220] H := by
  refine loop_inv (fun m fr H' => ∃ (i : Nat) (x0 x1 x3 x10 x13 x18 x19 x20 x21 x24 x25 x26 x37 x68 x84 x89 x98 x135 x154 x158 x164 x220 : AV), m = 8 - i ∧ i ≤ n ∧ fr = [x0, x1, S2, x3, S4, x10, .int .i64 q, .sl (intRows .i64 w) tk, x13, S14, S15, .sl (intRows .i64 sv0) tk0, S17, x18, x19, x20, x21, .sl (intRows .i64 sv1) tk1, .int .i64 (i : Int), x24, x25, x26, x37, x68, x84, x89, x98, x135, x154, x158, x164, x220] ∧ H' = H) ?_ (m := 8) ?_
  · rintro m fr H' k ⟨i, x0, x1, x3, x10, x13, x18, x19, x20, x21, x24, x25, x26, x37, x68, x84, x89, x98, x135, x154, x158, x164, x220, rfl, hi, rfl, rfl⟩ hk
    by_cases l1 : i < n
    · have l1' : (i : Int) < ((intRows .i64 w).length : Int) := by rw [intRows_len]; omega
      simp only [l7_12, r7_28, r7_30, opn_z, opn_s, sel_z, sel_s, qCd_eq, qIf_true, qIf_false, qFn_eq, qBl_eq, qO_some, qRes_val, qHp_some, qPick_true, qPick_false, qG_tt, qG_ff, qG_tf, qG_ft, cellsK_some, qLd_vptr, qLdA_vptr, qFa_ptr, qFa_vptr, qNc_ptr, qNc_vptr, qNc_fn, qNot_bool, qExt_tup, qCallV_fn, qLss_int, qLeq_int, qGtr_int, qGeq_int, qEql_int, qNeq_int, qAdd_int, qSub_int, qMul_int, qConvI_int, qLenL_sl, qLenL_hsl, qLenS_str, foldO, min2_int, max2_int, qSame_refl, Nat.zero_add, List.getElem?_cons_zero, List.getElem?_cons_succ, List.nil_append, List.cons_append, List.append_nil, one_bool, one_int, one_str, one_nilp, one_ptr, one_sl, one_hsl, one_map, one_fn, List.length_cons, List.length_nil, List.set_cons_zero, List.set_cons_succ, Nat.reduceLT, Nat.reduceAdd, l1', decide_true]
      refine fair_j hO (Q := Q) hwl h0 h1 hn l1 wb qb b0 b1 hfair _ ?_ _ _ _ _ _ _ _ _ _ _ _ _ _ _ _ _ _ _ _ _ _
      intro x0 x1 x3 x10 x13 x18 x19 x20 x21 x24 x25 x26 x37 x68 x84 x89 x98 x135 x154 x158 x164 x220
      simp only [r7_29, opn_z, opn_s, sel_z, sel_s, qCd_eq, qIf_true, qIf_false, qFn_eq, qBl_eq, qO_some, qRes_val, qHp_some, qPick_true, qPick_false, qG_tt, qG_ff, qG_tf, qG_ft, cellsK_some, qLd_vptr, qLdA_vptr, qFa_ptr, qFa_vptr, qNc_ptr, qNc_vptr, qNc_fn, qNot_bool, qExt_tup, qCallV_fn, qLss_int, qLeq_int, qGtr_int, qGeq_int, qEql_int, qNeq_int, qAdd_int, qSub_int, qMul_int, qConvI_int, qLenL_sl, qLenL_hsl, qLenS_str, foldO, min2_int, max2_int, qSame_refl, Nat.zero_add, List.getElem?_cons_zero, List.getElem?_cons_succ, List.nil_append, List.cons_append, List.append_nil, one_bool, one_int, one_str, one_nilp, one_ptr, one_sl, one_hsl, one_map, one_fn, List.length_cons, List.length_nil, List.set_cons_zero, List.set_cons_succ, Nat.reduceLT, Nat.reduceAdd, wrap_succ i (by omega)]
      exact hk (8 - (i + 1)) _ _ (by omega) ⟨i + 1, _, _, _, _, _, _, _, _, _, _, _, _, _, _, _, _, _, _, _, _, _, _, rfl, by omega, rfl, rfl⟩
    · have l1' : ¬ (i : Int) < ((intRows .i64 w).length : Int) := by rw [intRows_len]; omega
      simp only [l7_12, r7_28, opn_z, opn_s, sel_z, sel_s, qCd_eq, qIf_true, qIf_false, qFn_eq, qBl_eq, qO_some, qRes_val, qHp_some, qPick_true, qPick_false, qG_tt, qG_ff, qG_tf, qG_ft, cellsK_some, qLd_vptr, qLdA_vptr, qFa_ptr, qFa_vptr, qNc_ptr, qNc_vptr, qNc_fn, qNot_bool, qExt_tup, qCallV_fn, qLss_int, qLeq_int, qGtr_int, qGeq_int, qEql_int, qNeq_int, qAdd_int, qSub_int, qMul_int, qConvI_int, qLenL_sl, qLenL_hsl, qLenS_str, foldO, min2_int, max2_int, qSame_refl, Nat.zero_add, List.getElem?_cons_zero, List.getElem?_cons_succ, List.nil_append, List.cons_append, List.append_nil, one_bool, one_int, one_str, one_nilp, one_ptr, one_sl, one_hsl, one_map, one_fn, List.length_cons, List.length_nil, List.set_cons_zero, List.set_cons_succ, Nat.reduceLT, Nat.reduceAdd, l1', decide_false]
      exact hK _ _ _ _ _ _ _ _ _ _ _ _ _ _ _ _ _ _ _ _ _ _ _ _
  · exact ⟨0, _, _, _, _, _, _, _, _, _, _, _, _, _, _, _, _, _, _, _, _, _, _, rfl, by omega, rfl, rfl⟩

end
end T
set_option linter.unusedVariables false
set_option linter.unusedSimpArgs false
set_option maxRecDepth 10000
namespace T
open Go Go.Aes Go.Proofs

theorem stp_lt {A : List Int} {s : Sh} (hp : s.pos < s.n) : (stp A s).1.pos < s.n ∧ (stp A s).1.n = s.n ∧ ∀ i, (stp A s).2 = some i → i < s.n := by
  have hmod : (s.pos + 1) % s.n < s.n := Nat.mod_lt _ (by omega)
  unfold stp
  simp only []
  generalize (if s.vis = true then s.Cr.getD s.pos 0 else s.Cr.getD s.pos 0 + s.q * s.W.getD s.pos 0) = c
  by_cases h0 : A.getD s.pos 0 = 0
  · simp only [if_pos h0]
    exact ⟨hmod, trivial, fun i h => by cases h⟩
  · simp only [if_neg h0]
    by_cases hle : A.getD s.pos 0 ≤ c
    · simp only [if_pos hle]
      exact ⟨hp, trivial, fun i h => by injection h with h; omega⟩
    · simp only [if_neg hle]
      exact ⟨hmod, trivial, fun i h => by cases h⟩

theorem srv_lt {A : List Int} : ∀ {m : Nat} {s : Sh} {R : Nat × Sh}, srv A m s = some R → s.pos < s.n → R.1 < s.n
  | 0, s, R, h, _ => by cases h
  | m + 1, s, R, h, hp => by
    obtain ⟨h1, h2, h3⟩ := stp_lt (A := A) hp
    simp only [srv] at h
    cases hst : stp A s with
    | mk s' o =>
      rw [hst] at h h1 h2 h3
      cases o with
      | some i =>
        simp only [Option.some.injEq] at h
        subst h
        exact h3 i rfl
      | none =>
        simp only at h h1 h2
        have := srv_lt h (by omega)
        omega

/-- what was served when the window opened -/
def Seen (n : Nat) (q : Int) (w : List Int) (x : AV) : Prop := ∃ (s : Sh) (r : Int) (tk : Tk), GS n q w s r ∧ SB s 10000000 ∧ x = .sl (intRows .i64 (s.Sv.take n)) tk

section
variable {O : CallF} (hO : OutO O)
include hO

theorem fair_rest {costs w : List Int} {tkc tk : Tk} {n pS t f : Nat} {q st : Int} {s : Sh} {r : Int} {x : AV} (hc0 : costs.length ≠ 0) (hc1 : costs.length ≤ 100) (ht : t ≤ 199) (hn2 : 2 ≤ n) (hwl : w.length = n) (hx : t < f ∨ Seen n q w x)
    (k : KT Prop) {H : AH} (hf : Aes.Fn H) (g : H.get pS = some (.cells s.cells)) (ok : s.Ok) (cb : CB s) (sb : SB s (50000 * t)) (gs : GS n q w s r)
    (hk : ∀ (H' : AH) (s' : Sh) (r' : Int), Aes.Fn H' → H'.get pS = some (.cells s'.cells) → s'.Ok → CB s' → SB s' (50000 * (t + 1 : Nat)) → GS n q w s' r' → ∀ (x0 x1 x3 x10 x13 x18 x19 x20 x21 x22 x23 x24 x25 x26 x37 x68 x84 x89 x98 x135 x154 x158 x164 x220 : AV),
      r7_14 k [x0, x1, .sl (intRows .i64 costs) tkc, x3, .int .i64 st, x10, .int .i64 q, .sl (intRows .i64 w) tk, x13, .ptr pS 0, .int .i64 (f : Int), x, .int .i64 (t : Int), x18, x19, x20, x21, x22, x23, x24, x25, x26, x37, x68, x84, x89, x98, x135, x154, x158, x164, x220] H')
    (x0 x1 x3 x10 x13 x18 x19 x20 x21 x22 x23 x24 x25 x26 x37 x68 x84 x89 x98 x135 x154 x158 x164 x220 : AV) :
    r7_17 (r7_18 (qLoop (l7_18 (evl X O) (r7_22 (evl X O) (r7_23 (qCd (sel 27) (fun _ => r7_24 (fun fr H => sel 5 fr = .bool true)) (fun k14 => k14) (r7_25 (evl X O) (r7_26 (qCd (sel 28) (fun _ => r7_14 k) (fun k13 => k13) (r7_27 (qLoop (l7_12 (r7_14 k) (fun fr H => sel 5 fr = .bool true)))))))))))))
      [x0, x1, .sl (intRows .i64 costs) tkc, x3, .int .i64 st, x10, .int .i64 q, .sl (intRows .i64 w) tk, x13, .ptr pS 0, .int .i64 (f : Int), x, .int .i64 (t : Int), x18, x19, x20, x21, x22, x23, x24, x25, x26, x37, x68, x84, x89, x98, x135, x154, x158, x164, x220] H := by
  have hn8 := gs.n8
  have hl : ((intRows .i64 w).length : Int) = (n : Int) := by rw [intRows_len, hwl]
  have n3 := New.push hf (.cells (ints (List.replicate n 0)))
  have hne : H.nx ≠ pS := by have := hf.lt g; omega
  simp only [r7_17, r7_18, opn_z, opn_s, sel_z, sel_s, qCd_eq, qIf_true, qIf_false, qFn_eq, qBl_eq, qO_some, qRes_val, qHp_some, qPick_true, qPick_false, qG_tt, qG_ff, qG_tf, qG_ft, cellsK_some, qLd_vptr, qLdA_vptr, qFa_ptr, qFa_vptr, qNc_ptr, qNc_vptr, qNc_fn, qNot_bool, qExt_tup, qCallV_fn, qLss_int, qLeq_int, qGtr_int, qGeq_int, qEql_int, qNeq_int, qAdd_int, qSub_int, qMul_int, qConvI_int, qLenL_sl, qLenL_hsl, qLenS_str, foldO, min2_int, max2_int, qSame_refl, Nat.zero_add, List.getElem?_cons_zero, List.getElem?_cons_succ, List.nil_append, List.cons_append, List.append_nil, one_bool, one_int, one_str, one_nilp, one_ptr, one_sl, one_hsl, one_map, one_fn, List.length_cons, List.length_nil, List.set_cons_zero, List.set_cons_succ, Nat.reduceLT, Nat.reduceAdd, hl, mkS hf n (by omega)]
  generalize H.push (.cells (ints (List.replicate n 0))) = H1 at n3
  have g1 := (n3.other pS (hf.lt g)).trans g
  have f1 := n3.fn
  have c1 := n3.at_
  clear n3
  generalize H.nx = pc at *
  refine fair_c hO hc0 hc1 (by omega : t ≤ 1000) hn8 hne _ ?_ f1 g1 c1 _ _ _ _ _ _ _ _ _ _ _ _ _ _ _ _ _ _ _
  intro H2 cs f2 g2 c2 hcl hcb
  intro x0 x13 x19 x20 x21 x22 x23 x24 x25 x26 x37 x68 x84 x89 x98 x135 x154 x158 x164 x220
  have hv : Ints H2 (hs pc n) cs := .inr ⟨pc, true, by rw [hcl], c2⟩
  have hmin : min s.n cs.length = n := by rw [gs.n_, hcl, Nat.min_self]
  have hpos : s.pos < s.n := by rw [gs.n_]; exact gs.pos
  have q1 := ok.q1
  have hsome : someA s.q cs (min s.n cs.length) = true := by
    rw [hmin]
    unfold someA
    rw [List.any_eq_true]
    have := hcb 0 (by omega)
    exact ⟨cs.getD 0 0, List.mem_of_getElem? (i := 0) (by rw [List.getElem?_take, if_pos (by omega)]; exact getD_some (by omega)), decide_eq_true (by omega)⟩
  obtain ⟨j, hj, ha⟩ := someA_spec ok cs hsome
  obtain ⟨m, R, hr⟩ := srv_some ha _ s (Nat.lt_succ_self _) ok hpos hj cb sb (askA_ab ok cs)
  obtain ⟨H3, b1, b2, b3, b4, b5, b6, b7, b8, b9, b10, b11⟩ := ev_next_some hO f2 (v := hs pc n) (cs := cs) ok hpos cb sb (by omega) g2 hv hsome hr
  have hA : ∀ l, l < n → 1 ≤ (askA s cs).getD l 0 ∧ (askA s cs).getD l 0 ≤ 50 := fun l hl => by
    rw [askA_get (by rw [gs.n_]; exact hl) (by omega)]
    have := hcb l hl
    omega
  obtain ⟨r', gs'⟩ := gs.srv hA hr
  have hRn : R.1 < n := by rw [← gs.n_]; exact srv_lt hr hpos
  obtain ⟨tk1, H4, d1, d2⟩ := ev_served hO b2.fn b4 b3
  rw [gs'.n_] at d1
  have g4 := (d2.keep pS (b2.fn.lt b3) (fun h => h)).trans b3
  have e0 : ¬ ((R.1 : Int) < 0) := by omega
  have e1 : ¬ ((n : Int) ≤ (R.1 : Int)) := by omega
  have hsl : ((intRows .i64 (R.2.Sv.take n)).length : Int) = (n : Int) := by rw [intRows_len, List.length_take, b4.v]; omega
  have sb' : SB R.2 (50000 * (t + 1 : Nat)) := fun j x h => by have := b7 j x h; omega
  simp only [r7_22, opn_z, opn_s, sel_z, sel_s, qCd_eq, qIf_true, qIf_false, qFn_eq, qBl_eq, qO_some, qRes_val, qHp_some, qPick_true, qPick_false, qG_tt, qG_ff, qG_tf, qG_ft, cellsK_some, qLd_vptr, qLdA_vptr, qFa_ptr, qFa_vptr, qNc_ptr, qNc_vptr, qNc_fn, qNot_bool, qExt_tup, qCallV_fn, qLss_int, qLeq_int, qGtr_int, qGeq_int, qEql_int, qNeq_int, qAdd_int, qSub_int, qMul_int, qConvI_int, qLenL_sl, qLenL_hsl, qLenS_str, foldO, min2_int, max2_int, qSame_refl, Nat.zero_add, List.getElem?_cons_zero, List.getElem?_cons_succ, List.nil_append, List.cons_append, List.append_nil, one_bool, one_int, one_str, one_nilp, one_ptr, one_sl, one_hsl, one_map, one_fn, List.length_cons, List.length_nil, List.set_cons_zero, List.set_cons_succ, Nat.reduceLT, Nat.reduceAdd]
  rw [b1]
  rw [qRes_val]
  simp only [r7_23, opn_z, opn_s, sel_z, sel_s, qCd_eq, qIf_true, qIf_false, qFn_eq, qBl_eq, qO_some, qRes_val, qHp_some, qPick_true, qPick_false, qG_tt, qG_ff, qG_tf, qG_ft, cellsK_some, qLd_vptr, qLdA_vptr, qFa_ptr, qFa_vptr, qNc_ptr, qNc_vptr, qNc_fn, qNot_bool, qExt_tup, qCallV_fn, qLss_int, qLeq_int, qGtr_int, qGeq_int, qEql_int, qNeq_int, qAdd_int, qSub_int, qMul_int, qConvI_int, qLenL_sl, qLenL_hsl, qLenS_str, foldO, min2_int, max2_int, qSame_refl, Nat.zero_add, List.getElem?_cons_zero, List.getElem?_cons_succ, List.nil_append, List.cons_append, List.append_nil, one_bool, one_int, one_str, one_nilp, one_ptr, one_sl, one_hsl, one_map, one_fn, List.length_cons, List.length_nil, List.set_cons_zero, List.set_cons_succ, Nat.reduceLT, Nat.reduceAdd, Bool.not_true, e0, hl, e1, decide_false]
  simp only [r7_25, opn_z, opn_s, sel_z, sel_s, qCd_eq, qIf_true, qIf_false, qFn_eq, qBl_eq, qO_some, qRes_val, qHp_some, qPick_true, qPick_false, qG_tt, qG_ff, qG_tf, qG_ft, cellsK_some, qLd_vptr, qLdA_vptr, qFa_ptr, qFa_vptr, qNc_ptr, qNc_vptr, qNc_fn, qNot_bool, qExt_tup, qCallV_fn, qLss_int, qLeq_int, qGtr_int, qGeq_int, qEql_int, qNeq_int, qAdd_int, qSub_int, qMul_int, qConvI_int, qLenL_sl, qLenL_hsl, qLenS_str, foldO, min2_int, max2_int, qSame_refl, Nat.zero_add, List.getElem?_cons_zero, List.getElem?_cons_succ, List.nil_append, List.cons_append, List.append_nil, one_bool, one_int, one_str, one_nilp, one_ptr, one_sl, one_hsl, one_map, one_fn, List.length_cons, List.length_nil, List.set_cons_zero, List.set_cons_succ, Nat.reduceLT, Nat.reduceAdd]
  rw [d1]
  rw [qRes_val]
  by_cases hlt : t < f
  · have hlt' : (t : Int) < (f : Int) := by omega
    simp only [r7_26, opn_z, opn_s, sel_z, sel_s, qCd_eq, qIf_true, qIf_false, qFn_eq, qBl_eq, qO_some, qRes_val, qHp_some, qPick_true, qPick_false, qG_tt, qG_ff, qG_tf, qG_ft, cellsK_some, qLd_vptr, qLdA_vptr, qFa_ptr, qFa_vptr, qNc_ptr, qNc_vptr, qNc_fn, qNot_bool, qExt_tup, qCallV_fn, qLss_int, qLeq_int, qGtr_int, qGeq_int, qEql_int, qNeq_int, qAdd_int, qSub_int, qMul_int, qConvI_int, qLenL_sl, qLenL_hsl, qLenS_str, foldO, min2_int, max2_int, qSame_refl, Nat.zero_add, List.getElem?_cons_zero, List.getElem?_cons_succ, List.nil_append, List.cons_append, List.append_nil, one_bool, one_int, one_str, one_nilp, one_ptr, one_sl, one_hsl, one_map, one_fn, List.length_cons, List.length_nil, List.set_cons_zero, List.set_cons_succ, Nat.reduceLT, Nat.reduceAdd, hlt', decide_true]
    exact hk H4 R.2 r' d2.fn g4 b4 b6 sb' gs' _ _ _ _ _ _ _ _ _ _ _ _ _ _ _ _ _ _ _ _ _ _ _ _
  · have hlt' : ¬ (t : Int) < (f : Int) := by omega
    obtain ⟨s0, r0, tk0, gs0, sb0, rfl⟩ := hx.resolve_left hlt
    have hs0 : ((intRows .i64 (s0.Sv.take n)).length : Int) = (n : Int) := by rw [intRows_len, List.length_take, gs0.vl]; omega
    simp only [r7_26, r7_27, opn_z, opn_s, sel_z, sel_s, qCd_eq, qIf_true, qIf_false, qFn_eq, qBl_eq, qO_some, qRes_val, qHp_some, qPick_true, qPick_false, qG_tt, qG_ff, qG_tf, qG_ft, cellsK_some, qLd_vptr, qLdA_vptr, qFa_ptr, qFa_vptr, qNc_ptr, qNc_vptr, qNc_fn, qNot_bool, qExt_tup, qCallV_fn, qLss_int, qLeq_int, qGtr_int, qGeq_int, qEql_int, qNeq_int, qAdd_int, qSub_int, qMul_int, qConvI_int, qLenL_sl, qLenL_hsl, qLenS_str, foldO, min2_int, max2_int, qSame_refl, Nat.zero_add, List.getElem?_cons_zero, List.getElem?_cons_succ, List.nil_append, List.cons_append, List.append_nil, one_bool, one_int, one_str, one_nilp, one_ptr, one_sl, one_hsl, one_map, one_fn, List.length_cons, List.length_nil, List.set_cons_zero, List.set_cons_succ, Nat.reduceLT, Nat.reduceAdd, hlt', decide_false, hsl, hs0, hl, beq_self_eq_true, Bool.not_true]
    have bd : ∀ {s : Sh} {b : Int}, s.Sv.length = 8 → SB s b → b ≤ 10000000 → ∀ l, l < n → 0 ≤ (s.Sv.take n).getD l 0 ∧ (s.Sv.take n).getD l 0 ≤ 10000000 := fun {s b} hl8 hb hb2 l hl => by
      rw [take_getD0 hl]
      have := hb l _ (getD_some (by omega))
      omega
    refine fair_i hO (Q := fun v _ => v = .bool true) hwl (by rw [List.length_take, gs0.vl]; omega) (by rw [List.length_take, b4.v]; omega) hn8 gs.wb gs.qb (bd gs0.vl sb0 (by decide)) (bd b4.v sb' (by omega)) (fun i j hi hj => ?_) _ ?_ _ _ _ _ _ _ _ _ _ _ _ _ _ _ _ _ _ _ _ _ _ _
    · rw [take_getD0 hi, take_getD0 hi, take_getD0 hj, take_getD0 hj]
      exact gs0.fair gs' hi hj
    · intro x0 x1 x3 x10 x13 x18 x19 x20 x21 x22 x23 x24 x25 x26 x37 x68 x84 x89 x98 x135 x154 x158 x164 x220
      exact hk H4 R.2 r' d2.fn g4 b4 b6 sb' gs' _ _ _ _ _ _ _ _ _ _ _ _ _ _ _ _ _ _ _ _ _ _ _ _

end
end T
set_option linter.unusedVariables false
set_option linter.unusedSimpArgs false
set_option maxRecDepth 10000
namespace T
open Go Go.Aes Go.Proofs

section
variable {O : CallF} (hO : OutO O)
include hO

theorem fair_t {costs w : List Int} {tkc tk : Tk} {n pS f : Nat} {q st : Int} {s : Sh} {r : Int} {x : AV} (hc0 : costs.length ≠ 0) (hc1 : costs.length ≤ 100) (hf50 : f ≤ 49) (hn2 : 2 ≤ n) (hwl : w.length = n)
    {H : AH} (hf : Aes.Fn H) (g : H.get pS = some (.cells s.cells)) (ok : s.Ok) (cb : CB s) (sb : SB s 0) (gs : GS n q w s r) (x0 x1 x3 x10 x13 x18 x19 x20 x21 x22 x23 x24 x25 x26 x37 x68 x84 x89 x98 x135 x154 x158 x164 x220 : AV) :
    qLoop (l7_20 (evl X O) (r7_36 (evl X O) (fun fr H => sel 5 fr = .bool true)) (fun fr H => sel 5 fr = .bool true)) [x0, x1, .sl (intRows .i64 costs) tkc, x3, .int .i64 st, x10, .int .i64 q, .sl (intRows .i64 w) tk, x13, .ptr pS 0, .int .i64 (f : Int), x, .int .i64 0, x18, x19, x20, x21, x22, x23, x24, x25, x26, x37, x68, x84, x89, x98, x135, x154, x158, x164, x220] H := by
  have p0 := Int.emod_nonneg st (by decide : (150 : Int) ≠ 0)
  have p1 := Int.emod_lt_of_pos st (by decide : (0 : Int) < 150)
  have pl := fun H => ev_place hO st 150 (by decide) (by decide) H
  generalize st % 150 = T at *
  refine loop_inv (fun m fr H => ∃ (t : Nat) (x : AV) (s : Sh) (r : Int) (x0 x1 x3 x10 x13 x18 x19 x20 x21 x22 x23 x24 x25 x26 x37 x68 x84 x89 x98 x135 x154 x158 x164 x220 : AV), m = 250 - t ∧ fr = [x0, x1, .sl (intRows .i64 costs) tkc, x3, .int .i64 st, x10, .int .i64 q, .sl (intRows .i64 w) tk, x13, .ptr pS 0, .int .i64 (f : Int), x, .int .i64 (t : Int), x18, x19, x20, x21, x22, x23, x24, x25, x26, x37, x68, x84, x89, x98, x135, x154, x158, x164, x220] ∧
    (t ≤ f ∨ Seen n q w x) ∧ Aes.Fn H ∧ H.get pS = some (.cells s.cells) ∧ s.Ok ∧ CB s ∧ SB s (50000 * t) ∧ GS n q w s r ∧ t ≤ 200) ?_ (m := 250) ?_
  · rintro m fr H k ⟨t, x, s, r, x0, x1, x3, x10, x13, x18, x19, x20, x21, x22, x23, x24, x25, x26, x37, x68, x84, x89, x98, x135, x154, x158, x164, x220, rfl, rfl, hx, hf, g, ok, cb, sb, gs, ht⟩ hk
    have hw : IntKind.i64.wrap ((f : Int) + T) = (f : Int) + T := i64_in (by omega)
    have ht199 : (t : Int) < (f : Int) + T → t ≤ 199 := fun h => by omega
    by_cases l1 : (t : Int) < (f : Int) + T
    · by_cases e : t = f
      · subst e
        have e' : ((t : Int) == (t : Int)) = true := by simp
        obtain ⟨tk1, H1, d1, d2⟩ := ev_served hO hf ok g
        rw [gs.n_] at d1
        have g1 := (d2.keep pS (hf.lt g) (fun h => h)).trans g
        simp only [l7_20, r7_13, r7_15, opn_z, opn_s, sel_z, sel_s, qCd_eq, qIf_true, qIf_false, qFn_eq, qBl_eq, qO_some, qRes_val, qHp_some, qPick_true, qPick_false, qG_tt, qG_ff, qG_tf, qG_ft, cellsK_some, qLd_vptr, qLdA_vptr, qFa_ptr, qFa_vptr, qNc_ptr, qNc_vptr, qNc_fn, qNot_bool, qExt_tup, qCallV_fn, qLss_int, qLeq_int, qGtr_int, qGeq_int, qEql_int, qNeq_int, qAdd_int, qSub_int, qMul_int, qConvI_int, qLenL_sl, qLenL_hsl, qLenS_str, foldO, min2_int, max2_int, qSame_refl, Nat.zero_add, List.getElem?_cons_zero, List.getElem?_cons_succ, List.nil_append, List.cons_append, List.append_nil, one_bool, one_int, one_str, one_nilp, one_ptr, one_sl, one_hsl, one_map, one_fn, List.length_cons, List.length_nil, List.set_cons_zero, List.set_cons_succ, Nat.reduceLT, Nat.reduceAdd, pl, hw, l1, decide_true, e']
        simp only [r7_16, opn_z, opn_s, sel_z, sel_s, qCd_eq, qIf_true, qIf_false, qFn_eq, qBl_eq, qO_some, qRes_val, qHp_some, qPick_true, qPick_false, qG_tt, qG_ff, qG_tf, qG_ft, cellsK_some, qLd_vptr, qLdA_vptr, qFa_ptr, qFa_vptr, qNc_ptr, qNc_vptr, qNc_fn, qNot_bool, qExt_tup, qCallV_fn, qLss_int, qLeq_int, qGtr_int, qGeq_int, qEql_int, qNeq_int, qAdd_int, qSub_int, qMul_int, qConvI_int, qLenL_sl, qLenL_hsl, qLenS_str, foldO, min2_int, max2_int, qSame_refl, Nat.zero_add, List.getElem?_cons_zero, List.getElem?_cons_succ, List.nil_append, List.cons_append, List.append_nil, one_bool, one_int, one_str, one_nilp, one_ptr, one_sl, one_hsl, one_map, one_fn, List.length_cons, List.length_nil, List.set_cons_zero, List.set_cons_succ, Nat.reduceLT, Nat.reduceAdd]
        rw [d1]
        rw [qRes_val]
        refine fair_rest hO hc0 hc1 (ht199 l1) hn2 hwl (.inr ⟨s, r, tk1, gs, fun j x h => by have := sb j x h; omega, rfl⟩) k d2.fn g1 ok cb sb gs ?_ _ _ _ _ _ _ _ _ _ _ _ _ _ _ _ _ _ _ _ _ _ _ _ _
        intro H' s' r' f1 f2 f3 f4 f5 f6
        intro x0 x1 x3 x10 x13 x18 x19 x20 x21 x22 x23 x24 x25 x26 x37 x68 x84 x89 x98 x135 x154 x158 x164 x220
        simp only [r7_14, opn_z, opn_s, sel_z, sel_s, qCd_eq, qIf_true, qIf_false, qFn_eq, qBl_eq, qO_some, qRes_val, qHp_some, qPick_true, qPick_false, qG_tt, qG_ff, qG_tf, qG_ft, cellsK_some, qLd_vptr, qLdA_vptr, qFa_ptr, qFa_vptr, qNc_ptr, qNc_vptr, qNc_fn, qNot_bool, qExt_tup, qCallV_fn, qLss_int, qLeq_int, qGtr_int, qGeq_int, qEql_int, qNeq_int, qAdd_int, qSub_int, qMul_int, qConvI_int, qLenL_sl, qLenL_hsl, qLenS_str, foldO, min2_int, max2_int, qSame_refl, Nat.zero_add, List.getElem?_cons_zero, List.getElem?_cons_succ, List.nil_append, List.cons_append, List.append_nil, one_bool, one_int, one_str, one_nilp, one_ptr, one_sl, one_hsl, one_map, one_fn, List.length_cons, List.length_nil, List.set_cons_zero, List.set_cons_succ, Nat.reduceLT, Nat.reduceAdd, wrap_succ t (by omega)]
        exact hk (250 - (t + 1)) _ _ (by omega) ⟨t + 1, _, s', r', _, _, _, _, _, _, _, _, _, _, _, _, _, _, _, _, _, _, _, _, _, _, _, _, rfl, rfl, .inr ⟨s, r, tk1, gs, fun j x h => by have := sb j x h; omega, rfl⟩, f1, f2, f3, f4, f5, f6, by omega⟩
      · have e' : ((t : Int) == (f : Int)) = false := by simp; omega
        simp only [l7_20, r7_13, r7_15, opn_z, opn_s, sel_z, sel_s, qCd_eq, qIf_true, qIf_false, qFn_eq, qBl_eq, qO_some, qRes_val, qHp_some, qPick_true, qPick_false, qG_tt, qG_ff, qG_tf, qG_ft, cellsK_some, qLd_vptr, qLdA_vptr, qFa_ptr, qFa_vptr, qNc_ptr, qNc_vptr, qNc_fn, qNot_bool, qExt_tup, qCallV_fn, qLss_int, qLeq_int, qGtr_int, qGeq_int, qEql_int, qNeq_int, qAdd_int, qSub_int, qMul_int, qConvI_int, qLenL_sl, qLenL_hsl, qLenS_str, foldO, min2_int, max2_int, qSame_refl, Nat.zero_add, List.getElem?_cons_zero, List.getElem?_cons_succ, List.nil_append, List.cons_append, List.append_nil, one_bool, one_int, one_str, one_nilp, one_ptr, one_sl, one_hsl, one_map, one_fn, List.length_cons, List.length_nil, List.set_cons_zero, List.set_cons_succ, Nat.reduceLT, Nat.reduceAdd, pl, hw, l1, decide_true, e']
        refine fair_rest hO hc0 hc1 (ht199 l1) hn2 hwl (by rcases hx with h | h; exact .inl (by omega); exact .inr h) k hf g ok cb sb gs ?_ _ _ _ _ _ _ _ _ _ _ _ _ _ _ _ _ _ _ _ _ _ _ _ _
        intro H' s' r' f1 f2 f3 f4 f5 f6
        intro x0 x1 x3 x10 x13 x18 x19 x20 x21 x22 x23 x24 x25 x26 x37 x68 x84 x89 x98 x135 x154 x158 x164 x220
        simp only [r7_14, opn_z, opn_s, sel_z, sel_s, qCd_eq, qIf_true, qIf_false, qFn_eq, qBl_eq, qO_some, qRes_val, qHp_some, qPick_true, qPick_false, qG_tt, qG_ff, qG_tf, qG_ft, cellsK_some, qLd_vptr, qLdA_vptr, qFa_ptr, qFa_vptr, qNc_ptr, qNc_vptr, qNc_fn, qNot_bool, qExt_tup, qCallV_fn, qLss_int, qLeq_int, qGtr_int, qGeq_int, qEql_int, qNeq_int, qAdd_int, qSub_int, qMul_int, qConvI_int, qLenL_sl, qLenL_hsl, qLenS_str, foldO, min2_int, max2_int, qSame_refl, Nat.zero_add, List.getElem?_cons_zero, List.getElem?_cons_succ, List.nil_append, List.cons_append, List.append_nil, one_bool, one_int, one_str, one_nilp, one_ptr, one_sl, one_hsl, one_map, one_fn, List.length_cons, List.length_nil, List.set_cons_zero, List.set_cons_succ, Nat.reduceLT, Nat.reduceAdd, wrap_succ t (by omega)]
        exact hk (250 - (t + 1)) _ _ (by omega) ⟨t + 1, x, s', r', _, _, _, _, _, _, _, _, _, _, _, _, _, _, _, _, _, _, _, _, _, _, _, _, rfl, rfl, (by rcases hx with h | h; exact .inl (by omega); exact .inr h), f1, f2, f3, f4, f5, f6, by have := ht199 l1; omega⟩
    · obtain ⟨tk1, H1, d1, d2⟩ := ev_served hO hf ok g
      rw [gs.n_] at d1
      have hn8 := gs.n8
      have hsl : ((intRows .i64 (s.Sv.take n)).length : Int) = (n : Int) := by rw [intRows_len, List.length_take, ok.v]; omega
      have hl : ((intRows .i64 w).length : Int) = (n : Int) := by rw [intRows_len, hwl]
      obtain ⟨H2, k1, k2⟩ := ev_sawake hO d2.fn
      simp only [l7_20, r7_13, opn_z, opn_s, sel_z, sel_s, qCd_eq, qIf_true, qIf_false, qFn_eq, qBl_eq, qO_some, qRes_val, qHp_some, qPick_true, qPick_false, qG_tt, qG_ff, qG_tf, qG_ft, cellsK_some, qLd_vptr, qLdA_vptr, qFa_ptr, qFa_vptr, qNc_ptr, qNc_vptr, qNc_fn, qNot_bool, qExt_tup, qCallV_fn, qLss_int, qLeq_int, qGtr_int, qGeq_int, qEql_int, qNeq_int, qAdd_int, qSub_int, qMul_int, qConvI_int, qLenL_sl, qLenL_hsl, qLenS_str, foldO, min2_int, max2_int, qSame_refl, Nat.zero_add, List.getElem?_cons_zero, List.getElem?_cons_succ, List.nil_append, List.cons_append, List.append_nil, one_bool, one_int, one_str, one_nilp, one_ptr, one_sl, one_hsl, one_map, one_fn, List.length_cons, List.length_nil, List.set_cons_zero, List.set_cons_succ, Nat.reduceLT, Nat.reduceAdd, pl, hw, l1, decide_false]
      simp only [r7_36, opn_z, opn_s, sel_z, sel_s, qCd_eq, qIf_true, qIf_false, qFn_eq, qBl_eq, qO_some, qRes_val, qHp_some, qPick_true, qPick_false, qG_tt, qG_ff, qG_tf, qG_ft, cellsK_some, qLd_vptr, qLdA_vptr, qFa_ptr, qFa_vptr, qNc_ptr, qNc_vptr, qNc_fn, qNot_bool, qExt_tup, qCallV_fn, qLss_int, qLeq_int, qGtr_int, qGeq_int, qEql_int, qNeq_int, qAdd_int, qSub_int, qMul_int, qConvI_int, qLenL_sl, qLenL_hsl, qLenS_str, foldO, min2_int, max2_int, qSame_refl, Nat.zero_add, List.getElem?_cons_zero, List.getElem?_cons_succ, List.nil_append, List.cons_append, List.append_nil, one_bool, one_int, one_str, one_nilp, one_ptr, one_sl, one_hsl, one_map, one_fn, List.length_cons, List.length_nil, List.set_cons_zero, List.set_cons_succ, Nat.reduceLT, Nat.reduceAdd, d1, hsl, hl, beq_self_eq_true, k1]
  · exact ⟨0, x, s, r, _, _, _, _, _, _, _, _, _, _, _, _, _, _, _, _, _, _, _, _, _, _, _, _, rfl, rfl, .inl (by omega), hf, g, ok, cb, sb, gs, by omega⟩

end
end T
set_option linter.unusedVariables false
set_option linter.unusedSimpArgs false
set_option maxRecDepth 10000
namespace T
open Go Go.Aes Go.Proofs

section
variable {O : CallF} (hO : OutO O)
include hO

theorem ev_fair (q0 : Int) (ws : List Int) (tk1 : Tk) (costs : List Int) (tkc : Tk) (from' steps : Int) :
    ∃ H', evl X O 7 [.int .i64 q0, .sl (intRows .i64 ws) tk1, .sl (intRows .i64 costs) tkc, .int .i64 from', .int .i64 steps] H0 = some (.val (.bool true) H') := by
  suffices h : c7 (evl X O) [.int .i64 q0, .sl (intRows .i64 ws) tk1, .sl (intRows .i64 costs) tkc, .int .i64 from', .int .i64 steps] H0 (fun v _ => v = .bool true) by
    obtain ⟨v, H', h1, rfl⟩ := of_form e7 xf7 (hO _ _ _ (by decide) (by decide)) h
    exact ⟨H', h1⟩
  have p1 := fun H => ev_place hO q0 200 (by decide) (by decide) H
  have p2 := fun H => ev_place hO from' 50 (by decide) (by decide) H
  have z0 := Int.emod_nonneg q0 (by decide : (200 : Int) ≠ 0)
  have z1 := Int.emod_lt_of_pos q0 (by decide : (0 : Int) < 200)
  have z2 := Int.emod_nonneg from' (by decide : (50 : Int) ≠ 0)
  have z3 := Int.emod_lt_of_pos from' (by decide : (0 : Int) < 50)
  obtain ⟨f, hF⟩ := Int.eq_ofNat_of_zero_le z2
  rw [hF] at p2 z3
  generalize q0 % 200 = q' at *
  simp only [c7, r7_0, r7_1, r7_2, r7_3, opn_z, opn_s, sel_z, sel_s, qCd_eq, qIf_true, qIf_false, qFn_eq, qBl_eq, qO_some, qRes_val, qHp_some, qPick_true, qPick_false, qG_tt, qG_ff, qG_tf, qG_ft, cellsK_some, qLd_vptr, qLdA_vptr, qFa_ptr, qFa_vptr, qNc_ptr, qNc_vptr, qNc_fn, qNot_bool, qExt_tup, qCallV_fn, qLss_int, qLeq_int, qGtr_int, qGeq_int, qEql_int, qNeq_int, qAdd_int, qSub_int, qMul_int, qConvI_int, qLenL_sl, qLenL_hsl, qLenS_str, foldO, min2_int, max2_int, qSame_refl, Nat.zero_add, List.getElem?_cons_zero, List.getElem?_cons_succ, List.nil_append, List.cons_append, List.append_nil, one_bool, one_int, one_str, one_nilp, one_ptr, one_sl, one_hsl, one_map, one_fn, List.length_cons, List.length_nil, List.set_cons_zero, List.set_cons_succ, Nat.reduceLT, Nat.reduceAdd, p1, i64_in (x := 50 + q') (by omega)]
  have qb : 50 ≤ 50 + q' ∧ 50 + q' ≤ 249 := by omega
  generalize 50 + q' = q at *
  refine fair_w hO _ ?_ .H0 _ _ _ _ _ _ _ _ _ _ _ _ _ _ _ _ _ _ _ _ _ _ _ _ _
  intro v H1 hf1 ow
  intro x0 x10 x13 x14 x15 x16 x17 x18 x19 x20 x21 x22 x23 x24 x25 x26 x37 x68 x84 x89 x98 x135 x154 x158 x164 x220
  obtain ⟨tk, hv⟩ := ow.sl
  have hl : (wts ws 10 (min ws.length 6)).length = min ws.length 6 := wts_len _ _ _ (by omega)
  have hwb : ∀ i, i < min ws.length 6 → 1 ≤ (wts ws 10 (min ws.length 6)).getD i 0 ∧ (wts ws 10 (min ws.length 6)).getD i 0 ≤ 10 := fun i hi => by
    rw [wts_get _ _ _ _ (by omega) hi]
    have p0 := Int.emod_nonneg (ws.getD i 0) (by decide : (10 : Int) ≠ 0)
    have p1 := Int.emod_lt_of_pos (ws.getD i 0) (by decide : (0 : Int) < 10)
    omega
  generalize wts ws 10 (min ws.length 6) = w at *
  obtain ⟨H2, a1, a2⟩ := ev_snew hO hf1 q (ow.ints H1) (by rw [hl]; unfold Go.maxLen; omega)
  subst hv
  generalize hn : min ws.length 6 = n at *
  have hn6 : n ≤ 6 := by omega
  rw [hl, Nat.min_eq_left (by omega)] at a2
  have f2 := a2.fn
  have g2 := a2.at_
  clear a2
  generalize H1.nx = pS at *
  have hwl : ((intRows .i64 w).length : Int) = (n : Int) := by rw [intRows_len, hl]
  have hcl : ((intRows .i64 costs).length : Int) = (costs.length : Int) := by rw [intRows_len]
  obtain ⟨H3, b1, b2⟩ := ev_sawake hO f2
  by_cases l1 : (n : Int) < 2
  · simp only [r7_7, r7_8, r7_9, opn_z, opn_s, sel_z, sel_s, qCd_eq, qIf_true, qIf_false, qFn_eq, qBl_eq, qO_some, qRes_val, qHp_some, qPick_true, qPick_false, qG_tt, qG_ff, qG_tf, qG_ft, cellsK_some, qLd_vptr, qLdA_vptr, qFa_ptr, qFa_vptr, qNc_ptr, qNc_vptr, qNc_fn, qNot_bool, qExt_tup, qCallV_fn, qLss_int, qLeq_int, qGtr_int, qGeq_int, qEql_int, qNeq_int, qAdd_int, qSub_int, qMul_int, qConvI_int, qLenL_sl, qLenL_hsl, qLenS_str, foldO, min2_int, max2_int, qSame_refl, Nat.zero_add, List.getElem?_cons_zero, List.getElem?_cons_succ, List.nil_append, List.cons_append, List.append_nil, one_bool, one_int, one_str, one_nilp, one_ptr, one_sl, one_hsl, one_map, one_fn, List.length_cons, List.length_nil, List.set_cons_zero, List.set_cons_succ, Nat.reduceLT, Nat.reduceAdd, a1, eq_nil37, hwl, l1, decide_true, ne_nil37, b1]
  · by_cases l2 : costs.length = 0
    · have l2' : ((costs.length : Int) == 0) = true := by rw [l2]; rfl
      simp only [r7_7, r7_8, r7_9, opn_z, opn_s, sel_z, sel_s, qCd_eq, qIf_true, qIf_false, qFn_eq, qBl_eq, qO_some, qRes_val, qHp_some, qPick_true, qPick_false, qG_tt, qG_ff, qG_tf, qG_ft, cellsK_some, qLd_vptr, qLdA_vptr, qFa_ptr, qFa_vptr, qNc_ptr, qNc_vptr, qNc_fn, qNot_bool, qExt_tup, qCallV_fn, qLss_int, qLeq_int, qGtr_int, qGeq_int, qEql_int, qNeq_int, qAdd_int, qSub_int, qMul_int, qConvI_int, qLenL_sl, qLenL_hsl, qLenS_str, foldO, min2_int, max2_int, qSame_refl, Nat.zero_add, List.getElem?_cons_zero, List.getElem?_cons_succ, List.nil_append, List.cons_append, List.append_nil, one_bool, one_int, one_str, one_nilp, one_ptr, one_sl, one_hsl, one_map, one_fn, List.length_cons, List.length_nil, List.set_cons_zero, List.set_cons_succ, Nat.reduceLT, Nat.reduceAdd, a1, eq_nil37, hwl, hcl, l1, l2', decide_false, ne_nil37, b1]
    · have l2' : ((costs.length : Int) == 0) = false := by rw [beq_eq_false_iff_ne]; omega
      by_cases l3 : (100 : Int) < (costs.length : Int)
      · simp only [r7_7, r7_8, r7_9, opn_z, opn_s, sel_z, sel_s, qCd_eq, qIf_true, qIf_false, qFn_eq, qBl_eq, qO_some, qRes_val, qHp_some, qPick_true, qPick_false, qG_tt, qG_ff, qG_tf, qG_ft, cellsK_some, qLd_vptr, qLdA_vptr, qFa_ptr, qFa_vptr, qNc_ptr, qNc_vptr, qNc_fn, qNot_bool, qExt_tup, qCallV_fn, qLss_int, qLeq_int, qGtr_int, qGeq_int, qEql_int, qNeq_int, qAdd_int, qSub_int, qMul_int, qConvI_int, qLenL_sl, qLenL_hsl, qLenS_str, foldO, min2_int, max2_int, qSame_refl, Nat.zero_add, List.getElem?_cons_zero, List.getElem?_cons_succ, List.nil_append, List.cons_append, List.append_nil, one_bool, one_int, one_str, one_nilp, one_ptr, one_sl, one_hsl, one_map, one_fn, List.length_cons, List.length_nil, List.set_cons_zero, List.set_cons_succ, Nat.reduceLT, Nat.reduceAdd, a1, eq_nil37, hwl, hcl, l1, l2', l3, decide_true, decide_false, ne_nil37, b1]
      · have ok := newSh_full q w n (by omega) (by omega)
        have hnn : (newSh q w n).n = n := by show min w.length 8 = n; rw [hl]; omega
        have hqq : (newSh q w n).q = q := by show max 1 (min q 1000) = q; omega
        have gs : GS n q w (newSh q w n) 0 := ⟨hnn, hqq, by omega, ok.w, ok.c, ok.v, fun i hi => newSh_w hl hi (by have := hwb i hi; omega), hwb, qb, by show 0 < n; omega, fun l hl => by
            have hb : beg (newSh q w n) l = 0 := by unfold beg; rw [if_neg]; show ¬ (l < 0 ∨ (l = 0 ∧ false = true)); simp
            rw [hb]
            show (pad8 []).getD l 0 + (pad8 []).getD l 0 = _
            rw [pad0_getD, Int.add_zero, Int.mul_zero], fun l _ => by show 0 ≤ (pad8 []).getD l 0; rw [pad0_getD]; exact Int.le_refl _, fun l _ _ => by show (pad8 []).getD l 0 ≤ 49; rw [pad0_getD]; decide, fun h => by cases h⟩
        simp only [r7_7, r7_8, r7_10, r7_11, r7_12, opn_z, opn_s, sel_z, sel_s, qCd_eq, qIf_true, qIf_false, qFn_eq, qBl_eq, qO_some, qRes_val, qHp_some, qPick_true, qPick_false, qG_tt, qG_ff, qG_tf, qG_ft, cellsK_some, qLd_vptr, qLdA_vptr, qFa_ptr, qFa_vptr, qNc_ptr, qNc_vptr, qNc_fn, qNot_bool, qExt_tup, qCallV_fn, qLss_int, qLeq_int, qGtr_int, qGeq_int, qEql_int, qNeq_int, qAdd_int, qSub_int, qMul_int, qConvI_int, qLenL_sl, qLenL_hsl, qLenS_str, foldO, min2_int, max2_int, qSame_refl, Nat.zero_add, List.getElem?_cons_zero, List.getElem?_cons_succ, List.nil_append, List.cons_append, List.append_nil, one_bool, one_int, one_str, one_nilp, one_ptr, one_sl, one_hsl, one_map, one_fn, List.length_cons, List.length_nil, List.set_cons_zero, List.set_cons_succ, Nat.reduceLT, Nat.reduceAdd, a1, eq_nil37, hwl, hcl, l1, l2', l3, decide_false, p2, mkS f2 n (by omega)]
        have n3 := New.push f2 (.cells (ints (List.replicate n 0)))
        exact fair_t hO l2 (by omega) (by omega) (by omega) hl n3.fn ((n3.other pS (f2.lt g2)).trans g2) ok (newSh_cb _ _ _) (newSh_sb _ _ _) gs _ _ _ _ _ _ _ _ _ _ _ _ _ _ _ _ _ _ _ _ _ _ _ _

end
#print axioms ev_fair
end T
