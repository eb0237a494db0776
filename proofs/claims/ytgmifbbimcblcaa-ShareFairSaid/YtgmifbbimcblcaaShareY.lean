import Derived.Test.YtgmifbbimcblcaaShareX
set_option linter.all false
set_option linter.unusedVariables false
set_option linter.unusedSimpArgs false
set_option maxRecDepth 10000
namespace T
open Go Go.Aes Go.Proofs

/-! ### sums of the first -/
def psum (W : List Int) (j : Nat) : Int := (W.take j).sum
theorem psum_zero (W : List Int) : psum W 0 = 0 := rfl
theorem psum_succ (W : List Int) (j : Nat) : psum W (j + 1) = psum W j + W.getD j 0 := by
  unfold psum
  by_cases h : j < W.length
  · rw [List.take_succ_eq_append_getElem h, List.sum_append, List.getD_eq_getElem?_getD, List.getElem?_eq_getElem h]
    simp
  · rw [List.take_of_length_le (by omega), List.take_of_length_le (by omega), List.getD_eq_getElem?_getD, List.getElem?_eq_none (by omega)]
    simp
theorem psum_mono {W : List Int} {i j : Nat} (h : i ≤ j) (p : ∀ l, l < j → 0 ≤ W.getD l 0) : psum W i ≤ psum W j := by
  induction j with
  | zero => have : i = 0 := by omega
            subst this; exact Int.le_refl _
  | succ j ih =>
    by_cases e : i = j + 1
    · subst e; exact Int.le_refl _
    · have h1 := ih (by omega) (fun l hl => p l (by omega))
      have h2 := p j (by omega)
      rw [psum_succ]
      omega
theorem psum_bd {W : List Int} {j : Nat} {b : Int} (p : ∀ l, l < j → 0 ≤ W.getD l 0 ∧ W.getD l 0 ≤ b) : 0 ≤ psum W j ∧ psum W j ≤ b * j := by
  induction j with
  | zero => rw [psum_zero]; omega
  | succ j ih =>
    obtain ⟨h1, h2⟩ := ih (fun l hl => p l (by omega))
    obtain ⟨h3, h4⟩ := p j (by omega)
    rw [psum_succ]
    have : b * ((j + 1 : Nat) : Int) = b * j + b := by push_cast; rw [Int.mul_add]; omega
    omega
theorem psum_congr {W V : List Int} {j : Nat} (p : ∀ l, l < j → W.getD l 0 = V.getD l 0) : psum W j = psum V j := by
  induction j with
  | zero => rfl
  | succ j ih => rw [psum_succ, psum_succ, ih (fun l hl => p l (by omega)), p j (by omega)]

theorem askA_get {s : Sh} {cs : List Int} {j : Nat} (h1 : j < s.n) (h2 : j < cs.length) : (askA s cs).getD j 0 = max 0 (min (cs.getD j 0) (50 * s.q)) := by
  unfold askA asks
  rw [pad8_getD, List.getD_eq_getElem?_getD, List.getElem?_map, List.getElem?_take, if_pos (by omega), getD_some h2]
  rfl

/-! ### the first to be reached -/
structure WM (n k : Nat) (A : List Int) (s : Sh) (t : Int) : Prop where
  n_ : s.n = n
  q_ : s.q = 50
  kn : k < n
  n8 : n ≤ 8
  wl : s.W.length = 8
  cl : s.Cr.length = 8
  w1 : ∀ i, i < n → 1 ≤ s.W.getD i 0 ∧ s.W.getD i 0 ≤ 20
  pos : s.pos ≤ k
  mode : (s.vis = false ∧ t = 50 * psum s.W s.pos ∧ ∀ i, s.pos ≤ i → s.Cr.getD i 0 = 0) ∨ (s.vis = true ∧ s.pos < k ∧ 0 ≤ s.Cr.getD s.pos 0 ∧ t + s.Cr.getD s.pos 0 = 50 * psum s.W (s.pos + 1) ∧ ∀ i, s.pos < i → s.Cr.getD i 0 = 0)

theorem WM.le {n k : Nat} {A : List Int} {s : Sh} {t : Int} (h : WM n k A s t) : t ≤ 50 * psum s.W n ∧ psum s.W n ≤ 160 := by
  have kn := h.kn; have p := h.pos; have n8 := h.n8
  have hb := psum_bd (W := s.W) (j := n) (b := 20) (fun l hl => by have := h.w1 l hl; omega)
  have m1 := psum_mono (W := s.W) (i := s.pos) (j := n) (by omega) (fun l hl => by have := h.w1 l hl; omega)
  have m2 := psum_mono (W := s.W) (i := s.pos + 1) (j := n) (by omega) (fun l hl => by have := h.w1 l hl; omega)
  refine ⟨?_, by omega⟩
  rcases h.mode with ⟨_, e, _⟩ | ⟨_, _, c, e, _⟩ <;> omega

theorem WM.step {n k : Nat} {A : List Int} (hA : ∀ j, j < n → j ≠ k → A.getD j 0 = 1) (hk : 1 ≤ A.getD k 0 ∧ A.getD k 0 ≤ 50) {s : Sh} {t : Int} (h : WM n k A s t) :
    ((stp A s).2 = none → WM n k A (stp A s).1 t) ∧ ∀ i, (stp A s).2 = some i → i = k ∨ WM n k A (stp A s).1 (t + 1) := by
  obtain ⟨n_, q_, kn, n8, wl, cl, w1, pos, mode⟩ := h
  have wp := w1 s.pos (by omega)
  have hpl : s.pos < s.Cr.length := by omega
  have a1 : 1 ≤ A.getD s.pos 0 ∧ A.getD s.pos 0 ≤ 50 := by
    by_cases e : s.pos = k
    · rw [e]; exact hk
    · rw [hA s.pos (by omega) e]; omega
  have ps := psum_succ s.W s.pos
  unfold stp
  simp only [q_]
  rw [if_neg (by omega)]
  rcases mode with ⟨hv, e, z⟩ | ⟨hv, hk2, c0, e, z⟩
  · have hz := z s.pos (Nat.le_refl _)
    simp only [hv, Bool.false_eq_true, if_false, hz]
    rw [if_pos (by omega)]
    refine ⟨fun h => (by cases h), fun i hi => ?_⟩
    injection hi with hi
    subst hi
    by_cases ek : s.pos = k
    · exact .inl ek
    · right
      have ha := hA s.pos (by omega) ek
      rw [ha]
      refine ⟨n_, rfl, kn, n8, wl, by simpa using cl, w1, pos, .inr ⟨rfl, by show s.pos < k; omega, ?_, ?_, fun i hi => ?_⟩⟩
      · show 0 ≤ (s.Cr.set s.pos _).getD s.pos 0
        rw [getD_set_eq hpl]; omega
      · show _ + (s.Cr.set s.pos _).getD s.pos 0 = _
        rw [getD_set_eq hpl]
        show _ = 50 * psum s.W (s.pos + 1)
        omega
      · show (s.Cr.set s.pos _).getD i 0 = 0
        have hi' : s.pos < i := hi
        rw [getD_set_ne (by omega)]
        exact z i (by omega)
  · have ek : s.pos ≠ k := by omega
    have ha := hA s.pos (by omega) ek
    simp only [hv, if_true, ha]
    by_cases h1 : 1 ≤ s.Cr.getD s.pos 0
    · rw [if_pos h1]
      refine ⟨fun h => (by cases h), fun i hi => .inr ⟨n_, rfl, kn, n8, wl, by simpa using cl, w1, pos, .inr ⟨rfl, hk2, ?_, ?_, fun i hi => ?_⟩⟩⟩
      · show 0 ≤ (s.Cr.set s.pos _).getD s.pos 0
        rw [getD_set_eq hpl]; omega
      · show _ + (s.Cr.set s.pos _).getD s.pos 0 = _
        rw [getD_set_eq hpl]
        show _ = 50 * psum s.W (s.pos + 1)
        omega
      · show (s.Cr.set s.pos _).getD i 0 = 0
        have hi' : s.pos < i := hi
        rw [getD_set_ne (by omega)]
        exact z i hi'
    · rw [if_neg h1]
      have hmod : (s.pos + 1) % s.n = s.pos + 1 := Nat.mod_eq_of_lt (by omega)
      refine ⟨fun _ => ⟨n_, rfl, kn, n8, wl, by simpa using cl, w1, by show (s.pos + 1) % s.n ≤ k; omega, .inl ⟨rfl, ?_, fun i hi => ?_⟩⟩, fun i hi => (by cases hi)⟩
      · show t = 50 * psum s.W ((s.pos + 1) % s.n)
        rw [hmod]; omega
      · have hi' : (s.pos + 1) % s.n ≤ i := hi
        rw [hmod] at hi'
        show (s.Cr.set s.pos _).getD i 0 = 0
        rw [getD_set_ne (by omega)]
        exact z i (by omega)

theorem WM.srv {n k : Nat} {A : List Int} (hA : ∀ j, j < n → j ≠ k → A.getD j 0 = 1) (hk : 1 ≤ A.getD k 0 ∧ A.getD k 0 ≤ 50) : ∀ {m : Nat} {s : Sh} {t : Int} {R : Nat × Sh}, WM n k A s t → T.srv A m s = some R → R.1 = k ∨ WM n k A R.2 (t + 1)
  | 0, s, t, R, h, hr => by cases hr
  | m + 1, s, t, R, h, hr => by
    obtain ⟨h1, h2⟩ := h.step hA hk
    simp only [T.srv] at hr
    cases hst : stp A s with
    | mk s' o =>
      rw [hst] at hr h1 h2
      cases o with
      | some i =>
        simp only [Option.some.injEq] at hr
        subst hr
        exact h2 i rfl
      | none =>
        simp only at hr h1
        exact WM.srv hA hk (h1 trivial) hr

/-! ### ones -/
def on1 (n e : Nat) : List Int := (List.range n).map fun j => if j < e then 1 else 0
theorem on1_len (n e : Nat) : (on1 n e).length = n := by simp [on1]
theorem on1_get (n e j : Nat) (h : j < n) : (on1 n e)[j]? = some (if j < e then 1 else 0) := by
  unfold on1
  rw [List.getElem?_map, List.getElem?_range h]
  rfl
theorem on1_zero (n : Nat) : on1 n 0 = List.replicate n 0 := by
  apply List.ext_getElem?
  intro j
  by_cases h : j < n
  · rw [on1_get _ _ _ h, List.getElem?_replicate, if_pos h]
    simp
  · rw [List.getElem?_eq_none (by rw [on1_len]; omega), List.getElem?_eq_none (by simp; omega)]
theorem on1_set (n e : Nat) (h : e < n) : (on1 n e).set e 1 = on1 n (e + 1) := by
  apply List.ext_getElem?
  intro j
  rw [List.getElem?_set]
  by_cases hj : j < n
  · by_cases e1 : e = j
    · subst e1
      rw [if_pos rfl, if_pos (by rw [on1_len]; exact h), on1_get _ _ _ hj, if_pos (by omega)]
    · rw [if_neg e1, on1_get _ _ _ hj, on1_get _ _ _ hj]
      have : (j < e + 1) ↔ (j < e) := by omega
      simp only [this]
  · rw [if_neg (by omega), List.getElem?_eq_none (by rw [on1_len]; omega), List.getElem?_eq_none (by rw [on1_len]; omega)]

theorem wts_get (ws : List Int) (K : Int) (k i : Nat) (h1 : k ≤ ws.length) (h2 : i < k) : (wts ws K k).getD i 0 = 1 + ws.getD i 0 % K := by
  unfold wts
  rw [List.getD_eq_getElem?_getD, List.getElem?_map, List.getElem?_take, if_pos h2, getD_some (by omega)]
  rfl
theorem newSh_w {q : Int} {w : List Int} {n i : Nat} (h : w.length = n) (hi : i < n) (hw : 1 ≤ w.getD i 0 ∧ w.getD i 0 ≤ 20) : (newSh q w n).W.getD i 0 = w.getD i 0 := by
  show (pad8 ((w.take n).map cutW)).getD i 0 = _
  rw [pad8_getD, List.getD_eq_getElem?_getD, List.getElem?_map, List.getElem?_take, if_pos hi, getD_some (by omega)]
  show cutW (w.getD i 0) = _
  unfold cutW
  omega

end T
set_option linter.unusedVariables false
set_option linter.unusedSimpArgs false
set_option maxRecDepth 10000
namespace T
open Go Go.Aes Go.Proofs

section
variable {O : CallF} (hO : OutO O)
include hO

theorem works_w {ws : List Int} {tk1 : Tk} {S1 S2 : AV} (K : KT Prop)
    (hK : ∀ (v : AV) (H' : AH), Aes.Fn H' → Own H' v (wts ws 20 (min ws.length 8)) → ∀ (x6 x8 x9 x10 x11 x12 x13 x14 x15 x16 x24 x44 x60 x81 x95 : AV), K [.sl (intRows .i64 ws) tk1, S1, S2, x6, v, x8, x9, x10, x11, x12, x13, x14, x15, x16, x24, x44, x60, x81, x95] H')
    {H : AH} (hf : Aes.Fn H) (x6 x9 x10 x11 x12 x13 x14 x15 x16 x24 x44 x60 x81 x95 : AV) :
    qLoop (l8_14 (evl X O) K) [.sl (intRows .i64 ws) tk1, S1, S2, x6, .sl [] .nil, .int .i64 0, x9, x10, x11, x12, x13, x14, x15, x16, x24, x44, x60, x81, x95] H := by
  refine loop_inv (fun m fr H => ∃ (i : Nat) (v : AV) (x6 x9 x10 x11 x12 x13 x14 x15 x16 x24 x44 x60 x81 x95 : AV), m = 8 - i ∧ i ≤ min ws.length 8 ∧ fr = [.sl (intRows .i64 ws) tk1, S1, S2, x6, v, .int .i64 (i : Int), x9, x10, x11, x12, x13, x14, x15, x16, x24, x44, x60, x81, x95] ∧ Aes.Fn H ∧ Own H v (wts ws 20 i)) ?_ (m := 8) ?_
  · rintro m fr H k ⟨i, v, x6, x9, x10, x11, x12, x13, x14, x15, x16, x24, x44, x60, x81, x95, rfl, hi, rfl, hf, ow⟩ hk
    by_cases h1 : i < ws.length
    · have h1' : (i : Int) < ((intRows .i64 ws).length : Int) := by rw [intRows_len]; omega
      by_cases h2 : i < 8
      · have h2' : (i : Int) < 8 := by omega
        have hz : ws[i]? = some ws[i] := List.getElem?_eq_getElem h1
        have hia := qIa_ints (tk := tk1) hz
        have p0 := Int.emod_nonneg ws[i] (by decide : (20 : Int) ≠ 0)
        have p1 := Int.emod_lt_of_pos ws[i] (by decide : (0 : Int) < 20)
        have pl := fun H => ev_place hO ws[i] 20 (by decide) (by decide) H
        obtain ⟨v', H', a1, a2, a3, _, _⟩ := app_own hf ow (by rw [wts_len _ _ _ (by omega)]; omega) (1 + ws[i] % 20)
        rw [← wts_succ _ _ _ _ hz] at a2
        simp only [l8_14, r8_3, r8_4, r8_5, opn_z, opn_s, sel_z, sel_s, qCd_eq, qIf_true, qIf_false, qFn_eq, qBl_eq, qO_some, qRes_val, qHp_some, qPick_true, qPick_false, qG_tt, qG_ff, qG_tf, qG_ft, cellsK_some, qLd_vptr, qLdA_vptr, qFa_ptr, qFa_vptr, qNc_ptr, qNc_vptr, qNc_fn, qNot_bool, qExt_tup, qCallV_fn, qLss_int, qLeq_int, qGtr_int, qGeq_int, qEql_int, qNeq_int, qAdd_int, qSub_int, qMul_int, qConvI_int, qLenL_sl, qLenL_hsl, qLenS_str, foldO, min2_int, max2_int, qSame_refl, Nat.zero_add, List.getElem?_cons_zero, List.getElem?_cons_succ, List.nil_append, List.cons_append, List.append_nil, one_bool, one_int, one_str, one_nilp, one_ptr, one_sl, one_hsl, one_map, one_fn, List.length_cons, List.length_nil, List.set_cons_zero, List.set_cons_succ, Nat.reduceLT, Nat.reduceAdd, qLd_vptr, h1', h2', decide_true, hia, pl, i64_in (x := 1 + ws[i] % 20) (by omega), rows1, a1, wrap_succ i (by omega)]
        exact hk (8 - (i + 1)) _ _ (by omega) ⟨i + 1, v', _, _, _, _, _, _, _, _, _, _, _, _, _, _, rfl, by omega, rfl, a3.fn, a2⟩
      · have h2' : ¬ (i : Int) < 8 := by omega
        have : i = min ws.length 8 := by omega
        subst this
        simp only [l8_14, r8_3, opn_z, opn_s, sel_z, sel_s, qCd_eq, qIf_true, qIf_false, qFn_eq, qBl_eq, qO_some, qRes_val, qHp_some, qPick_true, qPick_false, qG_tt, qG_ff, qG_tf, qG_ft, cellsK_some, qLd_vptr, qLdA_vptr, qFa_ptr, qFa_vptr, qNc_ptr, qNc_vptr, qNc_fn, qNot_bool, qExt_tup, qCallV_fn, qLss_int, qLeq_int, qGtr_int, qGeq_int, qEql_int, qNeq_int, qAdd_int, qSub_int, qMul_int, qConvI_int, qLenL_sl, qLenL_hsl, qLenS_str, foldO, min2_int, max2_int, qSame_refl, Nat.zero_add, List.getElem?_cons_zero, List.getElem?_cons_succ, List.nil_append, List.cons_append, List.append_nil, one_bool, one_int, one_str, one_nilp, one_ptr, one_sl, one_hsl, one_map, one_fn, List.length_cons, List.length_nil, List.set_cons_zero, List.set_cons_succ, Nat.reduceLT, Nat.reduceAdd, h1', h2', decide_true, decide_false]
        exact hK v H hf ow _ _ _ _ _ _ _ _ _ _ _ _ _ _ _
    · have h1' : ¬ (i : Int) < ((intRows .i64 ws).length : Int) := by rw [intRows_len]; omega
      have : i = min ws.length 8 := by omega
      subst this
      simp only [l8_14, r8_3, opn_z, opn_s, sel_z, sel_s, qCd_eq, qIf_true, qIf_false, qFn_eq, qBl_eq, qO_some, qRes_val, qHp_some, qPick_true, qPick_false, qG_tt, qG_ff, qG_tf, qG_ft, cellsK_some, qLd_vptr, qLdA_vptr, qFa_ptr, qFa_vptr, qNc_ptr, qNc_vptr, qNc_fn, qNot_bool, qExt_tup, qCallV_fn, qLss_int, qLeq_int, qGtr_int, qGeq_int, qEql_int, qNeq_int, qAdd_int, qSub_int, qMul_int, qConvI_int, qLenL_sl, qLenL_hsl, qLenS_str, foldO, min2_int, max2_int, qSame_refl, Nat.zero_add, List.getElem?_cons_zero, List.getElem?_cons_succ, List.nil_append, List.cons_append, List.append_nil, one_bool, one_int, one_str, one_nilp, one_ptr, one_sl, one_hsl, one_map, one_fn, List.length_cons, List.length_nil, List.set_cons_zero, List.set_cons_succ, Nat.reduceLT, Nat.reduceAdd, h1', decide_false]
      exact hK v H hf ow _ _ _ _ _ _ _ _ _ _ _ _ _ _ _
  · exact ⟨0, .sl [] .nil, _, _, _, _, _, _, _, _, _, _, _, _, _, _, rfl, by omega, rfl, hf, .inl ⟨rfl, rfl⟩⟩

theorem works_c {w : List Int} {tk : Tk} {S0 S1 S2 S10 : AV} {n pS pc : Nat} {s : Sh} (hw : w.length = n) (hn : n ≤ 8) (hb : ∀ i, i < n → 1 ≤ w.getD i 0 ∧ w.getD i 0 ≤ 20) (hne : pc ≠ pS) (K : KT Prop)
    (hK : ∀ (H' : AH), Aes.Fn H' → H'.get pS = some (.cells s.cells) → H'.get pc = some (.cells (ints (on1 n n))) → ∀ (x6 x8 x13 x14 x15 x16 x24 x44 x60 x81 x95 : AV), K [S0, S1, S2, x6, .sl (intRows .i64 w) tk, x8, .ptr pS 0, S10, .hsl pc 0 n n 1 true, .int .i64 (1 + 100 * psum w n), x13, x14, x15, x16, x24, x44, x60, x81, x95] H')
    {H : AH} (hf : Aes.Fn H) (h1 : H.get pS = some (.cells s.cells)) (h2 : H.get pc = some (.cells (ints (List.replicate n 0)))) (x6 x8 x14 x15 x16 x24 x44 x60 x81 x95 : AV) :
    qLoop (l8_9 K) [S0, S1, S2, x6, .sl (intRows .i64 w) tk, x8, .ptr pS 0, S10, .hsl pc 0 n n 1 true, .int .i64 1, .int .i64 0, x14, x15, x16, x24, x44, x60, x81, x95] H := by
  refine loop_inv (fun m fr H => ∃ (i : Nat) (x6 x8 x14 x15 x16 x24 x44 x60 x81 x95 : AV), m = 8 - i ∧ i ≤ n ∧ fr = [S0, S1, S2, x6, .sl (intRows .i64 w) tk, x8, .ptr pS 0, S10, .hsl pc 0 n n 1 true, .int .i64 (1 + 100 * psum w i), .int .i64 (i : Int), x14, x15, x16, x24, x44, x60, x81, x95] ∧
    Aes.Fn H ∧ H.get pS = some (.cells s.cells) ∧ H.get pc = some (.cells (ints (on1 n i)))) ?_ (m := 8) ?_
  · rintro m fr H k ⟨i, x6, x8, x14, x15, x16, x24, x44, x60, x81, x95, rfl, hi, rfl, hf, g1, g2⟩ hk
    by_cases l1 : i < n
    · have l1' : (i : Int) < (n : Int) := by omega
      have hz : w[i]? = some (w.getD i 0) := getD_some (by omega)
      have hia := qIa_ints (tk := tk) hz
      have hwb := hb i l1
      have hpb := psum_bd (W := w) (j := i) (b := 20) (fun l hl => by have := hb l (by omega); omega)
      have hst := qSt_one (R := Prop) hf g2 i (.int .i64 1)
      rw [ints_set, on1_set n i l1] at hst
      have u := Upd.set hf g2 (.cells (ints (on1 n (i + 1))))
      have hl : (ints (on1 n i)).length = n := by rw [ints_len, on1_len]
      have hneed : 1 + 100 * psum w i + 100 * w.getD i 0 = 1 + 100 * psum w (i + 1) := by rw [psum_succ]; omega
      simp only [l8_9, r8_13, r8_14, r8_15, r8_16, opn_z, opn_s, sel_z, sel_s, qCd_eq, qIf_true, qIf_false, qFn_eq, qBl_eq, qO_some, qRes_val, qHp_some, qPick_true, qPick_false, qG_tt, qG_ff, qG_tf, qG_ft, cellsK_some, qLd_vptr, qLdA_vptr, qFa_ptr, qFa_vptr, qNc_ptr, qNc_vptr, qNc_fn, qNot_bool, qExt_tup, qCallV_fn, qLss_int, qLeq_int, qGtr_int, qGeq_int, qEql_int, qNeq_int, qAdd_int, qSub_int, qMul_int, qConvI_int, qLenL_sl, qLenL_hsl, qLenS_str, foldO, min2_int, max2_int, qSame_refl, Nat.zero_add, List.getElem?_cons_zero, List.getElem?_cons_succ, List.nil_append, List.cons_append, List.append_nil, one_bool, one_int, one_str, one_nilp, one_ptr, one_sl, one_hsl, one_map, one_fn, List.length_cons, List.length_nil, List.set_cons_zero, List.set_cons_succ, Nat.reduceLT, Nat.reduceAdd, qLd_vptr, l1', decide_true, hia, qIa_h pc n n i true l1, hst, hl, l1, wrap_succ i (by omega), i64_in (x := 100 * w.getD i 0) (by omega), i64_in (x := 1 + 100 * psum w i + 100 * w.getD i 0) (by omega)]
      rw [hneed]
      exact hk (8 - (i + 1)) _ _ (by omega) ⟨i + 1, _, _, _, _, _, _, _, _, _, _, rfl, by omega, rfl, u.fn, (u.other pS (Ne.symm hne)).trans g1, u.at_⟩
    · have l1' : ¬ (i : Int) < (n : Int) := by omega
      have : i = n := by omega
      subst this
      simp only [l8_9, r8_13, opn_z, opn_s, sel_z, sel_s, qCd_eq, qIf_true, qIf_false, qFn_eq, qBl_eq, qO_some, qRes_val, qHp_some, qPick_true, qPick_false, qG_tt, qG_ff, qG_tf, qG_ft, cellsK_some, qLd_vptr, qLdA_vptr, qFa_ptr, qFa_vptr, qNc_ptr, qNc_vptr, qNc_fn, qNot_bool, qExt_tup, qCallV_fn, qLss_int, qLeq_int, qGtr_int, qGeq_int, qEql_int, qNeq_int, qAdd_int, qSub_int, qMul_int, qConvI_int, qLenL_sl, qLenL_hsl, qLenS_str, foldO, min2_int, max2_int, qSame_refl, Nat.zero_add, List.getElem?_cons_zero, List.getElem?_cons_succ, List.nil_append, List.cons_append, List.append_nil, one_bool, one_int, one_str, one_nilp, one_ptr, one_sl, one_hsl, one_map, one_fn, List.length_cons, List.length_nil, List.set_cons_zero, List.set_cons_succ, Nat.reduceLT, Nat.reduceAdd, l1', decide_false]
      exact hK H hf g1 g2 _ _ _ _ _ _ _ _ _ _ _
  · exact ⟨0, _, _, _, _, _, _, _, _, _, _, rfl, by omega, rfl, hf, h1, by rw [on1_zero]; exact h2⟩

theorem works_n {S0 S1 S2 S7 : AV} {n k pS pc : Nat} {W A cs : List Int} {N : Int} (hne : pc ≠ pS) (hcl : cs.length = n) (hA : ∀ s : Sh, s.n = n → s.q = 50 → askA s cs = A) (hS : someA 50 cs (min n cs.length) = true)
    (hA1 : ∀ j, j < n → j ≠ k → A.getD j 0 = 1) (hk : 1 ≤ A.getD k 0 ∧ A.getD k 0 ≤ 50) (hN : N = 1 + 100 * psum W n) (hN2 : 0 ≤ psum W n ∧ psum W n ≤ 160) (K : KT Prop)
    {H : AH} {s : Sh} (hf : Aes.Fn H) (h1 : H.get pS = some (.cells s.cells)) (h2 : H.get pc = some (.cells (ints cs))) (ok : s.Ok) (cb : CB s) (sb : SB s 0) (wm : WM n k A s 0) (hW : s.W = W) (x6 x8 x13 x15 x16 x24 x44 x60 x81 x95 : AV) :
    qLoop (l8_5 (evl X O) K (fun fr H => sel 3 fr = .bool true)) [S0, S1, S2, x6, S7, x8, .ptr pS 0, .int .i64 (k : Int), .hsl pc 0 n n 1 true, .int .i64 N, x13, .int .i64 0, x15, x16, x24, x44, x60, x81, x95] H := by
  refine loop_inv (fun m fr H => ∃ (t : Nat) (s : Sh) (x6 x8 x13 x15 x16 x24 x44 x60 x81 x95 : AV), m = 20000 - t ∧ fr = [S0, S1, S2, x6, S7, x8, .ptr pS 0, .int .i64 (k : Int), .hsl pc 0 n n 1 true, .int .i64 N, x13, .int .i64 (t : Int), x15, x16, x24, x44, x60, x81, x95] ∧
    Aes.Fn H ∧ H.get pS = some (.cells s.cells) ∧ H.get pc = some (.cells (ints cs)) ∧ s.Ok ∧ CB s ∧ SB s (50000 * t) ∧ WM n k A s t ∧ s.W = W) ?_ (m := 20000) ?_
  · rintro m fr H kk ⟨t, s, x6, x8, x13, x15, x16, x24, x44, x60, x81, x95, rfl, rfl, hf, g1, g2, ok, cb, sb, wm, hW⟩ hkk
    have hle := wm.le.1
    rw [hW] at hle
    have l1 : (t : Int) ≤ N := by omega
    have hpn : s.pos < s.n := by have := wm.pos; have := wm.kn; have := wm.n_; omega
    have hv : Ints H (.hsl pc 0 n n 1 true) cs := .inr ⟨pc, true, by rw [hcl], g2⟩
    have hsome : someA s.q cs (min s.n cs.length) = true := by rw [wm.q_, wm.n_]; exact hS
    obtain ⟨j, hj, ha⟩ := someA_spec ok cs hsome
    obtain ⟨m, R, hr⟩ := srv_some ha _ s (Nat.lt_succ_self _) ok hpn hj cb sb (askA_ab ok cs)
    obtain ⟨H', b1, b2, b3, b4, b5, b6, b7, b8, b9, b10, b11⟩ := ev_next_some hO hf (v := .hsl pc 0 n n 1 true) (cs := cs) ok hpn cb sb (by omega) g1 hv hsome hr
    rw [hA s wm.n_ wm.q_] at hr
    have hwm := wm.srv hA1 hk hr
    have g2' : H'.get pc = some (.cells (ints cs)) := (b2.keep pc (hf.lt g2) hne).trans g2
    by_cases hR : R.1 = k
    · have hR' : ((R.1 : Int) == (k : Int)) = true := by rw [hR]; simp
      obtain ⟨H2, c1, c2⟩ := ev_sawake hO b2.fn
      simp only [l8_5, r8_19, r8_21, r8_22, r8_23, opn_z, opn_s, sel_z, sel_s, qCd_eq, qIf_true, qIf_false, qFn_eq, qBl_eq, qO_some, qRes_val, qHp_some, qPick_true, qPick_false, qG_tt, qG_ff, qG_tf, qG_ft, cellsK_some, qLd_vptr, qLdA_vptr, qFa_ptr, qFa_vptr, qNc_ptr, qNc_vptr, qNc_fn, qNot_bool, qExt_tup, qCallV_fn, qLss_int, qLeq_int, qGtr_int, qGeq_int, qEql_int, qNeq_int, qAdd_int, qSub_int, qMul_int, qConvI_int, qLenL_sl, qLenL_hsl, qLenS_str, foldO, min2_int, max2_int, qSame_refl, Nat.zero_add, List.getElem?_cons_zero, List.getElem?_cons_succ, List.nil_append, List.cons_append, List.append_nil, one_bool, one_int, one_str, one_nilp, one_ptr, one_sl, one_hsl, one_map, one_fn, List.length_cons, List.length_nil, List.set_cons_zero, List.set_cons_succ, Nat.reduceLT, Nat.reduceAdd, l1, decide_true, b1, hR', c1]
    · have hR' : ((R.1 : Int) == (k : Int)) = false := by simp; omega
      have wm' := hwm.resolve_left hR
      simp only [l8_5, r8_19, r8_21, r8_22, r8_20, opn_z, opn_s, sel_z, sel_s, qCd_eq, qIf_true, qIf_false, qFn_eq, qBl_eq, qO_some, qRes_val, qHp_some, qPick_true, qPick_false, qG_tt, qG_ff, qG_tf, qG_ft, cellsK_some, qLd_vptr, qLdA_vptr, qFa_ptr, qFa_vptr, qNc_ptr, qNc_vptr, qNc_fn, qNot_bool, qExt_tup, qCallV_fn, qLss_int, qLeq_int, qGtr_int, qGeq_int, qEql_int, qNeq_int, qAdd_int, qSub_int, qMul_int, qConvI_int, qLenL_sl, qLenL_hsl, qLenS_str, foldO, min2_int, max2_int, qSame_refl, Nat.zero_add, List.getElem?_cons_zero, List.getElem?_cons_succ, List.nil_append, List.cons_append, List.append_nil, one_bool, one_int, one_str, one_nilp, one_ptr, one_sl, one_hsl, one_map, one_fn, List.length_cons, List.length_nil, List.set_cons_zero, List.set_cons_succ, Nat.reduceLT, Nat.reduceAdd, l1, decide_true, b1, hR', wrap_succ t (by omega)]
      exact hkk (20000 - (t + 1)) _ _ (by omega) ⟨t + 1, R.2, _, _, _, _, _, _, _, _, _, _, rfl, rfl, b2.fn, b3, g2', b4, b6, fun j x h => by have := b7 j x h; omega, wm', b10.trans hW⟩
  · exact ⟨0, s, _, _, _, _, _, _, _, _, _, _, rfl, rfl, hf, h1, h2, ok, cb, sb, wm, hW⟩

theorem ev_works (ws : List Int) (tk1 : Tk) (who cost : Int) :
    ∃ H', evl X O 8 [.sl (intRows .i64 ws) tk1, .int .i64 who, .int .i64 cost] H0 = some (.val (.bool true) H') := by
  suffices h : c8 (evl X O) [.sl (intRows .i64 ws) tk1, .int .i64 who, .int .i64 cost] H0 (fun v _ => v = .bool true) by
    obtain ⟨v, H', h1, rfl⟩ := of_form e8 xf8 (hO _ _ _ (by decide) (by decide)) h
    exact ⟨H', h1⟩
  simp only [c8, r8_0, r8_1, r8_2, opn_z, opn_s, sel_z, sel_s, qCd_eq, qIf_true, qIf_false, qFn_eq, qBl_eq, qO_some, qRes_val, qHp_some, qPick_true, qPick_false, qG_tt, qG_ff, qG_tf, qG_ft, cellsK_some, qLd_vptr, qLdA_vptr, qFa_ptr, qFa_vptr, qNc_ptr, qNc_vptr, qNc_fn, qNot_bool, qExt_tup, qCallV_fn, qLss_int, qLeq_int, qGtr_int, qGeq_int, qEql_int, qNeq_int, qAdd_int, qSub_int, qMul_int, qConvI_int, qLenL_sl, qLenL_hsl, qLenS_str, foldO, min2_int, max2_int, qSame_refl, Nat.zero_add, List.getElem?_cons_zero, List.getElem?_cons_succ, List.nil_append, List.cons_append, List.append_nil, one_bool, one_int, one_str, one_nilp, one_ptr, one_sl, one_hsl, one_map, one_fn, List.length_cons, List.length_nil, List.set_cons_zero, List.set_cons_succ, Nat.reduceLT, Nat.reduceAdd]
  refine works_w hO _ ?_ .H0 _ _ _ _ _ _ _ _ _ _ _ _ _ _
  intro v H1 hf1 ow
  intro x6 x8 x9 x10 x11 x12 x13 x14 x15 x16 x24 x44 x60 x81 x95
  obtain ⟨tk, hv⟩ := ow.sl
  have hl : (wts ws 20 (min ws.length 8)).length = min ws.length 8 := wts_len _ _ _ (by omega)
  have hwb : ∀ i, i < min ws.length 8 → 1 ≤ (wts ws 20 (min ws.length 8)).getD i 0 ∧ (wts ws 20 (min ws.length 8)).getD i 0 ≤ 20 := fun i hi => by
    rw [wts_get _ _ _ _ (by omega) hi]
    have p0 := Int.emod_nonneg (ws.getD i 0) (by decide : (20 : Int) ≠ 0)
    have p1 := Int.emod_lt_of_pos (ws.getD i 0) (by decide : (0 : Int) < 20)
    omega
  generalize wts ws 20 (min ws.length 8) = w at *
  obtain ⟨H2, a1, a2⟩ := ev_snew hO hf1 50 (ow.ints H1) (by rw [hl]; unfold Go.maxLen; omega)
  subst hv
  generalize hn : min ws.length 8 = n at *
  have hn8 : n ≤ 8 := by omega
  rw [hl, Nat.min_eq_left hn8] at a2
  have f2 := a2.fn
  have g2 := a2.at_
  clear a2
  generalize H1.nx = pS at *
  by_cases h0 : n = 0
  · have hw0 : (((intRows .i64 w).length : Int) == 0) = true := by rw [intRows_len, hl, h0]; rfl
    obtain ⟨H3, b1, b2⟩ := ev_sawake hO f2
    simp only [r8_6, r8_7, r8_8, opn_z, opn_s, sel_z, sel_s, qCd_eq, qIf_true, qIf_false, qFn_eq, qBl_eq, qO_some, qRes_val, qHp_some, qPick_true, qPick_false, qG_tt, qG_ff, qG_tf, qG_ft, cellsK_some, qLd_vptr, qLdA_vptr, qFa_ptr, qFa_vptr, qNc_ptr, qNc_vptr, qNc_fn, qNot_bool, qExt_tup, qCallV_fn, qLss_int, qLeq_int, qGtr_int, qGeq_int, qEql_int, qNeq_int, qAdd_int, qSub_int, qMul_int, qConvI_int, qLenL_sl, qLenL_hsl, qLenS_str, foldO, min2_int, max2_int, qSame_refl, Nat.zero_add, List.getElem?_cons_zero, List.getElem?_cons_succ, List.nil_append, List.cons_append, List.append_nil, one_bool, one_int, one_str, one_nilp, one_ptr, one_sl, one_hsl, one_map, one_fn, List.length_cons, List.length_nil, List.set_cons_zero, List.set_cons_succ, Nat.reduceLT, Nat.reduceAdd, a1, eq_nil37, hw0, ne_nil37, b1]
  · have hw0 : ((n : Int) == 0) = false := by simp; exact h0
    have hwl : ((intRows .i64 w).length : Int) = (n : Int) := by rw [intRows_len, hl]
    have ok := newSh_full 50 w n hn8 (by omega)
    have hne : H2.nx ≠ pS := by have := f2.lt g2; omega
    have n3 := New.push f2 (.cells (ints (List.replicate n 0)))
    have p1 := fun H => ev_place hO who (n : Int) (by omega) (by omega) H
    have p2 := fun H => ev_place hO cost 50 (by decide) (by decide) H
    have q0 := Int.emod_nonneg who (by omega : (n : Int) ≠ 0)
    have q1 := Int.emod_lt_of_pos who (by omega : (0 : Int) < n)
    have q2 := Int.emod_nonneg cost (by decide : (50 : Int) ≠ 0)
    have q3 := Int.emod_lt_of_pos cost (by decide : (0 : Int) < 50)
    obtain ⟨k, hk⟩ := Int.eq_ofNat_of_zero_le q0
    rw [hk] at p1 q1
    have hkn : k < n := by omega
    generalize cost % 50 = c at *
    simp only [r8_6, r8_7, r8_9, r8_10, r8_11, r8_12, opn_z, opn_s, sel_z, sel_s, qCd_eq, qIf_true, qIf_false, qFn_eq, qBl_eq, qO_some, qRes_val, qHp_some, qPick_true, qPick_false, qG_tt, qG_ff, qG_tf, qG_ft, cellsK_some, qLd_vptr, qLdA_vptr, qFa_ptr, qFa_vptr, qNc_ptr, qNc_vptr, qNc_fn, qNot_bool, qExt_tup, qCallV_fn, qLss_int, qLeq_int, qGtr_int, qGeq_int, qEql_int, qNeq_int, qAdd_int, qSub_int, qMul_int, qConvI_int, qLenL_sl, qLenL_hsl, qLenS_str, foldO, min2_int, max2_int, qSame_refl, Nat.zero_add, List.getElem?_cons_zero, List.getElem?_cons_succ, List.nil_append, List.cons_append, List.append_nil, one_bool, one_int, one_str, one_nilp, one_ptr, one_sl, one_hsl, one_map, one_fn, List.length_cons, List.length_nil, List.set_cons_zero, List.set_cons_succ, Nat.reduceLT, Nat.reduceAdd, a1, eq_nil37, hw0, hwl, p1, mkS f2 n (by omega)]
    generalize H2.push (.cells (ints (List.replicate n 0))) = H3 at n3
    have g3 : H3.get pS = some (.cells (newSh 50 w n).cells) := (n3.other pS (f2.lt g2)).trans g2
    have f3 := n3.fn
    have c3 := n3.at_
    clear n3
    generalize H2.nx = pc at *
    refine works_c hO hl hn8 hwb hne _ ?_ f3 g3 c3 _ _ _ _ _ _ _ _ _ _
    intro H4 hf4 g4 c4
    intro x6 x8 x13 x14 x15 x16 x24 x44 x60 x81 x95
    have hst := qSt_one (R := Prop) hf4 c4 k (.int .i64 (1 + c))
    rw [ints_set] at hst
    have u := Upd.set hf4 c4 (.cells (ints ((on1 n n).set k (1 + c))))
    have hl1 : (ints (on1 n n)).length = n := by rw [ints_len, on1_len]
    have hcl : ((on1 n n).set k (1 + c)).length = n := by rw [List.length_set, on1_len]
    have hck : ((on1 n n).set k (1 + c)).getD k 0 = 1 + c := getD_set_eq (by rw [on1_len]; exact hkn)
    have hcj : ∀ j, j < n → j ≠ k → ((on1 n n).set k (1 + c)).getD j 0 = 1 := fun j hj hjk => by
      rw [getD_set_ne (Ne.symm hjk), List.getD_eq_getElem?_getD, on1_get _ _ _ hj, if_pos hj]
      rfl
    have u1 := u.fn
    have u2 := u.at_
    have u3 := (u.other pS (Ne.symm hne)).trans g4
    simp only [r8_17, r8_18, opn_z, opn_s, sel_z, sel_s, qCd_eq, qIf_true, qIf_false, qFn_eq, qBl_eq, qO_some, qRes_val, qHp_some, qPick_true, qPick_false, qG_tt, qG_ff, qG_tf, qG_ft, cellsK_some, qLd_vptr, qLdA_vptr, qFa_ptr, qFa_vptr, qNc_ptr, qNc_vptr, qNc_fn, qNot_bool, qExt_tup, qCallV_fn, qLss_int, qLeq_int, qGtr_int, qGeq_int, qEql_int, qNeq_int, qAdd_int, qSub_int, qMul_int, qConvI_int, qLenL_sl, qLenL_hsl, qLenS_str, foldO, min2_int, max2_int, qSame_refl, Nat.zero_add, List.getElem?_cons_zero, List.getElem?_cons_succ, List.nil_append, List.cons_append, List.append_nil, one_bool, one_int, one_str, one_nilp, one_ptr, one_sl, one_hsl, one_map, one_fn, List.length_cons, List.length_nil, List.set_cons_zero, List.set_cons_succ, Nat.reduceLT, Nat.reduceAdd, p2, i64_in (x := 1 + c) (by omega), qIa_h pc n n k true hkn, hst, hl1, hkn]
    clear hst u
    generalize H4.set pc (some (.cells (ints ((on1 n n).set k (1 + c))))) = H5 at *
    generalize (on1 n n).set k (1 + c) = cs at *
    have hnn : (newSh 50 w n).n = n := by show min w.length 8 = n; rw [hl]; omega
    have hWw : ∀ i, i < n → (newSh 50 w n).W.getD i 0 = w.getD i 0 := fun i hi => newSh_w hl hi (hwb i hi)
    have hps : psum w n = psum (newSh 50 w n).W n := psum_congr (fun i hi => (hWw i hi).symm)
    have hpb := psum_bd (W := w) (j := n) (b := 20) (fun l hl => by have := hwb l hl; omega)
    have hak : (askA (newSh 50 w n) cs).getD k 0 = 1 + c := by
      rw [askA_get (by rw [hnn]; exact hkn) (by omega), hck]
      show max 0 (min (1 + c) (50 * 50)) = _
      omega
    have haj : ∀ j, j < n → j ≠ k → (askA (newSh 50 w n) cs).getD j 0 = 1 := fun j hj hjk => by
      rw [askA_get (by rw [hnn]; exact hj) (by omega), hcj j hj hjk]
      rfl
    refine works_n hO (A := askA (newSh 50 w n) cs) (W := (newSh 50 w n).W) (k := k) hne hcl (fun s e1 e2 => ?_) ?_ haj (by rw [hak]; omega) (by rw [hps]) (by rw [← hps]; omega) _ u1 u3 u2 ok (newSh_cb _ _ _) (newSh_sb _ _ _) ?_ rfl _ _ _ _ _ _ _ _ _ _
    · unfold askA
      rw [e1, e2, hnn]
      rfl
    · rw [hcl, Nat.min_self]
      unfold someA
      rw [List.any_eq_true]
      refine ⟨cs.getD k 0, List.mem_of_getElem? (i := k) ?_, ?_⟩
      · rw [List.getElem?_take, if_pos hkn]
        exact getD_some (by omega)
      · rw [hck]
        exact decide_eq_true (by omega)
    · exact ⟨hnn, rfl, hkn, hn8, ok.w, ok.c, fun i hi => by rw [hWw i hi]; exact hwb i hi, Nat.zero_le _, .inl ⟨rfl, by rfl, fun i _ => pad0_getD i⟩⟩

end
#print axioms ev_works
end T
