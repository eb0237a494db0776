import Derived.Test.YtgmifbbimcblcaaShareY
set_option linter.all false
set_option linter.unusedVariables false
set_option linter.unusedSimpArgs false
set_option maxRecDepth 10000
namespace T
open Go Go.Aes Go.Proofs

theorem qw_bd {q x : Int} (hq : 1 ≤ q ∧ q ≤ 20) (hx : 1 ≤ x ∧ x ≤ 6) : 1 ≤ q * x ∧ q * x ≤ 120 := by
  have h1 := Int.mul_le_mul hq.1 hx.1 (by decide) (by omega)
  have h2 := Int.mul_le_mul hq.2 hx.2 (by omega) (by decide)
  omega

/-! ### round by round -/
structure RM (n : Nat) (q : Int) (w : List Int) (s : Sh) (r i : Nat) (j : Int) : Prop where
  n_ : s.n = n
  q_ : s.q = q
  n8 : n ≤ 8
  wl : s.W.length = 8
  cl : s.Cr.length = 8
  vl : s.Sv.length = 8
  W : ∀ l, l < n → s.W.getD l 0 = w.getD l 0
  wb : ∀ l, l < n → 1 ≤ w.getD l 0 ∧ w.getD l 0 ≤ 6
  qb : 1 ≤ q ∧ q ≤ 20
  sv : ∀ l, l < n → s.Sv.getD l 0 = (r : Int) * (q * w.getD l 0) + (if l < i then q * w.getD l 0 else if l = i then j else 0)
  sv0 : ∀ l, n ≤ l → s.Sv.getD l 0 = 0
  cr : ∀ l, l ≠ s.pos → s.Cr.getD l 0 = 0
  pos : s.pos < n
  j0 : 0 ≤ j
  j1 : j ≤ 120
  mode : (j = 0 ∧ s.vis = false ∧ s.pos = i % n ∧ s.Cr.getD s.pos 0 = 0) ∨ (j = 0 ∧ s.vis = true ∧ (s.pos + 1) % n = i % n ∧ s.Cr.getD s.pos 0 = 0) ∨ (0 < j ∧ s.vis = true ∧ s.pos = i ∧ s.Cr.getD s.pos 0 = q * w.getD i 0 - j)

theorem RM.serve {n : Nat} {q : Int} {w A : List Int} (hA : ∀ l, l < n → A.getD l 0 = 1) {s : Sh} {r i : Nat} {j : Int} (h : RM n q w s r i j) (hi : i < n) (hj : j < q * w.getD i 0) (hm : s.vis = false ∨ 0 < j) :
    ∃ s', stp A s = (s', some i) ∧ RM n q w s' r i (j + 1) := by
  obtain ⟨n_, q_, n8, wl, cl, vl, W, wb, qb, sv, sv0, cr, pos, j0, j1, mode⟩ := h
  have qw := qw_bd qb (wb i hi)
  have hmod : i % n = i := Nat.mod_eq_of_lt hi
  have hp : s.pos = i := by
    rcases mode with ⟨_, _, e, _⟩ | ⟨e0, hv, _, _⟩ | ⟨_, _, e, _⟩
    · omega
    · rcases hm with h | h
      · rw [hv] at h; cases h
      · omega
    · exact e
  have hc : (if s.vis = true then s.Cr.getD s.pos 0 else s.Cr.getD s.pos 0 + s.q * s.W.getD s.pos 0) = q * w.getD i 0 - j := by
    rcases mode with ⟨e0, hv, _, hz⟩ | ⟨e0, hv, _, _⟩ | ⟨_, hv, _, hz⟩
    · rw [hv, if_neg (by decide), hz, q_, hp, W i hi, e0]; omega
    · rcases hm with h | h
      · rw [hv] at h; cases h
      · omega
    · rw [if_pos hv, hz]
  have hpl : s.pos < s.Cr.length := by omega
  have hvl : s.pos < s.Sv.length := by omega
  unfold stp
  simp only []
  rw [hc, hp, hA i hi]
  simp only [if_neg (by decide : ¬ (1 : Int) = 0), if_pos (by omega : 1 ≤ q * w.getD i 0 - j)]
  rw [hp] at hpl hvl cr
  refine ⟨_, rfl, n_, q_, n8, wl, by simpa using cl, by simpa using vl, W, wb, qb, fun l hl => ?_, fun l hl => ?_, fun l hl => ?_, hi, by omega, by omega, .inr (.inr ⟨by omega, rfl, rfl, ?_⟩)⟩
  · show (s.Sv.set i _).getD l 0 = _
    by_cases e : l = i
    · subst e
      rw [getD_set_eq hvl, sv l hl, if_neg (Nat.lt_irrefl l), if_pos rfl, if_neg (Nat.lt_irrefl l), if_pos rfl]
      omega
    · rw [getD_set_ne (Ne.symm e), sv l hl, if_neg e, if_neg e]
  · show (s.Sv.set i _).getD l 0 = _
    rw [getD_set_ne (by omega)]
    exact sv0 l hl
  · show (s.Cr.set i _).getD l 0 = _
    have hl' : l ≠ i := hl
    rw [getD_set_ne (by omega)]
    exact cr l hl'
  · show (s.Cr.set i _).getD i 0 = _
    rw [getD_set_eq hpl]
    omega

theorem RM.srv {n : Nat} {q : Int} {w A : List Int} (hA : ∀ l, l < n → A.getD l 0 = 1) {s : Sh} {r i : Nat} {j : Int} (h : RM n q w s r i j) (hi : i < n) (hj : j < q * w.getD i 0) {m : Nat} {R : Nat × Sh} (hr : T.srv A m s = some R) :
    R.1 = i ∧ RM n q w R.2 r i (j + 1) := by
  by_cases hm : s.vis = false ∨ 0 < j
  · obtain ⟨s', h1, h2⟩ := h.serve hA hi hj hm
    cases m with
    | zero => cases hr
    | succ m =>
      simp only [T.srv, h1, Option.some.injEq] at hr
      subst hr
      exact ⟨rfl, h2⟩
  · obtain ⟨n_, q_, n8, wl, cl, vl, W, wb, qb, sv, sv0, cr, pos, j0, j1, mode⟩ := h
    have hv : s.vis = true := by cases hh : s.vis with
      | true => rfl
      | false => exact absurd (.inl hh) hm
    have hj0 : j = 0 := by omega
    subst hj0
    obtain ⟨hp, hz⟩ : (s.pos + 1) % n = i % n ∧ s.Cr.getD s.pos 0 = 0 := by
      rcases mode with ⟨_, h, _⟩ | ⟨_, _, h1, h2⟩ | ⟨h, _⟩
      · rw [hv] at h; cases h
      · exact ⟨h1, h2⟩
      · omega
    have hst : stp A s = ({ s with Cr := s.Cr.set s.pos 0, pos := (s.pos + 1) % s.n, vis := false }, none) := by
      unfold stp
      simp only [hA s.pos pos, hv, if_true, hz]
      rfl
    have h2 : RM n q w { s with Cr := s.Cr.set s.pos 0, pos := (s.pos + 1) % s.n, vis := false } r i 0 := by
      have hc0 : ∀ l, (s.Cr.set s.pos 0).getD l 0 = 0 := fun l => by
        by_cases e : l = s.pos
        · subst e; exact getD_set_eq (by omega)
        · rw [getD_set_ne (Ne.symm e)]; exact cr l e
      exact ⟨n_, q_, n8, wl, by simpa using cl, vl, W, wb, qb, sv, sv0, fun l _ => hc0 l, by show (s.pos + 1) % s.n < n; rw [n_]; exact Nat.mod_lt _ (by omega), j0, j1, .inl ⟨rfl, rfl, by show (s.pos + 1) % s.n = i % n; rw [n_]; exact hp, hc0 _⟩⟩
    cases m with
    | zero => cases hr
    | succ m =>
      simp only [T.srv, hst] at hr
      obtain ⟨s', h3, h4⟩ := h2.serve hA hi hj (.inl rfl)
      cases m with
      | zero => cases hr
      | succ m =>
        simp only [T.srv, h3, Option.some.injEq] at hr
        subst hr
        exact ⟨rfl, h4⟩

theorem RM.next {n : Nat} {q : Int} {w : List Int} {s : Sh} {r i : Nat} (hi : i < n) (h : RM n q w s r i (q * w.getD i 0)) : RM n q w s r (i + 1) 0 := by
  obtain ⟨n_, q_, n8, wl, cl, vl, W, wb, qb, sv, sv0, cr, pos, j0, j1, mode⟩ := h
  have qw := qw_bd qb (wb i hi)
  refine ⟨n_, q_, n8, wl, cl, vl, W, wb, qb, fun l hl => ?_, sv0, cr, pos, by omega, by omega, .inr (.inl ?_)⟩
  · rw [sv l hl]
    by_cases e : l = i
    · subst e; rw [if_neg (by omega), if_pos rfl, if_pos (by omega)]
    · by_cases e2 : l < i
      · rw [if_pos e2, if_pos (by omega)]
      · rw [if_neg e2, if_neg e, if_neg (by omega)]
        split <;> rfl
  · rcases mode with ⟨h, _⟩ | ⟨h, _⟩ | ⟨_, hv, hp, hz⟩
    · omega
    · omega
    · exact ⟨rfl, hv, by rw [hp], by omega⟩

theorem RM.round {n : Nat} {q : Int} {w : List Int} {s : Sh} {r : Nat} (h : RM n q w s r n 0) : RM n q w s (r + 1) 0 0 := by
  obtain ⟨n_, q_, n8, wl, cl, vl, W, wb, qb, sv, sv0, cr, pos, j0, j1, mode⟩ := h
  refine ⟨n_, q_, n8, wl, cl, vl, W, wb, qb, fun l hl => ?_, sv0, cr, pos, by omega, by omega, ?_⟩
  · rw [sv l hl, if_pos hl, if_neg (by omega)]
    have : (((r + 1 : Nat) : Int)) * (q * w.getD l 0) = (r : Int) * (q * w.getD l 0) + q * w.getD l 0 := by push_cast; rw [Int.add_mul, Int.one_mul]
    rw [this]
    split <;> omega
  · rw [Nat.mod_self] at mode
    rw [Nat.zero_mod]
    rcases mode with h | h | ⟨h, _⟩
    · exact .inl h
    · exact .inr (.inl h)
    · omega

theorem getD_of {l : List Int} {i : Nat} {x : Int} (h : l[i]? = some x) : l.getD i 0 = x := by rw [List.getD_eq_getElem?_getD, h]; rfl

theorem RM.cb {n : Nat} {q : Int} {w : List Int} {s : Sh} {r i : Nat} {j : Int} (h : RM n q w s r i j) (hj : j ≤ q * w.getD i 0) (hi : 0 < j → i < n) : CB s := by
  intro l x hx
  have hx := getD_of hx
  by_cases e : l = s.pos
  · subst e
    rcases h.mode with ⟨_, _, _, hz⟩ | ⟨_, _, _, hz⟩ | ⟨hj0, _, hp, hz⟩
    · omega
    · omega
    · have := qw_bd h.qb (h.wb i (hi hj0))
      omega
  · have := h.cr l e
    omega

theorem RM.sb {n : Nat} {q : Int} {w : List Int} {s : Sh} {r i : Nat} {j : Int} (h : RM n q w s r i j) (hr : r ≤ 3) : SB s 1000 := by
  intro l x hx
  have hx := getD_of hx
  have j0 := h.j0; have j1 := h.j1
  by_cases e : l < n
  · have h1 := h.sv l e
    have qw := qw_bd h.qb (h.wb l e)
    generalize q * w.getD l 0 = Z at *
    have m1 : 0 ≤ (r : Int) * Z := Int.mul_nonneg (by omega) (by omega)
    have m2 := Int.mul_le_mul (by omega : (r : Int) ≤ 3) qw.2 (by omega) (by decide)
    generalize (r : Int) * Z = Y at *
    rw [hx] at h1
    split at h1
    · omega
    · split at h1 <;> omega
  · have := h.sv0 l (by omega)
    omega

end T
set_option linter.unusedVariables false
set_option linter.unusedSimpArgs false
set_option maxRecDepth 10000
namespace T
open Go Go.Aes Go.Proofs

theorem rep_succ (n : Nat) (x : Int) : List.replicate n x ++ [x] = List.replicate (n + 1) x := by rw [List.replicate_succ']

section
variable {O : CallF} (hO : OutO O)
include hO

theorem rounds_w {ws : List Int} {tk1 : Tk} {S2 S7 : AV} (K : KT Prop)
    (hK : ∀ (v c : AV) (H' : AH), Aes.Fn H' → Own H' v (wts ws 6 (min ws.length 8)) → Own H' c (List.replicate (min ws.length 8) 1) → ∀ (x0 x6 x10 x11 x12 x13 x14 x15 x16 x17 x18 x19 x20 x31 x61 x71 x77 x87 x102 x108 x130 : AV), K [x0, .sl (intRows .i64 ws) tk1, S2, x6, S7, v, c, x10, x11, x12, x13, x14, x15, x16, x17, x18, x19, x20, x31, x61, x71, x77, x87, x102, x108, x130] H')
    {H : AH} (hf : Aes.Fn H) (x0 x6 x12 x13 x14 x15 x16 x17 x18 x19 x20 x31 x61 x71 x77 x87 x102 x108 x130 : AV) :
    qLoop (l9_23 (evl X O) K) [x0, .sl (intRows .i64 ws) tk1, S2, x6, S7, .sl [] .nil, .sl [] .nil, .int .i64 0, .int .i64 0, x12, x13, x14, x15, x16, x17, x18, x19, x20, x31, x61, x71, x77, x87, x102, x108, x130] H := by
  refine loop_inv (fun m fr H => ∃ (i : Nat) (v c : AV) (z : Int) (x0 x6 x12 x13 x14 x15 x16 x17 x18 x19 x20 x31 x61 x71 x77 x87 x102 x108 x130 : AV), m = 8 - i ∧ i ≤ min ws.length 8 ∧ fr = [x0, .sl (intRows .i64 ws) tk1, S2, x6, S7, v, c, .int .i64 z, .int .i64 (i : Int), x12, x13, x14, x15, x16, x17, x18, x19, x20, x31, x61, x71, x77, x87, x102, x108, x130] ∧ Aes.Fn H ∧ Own H v (wts ws 6 i) ∧ Own H c (List.replicate i 1) ∧ ∀ j, tokOf v j → ¬ tokOf c j) ?_ (m := 8) ?_
  · rintro m fr H k ⟨i, v, c, z, x0, x6, x12, x13, x14, x15, x16, x17, x18, x19, x20, x31, x61, x71, x77, x87, x102, x108, x130, rfl, hi, rfl, hf, ow, oc, dis⟩ hk
    by_cases h1 : i < ws.length
    · have h1' : (i : Int) < ((intRows .i64 ws).length : Int) := by rw [intRows_len]; omega
      by_cases h2 : i < 8
      · have h2' : (i : Int) < 8 := by omega
        have hz : ws[i]? = some ws[i] := List.getElem?_eq_getElem h1
        have hia := qIa_ints (tk := tk1) hz
        have p0 := Int.emod_nonneg ws[i] (by decide : (6 : Int) ≠ 0)
        have p1 := Int.emod_lt_of_pos ws[i] (by decide : (0 : Int) < 6)
        have pl := fun H => ev_place hO ws[i] 6 (by decide) (by decide) H
        obtain ⟨v', H1, a1, a2, a3, a4, a5⟩ := app_own hf ow (by rw [wts_len _ _ _ (by omega)]; omega) (1 + ws[i] % 6)
        rw [← wts_succ _ _ _ _ hz] at a2
        have oc1 : Own H1 c (List.replicate i 1) := oc.keep hf a3 (fun j hj hv => dis j hv hj)
        have hlt : ∀ j, tokOf c j → j < H.nx := fun j hj => by
          rcases oc with ⟨e, _⟩ | ⟨_, t, e, ht⟩
          · rw [e] at hj; obtain ⟨r, hj⟩ := hj; injection hj with _ hj; cases hj
          · rw [e] at hj; obtain ⟨r, hj⟩ := hj; injection hj with _ hj; injection hj with hj; rw [← hj]; exact hf.lt ht
        obtain ⟨c', H2, b1, b2, b3, b4, b5⟩ := app_own a3.fn oc1 (by rw [List.length_replicate]; omega) 1
        rw [rep_succ] at b2
        have ov : Own H2 v' (wts ws 6 (i + 1)) := a2.keep a3.fn b3 (fun j hj hc => by have := hlt j hc; have := a5 j hj; omega)
        have dis' : ∀ j, tokOf v' j → ¬ tokOf c' j := fun j hj hc => by
          have e1 := a5 j hj
          have e2 := b5 j hc
          rcases a2 with ⟨e, _⟩ | ⟨_, t, e, ht⟩
          · rw [e] at hj; obtain ⟨r, hj⟩ := hj; injection hj with _ hj; cases hj
          · rw [e] at hj; obtain ⟨r, hj⟩ := hj; injection hj with _ hj; injection hj with hj
            have := a3.fn.lt ht
            omega
        obtain ⟨tkv, rfl⟩ := ov.sl
        have hw : (wts ws 6 (i + 1))[i]? = some (1 + ws[i] % 6) := by
          rw [wts_succ _ _ _ _ hz, List.getElem?_append_right (by rw [wts_len _ _ _ (by omega)]; exact Nat.le_refl _), wts_len _ _ _ (by omega), Nat.sub_self]
          rfl
        have hib := qIa_ints (tk := tkv) hw
        simp only [l9_23, r9_6, r9_7, r9_8, r9_9, opn_z, opn_s, sel_z, sel_s, qCd_eq, qIf_true, qIf_false, qFn_eq, qBl_eq, qO_some, qRes_val, qHp_some, qPick_true, qPick_false, qG_tt, qG_ff, qG_tf, qG_ft, cellsK_some, qLd_vptr, qLdA_vptr, qFa_ptr, qFa_vptr, qNc_ptr, qNc_vptr, qNc_fn, qNot_bool, qExt_tup, qCallV_fn, qLss_int, qLeq_int, qGtr_int, qGeq_int, qEql_int, qNeq_int, qAdd_int, qSub_int, qMul_int, qConvI_int, qLenL_sl, qLenL_hsl, qLenS_str, foldO, min2_int, max2_int, qSame_refl, Nat.zero_add, List.getElem?_cons_zero, List.getElem?_cons_succ, List.nil_append, List.cons_append, List.append_nil, one_bool, one_int, one_str, one_nilp, one_ptr, one_sl, one_hsl, one_map, one_fn, List.length_cons, List.length_nil, List.set_cons_zero, List.set_cons_succ, Nat.reduceLT, Nat.reduceAdd, qLd_vptr, h1', h2', decide_true, hia, pl, i64_in (x := 1 + ws[i] % 6) (by omega), rows1, a1, b1, hib, wrap_succ i (by omega)]
        exact hk (8 - (i + 1)) _ _ (by omega) ⟨i + 1, _, c', _, _, _, _, _, _, _, _, _, _, _, _, _, _, _, _, _, _, _, _, rfl, by omega, rfl, b3.fn, ov, b2, dis'⟩
      · have h2' : ¬ (i : Int) < 8 := by omega
        have : i = min ws.length 8 := by omega
        subst this
        simp only [l9_23, r9_6, opn_z, opn_s, sel_z, sel_s, qCd_eq, qIf_true, qIf_false, qFn_eq, qBl_eq, qO_some, qRes_val, qHp_some, qPick_true, qPick_false, qG_tt, qG_ff, qG_tf, qG_ft, cellsK_some, qLd_vptr, qLdA_vptr, qFa_ptr, qFa_vptr, qNc_ptr, qNc_vptr, qNc_fn, qNot_bool, qExt_tup, qCallV_fn, qLss_int, qLeq_int, qGtr_int, qGeq_int, qEql_int, qNeq_int, qAdd_int, qSub_int, qMul_int, qConvI_int, qLenL_sl, qLenL_hsl, qLenS_str, foldO, min2_int, max2_int, qSame_refl, Nat.zero_add, List.getElem?_cons_zero, List.getElem?_cons_succ, List.nil_append, List.cons_append, List.append_nil, one_bool, one_int, one_str, one_nilp, one_ptr, one_sl, one_hsl, one_map, one_fn, List.length_cons, List.length_nil, List.set_cons_zero, List.set_cons_succ, Nat.reduceLT, Nat.reduceAdd, h1', h2', decide_true, decide_false]
        exact hK v c H hf ow oc _ _ _ _ _ _ _ _ _ _ _ _ _ _ _ _ _ _ _ _ _
    · have h1' : ¬ (i : Int) < ((intRows .i64 ws).length : Int) := by rw [intRows_len]; omega
      have : i = min ws.length 8 := by omega
      subst this
      simp only [l9_23, r9_6, opn_z, opn_s, sel_z, sel_s, qCd_eq, qIf_true, qIf_false, qFn_eq, qBl_eq, qO_some, qRes_val, qHp_some, qPick_true, qPick_false, qG_tt, qG_ff, qG_tf, qG_ft, cellsK_some, qLd_vptr, qLdA_vptr, qFa_ptr, qFa_vptr, qNc_ptr, qNc_vptr, qNc_fn, qNot_bool, qExt_tup, qCallV_fn, qLss_int, qLeq_int, qGtr_int, qGeq_int, qEql_int, qNeq_int, qAdd_int, qSub_int, qMul_int, qConvI_int, qLenL_sl, qLenL_hsl, qLenS_str, foldO, min2_int, max2_int, qSame_refl, Nat.zero_add, List.getElem?_cons_zero, List.getElem?_cons_succ, List.nil_append, List.cons_append, List.append_nil, one_bool, one_int, one_str, one_nilp, one_ptr, one_sl, one_hsl, one_map, one_fn, List.length_cons, List.length_nil, List.set_cons_zero, List.set_cons_succ, Nat.reduceLT, Nat.reduceAdd, h1', decide_false]
      exact hK v c H hf ow oc _ _ _ _ _ _ _ _ _ _ _ _ _ _ _ _ _ _ _ _ _
  · exact ⟨0, .sl [] .nil, .sl [] .nil, 0, _, _, _, _, _, _, _, _, _, _, _, _, _, _, _, _, _, _, _, rfl, by omega, rfl, hf, .inl ⟨rfl, rfl⟩, .inl ⟨rfl, rfl⟩, fun j ⟨r, h⟩ => by injection h with _ h; cases h⟩

/-- what one asks -/
theorem ask_ones {s : Sh} {n : Nat} (hn : s.n = n) (q1 : 1 ≤ s.q) : ∀ l, l < n → (askA s (List.replicate n 1)).getD l 0 = 1 := fun l hl => by
  rw [askA_get (by omega) (by simp; exact hl), List.getD_eq_getElem?_getD, List.getElem?_replicate, if_pos hl]
  show max 0 (min 1 (50 * s.q)) = 1
  omega

theorem rounds_j {w : List Int} {tk tk2 : Tk} {n pS : Nat} {q R : Int} {r i : Nat} (hwl : w.length = n) (hi : i < n) (hr3 : r ≤ 3) (K : KT Prop)
    (hK : ∀ (H' : AH) (s : Sh), Aes.Fn H' → H'.get pS = some (.cells s.cells) → s.Ok → RM n q w s r (i + 1) 0 → ∀ (x0 x1 x2 x6 x10 x11 x16 x17 x18 x19 x20 x31 x61 x71 x77 x87 x102 x108 x130 : AV), K [x0, x1, x2, x6, .int .i64 q, .sl (intRows .i64 w) tk, .sl (intRows .i64 (List.replicate n 1)) tk2, x10, x11, .ptr pS 0, .int .i64 R, .int .i64 (r : Int), .int .i64 (i : Int), x16, x17, x18, x19, x20, x31, x61, x71, x77, x87, x102, x108, x130] H')
    {H : AH} {s : Sh} (hf : Aes.Fn H) (h1 : H.get pS = some (.cells s.cells)) (ok : s.Ok) (rm : RM n q w s r i 0) (x0 x1 x2 x6 x10 x11 x17 x18 x19 x20 x31 x61 x71 x77 x87 x102 x108 x130 : AV) :
    qLoop (l9_16 (evl X O) K (fun fr H => sel 3 fr = .bool true)) [x0, x1, x2, x6, .int .i64 q, .sl (intRows .i64 w) tk, .sl (intRows .i64 (List.replicate n 1)) tk2, x10, x11, .ptr pS 0, .int .i64 R, .int .i64 (r : Int), .int .i64 (i : Int), .int .i64 0, x17, x18, x19, x20, x31, x61, x71, x77, x87, x102, x108, x130] H := by
  have qw := qw_bd rm.qb (rm.wb i hi)
  have hz : w[i]? = some (w.getD i 0) := getD_some (by omega)
  have hia := qIa_ints (tk := tk) hz
  refine loop_inv (fun m fr H => ∃ (j : Nat) (s : Sh) (x0 x1 x2 x6 x10 x11 x17 x18 x19 x20 x31 x61 x71 x77 x87 x102 x108 x130 : AV), m = 200 - j ∧ (j : Int) ≤ q * w.getD i 0 ∧ fr = [x0, x1, x2, x6, .int .i64 q, .sl (intRows .i64 w) tk, .sl (intRows .i64 (List.replicate n 1)) tk2, x10, x11, .ptr pS 0, .int .i64 R, .int .i64 (r : Int), .int .i64 (i : Int), .int .i64 (j : Int), x17, x18, x19, x20, x31, x61, x71, x77, x87, x102, x108, x130] ∧
    Aes.Fn H ∧ H.get pS = some (.cells s.cells) ∧ s.Ok ∧ RM n q w s r i j) ?_ (m := 200) ?_
  · rintro m fr H k ⟨j, s, x0, x1, x2, x6, x10, x11, x17, x18, x19, x20, x31, x61, x71, x77, x87, x102, x108, x130, rfl, hj, rfl, hf, g1, ok, rm⟩ hk
    by_cases l1 : (j : Int) < q * w.getD i 0
    · have hv : Ints H (.sl (intRows .i64 (List.replicate n 1)) tk2) (List.replicate n 1) := .inl ⟨_, rfl⟩
      have hsome : someA s.q (List.replicate n 1) (min s.n (List.replicate n (1 : Int)).length) = true := by
        rw [rm.n_, List.length_replicate, Nat.min_self]
        unfold someA
        rw [List.any_eq_true]
        refine ⟨1, ?_, decide_eq_true (by have := rm.qb; have := rm.q_; omega)⟩
        rw [List.take_of_length_le (by simp), List.mem_replicate]
        exact ⟨by omega, rfl⟩
      have hpn : s.pos < s.n := by rw [rm.n_]; exact rm.pos
      obtain ⟨l, hl, ha⟩ := someA_spec ok _ hsome
      have cb := rm.cb hj (fun _ => hi)
      have sb := rm.sb hr3
      obtain ⟨m, R', hr⟩ := srv_some ha _ s (Nat.lt_succ_self _) ok hpn hl cb sb (askA_ab ok _)
      obtain ⟨H', b1, b2, b3, b4, b5, b6, b7, b8, b9, b10, b11⟩ := ev_next_some hO hf (v := .sl (intRows .i64 (List.replicate n 1)) tk2) (cs := List.replicate n 1) ok hpn cb sb (by omega) g1 hv hsome hr
      obtain ⟨e1, rm'⟩ := rm.srv (ask_ones hO rm.n_ ok.q1) hi l1 hr
      have e1' : ((R'.1 : Int) == (i : Int)) = true := by rw [e1]; simp
      simp only [l9_16, r9_21, r9_22, r9_23, r9_24, opn_z, opn_s, sel_z, sel_s, qCd_eq, qIf_true, qIf_false, qFn_eq, qBl_eq, qO_some, qRes_val, qHp_some, qPick_true, qPick_false, qG_tt, qG_ff, qG_tf, qG_ft, cellsK_some, qLd_vptr, qLdA_vptr, qFa_ptr, qFa_vptr, qNc_ptr, qNc_vptr, qNc_fn, qNot_bool, qExt_tup, qCallV_fn, qLss_int, qLeq_int, qGtr_int, qGeq_int, qEql_int, qNeq_int, qAdd_int, qSub_int, qMul_int, qConvI_int, qLenL_sl, qLenL_hsl, qLenS_str, foldO, min2_int, max2_int, qSame_refl, Nat.zero_add, List.getElem?_cons_zero, List.getElem?_cons_succ, List.nil_append, List.cons_append, List.append_nil, one_bool, one_int, one_str, one_nilp, one_ptr, one_sl, one_hsl, one_map, one_fn, List.length_cons, List.length_nil, List.set_cons_zero, List.set_cons_succ, Nat.reduceLT, Nat.reduceAdd, qLd_vptr, hia, i64_in (x := q * w.getD i 0) (by omega), l1, decide_true, b1, e1', Bool.not_true, wrap_succ j (by omega)]
      exact hk (200 - (j + 1)) _ _ (by omega) ⟨j + 1, R'.2, _, _, _, _, _, _, _, _, _, _, _, _, _, _, _, _, _, _, rfl, by omega, rfl, b2.fn, b3, b4, rm'⟩
    · have e : (j : Int) = q * w.getD i 0 := by omega
      rw [e] at rm
      simp only [l9_16, r9_21, opn_z, opn_s, sel_z, sel_s, qCd_eq, qIf_true, qIf_false, qFn_eq, qBl_eq, qO_some, qRes_val, qHp_some, qPick_true, qPick_false, qG_tt, qG_ff, qG_tf, qG_ft, cellsK_some, qLd_vptr, qLdA_vptr, qFa_ptr, qFa_vptr, qNc_ptr, qNc_vptr, qNc_fn, qNot_bool, qExt_tup, qCallV_fn, qLss_int, qLeq_int, qGtr_int, qGeq_int, qEql_int, qNeq_int, qAdd_int, qSub_int, qMul_int, qConvI_int, qLenL_sl, qLenL_hsl, qLenS_str, foldO, min2_int, max2_int, qSame_refl, Nat.zero_add, List.getElem?_cons_zero, List.getElem?_cons_succ, List.nil_append, List.cons_append, List.append_nil, one_bool, one_int, one_str, one_nilp, one_ptr, one_sl, one_hsl, one_map, one_fn, List.length_cons, List.length_nil, List.set_cons_zero, List.set_cons_succ, Nat.reduceLT, Nat.reduceAdd, qLd_vptr, hia, i64_in (x := q * w.getD i 0) (by omega), l1, decide_false]
      exact hK H s hf g1 ok (rm.next hi) _ _ _ _ _ _ _ _ _ _ _ _ _ _ _ _ _ _ _
  · exact ⟨0, s, _, _, _, _, _, _, _, _, _, _, _, _, _, _, _, _, _, _, rfl, by omega, rfl, hf, h1, ok, rm⟩

theorem rounds_i {w : List Int} {tk tk2 : Tk} {n pS : Nat} {q R : Int} {r : Nat} (hwl : w.length = n) (hr3 : r ≤ 3) (K : KT Prop)
    (hK : ∀ (H' : AH) (s : Sh), Aes.Fn H' → H'.get pS = some (.cells s.cells) → s.Ok → RM n q w s (r + 1) 0 0 → ∀ (x0 x1 x2 x6 x10 x11 x15 x16 x17 x18 x19 x20 x31 x61 x71 x77 x87 x102 x108 x130 : AV), K [x0, x1, x2, x6, .int .i64 q, .sl (intRows .i64 w) tk, .sl (intRows .i64 (List.replicate n 1)) tk2, x10, x11, .ptr pS 0, .int .i64 R, .int .i64 (r : Int), x15, x16, x17, x18, x19, x20, x31, x61, x71, x77, x87, x102, x108, x130] H')
    {H : AH} {s : Sh} (hf : Aes.Fn H) (h1 : H.get pS = some (.cells s.cells)) (ok : s.Ok) (rm : RM n q w s r 0 0) (x0 x1 x2 x6 x10 x11 x16 x17 x18 x19 x20 x31 x61 x71 x77 x87 x102 x108 x130 : AV) :
    qLoop (l9_17 (evl X O) K (fun fr H => sel 3 fr = .bool true)) [x0, x1, x2, x6, .int .i64 q, .sl (intRows .i64 w) tk, .sl (intRows .i64 (List.replicate n 1)) tk2, x10, x11, .ptr pS 0, .int .i64 R, .int .i64 (r : Int), .int .i64 0, x16, x17, x18, x19, x20, x31, x61, x71, x77, x87, x102, x108, x130] H := by
  have hn8 := rm.n8
  refine loop_inv (fun m fr H => ∃ (i : Nat) (s : Sh) (x0 x1 x2 x6 x10 x11 x16 x17 x18 x19 x20 x31 x61 x71 x77 x87 x102 x108 x130 : AV), m = 8 - i ∧ i ≤ n ∧ fr = [x0, x1, x2, x6, .int .i64 q, .sl (intRows .i64 w) tk, .sl (intRows .i64 (List.replicate n 1)) tk2, x10, x11, .ptr pS 0, .int .i64 R, .int .i64 (r : Int), .int .i64 (i : Int), x16, x17, x18, x19, x20, x31, x61, x71, x77, x87, x102, x108, x130] ∧
    Aes.Fn H ∧ H.get pS = some (.cells s.cells) ∧ s.Ok ∧ RM n q w s r i 0) ?_ (m := 8) ?_
  · rintro m fr H k ⟨i, s, x0, x1, x2, x6, x10, x11, x16, x17, x18, x19, x20, x31, x61, x71, x77, x87, x102, x108, x130, rfl, hi, rfl, hf, g1, ok, rm⟩ hk
    by_cases l1 : i < n
    · have l1' : (i : Int) < ((intRows .i64 w).length : Int) := by rw [intRows_len]; omega
      simp only [l9_17, r9_18, r9_20, opn_z, opn_s, sel_z, sel_s, qCd_eq, qIf_true, qIf_false, qFn_eq, qBl_eq, qO_some, qRes_val, qHp_some, qPick_true, qPick_false, qG_tt, qG_ff, qG_tf, qG_ft, cellsK_some, qLd_vptr, qLdA_vptr, qFa_ptr, qFa_vptr, qNc_ptr, qNc_vptr, qNc_fn, qNot_bool, qExt_tup, qCallV_fn, qLss_int, qLeq_int, qGtr_int, qGeq_int, qEql_int, qNeq_int, qAdd_int, qSub_int, qMul_int, qConvI_int, qLenL_sl, qLenL_hsl, qLenS_str, foldO, min2_int, max2_int, qSame_refl, Nat.zero_add, List.getElem?_cons_zero, List.getElem?_cons_succ, List.nil_append, List.cons_append, List.append_nil, one_bool, one_int, one_str, one_nilp, one_ptr, one_sl, one_hsl, one_map, one_fn, List.length_cons, List.length_nil, List.set_cons_zero, List.set_cons_succ, Nat.reduceLT, Nat.reduceAdd, l1', decide_true]
      refine rounds_j hO hwl l1 hr3 _ ?_ hf g1 ok rm _ _ _ _ _ _ _ _ _ _ _ _ _ _ _ _ _ _
      intro H' s' hf' g' ok' rm'
      intro x0 x1 x2 x6 x10 x11 x16 x17 x18 x19 x20 x31 x61 x71 x77 x87 x102 x108 x130
      simp only [r9_19, opn_z, opn_s, sel_z, sel_s, qCd_eq, qIf_true, qIf_false, qFn_eq, qBl_eq, qO_some, qRes_val, qHp_some, qPick_true, qPick_false, qG_tt, qG_ff, qG_tf, qG_ft, cellsK_some, qLd_vptr, qLdA_vptr, qFa_ptr, qFa_vptr, qNc_ptr, qNc_vptr, qNc_fn, qNot_bool, qExt_tup, qCallV_fn, qLss_int, qLeq_int, qGtr_int, qGeq_int, qEql_int, qNeq_int, qAdd_int, qSub_int, qMul_int, qConvI_int, qLenL_sl, qLenL_hsl, qLenS_str, foldO, min2_int, max2_int, qSame_refl, Nat.zero_add, List.getElem?_cons_zero, List.getElem?_cons_succ, List.nil_append, List.cons_append, List.append_nil, one_bool, one_int, one_str, one_nilp, one_ptr, one_sl, one_hsl, one_map, one_fn, List.length_cons, List.length_nil, List.set_cons_zero, List.set_cons_succ, Nat.reduceLT, Nat.reduceAdd, wrap_succ i (by omega)]
      exact hk (8 - (i + 1)) _ _ (by omega) ⟨i + 1, s', _, _, _, _, _, _, _, _, _, _, _, _, _, _, _, _, _, _, _, rfl, by omega, rfl, hf', g', ok', rm'⟩
    · have l1' : ¬ (i : Int) < ((intRows .i64 w).length : Int) := by rw [intRows_len]; omega
      have : i = n := by omega
      subst this
      simp only [l9_17, r9_18, opn_z, opn_s, sel_z, sel_s, qCd_eq, qIf_true, qIf_false, qFn_eq, qBl_eq, qO_some, qRes_val, qHp_some, qPick_true, qPick_false, qG_tt, qG_ff, qG_tf, qG_ft, cellsK_some, qLd_vptr, qLdA_vptr, qFa_ptr, qFa_vptr, qNc_ptr, qNc_vptr, qNc_fn, qNot_bool, qExt_tup, qCallV_fn, qLss_int, qLeq_int, qGtr_int, qGeq_int, qEql_int, qNeq_int, qAdd_int, qSub_int, qMul_int, qConvI_int, qLenL_sl, qLenL_hsl, qLenS_str, foldO, min2_int, max2_int, qSame_refl, Nat.zero_add, List.getElem?_cons_zero, List.getElem?_cons_succ, List.nil_append, List.cons_append, List.append_nil, one_bool, one_int, one_str, one_nilp, one_ptr, one_sl, one_hsl, one_map, one_fn, List.length_cons, List.length_nil, List.set_cons_zero, List.set_cons_succ, Nat.reduceLT, Nat.reduceAdd, l1', decide_false]
      exact hK H s hf g1 ok rm.round _ _ _ _ _ _ _ _ _ _ _ _ _ _ _ _ _ _ _ _
  · exact ⟨0, s, _, _, _, _, _, _, _, _, _, _, _, _, _, _, _, _, _, _, _, rfl, by omega, rfl, hf, h1, ok, rm⟩

theorem rounds_r {w : List Int} {tk tk2 : Tk} {n pS R : Nat} {q : Int} (hwl : w.length = n) (hR : R ≤ 3) (K : KT Prop)
    (hK : ∀ (H' : AH) (s : Sh), Aes.Fn H' → H'.get pS = some (.cells s.cells) → s.Ok → RM n q w s R 0 0 → ∀ (x0 x1 x2 x6 x9 x10 x11 x14 x15 x16 x17 x18 x19 x20 x31 x61 x71 x77 x87 x102 x108 x130 : AV), K [x0, x1, x2, x6, .int .i64 q, .sl (intRows .i64 w) tk, x9, x10, x11, .ptr pS 0, .int .i64 (R : Int), x14, x15, x16, x17, x18, x19, x20, x31, x61, x71, x77, x87, x102, x108, x130] H')
    {H : AH} {s : Sh} (hf : Aes.Fn H) (h1 : H.get pS = some (.cells s.cells)) (ok : s.Ok) (rm : RM n q w s 0 0 0) (x0 x1 x2 x6 x10 x11 x15 x16 x17 x18 x19 x20 x31 x61 x71 x77 x87 x102 x108 x130 : AV) :
    qLoop (l9_18 (evl X O) K (fun fr H => sel 3 fr = .bool true)) [x0, x1, x2, x6, .int .i64 q, .sl (intRows .i64 w) tk, .sl (intRows .i64 (List.replicate n 1)) tk2, x10, x11, .ptr pS 0, .int .i64 (R : Int), .int .i64 0, x15, x16, x17, x18, x19, x20, x31, x61, x71, x77, x87, x102, x108, x130] H := by
  refine loop_inv (fun m fr H => ∃ (r : Nat) (s : Sh) (x0 x1 x2 x6 x10 x11 x15 x16 x17 x18 x19 x20 x31 x61 x71 x77 x87 x102 x108 x130 : AV), m = 3 - r ∧ r ≤ R ∧ fr = [x0, x1, x2, x6, .int .i64 q, .sl (intRows .i64 w) tk, .sl (intRows .i64 (List.replicate n 1)) tk2, x10, x11, .ptr pS 0, .int .i64 (R : Int), .int .i64 (r : Int), x15, x16, x17, x18, x19, x20, x31, x61, x71, x77, x87, x102, x108, x130] ∧
    Aes.Fn H ∧ H.get pS = some (.cells s.cells) ∧ s.Ok ∧ RM n q w s r 0 0) ?_ (m := 3) ?_
  · rintro m fr H k ⟨r, s, x0, x1, x2, x6, x10, x11, x15, x16, x17, x18, x19, x20, x31, x61, x71, x77, x87, x102, x108, x130, rfl, hr, rfl, hf, g1, ok, rm⟩ hk
    by_cases l1 : r < R
    · have l1' : (r : Int) < (R : Int) := by omega
      simp only [l9_18, r9_15, r9_17, opn_z, opn_s, sel_z, sel_s, qCd_eq, qIf_true, qIf_false, qFn_eq, qBl_eq, qO_some, qRes_val, qHp_some, qPick_true, qPick_false, qG_tt, qG_ff, qG_tf, qG_ft, cellsK_some, qLd_vptr, qLdA_vptr, qFa_ptr, qFa_vptr, qNc_ptr, qNc_vptr, qNc_fn, qNot_bool, qExt_tup, qCallV_fn, qLss_int, qLeq_int, qGtr_int, qGeq_int, qEql_int, qNeq_int, qAdd_int, qSub_int, qMul_int, qConvI_int, qLenL_sl, qLenL_hsl, qLenS_str, foldO, min2_int, max2_int, qSame_refl, Nat.zero_add, List.getElem?_cons_zero, List.getElem?_cons_succ, List.nil_append, List.cons_append, List.append_nil, one_bool, one_int, one_str, one_nilp, one_ptr, one_sl, one_hsl, one_map, one_fn, List.length_cons, List.length_nil, List.set_cons_zero, List.set_cons_succ, Nat.reduceLT, Nat.reduceAdd, l1', decide_true]
      refine rounds_i hO hwl (by omega) _ ?_ hf g1 ok rm _ _ _ _ _ _ _ _ _ _ _ _ _ _ _ _ _ _ _
      intro H' s' hf' g' ok' rm'
      intro x0 x1 x2 x6 x10 x11 x15 x16 x17 x18 x19 x20 x31 x61 x71 x77 x87 x102 x108 x130
      simp only [r9_16, opn_z, opn_s, sel_z, sel_s, qCd_eq, qIf_true, qIf_false, qFn_eq, qBl_eq, qO_some, qRes_val, qHp_some, qPick_true, qPick_false, qG_tt, qG_ff, qG_tf, qG_ft, cellsK_some, qLd_vptr, qLdA_vptr, qFa_ptr, qFa_vptr, qNc_ptr, qNc_vptr, qNc_fn, qNot_bool, qExt_tup, qCallV_fn, qLss_int, qLeq_int, qGtr_int, qGeq_int, qEql_int, qNeq_int, qAdd_int, qSub_int, qMul_int, qConvI_int, qLenL_sl, qLenL_hsl, qLenS_str, foldO, min2_int, max2_int, qSame_refl, Nat.zero_add, List.getElem?_cons_zero, List.getElem?_cons_succ, List.nil_append, List.cons_append, List.append_nil, one_bool, one_int, one_str, one_nilp, one_ptr, one_sl, one_hsl, one_map, one_fn, List.length_cons, List.length_nil, List.set_cons_zero, List.set_cons_succ, Nat.reduceLT, Nat.reduceAdd, wrap_succ r (by omega)]
      exact hk (3 - (r + 1)) _ _ (by omega) ⟨r + 1, s', _, _, _, _, _, _, _, _, _, _, _, _, _, _, _, _, _, _, _, _, rfl, by omega, rfl, hf', g', ok', rm'⟩
    · have l1' : ¬ (r : Int) < (R : Int) := by omega
      have : r = R := by omega
      subst this
      simp only [l9_18, r9_15, opn_z, opn_s, sel_z, sel_s, qCd_eq, qIf_true, qIf_false, qFn_eq, qBl_eq, qO_some, qRes_val, qHp_some, qPick_true, qPick_false, qG_tt, qG_ff, qG_tf, qG_ft, cellsK_some, qLd_vptr, qLdA_vptr, qFa_ptr, qFa_vptr, qNc_ptr, qNc_vptr, qNc_fn, qNot_bool, qExt_tup, qCallV_fn, qLss_int, qLeq_int, qGtr_int, qGeq_int, qEql_int, qNeq_int, qAdd_int, qSub_int, qMul_int, qConvI_int, qLenL_sl, qLenL_hsl, qLenS_str, foldO, min2_int, max2_int, qSame_refl, Nat.zero_add, List.getElem?_cons_zero, List.getElem?_cons_succ, List.nil_append, List.cons_append, List.append_nil, one_bool, one_int, one_str, one_nilp, one_ptr, one_sl, one_hsl, one_map, one_fn, List.length_cons, List.length_nil, List.set_cons_zero, List.set_cons_succ, Nat.reduceLT, Nat.reduceAdd, l1', decide_false]
      exact hK H s hf g1 ok rm _ _ _ _ _ _ _ _ _ _ _ _ _ _ _ _ _ _ _ _ _ _
  · exact ⟨0, s, _, _, _, _, _, _, _, _, _, _, _, _, _, _, _, _, _, _, _, _, rfl, by omega, rfl, hf, h1, ok, rm⟩

theorem rounds_s {w sv : List Int} {tk tk2 : Tk} {n pS R : Nat} {q : Int} {s : Sh} (hwl : w.length = n) (hsl : sv.length = n) (hn8 : n ≤ 8) (hR : R ≤ 3) (qb : 1 ≤ q ∧ q ≤ 20) (wb : ∀ l, l < n → 1 ≤ w.getD l 0 ∧ w.getD l 0 ≤ 6) (hsv : ∀ l, l < n → sv.getD l 0 = (R : Int) * (q * w.getD l 0)) (K : KT Prop)
    (hK : ∀ (H' : AH), Aes.Fn H' → ∀ (x0 x1 x2 x6 x7 x8 x9 x10 x11 x13 x14 x15 x16 x17 x18 x19 x20 x31 x61 x71 x77 x87 x102 x108 x130 : AV), K [x0, x1, x2, x6, x7, x8, x9, x10, x11, .ptr pS 0, x13, x14, x15, x16, x17, x18, x19, x20, x31, x61, x71, x77, x87, x102, x108, x130] H')
    {H : AH} (hf : Aes.Fn H) (x0 x1 x2 x6 x9 x10 x11 x14 x15 x16 x17 x18 x31 x61 x71 x77 x87 x102 x108 x130 : AV) :
    qLoop (l9_5 K (fun fr H => sel 3 fr = .bool true)) [x0, x1, x2, x6, .int .i64 q, .sl (intRows .i64 w) tk, x9, x10, x11, .ptr pS 0, .int .i64 (R : Int), x14, x15, x16, x17, x18, .sl (intRows .i64 sv) tk2, .int .i64 0, x31, x61, x71, x77, x87, x102, x108, x130] H := by
  have hlen : (((intRows .i64 sv).length : Int) == ((intRows .i64 w).length : Int)) = true := by rw [intRows_len, intRows_len, hwl, hsl]; simp
  refine loop_inv (fun m fr H => ∃ (i : Nat) (x0 x1 x2 x6 x9 x10 x11 x14 x15 x16 x17 x18 x31 x61 x71 x77 x87 x102 x108 x130 : AV), m = 8 - i ∧ i ≤ n ∧ fr = [x0, x1, x2, x6, .int .i64 q, .sl (intRows .i64 w) tk, x9, x10, x11, .ptr pS 0, .int .i64 (R : Int), x14, x15, x16, x17, x18, .sl (intRows .i64 sv) tk2, .int .i64 (i : Int), x31, x61, x71, x77, x87, x102, x108, x130] ∧ Aes.Fn H) ?_ (m := 8) ?_
  · rintro m fr H k ⟨i, x0, x1, x2, x6, x9, x10, x11, x14, x15, x16, x17, x18, x31, x61, x71, x77, x87, x102, x108, x130, rfl, hi, rfl, hf⟩ hk
    by_cases l1 : i < n
    · have l1' : (i : Int) < ((intRows .i64 w).length : Int) := by rw [intRows_len]; omega
      have hia := qIa_ints (tk := tk) (getD_some (l := w) (i := i) (by omega))
      have hib := qIa_ints (tk := tk2) (getD_some (l := sv) (i := i) (by omega))
      have hx := wb i l1
      have qw := qw_bd qb hx
      have rq := Int.mul_le_mul (by omega : (R : Int) ≤ 3) qb.2 (by omega) (by decide)
      have rq0 : 0 ≤ (R : Int) * q := Int.mul_nonneg (by omega) (by omega)
      have m2 := Int.mul_le_mul (by omega : (R : Int) ≤ 3) qw.2 (by omega) (by decide)
      have m0 : 0 ≤ (R : Int) * (q * w.getD i 0) := Int.mul_nonneg (by omega) (by omega)
      have hass : (R : Int) * q * w.getD i 0 = (R : Int) * (q * w.getD i 0) := Int.mul_assoc _ _ _
      have heq : (sv.getD i 0 == (R : Int) * q * w.getD i 0) = true := by rw [hass, hsv i l1]; simp
      simp only [l9_5, r9_28, r9_29, r9_30, opn_z, opn_s, sel_z, sel_s, qCd_eq, qIf_true, qIf_false, qFn_eq, qBl_eq, qO_some, qRes_val, qHp_some, qPick_true, qPick_false, qG_tt, qG_ff, qG_tf, qG_ft, cellsK_some, qLd_vptr, qLdA_vptr, qFa_ptr, qFa_vptr, qNc_ptr, qNc_vptr, qNc_fn, qNot_bool, qExt_tup, qCallV_fn, qLss_int, qLeq_int, qGtr_int, qGeq_int, qEql_int, qNeq_int, qAdd_int, qSub_int, qMul_int, qConvI_int, qLenL_sl, qLenL_hsl, qLenS_str, foldO, min2_int, max2_int, qSame_refl, Nat.zero_add, List.getElem?_cons_zero, List.getElem?_cons_succ, List.nil_append, List.cons_append, List.append_nil, one_bool, one_int, one_str, one_nilp, one_ptr, one_sl, one_hsl, one_map, one_fn, List.length_cons, List.length_nil, List.set_cons_zero, List.set_cons_succ, Nat.reduceLT, Nat.reduceAdd, qLd_vptr, l1', decide_true, hlen, Bool.not_true, hia, hib, i64_in (x := (R : Int) * q) (by omega), i64_in (x := (R : Int) * q * w.getD i 0) (by rw [hass]; omega), heq, wrap_succ i (by omega)]
      exact hk (8 - (i + 1)) _ _ (by omega) ⟨i + 1, _, _, _, _, _, _, _, _, _, _, _, _, _, _, _, _, _, _, _, _, rfl, by omega, rfl, hf⟩
    · have l1' : ¬ (i : Int) < ((intRows .i64 w).length : Int) := by rw [intRows_len]; omega
      simp only [l9_5, r9_28, opn_z, opn_s, sel_z, sel_s, qCd_eq, qIf_true, qIf_false, qFn_eq, qBl_eq, qO_some, qRes_val, qHp_some, qPick_true, qPick_false, qG_tt, qG_ff, qG_tf, qG_ft, cellsK_some, qLd_vptr, qLdA_vptr, qFa_ptr, qFa_vptr, qNc_ptr, qNc_vptr, qNc_fn, qNot_bool, qExt_tup, qCallV_fn, qLss_int, qLeq_int, qGtr_int, qGeq_int, qEql_int, qNeq_int, qAdd_int, qSub_int, qMul_int, qConvI_int, qLenL_sl, qLenL_hsl, qLenS_str, foldO, min2_int, max2_int, qSame_refl, Nat.zero_add, List.getElem?_cons_zero, List.getElem?_cons_succ, List.nil_append, List.cons_append, List.append_nil, one_bool, one_int, one_str, one_nilp, one_ptr, one_sl, one_hsl, one_map, one_fn, List.length_cons, List.length_nil, List.set_cons_zero, List.set_cons_succ, Nat.reduceLT, Nat.reduceAdd, l1', decide_false]
      exact hK H hf _ _ _ _ _ _ _ _ _ _ _ _ _ _ _ _ _ _ _ _ _ _ _ _ _
  · exact ⟨0, _, _, _, _, _, _, _, _, _, _, _, _, _, _, _, _, _, _, _, _, rfl, by omega, rfl, hf⟩

theorem ev_rounds (quantum : Int) (ws : List Int) (tk1 : Tk) (steps : Int) :
    ∃ H', evl X O 9 [.int .i64 quantum, .sl (intRows .i64 ws) tk1, .int .i64 steps] H0 = some (.val (.bool true) H') := by
  suffices h : c9 (evl X O) [.int .i64 quantum, .sl (intRows .i64 ws) tk1, .int .i64 steps] H0 (fun v _ => v = .bool true) by
    obtain ⟨v, H', h1, rfl⟩ := of_form e9 xf9 (hO _ _ _ (by decide) (by decide)) h
    exact ⟨H', h1⟩
  have p1 := fun H => ev_place hO quantum 20 (by decide) (by decide) H
  have p2 := fun H => ev_place hO steps 4 (by decide) (by decide) H
  have q0 := Int.emod_nonneg quantum (by decide : (20 : Int) ≠ 0)
  have q1 := Int.emod_lt_of_pos quantum (by decide : (0 : Int) < 20)
  have q2 := Int.emod_nonneg steps (by decide : (4 : Int) ≠ 0)
  have q3 := Int.emod_lt_of_pos steps (by decide : (0 : Int) < 4)
  obtain ⟨R, hR⟩ := Int.eq_ofNat_of_zero_le q2
  rw [hR] at p2 q3
  generalize quantum % 20 = q' at *
  simp only [c9, r9_0, r9_1, r9_2, r9_3, r9_4, r9_5, opn_z, opn_s, sel_z, sel_s, qCd_eq, qIf_true, qIf_false, qFn_eq, qBl_eq, qO_some, qRes_val, qHp_some, qPick_true, qPick_false, qG_tt, qG_ff, qG_tf, qG_ft, cellsK_some, qLd_vptr, qLdA_vptr, qFa_ptr, qFa_vptr, qNc_ptr, qNc_vptr, qNc_fn, qNot_bool, qExt_tup, qCallV_fn, qLss_int, qLeq_int, qGtr_int, qGeq_int, qEql_int, qNeq_int, qAdd_int, qSub_int, qMul_int, qConvI_int, qLenL_sl, qLenL_hsl, qLenS_str, foldO, min2_int, max2_int, qSame_refl, Nat.zero_add, List.getElem?_cons_zero, List.getElem?_cons_succ, List.nil_append, List.cons_append, List.append_nil, one_bool, one_int, one_str, one_nilp, one_ptr, one_sl, one_hsl, one_map, one_fn, List.length_cons, List.length_nil, List.set_cons_zero, List.set_cons_succ, Nat.reduceLT, Nat.reduceAdd, p1, i64_in (x := 1 + q') (by omega)]
  have qb : 1 ≤ 1 + q' ∧ 1 + q' ≤ 20 := by omega
  generalize 1 + q' = q at *
  refine rounds_w hO _ ?_ .H0 _ _ _ _ _ _ _ _ _ _ _ _ _ _ _ _ _ _ _
  intro v c H1 hf1 ow oc
  intro x0 x6 x10 x11 x12 x13 x14 x15 x16 x17 x18 x19 x20 x31 x61 x71 x77 x87 x102 x108 x130
  obtain ⟨tk, hv⟩ := ow.sl
  obtain ⟨tk2, hc⟩ := oc.sl
  have hl : (wts ws 6 (min ws.length 8)).length = min ws.length 8 := wts_len _ _ _ (by omega)
  have hwb : ∀ i, i < min ws.length 8 → 1 ≤ (wts ws 6 (min ws.length 8)).getD i 0 ∧ (wts ws 6 (min ws.length 8)).getD i 0 ≤ 6 := fun i hi => by
    rw [wts_get _ _ _ _ (by omega) hi]
    have p0 := Int.emod_nonneg (ws.getD i 0) (by decide : (6 : Int) ≠ 0)
    have p1 := Int.emod_lt_of_pos (ws.getD i 0) (by decide : (0 : Int) < 6)
    omega
  generalize wts ws 6 (min ws.length 8) = w at *
  obtain ⟨H2, a1, a2⟩ := ev_snew hO hf1 q (ow.ints H1) (by rw [hl]; unfold Go.maxLen; omega)
  subst hv
  subst hc
  generalize hn : min ws.length 8 = n at *
  have hn8 : n ≤ 8 := by omega
  rw [hl, Nat.min_eq_left hn8] at a2
  have f2 := a2.fn
  have g2 := a2.at_
  clear a2
  generalize H1.nx = pS at *
  by_cases h0 : n = 0
  · have hw0 : (((intRows .i64 w).length : Int) == 0) = true := by rw [intRows_len, hl, h0]; rfl
    obtain ⟨H3, b1, b2⟩ := ev_sawake hO f2
    simp only [r9_10, r9_11, r9_12, opn_z, opn_s, sel_z, sel_s, qCd_eq, qIf_true, qIf_false, qFn_eq, qBl_eq, qO_some, qRes_val, qHp_some, qPick_true, qPick_false, qG_tt, qG_ff, qG_tf, qG_ft, cellsK_some, qLd_vptr, qLdA_vptr, qFa_ptr, qFa_vptr, qNc_ptr, qNc_vptr, qNc_fn, qNot_bool, qExt_tup, qCallV_fn, qLss_int, qLeq_int, qGtr_int, qGeq_int, qEql_int, qNeq_int, qAdd_int, qSub_int, qMul_int, qConvI_int, qLenL_sl, qLenL_hsl, qLenS_str, foldO, min2_int, max2_int, qSame_refl, Nat.zero_add, List.getElem?_cons_zero, List.getElem?_cons_succ, List.nil_append, List.cons_append, List.append_nil, one_bool, one_int, one_str, one_nilp, one_ptr, one_sl, one_hsl, one_map, one_fn, List.length_cons, List.length_nil, List.set_cons_zero, List.set_cons_succ, Nat.reduceLT, Nat.reduceAdd, a1, eq_nil37, hw0, ne_nil37, b1]
  · have hw0 : ((n : Int) == 0) = false := by simp; exact h0
    have hwl : ((intRows .i64 w).length : Int) = (n : Int) := by rw [intRows_len, hl]
    have ok := newSh_full q w n hn8 (by omega)
    have hnn : (newSh q w n).n = n := by show min w.length 8 = n; rw [hl]; omega
    have hqq : (newSh q w n).q = q := by show max 1 (min q 1000) = q; omega
    have rm : RM n q w (newSh q w n) 0 0 0 := ⟨hnn, hqq, hn8, ok.w, ok.c, ok.v, fun i hi => newSh_w hl hi (by have := hwb i hi; omega), hwb, qb, fun l _ => by
        show (pad8 []).getD l 0 = _
        rw [pad0_getD, if_neg (by omega)]
        have : ((0 : Nat) : Int) * (q * w.getD l 0) = 0 := Int.zero_mul _
        rw [this]
        split <;> rfl, fun l _ => pad0_getD l, fun l _ => pad0_getD l, by show 0 < n; omega, by decide, by decide, .inl ⟨rfl, rfl, by show 0 = 0 % n; rw [Nat.zero_mod], pad0_getD _⟩⟩
    simp only [r9_10, r9_11, r9_13, r9_14, opn_z, opn_s, sel_z, sel_s, qCd_eq, qIf_true, qIf_false, qFn_eq, qBl_eq, qO_some, qRes_val, qHp_some, qPick_true, qPick_false, qG_tt, qG_ff, qG_tf, qG_ft, cellsK_some, qLd_vptr, qLdA_vptr, qFa_ptr, qFa_vptr, qNc_ptr, qNc_vptr, qNc_fn, qNot_bool, qExt_tup, qCallV_fn, qLss_int, qLeq_int, qGtr_int, qGeq_int, qEql_int, qNeq_int, qAdd_int, qSub_int, qMul_int, qConvI_int, qLenL_sl, qLenL_hsl, qLenS_str, foldO, min2_int, max2_int, qSame_refl, Nat.zero_add, List.getElem?_cons_zero, List.getElem?_cons_succ, List.nil_append, List.cons_append, List.append_nil, one_bool, one_int, one_str, one_nilp, one_ptr, one_sl, one_hsl, one_map, one_fn, List.length_cons, List.length_nil, List.set_cons_zero, List.set_cons_succ, Nat.reduceLT, Nat.reduceAdd, a1, eq_nil37, hwl, hw0, p2]
    refine rounds_r hO hl (by omega) _ ?_ f2 g2 ok rm _ _ _ _ _ _ _ _ _ _ _ _ _ _ _ _ _ _ _ _
    intro H3 s hf3 g3 ok3 rm3
    intro x0 x1 x2 x6 x9 x10 x11 x14 x15 x16 x17 x18 x19 x20 x31 x61 x71 x77 x87 x102 x108 x130
    obtain ⟨tk3, H4, d1, d2⟩ := ev_served hO hf3 ok3 g3
    rw [rm3.n_] at d1
    simp only [r9_26, r9_27, opn_z, opn_s, sel_z, sel_s, qCd_eq, qIf_true, qIf_false, qFn_eq, qBl_eq, qO_some, qRes_val, qHp_some, qPick_true, qPick_false, qG_tt, qG_ff, qG_tf, qG_ft, cellsK_some, qLd_vptr, qLdA_vptr, qFa_ptr, qFa_vptr, qNc_ptr, qNc_vptr, qNc_fn, qNot_bool, qExt_tup, qCallV_fn, qLss_int, qLeq_int, qGtr_int, qGeq_int, qEql_int, qNeq_int, qAdd_int, qSub_int, qMul_int, qConvI_int, qLenL_sl, qLenL_hsl, qLenS_str, foldO, min2_int, max2_int, qSame_refl, Nat.zero_add, List.getElem?_cons_zero, List.getElem?_cons_succ, List.nil_append, List.cons_append, List.append_nil, one_bool, one_int, one_str, one_nilp, one_ptr, one_sl, one_hsl, one_map, one_fn, List.length_cons, List.length_nil, List.set_cons_zero, List.set_cons_succ, Nat.reduceLT, Nat.reduceAdd, d1]
    refine rounds_s hO (s := s) hl (by rw [List.length_take, ok3.v]; omega) hn8 (by omega : R ≤ 3) qb hwb (fun l hl' => ?_) _ ?_ d2.fn _ _ _ _ _ _ _ _ _ _ _ _ _ _ _ _ _ _ _ _
    · rw [take_getD0 hl', rm3.sv l hl', if_neg (by omega)]
      split <;> omega
    · intro H5 hf5
      intro x0 x1 x2 x6 x7 x8 x9 x10 x11 x13 x14 x15 x16 x17 x18 x19 x20 x31 x61 x71 x77 x87 x102 x108 x130
      obtain ⟨H6, k1, k2⟩ := ev_sawake hO hf5
      simp only [r9_32, opn_z, opn_s, sel_z, sel_s, qCd_eq, qIf_true, qIf_false, qFn_eq, qBl_eq, qO_some, qRes_val, qHp_some, qPick_true, qPick_false, qG_tt, qG_ff, qG_tf, qG_ft, cellsK_some, qLd_vptr, qLdA_vptr, qFa_ptr, qFa_vptr, qNc_ptr, qNc_vptr, qNc_fn, qNot_bool, qExt_tup, qCallV_fn, qLss_int, qLeq_int, qGtr_int, qGeq_int, qEql_int, qNeq_int, qAdd_int, qSub_int, qMul_int, qConvI_int, qLenL_sl, qLenL_hsl, qLenS_str, foldO, min2_int, max2_int, qSame_refl, Nat.zero_add, List.getElem?_cons_zero, List.getElem?_cons_succ, List.nil_append, List.cons_append, List.append_nil, one_bool, one_int, one_str, one_nilp, one_ptr, one_sl, one_hsl, one_map, one_fn, List.length_cons, List.length_nil, List.set_cons_zero, List.set_cons_succ, Nat.reduceLT, Nat.reduceAdd, k1]

end
#print axioms ev_rounds
end T
