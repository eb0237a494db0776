import Derived.Test.YtphgikpdbaeeoaaDoorRvC
set_option linter.all false
set_option linter.unusedVariables false
set_option linter.unusedSimpArgs false
set_option maxRecDepth 10000
namespace T
open Go Go.Aes Go.Proofs

/-! ### the document's Quote -/
def escL (c : UInt8) : UInt8 := if c = 8 then 98 else if c = 9 then 116 else if c = 10 then 110 else if c = 12 then 102 else if c = 13 then 114 else 0
theorem eqU (c d : UInt8) : (((c.toNat : Nat) : Int) == ((d.toNat : Nat) : Int)) = decide (c = d) := by
  rw [beq_nat, Bool.eq_iff_iff, decide_eq_true_eq, decide_eq_true_eq, UInt8.toNat_inj]
theorem ep61 (c : UInt8) (H : AH) : EP 61 [.int .u8 (c.toNat : Int)] H = some (.val (.int .u8 ((escL c).toNat : Int)) H) := by
  refine uo_form (X := X) (D := OD2) (O := OF2) (S := PS) (al := [.int .u8 (c.toNat : Int)]) e61 xf61 rfl rfl rfl rfl ?_ H
  simp only [AV.kills, AV.kill]
  have q8 : (((c.toNat : Nat) : Int) == 8) = decide (c = 8) := eqU c 8
  have q9 : (((c.toNat : Nat) : Int) == 9) = decide (c = 9) := eqU c 9
  have q10 : (((c.toNat : Nat) : Int) == 10) = decide (c = 10) := eqU c 10
  have q12 : (((c.toNat : Nat) : Int) == 12) = decide (c = 12) := eqU c 12
  have q13 : (((c.toNat : Nat) : Int) == 13) = decide (c = 13) := eqU c 13
  unfold escL
  by_cases h1 : c = 8
  · rw [decide_eq_true h1] at q8
    simp -implicitDefEqProofs only [c61, r61_0, r61_1, r61_2, r61_3, opn_z, opn_s, sel_z, sel_s, qCd_eq, qIf_true, qFn_eq, qBl_eq, qEql_int, AV.kill, q8]
    rw [if_pos h1]; rfl
  rw [decide_eq_false h1] at q8
  by_cases h2 : c = 9
  · rw [decide_eq_true h2] at q9
    simp -implicitDefEqProofs only [c61, r61_0, r61_1, r61_2, r61_4, r61_5, opn_z, opn_s, sel_z, sel_s, qCd_eq, qIf_true, qIf_false, qFn_eq, qBl_eq, qEql_int, AV.kill, q8, q9]
    rw [if_neg h1, if_pos h2]; rfl
  rw [decide_eq_false h2] at q9
  by_cases h3 : c = 10
  · rw [decide_eq_true h3] at q10
    simp -implicitDefEqProofs only [c61, r61_0, r61_1, r61_2, r61_4, r61_6, r61_7, opn_z, opn_s, sel_z, sel_s, qCd_eq, qIf_true, qIf_false, qFn_eq, qBl_eq, qEql_int, AV.kill, q8, q9, q10]
    rw [if_neg h1, if_neg h2, if_pos h3]; rfl
  rw [decide_eq_false h3] at q10
  by_cases h4 : c = 12
  · rw [decide_eq_true h4] at q12
    simp -implicitDefEqProofs only [c61, r61_0, r61_1, r61_2, r61_4, r61_6, r61_8, r61_9, opn_z, opn_s, sel_z, sel_s, qCd_eq, qIf_true, qIf_false, qFn_eq, qBl_eq, qEql_int, AV.kill, q8, q9, q10, q12]
    rw [if_neg h1, if_neg h2, if_neg h3, if_pos h4]; rfl
  rw [decide_eq_false h4] at q12
  by_cases h5 : c = 13
  · rw [decide_eq_true h5] at q13
    simp -implicitDefEqProofs only [c61, r61_0, r61_1, r61_2, r61_4, r61_6, r61_8, r61_10, r61_11, opn_z, opn_s, sel_z, sel_s, qCd_eq, qIf_true, qIf_false, qFn_eq, qBl_eq, qEql_int, AV.kill, q8, q9, q10, q12, q13]
    rw [if_neg h1, if_neg h2, if_neg h3, if_neg h4, if_pos h5]; rfl
  rw [decide_eq_false h5] at q13
  simp -implicitDefEqProofs only [c61, r61_0, r61_1, r61_2, r61_4, r61_6, r61_8, r61_10, r61_12, opn_z, opn_s, sel_z, sel_s, qCd_eq, qIf_false, qFn_eq, qBl_eq, qEql_int, AV.kill, q8, q9, q10, q12, q13]
  rw [if_neg h1, if_neg h2, if_neg h3, if_neg h4, if_neg h5]; rfl

theorem bstrK (b : UInt8) (H : AH) (k : AV → Prop) : qBstr (.sl [[.int .u8 (b.toNat : Int)]] .full) H k = k (.str [b]) := by
  have : bytesOf [[.int .u8 ((b.toNat : Nat) : Int)]] = some [b] := by simp [bytesOf]
  show (bif true then qO (some [[.int .u8 ((b.toNat : Nat) : Int)]]) fun rows => qO (bytesOf rows) fun s => k (.str s) else fail) = _
  simp only [cond_true, qO_some, this]

def escR (c : UInt8) : Str :=
  if c = 34 ∨ c = 92 then [92, c]
  else if escL c ≠ 0 then [92, escL c]
  else if c.toNat < 32 ∨ c = 127 then [92, 117, 48, 48, hexs.getD (c.toNat / 16) 0, hexs.getD (c.toNat % 16) 0]
  else [c]
theorem escR_eq (c : UInt8) : escB c = escR c := by
  have key : ∀ x : Fin 256, escB (UInt8.ofNat x.val) = escR (UInt8.ofNat x.val) := by decide +kernel
  have := key ⟨c.toNat, c.toNat_lt⟩
  simpa using this

theorem slc_u8 (h : Str) (m : Nat) (hm : m < h.length) (k : AV → Prop) : qSlc Tryd.t9.desc 0 (.str h) (some (.int .u8 (m : Int))) (some (.int .u8 ((m + 1 : Nat) : Int))) none k = k (.str [h.getD m 0]) := by
  have hd : (h.take (m + 1)).drop m = [h.getD m 0] := by
    have e1 : h[m]? = some (h.getD m 0) := by simp [List.getD, hm]
    have e2 : (h.take (m + 1)).drop m = (h.drop m).take 1 := by rw [List.drop_take]; congr 1; omega
    rw [e2]
    have e3 : (h.drop m)[0]? = some (h.getD m 0) := by rw [List.getElem?_drop]; exact e1
    cases hd : h.drop m with
    | nil => rw [hd] at e3; cases e3
    | cons a r => rw [hd] at e3; simp at e3; simp [e3]
  have h1 : bnd (some (.int .u8 ((m + 1 : Nat) : Int))) h.length h.length = some (m + 1) := by
    have : (m + 1).ble h.length = true := by rw [Nat.ble_eq]; omega
    have h0 : decide (0 ≤ ((m + 1 : Nat) : Int)) = true := by simp; omega
    simp only [bnd, asN, h0, cond_true, Int.toNat_natCast, this]
  have h2 : bnd (some (.int .u8 (m : Int))) 0 (m + 1) = some m := by
    have : m.ble (m + 1) = true := by simp
    have h0 : decide (0 ≤ (m : Int)) = true := by simp
    simp only [bnd, asN, h0, cond_true, Int.toNat_natCast, this]
  show qO (match bnd (some (.int .u8 ((m + 1 : Nat) : Int))) h.length h.length with
    | none => none
    | some hh => match bnd (some (.int .u8 (m : Int))) 0 hh with
      | none => none
      | some l => some (.str ((h.take hh).drop l))) k = _
  rw [h1]
  simp only [h2, qO_some, hd]
theorem slc_one {s : Str} {i : Nat} {c : UInt8} (h : s[i]? = some c) (k : AV → Prop) : qSlc Tryd.t9.desc 0 (.str s) (some (.int .i64 (i : Int))) (some (.int .i64 ((i + 1 : Nat) : Int))) none k = k (.str [c]) := by
  have hl := (List.getElem?_eq_some_iff.1 h).1
  rw [slcS_mid s i (i + 1) (by omega) (by omega)]
  congr 2
  rw [List.drop_take, show i + 1 - i = 1 by omega, List.drop_eq_getElem_cons hl]
  have := List.getElem?_eq_getElem hl
  rw [h] at this
  injection this with this
  rw [← this]
  rfl
def flatS (s : Str) : Str := s.flatMap escB
theorem flatS_snoc {s : Str} {i : Nat} {c : UInt8} (h : s[i]? = some c) : flatS (s.take (i + 1)) = flatS (s.take i) ++ escB c := by
  unfold flatS
  rw [take_succ' h, List.flatMap_append]
  simp
theorem flatS_len (s : Str) : (flatS s).length ≤ 6 * s.length := by
  induction s with
  | nil => simp [flatS]
  | cons c s ih =>
    have h := escB_len c
    have : flatS (c :: s) = escB c ++ flatS s := rfl
    rw [this, List.length_append, List.length_cons]
    omega

set_option maxHeartbeats 2000000 in
theorem ep37 (s : Str) (hl : s.length < 1000000000) (H : AH) : EP 37 [.str s] H = some (.val (.str (quoteF s)) H) := by
  refine uo_form (X := X) (D := OD2) (O := OF2) (S := PS) (al := [.str s]) e37 xf37 rfl rfl rfl rfl ?_ H
  have e35 := fun H => ep35 s (by omega) H
  simp only [AV.kills, AV.kill]
  cases hv : Lib.validD s with
  | false =>
    rw [hv] at e35
    simp -implicitDefEqProofs only [c37, r37_0, r37_1, r37_2, opn_z, opn_s, sel_z, sel_s, qCd_eq, qIf_true, qFn_eq, qBl_eq, qRes_val, qNot_bool, AV.kill, e35, Bool.not_false]
    simp [quoteF, hv]
  | true =>
  rw [hv] at e35
  simp -implicitDefEqProofs only [c37, r37_0, r37_1, r37_3, r37_4, opn_z, opn_s, sel_z, sel_s, qCd_eq, qIf_false, qFn_eq, qBl_eq, qRes_val, qNot_bool, e35, Bool.not_true]
  refine loop_inv (fun m fr H' => ∃ (i : Nat) (t : Str) (x2 x5 x8 x12 x25 x40 x51 : AV), m = s.length - i ∧ i ≤ s.length ∧ fr = [.str s, x2, .str t, .int .i64 (i : Int), x5, x8, x12, x25, x40, x51] ∧ t = 34 :: flatS (s.take i)) ?_ (m := s.length) ?_
  case refine_2 => exact ⟨0, [34], _, _, _, _, _, _, _, rfl, by omega, rfl, rfl⟩
  rintro m fr H' k ⟨i, t, x2, x5, x8, x12, x25, x40, x51, rfl, hi, rfl, ht⟩ hk
  have htl : t.length ≤ 1 + 6 * i := by
    have := flatS_len (s.take i)
    rw [List.length_take] at this
    rw [ht, List.length_cons]
    omega
  rcases Nat.lt_or_ge i s.length with h | h
  · have h' : (i : Int) < (s.length : Int) := by omega
    obtain ⟨c, hc⟩ : ∃ c, s[i]? = some c := ⟨_, List.getElem?_eq_getElem h⟩
    have ix := fun k => qIx_at s i c hc k
    have so := fun k => slc_one hc k
    have hw := wrap_up i (by omega)
    have e61 := fun H => ep61 c H
    have hcl := c.toNat_lt
    have q34 : (((c.toNat : Nat) : Int) == 34) = decide (c = 34) := eqU c 34
    have q92 : (((c.toNat : Nat) : Int) == 92) = decide (c = 92) := eqU c 92
    have q127 : (((c.toNat : Nat) : Int) == 127) = decide (c = 127) := eqU c 127
    have ad : ∀ (x y : Str), x.length + y.length < 100000000000 → ∀ k : AV → Prop, qAdd X 9 (.str x) (.str y) k = k (.str (x ++ y)) := fun x y hx k => qAdd_str (R := Prop) X 9 x y (by unfold most; omega) k
    have nxt : ∀ (e : Str), escR c = e → t ++ e = 34 :: flatS (s.take (i + 1)) := fun e he => by
      rw [flatS_snoc hc, escR_eq, he, ht]
      rfl
    by_cases h1 : c = 34 ∨ c = 92
    · have a1 := ad t [92] (by simp; omega)
      have a2 := ad (t ++ [92]) [c] (by simp; omega)
      have hn := nxt [92, c] (if_pos h1)
      rcases h1 with h1 | h1
      · rw [decide_eq_true h1] at q34
        simp -implicitDefEqProofs only [l37_8, r37_5, r37_7, r37_9, r37_10, r37_6, opn_z, opn_s, sel_z, sel_s, qCd_eq, qIf_true, qBl_eq, qPick_true, qG_tf, qLss_int, qEql_int, qAdd_int, qLenS_str, h', decide_true, ix, q34, a1, hw, so, a2]
        exact hk (s.length - (i + 1)) _ _ (by omega) ⟨i + 1, _, _, _, _, _, _, _, _, rfl, h, rfl, by rw [← hn]; simp⟩
      · rw [decide_eq_true h1] at q92
        have n34 : (((c.toNat : Nat) : Int) == 34) = false := by rw [q34]; subst h1; rfl
        simp -implicitDefEqProofs only [l37_8, r37_5, r37_7, r37_9, r37_10, r37_6, opn_z, opn_s, sel_z, sel_s, qCd_eq, qIf_true, qBl_eq, qPick_false, qG_ff, qLss_int, qEql_int, qAdd_int, qLenS_str, h', decide_true, ix, n34, q92, a1, hw, so, a2]
        exact hk (s.length - (i + 1)) _ _ (by omega) ⟨i + 1, _, _, _, _, _, _, _, _, rfl, h, rfl, by rw [← hn]; simp⟩
    have n34 : (((c.toNat : Nat) : Int) == 34) = false := by rw [q34]; exact decide_eq_false fun e => h1 (.inl e)
    have n92 : (((c.toNat : Nat) : Int) == 92) = false := by rw [q92]; exact decide_eq_false fun e => h1 (.inr e)
    have z0 : ((((escL c).toNat : Nat) : Int) == 0) = decide (escL c = 0) := eqU (escL c) 0
    by_cases h2 : escL c = 0
    case neg =>
      rw [decide_eq_false h2] at z0
      have a1 := ad t [92] (by simp; omega)
      have a2 := ad (t ++ [92]) [escL c] (by simp; omega)
      have r1 := row1 ((escL c).toNat : Int)
      have bs := fun k => bstrK (escL c) H' k
      have hn := nxt [92, escL c] (by unfold escR; rw [if_neg h1, if_pos h2])
      simp -implicitDefEqProofs only [l37_8, r37_5, r37_7, r37_9, r37_11, r37_12, r37_6, opn_z, opn_s, sel_z, sel_s, qCd_eq, qIf_true, qIf_false, qBl_eq, qRes_val, qPick_false, qG_ff, qLss_int, qEql_int, qNeq_int, qAdd_int, qLenS_str, h', decide_true, ix, n34, n92, e61, z0, Bool.not_false, a1, r1, bs, a2, hw]
      exact hk (s.length - (i + 1)) _ _ (by omega) ⟨i + 1, _, _, _, _, _, _, _, _, rfl, h, rfl, by rw [← hn]; simp⟩
    rw [decide_eq_true h2] at z0
    by_cases h3 : c.toNat < 32 ∨ c = 127
    · have hn := nxt [92, 117, 48, 48, hexs.getD (c.toNat / 16) 0, hexs.getD (c.toNat % 16) 0] (by unfold escR; rw [if_neg h1, if_neg (by simpa using h2), if_pos h3])
      have a1 := ad t [92, 117, 48, 48] (by simp; omega)
      have a2 := ad (t ++ [92, 117, 48, 48]) [hexs.getD (c.toNat / 16) 0] (by simp; omega)
      have a3 := ad (t ++ [92, 117, 48, 48] ++ [hexs.getD (c.toNat / 16) 0]) [hexs.getD (c.toNat % 16) 0] (by simp; omega)
      have hlt : c.toNat < 128 := by
        rcases h3 with h3 | h3
        · omega
        · subst h3; decide
      have w8 : ∀ x : Nat, x < 200 → IntKind.u8.wrap (x : Int) = (x : Int) := fun x hx => by rw [wrap_u8]; omega
      have qd : ∀ k : AV → Prop, qQuo X 5 (.int .u8 (c.toNat : Int)) (.int .u8 16) k = k (.int .u8 ((c.toNat / 16 : Nat) : Int)) := fun k => by
        rw [qQuo_int (h := by decide), Int.tdiv_eq_ediv_of_nonneg (by omega)]
        rw [show ((c.toNat : Int) / 16) = ((c.toNat / 16 : Nat) : Int) by omega, w8 _ (by omega)]
      have qr : ∀ k : AV → Prop, qRem X 5 (.int .u8 (c.toNat : Int)) (.int .u8 16) k = k (.int .u8 ((c.toNat % 16 : Nat) : Int)) := fun k => by
        rw [qRem_int (h := by decide), Int.tmod_eq_emod_of_nonneg (by omega)]
        rw [show ((c.toNat : Int) % 16) = ((c.toNat % 16 : Nat) : Int) by omega]
      have wd : IntKind.u8.wrap (((c.toNat / 16 : Nat) : Int) + 1) = ((c.toNat / 16 + 1 : Nat) : Int) := w8 (c.toNat / 16 + 1) (by omega)
      have wr : IntKind.u8.wrap (((c.toNat % 16 : Nat) : Int) + 1) = ((c.toNat % 16 + 1 : Nat) : Int) := w8 (c.toNat % 16 + 1) (by omega)
      have s1 := fun k => slc_u8 hexs (c.toNat / 16) (by show c.toNat / 16 < 16; omega) k
      have s2 := fun k => slc_u8 hexs (c.toNat % 16) (by show c.toNat % 16 < 16; omega) k
      have hx : hexs = [48,49,50,51,52,53,54,55,56,57,97,98,99,100,101,102] := rfl
      generalize hexs.getD (c.toNat / 16) 0 = y1 at *
      generalize hexs.getD (c.toNat % 16) 0 = y2 at *
      rw [hx] at s1 s2
      by_cases h4 : c.toNat < 32
      · have c4 : ((c.toNat : Nat) : Int) < 32 := by omega
        simp -implicitDefEqProofs only [l37_8, r37_5, r37_7, r37_9, r37_11, r37_13, r37_14, r37_6, opn_z, opn_s, sel_z, sel_s, qCd_eq, qIf_true, qIf_false, qBl_eq, qRes_val, qPick_true, qPick_false, qG_ff, qG_tf, qLss_int, qEql_int, qNeq_int, qAdd_int, qLenS_str, h', decide_true, ix, n34, n92, e61, z0, Bool.not_true, c4, a1, qd, wd, s1, a2, qr, wr, s2, a3, hw]
        exact hk (s.length - (i + 1)) _ _ (by omega) ⟨i + 1, _, _, _, _, _, _, _, _, rfl, h, rfl, by rw [← hn]; simp⟩
      · have c4 : ¬ ((c.toNat : Nat) : Int) < 32 := by omega
        rw [decide_eq_true (h3.resolve_left h4)] at q127
        simp -implicitDefEqProofs only [l37_8, r37_5, r37_7, r37_9, r37_11, r37_13, r37_14, r37_6, opn_z, opn_s, sel_z, sel_s, qCd_eq, qIf_true, qIf_false, qBl_eq, qRes_val, qPick_false, qG_ff, qLss_int, qEql_int, qNeq_int, qAdd_int, qLenS_str, h', decide_true, decide_false, ix, n34, n92, e61, z0, Bool.not_true, c4, q127, a1, qd, wd, s1, a2, qr, wr, s2, a3, hw]
        exact hk (s.length - (i + 1)) _ _ (by omega) ⟨i + 1, _, _, _, _, _, _, _, _, rfl, h, rfl, by rw [← hn]; simp⟩
    · have c4 : ¬ ((c.toNat : Nat) : Int) < 32 := by omega
      rw [decide_eq_false fun e => h3 (.inr e)] at q127
      have hn := nxt [c] (by unfold escR; rw [if_neg h1, if_neg (by simpa using h2), if_neg h3])
      have a1 := ad t [c] (by simp; omega)
      simp -implicitDefEqProofs only [l37_8, r37_5, r37_7, r37_9, r37_11, r37_13, r37_8, r37_6, opn_z, opn_s, sel_z, sel_s, qCd_eq, qIf_true, qIf_false, qBl_eq, qRes_val, qPick_false, qG_ff, qLss_int, qEql_int, qNeq_int, qAdd_int, qLenS_str, h', decide_true, decide_false, ix, n34, n92, e61, z0, Bool.not_true, c4, q127, hw, so, a1]
      exact hk (s.length - (i + 1)) _ _ (by omega) ⟨i + 1, _, _, _, _, _, _, _, _, rfl, h, rfl, by rw [← hn]⟩
  · have h' : ¬ (i : Int) < (s.length : Int) := by omega
    have a1 : ∀ k : AV → Prop, qAdd X 9 (.str t) (.str [34]) k = k (.str (t ++ [34])) := fun k => qAdd_str (R := Prop) X 9 t [34] (by simp; unfold most; omega) k
    simp -implicitDefEqProofs only [l37_8, r37_5, r37_15, opn_z, opn_s, sel_z, sel_s, qCd_eq, qIf_false, qBl_eq, qLss_int, qLenS_str, AV.kill, h', decide_false, a1]
    rw [ht, List.take_of_length_le h]
    simp [quoteF, hv, flatS]
end T
