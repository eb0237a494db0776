import Derived.Test.YtphgikpdbaeeoaaDoorRwB
set_option linter.all false
set_option linter.unusedVariables false
set_option linter.unusedSimpArgs false
set_option maxRecDepth 10000
namespace T
open Go Go.Aes Go.Proofs

/-! ### the document's Unquote -/
theorem esc_none {c : UInt8} (h : ¬ (c = 34 ∨ c = 92 ∨ c = 47)) (h1 : c ≠ 98) (h2 : c ≠ 102) (h3 : c ≠ 110) (h4 : c ≠ 114) (h5 : c ≠ 116) : Lib.indexByte escd c < 0 := by
  have hib := ib_ge escd c
  have hn : escd.contains c = false := by
    cases hx : escd.contains c with
    | false => rfl
    | true =>
      have hm : c ∈ escd := by simpa using hx
      simp only [escd, List.mem_cons, List.not_mem_nil, or_false] at hm
      rcases hm with rfl | rfl | rfl | rfl | rfl | rfl | rfl | rfl <;> simp_all
  rw [hn] at hib
  have := hib.2
  simp at this
  omega
theorem unqF_one (r : Str) : unqF (92 :: r) = match oneF r with
    | none => none
    | some q => (unqF (r.drop q.2)).map (q.1 ++ ·) := by
  rw [unqF_cons, if_neg (by decide), if_neg (by decide)]
  cases r with
  | nil => rfl
  | cons c t =>
    simp only [oneF]
    by_cases hu : c = 117
    · subst hu
      rw [if_pos rfl, if_neg (by decide), if_neg (by decide), if_neg (by decide), if_neg (by decide), if_neg (by decide), if_neg (by decide), if_pos rfl]
      cases hp : pointF t with
      | none => rfl
      | some q =>
        simp only [Option.map_some]
        rw [show 1 + q.2 = q.2 + 1 by omega, List.drop_succ_cons]
    · rw [if_neg hu]
      by_cases h0 : c = 34 ∨ c = 92 ∨ c = 47
      · rw [if_pos h0]
        rcases h0 with rfl | rfl | rfl <;> rfl
      rw [if_neg h0]
      by_cases h1 : c = 98
      · subst h1; rfl
      rw [if_neg h1]
      by_cases h2 : c = 102
      · subst h2; rfl
      rw [if_neg h2]
      by_cases h3 : c = 110
      · subst h3; rfl
      rw [if_neg h3]
      by_cases h4 : c = 114
      · subst h4; rfl
      rw [if_neg h4]
      by_cases h5 : c = 116
      · subst h5; rfl
      rw [if_neg h5, if_neg hu, if_pos (esc_none h0 h1 h2 h3 h4 h5)]
theorem oneF_lt {r : Str} {q : Str × Nat} (h : oneF r = some q) : q.1.length ≤ q.2 ∧ 1 ≤ q.2 ∧ q.2 ≤ r.length := by
  cases r with
  | nil => cases h
  | cons c t =>
    simp only [oneF] at h
    have one : ∀ x : UInt8, some ([x], 1) = some q → q.1.length ≤ q.2 ∧ 1 ≤ q.2 ∧ q.2 ≤ (c :: t).length := by
      intro x hx
      injection hx with hx
      subst hx
      simp
    by_cases h0 : c = 34 ∨ c = 92 ∨ c = 47
    · rw [if_pos h0] at h; exact one _ h
    rw [if_neg h0] at h
    by_cases h1 : c = 98
    · rw [if_pos h1] at h; exact one _ h
    rw [if_neg h1] at h
    by_cases h2 : c = 102
    · rw [if_pos h2] at h; exact one _ h
    rw [if_neg h2] at h
    by_cases h3 : c = 110
    · rw [if_pos h3] at h; exact one _ h
    rw [if_neg h3] at h
    by_cases h4 : c = 114
    · rw [if_pos h4] at h; exact one _ h
    rw [if_neg h4] at h
    by_cases h5 : c = 116
    · rw [if_pos h5] at h; exact one _ h
    rw [if_neg h5] at h
    by_cases h6 : c = 117
    · rw [if_pos h6] at h
      cases hp : pointF t with
      | none => rw [hp] at h; cases h
      | some p =>
        rw [hp] at h
        simp only [Option.map_some, Option.some.injEq] at h
        subst h
        obtain ⟨_, g2, g3⟩ := pointF_lt hp
        have := encR_len p.1
        simp only [List.length_cons]
        omega
    · rw [if_neg h6] at h; cases h

set_option maxHeartbeats 2000000 in
theorem ep34 (s : Str) (hl : s.length < 1000000000) (H : AH) : EP 34 [.str s] H = some (.val (uqR (uqF s)) H) := by
  refine uo_form (X := X) (D := OD2) (O := OF2) (S := PS) (al := [.str s]) e34 xf34 rfl rfl rfl (by cases uqF s <;> rfl) ?_ H
  simp only [AV.kills, AV.kill]
  by_cases h2 : s.length < 2
  · have c1 : (s.length : Int) < 2 := by omega
    simp -implicitDefEqProofs only [c34, r34_0, r34_1, r34_2, opn_z, opn_s, sel_z, sel_s, qCd_eq, qIf_true, qFn_eq, qBl_eq, qPick_true, qG_tf, qLss_int, qLenS_str, AV.kill, AV.kills, c1, decide_true]
    simp [uqF, h2, uqR]
  have c1 : ¬ (s.length : Int) < 2 := by omega
  obtain ⟨a, m, z, hs⟩ := two_ends s h2
  have hlen : s.length = m.length + 2 := by rw [hs]; simp
  have hs0 : s[0]? = some a := by rw [hs]; rfl
  have hsz : s[m.length + 1]? = some z := by rw [hs]; simp
  have i0 : ∀ k : AV → Prop, qIx (.str s) (.int .i64 0) k = k (.int .u8 a.toNat) := fun k => qIx_at s 0 a hs0 k
  have hw : IntKind.i64.wrap ((s.length : Int) - 1) = ((m.length + 1 : Nat) : Int) := by rw [i64_in' (by omega)]; omega
  have iz := fun k => qIx_at s (m.length + 1) z hsz k
  have hno : ∀ h : s.head? ≠ some 34 ∨ s.getLast? ≠ some 34 ∨ Lib.validD s = false, uqF s = none := fun h => if_pos (.inr h)
  by_cases ha : a = 34
  case neg =>
    have c2 : (((a.toNat : Nat) : Int) == 34) = false := by rw [show (((a.toNat : Nat) : Int) == 34) = decide (a = 34) from eqU a 34, decide_eq_false ha]
    simp -implicitDefEqProofs only [c34, r34_0, r34_1, r34_2, opn_z, opn_s, sel_z, sel_s, qCd_eq, qIf_true, qFn_eq, qBl_eq, qPick_true, qPick_false, qG_ff, qG_tf, qLss_int, qNeq_int, qLenS_str, AV.kill, AV.kills, c1, decide_false, i0, c2, Bool.not_false]
    rw [hno (.inl (by rw [hs]; simpa using ha))]
    rfl
  have c2 : (((a.toNat : Nat) : Int) == 34) = true := by rw [show (((a.toNat : Nat) : Int) == 34) = decide (a = 34) from eqU a 34, decide_eq_true ha]
  by_cases hz : z = 34
  case neg =>
    have c3 : (((z.toNat : Nat) : Int) == 34) = false := by rw [show (((z.toNat : Nat) : Int) == 34) = decide (z = 34) from eqU z 34, decide_eq_false hz]
    simp -implicitDefEqProofs only [c34, r34_0, r34_1, r34_2, opn_z, opn_s, sel_z, sel_s, qCd_eq, qIf_true, qFn_eq, qBl_eq, qPick_true, qPick_false, qG_ff, qG_tf, qLss_int, qNeq_int, qSub_int, qLenS_str, AV.kill, AV.kills, c1, decide_false, i0, c2, Bool.not_true, hw, iz, c3, Bool.not_false]
    rw [hno (.inr (.inl (by rw [hs, ← List.cons_append, List.getLast?_concat]; simpa using hz)))]
    rfl
  have c3 : (((z.toNat : Nat) : Int) == 34) = true := by rw [show (((z.toNat : Nat) : Int) == 34) = decide (z = 34) from eqU z 34, decide_eq_true hz]
  have e35 := fun H => ep35 s (by omega) H
  cases hv : Lib.validD s with
  | false =>
    rw [hv] at e35
    simp -implicitDefEqProofs only [c34, r34_0, r34_1, r34_2, opn_z, opn_s, sel_z, sel_s, qCd_eq, qIf_true, qFn_eq, qBl_eq, qRes_val, qPick_false, qG_ff, qNot_bool, qLss_int, qNeq_int, qSub_int, qLenS_str, AV.kill, AV.kills, c1, decide_false, i0, c2, Bool.not_true, hw, iz, c3, e35, Bool.not_false]
    rw [hno (.inr (.inr hv))]
    rfl
  | true =>
  rw [hv] at e35
  subst ha; subst hz
  have hvm : Lib.validD m = true := by
    cases hx : Lib.validD m with
    | true => rfl
    | false =>
      have hh : Lib.validD [34] = true := by decide
      have := validD_bad (valid_halt hh) _ m (Nat.le_refl _) hx
      rw [hs, Lib.validD_cons _ _ (by decide), this] at hv
      cases hv
  have hU : uqF s = unqF m := by rw [hs, uqF_mid, hvm]; rfl
  have sl : ∀ k : AV → Prop, qSlc Tryd.t9.desc 0 (.str s) (some (.int .i64 1)) (some (.int .i64 ((m.length + 1 : Nat) : Int))) none k = k (.str m) := fun k => by
    have := slcS_mid s 1 (m.length + 1) (by omega) (by omega) k
    rw [show (s.take (m.length + 1)).drop 1 = m by rw [hs]; simp] at this
    exact this
  rw [hU]
  simp -implicitDefEqProofs only [c34, r34_0, r34_1, r34_3, r34_4, r34_5, opn_z, opn_s, sel_z, sel_s, qCd_eq, qIf_false, qFn_eq, qBl_eq, qRes_val, qPick_false, qG_ff, qNot_bool, qLss_int, qNeq_int, qSub_int, qLenS_str, c1, decide_false, i0, c2, Bool.not_true, hw, iz, e35, sl]
  have hml : m.length < 1000000000 := by omega
  clear i0 iz hsz hs0 hs hno c2 c3 e35 sl hw hU c1 h2 hv hvm
  refine loop_inv (fun mm fr H' => ∃ (i : Nat) (t : Str) (x2 x3 x7 x8 x29 x38 x48 x61 x69 : AV), mm = m.length - i ∧ fr = [.str s, x2, x3, .str m, .str t, .int .i64 (i : Int), x7, x8, x29, x38, x48, x61, x69] ∧ i ≤ m.length ∧ unqF m = (unqF (m.drop i)).map (t ++ ·) ∧ t.length ≤ i) ?_ (m := m.length) ?_
  case refine_2 => exact ⟨0, [], _, _, _, _, _, _, _, _, _, rfl, rfl, by omega, by simp, by simp⟩
  rintro mm fr H' k ⟨i, t, x2, x3, x7, x8, x29, x38, x48, x61, x69, rfl, rfl, hi, hX, ht⟩ hk
  rcases Nat.lt_or_ge i m.length with h | h
  case inr =>
    have d1 : ¬ (i : Int) < (m.length : Int) := by omega
    simp -implicitDefEqProofs only [l34_8, r34_6, r34_15, opn_z, opn_s, sel_z, sel_s, qCd_eq, qIf_false, qBl_eq, qLss_int, qLenS_str, AV.kill, AV.kills, d1, decide_false]
    rw [List.drop_of_length_le h] at hX
    rw [hX]
    simp [unqF, unqN, uqR]
  have d1 : (i : Int) < (m.length : Int) := by omega
  obtain ⟨c, hc⟩ : ∃ c, m[i]? = some c := ⟨_, List.getElem?_eq_getElem h⟩
  have ix := fun k => qIx_at m i c hc k
  have hd : m.drop i = c :: m.drop (i + 1) := by
    rw [List.drop_eq_getElem_cons h]
    congr 1
    have := List.getElem?_eq_getElem h
    rw [hc] at this
    injection this with this
    exact this.symm
  rw [hd] at hX
  have hw1 := wrap_up i (by omega)
  by_cases h92 : c = 92
  · subst h92
    have q92 : ((((92 : UInt8).toNat : Nat) : Int) == 92) = true := by decide
    rw [unqF_one] at hX
    have e57 := fun H => ep57 m hml (i + 1) (by omega) H
    cases ho : oneF (m.drop (i + 1)) with
    | none =>
      rw [ho] at e57 hX
      simp only [oneR] at e57
      simp only [Option.map_none] at hX
      have z0 : ((0 : Int) == 0) = true := by decide
      simp -implicitDefEqProofs only [l34_8, r34_6, r34_8, r34_9, r34_10, r34_11, opn_z, opn_s, sel_z, sel_s, qCd_eq, qIf_true, qBl_eq, qO_some, qRes_val, qExt_tup, qLss_int, qEql_int, qAdd_int, qLenS_str, List.getElem?_cons_zero, List.getElem?_cons_succ, AV.kill, AV.kills, d1, decide_true, ix, q92, hw1, e57, z0]
      rw [hX]
      rfl
    | some q =>
      rw [ho] at e57 hX
      simp only [oneR] at e57
      simp only at hX
      obtain ⟨g1, g2, g3⟩ := oneF_lt ho
      rw [List.length_drop] at g3
      have z0 : (((q.2 : Nat) : Int) == 0) = false := by simp; omega
      have ad : ∀ k : AV → Prop, qAdd X 9 (.str t) (.str q.1) k = k (.str (t ++ q.1)) := fun k => qAdd_str (R := Prop) X 9 t q.1 (by unfold most; omega) k
      have hw2 : IntKind.i64.wrap (((i + 1 : Nat) : Int) + (q.2 : Int)) = ((i + 1 + q.2 : Nat) : Int) := by rw [i64_in' (by omega)]; omega
      simp -implicitDefEqProofs only [l34_8, r34_6, r34_8, r34_9, r34_10, r34_12, opn_z, opn_s, sel_z, sel_s, qCd_eq, qIf_true, qIf_false, qBl_eq, qO_some, qRes_val, qExt_tup, qLss_int, qEql_int, qAdd_int, qLenS_str, List.getElem?_cons_zero, List.getElem?_cons_succ, d1, decide_true, ix, q92, hw1, e57, z0, ad, hw2]
      refine hk (m.length - (i + 1 + q.2)) _ _ (by omega) ⟨i + 1 + q.2, t ++ q.1, _, _, _, _, _, _, _, _, _, rfl, rfl, by omega, ?_, by rw [List.length_append]; omega⟩
      rw [hX, List.drop_drop, Option.map_map]
      congr 1
      funext x
      simp
  · have q92 : (((c.toNat : Nat) : Int) == 92) = false := by rw [show (((c.toNat : Nat) : Int) == 92) = decide (c = 92) from eqU c 92, decide_eq_false h92]
    rw [unqF_cons] at hX
    by_cases h32 : c.toNat < 32
    · have d2 : ((c.toNat : Nat) : Int) < 32 := by omega
      rw [if_pos (.inl h32)] at hX
      simp -implicitDefEqProofs only [l34_8, r34_6, r34_8, r34_13, r34_14, opn_z, opn_s, sel_z, sel_s, qCd_eq, qIf_true, qIf_false, qBl_eq, qPick_true, qG_tf, qLss_int, qEql_int, qLenS_str, AV.kill, AV.kills, d1, d2, decide_true, ix, q92]
      rw [hX]
      rfl
    have d2 : ¬ ((c.toNat : Nat) : Int) < 32 := by omega
    by_cases h34 : c = 34
    · have q34 : (((c.toNat : Nat) : Int) == 34) = true := by rw [show (((c.toNat : Nat) : Int) == 34) = decide (c = 34) from eqU c 34, decide_eq_true h34]
      rw [if_pos (.inr h34)] at hX
      simp -implicitDefEqProofs only [l34_8, r34_6, r34_8, r34_13, r34_14, opn_z, opn_s, sel_z, sel_s, qCd_eq, qIf_true, qIf_false, qBl_eq, qPick_false, qG_ff, qLss_int, qEql_int, qLenS_str, AV.kill, AV.kills, d1, d2, decide_true, decide_false, ix, q92, q34]
      rw [hX]
      rfl
    have q34 : (((c.toNat : Nat) : Int) == 34) = false := by rw [show (((c.toNat : Nat) : Int) == 34) = decide (c = 34) from eqU c 34, decide_eq_false h34]
    rw [if_neg (by rintro (g | g) <;> contradiction), if_pos h92] at hX
    have so := fun k => slc_one hc k
    have ad : ∀ k : AV → Prop, qAdd X 9 (.str t) (.str [c]) k = k (.str (t ++ [c])) := fun k => qAdd_str (R := Prop) X 9 t [c] (by simp; unfold most; omega) k
    simp -implicitDefEqProofs only [l34_8, r34_6, r34_8, r34_13, r34_7, opn_z, opn_s, sel_z, sel_s, qCd_eq, qIf_true, qIf_false, qBl_eq, qPick_false, qG_ff, qLss_int, qEql_int, qAdd_int, qLenS_str, d1, d2, decide_true, decide_false, ix, q92, q34, hw1, so, ad]
    refine hk (m.length - (i + 1)) _ _ (by omega) ⟨i + 1, t ++ [c], _, _, _, _, _, _, _, _, _, rfl, rfl, by omega, ?_, by simp; omega⟩
    rw [hX, Option.map_map]
    congr 1
    funext x
    simp
end T
