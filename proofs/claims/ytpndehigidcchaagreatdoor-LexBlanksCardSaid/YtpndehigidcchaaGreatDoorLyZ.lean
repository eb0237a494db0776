import Derived.Test.YtpndehigidcchaaGreatDoorLyY
set_option linter.all false
set_option linter.unusedVariables false
set_option linter.unusedSimpArgs false
set_option maxRecDepth 10000
namespace T
open Go Go.Aes Go.Proofs
theorem rows36 (a : Int) (t : Str) (c : Int) (k : AV → Prop) : qRows z36 1 [(0, .agg [.int .i64 a, .str t, .int .i64 c])] k = k (.sl [[.int .i64 a, .str t, .int .i64 c]] .full) := rfl
set_option maxHeartbeats 4000000 in
theorem rall_walk (s : Str) {H : AH} [hfn : IsFn H] : c7 EP4 [.str s] H (fun v H' => Kp H H' (fun _ => False) ∧ AllOk s v H') := by
  by_cases h8 : 8000 < s.length
  · have c1 : (s.length : Int) > 8000 := by omega
    simp -implicitDefEqProofs only [c7, r7_0, r7_1, r7_2, opn_z, opn_s, sel_z, sel_s, qCd_eq, qIf_true, qFn_eq, qBl_eq, qGtr_int, qLenS_str, c1, decide_true]
    exact ⟨.refl _, by unfold AllOk; rw [if_pos h8]⟩
  have c1 : ¬ (s.length : Int) > 8000 := by omega
  simp -implicitDefEqProofs only [c7, r7_0, r7_1, r7_3, r7_4, opn_z, opn_s, sel_z, sel_s, qCd_eq, qIf_false, qFn_eq, qBl_eq, qGtr_int, qLenS_str, c1, decide_false]
  refine loop_inv (fun m fr H' => ∃ (i : Nat) (acc : List Tok) (lv : AV) (x2 x3 x4 x7 x8 x9 x12 x16 x19 x28 x35 x43 x60 : AV), m = s.length - i ∧ i ≤ s.length ∧ acc.length ≤ i ∧ fr = [.str s, x2, x3, x4, lv, .int .i64 (i : Int), x7, x8, x9, x12, x16, x19, x28, x35, x43, x60] ∧ Kp H H' (fun _ => False) ∧
    Ow H' lv (acc.map tokR) ∧ (∀ j, tkOf lv j → H.nx ≤ j) ∧ lexF s 0 = preL acc (lexF (s.drop i) i)) ?_ (m := s.length) ?_
  case refine_2 => exact ⟨0, [], .sl [] .nil, _, _, _, _, _, _, _, _, _, _, _, _, _, rfl, by omega, by simp, rfl, .refl _, .nil, (fun j hj => by obtain ⟨r, hj⟩ := hj; injection hj with _ hj; cases hj), (by rw [preL_nil]; rfl)⟩
  rintro m fr H' k ⟨i, acc, lv, x2, x3, x4, x7, x8, x9, x12, x16, x19, x28, x35, x43, x60, rfl, hi, hacc, rfl, hkp, how, htk, hlex⟩ hk
  haveI := hkp.fn
  by_cases h : i < s.length
  · have c2 : (i : Int) < (s.length : Int) := by omega
    obtain ⟨c, hcd⟩ : ∃ c, c = s[i] := ⟨_, rfl⟩
    have hc : s[i]? = some c := by rw [hcd]; exact List.getElem?_eq_getElem h
    have hx := fun k => qIx_at s i c hc k
    have hd : s.drop i = c :: s.drop (i + 1) := by rw [hcd]; exact List.drop_eq_getElem_cons h
    have h32 : (((c.toNat : Nat) : Int) == 32) = decide (c = 32) := u8_ne _ 32 (by decide)
    have h9 : (((c.toNat : Nat) : Int) == 9) = decide (c = 9) := u8_ne _ 9 (by decide)
    have h10 : (((c.toNat : Nat) : Int) == 10) = decide (c = 10) := u8_ne _ 10 (by decide)
    have h13 : (((c.toNat : Nat) : Int) == 13) = decide (c = 13) := u8_ne _ 13 (by decide)
    have h44 : (((c.toNat : Nat) : Int) == 44) = decide (c = 44) := u8_ne _ 44 (by decide)
    have h35 : (((c.toNat : Nat) : Int) == 35) = decide (c = 35) := u8_ne _ 35 (by decide)
    rw [hd, lexF_cons] at hlex
    have hw : IntKind.i64.wrap ((i : Int) + 1) = ((i + 1 : Nat) : Int) := by rw [i64_in' (by omega)]; omega
    have bl : lxB c = true → ∀ (x2 x3 x4 x7 x8 x9 x12 x16 x19 x28 x35 x43 x60 : AV), r7_17 k [.str s, x2, x3, x4, lv, .int .i64 (i : Int), x7, x8, x9, x12, x16, x19, x28, x35, x43, x60] H' := by
      intro hb x2 x3 x4 x7 x8 x9 x12 x16 x19 x28 x35 x43 x60
      rw [if_pos hb] at hlex
      simp -implicitDefEqProofs only [r7_17, opn_z, opn_s, qAdd_int, hw]
      exact hk (s.length - (i + 1)) _ _ (by omega) ⟨i + 1, acc, lv, _, _, _, _, _, _, _, _, _, _, _, _, _, rfl, by omega, by omega, rfl, hkp, how, htk, hlex⟩
    by_cases k1 : c = 32
    · rw [decide_eq_true k1] at h32
      simp -implicitDefEqProofs only [l7_16, r7_5, r7_6, r7_12, opn_z, opn_s, sel_z, sel_s, qCd_eq, qIf_true, qBl_eq, qLss_int, qEql_int, qLenS_str, c2, decide_true, hx, h32]
      (first | exact bl (by rw [k1]; decide) _ _ _ _ _ _ _ _ _ _ _ _ _ | (apply bl (by rw [k1]; decide) <;> exact Aes.undef))
    rw [decide_eq_false k1] at h32
    by_cases k2 : c = 9
    · rw [decide_eq_true k2] at h9
      simp -implicitDefEqProofs only [l7_16, r7_5, r7_6, r7_12, r7_13, opn_z, opn_s, sel_z, sel_s, qCd_eq, qIf_true, qIf_false, qBl_eq, qLss_int, qEql_int, qLenS_str, c2, decide_true, hx, h32, h9]
      (first | exact bl (by rw [k2]; decide) _ _ _ _ _ _ _ _ _ _ _ _ _ | (apply bl (by rw [k2]; decide) <;> exact Aes.undef))
    rw [decide_eq_false k2] at h9
    by_cases k3 : c = 10
    · rw [decide_eq_true k3] at h10
      simp -implicitDefEqProofs only [l7_16, r7_5, r7_6, r7_12, r7_13, r7_14, opn_z, opn_s, sel_z, sel_s, qCd_eq, qIf_true, qIf_false, qBl_eq, qLss_int, qEql_int, qLenS_str, c2, decide_true, hx, h32, h9, h10]
      (first | exact bl (by rw [k3]; decide) _ _ _ _ _ _ _ _ _ _ _ _ _ | (apply bl (by rw [k3]; decide) <;> exact Aes.undef))
    rw [decide_eq_false k3] at h10
    by_cases k4 : c = 13
    · rw [decide_eq_true k4] at h13
      simp -implicitDefEqProofs only [l7_16, r7_5, r7_6, r7_12, r7_13, r7_14, r7_15, opn_z, opn_s, sel_z, sel_s, qCd_eq, qIf_true, qIf_false, qBl_eq, qLss_int, qEql_int, qLenS_str, c2, decide_true, hx, h32, h9, h10, h13]
      (first | exact bl (by rw [k4]; decide) _ _ _ _ _ _ _ _ _ _ _ _ _ | (apply bl (by rw [k4]; decide) <;> exact Aes.undef))
    rw [decide_eq_false k4] at h13
    by_cases k5 : c = 44
    · rw [decide_eq_true k5] at h44
      simp -implicitDefEqProofs only [l7_16, r7_5, r7_6, r7_12, r7_13, r7_14, r7_15, r7_16, opn_z, opn_s, sel_z, sel_s, qCd_eq, qIf_true, qIf_false, qBl_eq, qLss_int, qEql_int, qLenS_str, c2, decide_true, hx, h32, h9, h10, h13, h44]
      (first | exact bl (by rw [k5]; decide) _ _ _ _ _ _ _ _ _ _ _ _ _ | (apply bl (by rw [k5]; decide) <;> exact Aes.undef))
    rw [decide_eq_false k5] at h44
    have hb : lxB c = false := by
      unfold lxB
      simp [k1, k2, k3, k4, k5]
    rw [if_neg (by rw [hb]; simp)] at hlex
    by_cases k35 : c = 35
    · rw [decide_eq_true k35] at h35
      rw [if_pos k35] at hlex
      have hn : spn lxH (s.drop i) = spn lxH (s.drop (i + 1)) + 1 := by
        rw [hd, spn_cons, if_pos (by rw [k35]; decide)]
      have hle := spn_le lxH (s.drop i)
      rw [List.length_drop] at hle
      simp -implicitDefEqProofs only [l7_16, r7_5, r7_6, r7_12, r7_13, r7_14, r7_15, r7_16, r7_18, opn_z, opn_s, sel_z, sel_s, qCd_eq, qIf_true, qIf_false, qBl_eq, qLss_int, qEql_int, qLenS_str, c2, decide_true, hx, h32, h9, h10, h13, h44, h35]
      refine loop_inv (fun m fr H'' => ∃ (j : Nat) (x2 x3 x4 x7 x8 x9 x12 x16 x19 x28 x35 x43 x60 : AV), m + (i + j) = s.length ∧ fr = [.str s, x2, x3, x4, lv, .int .i64 ((i + j : Nat) : Int), x7, x8, x9, x12, x16, x19, x28, x35, x43, x60] ∧ H'' = H' ∧ spn lxH (s.drop i) = j + spn lxH (s.drop (i + j))) ?_ (m := s.length - i) ⟨0, _, _, _, _, _, _, _, _, _, _, _, _, _, by omega, rfl, rfl, by simp⟩
      rintro m2 fr2 H2 kk ⟨j, x2, x3, x4, x7, x8, x9, x12, x16, x19, x28, x35, x43, x60, hm, rfl, rfl, hsp⟩ hkk
      have fin : j = spn lxH (s.drop i) → ∀ (x2 x3 x4 x7 x8 x9 x12 x16 x19 x28 x35 x43 x60 : AV), k [.str s, x2, x3, x4, lv, .int .i64 ((i + j : Nat) : Int), x7, x8, x9, x12, x16, x19, x28, x35, x43, x60] H2 := by
        intro hj x2 x3 x4 x7 x8 x9 x12 x16 x19 x28 x35 x43 x60
        refine hk (s.length - (i + j)) _ _ (by omega) ⟨i + j, acc, lv, _, _, _, _, _, _, _, _, _, _, _, _, _, rfl, by omega, by omega, rfl, hkp, how, htk, ?_⟩
        rw [hlex, List.drop_drop, hj, hn, show i + 1 + spn lxH (s.drop (i + 1)) = i + (spn lxH (s.drop (i + 1)) + 1) by omega]
      by_cases h' : i + j < s.length
      · have c3 : ((i + j : Nat) : Int) < (s.length : Int) := by omega
        have hcj : s[i + j]? = some s[i + j] := List.getElem?_eq_getElem h'
        have hxj := fun k => qIx_at s (i + j) s[i + j] hcj k
        have hdj : s.drop (i + j) = s[i + j] :: s.drop (i + j + 1) := List.drop_eq_getElem_cons h'
        have g10 : (((s[i + j].toNat : Nat) : Int) == 10) = decide (s[i + j] = 10) := u8_ne _ 10 (by decide)
        have g13 : (((s[i + j].toNat : Nat) : Int) == 13) = decide (s[i + j] = 13) := u8_ne _ 13 (by decide)
        have wj : IntKind.i64.wrap (((i + j : Nat) : Int) + 1) = ((i + (j + 1) : Nat) : Int) := by rw [i64_in' (by omega)]; omega
        rw [hdj, spn_cons] at hsp
        by_cases q1 : s[i + j] = 10
        · rw [decide_eq_true q1] at g10
          rw [if_neg (by rw [q1]; decide), Nat.add_zero] at hsp
          simp -implicitDefEqProofs only [l7_10, r7_19, opn_z, opn_s, sel_z, sel_s, qCd_eq, qIf_false, qBl_eq, qPick_true, qPick_false, qG_tt, qG_ft, qLss_int, qNeq_int, qLenS_str, c3, decide_true, hxj, g10, Bool.not_true]
          (first | exact fin hsp.symm _ _ _ _ _ _ _ _ _ _ _ _ _ | (apply fin hsp.symm <;> exact Aes.undef))
        · rw [decide_eq_false q1] at g10
          by_cases q2 : s[i + j] = 13
          · rw [decide_eq_true q2] at g13
            rw [if_neg (by rw [q2]; decide), Nat.add_zero] at hsp
            simp -implicitDefEqProofs only [l7_10, r7_19, opn_z, opn_s, sel_z, sel_s, qCd_eq, qIf_false, qBl_eq, qPick_true, qG_tt, qLss_int, qNeq_int, qLenS_str, c3, decide_true, hxj, g10, g13, Bool.not_true, Bool.not_false]
            (first | exact fin hsp.symm _ _ _ _ _ _ _ _ _ _ _ _ _ | (apply fin hsp.symm <;> exact Aes.undef))
          · rw [decide_eq_false q2] at g13
            rw [if_pos (by simp [lxH, q1, q2])] at hsp
            simp -implicitDefEqProofs only [l7_10, r7_19, r7_20, opn_z, opn_s, sel_z, sel_s, qCd_eq, qIf_true, qBl_eq, qPick_true, qG_tt, qLss_int, qNeq_int, qAdd_int, qLenS_str, c3, decide_true, hxj, g10, g13, Bool.not_false, wj]
            exact hkk (m2 - 1) _ _ (by omega) ⟨j + 1, _, _, _, _, _, _, _, _, _, _, _, _, _, by omega, rfl, rfl, by rw [show i + (j + 1) = i + j + 1 by omega]; omega⟩
      · have c3 : ¬ ((i + j : Nat) : Int) < (s.length : Int) := by omega
        rw [List.drop_eq_nil_of_le (show s.length ≤ i + j by omega), spn_nil, Nat.add_zero] at hsp
        simp -implicitDefEqProofs only [l7_10, r7_19, opn_z, opn_s, sel_z, sel_s, qCd_eq, qIf_false, qBl_eq, qPick_false, qG_ft, qLss_int, qLenS_str, c3, decide_false]
        (first | exact fin hsp.symm _ _ _ _ _ _ _ _ _ _ _ _ _ | (apply fin hsp.symm <;> exact Aes.undef))
    · rw [decide_eq_false k35] at h35
      rw [if_neg k35] at hlex
      obtain ⟨tv, htv, et⟩ := epOne s (by omega) i h
      rw [← hd] at hlex
      cases ht : tokF (s.drop i) with
      | none =>
        rw [ht] at htv hlex
        obtain ⟨a, t, b, e, rfl⟩ := htv
        obtain ⟨q, Ha, Hb, x1, x2, x3, x4, x5, x6⟩ := boxK (R := Prop) (Hs := H') (H := H') (.refl _) z36 [.int .i64 a, .str t, .int .i64 b] (n := 3) rfl rfl rfl
        simp -implicitDefEqProofs only [l7_16, r7_5, r7_6, r7_12, r7_13, r7_14, r7_15, r7_16, r7_18, r7_7, r7_8, r7_9, opn_z, opn_s, sel_z, sel_s, qCd_eq, qIf_true, qIf_false, qBl_eq, qO_some, qRes_val, qNot_bool, qExt_tup, qLss_int, qEql_int, qLenS_str, List.getElem?_cons_zero, List.getElem?_cons_succ, c2, decide_true, hx, h32, h9, h10, h13, h44, h35, et, x1, x2, Bool.not_false]
        refine ⟨hkp.trans x5 (fun _ _ h => h), ?_⟩
        unfold AllOk
        rw [if_neg h8, hlex]
        rfl
      | some p =>
        rw [ht] at htv hlex
        have hv : tv = .tup [.agg [.int .i64 (p.1 : Int), .str p.2.1, .int .i64 (i : Int)], .int .i64 ((i + p.2.2 : Nat) : Int), .bool true] := htv
        subst hv
        have hpl := tokF_le (show tokF (c :: s.drop (i + 1)) = some p by rw [← hd]; exact ht)
        rw [← hd, List.length_drop] at hpl
        obtain ⟨q, Ha, Hb, x1, x2, x3, x4, x5, x6⟩ := boxK (R := Prop) (Hs := H') (H := H') (.refl _) z36 [.int .i64 (p.1 : Int), .str p.2.1, .int .i64 (i : Int)] (n := 3) rfl rfl rfl
        haveI := x5.fn
        have ld := fun k => qLdA_whole (R := Prop) (n := 3) x3 rfl k
        have how2 : Ow Hb lv (acc.map tokR) := how.keep fun j hj => x5.keep j (lt_i (how.tok hj)) (fun h => h)
        obtain ⟨lv', Hd, ap, how3, kp3, htk3⟩ := how2.app (n := 3) (b := 32) (tk' := .full) (r := [.int .i64 (p.1 : Int), .str p.2.1, .int .i64 (i : Int)]) rfl (by omega) (by omega) (by rw [List.length_map]; unfold most; omega) (tokR_len acc) rfl
        simp -implicitDefEqProofs only [l7_16, r7_5, r7_6, r7_12, r7_13, r7_14, r7_15, r7_16, r7_18, r7_7, r7_8, r7_10, r7_11, opn_z, opn_s, sel_z, sel_s, qCd_eq, qIf_true, qIf_false, qBl_eq, qO_some, qRes_val, qNot_bool, qExt_tup, qLss_int, qEql_int, qLenS_str, List.getElem?_cons_zero, List.getElem?_cons_succ, c2, decide_true, hx, h32, h9, h10, h13, h44, h35, et, x1, x2, Bool.not_true, ld, rows36, ap]
        refine hk (s.length - (i + p.2.2)) _ _ (by omega) ⟨i + p.2.2, acc ++ [(p.1, p.2.1, i)], lv', _, _, _, _, _, _, _, _, _, _, _, _, _, rfl, by omega, by simp; omega, rfl, ?_, by rw [List.map_append]; exact how3, fun j hj => ?_, ?_⟩
        · refine (hkp.trans x5 (fun _ _ h => h)).trans kp3 (fun j hj e => ?_)
          have := htk j e
          omega
        · have h1 := htk3 j hj
          have h2 := x5.nx
          have h3 := hkp.nx
          omega
        · rw [hlex]
          simp only [List.drop_drop]
          cases lexF (s.drop (i + p.2.2)) (i + p.2.2) with
          | inl e => rfl
          | inr l => simp [preL]
  · have c2 : ¬ (i : Int) < (s.length : Int) := by omega
    simp -implicitDefEqProofs only [l7_16, r7_5, r7_21, opn_z, opn_s, sel_z, sel_s, qCd_eq, qIf_false, qBl_eq, qLss_int, qLenS_str, c2, decide_false]
    refine ⟨hkp, ?_⟩
    rw [List.drop_eq_nil_of_le (by omega), lexF_nil] at hlex
    unfold AllOk
    rw [if_neg h8, hlex]
    exact ⟨lv, rfl, by rw [List.append_nil]; exact how⟩
theorem epRAll (s : Str) {H : AH} [hfn : IsFn H] : ∃ v H', EP4 7 [.str s] H = some (.val v H') ∧ Kp H H' (fun _ => False) ∧ AllOk s v H' :=
  ao_form (X := X) (D := OD2) (O := OF4) (S := PS) (al := [.str s]) (H := H) e7 xf7 rfl rfl (Q := fun v H' => Kp H H' (fun _ => False) ∧ AllOk s v H') (rall_walk s)
end T
set_option linter.unusedVariables false
set_option linter.unusedSimpArgs false
set_option maxRecDepth 10000
namespace T
open Go Go.Aes Go.Proofs
theorem awk4 (H : AH) : EP4 5 [] H = some (.val (.bool true) H) := up4 (awk H)
theorem tok_s {rows : List (List AV)} {tk : Tk} {i : Nat} {q : Tok} (h : rows[i]? = some (tokR q)) (k : AV → Prop) :
    qIa 3 (.sl rows tk) (.int .i64 (i : Int)) k = k (.vptr (tokR q) 0) := qIa_sl (R := Prop) .i64 k 3 rows tk i (tokR q) h rfl
theorem ld2 (q : Tok) (H : AH) (k : AV → Prop) : qLd (.vptr (tokR q) 2) H k = k (.int .i64 (q.2.2 : Int)) := rfl
theorem tr0 (q : Tok) : (tokR q)[0]? = some (.int .i64 (q.1 : Int)) := rfl
theorem tr1 (q : Tok) : (tokR q)[1]? = some (.str q.2.1) := rfl
theorem tr2 (q : Tok) : (tokR q)[2]? = some (.int .i64 (q.2.2 : Int)) := rfl
end T
