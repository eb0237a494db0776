import Derived.Test.YtpndehigidcchaaGreatDoorLzX
import Derived.Test.YtpndehigidcchaaGreatDoorLyZ
set_option linter.all false
set_option linter.unusedVariables false
set_option linter.unusedSimpArgs false
set_option maxRecDepth 10000
namespace T
open Go Go.Aes Go.Proofs
theorem place5 (v n : Int) (hn : 0 < n) (hn2 : n ≤ 4611686018427387904) : ∃ k : Nat, (k : Int) < n ∧ ∀ H, EP4 9 [.int .i64 v, .int .i64 n] H = some (.val (.int .i64 (k : Int)) H) := by
  have h0 := Int.emod_nonneg v (show n ≠ 0 by omega)
  have hlt := Int.emod_lt_of_pos v hn
  obtain ⟨k, hk⟩ := Int.eq_ofNat_of_zero_le h0
  exact ⟨k, by rw [← hk]; exact hlt, fun H => by rw [up4 (ep26 v n hn hn2 H), hk]⟩
def bl5 : List Str := [[32], [44], [10], [35,32,119,111,114,100,115,32,34,10], [13,10,9,44]]
def strs5 : AV := .agg [.str [32], .str [44], .str [10], .str [35,32,119,111,114,100,115,32,34,10], .str [13,10,9,44]]
theorem bld5 (k : AV → Prop) : qBld z32 [(0, 1, (.str [32])), (1, 1, (.str [44])), (2, 1, (.str [10])), (3, 1, (.str [35,32,119,111,114,100,115,32,34,10])), (4, 1, (.str [13,10,9,44]))] k = k strs5 := rfl
theorem idx5 (e : Nat) (h : e < 5) : indexOf X 32 strs5 (.int .i64 (e : Int)) = some (.str (bl5.getD e [])) := by
  match e, h with
  | 0, _ => show indexOf X 32 strs5 (.int .i64 0) = some (.str (bl5.getD 0 [])); kernel_rfl
  | 1, _ => show indexOf X 32 strs5 (.int .i64 1) = some (.str (bl5.getD 1 [])); kernel_rfl
  | 2, _ => show indexOf X 32 strs5 (.int .i64 2) = some (.str (bl5.getD 2 [])); kernel_rfl
  | 3, _ => show indexOf X 32 strs5 (.int .i64 3) = some (.str (bl5.getD 3 [])); kernel_rfl
  | 4, _ => show indexOf X 32 strs5 (.int .i64 4) = some (.str (bl5.getD 4 [])); kernel_rfl
theorem bl5_ok : ∀ e, e < 5 → gp false (bl5.getD e []) = some false ∧ (bl5.getD e []).length ≤ 10 := by decide
def natR (p : Nat) : List AV := [.int .i64 (p : Int)]
theorem natR_len (l : List Nat) : ∀ x ∈ l.map natR, x.length = 1 := by
  intro x hx
  obtain ⟨q, _, rfl⟩ := List.mem_map.1 hx
  rfl
theorem rows3 (p : Nat) (k : AV → Prop) : qRows z3 1 [(0, .int .i64 (p : Int))] k = k (.sl [natR p] .full) := rfl
theorem nat_ia {ps : List Nat} {tk : Tk} {i p : Nat} (h : ps[i]? = some p) (k : AV → Prop) : qIa 1 (.sl (ps.map natR) tk) (.int .i64 (i : Int)) k = k (.vptr (natR p) 0) :=
  qIa_sl (R := Prop) .i64 k 1 (ps.map natR) tk i (natR p) (by simp [h]) rfl
theorem nr0 (p : Nat) : (natR p)[0]? = some (.int .i64 (p : Int)) := rfl
set_option maxHeartbeats 8000000 in
theorem law4 (s : Str) (kd : Int) : c4 EP4 [.str s, .int .i64 kd] H0 (fun v _ => v = .bool true) := by
  by_cases h1 : 1000 < s.length
  · have c1 : (s.length : Int) > 1000 := by omega
    simp -implicitDefEqProofs only [c4, r4_0, r4_1, r4_2, opn_z, opn_s, sel_z, sel_s, qCd_eq, qIf_true, qFn_eq, qBl_eq, qRes_val, qGtr_int, qLenS_str, c1, decide_true, awk4]
  have c1 : ¬ (s.length : Int) > 1000 := by omega
  obtain ⟨v1, H1, e1, k1, o1⟩ := epRAll s (H := H0)
  haveI := k1.fn
  unfold AllOk at o1
  rw [if_neg (by omega)] at o1
  cases hlx : lexF s 0 with
  | inl e =>
    rw [hlx] at o1
    simp only at o1
    subst o1
    have c2 : ((2 : Int) == 0) = false := rfl
    simp -implicitDefEqProofs only [c4, r4_0, r4_1, r4_3, r4_4, r4_5, opn_z, opn_s, sel_z, sel_s, qCd_eq, qIf_true, qIf_false, qFn_eq, qBl_eq, qO_some, qRes_val, qExt_tup, qGtr_int, qNeq_int, qLenS_str, List.getElem?_cons_zero, List.getElem?_cons_succ, c1, decide_false, e1, c2, Bool.not_false, awk4]
  | inr l =>
    rw [hlx] at o1
    obtain ⟨lv, rfl, ho⟩ := o1
    obtain ⟨tk, rfl⟩ := ho.sl
    have hll := lexF_le _ s (Nat.le_refl _) 0 l hlx
    obtain ⟨e, he, e9⟩ := place5 kd 5 (by omega) (by omega)
    have hix := idx5 e (by omega)
    obtain ⟨hbg, hbl⟩ := bl5_ok e (by omega)
    generalize bl5.getD e [] = b at *
    have c2 : ((0 : Int) == 0) = true := rfl
    have hlen : (l.map tokR).length = l.length := by simp
    simp -implicitDefEqProofs only [c4, r4_0, r4_1, r4_3, r4_4, r4_6, r4_7, r4_8, r4_9, opn_z, opn_s, sel_z, sel_s, qCd_eq, qIf_false, qFn_eq, qBl_eq, qO_some, qRes_val, qExt_tup, qGtr_int, qNeq_int, qLenS_str, List.getElem?_cons_zero, List.getElem?_cons_succ, c1, decide_false, e1, c2, Bool.not_true, bld5, e9, hix]
    refine loop_inv (fun m fr H' => ∃ (i : Nat) (t : Str) (ats : List Nat) (av : AV) (x12 x13 x14 x16 x17 x20 x29 x39 x48 x97 x116 x132 x136 x174 : AV), m + i = l.length ∧
      fr = [.str s, .int .i64 kd, .bool false, .sl (l.map tokR) tk, .int .i64 0, .str b, .str t, av, .int .i64 (i : Int), x12, x13, x14, x16, x17, x20, x29, x39, x48, x97, x116, x132, x136, x174] ∧ IsFn H' ∧ Ow H' av (ats.map natR) ∧ ats.length = i ∧ t.length ≤ 10 + i * 1100 ∧
      t ++ RR s b (l.drop i) = b ++ RR s b l ∧ ats ++ posOf s b t.length (l.drop i) = posOf s b b.length l) ?_ (m := l.length) ?_
    case refine_2 => exact ⟨0, b, [], .sl [] .nil, _, _, _, _, _, _, _, _, _, _, _, _, _, _, rfl, rfl, inferInstance, .nil, rfl, by omega, rfl, rfl⟩
    rintro m fr H' kk ⟨i, t, ats, av, x12, x13, x14, x16, x17, x20, x29, x39, x48, x97, x116, x132, x136, x174, hm, rfl, hf, how, hal, htl, hR, hP⟩ hkk
    by_cases h : i < l.length
    · have c3 : (i : Int) < (l.length : Int) := by omega
      have hi : l[i]? = some l[i] := List.getElem?_eq_getElem h
      have hd : l.drop i = l[i] :: l.drop (i + 1) := List.drop_eq_getElem_cons h
      have hr : (l.map tokR)[i]? = some (tokR l[i]) := by simp [h]
      have ia := fun k => tok_s (tk := tk) hr k
      have hat := at_lt l s 0 hlx l[i] (List.getElem_mem h)
      have hup := fun q2 h2 => at_up l s 0 hlx i l[i] q2 hi h2
      rw [hd] at hR hP
      generalize l[i] = q at *
      have wi : IntKind.i64.wrap ((i : Int) + 1) = ((i + 1 : Nat) : Int) := by rw [i64_in' (by omega)]; omega
      have hpcl : (pcOf s q (l.drop (i + 1))).length ≤ 1000 := by
        have := pcT_len q.1 ((s.take (toOf s (l.drop (i + 1)))).drop q.2.2)
        have h2 : ((s.take (toOf s (l.drop (i + 1)))).drop q.2.2).length ≤ s.length := by rw [List.length_drop, List.length_take]; omega
        unfold pcOf
        omega
      have behind : ∀ (x12 x14 x16 x17 x20 x29 x39 x48 x97 x116 x132 x136 x174 : AV), (r4_18 (r4_19 (r4_11 kk))) [.str s, .int .i64 kd, .bool false, .sl (l.map tokR) tk, .int .i64 0, .str b, .str t, av, .int .i64 (i : Int), x12, .str (pcOf s q (l.drop (i + 1))), x14, x16, x17, x20, x29, x39, x48, x97, x116, x132, x136, x174] H' := by
        intro x12 x14 x16 x17 x20 x29 x39 x48 x97 x116 x132 x136 x174
        obtain ⟨av', Hd, ap, how3, kp3, htk3⟩ := how.app (n := 1) (b := 8) (tk' := .full) (r := natR t.length) rfl (by omega) (by omega) (by rw [List.length_map]; unfold most; omega) (natR_len ats) rfl
        have q1 := fun k => qAdd_str (R := Prop) X 9 t (pcOf s q (l.drop (i + 1))) (by unfold most; omega) k
        have q2 := fun k => qAdd_str (R := Prop) X 9 (t ++ pcOf s q (l.drop (i + 1))) [10] (by unfold most; simp only [List.length_append, List.length_cons, List.length_nil]; omega) k
        have q3 := fun k => qAdd_str (R := Prop) X 9 (t ++ pcOf s q (l.drop (i + 1)) ++ [10]) b (by unfold most; simp only [List.length_append, List.length_cons, List.length_nil]; omega) k
        have hnum : List.length (t ++ pcOf s q (l.drop (i + 1)) ++ [10] ++ b : Str) = t.length + (pcOf s q (l.drop (i + 1))).length + 1 + b.length := by simp only [List.length_append, List.length_cons, List.length_nil]
        have nxt := hkk (m - 1) [.str s, .int .i64 kd, .bool false, .sl (l.map tokR) tk, .int .i64 0, .str b, .str (t ++ pcOf s q (l.drop (i + 1)) ++ [10] ++ b), av', .int .i64 ((i + 1 : Nat) : Int), x12, .str (pcOf s q (l.drop (i + 1))), x14, x16, x17, x20, x29, x39, x48, x97, x116, x132, x136, x174] Hd (by omega) ⟨i + 1, _, ats ++ [t.length], av', _, _, _, _, _, _, _, _, _, _, _, _, _, _, by omega, rfl, kp3.fn, by rw [List.map_append]; exact how3, by simp [hal], by simp only [List.length_append, List.length_cons, List.length_nil]; omega, by rw [← hR]; simp only [RR, List.append_assoc], by
            rw [← hP, hnum]
            simp only [posOf, List.append_assoc, List.cons_append, List.nil_append]⟩
        generalize pcOf s q (l.drop (i + 1)) = P at *
        simp -implicitDefEqProofs only [r4_18, r4_19, r4_11, opn_z, opn_s, qAdd_int, qLenS_str, rows3, ap, q1, q2, q3, wi]
        exact nxt
      have trim : ∀ (p : Str), p.length ≤ s.length → pcT q.1 p = pcOf s q (l.drop (i + 1)) → ∀ (x12 x14 x16 x17 x20 x29 x39 x48 x97 x116 x132 x136 x174 : AV), qLoop (l4_14 (r4_18 (r4_19 (r4_11 kk)))) [.str s, .int .i64 kd, .bool false, .sl (l.map tokR) tk, .int .i64 0, .str b, .str t, av, .int .i64 (i : Int), x12, .str p, x14, x16, x17, x20, x29, x39, x48, x97, x116, x132, x136, x174] H' := by
        intro p0 hp0 hpc0 x12 x14 x16 x17 x20 x29 x39 x48 x97 x116 x132 x136 x174
        refine loop_inv (fun m fr H'' => ∃ (p : Str) (x12 x14 x16 x17 x20 x29 x39 x48 x97 x116 x132 x136 x174 : AV), m = p.length ∧ p.length ≤ s.length ∧ pcT q.1 p = pcOf s q (l.drop (i + 1)) ∧
          fr = [.str s, .int .i64 kd, .bool false, .sl (l.map tokR) tk, .int .i64 0, .str b, .str t, av, .int .i64 (i : Int), x12, .str p, x14, x16, x17, x20, x29, x39, x48, x97, x116, x132, x136, x174] ∧ H'' = H') ?_ (m := p0.length) ⟨p0, _, _, _, _, _, _, _, _, _, _, _, _, _, rfl, hp0, hpc0, rfl, rfl⟩
        rintro m2 fr2 H2 k2 ⟨p, x12, x14, x16, x17, x20, x29, x39, x48, x97, x116, x132, x136, x174, rfl, hpl, hpc, rfl, rfl⟩ hk2
        have out : pcT q.1 p = p → ∀ (x12 x14 x16 x17 x20 x29 x39 x48 x97 x116 x132 x136 x174 : AV), (r4_18 (r4_19 (r4_11 kk))) [.str s, .int .i64 kd, .bool false, .sl (l.map tokR) tk, .int .i64 0, .str b, .str t, av, .int .i64 (i : Int), x12, .str p, x14, x16, x17, x20, x29, x39, x48, x97, x116, x132, x136, x174] H2 := by
          intro hpp x12 x14 x16 x17 x20 x29 x39 x48 x97 x116 x132 x136 x174
          have hb := behind x12 x14 x16 x17 x20 x29 x39 x48 x97 x116 x132 x136 x174
          rw [← hpc, hpp] at hb
          exact hb
        rcases List.eq_nil_or_concat p with rfl | ⟨w, c, rfl⟩
        · have c4 : ¬ (((([] : Str).length : Nat) : Int) > 0) := by simp
          have c4' : ¬ (((0 : Nat) : Int) > 0) := by simp
          simp -implicitDefEqProofs only [l4_14, r4_16, opn_z, opn_s, sel_z, sel_s, qCd_eq, qIf_false, qBl_eq, qPick_false, qG_ft, qG_un, qLenS_str, qGtr_int, List.length_nil, c4', decide_false]
          (first | exact out (by unfold pcT; split <;> rfl) _ _ _ _ _ _ _ _ _ _ _ _ _ | (apply out (by unfold pcT; split <;> rfl) <;> exact Aes.undef))
        · rw [List.concat_eq_append] at hpl hpc out ⊢
          have hwl : (w ++ [c]).length = w.length + 1 := by simp
          rw [hwl] at hpl
          have c4 : (((w.length + 1 : Nat) : Int)) > 0 := by omega
          by_cases hk4 : q.1 = 4
          · have n4 : ((q.1 : Int) == 4) = true := by rw [hk4]; rfl
            simp -implicitDefEqProofs only [l4_14, r4_16, opn_z, opn_s, sel_z, sel_s, qCd_eq, qIf_false, qBl_eq, qO_some, qPick_true, qPick_false, qG_tt, qG_ft, qLd_vptr, qFa_vptr, qGtr_int, qNeq_int, qLenS_str, Nat.zero_add, qG_un, hwl, c4, decide_true, ia, tr0, n4, Bool.not_true]
            (first | exact out (if_pos hk4) _ _ _ _ _ _ _ _ _ _ _ _ _ | (apply out (if_pos hk4) <;> exact Aes.undef))
          · have n4 : ((q.1 : Int) == 4) = false := by
              rw [beq_eq_false_iff_ne]
              intro hh
              exact hk4 (by omega)
            have wl : IntKind.i64.wrap (((w.length + 1 : Nat) : Int) - 1) = (w.length : Int) := by rw [i64_in' (by omega)]; omega
            have gx : (w ++ [c])[w.length]? = some c := by simp
            have hx := fun k => qIx_at (w ++ [c]) w.length c gx k
            have sl := fun k => slcS_hi (w ++ [c]) w.length (by rw [hwl]; omega) k
            have ew : (w ++ [c]).take w.length = w := by simp
            rw [ew] at sl
            have h32 : (((c.toNat : Nat) : Int) == 32) = decide (c = 32) := u8_ne _ 32 (by decide)
            have h44 : (((c.toNat : Nat) : Int) == 44) = decide (c = 44) := u8_ne _ 44 (by decide)
            have h10 : (((c.toNat : Nat) : Int) == 10) = decide (c = 10) := u8_ne _ 10 (by decide)
            have go : tT c = true → ∀ (x12 x14 x16 x17 x20 x29 x39 x48 x97 x116 x132 x136 x174 : AV), (r4_17 k2) [.str s, .int .i64 kd, .bool false, .sl (l.map tokR) tk, .int .i64 0, .str b, .str t, av, .int .i64 (i : Int), x12, .str (w ++ [c]), x14, x16, x17, x20, x29, x39, x48, x97, x116, x132, x136, x174] H2 := by
              intro hc x12 x14 x16 x17 x20 x29 x39 x48 x97 x116 x132 x136 x174
              simp -implicitDefEqProofs only [r4_17, opn_z, opn_s, qSub_int, qLenS_str, hwl, wl, sl]
              refine hk2 w.length _ _ (by simp) ⟨w, _, _, _, _, _, _, _, _, _, _, _, _, _, rfl, by omega, ?_, rfl, rfl⟩
              rw [← hpc]
              unfold pcT
              rw [if_neg hk4, if_neg hk4, trimT_snoc, if_pos hc]
            have no : tT c = false → pcT q.1 (w ++ [c]) = w ++ [c] := by
              intro hc
              unfold pcT
              rw [if_neg hk4, trimT_snoc, if_neg (by rw [hc]; simp)]
            unfold tT at go no
            by_cases k1 : c = 32
            · rw [decide_eq_true k1] at h32 go
              simp -implicitDefEqProofs only [l4_14, r4_16, opn_z, opn_s, sel_z, sel_s, qCd_eq, qIf_true, qBl_eq, qO_some, qPick_true, qG_tt, qG_tf, qLd_vptr, qFa_vptr, qGtr_int, qEql_int, qNeq_int, qSub_int, qLenS_str, Nat.zero_add, hwl, c4, decide_true, ia, tr0, n4, Bool.not_false, wl, hx, h32]
              (first | exact go rfl _ _ _ _ _ _ _ _ _ _ _ _ _ | (apply go rfl <;> exact Aes.undef))
            · rw [decide_eq_false k1] at h32 go no
              by_cases k2' : c = 44
              · rw [decide_eq_true k2'] at h44 go
                simp -implicitDefEqProofs only [l4_14, r4_16, opn_z, opn_s, sel_z, sel_s, qCd_eq, qIf_true, qBl_eq, qO_some, qPick_true, qPick_false, qG_tt, qG_ff, qG_tf, qLd_vptr, qFa_vptr, qGtr_int, qEql_int, qNeq_int, qSub_int, qLenS_str, Nat.zero_add, hwl, c4, decide_true, ia, tr0, n4, Bool.not_false, wl, hx, h32, h44]
                (first | exact go rfl _ _ _ _ _ _ _ _ _ _ _ _ _ | (apply go rfl <;> exact Aes.undef))
              · rw [decide_eq_false k2'] at h44 go no
                by_cases k3 : c = 10
                · rw [decide_eq_true k3] at h10 go
                  simp -implicitDefEqProofs only [l4_14, r4_16, opn_z, opn_s, sel_z, sel_s, qCd_eq, qIf_true, qBl_eq, qO_some, qPick_true, qPick_false, qG_tt, qG_ff, qLd_vptr, qFa_vptr, qGtr_int, qEql_int, qNeq_int, qSub_int, qLenS_str, Nat.zero_add, hwl, c4, decide_true, ia, tr0, n4, Bool.not_false, wl, hx, h32, h44, h10]
                  (first | exact go rfl _ _ _ _ _ _ _ _ _ _ _ _ _ | (apply go rfl <;> exact Aes.undef))
                · rw [decide_eq_false k3] at h10 no
                  simp -implicitDefEqProofs only [l4_14, r4_16, opn_z, opn_s, sel_z, sel_s, qCd_eq, qIf_false, qBl_eq, qO_some, qPick_true, qPick_false, qG_tt, qG_ff, qLd_vptr, qFa_vptr, qGtr_int, qEql_int, qNeq_int, qSub_int, qLenS_str, Nat.zero_add, hwl, c4, decide_true, ia, tr0, n4, Bool.not_false, wl, hx, h32, h44, h10]
                  (first | exact out (no rfl) _ _ _ _ _ _ _ _ _ _ _ _ _ | (apply out (no rfl) <;> exact Aes.undef))
      by_cases h2 : i + 1 < l.length
      · have c4 : ((i + 1 : Nat) : Int) < (l.length : Int) := by omega
        have hi2 : l[i + 1]? = some l[i + 1] := List.getElem?_eq_getElem h2
        have hd2 : l.drop (i + 1) = l[i + 1] :: l.drop (i + 1 + 1) := List.drop_eq_getElem_cons h2
        have hr2 : (l.map tokR)[i + 1]? = some (tokR l[i + 1]) := by simp [h2]
        have ia2 := fun k => tok_s (tk := tk) hr2 k
        have hat2 := at_lt l s 0 hlx l[i + 1] (List.getElem_mem h2)
        have hup2 := hup _ hi2
        have hto : toOf s (l.drop (i + 1)) = (l[i + 1]).2.2 := by rw [hd2]; rfl
        have sl := fun k => slcS_mid s q.2.2 (l[i + 1]).2.2 hup2 (by omega) k
        have tr := trim ((s.take (l[i + 1]).2.2).drop q.2.2) (by rw [List.length_drop, List.length_take]; omega) (by unfold pcOf; rw [hto])
        generalize l[i + 1] = q2 at *
        simp -implicitDefEqProofs only [l4_16, r4_10, r4_12, r4_13, r4_14, r4_15, opn_z, opn_s, sel_z, sel_s, qCd_eq, qIf_true, qBl_eq, qO_some, qLd_vptr, qFa_vptr, qLss_int, qAdd_int, qLenL_sl, qLenS_str, Nat.zero_add, hlen, c3, decide_true, wi, c4, ia, ia2, tr2, sl]
        (first | exact tr _ _ _ _ _ _ _ _ _ _ _ _ _ | (apply tr <;> exact Aes.undef))
      · have c4 : ¬ ((i + 1 : Nat) : Int) < (l.length : Int) := by omega
        have hto : toOf s (l.drop (i + 1)) = s.length := by rw [List.drop_eq_nil_of_le (by omega)]; rfl
        have sl := fun k => slcS_mid s q.2.2 s.length (by omega) (by omega) k
        have tr := trim ((s.take s.length).drop q.2.2) (by rw [List.length_drop, List.length_take]; omega) (by unfold pcOf; rw [hto])
        simp -implicitDefEqProofs only [l4_16, r4_10, r4_12, r4_13, r4_15, opn_z, opn_s, sel_z, sel_s, qCd_eq, qIf_true, qIf_false, qBl_eq, qO_some, qLd_vptr, qFa_vptr, qLss_int, qAdd_int, qLenL_sl, qLenS_str, Nat.zero_add, hlen, c3, decide_true, wi, c4, decide_false, ia, tr2, sl]
        (first | exact tr _ _ _ _ _ _ _ _ _ _ _ _ _ | (apply tr <;> exact Aes.undef))
    · have c3 : ¬ (i : Int) < (l.length : Int) := by omega
      rw [List.drop_eq_nil_of_le (by omega)] at hR hP
      have hT : t = b ++ RR s b l := by rw [← hR]; simp [RR]
      have hA : ats = posOf s b b.length l := by rw [← hP]; simp [posOf]
      obtain ⟨tka, rfl⟩ := how.sl
      by_cases h8 : 8000 < t.length
      · have c5 : (t.length : Int) > 8000 := by omega
        simp -implicitDefEqProofs only [l4_16, r4_10, r4_20, r4_21, opn_z, opn_s, sel_z, sel_s, qCd_eq, qIf_true, qIf_false, qBl_eq, qRes_val, qLss_int, qGtr_int, qLenL_sl, qLenS_str, hlen, c3, decide_false, c5, decide_true, awk4]
      · have c5 : ¬ (t.length : Int) > 8000 := by omega
        obtain ⟨v2, H2, e6, k6, o2⟩ := epAll t (H := H')
        unfold AllOk at o2
        have hl2 : lexF t 0 = .inr (reAt l ats) := by
          rw [hT, lexF_gap _ b _ 0 (Nat.le_refl _) hbg, Nat.zero_add, hA]
          exact pieces b hbg s l [] s 0 rfl rfl hlx _
        rw [if_neg h8, hl2] at o2
        obtain ⟨lv2, rfl, ho2⟩ := o2
        obtain ⟨tk2, rfl⟩ := ho2.sl
        have hra : ats.length = l.length := by omega
        have hrl : ((reAt l ats).map tokR).length = l.length := by
          rw [List.length_map]
          unfold reAt
          rw [List.length_zipWith, hra, Nat.min_self]
        have cl : ((l.length : Int) == (l.length : Int)) = true := by simp
        simp -implicitDefEqProofs only [l4_16, r4_10, r4_20, r4_22, r4_23, r4_25, opn_z, opn_s, sel_z, sel_s, qCd_eq, qIf_false, qBl_eq, qO_some, qRes_val, qPick_false, qG_ff, qExt_tup, qLss_int, qGtr_int, qNeq_int, qLenL_sl, qLenS_str, List.getElem?_cons_zero, List.getElem?_cons_succ, hlen, c3, decide_false, c5, e6, c2, Bool.not_true, hrl, cl]
        refine loop_inv (fun m fr H'' => ∃ (j : Nat) (x0 x1 x7 x8 x9 x11 x12 x13 x16 x20 x29 x39 x48 x97 x116 x132 x136 x174 : AV), m + j = l.length ∧ fr = [x0, x1, .bool false, .sl (l.map tokR) tk, x7, x8, x9, .sl (ats.map natR) tka, x11, x12, x13, .sl ((reAt l ats).map tokR) tk2, x16, .int .i64 (j : Int), x20, x29, x39, x48, x97, x116, x132, x136, x174]) ?_ (m := l.length) ⟨0, _, _, _, _, _, _, _, _, _, _, _, _, _, _, _, _, _, _, by omega, rfl⟩
        rintro m2 fr2 H3 k2 ⟨j, x0, x1, x7, x8, x9, x11, x12, x13, x16, x20, x29, x39, x48, x97, x116, x132, x136, x174, hm2, rfl⟩ hk2
        by_cases hj : j < l.length
        · have c6 : (j : Int) < (l.length : Int) := by omega
          have hr1 : (l.map tokR)[j]? = some (tokR l[j]) := by simp [hj]
          have hps : ats[j]? = some ats[j] := List.getElem?_eq_getElem (by omega)
          have hr2 : ((reAt l ats).map tokR)[j]? = some (tokR ((l[j]).1, (l[j]).2.1, ats[j])) := by
            rw [List.getElem?_map]
            unfold reAt
            rw [List.getElem?_zipWith, List.getElem?_eq_getElem hj, hps]
            rfl
          have ia1 := fun k => tok_s (tk := tk) hr1 k
          have ia2 := fun k => tok_s (tk := tk2) hr2 k
          have ia3 := fun k => nat_ia (tk := tka) hps k
          generalize l[j] = q at *
          generalize ats[j] = p at *
          have n1 : ((q.1 : Int) == (q.1 : Int)) = true := by simp
          have n2 : ∀ k : AV → Prop, qNeq X 9 (.str q.2.1) (.str q.2.1) k = k (.bool false) := fun k => by rw [qNeq_str]; simp
          have n3 : ((p : Int) == (p : Int)) = true := by simp
          have wj : IntKind.i64.wrap ((j : Int) + 1) = ((j + 1 : Nat) : Int) := by rw [i64_in' (by omega)]; omega
          simp -implicitDefEqProofs only [l4_5, r4_26, r4_28, r4_27, opn_z, opn_s, sel_z, sel_s, qCd_eq, qIf_true, qIf_false, qBl_eq, qO_some, qPick_false, qG_ff, qLd_vptr, qFa_vptr, qLss_int, qNeq_int, qAdd_int, qLenL_sl, Nat.zero_add, hrl, c6, decide_true, ia1, ia2, ia3, tr0, tr1, tr2, nr0, n1, n2, n3, Bool.not_true, wj]
          exact hk2 (m2 - 1) _ _ (by omega) ⟨j + 1, _, _, _, _, _, _, _, _, _, _, _, _, _, _, _, _, _, _, by omega, rfl⟩
        · have c6 : ¬ (j : Int) < (l.length : Int) := by omega
          simp -implicitDefEqProofs only [l4_5, r4_26, r4_30, opn_z, opn_s, sel_z, sel_s, qCd_eq, qIf_false, qBl_eq, qRes_val, qLss_int, qLenL_sl, hrl, c6, decide_false, awk4]
theorem ev_blanks (s : Str) (kd : Int) : ∃ H', EP4 4 [.str s, .int .i64 kd] H0 = some (.val (.bool true) H') := by
  obtain ⟨w, H', h1, h2⟩ := ao_form (X := X) (D := OD2) (O := OF4) (S := PS) (al := [.str s, .int .i64 kd]) (H := H0) e4 xf4 rfl rfl (Q := fun v _ => v = .bool true) (law4 s kd)
  subst h2
  exact ⟨H', h1⟩
end T
