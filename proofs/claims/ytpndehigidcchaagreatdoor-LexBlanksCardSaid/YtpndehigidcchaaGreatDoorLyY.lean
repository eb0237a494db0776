import Derived.Test.YtpndehigidcchaaGreatDoorLyX
set_option linter.all false
set_option linter.unusedVariables false
set_option linter.unusedSimpArgs false
set_option maxRecDepth 10000
namespace T
open Go Go.Aes Go.Proofs
def textT (x : Str) : Option (Str × Nat) := if hp x [34, 34, 34] = true then blockT x else lineT x
theorem rdOk_block {s : Str} {i : Nat} {v : AV} (h : RdOk (i + 3) (bkq s (i + 3)) v) : RdOk i (blockT (s.drop i)) v := by
  unfold bkq at h
  unfold blockT
  rw [List.drop_drop]
  cases hb : bkF (s.drop (i + 3)) with
  | none =>
    rw [hb] at h
    exact h
  | some q =>
    rw [hb] at h
    simp only at h ⊢
    cases hr : rawB q.1 with
    | true =>
      rw [hr, if_pos rfl] at h
      rw [if_pos rfl]
      have h' : v = .tup [.str (blockF q.1), .int .i64 ((i + 3 + q.2 : Nat) : Int), .bool true] := h
      show v = .tup [.str (blockF q.1), .int .i64 ((i + (q.2 + 3) : Nat) : Int), .bool true]
      rw [h', show i + 3 + q.2 = i + (q.2 + 3) by omega]
    | false =>
      rw [hr, if_neg (by simp)] at h
      rw [if_neg (by simp)]
      exact h
theorem uqF_last {x : Str} {c : UInt8} (h : x.getLast? = some c) (hc : c ≠ 34) : uqF x = none := if_pos (.inr (.inr (.inl (by rw [h]; simpa using hc))))
theorem cut_eq (s : Str) (i k : Nat) : (s.take k).drop i = (s.drop i).take (k - i) := by rw [List.drop_take]
set_option maxHeartbeats 2000000 in
theorem rtext_walk (s : Str) (hl : s.length < 800000) (i : Nat) (hi : i < s.length) : c27 EP4 [.str s, .int .i64 (i : Int)] H0 (fun v _ => v.kill.free = true ∧ RdOk i (textT (s.drop i)) v.kill) := by
  have hdl : (s.drop i).length = s.length - i := List.length_drop
  have ws : IntKind.i64.wrap ((s.length : Int) - (i : Int)) = ((s.length - i : Nat) : Int) := by rw [i64_in' (by omega)]; omega
  have w3 : IntKind.i64.wrap ((i : Int) + 3) = ((i + 3 : Nat) : Int) := by rw [i64_in' (by omega)]; omega
  have w1 : IntKind.i64.wrap ((i : Int) + 1) = ((i + 1 : Nat) : Int) := by rw [i64_in' (by omega)]; omega
  have q3 : ∀ k : AV → Prop, qEql X 9 (.str ((s.take (i + 3)).drop i)) (.str [34, 34, 34]) k = k (.bool (hp (s.drop i) [34, 34, 34])) := fun k => eq_hp s [34, 34, 34] i k
  unfold textT
  cases h3 : hp (s.drop i) [34, 34, 34] with
  | true =>
    have hle := hp_le h3
    rw [hdl] at hle
    simp only [List.length_cons, List.length_nil] at hle
    have b1 : ((s.length - i : Nat) : Int) ≥ 3 := by omega
    rw [h3] at q3
    have sl3 := fun k => slcS_mid s i (i + 3) (by omega) (by omega) k
    obtain ⟨v, hv, e41⟩ := epRBlock s hl (i + 3) (by omega)
    have hok := rdOk_block hv
    rw [if_pos rfl]
    unfold RdOk at hok
    cases hb : blockT (s.drop i) with
    | none =>
      rw [hb] at hok
      obtain ⟨a, e, rfl⟩ := hok
      simp -implicitDefEqProofs only [c27, r27_0, r27_1, r27_2, opn_z, opn_s, sel_z, sel_s, qCd_eq, qIf_true, qFn_eq, qBl_eq, qO_some, qRes_val, qPick_true, qG_tt, qExt_tup, qGeq_int, qAdd_int, qSub_int, qLenS_str, List.getElem?_cons_zero, List.getElem?_cons_succ, AV.kill, AV.kills, ws, b1, decide_true, w3, sl3, q3, e41]
      exact ⟨rfl, _, _, rfl⟩
    | some q =>
      rw [hb] at hok
      simp only at hok
      subst hok
      simp -implicitDefEqProofs only [c27, r27_0, r27_1, r27_2, opn_z, opn_s, sel_z, sel_s, qCd_eq, qIf_true, qFn_eq, qBl_eq, qO_some, qRes_val, qPick_true, qG_tt, qExt_tup, qGeq_int, qAdd_int, qSub_int, qLenS_str, List.getElem?_cons_zero, List.getElem?_cons_succ, AV.kill, AV.kills, ws, b1, decide_true, w3, sl3, q3, e41]
      exact ⟨rfl, rfl⟩
  | false =>
    rw [h3] at q3
    rw [if_neg (by simp)]
    have rest : ∀ (x7 x8 x9 x22 x53 x57 x65 : AV), (r27_3 (qBl (fun k2 => (qLoop (l27_6 k2))) (r27_8 (qCd (sel 11) (fun _ => (r27_9 (fun fr H => (AV.tup [(sel 2 fr), (sel 3 fr), (sel 4 fr)]).kill.free = true ∧ RdOk i (lineT (s.drop i)) (AV.tup [(sel 2 fr), (sel 3 fr), (sel 4 fr)]).kill))) (fun k1 => k1) (r27_10 EP4 (r27_11 (fun fr H => (AV.tup [(sel 2 fr), (sel 3 fr), (sel 4 fr)]).kill.free = true ∧ RdOk i (lineT (s.drop i)) (AV.tup [(sel 2 fr), (sel 3 fr), (sel 4 fr)]).kill))))))) [.str s, .int .i64 (i : Int), .str [], .int .i64 0, .bool false, x7, x8, x9, x22, x53, x57, x65] H0 := by
      intro x7 x8 x9 x22 x53 x57 x65
      simp -implicitDefEqProofs only [r27_3, opn_z, opn_s, qBl_eq, qAdd_int, w1]
      refine loop_inv (fun m fr H' => ∃ (k : Nat) (x8 x9 x22 x53 x57 x65 : AV), m = s.length + 1 - k ∧ i + 1 ≤ k ∧ k ≤ s.length + 1 ∧
        fr = [.str s, .int .i64 (i : Int), .str [], .int .i64 0, .bool false, .int .i64 (k : Int), x8, x9, x22, x53, x57, x65] ∧ H' = H0 ∧
        linF (s.drop (i + 1)) = (linF (s.drop k)).map (· + (k - (i + 1)))) ?_ (m := s.length - i) ?_
      case refine_2 => exact ⟨i + 1, _, _, _, _, _, _, by omega, by omega, by omega, rfl, rfl, by simp⟩
      rintro m fr H' kk ⟨k, x8, x9, x22, x53, x57, x65, rfl, hk1, hk2, rfl, rfl, hn⟩ hkk
      have hlt := lineT_eq (s.drop i)
      rw [List.drop_drop] at hlt
      by_cases h : k < s.length
      · have c1 : (k : Int) < (s.length : Int) := by omega
        have c1' : ¬ (k : Int) ≥ (s.length : Int) := by omega
        have hc : s[k]? = some s[k] := List.getElem?_eq_getElem h
        have hx := fun kq => qIx_at s k s[k] hc kq
        have hd : s.drop k = s[k] :: s.drop (k + 1) := List.drop_eq_getElem_cons h
        have h34 : (((s[k].toNat : Nat) : Int) == 34) = decide (s[k] = 34) := u8_ne _ 34 (by decide)
        have h10 : (((s[k].toNat : Nat) : Int) == 10) = decide (s[k] = 10) := u8_ne _ 10 (by decide)
        have h13 : (((s[k].toNat : Nat) : Int) == 13) = decide (s[k] = 13) := u8_ne _ 13 (by decide)
        have h92 : (((s[k].toNat : Nat) : Int) == 92) = decide (s[k] = 92) := u8_ne _ 92 (by decide)
        have wk1 : IntKind.i64.wrap ((k : Int) + 1) = ((k + 1 : Nat) : Int) := by rw [i64_in' (by omega)]; omega
        have wk2 : IntKind.i64.wrap (((k + 1 : Nat) : Int) + 1) = ((k + 2 : Nat) : Int) := by rw [i64_in' (by omega)]; omega
        rw [hd, linF_cons] at hn
        have slk := fun kq => slcS_mid s i (k + 1) (by omega) (by omega) kq
        rw [cut_eq] at slk
        have eu := fun H => up4 (ep34 ((s.drop i).take (k + 1 - i)) (by rw [List.length_take, List.length_drop]; omega) H)
        have stop : (s[k] = 10 ∨ s[k] = 13) → uqF ((s.drop i).take (k + 1 - i)) = none ∧ lineT (s.drop i) = none := by
          intro hs
          have hne : s[k] ≠ 34 := by rcases hs with hs | hs <;> rw [hs] <;> decide
          have hne2 : s[k] ≠ 92 := by rcases hs with hs | hs <;> rw [hs] <;> decide
          have hlast : ((s.drop i).take (k + 1 - i)).getLast? = some s[k] := by
            have e : (s.drop i).take (k + 1 - i) = (s.drop i).take (k - i) ++ [s[k]] := by
              rw [show k + 1 - i = (k - i) + 1 by omega, List.take_succ, List.getElem?_drop, show i + (k - i) = k by omega, hc]
              rfl
            rw [e, List.getLast?_concat]
          refine ⟨uqF_last hlast hne, ?_⟩
          rw [if_neg hne, if_neg hne2] at hn
          rw [hlt, hn]
          cases hq : linF (s.drop (k + 1)) with
          | none => rfl
          | some j =>
            simp only [Option.map_some]
            cases hu : uqF ((s.drop i).take (j + 1 + (k - (i + 1)) + 2)) with
            | none => rfl
            | some t =>
              have hcr := uq_nocr hu
              have : crlf ((s.drop i).take (j + 1 + (k - (i + 1)) + 2)) = true := by
                unfold crlf
                rw [List.any_eq_true]
                refine ⟨s[k], ?_, by rcases hs with hs | hs <;> rw [hs] <;> decide⟩
                refine List.mem_of_getElem? (i := k - i) ?_
                rw [List.getElem?_take, if_pos (by omega), List.getElem?_drop, show i + (k - i) = k by omega]
                exact hc
              rw [this] at hcr
              cases hcr
        by_cases k1 : s[k] = 34
        · rw [decide_eq_true k1] at h34
          rw [if_pos k1] at hn
          rw [hn] at hlt
          simp only [Option.map_some] at hlt
          rw [show 0 + (k - (i + 1)) + 2 = k + 1 - i by omega] at hlt
          rw [hlt]
          cases hu : uqF ((s.drop i).take (k + 1 - i)) with
          | none =>
            rw [hu] at eu
            simp only [uqR] at eu
            simp -implicitDefEqProofs only [l27_6, r27_4, r27_8, r27_10, r27_11, opn_z, opn_s, sel_z, sel_s, qCd_eq, qIf_false, qBl_eq, qO_some, qRes_val, qPick_true, qPick_false, qG_tt, qG_ft, qExt_tup, qLss_int, qGeq_int, qNeq_int, qAdd_int, qLenS_str, List.getElem?_cons_zero, List.getElem?_cons_succ, AV.kill, AV.kills, c1, c1', decide_true, decide_false, hx, h34, Bool.not_true, wk1, slk, eu]
            exact ⟨rfl, _, _, rfl⟩
          | some t =>
            rw [hu] at eu
            simp only [uqR] at eu
            simp -implicitDefEqProofs only [l27_6, r27_4, r27_8, r27_10, r27_11, opn_z, opn_s, sel_z, sel_s, qCd_eq, qIf_false, qBl_eq, qO_some, qRes_val, qPick_true, qPick_false, qG_tt, qG_ft, qExt_tup, qLss_int, qGeq_int, qNeq_int, qAdd_int, qLenS_str, List.getElem?_cons_zero, List.getElem?_cons_succ, AV.kill, AV.kills, c1, c1', decide_true, decide_false, hx, h34, Bool.not_true, wk1, slk, eu]
            refine ⟨rfl, ?_⟩
            show _ = AV.tup [.str t, .int .i64 ((i + (k + 1 - i) : Nat) : Int), .bool true]
            rw [show i + (k + 1 - i) = k + 1 by omega]
        · rw [decide_eq_false k1] at h34
          by_cases k2 : s[k] = 10
          · rw [decide_eq_true k2] at h10
            obtain ⟨hu, hT⟩ := stop (.inl k2)
            rw [hu] at eu
            simp only [uqR] at eu
            rw [hT]
            simp -implicitDefEqProofs only [l27_6, r27_4, r27_8, r27_10, r27_11, opn_z, opn_s, sel_z, sel_s, qCd_eq, qIf_false, qBl_eq, qO_some, qRes_val, qPick_true, qPick_false, qG_tt, qG_ft, qExt_tup, qLss_int, qGeq_int, qNeq_int, qAdd_int, qLenS_str, List.getElem?_cons_zero, List.getElem?_cons_succ, AV.kill, AV.kills, c1, c1', decide_true, decide_false, hx, h34, h10, Bool.not_true, Bool.not_false, wk1, slk, eu]
            exact ⟨rfl, _, _, rfl⟩
          · rw [decide_eq_false k2] at h10
            by_cases k3 : s[k] = 13
            · rw [decide_eq_true k3] at h13
              obtain ⟨hu, hT⟩ := stop (.inr k3)
              rw [hu] at eu
              simp only [uqR] at eu
              rw [hT]
              simp -implicitDefEqProofs only [l27_6, r27_4, r27_8, r27_10, r27_11, opn_z, opn_s, sel_z, sel_s, qCd_eq, qIf_false, qBl_eq, qO_some, qRes_val, qPick_true, qG_tt, qExt_tup, qLss_int, qGeq_int, qNeq_int, qAdd_int, qLenS_str, List.getElem?_cons_zero, List.getElem?_cons_succ, AV.kill, AV.kills, c1, c1', decide_true, decide_false, hx, h34, h10, h13, Bool.not_true, Bool.not_false, wk1, slk, eu]
              exact ⟨rfl, _, _, rfl⟩
            · rw [decide_eq_false k3] at h13
              rw [if_neg k1] at hn
              by_cases k4 : s[k] = 92
              · rw [decide_eq_true k4] at h92
                rw [if_pos k4] at hn
                simp -implicitDefEqProofs only [l27_6, r27_4, r27_5, r27_6, r27_7, opn_z, opn_s, sel_z, sel_s, qCd_eq, qIf_true, qBl_eq, qPick_true, qG_tt, qLss_int, qEql_int, qNeq_int, qAdd_int, qLenS_str, c1, decide_true, hx, h34, h10, h13, h92, Bool.not_false, wk1, wk2]
                refine hkk (s.length + 1 - (k + 2)) _ _ (by omega) ⟨k + 2, _, _, _, _, _, _, rfl, by omega, by omega, rfl, rfl, ?_⟩
                by_cases h2 : k + 1 < s.length
                · have hd2 : s.drop (k + 1) = s[k + 1] :: s.drop (k + 1 + 1) := List.drop_eq_getElem_cons h2
                  rw [hd2] at hn
                  simp only at hn
                  rw [hn, Option.map_map, show k + 2 = k + 1 + 1 by omega]
                  congr 1
                  funext q
                  simp only [Function.comp]
                  omega
                · rw [List.drop_eq_nil_of_le (show s.length ≤ k + 1 by omega)] at hn
                  rw [hn, List.drop_eq_nil_of_le (show s.length ≤ k + 2 by omega)]
                  rfl
              · rw [decide_eq_false k4] at h92
                rw [if_neg k4] at hn
                simp -implicitDefEqProofs only [l27_6, r27_4, r27_5, r27_7, opn_z, opn_s, sel_z, sel_s, qCd_eq, qIf_true, qIf_false, qBl_eq, qPick_true, qG_tt, qLss_int, qEql_int, qNeq_int, qAdd_int, qLenS_str, c1, decide_true, hx, h34, h10, h13, h92, Bool.not_false, wk1]
                refine hkk (s.length + 1 - (k + 1)) _ _ (by omega) ⟨k + 1, _, _, _, _, _, _, rfl, by omega, by omega, rfl, rfl, ?_⟩
                rw [hn, Option.map_map]
                congr 1
                funext q
                simp only [Function.comp]
                omega
      · have c1 : ¬ (k : Int) < (s.length : Int) := by omega
        have c1' : (k : Int) ≥ (s.length : Int) := by omega
        rw [List.drop_eq_nil_of_le (show s.length ≤ k by omega)] at hn
        have hT : lineT (s.drop i) = none := by
          rw [hlt, hn]
          rfl
        rw [hT]
        simp -implicitDefEqProofs only [l27_6, r27_4, r27_8, r27_9, opn_z, opn_s, sel_z, sel_s, qCd_eq, qIf_true, qIf_false, qBl_eq, qPick_false, qG_ft, qLss_int, qGeq_int, qLenS_str, AV.kill, AV.kills, c1, c1', decide_true, decide_false]
        exact ⟨rfl, _, _, rfl⟩
    by_cases b1 : ((s.length - i : Nat) : Int) ≥ 3
    · have sl3 := fun k => slcS_mid s i (i + 3) (by omega) (by omega) k
      simp -implicitDefEqProofs only [c27, r27_0, r27_1, opn_z, opn_s, sel_z, sel_s, qCd_eq, qIf_false, qFn_eq, qBl_eq, qPick_true, qG_tt, qGeq_int, qAdd_int, qSub_int, qLenS_str, ws, b1, decide_true, w3, sl3, q3]
      (first | exact rest _ _ _ _ _ _ _ | (apply rest <;> exact Aes.undef))
    · simp -implicitDefEqProofs only [c27, r27_0, r27_1, opn_z, opn_s, sel_z, sel_s, qCd_eq, qIf_false, qFn_eq, qBl_eq, qPick_false, qG_ft, qGeq_int, qSub_int, qLenS_str, ws, b1, decide_false]
      (first | exact rest _ _ _ _ _ _ _ | (apply rest <;> exact Aes.undef))
theorem epRText (s : Str) (hl : s.length < 800000) (i : Nat) (hi : i < s.length) : ∃ v, RdOk i (textT (s.drop i)) v ∧ ∀ H, EP4 27 [.str s, .int .i64 (i : Int)] H = some (.val v H) :=
  uo_form_ex (X := X) (D := OD2) (O := OF4) (S := PS) (al := [.str s, .int .i64 (i : Int)]) e27 xf27 rfl rfl rfl (Q := fun v => RdOk i (textT (s.drop i)) v) (rtext_walk s hl i hi)
end T
set_option linter.unusedVariables false
set_option linter.unusedSimpArgs false
set_option maxRecDepth 10000
namespace T
open Go Go.Aes Go.Proofs
theorem lxL_eq (c : UInt8) : lxL c = (letB c || digB c) := rfl
theorem epRPart (c : UInt8) (H : AH) : EP 25 [.int .u8 (c.toNat : Int)] H = some (.val (.bool (lxN c)) H) := by
  refine uo_form (X := X) (D := OD2) (O := OF2) (S := PS) (al := [.int .u8 (c.toNat : Int)]) e25 xf25 rfl rfl rfl rfl ?_ H
  simp only [AV.kills, AV.kill]
  have h1 := ep59 c
  have h2 := ep60 c
  have h46 : (((c.toNat : Nat) : Int) == 46) = decide (c = 46) := u8_ne c 46 (by decide)
  have h43 : (((c.toNat : Nat) : Int) == 43) = decide (c = 43) := u8_ne c 43 (by decide)
  have h45 : (((c.toNat : Nat) : Int) == 45) = decide (c = 45) := u8_ne c 45 (by decide)
  have hN : lxN c = ((letB c || digB c) || (decide (c = 46) || decide (c = 43) || decide (c = 45))) := by
    unfold lxN
    rw [lxL_eq]
    congr 1
    rw [Bool.eq_iff_iff]
    simp [or_assoc]
  rw [hN]
  cases k1 : letB c with
  | true =>
    rw [k1] at h1
    simp -implicitDefEqProofs only [c25, r25_0, r25_1, opn_z, opn_s, sel_z, sel_s, qFn_eq, qRes_val, qPick_true, qG_tf, AV.kill, h1]
    rfl
  | false =>
    rw [k1] at h1
    cases k2 : digB c with
    | true =>
      rw [k2] at h2
      simp -implicitDefEqProofs only [c25, r25_0, r25_1, opn_z, opn_s, sel_z, sel_s, qFn_eq, qRes_val, qPick_true, qPick_false, qG_ff, qG_tf, AV.kill, h1, h2]
      rfl
    | false =>
      rw [k2] at h2
      by_cases k3 : c = 46
      · rw [decide_eq_true k3] at h46 ⊢
        simp -implicitDefEqProofs only [c25, r25_0, r25_1, opn_z, opn_s, sel_z, sel_s, qFn_eq, qRes_val, qPick_true, qPick_false, qG_ff, qG_tf, qEql_int, AV.kill, h1, h2, h46]
        rfl
      · rw [decide_eq_false k3] at h46 ⊢
        by_cases k4 : c = 43
        · rw [decide_eq_true k4] at h43 ⊢
          simp -implicitDefEqProofs only [c25, r25_0, r25_1, opn_z, opn_s, sel_z, sel_s, qFn_eq, qRes_val, qPick_true, qPick_false, qG_ff, qG_tf, qEql_int, AV.kill, h1, h2, h46, h43]
          rfl
        · rw [decide_eq_false k4] at h43 ⊢
          simp -implicitDefEqProofs only [c25, r25_0, r25_1, opn_z, opn_s, sel_z, sel_s, qFn_eq, qRes_val, qPick_false, qG_ff, qEql_int, AV.kill, h1, h2, h46, h43, h45]
          simp
def OneOk (i : Nat) (o : Option Tok) (v : AV) : Prop := match o with
  | some q => v = .tup [.agg [.int .i64 (q.1 : Int), .str q.2.1, .int .i64 (i : Int)], .int .i64 ((i + q.2.2 : Nat) : Int), .bool true]
  | none => ∃ (a : Int) (t : Str) (b e : Int), v = .tup [.agg [.int .i64 a, .str t, .int .i64 b], .int .i64 e, .bool false]
theorem bldz (k : AV → Prop) : qBld z36 [] k = k (.agg [.int .i64 0, .str [], .int .i64 0]) := rfl
theorem bldt (n : Int) (t : Str) (p : Int) (k : AV → Prop) : qBld z36 [(0, 1, .int .i64 n), (1, 1, .str t), (2, 1, .int .i64 p)] k = k (.agg [.int .i64 n, .str t, .int .i64 p]) := rfl
theorem tokF_let {s : Str} {c : UInt8} (h : s[0]? = some c) (hc : letB c = true) : tokF s = if 40 < spn lxL s then none else some (1, s.take (spn lxL s), spn lxL s) := by
  have hl : lxL c = true := by rw [lxL_eq, hc]; rfl
  have hd : (isD c || decide (c = 45)) = false := by
    unfold letB at hc
    unfold isD
    have e45 : ∀ h : c = 45, c.toNat = 45 := fun h => by rw [h]; rfl
    by_cases e : c = 45
    · have := e45 e
      simp only [Bool.or_eq_true, Bool.and_eq_true, decide_eq_true_eq] at hc
      omega
    · simp only [Bool.or_eq_true, Bool.and_eq_true, decide_eq_true_eq] at hc
      simp only [Bool.or_eq_false_iff, Bool.and_eq_false_iff, decide_eq_false_iff_not]
      exact ⟨by omega, e⟩
  rw [tokF_at h, if_neg (by rw [hd]; simp), if_pos hl]
theorem sg_at (n : Nat) (h : n < 13) (k : AV → Prop) : qIx (.str [33,36,38,40,41,58,61,64,91,93,123,124,125]) (.int .i64 (n : Int)) k = k (.int .u8 ((([33,36,38,40,41,58,61,64,91,93,123,124,125] : Str).getD n 0).toNat : Int)) := by
  refine qIx_at _ n _ ?_ k
  have hl : n < ([33,36,38,40,41,58,61,64,91,93,123,124,125] : Str).length := h
  rw [List.getD_eq_getElem?_getD, List.getElem?_eq_getElem hl]
  rfl
set_option maxHeartbeats 4000000 in
theorem one_walk (s : Str) (hl : s.length < 800000) (i : Nat) (hi : i < s.length) : c14 EP4 [.str s, .int .i64 (i : Int)] H0 (fun v _ => v.kill.free = true ∧ OneOk i (tokF (s.drop i)) v.kill) := by
  have hdl : (s.drop i).length = s.length - i := List.length_drop
  obtain ⟨c, hcd⟩ : ∃ c, c = s[i] := ⟨_, rfl⟩
  have hci : s[i]? = some c := by rw [hcd]; exact List.getElem?_eq_getElem hi
  have h0 : (s.drop i)[0]? = some c := by rw [List.getElem?_drop, Nat.add_zero]; exact hci
  have i0 := fun k => qIx_at s i c hci k
  have ws : IntKind.i64.wrap ((s.length : Int) - (i : Int)) = ((s.length - i : Nat) : Int) := by rw [i64_in' (by omega)]; omega
  have w3 : IntKind.i64.wrap ((i : Int) + 3) = ((i + 3 : Nat) : Int) := by rw [i64_in' (by omega)]; omega
  have w1 : IntKind.i64.wrap ((i : Int) + 1) = ((i + 1 : Nat) : Int) := by rw [i64_in' (by omega)]; omega
  have hq : ∀ k : AV → AH → Prop, qNew (.cells z36) .ptr H0 k = k (.ptr H0.nx 0) (H0.push (.cells z36)) := fun k => by rw [qNew_i]; rfl
  have hat := get_push_at (H := H0) (.cells z36)
  have hif : IsFn (H0.push (.cells z36)) := inferInstance
  have hL := fun H => up4 (ep59 c H)
  have hD := fun H => up4 (ep60 c H)
  have h45 : (((c.toNat : Nat) : Int) == 45) = decide (c = 45) := u8_ne c 45 (by decide)
  have h34 : (((c.toNat : Nat) : Int) == 34) = decide (c = 34) := u8_ne c 34 (by decide)
  have hle1 := spn_le lxN (s.drop i)
  have hle2 := spn_le lxL (s.drop i)
  generalize H0.nx = b at *
  generalize H0.push (.cells z36) = H1 at *
  have st : ∀ (n : Int) (t : Str) (p : Int) (k : AV → AH → Prop), qSt 3 (.ptr b 0) (.agg [.int .i64 n, .str t, .int .i64 p]) H1 k = k Aes.undef (H1.set b (some (.cells [.int .i64 n, .str t, .int .i64 p]))) :=
    fun n t p k => qSt_whole (R := Prop) (n := 3) (l := [.int .i64 n, .str t, .int .i64 p]) hat rfl rfl rfl k
  have ld : ∀ (n : Int) (t : Str) (p : Int) (k : AV → Prop), qLdA 3 (.ptr b 0) (H1.set b (some (.cells [.int .i64 n, .str t, .int .i64 p]))) k = k (.agg [.int .i64 n, .str t, .int .i64 p]) :=
    fun n t p k => qLdA_whole (R := Prop) (n := 3) (cs := [.int .i64 n, .str t, .int .i64 p]) (by rw [get_set_i (lt_i hat), if_pos rfl]) rfl k
  cases k1 : letB c with
  | true =>
    rw [k1] at hL
    rw [tokF_let h0 k1]
    simp -implicitDefEqProofs only [c14, r14_0, r14_1, r14_2, r14_3, opn_z, opn_s, sel_z, sel_s, qCd_eq, qIf_true, qFn_eq, qBl_eq, qRes_val, hq, i0, hL]
    refine loop_inv (fun m fr H' => ∃ (j : Nat) (x9 x10 x11 x12 x13 x14 x19 x37 x51 x67 x78 x95 x110 x129 x135 : AV), m + (i + j) = s.length ∧ fr = [.str s, .int .i64 (i : Int), .ptr b 0, .int .i64 0, .bool false, .int .u8 (c.toNat : Int), .int .i64 ((i + j : Nat) : Int), x9, x10, x11, x12, x13, x14, x19, x37, x51, x67, x78, x95, x110, x129, x135] ∧ H' = H1 ∧
      spn lxL (s.drop i) = j + spn lxL (s.drop (i + j))) ?_ (m := s.length - i) ⟨0, _, _, _, _, _, _, _, _, _, _, _, _, _, _, _, by omega, rfl, rfl, by simp⟩
    rintro m fr H' kk ⟨j, x9, x10, x11, x12, x13, x14, x19, x37, x51, x67, x78, x95, x110, x129, x135, hm, rfl, rfl, hsp⟩ hkk
    by_cases h : i + j < s.length
    · have c1 : ((i + j : Nat) : Int) < (s.length : Int) := by omega
      have hc : s[i + j]? = some s[i + j] := List.getElem?_eq_getElem h
      have hx := fun k => qIx_at s (i + j) s[i + j] hc k
      have hd : s.drop (i + j) = s[i + j] :: s.drop (i + j + 1) := List.drop_eq_getElem_cons h
      have a1 := fun H => up4 (ep59 s[i + j] H)
      have a2 := fun H => up4 (ep60 s[i + j] H)
      rw [hd, spn_cons, lxL_eq] at hsp
      have wj : IntKind.i64.wrap (((i + j : Nat) : Int) + 1) = ((i + (j + 1) : Nat) : Int) := by rw [i64_in' (by omega)]; omega
      have nx : (letB s[i + j] || digB s[i + j]) = true → spn lxL (s.drop i) = (j + 1) + spn lxL (s.drop (i + (j + 1))) := by
        intro hb
        rw [hb, if_pos rfl] at hsp
        rw [show i + (j + 1) = i + j + 1 by omega]
        omega
      cases l1 : letB s[i + j] with
      | true =>
        rw [l1] at a1 nx
        simp -implicitDefEqProofs only [l14_11, r14_4, r14_5, opn_z, opn_s, sel_z, sel_s, qCd_eq, qIf_true, qBl_eq, qRes_val, qPick_true, qG_tt, qG_tf, qLss_int, qAdd_int, qLenS_str, c1, decide_true, hx, a1, wj]
        exact hkk (m - 1) _ _ (by omega) ⟨j + 1, _, _, _, _, _, _, _, _, _, _, _, _, _, _, _, by omega, rfl, rfl, nx rfl⟩
      | false =>
        rw [l1] at a1
        cases l2 : digB s[i + j] with
        | true =>
          rw [l1, l2] at nx
          rw [l2] at a2
          simp -implicitDefEqProofs only [l14_11, r14_4, r14_5, opn_z, opn_s, sel_z, sel_s, qCd_eq, qIf_true, qBl_eq, qRes_val, qPick_true, qPick_false, qG_tt, qG_ff, qLss_int, qAdd_int, qLenS_str, c1, decide_true, hx, a1, a2, wj]
          exact hkk (m - 1) _ _ (by omega) ⟨j + 1, _, _, _, _, _, _, _, _, _, _, _, _, _, _, _, by omega, rfl, rfl, nx rfl⟩
        | false =>
          rw [l2] at a2
          rw [l1, l2, if_neg (by simp), Nat.add_zero] at hsp
          rw [hsp]
          have sl := fun k => slcS_mid s i (i + j) (by omega) (by omega) k
          rw [cut_eq, show i + j - i = j by omega] at sl
          have wsb : IntKind.i64.wrap (((i + j : Nat) : Int) - (i : Int)) = (j : Int) := by rw [i64_in' (by omega)]; omega
          by_cases h40 : 40 < j
          · have c40 : ¬ ((j : Nat) : Int) ≤ 40 := by omega
            rw [if_pos h40]
            simp -implicitDefEqProofs only [l14_11, r14_4, r14_6, opn_z, opn_s, sel_z, sel_s, qCd_eq, qIf_false, qBl_eq, qRes_val, qPick_true, qPick_false, qG_tt, qG_ff, qLss_int, qLeq_int, qSub_int, qLenS_str, c1, decide_true, decide_false, hx, a1, a2, sl, bldt, wsb, c40, st, qPtr_ptr, ld]
            exact ⟨rfl, _, _, _, _, rfl⟩
          · have c40 : ((j : Nat) : Int) ≤ 40 := by omega
            rw [if_neg h40]
            simp -implicitDefEqProofs only [l14_11, r14_4, r14_6, opn_z, opn_s, sel_z, sel_s, qCd_eq, qIf_false, qBl_eq, qRes_val, qPick_true, qPick_false, qG_tt, qG_ff, qLss_int, qLeq_int, qSub_int, qLenS_str, c1, decide_true, hx, a1, a2, sl, bldt, wsb, c40, st, qPtr_ptr, ld]
            exact ⟨rfl, rfl⟩
    · have c1 : ¬ ((i + j : Nat) : Int) < (s.length : Int) := by omega
      rw [List.drop_eq_nil_of_le (show s.length ≤ i + j by omega), spn_nil, Nat.add_zero] at hsp
      rw [hsp]
      have sl := fun k => slcS_mid s i (i + j) (by omega) (by omega) k
      rw [cut_eq, show i + j - i = j by omega] at sl
      have wsb : IntKind.i64.wrap (((i + j : Nat) : Int) - (i : Int)) = (j : Int) := by rw [i64_in' (by omega)]; omega
      by_cases h40 : 40 < j
      · have c40 : ¬ ((j : Nat) : Int) ≤ 40 := by omega
        rw [if_pos h40]
        simp -implicitDefEqProofs only [l14_11, r14_4, r14_6, opn_z, opn_s, sel_z, sel_s, qCd_eq, qIf_false, qBl_eq, qPick_false, qG_ft, qLss_int, qLeq_int, qSub_int, qLenS_str, qG_un, c1, decide_false, sl, bldt, wsb, c40, st, qPtr_ptr, ld]
        exact ⟨rfl, _, _, _, _, rfl⟩
      · have c40 : ((j : Nat) : Int) ≤ 40 := by omega
        rw [if_neg h40]
        simp -implicitDefEqProofs only [l14_11, r14_4, r14_6, opn_z, opn_s, sel_z, sel_s, qCd_eq, qIf_false, qBl_eq, qPick_false, qG_ft, qLss_int, qLeq_int, qSub_int, qLenS_str, qG_un, c1, decide_true, decide_false, sl, bldt, wsb, c40, st, qPtr_ptr, ld]
        exact ⟨rfl, rfl⟩
  | false =>
    rw [k1] at hL
    have hLD : lxL c = digB c := by rw [lxL_eq, k1]; rfl
    have hDD : isD c = digB c := rfl
    rw [tokF_at h0, hDD, hLD]
    have number : ∀ (x9 x10 x11 x12 x13 x14 x19 x37 x51 x67 x78 x95 x110 x129 x135 : AV), (qBl (fun k14 => (qLoop (l14_17 EP4 k14))) (r14_10 EP4 (r14_11 (qCd (sel 17) (fun _ => (r14_12 (fun fr H => qPtr (sel 2 fr) (qLdA 3 (sel 2 fr) H fun w0 => (AV.tup [w0, sel 3 fr, sel 4 fr]).kill.free = true ∧ OneOk i (if (num ((s.drop i).take (spn lxN (s.drop i)))).2 then some (if (num ((s.drop i).take (spn lxN (s.drop i)))).1 then 2 else 3, (s.drop i).take (spn lxN (s.drop i)), spn lxN (s.drop i)) else none) (AV.tup [w0, sel 3 fr, sel 4 fr]).kill)))) (fun k13 => k13) (r14_13 (fun fr H => qPtr (sel 2 fr) (qLdA 3 (sel 2 fr) H fun w0 => (AV.tup [w0, sel 3 fr, sel 4 fr]).kill.free = true ∧ OneOk i (if (num ((s.drop i).take (spn lxN (s.drop i)))).2 then some (if (num ((s.drop i).take (spn lxN (s.drop i)))).1 then 2 else 3, (s.drop i).take (spn lxN (s.drop i)), spn lxN (s.drop i)) else none) (AV.tup [w0, sel 3 fr, sel 4 fr]).kill))))))) [.str s, .int .i64 (i : Int), .ptr b 0, .int .i64 0, .bool false, .int .u8 (c.toNat : Int), .int .i64 (i : Int), x9, x10, x11, x12, x13, x14, x19, x37, x51, x67, x78, x95, x110, x129, x135] H1 := by
      intro x9 x10 x11 x12 x13 x14 x19 x37 x51 x67 x78 x95 x110 x129 x135
      rw [qBl_eq]
      refine loop_inv (fun m fr H' => ∃ (j : Nat) (x9 x10 x11 x12 x13 x14 x19 x37 x51 x67 x78 x95 x110 x129 x135 : AV), m + (i + j) = s.length ∧ fr = [.str s, .int .i64 (i : Int), .ptr b 0, .int .i64 0, .bool false, .int .u8 (c.toNat : Int), .int .i64 ((i + j : Nat) : Int), x9, x10, x11, x12, x13, x14, x19, x37, x51, x67, x78, x95, x110, x129, x135] ∧ H' = H1 ∧
        spn lxN (s.drop i) = j + spn lxN (s.drop (i + j))) ?_ (m := s.length - i) ⟨0, _, _, _, _, _, _, _, _, _, _, _, _, _, _, _, by omega, rfl, rfl, by simp⟩
      rintro m fr H' kk ⟨j, x9, x10, x11, x12, x13, x14, x19, x37, x51, x67, x78, x95, x110, x129, x135, hm, rfl, rfl, hsp⟩ hkk
      have done : (j = spn lxN (s.drop i)) → i + j ≤ s.length → ∀ (x9 x10 x11 x12 x13 x14 x19 x37 x51 x67 x78 x95 x110 x129 x135 : AV), (r14_10 EP4 (r14_11 (qCd (sel 17) (fun _ => (r14_12 (fun fr H => qPtr (sel 2 fr) (qLdA 3 (sel 2 fr) H fun w0 => (AV.tup [w0, sel 3 fr, sel 4 fr]).kill.free = true ∧ OneOk i (if (num ((s.drop i).take (spn lxN (s.drop i)))).2 then some (if (num ((s.drop i).take (spn lxN (s.drop i)))).1 then 2 else 3, (s.drop i).take (spn lxN (s.drop i)), spn lxN (s.drop i)) else none) (AV.tup [w0, sel 3 fr, sel 4 fr]).kill)))) (fun k13 => k13) (r14_13 (fun fr H => qPtr (sel 2 fr) (qLdA 3 (sel 2 fr) H fun w0 => (AV.tup [w0, sel 3 fr, sel 4 fr]).kill.free = true ∧ OneOk i (if (num ((s.drop i).take (spn lxN (s.drop i)))).2 then some (if (num ((s.drop i).take (spn lxN (s.drop i)))).1 then 2 else 3, (s.drop i).take (spn lxN (s.drop i)), spn lxN (s.drop i)) else none) (AV.tup [w0, sel 3 fr, sel 4 fr]).kill)))))) [.str s, .int .i64 (i : Int), .ptr b 0, .int .i64 0, .bool false, .int .u8 (c.toNat : Int), .int .i64 ((i + j : Nat) : Int), x9, x10, x11, x12, x13, x14, x19, x37, x51, x67, x78, x95, x110, x129, x135] H' := by
        intro hj hjl x9 x10 x11 x12 x13 x14 x19 x37 x51 x67 x78 x95 x110 x129 x135
        rw [← hj]
        have sl := fun k => slcS_mid s i (i + j) (by omega) hjl k
        rw [cut_eq, show i + j - i = j by omega] at sl
        have en := fun H => up4 (ep16 ((s.drop i).take j) (by rw [List.length_take]; omega) H)
        cases n1 : (num ((s.drop i).take j)).1 with
        | true =>
          rw [n1] at en
          cases n2 : (num ((s.drop i).take j)).2 with
          | true =>
            rw [n2] at en
            simp -implicitDefEqProofs only [r14_10, r14_11, r14_12, opn_z, opn_s, sel_z, sel_s, qCd_eq, qIf_true, qO_some, qRes_val, qExt_tup, List.getElem?_cons_zero, List.getElem?_cons_succ, sl, en, bldt, st, qPtr_ptr, ld]
            exact ⟨rfl, rfl⟩
          | false =>
            rw [n2] at en
            simp -implicitDefEqProofs only [r14_10, r14_11, r14_12, opn_z, opn_s, sel_z, sel_s, qCd_eq, qIf_true, qO_some, qRes_val, qExt_tup, List.getElem?_cons_zero, List.getElem?_cons_succ, sl, en, bldt, st, qPtr_ptr, ld]
            exact ⟨rfl, _, _, _, _, rfl⟩
        | false =>
          rw [n1] at en
          cases n2 : (num ((s.drop i).take j)).2 with
          | true =>
            rw [n2] at en
            simp -implicitDefEqProofs only [r14_10, r14_11, r14_13, opn_z, opn_s, sel_z, sel_s, qCd_eq, qIf_false, qO_some, qRes_val, qExt_tup, List.getElem?_cons_zero, List.getElem?_cons_succ, sl, en, bldt, st, qPtr_ptr, ld]
            exact ⟨rfl, rfl⟩
          | false =>
            rw [n2] at en
            simp -implicitDefEqProofs only [r14_10, r14_11, r14_13, opn_z, opn_s, sel_z, sel_s, qCd_eq, qIf_false, qO_some, qRes_val, qExt_tup, List.getElem?_cons_zero, List.getElem?_cons_succ, sl, en, bldt, st, qPtr_ptr, ld]
            exact ⟨rfl, _, _, _, _, rfl⟩
      by_cases h : i + j < s.length
      · have c1 : ((i + j : Nat) : Int) < (s.length : Int) := by omega
        have hc : s[i + j]? = some s[i + j] := List.getElem?_eq_getElem h
        have hx := fun k => qIx_at s (i + j) s[i + j] hc k
        have hd : s.drop (i + j) = s[i + j] :: s.drop (i + j + 1) := List.drop_eq_getElem_cons h
        have a1 := fun H => up4 (epRPart s[i + j] H)
        rw [hd, spn_cons] at hsp
        have wj : IntKind.i64.wrap (((i + j : Nat) : Int) + 1) = ((i + (j + 1) : Nat) : Int) := by rw [i64_in' (by omega)]; omega
        cases l1 : lxN s[i + j] with
        | true =>
          rw [l1] at a1
          rw [l1, if_pos rfl] at hsp
          simp -implicitDefEqProofs only [l14_17, r14_8, r14_9, opn_z, opn_s, sel_z, sel_s, qCd_eq, qIf_true, qBl_eq, qRes_val, qPick_true, qG_tt, qLss_int, qAdd_int, qLenS_str, c1, decide_true, hx, a1, wj]
          exact hkk (m - 1) _ _ (by omega) ⟨j + 1, _, _, _, _, _, _, _, _, _, _, _, _, _, _, _, by omega, rfl, rfl, by rw [show i + (j + 1) = i + j + 1 by omega]; omega⟩
        | false =>
          rw [l1] at a1
          rw [l1, if_neg (by simp), Nat.add_zero] at hsp
          simp -implicitDefEqProofs only [l14_17, r14_8, opn_z, opn_s, sel_z, sel_s, qCd_eq, qIf_false, qBl_eq, qRes_val, qPick_true, qG_tt, qLenS_str, qLss_int, c1, decide_true, hx, a1]
          (first | exact done hsp.symm (by omega) _ _ _ _ _ _ _ _ _ _ _ _ _ _ _ | (apply done hsp.symm (by omega) <;> exact Aes.undef))
      · have c1 : ¬ ((i + j : Nat) : Int) < (s.length : Int) := by omega
        rw [List.drop_eq_nil_of_le (show s.length ≤ i + j by omega), spn_nil, Nat.add_zero] at hsp
        simp -implicitDefEqProofs only [l14_17, r14_8, opn_z, opn_s, sel_z, sel_s, qCd_eq, qIf_false, qBl_eq, qPick_false, qG_ft, qLenS_str, qLss_int, c1, decide_false]
        (first | exact done hsp.symm (by omega) _ _ _ _ _ _ _ _ _ _ _ _ _ _ _ | (apply done hsp.symm (by omega) <;> exact Aes.undef))
    by_cases k2 : c = 45
    · rw [decide_eq_true k2] at h45
      rw [if_pos (by rw [decide_eq_true k2]; simp)]
      simp -implicitDefEqProofs only [c14, r14_0, r14_1, r14_2, opn_z, opn_s, qFn_eq, hq, i0]
      rw [qBl_eq]
      simp -implicitDefEqProofs only [r14_3, r14_7, opn_z, opn_s, sel_z, sel_s, qCd_eq, qIf_true, qIf_false, qRes_val, qPick_true, qG_tf, qEql_int, hL, h45]
      (first | exact number _ _ _ _ _ _ _ _ _ _ _ _ _ _ _ | (apply number <;> exact Aes.undef))
    rw [decide_eq_false k2] at h45
    cases k3 : digB c with
    | true =>
      rw [k3] at hD
      rw [if_pos (by rfl)]
      simp -implicitDefEqProofs only [c14, r14_0, r14_1, r14_2, opn_z, opn_s, qFn_eq, hq, i0]
      rw [qBl_eq]
      simp -implicitDefEqProofs only [r14_3, r14_7, opn_z, opn_s, sel_z, sel_s, qCd_eq, qIf_true, qIf_false, qRes_val, qPick_false, qG_ff, qEql_int, hL, h45, hD]
      (first | exact number _ _ _ _ _ _ _ _ _ _ _ _ _ _ _ | (apply number <;> exact Aes.undef))
    | false =>
      rw [k3] at hD
      rw [decide_eq_false k2, if_neg (by simp), if_neg (by simp)]
      by_cases k4 : c = 34
      · rw [decide_eq_true k4] at h34
        obtain ⟨v, hv, e27⟩ := epRText s hl i hi
        have hT : (if hp (s.drop i) [34, 34, 34] = true then (blockT (s.drop i)).map fun q => ((4 : Nat), q.1, q.2) else if c = 34 then (lineT (s.drop i)).map fun q => ((4 : Nat), q.1, q.2) else if hp (s.drop i) [46, 46, 46] = true then some (5, [46, 46, 46], 3) else if lxS c = true then some (5, [c], 1) else none) = (textT (s.drop i)).map fun q => (4, q.1, q.2) := by
          unfold textT
          rw [if_pos k4]
          split <;> rfl
        rw [hT]
        unfold RdOk at hv
        cases ht : textT (s.drop i) with
        | none =>
          rw [ht] at hv
          obtain ⟨a, e, rfl⟩ := hv
          simp -implicitDefEqProofs only [c14, r14_0, r14_1, r14_2, r14_3, r14_7, r14_14, r14_15, r14_16, opn_z, opn_s, sel_z, sel_s, qCd_eq, qIf_true, qIf_false, qFn_eq, qBl_eq, qO_some, qRes_val, qPick_false, qG_ff, qExt_tup, qEql_int, List.getElem?_cons_zero, List.getElem?_cons_succ, hq, i0, hL, h45, hD, h34, e27, bldt, st, qPtr_ptr, ld]
          exact ⟨rfl, _, _, _, _, rfl⟩
        | some q =>
          rw [ht] at hv
          simp only at hv
          subst hv
          simp -implicitDefEqProofs only [c14, r14_0, r14_1, r14_2, r14_3, r14_7, r14_14, r14_15, r14_16, opn_z, opn_s, sel_z, sel_s, qCd_eq, qIf_true, qIf_false, qFn_eq, qBl_eq, qO_some, qRes_val, qPick_false, qG_ff, qExt_tup, qEql_int, List.getElem?_cons_zero, List.getElem?_cons_succ, hq, i0, hL, h45, hD, h34, e27, bldt, st, qPtr_ptr, ld]
          exact ⟨rfl, rfl⟩
      · rw [decide_eq_false k4] at h34
        have h3 : hp (s.drop i) [34, 34, 34] = false := by
          have : s.drop i = c :: s.drop (i + 1) := by rw [hcd]; exact List.drop_eq_getElem_cons hi
          rw [this, hp_cons, decide_eq_false k4, Bool.false_and]
        rw [if_neg (by rw [h3]; simp), if_neg k4]
        have q6 : ∀ k : AV → Prop, qEql X 9 (.str ((s.take (i + 3)).drop i)) (.str [46, 46, 46]) k = k (.bool (hp (s.drop i) [46, 46, 46])) := fun k => eq_hp s [46, 46, 46] i k
        cases h6 : hp (s.drop i) [46, 46, 46] with
        | true =>
          have hle := hp_le h6
          rw [hdl] at hle
          simp only [List.length_cons, List.length_nil] at hle
          have b1 : ((s.length - i : Nat) : Int) ≥ 3 := by omega
          rw [h6] at q6
          have sl3 := fun k => slcS_mid s i (i + 3) (by omega) (by omega) k
          rw [if_pos rfl]
          simp -implicitDefEqProofs only [c14, r14_0, r14_1, r14_2, r14_3, r14_7, r14_14, r14_17, r14_18, opn_z, opn_s, sel_z, sel_s, qCd_eq, qIf_true, qIf_false, qFn_eq, qBl_eq, qRes_val, qPick_true, qPick_false, qG_tt, qG_ff, qGeq_int, qEql_int, qAdd_int, qSub_int, qLenS_str, hq, i0, hL, h45, hD, h34, ws, b1, decide_true, w3, sl3, q6, bldt, st, qPtr_ptr, ld]
          exact ⟨rfl, rfl⟩
        | false =>
          rw [h6] at q6
          rw [if_neg (by simp)]
          have rest : ∀ (x9 x10 x11 x12 x13 x14 x19 x37 x51 x67 x78 x95 x110 x129 x135 : AV), (r14_19 (qBl (fun k1 => (qLoop (l14_5 k1 (fun fr H => qPtr (sel 2 fr) (qLdA 3 (sel 2 fr) H fun w0 => (AV.tup [w0, sel 3 fr, sel 4 fr]).kill.free = true ∧ OneOk i (if lxS c = true then some (5, [c], 1) else none) (AV.tup [w0, sel 3 fr, sel 4 fr]).kill))))) (r14_24 (fun fr H => qPtr (sel 2 fr) (qLdA 3 (sel 2 fr) H fun w0 => (AV.tup [w0, sel 3 fr, sel 4 fr]).kill.free = true ∧ OneOk i (if lxS c = true then some (5, [c], 1) else none) (AV.tup [w0, sel 3 fr, sel 4 fr]).kill))))) [.str s, .int .i64 (i : Int), .ptr b 0, .int .i64 0, .bool false, .int .u8 (c.toNat : Int), .int .i64 (i : Int), x9, x10, x11, x12, x13, x14, x19, x37, x51, x67, x78, x95, x110, x129, x135] H1 := by
            intro x9 x10 x11 x12 x13 x14 x19 x37 x51 x67 x78 x95 x110 x129 x135
            simp -implicitDefEqProofs only [r14_19, opn_z, opn_s, qBl_eq]
            refine loop_inv (fun m fr H' => ∃ (n : Nat) (x9 x10 x11 x12 x13 x19 x37 x51 x67 x78 x95 x110 x129 x135 : AV), m + n = 13 ∧ fr = [.str s, .int .i64 (i : Int), .ptr b 0, .int .i64 0, .bool false, .int .u8 (c.toNat : Int), .int .i64 (i : Int), x9, x10, x11, x12, x13, .int .i64 (n : Int), x19, x37, x51, x67, x78, x95, x110, x129, x135] ∧ H' = H1 ∧
              lxS c = (([33,36,38,40,41,58,61,64,91,93,123,124,125] : Str).drop n).contains c) ?_ (m := 13) ⟨0, _, _, _, _, _, _, _, _, _, _, _, _, _, _, rfl, rfl, rfl, rfl⟩
            rintro m fr H' kk ⟨n, x9, x10, x11, x12, x13, x19, x37, x51, x67, x78, x95, x110, x129, x135, hm, rfl, rfl, hsg⟩ hkk
            by_cases h : n < 13
            · have c1 : (n : Int) < 13 := by omega
              have hx := fun k => sg_at n h k
              have hln : n < ([33,36,38,40,41,58,61,64,91,93,123,124,125] : Str).length := h
              have hgd : ([33,36,38,40,41,58,61,64,91,93,123,124,125] : Str).getD n 0 = ([33,36,38,40,41,58,61,64,91,93,123,124,125] : Str)[n] := by rw [List.getD_eq_getElem?_getD, List.getElem?_eq_getElem hln]; rfl
              rw [List.drop_eq_getElem_cons hln, ← hgd, List.contains_cons] at hsg
              generalize ([33,36,38,40,41,58,61,64,91,93,123,124,125] : Str).getD n 0 = g at *
              have qe := u8_eq g c
              by_cases hg : g = c
              · rw [decide_eq_true hg] at qe
                have hS : lxS c = true := by rw [hsg, hg]; simp
                rw [hS, if_pos rfl]
                have sl1 := fun k => slcS_mid s i (i + 1) (by omega) (by omega) k
                have e1 : (s.take (i + 1)).drop i = [c] := by
                  rw [List.drop_take, show s.drop i = c :: s.drop (i + 1) by rw [hcd]; exact List.drop_eq_getElem_cons hi, show i + 1 - i = 1 by omega]; rfl
                rw [e1] at sl1
                simp -implicitDefEqProofs only [l14_5, r14_20, r14_22, r14_23, opn_z, opn_s, sel_z, sel_s, qCd_eq, qIf_true, qBl_eq, qLss_int, qEql_int, qAdd_int, c1, decide_true, hx, qe, w1, sl1, bldt, st, qPtr_ptr, ld]
                exact ⟨rfl, rfl⟩
              · rw [decide_eq_false hg] at qe
                have hne : (c == g) = false := by simpa using fun e => hg e.symm
                rw [hne, Bool.false_or] at hsg
                have wn : IntKind.i64.wrap ((n : Int) + 1) = ((n + 1 : Nat) : Int) := by rw [i64_in' (by omega)]; omega
                simp -implicitDefEqProofs only [l14_5, r14_20, r14_22, r14_21, opn_z, opn_s, sel_z, sel_s, qCd_eq, qIf_true, qIf_false, qBl_eq, qLss_int, qEql_int, qAdd_int, c1, decide_true, hx, qe, wn]
                exact hkk (m - 1) _ _ (by omega) ⟨n + 1, _, _, _, _, _, _, _, _, _, _, _, _, _, _, by omega, rfl, rfl, hsg⟩
            · have c1 : ¬ (n : Int) < 13 := by omega
              obtain rfl : n = 13 := by omega
              have hS : lxS c = false := by rw [hsg]; rfl
              rw [hS, if_neg (by simp)]
              simp -implicitDefEqProofs only [l14_5, r14_20, r14_24, opn_z, opn_s, sel_z, sel_s, qCd_eq, qIf_false, qBl_eq, qLss_int, c1, decide_false, bldz, st, qPtr_ptr, ld]
              exact ⟨rfl, _, _, _, _, rfl⟩
          by_cases b1 : ((s.length - i : Nat) : Int) ≥ 3
          · have sl3 := fun k => slcS_mid s i (i + 3) (by omega) (by omega) k
            simp -implicitDefEqProofs only [c14, r14_0, r14_1, r14_2, r14_3, r14_7, r14_14, r14_17, opn_z, opn_s, sel_z, sel_s, qFn_eq, qBl_eq, qCd_eq, qIf_false, qRes_val, qPick_true, qPick_false, qG_tt, qG_ff, qEql_int, qLenS_str, qSub_int, qGeq_int, qAdd_int, hq, i0, hL, h45, hD, h34, ws, b1, decide_true, w3, sl3, q6]
            (first | exact rest _ _ _ _ _ _ _ _ _ _ _ _ _ _ _ | (apply rest <;> exact Aes.undef))
          · simp -implicitDefEqProofs only [c14, r14_0, r14_1, r14_2, r14_3, r14_7, r14_14, r14_17, opn_z, opn_s, sel_z, sel_s, qFn_eq, qBl_eq, qCd_eq, qIf_false, qRes_val, qPick_false, qG_ff, qG_ft, qEql_int, qLenS_str, qSub_int, qGeq_int, hq, i0, hL, h45, hD, h34, ws, b1, decide_false]
            (first | exact rest _ _ _ _ _ _ _ _ _ _ _ _ _ _ _ | (apply rest <;> exact Aes.undef))
theorem epOne (s : Str) (hl : s.length < 800000) (i : Nat) (hi : i < s.length) : ∃ v, OneOk i (tokF (s.drop i)) v ∧ ∀ H, EP4 14 [.str s, .int .i64 (i : Int)] H = some (.val v H) :=
  uo_form_ex (X := X) (D := OD2) (O := OF4) (S := PS) (al := [.str s, .int .i64 (i : Int)]) e14 xf14 rfl rfl rfl (Q := fun v => OneOk i (tokF (s.drop i)) v) (one_walk s hl i hi)
end T
