import Derived.Test.YtpndehigidcchaaGreatDoorLxX
set_option linter.all false
set_option linter.unusedVariables false
set_option linter.unusedSimpArgs false
set_option maxRecDepth 10000
namespace T
open Go Go.Aes Go.Proofs
theorem up34 {g : Nat} {al : List AV} {H : AH} {r : Res} (h : EP3 g al H = some r) : EP4 g al H = some r := evO_sub OF3_4 _ _ _ _ h
theorem ep48t {H : AH} [IsFn H] {b : Nat} {s : Str} {a v : AV} (h : Bd H b s a v) (hl : s.length < 100000000000) : ∃ H' H'', EP 35 [.ptr b 0] H = some (.val (.str s) H') ∧ EP 35 [.ptr b 0] H' = some (.val (.str s) H'') := by
  have e : ∀ H, OF2 35 [.ptr b 0] H = oStr [.ptr b 0] H := fun _ => rfl
  rcases h.row with ⟨rfl, rfl⟩ | ⟨hne, j, rfl, hg⟩
  · have : EP 35 [.ptr b 0] H = some (.val (.str []) H) := by
      refine evO_O rfl ?_
      rw [e]
      simp only [oStr, h.get]
      rfl
    exact ⟨H, H, this, this⟩
  · have h1 : s.length.beq 0 = false := by cases s with
      | nil => exact absurd rfl hne
      | cons b s => rfl
    have h2 : s.length.ble (bys s).length = true := by rw [bys_len]; simp
    have h3 : s.length.ble 9223372036854775807 = true := by rw [Nat.ble_eq]; omega
    have h4 : (bys s).take s.length = bys s := List.take_of_length_le (by rw [bys_len]; omega)
    have key : ∀ (H : AH) (kk : Nat), IsFn H → H.get b = some (.obj 60 0 [a, .hsl j 0 s.length s.length 1 true]) → H.get j = some (.obj 5 kk (bys s)) →
        EP 35 [.ptr b 0] H = some (.val (.str s) (H.set j (some (.obj 5 2 (bys s))))) := by
      intro H kk _ hb hg
      refine evO_O rfl ?_
      rw [e]
      simp only [oStr, hb, hg, h1, h2, h3, okI_i (lt_i hg), h4, bytesK_bys, Nat.beq_refl]
      rfl
    have hlt := lt_i hg
    have hbj : b ≠ j := by
      rintro rfl
      rw [h.get] at hg
      cases hg
    refine ⟨_, _, key H 1 inferInstance h.get hg, key _ 2 inferInstance ?_ ?_⟩
    · rw [get_set_i hlt, if_neg hbj]; exact h.get
    · rw [get_set_i hlt, if_pos rfl]
def blkR (o : Option (Str × Nat)) : AV := match o with
  | some q => .tup [.str q.1, .int .i64 (q.2 : Int)]
  | none => .tup [.str [], .int .i64 0]
set_option maxHeartbeats 1000000 in
theorem block_walk (s : Str) (hl : s.length < 800000) : c21 EP4 [.str s] H0 (fun v _ => v.kill = blkR (blockT s)) := by
  have nb : ∀ k : AV → AH → Prop, qNew (.obj 60 0 z60) .ptr H0 k = k (.ptr H0.nx 0) (H0.push (.obj 60 0 [.nilp, .sl [] .nil])) := fun k => by rw [qNew_i]; rfl
  have hb0 : Bd (H0.push (.obj 60 0 [.nilp, .sl [] .nil])) H0.nx [] .nilp (.sl [] .nil) := ⟨get_push_at _, .inl rfl, .inl ⟨rfl, rfl⟩⟩
  have hif : IsFn (H0.push (.obj 60 0 [.nilp, .sl [] .nil])) := inferInstance
  simp -implicitDefEqProofs only [c21, r21_0, r21_1, r21_2, opn_z, opn_s, qFn_eq, qBl_eq, nb]
  generalize H0.nx = b at *
  generalize H0.push (.obj 60 0 [.nilp, .sl [] .nil]) = H1 at *
  refine loop_inv (fun m fr H' => ∃ (i : Nat) (t : Str) (a v : AV) (x6 x10 x20 x26 x31 : AV), m = s.length - i ∧ 3 ≤ i ∧ t.length ≤ i ∧ i < 1000000 ∧ fr = [.str s, .str [], .int .i64 0, .ptr b 0, .int .i64 (i : Int), x6, x10, x20, x26, x31] ∧ IsFn H' ∧ Bd H' b t a v ∧
    bkF (s.drop 3) = (bkF (s.drop i)).map (fun q => (t ++ q.1, q.2 + (i - 3)))) ?_ (m := s.length - 3) ?_
  case refine_2 => exact ⟨3, [], _, _, _, _, _, _, _, rfl, by omega, by simp, by omega, rfl, hif, hb0, by simp⟩
  rintro m fr H' k ⟨i, t, a, v, x6, x10, x20, x26, x31, rfl, hi3, hti, hi6, rfl, hf, hb, hn⟩ hk
  by_cases h : i < s.length
  · have c1 : (i : Int) < (s.length : Int) := by omega
    have hc : s[i]? = some s[i] := List.getElem?_eq_getElem h
    have hx := fun k => qIx_at s i s[i] hc k
    have hd : s.drop i = s[i] :: s.drop (i + 1) := List.drop_eq_getElem_cons h
    have sl := fun k => slcS_lo s i (by omega) k
    have p4 := fun H => up4 (ep82 (s.drop i) [92, 34, 34, 34] H)
    have p3 := fun H => up4 (ep82 (s.drop i) [34, 34, 34] H)
    have hbk := bkF_cons s[i] (s.drop (i + 1))
    rw [← hd] at hbk
    cases h4 : hp (s.drop i) [92, 34, 34, 34] with
    | true =>
      rw [h4] at p4
      rw [if_pos h4] at hbk
      have hle := hp_le h4
      rw [List.length_drop] at hle
      simp only [List.length_cons, List.length_nil] at hle
      obtain ⟨H2, w, a', v', e, hb2, hf2, _, _⟩ := wr53 b [34, 34, 34] H' t a v hb (by simp; omega)
      have e' := up4 e
      have hw : IntKind.i64.wrap ((i : Int) + 4) = ((i + 4 : Nat) : Int) := by rw [i64_in' (by omega)]; omega
      simp -implicitDefEqProofs only [l21_8, r21_3, r21_4, r21_7, r21_8, r21_9, opn_z, opn_s, sel_z, sel_s, qCd_eq, qIf_true, qBl_eq, qRes_val, qLss_int, qAdd_int, qLenS_str, AV.kill, AV.kills, c1, decide_true, sl, p4, e', hw]
      refine hk (s.length - (i + 4)) _ _ (by omega) ⟨i + 4, t ++ [34, 34, 34], a', v', _, _, _, _, _, rfl, by omega, by simp; omega, by omega, rfl, hf2, hb2, ?_⟩
      rw [hn, hbk, List.drop_drop, show i + 1 + 3 = i + 4 by omega, Option.map_map]
      congr 1
      funext q
      simp only [Function.comp, List.append_assoc, List.cons_append, List.nil_append, Prod.mk.injEq, true_and]
      omega
    | false =>
      rw [h4] at p4
      rw [if_neg (by rw [h4]; simp)] at hbk
      cases h3 : hp (s.drop i) [34, 34, 34] with
      | true =>
        rw [h3] at p3
        rw [if_pos h3] at hbk
        have hle := hp_le h3
        rw [List.length_drop] at hle
        simp only [List.length_cons, List.length_nil] at hle
        have hT : blockT s = if rawB t then some (blockF t, i + 3) else none := by
          unfold blockT
          rw [hn, hbk]
          simp only [Option.map_some, List.append_nil]
          rw [show 3 + (i - 3) + 3 = i + 3 by omega]
        obtain ⟨H2, H3, e1, e2⟩ := ep48t hb (by omega)
        have e1' := up4 e1
        have e2' := up4 e2
        have er := fun H => up4 (epRaw t (by omega) H)
        rw [hT]
        cases hr : rawB t with
        | true =>
          rw [hr] at er
          have eb := fun H => ep38s t (by omega) H
          have hw : IntKind.i64.wrap ((i : Int) + 3) = ((i + 3 : Nat) : Int) := by rw [i64_in' (by omega)]; omega
          simp -implicitDefEqProofs only [l21_8, r21_3, r21_4, r21_7, r21_10, r21_11, r21_13, opn_z, opn_s, sel_z, sel_s, qCd_eq, qIf_true, qIf_false, qBl_eq, qRes_val, qNot_bool, qLss_int, qAdd_int, qLenS_str, AV.kill, AV.kills, c1, decide_true, sl, p4, p3, e1', er, Bool.not_true, e2', eb, hw]
          rfl
        | false =>
          rw [hr] at er
          simp -implicitDefEqProofs only [l21_8, r21_3, r21_4, r21_7, r21_10, r21_11, r21_12, opn_z, opn_s, sel_z, sel_s, qCd_eq, qIf_true, qIf_false, qBl_eq, qRes_val, qNot_bool, qLss_int, qLenS_str, AV.kill, AV.kills, c1, decide_true, sl, p4, p3, e1', er, Bool.not_false]
          rfl
      | false =>
        rw [h3] at p3
        rw [if_neg (by rw [h3]; simp)] at hbk
        obtain ⟨H2, w, a', v', e, hb2, hf2, _, _⟩ := wr51 b s[i] H' t a v hb (by simp; omega)
        have e' := up4 e
        have hw : IntKind.i64.wrap ((i : Int) + 1) = ((i + 1 : Nat) : Int) := by rw [i64_in' (by omega)]; omega
        simp -implicitDefEqProofs only [l21_8, r21_3, r21_4, r21_7, r21_10, r21_5, r21_6, opn_z, opn_s, sel_z, sel_s, qCd_eq, qIf_true, qIf_false, qBl_eq, qRes_val, qLss_int, qAdd_int, qLenS_str, AV.kill, AV.kills, c1, decide_true, sl, p4, p3, hx, e', hw]
        refine hk (s.length - (i + 1)) _ _ (by omega) ⟨i + 1, t ++ [s[i]], a', v', _, _, _, _, _, rfl, by omega, by simp; omega, by omega, rfl, hf2, hb2, ?_⟩
        rw [hn, hbk, Option.map_map]
        congr 1
        funext q
        simp only [Function.comp, List.append_assoc, List.cons_append, List.nil_append, Prod.mk.injEq, true_and]
        omega
  · have c1 : ¬ (i : Int) < (s.length : Int) := by omega
    have hT : blockT s = none := by
      unfold blockT
      rw [hn, List.drop_eq_nil_of_le (by omega)]
      rfl
    rw [hT]
    simp -implicitDefEqProofs only [l21_8, r21_3, r21_14, opn_z, opn_s, sel_z, sel_s, qCd_eq, qIf_false, qBl_eq, qLss_int, qLenS_str, AV.kill, AV.kills, c1, decide_false]
    rfl
theorem blkR_free (o : Option (Str × Nat)) : (blkR o).free = true := by cases o <;> rfl
theorem epBlock (s : Str) (hl : s.length < 800000) (H : AH) : EP4 21 [.str s] H = some (.val (blkR (blockT s)) H) :=
  uo_form (X := X) (D := OD2) (O := OF4) (S := PS) (al := [.str s]) e21 xf21 rfl rfl rfl (blkR_free _) (block_walk s hl) H
theorem linF_cons (b : UInt8) (r : Str) : linF (b :: r) = if b = 34 then some 0 else if b = 92 then (match r with
    | [] => none
    | _ :: t => (linF t).map (· + 2)) else (linF r).map (· + 1) := by
  conv => lhs; unfold linF
  cases r <;> rfl
set_option maxHeartbeats 1000000 in
theorem line_walk (s : Str) (hl : s.length < 800000) : c22 EP4 [.str s] H0 (fun v _ => v.kill = blkR (lineT s)) := by
  simp -implicitDefEqProofs only [c22, r22_0, r22_1, opn_z, opn_s, qFn_eq, qBl_eq]
  refine loop_inv (fun m fr H' => ∃ (i : Nat) (x5 x6 x16 x20 x34 x44 : AV), m = s.length - i ∧ 1 ≤ i ∧ i < 1000000 ∧ fr = [.str s, .str [], .int .i64 0, .int .i64 (i : Int), x5, x6, x16, x20, x34, x44] ∧
    linF (s.drop 1) = (linF (s.drop i)).map (· + (i - 1))) ?_ (m := s.length - 1) ?_
  case refine_2 => exact ⟨1, _, _, _, _, _, _, rfl, by omega, by omega, rfl, by simp⟩
  rintro m fr H' k ⟨i, x5, x6, x16, x20, x34, x44, rfl, hi1, hi6, rfl, hn⟩ hk
  by_cases h : i < s.length
  · have c1 : (i : Int) < (s.length : Int) := by omega
    have hc : s[i]? = some s[i] := List.getElem?_eq_getElem h
    have hx := fun k => qIx_at s i s[i] hc k
    have hd : s.drop i = s[i] :: s.drop (i + 1) := List.drop_eq_getElem_cons h
    have h34 : (((s[i].toNat : Nat) : Int) == 34) = decide (s[i] = 34) := u8_ne _ 34 (by decide)
    have h92 : (((s[i].toNat : Nat) : Int) == 92) = decide (s[i] = 92) := u8_ne _ 92 (by decide)
    rw [hd, linF_cons] at hn
    by_cases k1 : s[i] = 34
    · rw [decide_eq_true k1] at h34
      rw [if_pos k1] at hn
      have c1003 : ¬ (i : Int) ≥ (s.length : Int) := by omega
      have sl := fun k => slcS_hi s i (by omega) k
      have ec := fun H => up4 (epContains (s.take i) (by rw [List.length_take]; omega) H)
      have hT : lineT s = if crlf (s.take i) then none else (uqF (s.take (i + 1))).map fun t => (t, i + 1) := by
        unfold lineT
        rw [hn]
        simp only [Option.map_some]
        rw [show 0 + (i - 1) + 1 = i by omega, show 0 + (i - 1) + 2 = i + 1 by omega]
      rw [hT]
      cases hcr : crlf (s.take i) with
      | true =>
        rw [hcr] at ec
        simp -implicitDefEqProofs only [l22_7, r22_2, r22_6, r22_7, opn_z, opn_s, sel_z, sel_s, qCd_eq, qIf_true, qIf_false, qBl_eq, qRes_val, qPick_true, qPick_false, qG_tt, qG_ff, qLss_int, qGeq_int, qNeq_int, qLenS_str, AV.kill, AV.kills, c1, c1003, decide_true, decide_false, hx, h34, Bool.not_true, sl, ec]
        rfl
      | false =>
        rw [hcr] at ec
        have hw : IntKind.i64.wrap ((i : Int) + 1) = ((i + 1 : Nat) : Int) := by rw [i64_in' (by omega)]; omega
        have sl2 := fun k => slcS_hi s (i + 1) (by omega) k
        have eu := fun H => up34 (ep31 (s.take (i + 1)) (by rw [List.length_take]; omega) H)
        cases hu : uqF (s.take (i + 1)) with
        | none =>
          rw [hu] at eu
          simp only [uqR] at eu
          simp -implicitDefEqProofs only [l22_7, r22_2, r22_6, r22_8, r22_9, r22_10, opn_z, opn_s, sel_z, sel_s, qCd_eq, qIf_true, qIf_false, qBl_eq, qO_some, qRes_val, qPick_true, qPick_false, qG_tt, qG_ff, qNot_bool, qExt_tup, qLss_int, qGeq_int, qNeq_int, qAdd_int, qLenS_str, List.getElem?_cons_zero, List.getElem?_cons_succ, AV.kill, AV.kills, c1, c1003, decide_true, decide_false, hx, h34, Bool.not_true, sl, ec, hw, sl2, eu, Bool.not_false]
          rfl
        | some t =>
          rw [hu] at eu
          simp only [uqR] at eu
          simp -implicitDefEqProofs only [l22_7, r22_2, r22_6, r22_8, r22_9, r22_11, opn_z, opn_s, sel_z, sel_s, qCd_eq, qIf_false, qBl_eq, qO_some, qRes_val, qPick_true, qPick_false, qG_tt, qG_ff, qNot_bool, qExt_tup, qLss_int, qGeq_int, qNeq_int, qAdd_int, qLenS_str, List.getElem?_cons_zero, List.getElem?_cons_succ, AV.kill, AV.kills, c1, c1003, decide_true, decide_false, hx, h34, Bool.not_true, sl, ec, hw, sl2, eu]
          rfl
    · rw [decide_eq_false k1] at h34
      rw [if_neg k1] at hn
      have hw : IntKind.i64.wrap ((i : Int) + 1) = ((i + 1 : Nat) : Int) := by rw [i64_in' (by omega)]; omega
      have hw2 : IntKind.i64.wrap (((i + 1 : Nat) : Int) + 1) = ((i + 2 : Nat) : Int) := by rw [i64_in' (by omega)]; omega
      by_cases k2 : s[i] = 92
      · rw [decide_eq_true k2] at h92
        rw [if_pos k2] at hn
        simp -implicitDefEqProofs only [l22_7, r22_2, r22_3, r22_4, r22_5, opn_z, opn_s, sel_z, sel_s, qCd_eq, qIf_true, qBl_eq, qPick_true, qG_tt, qLss_int, qEql_int, qNeq_int, qAdd_int, qLenS_str, AV.kill, AV.kills, c1, decide_true, hx, h34, h92, Bool.not_false, hw, hw2]
        refine hk (s.length - (i + 2)) _ _ (by omega) ⟨i + 2, _, _, _, _, _, _, rfl, by omega, by omega, rfl, ?_⟩
        by_cases h2 : i + 1 < s.length
        · have hd2 : s.drop (i + 1) = s[i + 1] :: s.drop (i + 1 + 1) := List.drop_eq_getElem_cons h2
          rw [hd2] at hn
          simp only at hn
          rw [hn, Option.map_map, show i + 2 = i + 1 + 1 by omega]
          congr 1
          funext q
          simp only [Function.comp]
          omega
        · rw [List.drop_eq_nil_of_le (show s.length ≤ i + 1 by omega)] at hn
          rw [hn, List.drop_eq_nil_of_le (show s.length ≤ i + 2 by omega)]
          rfl
      · rw [decide_eq_false k2] at h92
        rw [if_neg k2] at hn
        simp -implicitDefEqProofs only [l22_7, r22_2, r22_3, r22_5, opn_z, opn_s, sel_z, sel_s, qCd_eq, qIf_true, qIf_false, qBl_eq, qPick_true, qG_tt, qLss_int, qEql_int, qNeq_int, qAdd_int, qLenS_str, AV.kill, AV.kills, c1, decide_true, hx, h34, h92, Bool.not_false, hw]
        refine hk (s.length - (i + 1)) _ _ (by omega) ⟨i + 1, _, _, _, _, _, _, rfl, by omega, by omega, rfl, ?_⟩
        rw [hn, Option.map_map]
        congr 1
        funext q
        simp only [Function.comp]
        omega
  · have c1 : ¬ (i : Int) < (s.length : Int) := by omega
    have c1003 : (i : Int) ≥ (s.length : Int) := by omega
    have hT : lineT s = none := by
      unfold lineT
      rw [hn, List.drop_eq_nil_of_le (by omega)]
      rfl
    rw [hT]
    simp -implicitDefEqProofs only [l22_7, r22_2, r22_6, r22_7, opn_z, opn_s, sel_z, sel_s, qCd_eq, qIf_true, qIf_false, qBl_eq, qPick_true, qPick_false, qG_tf, qG_ft, qLss_int, qGeq_int, qLenS_str, AV.kill, AV.kills, c1, c1003, decide_true, decide_false]
    rfl
theorem epLine (s : Str) (hl : s.length < 800000) (H : AH) : EP4 22 [.str s] H = some (.val (blkR (lineT s)) H) :=
  uo_form (X := X) (D := OD2) (O := OF4) (S := PS) (al := [.str s]) e22 xf22 rfl rfl rfl (blkR_free _) (line_walk s hl) H
end T
set_option linter.unusedVariables false
set_option linter.unusedSimpArgs false
set_option maxRecDepth 10000
namespace T
open Go Go.Aes Go.Proofs
def TokOk (o : Option Tok) (v : AV) : Prop := match o with
  | some q => v = .tup [.agg [.int .i64 (q.1 : Int), .str q.2.1, .int .i64 0], .int .i64 (q.2.2 : Int)]
  | none => ∃ k : Int, v = .tup [.agg [.int .i64 k, .str [], .int .i64 0], .int .i64 0]
theorem bld0 (k : AV → Prop) : qBld z37 [] k = k (.agg [.int .i64 0, .str [], .int .i64 0]) := rfl
theorem bld2 (n : Int) (t : Str) (k : AV → Prop) : qBld z37 [(0, 1, .int .i64 n), (1, 1, .str t)] k = k (.agg [.int .i64 n, .str t, .int .i64 0]) := rfl
theorem tokF_at {s : Str} {c : UInt8} (h : s[0]? = some c) : tokF s = 
    if (isD c || decide (c = 45)) = true then
      if (num (s.take (spn lxN s))).2 then some (if (num (s.take (spn lxN s))).1 then 2 else 3, s.take (spn lxN s), spn lxN s) else none
    else if lxL c = true then
      if 40 < spn lxL s then none else some (1, s.take (spn lxL s), spn lxL s)
    else if hp s [34, 34, 34] = true then (blockT s).map fun q => (4, q.1, q.2)
    else if c = 34 then (lineT s).map fun q => (4, q.1, q.2)
    else if hp s [46, 46, 46] = true then some (5, [46, 46, 46], 3)
    else if lxS c = true then some (5, [c], 1) else none := by
  cases s with
  | nil => cases h
  | cons d r =>
    obtain rfl : d = c := by simpa using h
    rfl
set_option maxHeartbeats 2000000 in
theorem epTok (s : Str) (c : UInt8) (hs : s[0]? = some c) (hl : s.length < 800000) : ∃ v, TokOk (tokF s) v ∧ ∀ H, EP4 13 [.str s] H = some (.val v H) := by
  refine uo_form_ex (X := X) (D := OD2) (O := OF4) (S := PS) (al := [.str s]) e13 xf13 rfl rfl rfl (Q := fun v => TokOk (tokF s) v) ?_
  simp only [AV.kills, AV.kill]
  rw [tokF_at hs]
  have i0 : ∀ k : AV → Prop, qIx (.str s) (.int .i64 0) k = k (.int .u8 c.toNat) := fun k => qIx_at s 0 c hs k
  have hpos : 0 < s.length := by
    cases s with
    | nil => cases hs
    | cons a r => simp
  have hq : ∀ k : AV → AH → Prop, qNew (.cells z37) .ptr H0 k = k (.ptr H0.nx 0) (H0.push (.cells z37)) := fun k => by rw [qNew_i]; rfl
  have hat := get_push_at (H := H0) (.cells z37)
  have hif : IsFn (H0.push (.cells z37)) := inferInstance
  have hD := fun H => up4 (epDig c H)
  have hL := fun H => up4 (epLet c H)
  have hSN := fun H => up4 (epSpan 17 lxN epPart s (by omega) H)
  have hSL := fun H => up4 (epSpan 18 lxL epLet s (by omega) H)
  have hle1 := spn_le lxN s
  have hle2 := spn_le lxL s
  generalize H0.nx = b at *
  generalize H0.push (.cells z37) = H1 at *
  have st : ∀ (n : Int) (t : Str) (k : AV → AH → Prop), qSt 3 (.ptr b 0) (.agg [.int .i64 n, .str t, .int .i64 0]) H1 k = k Aes.undef (H1.set b (some (.cells [.int .i64 n, .str t, .int .i64 0]))) :=
    fun n t k => qSt_whole (R := Prop) (n := 3) (l := [.int .i64 n, .str t, .int .i64 0]) hat rfl rfl rfl k
  have ld : ∀ (n : Int) (t : Str) (k : AV → Prop), qLdA 3 (.ptr b 0) (H1.set b (some (.cells [.int .i64 n, .str t, .int .i64 0]))) k = k (.agg [.int .i64 n, .str t, .int .i64 0]) :=
    fun n t k => qLdA_whole (R := Prop) (n := 3) (cs := [.int .i64 n, .str t, .int .i64 0]) (by rw [get_set_i (lt_i hat), if_pos rfl]) rfl k
  have sl1 := fun k => slcS_hi s (spn lxN s) hle1 k
  have sl2 := fun k => slcS_hi s (spn lxL s) hle2 k
  have hnum := fun H => up4 (ep15 (s.take (spn lxN s)) (by rw [List.length_take]; omega) H)
  have p3 := fun H => up4 (ep82 s [34, 34, 34] H)
  have p6 := fun H => up4 (ep82 s [46, 46, 46] H)
  have hib := fun H => up4 (ep43 [33, 36, 38, 40, 41, 58, 61, 64, 91, 93, 123, 124, 125] c H)
  have hge := ge_ib [33, 36, 38, 40, 41, 58, 61, 64, 91, 93, 123, 124, 125] c
  have h45 : (((c.toNat : Nat) : Int) == 45) = decide (c = 45) := u8_ne c 45 (by decide)
  have h34 : (((c.toNat : Nat) : Int) == 34) = decide (c = 34) := u8_ne c 34 (by decide)
  have eb := fun H => epBlock s hl H
  have el := fun H => epLine s hl H
  have sl3 : ∀ k : AV → Prop, qSlc Tryz.t9.desc 0 (.str s) none (some (.int .i64 1)) none k = k (.str [c]) := fun k => by
    have := slcS_hi s 1 (by omega) k
    have e : s.take 1 = [c] := by
      cases s with
      | nil => cases hs
      | cons d r =>
        obtain rfl : d = c := by simpa using hs
        rfl
    rw [e] at this
    exact this
  have number : (isD c || decide (c = 45)) = true → ∀ x3 x5 x6 x7 x8 x9 x10 x11 x12 x15 x31 x35 x47 x53 x60 x71 x82 x86 : AV, (r13_3 EP4 (r13_4 EP4 (qBl (fun k3 => (r13_5 (qCd (sel 13) (fun _ => (r13_6 (fun fr H => qPtr (sel 1 fr) (qLdA 3 (sel 1 fr) H fun w0 => (AV.tup [w0, sel 2 fr]).kill.free = true ∧ TokOk (if (num (s.take (spn lxN s))).2 then some (if (num (s.take (spn lxN s))).1 then 2 else 3, s.take (spn lxN s), spn lxN s) else none) (AV.tup [w0, sel 2 fr]).kill)))) (fun k4 => (r13_7 (qCd (sel 14) (fun _ => (r13_8 (fun fr H => qPtr (sel 1 fr) (qLdA 3 (sel 1 fr) H fun w0 => (AV.tup [w0, sel 2 fr]).kill.free = true ∧ TokOk (if (num (s.take (spn lxN s))).2 then some (if (num (s.take (spn lxN s))).1 then 2 else 3, s.take (spn lxN s), spn lxN s) else none) (AV.tup [w0, sel 2 fr]).kill)))) (fun k5 => k5) k4))) k3))) (r13_9 (fun fr H => qPtr (sel 1 fr) (qLdA 3 (sel 1 fr) H fun w0 => (AV.tup [w0, sel 2 fr]).kill.free = true ∧ TokOk (if (num (s.take (spn lxN s))).2 then some (if (num (s.take (spn lxN s))).1 then 2 else 3, s.take (spn lxN s), spn lxN s) else none) (AV.tup [w0, sel 2 fr]).kill)))))) [.str s, .ptr b 0, x3, .int .u8 (c.toNat : Int), x5, x6, x7, x8, x9, x10, x11, x12, x15, x31, x35, x47, x53, x60, x71, x82, x86] H1 := by
    intro hc x3 x5 x6 x7 x8 x9 x10 x11 x12 x15 x31 x35 x47 x53 x60 x71 x82 x86
    cases h2 : (num (s.take (spn lxN s))).2 with
    | false =>
      rw [h2] at hnum
      simp -implicitDefEqProofs only [r13_3, r13_4, r13_5, r13_6, opn_z, opn_s, sel_z, sel_s, qCd_eq, qIf_true, qBl_eq, qO_some, qRes_val, qNot_bool, qExt_tup, List.getElem?_cons_zero, List.getElem?_cons_succ, hSN, sl1, hnum, Bool.not_false, bld0, st, qPtr_ptr, ld]
      exact ⟨rfl, 0, rfl⟩
    | true =>
      rw [h2] at hnum
      cases h1 : (num (s.take (spn lxN s))).1 with
      | true =>
        rw [h1] at hnum
        simp -implicitDefEqProofs only [r13_3, r13_4, r13_5, r13_7, r13_8, opn_z, opn_s, sel_z, sel_s, qCd_eq, qIf_true, qIf_false, qBl_eq, qO_some, qRes_val, qNot_bool, qExt_tup, List.getElem?_cons_zero, List.getElem?_cons_succ, hSN, sl1, hnum, Bool.not_true, bld2, st, qPtr_ptr, ld]
        exact ⟨rfl, rfl⟩
      | false =>
        rw [h1] at hnum
        simp -implicitDefEqProofs only [r13_3, r13_4, r13_5, r13_7, r13_9, opn_z, opn_s, sel_z, sel_s, qCd_eq, qIf_false, qBl_eq, qO_some, qRes_val, qNot_bool, qExt_tup, List.getElem?_cons_zero, List.getElem?_cons_succ, hSN, sl1, hnum, Bool.not_true, bld2, st, qPtr_ptr, ld]
        exact ⟨rfl, rfl⟩
  by_cases hd : isD c = true
  · rw [hd] at hD
    rw [if_pos (by rw [hd]; rfl)]
    simp -implicitDefEqProofs only [c13, r13_0, r13_1, r13_2, opn_z, opn_s, sel_z, sel_s, qCd_eq, qIf_true, qFn_eq, qBl_eq, qRes_val, qPick_true, qG_tf, hq, i0, hD]
    exact number (by rw [hd]; rfl) _ _ _ _ _ _ _ _ _ _ _ _ _ _ _ _ _ _
  have hd' : isD c = false := by simpa using hd
  rw [hd'] at hD
  by_cases hm : c = 45
  · rw [decide_eq_true hm] at h45
    rw [if_pos (by rw [decide_eq_true hm]; simp)]
    simp -implicitDefEqProofs only [c13, r13_0, r13_1, r13_2, opn_z, opn_s, sel_z, sel_s, qCd_eq, qIf_true, qFn_eq, qBl_eq, qRes_val, qPick_false, qG_ff, qEql_int, hq, i0, hD, h45]
    exact number (by rw [decide_eq_true hm]; simp) _ _ _ _ _ _ _ _ _ _ _ _ _ _ _ _ _ _
  rw [decide_eq_false hm] at h45
  rw [if_neg (by rw [hd', decide_eq_false hm]; simp)]
  by_cases hL' : lxL c = true
  · rw [hL'] at hL
    rw [if_pos hL']
    by_cases h40 : 40 < spn lxL s
    · have c1 : ((spn lxL s : Nat) : Int) > 40 := by omega
      rw [if_pos h40]
      simp -implicitDefEqProofs only [c13, r13_0, r13_1, r13_2, r13_10, r13_11, r13_12, r13_13, opn_z, opn_s, sel_z, sel_s, qCd_eq, qIf_true, qIf_false, qFn_eq, qBl_eq, qRes_val, qPick_false, qG_ff, qGtr_int, qEql_int, hq, i0, hD, h45, hL, hSL, c1, decide_true, bld0, st, qPtr_ptr, ld]
      exact ⟨rfl, 0, rfl⟩
    · have c1 : ¬ ((spn lxL s : Nat) : Int) > 40 := by omega
      rw [if_neg h40]
      simp -implicitDefEqProofs only [c13, r13_0, r13_1, r13_2, r13_10, r13_11, r13_12, r13_14, opn_z, opn_s, sel_z, sel_s, qCd_eq, qIf_true, qIf_false, qFn_eq, qBl_eq, qRes_val, qPick_false, qG_ff, qGtr_int, qEql_int, hq, i0, hD, h45, hL, hSL, c1, decide_false, sl2, bld2, st, qPtr_ptr, ld]
      exact ⟨rfl, rfl⟩
  have hL2 : lxL c = false := by simpa using hL'
  rw [hL2] at hL
  rw [if_neg hL']
  cases h3 : hp s [34, 34, 34] with
  | true =>
    rw [h3] at p3
    rw [if_pos rfl]
    cases hb : blockT s with
    | none =>
      rw [hb] at eb
      simp only [blkR] at eb
      simp -implicitDefEqProofs only [c13, r13_0, r13_1, r13_2, r13_10, r13_15, r13_16, r13_17, opn_z, opn_s, sel_z, sel_s, qCd_eq, qIf_true, qIf_false, qFn_eq, qBl_eq, qO_some, qRes_val, qPick_false, qG_ff, qExt_tup, qEql_int, List.getElem?_cons_zero, List.getElem?_cons_succ, hq, i0, hD, h45, hL, p3, eb, bld2, st, qPtr_ptr, ld]
      exact ⟨rfl, 4, rfl⟩
    | some q =>
      rw [hb] at eb
      simp only [blkR] at eb
      simp -implicitDefEqProofs only [c13, r13_0, r13_1, r13_2, r13_10, r13_15, r13_16, r13_17, opn_z, opn_s, sel_z, sel_s, qCd_eq, qIf_true, qIf_false, qFn_eq, qBl_eq, qO_some, qRes_val, qPick_false, qG_ff, qExt_tup, qEql_int, List.getElem?_cons_zero, List.getElem?_cons_succ, hq, i0, hD, h45, hL, p3, eb, bld2, st, qPtr_ptr, ld]
      exact ⟨rfl, rfl⟩
  | false =>
    rw [h3] at p3
    rw [if_neg (by simp)]
    by_cases k34 : c = 34
    · rw [decide_eq_true k34] at h34
      rw [if_pos k34]
      cases hb : lineT s with
      | none =>
        rw [hb] at el
        simp only [blkR] at el
        simp -implicitDefEqProofs only [c13, r13_0, r13_1, r13_2, r13_10, r13_15, r13_18, r13_19, r13_20, opn_z, opn_s, sel_z, sel_s, qCd_eq, qIf_true, qIf_false, qFn_eq, qBl_eq, qO_some, qRes_val, qPick_false, qG_ff, qExt_tup, qEql_int, List.getElem?_cons_zero, List.getElem?_cons_succ, hq, i0, hD, h45, hL, p3, h34, el, bld2, st, qPtr_ptr, ld]
        exact ⟨rfl, 4, rfl⟩
      | some q =>
        rw [hb] at el
        simp only [blkR] at el
        simp -implicitDefEqProofs only [c13, r13_0, r13_1, r13_2, r13_10, r13_15, r13_18, r13_19, r13_20, opn_z, opn_s, sel_z, sel_s, qCd_eq, qIf_true, qIf_false, qFn_eq, qBl_eq, qO_some, qRes_val, qPick_false, qG_ff, qExt_tup, qEql_int, List.getElem?_cons_zero, List.getElem?_cons_succ, hq, i0, hD, h45, hL, p3, h34, el, bld2, st, qPtr_ptr, ld]
        exact ⟨rfl, rfl⟩
    · rw [decide_eq_false k34] at h34
      rw [if_neg k34]
      cases h6 : hp s [46, 46, 46] with
      | true =>
        rw [h6] at p6
        rw [if_pos rfl]
        simp -implicitDefEqProofs only [c13, r13_0, r13_1, r13_2, r13_10, r13_15, r13_18, r13_21, r13_22, opn_z, opn_s, sel_z, sel_s, qCd_eq, qIf_true, qIf_false, qFn_eq, qBl_eq, qRes_val, qPick_false, qG_ff, qEql_int, hq, i0, hD, h45, hL, p3, h34, p6, bld2, st, qPtr_ptr, ld]
        exact ⟨rfl, rfl⟩
      | false =>
        rw [h6] at p6
        rw [if_neg (by simp)]
        have hS : ([33, 36, 38, 40, 41, 58, 61, 64, 91, 93, 123, 124, 125] : Str).contains c = lxS c := rfl
        rw [hS] at hge
        cases h7 : lxS c with
        | true =>
          rw [h7] at hge
          rw [if_pos rfl]
          simp -implicitDefEqProofs only [c13, r13_0, r13_1, r13_2, r13_10, r13_15, r13_18, r13_21, r13_23, r13_24, opn_z, opn_s, sel_z, sel_s, qCd_eq, qIf_true, qIf_false, qFn_eq, qBl_eq, qRes_val, qPick_false, qG_ff, qEql_int, hq, i0, hD, h45, hL, p3, h34, p6, hib, hge, sl3, bld2, st, qPtr_ptr, ld]
          exact ⟨rfl, rfl⟩
        | false =>
          rw [h7] at hge
          rw [if_neg (by simp)]
          simp -implicitDefEqProofs only [c13, r13_0, r13_1, r13_2, r13_10, r13_15, r13_18, r13_21, r13_23, r13_25, opn_z, opn_s, sel_z, sel_s, qCd_eq, qIf_false, qFn_eq, qBl_eq, qRes_val, qPick_false, qG_ff, qEql_int, hq, i0, hD, h45, hL, p3, h34, p6, hib, hge, bld0, st, qPtr_ptr, ld]
          exact ⟨rfl, 0, rfl⟩
end T
set_option linter.unusedVariables false
set_option linter.unusedSimpArgs false
set_option maxRecDepth 10000
namespace T
open Go Go.Aes Go.Proofs
def tokR (q : Tok) : List AV := [.int .i64 (q.1 : Int), .str q.2.1, .int .i64 (q.2.2 : Int)]
def AllOk (s : Str) (v : AV) (H : AH) : Prop :=
  if 8000 < s.length then v = .tup [.sl [] .nil, .int .i64 0, .int .i64 3] else match lexF s 0 with
  | .inl e => v = .tup [.sl [] .nil, .int .i64 (e : Int), .int .i64 2]
  | .inr l => ∃ lv, v = .tup [lv, .int .i64 0, .int .i64 0] ∧ Ow H lv (l.map tokR)
def preL (acc : List Tok) (r : Nat ⊕ List Tok) : Nat ⊕ List Tok := match r with
  | .inl e => .inl e
  | .inr l => .inr (acc ++ l)
theorem rows30 (a : Int) (t : Str) (c : Int) (k : AV → Prop) : qRows z37 1 [(0, .agg [.int .i64 a, .str t, .int .i64 c])] k = k (.sl [[.int .i64 a, .str t, .int .i64 c]] .full) := rfl
theorem tokR_len (l : List Tok) : ∀ x ∈ l.map tokR, x.length = 3 := by
  intro x hx
  obtain ⟨q, _, rfl⟩ := List.mem_map.1 hx
  rfl
theorem preL_nil (r : Nat ⊕ List Tok) : preL [] r = r := by cases r <;> rfl
set_option maxHeartbeats 2000000 in
theorem all_walk (s : Str) {H : AH} [hfn : IsFn H] : c6 EP4 [.str s] H (fun v H' => Kp H H' (fun _ => False) ∧ AllOk s v H') := by
  by_cases h8 : 8000 < s.length
  · have c1 : (s.length : Int) > 8000 := by omega
    simp -implicitDefEqProofs only [c6, r6_0, r6_1, r6_2, opn_z, opn_s, sel_z, sel_s, qCd_eq, qIf_true, qFn_eq, qBl_eq, qGtr_int, qLenS_str, c1, decide_true]
    exact ⟨.refl _, by unfold AllOk; rw [if_pos h8]⟩
  have c1 : ¬ (s.length : Int) > 8000 := by omega
  simp -implicitDefEqProofs only [c6, r6_0, r6_1, r6_3, r6_4, opn_z, opn_s, sel_z, sel_s, qCd_eq, qIf_false, qFn_eq, qBl_eq, qGtr_int, qLenS_str, c1, decide_false]
  refine loop_inv (fun m fr H' => ∃ (i : Nat) (acc : List Tok) (lv : AV) (x2 x3 x4 x7 x8 x9 x12 x16 x20 x28 x43 : AV), m = s.length - i ∧ i ≤ s.length ∧ acc.length ≤ i ∧ fr = [.str s, x2, x3, x4, lv, .int .i64 (i : Int), x7, x8, x9, x12, x16, x20, x28, x43] ∧ Kp H H' (fun _ => False) ∧
    Ow H' lv (acc.map tokR) ∧ (∀ j, tkOf lv j → H.nx ≤ j) ∧ lexF s 0 = preL acc (lexF (s.drop i) i)) ?_ (m := s.length) ?_
  case refine_2 => exact ⟨0, [], .sl [] .nil, _, _, _, _, _, _, _, _, _, _, _, rfl, by omega, by simp, rfl, .refl _, .nil, (fun j hj => by obtain ⟨r, hj⟩ := hj; injection hj with _ hj; cases hj), (by rw [preL_nil]; rfl)⟩
  rintro m fr H' k ⟨i, acc, lv, x2, x3, x4, x7, x8, x9, x12, x16, x20, x28, x43, rfl, hi, hacc, rfl, hkp, how, htk, hlex⟩ hk
  haveI := hkp.fn
  by_cases h : i < s.length
  · have c2 : (i : Int) < (s.length : Int) := by omega
    have hc : s[i]? = some s[i] := List.getElem?_eq_getElem h
    have hx := fun k => qIx_at s i s[i] hc k
    have hd : s.drop i = s[i] :: s.drop (i + 1) := List.drop_eq_getElem_cons h
    have sl := fun k => slcS_lo s i (by omega) k
    have hib := fun H => up4 (ep43 [32, 9, 10, 13, 44] s[i] H)
    have hge := ge_ib [32, 9, 10, 13, 44] s[i]
    have h35 : (((s[i].toNat : Nat) : Int) == 35) = decide (s[i] = 35) := u8_ne _ 35 (by decide)
    have hB : ([32, 9, 10, 13, 44] : Str).contains s[i] = lxB s[i] := rfl
    rw [hB] at hge
    rw [hd, lexF_cons] at hlex
    cases hb : lxB s[i] with
    | true =>
      rw [hb] at hge
      rw [if_pos hb] at hlex
      have hw : IntKind.i64.wrap ((i : Int) + 1) = ((i + 1 : Nat) : Int) := by rw [i64_in' (by omega)]; omega
      simp -implicitDefEqProofs only [l6_8, r6_5, r6_6, r6_7, r6_8, opn_z, opn_s, sel_z, sel_s, qCd_eq, qIf_true, qBl_eq, qRes_val, qLss_int, qAdd_int, qLenS_str, c2, decide_true, sl, hx, hib, hge, hw]
      exact hk (s.length - (i + 1)) _ _ (by omega) ⟨i + 1, acc, lv, _, _, _, _, _, _, _, _, _, _, _, rfl, by omega, by omega, rfl, hkp, how, htk, hlex⟩
    | false =>
      rw [hb] at hge
      rw [if_neg (by rw [hb]; simp)] at hlex
      by_cases k35 : s[i] = 35
      · rw [decide_eq_true k35] at h35
        rw [if_pos k35] at hlex
        have hsp := fun H => up4 (epSpan 12 lxH epHash (s.drop i) (by rw [List.length_drop]; omega) H)
        have hn : spn lxH (s.drop i) = spn lxH (s.drop (i + 1)) + 1 := by
          rw [hd, spn_cons, if_pos (by rw [k35]; decide)]
        have hle := spn_le lxH (s.drop i)
        rw [List.length_drop] at hle
        have hw : IntKind.i64.wrap ((i : Int) + ((spn lxH (s.drop i) : Nat) : Int)) = ((i + spn lxH (s.drop i) : Nat) : Int) := by rw [i64_in' (by omega)]; omega
        simp -implicitDefEqProofs only [l6_8, r6_5, r6_6, r6_7, r6_9, r6_10, opn_z, opn_s, sel_z, sel_s, qCd_eq, qIf_true, qIf_false, qBl_eq, qRes_val, qLss_int, qEql_int, qAdd_int, qLenS_str, c2, decide_true, sl, hx, hib, hge, h35, hsp, hw]
        refine hk (s.length - (i + spn lxH (s.drop i))) _ _ (by omega) ⟨i + spn lxH (s.drop i), acc, lv, _, _, _, _, _, _, _, _, _, _, _, rfl, by omega, by omega, rfl, hkp, how, htk, ?_⟩
        rw [hlex, List.drop_drop, hn, show i + 1 + spn lxH (s.drop (i + 1)) = i + (spn lxH (s.drop (i + 1)) + 1) by omega]
      · rw [decide_eq_false k35] at h35
        rw [if_neg k35] at hlex
        obtain ⟨tv, htv, et⟩ := epTok (s.drop i) s[i] (by rw [hd]; rfl) (by rw [List.length_drop]; omega)
        rw [← hd] at hlex
        cases ht : tokF (s.drop i) with
        | none =>
          rw [ht] at htv hlex
          obtain ⟨kk, rfl⟩ := htv
          obtain ⟨q, Ha, Hb, x1, x2, x3, x4, x5, x6⟩ := boxK (R := Prop) (Hs := H') (H := H') (.refl _) z37 [.int .i64 kk, .str [], .int .i64 0] (n := 3) rfl rfl rfl
          have c0 : ((0 : Int) == 0) = true := rfl
          simp -implicitDefEqProofs only [l6_8, r6_5, r6_6, r6_7, r6_9, r6_11, r6_12, r6_13, opn_z, opn_s, sel_z, sel_s, qCd_eq, qIf_true, qIf_false, qBl_eq, qO_some, qRes_val, qExt_tup, qLss_int, qEql_int, qLenS_str, List.getElem?_cons_zero, List.getElem?_cons_succ, c2, decide_true, sl, hx, hib, hge, h35, et, x1, x2, c0]
          refine ⟨hkp.trans x5 (fun _ _ h => h), ?_⟩
          unfold AllOk
          rw [if_neg h8, hlex]
          rfl
        | some p =>
          rw [ht] at htv hlex
          have hv : tv = .tup [.agg [.int .i64 (p.1 : Int), .str p.2.1, .int .i64 0], .int .i64 (p.2.2 : Int)] := htv
          subst hv
          have hpl := tokF_le (show tokF (s[i] :: s.drop (i + 1)) = some p by rw [← hd]; exact ht)
          rw [← hd, List.length_drop] at hpl
          obtain ⟨q, Ha, Hb, x1, x2, x3, x4, x5, x6⟩ := boxK (R := Prop) (Hs := H') (H := H') (.refl _) z37 [.int .i64 (p.1 : Int), .str p.2.1, .int .i64 0] (n := 3) rfl rfl rfl
          haveI := x5.fn
          have c0 : (((p.2.2 : Nat) : Int) == 0) = false := by simp; omega
          have hlt := lt_i x3
          have st := fun k => qSt_1 (R := Prop) (v := .int .i64 (i : Int)) x3 (o := 2) (by simp) rfl k
          have hgc : (Hb.set q (some (.cells [.int .i64 (p.1 : Int), .str p.2.1, .int .i64 (i : Int)]))).get q = some (.cells [.int .i64 (p.1 : Int), .str p.2.1, .int .i64 (i : Int)]) := by rw [get_set_i hlt, if_pos rfl]
          have ld := fun k => qLdA_whole (R := Prop) (n := 3) hgc rfl k
          have kp2 : Kp H' (Hb.set q (some (.cells [.int .i64 (p.1 : Int), .str p.2.1, .int .i64 (i : Int)]))) (fun _ => False) := x5.trans (Kp.set _ hlt) (fun j hj e => by have e' : j = q := e; omega)
          have hst : ([AV.int .i64 (p.1 : Int), .str p.2.1, .int .i64 0] : List AV).set 2 (.int .i64 (i : Int)) = [.int .i64 (p.1 : Int), .str p.2.1, .int .i64 (i : Int)] := rfl
          rw [hst] at st
          generalize Hb.set q (some (.cells [.int .i64 (p.1 : Int), .str p.2.1, .int .i64 (i : Int)])) = Hc at *
          haveI := kp2.fn
          have how2 : Ow Hc lv (acc.map tokR) := how.keep fun j hj => kp2.keep j (lt_i (how.tok hj)) (fun h => h)
          obtain ⟨lv', Hd, ap, how3, kp3, htk3⟩ := how2.app (n := 3) (b := 32) (tk' := .full) (r := [.int .i64 (p.1 : Int), .str p.2.1, .int .i64 (i : Int)]) rfl (by omega) (by omega) (by rw [List.length_map]; unfold most; omega) (tokR_len acc) rfl
          have hw : IntKind.i64.wrap ((i : Int) + (p.2.2 : Int)) = ((i + p.2.2 : Nat) : Int) := by rw [i64_in' (by omega)]; omega
          simp -implicitDefEqProofs only [l6_8, r6_5, r6_6, r6_7, r6_9, r6_11, r6_12, r6_14, r6_15, r6_16, opn_z, opn_s, sel_z, sel_s, qCd_eq, qIf_true, qIf_false, qBl_eq, qO_some, qRes_val, qFa_ptr, qExt_tup, qLss_int, qEql_int, qAdd_int, qLenS_str, Nat.zero_add, List.getElem?_cons_zero, List.getElem?_cons_succ, c2, decide_true, sl, hx, hib, hge, h35, et, x1, x2, c0, st, ld, rows30, ap, hw]
          refine hk (s.length - (i + p.2.2)) _ _ (by omega) ⟨i + p.2.2, acc ++ [(p.1, p.2.1, i)], lv', _, _, _, _, _, _, _, _, _, _, _, rfl, by omega, by simp; omega, rfl, ?_, by rw [List.map_append]; exact how3, fun j hj => ?_, ?_⟩
          · refine (hkp.trans kp2 (fun _ _ h => h)).trans kp3 (fun j hj e => ?_)
            have := htk j e
            omega
          · have h1 := htk3 j hj
            have h2 := kp2.nx
            have h3 := hkp.nx
            omega
          · rw [hlex]
            simp only [List.drop_drop]
            cases lexF (s.drop (i + p.2.2)) (i + p.2.2) with
            | inl e => rfl
            | inr l => simp [preL]
  · have c2 : ¬ (i : Int) < (s.length : Int) := by omega
    simp -implicitDefEqProofs only [l6_8, r6_5, r6_17, opn_z, opn_s, sel_z, sel_s, qCd_eq, qIf_false, qBl_eq, qLss_int, qLenS_str, c2, decide_false]
    refine ⟨hkp, ?_⟩
    rw [List.drop_eq_nil_of_le (by omega), lexF_nil] at hlex
    unfold AllOk
    rw [if_neg h8, hlex]
    exact ⟨lv, rfl, by rw [List.append_nil]; exact how⟩
theorem epAll (s : Str) {H : AH} [hfn : IsFn H] : ∃ v H', EP4 6 [.str s] H = some (.val v H') ∧ Kp H H' (fun _ => False) ∧ AllOk s v H' :=
  ao_form (X := X) (D := OD2) (O := OF4) (S := PS) (al := [.str s]) (H := H) e6 xf6 rfl rfl (Q := fun v H' => Kp H H' (fun _ => False) ∧ AllOk s v H') (all_walk s)
end T
