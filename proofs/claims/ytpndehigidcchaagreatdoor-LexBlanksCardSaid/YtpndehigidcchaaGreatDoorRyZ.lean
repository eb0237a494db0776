import Derived.Test.YtpndehigidcchaaGreatDoorRyX
import Derived.Test.YtpndehigidcchaaGreatDoorRvX
set_option linter.all false
set_option linter.unusedVariables false
set_option linter.unusedSimpArgs false
set_option maxRecDepth 10000
namespace T
open Go Go.Aes Go.Proofs
theorem ep68 (s : Str) (hl : s.length < 1000000000000) (H : AH) : EP 74 [.str s] H = some (.val (.int .i64 (ind s : Int)) H) := by
  refine uo_form (X := X) (D := OD2) (O := OF2) (S := PS) (al := [.str s]) e74 xf74 rfl rfl rfl rfl ?_ H
  simp only [AV.kills, AV.kill]
  simp -implicitDefEqProofs only [c74, r74_0, r74_1, opn_z, opn_s, qFn_eq, qBl_eq]
  refine loop_inv (fun m fr H' => ∃ (i : Nat) (x2 x19 : AV), m = s.length - i ∧ i ≤ s.length ∧ fr = [.str s, x2, .int .i64 (i : Int), x19] ∧ ind s = i + ind (s.drop i)) ?_ (m := s.length) ?_
  case refine_2 => exact ⟨0, _, _, rfl, by omega, rfl, by simp⟩
  rintro m fr H' k ⟨i, x2, x19, rfl, hi, rfl, hX⟩ hk
  rcases Nat.lt_or_ge i s.length with h | h
  case inr =>
    have c1 : ¬ (i : Int) < (s.length : Int) := by omega
    obtain rfl : i = s.length := by omega
    have h0 : ind (s.drop s.length) = 0 := by rw [List.drop_length]; rfl
    rw [h0, Nat.add_zero] at hX
    simp -implicitDefEqProofs only [l74_4, r74_2, r74_4, opn_z, opn_s, sel_z, sel_s, qCd_eq, qIf_false, qBl_eq, qPick_false, qG_ft, qLss_int, qLenS_str, qG_un, c1, decide_false, AV.kill]
    rw [hX]
  have c1 : (i : Int) < (s.length : Int) := by omega
  obtain ⟨c, hc⟩ : ∃ c, s[i]? = some c := ⟨_, List.getElem?_eq_getElem h⟩
  rw [ind_at hc] at hX
  have ix := fun k => qIx_str (R := Prop) hc k
  have hw := wrap_up i (by omega)
  have q1 : (((c.toNat : Nat) : Int) == 32) = decide (c = 32) := by rw [Bool.eq_iff_iff, decide_eq_true_eq, beq_iff_eq, ← UInt8.toNat_inj]; show _ ↔ c.toNat = 32; omega
  have q2 : (((c.toNat : Nat) : Int) == 9) = decide (c = 9) := by rw [Bool.eq_iff_iff, decide_eq_true_eq, beq_iff_eq, ← UInt8.toNat_inj]; show _ ↔ c.toNat = 9; omega
  by_cases h1 : c = 32
  · rw [decide_eq_true h1] at q1
    have hW : isW c = true := by simp [isW, h1]
    rw [if_pos hW] at hX
    simp -implicitDefEqProofs only [l74_4, r74_2, r74_3, opn_z, opn_s, sel_z, sel_s, qCd_eq, qIf_true, qBl_eq, qPick_true, qG_tt, qG_tf, qLss_int, qEql_int, qAdd_int, qLenS_str, c1, decide_true, ix, q1, hw]
    exact hk (s.length - (i + 1)) _ _ (by omega) ⟨i + 1, _, _, rfl, h, rfl, by omega⟩
  rw [decide_eq_false h1] at q1
  by_cases h2 : c = 9
  · rw [decide_eq_true h2] at q2
    have hW : isW c = true := by simp [isW, h2]
    rw [if_pos hW] at hX
    simp -implicitDefEqProofs only [l74_4, r74_2, r74_3, opn_z, opn_s, sel_z, sel_s, qCd_eq, qIf_true, qBl_eq, qPick_true, qPick_false, qG_tt, qG_ff, qLss_int, qEql_int, qAdd_int, qLenS_str, c1, decide_true, ix, q1, q2, hw]
    exact hk (s.length - (i + 1)) _ _ (by omega) ⟨i + 1, _, _, rfl, h, rfl, by omega⟩
  rw [decide_eq_false h2] at q2
  have hW : ¬ isW c = true := by simp [isW, h1, h2]
  rw [if_neg hW, Nat.add_zero] at hX
  simp -implicitDefEqProofs only [l74_4, r74_2, r74_4, opn_z, opn_s, sel_z, sel_s, qCd_eq, qIf_false, qBl_eq, qPick_true, qPick_false, qG_tt, qG_ff, qLss_int, qEql_int, qLenS_str, c1, decide_true, ix, q1, q2, AV.kill]
  rw [hX]
def Ls (H : AH) (v : AV) (L : List Str) : Prop := (v = .sl [] .nil ∧ L = []) ∨ ∃ i n, v = .hsl i 0 n n 1 true ∧ n = L.length ∧ H.get i = some (.cells (L.map .str))
theorem Ls.app {H : AH} [IsFn H] {v : AV} {L : List Str} (h : Ls H v L) (s : Str) (hl : L.length < 1000000) :
    ∃ v' H', (∀ k : AV → AH → Prop, qApp 1 16 v (.sl [[.str s]] .full) true none H k = k v' H') ∧ Ls H' v' (L ++ [s]) ∧ IsFn H' := by
  have hx : readRows 1 (.sl [[.str s]] .full) H = some [[AV.str s]] := rfl
  rcases h with ⟨rfl, rfl⟩ | ⟨j, n, rfl, rfl, hg⟩
  · have hap : Go.Aes.app 1 16 (.sl [] .nil) (.sl [[.str s]] .full) true none H = some (.hsl H.nx 0 1 1 1 true, H.push (.cells [.str s])) := by
      unfold Go.Aes.app
      rw [hx]
      have hb : (([] : List (List AV)).length + [[AV.str s]].length) * (16 + 1) = 17 := rfl
      simp only [hb, new_i, AO.mkT, List.nil_append]
      rfl
    refine ⟨_, H.push (.cells [.str s]), fun k => ?_, .inr ⟨H.nx, 1, rfl, rfl, get_push_at (H := H) _⟩, inferInstance⟩
    unfold qApp
    rw [hap, qHp_some]
  · have htl := lt_i hg
    have hb : ((L.length + [[AV.str s]].length) * (16 + 1)).blt most = true := by rw [Nat.blt_eq]; unfold most; simp only [List.length_cons, List.length_nil]; omega
    have hsl : slice? (L.map AV.str) 0 (L.length * 1) = some (L.map AV.str) := slice_whole _ _ (by simp)
    have hap : Go.Aes.app 1 16 (.hsl j 0 L.length L.length 1 true) (.sl [[.str s]] .full) true none H = some (.hsl H.nx 0 (L.length + 1) (L.length + 1) 1 true, (H.set j none).push (.cells (L.map AV.str ++ [.str s]))) := by
      unfold Go.Aes.app
      rw [hx]
      have e1 : AO.unT none (.cells (L.map AV.str)) = some (L.map AV.str) := rfl
      have e2 : allOne ([[AV.str s]] : List (List AV)).flatten = true := rfl
      simp only [hb, okI_i htl, e2, hg, e1, hsl, new_i, AO.mkT, AH.nx_set]
      rfl
    refine ⟨_, (H.set j none).push (.cells (L.map AV.str ++ [.str s])), fun k => ?_, .inr ⟨H.nx, L.length + 1, rfl, by simp, ?_⟩, inferInstance⟩
    · unfold qApp
      rw [hap, qHp_some]
    · have := get_push_at (H := H.set j none) (.cells (L.map AV.str ++ [.str s]))
      rw [AH.nx_set] at this
      rw [this, List.map_append]; rfl
theorem lin_at {s : Str} {i : Nat} {c : UInt8} (h : s[i]? = some c) (cur : Str) : linesD cur (s.drop i) = if c = 13 ∧ s[i + 1]? = some 10 then cur :: linesD [] (s.drop (i + 2)) else if c = 10 ∨ c = 13 then cur :: linesD [] (s.drop (i + 1)) else linesD (cur ++ [c]) (s.drop (i + 1)) := by
  have hl := (List.getElem?_eq_some_iff.1 h).1
  have hd : s.drop i = c :: s.drop (i + 1) := by
    rw [List.drop_eq_getElem_cons hl]
    have := List.getElem?_eq_getElem hl
    rw [h] at this
    injection this with this
    rw [← this]
  rw [hd, linesD, List.head?_drop, List.tail_drop]
set_option maxHeartbeats 1000000 in
theorem ep67 (s : Str) (hs : s.length < 900000) (H : AH) [IsFn H] : ∃ v H', EP 73 [.str s] H = some (.val v H') ∧ Ls H' v (linesD [] s) ∧ IsFn H' := by
  refine ao_form (X := X) (D := OD2) (O := OF2) (S := PS) (al := [.str s]) (H := H) e73 xf73 rfl rfl (Q := fun v H' => Ls H' v (linesD [] s) ∧ IsFn H') ?_
  have rw1 : ∀ (x : Str) (k : AV → Prop), qRows z9 1 [(0, .str x)] k = k (.sl [[.str x]] .full) := fun x k => rfl
  simp -implicitDefEqProofs only [c73, r73_0, r73_1, r73_2, r73_3, opn_z, opn_s, qFn_eq, qBl_eq]
  refine loop_inv (fun m fr H' => ∃ (i a : Nat) (L : List Str) (v : AV) (x2 x9 x21 x46 : AV), m = s.length - i ∧ i ≤ s.length ∧ a ≤ i ∧ fr = [.str s, x2, v, .int .i64 (a : Int), .int .i64 (i : Int), x9, x21, x46] ∧ IsFn H' ∧ Ls H' v L ∧ L.length ≤ i ∧ L ++ linesD ((s.take i).drop a) (s.drop i) = linesD [] s) ?_ (m := s.length) ?_
  case refine_2 => exact ⟨0, 0, [], .sl [] .nil, _, _, _, _, rfl, by omega, by omega, rfl, inferInstance, .inl ⟨rfl, rfl⟩, by simp, by simp⟩
  rintro m fr H' k ⟨i, a, L, v, x2, x9, x21, x46, rfl, hi, ha, rfl, hf, hL, hLl, hX⟩ hk
  rcases Nat.lt_or_ge i s.length with h | h
  case inr =>
    have c1 : ¬ (i : Int) < (s.length : Int) := by omega
    obtain ⟨v', H2, a1, a2, a3⟩ := hL.app ((s.take i).drop a) (by omega)
    have sl := fun k => slcS_lo s a (by omega) k
    have e1 : s.drop a = (s.take i).drop a := by rw [List.take_of_length_le h]
    rw [e1] at sl
    rw [List.drop_of_length_le h, linesD] at hX
    rw [hX] at a2
    simp -implicitDefEqProofs only [l73_6, r73_4, r73_11, opn_z, opn_s, sel_z, sel_s, qCd_eq, qIf_false, qBl_eq, qLss_int, qLenS_str, c1, decide_false, sl, rw1, a1]
    exact ⟨a2, a3⟩
  have c1 : (i : Int) < (s.length : Int) := by omega
  obtain ⟨c, hc⟩ : ∃ c, s[i]? = some c := ⟨_, List.getElem?_eq_getElem h⟩
  have ix := fun k => qIx_str (R := Prop) hc .i64 k
  rw [lin_at hc] at hX
  have hw := wrap_up i (by omega)
  have hcb : (s.take (i + 1)).drop (i + 1) = [] := by rw [List.drop_take]; simp
  have q10 : (((c.toNat : Nat) : Int) == 10) = decide (c = 10) := eqU c 10
  have q13 : (((c.toNat : Nat) : Int) == 13) = decide (c = 13) := eqU c 13
  have grow : (s.take (i + 1)).drop a = (s.take i).drop a ++ [c] := by
    rw [take_succ' hc, List.drop_append_of_le_length (by simp; omega)]
  by_cases n1 : c = 10 ∨ c = 13
  case neg =>
    have g1 : decide (c = 10) = false := decide_eq_false (fun e => n1 (.inl e))
    have g2 : decide (c = 13) = false := decide_eq_false (fun e => n1 (.inr e))
    rw [g1] at q10
    rw [g2] at q13
    rw [if_neg (fun hh => n1 (.inr hh.1)), if_neg n1] at hX
    simp -implicitDefEqProofs only [l73_6, r73_4, r73_5, r73_6, opn_z, opn_s, sel_z, sel_s, qCd_eq, qIf_true, qBl_eq, qPick_true, qG_tt, qLss_int, qNeq_int, qAdd_int, qLenS_str, c1, decide_true, ix, q10, q13, Bool.not_false, hw]
    exact hk (s.length - (i + 1)) _ _ (by omega) ⟨i + 1, a, L, v, _, _, _, _, rfl, h, by omega, rfl, hf, hL, by omega, by rw [grow]; exact hX⟩
  obtain ⟨v', H2, a1, a2, a3⟩ := hL.app ((s.take i).drop a) (by omega)
  have sl := fun k => slcS_mid s a i ha hi k
  by_cases n2 : c = 13 ∧ s[i + 1]? = some 10
  · rw [if_pos n2] at hX
    obtain ⟨n3, n4⟩ := n2
    have g1 : decide (c = 10) = false := decide_eq_false (fun e => by rw [n3] at e; cases e)
    rw [g1] at q10
    rw [decide_eq_true n3] at q13
    have hl2 := (List.getElem?_eq_some_iff.1 n4).1
    have c2 : ((i + 1 : Nat) : Int) < (s.length : Int) := by omega
    have ix2 : ∀ k : AV → Prop, qIx (.str s) (.int .i64 ((i + 1 : Nat) : Int)) k = k (.int .u8 10) := fun k => qIx_str (R := Prop) n4 .i64 k
    have hw2 := wrap_up (i + 1) (by omega)
    simp -implicitDefEqProofs only [l73_6, r73_4, r73_5, r73_6, r73_7, r73_8, r73_9, r73_10, opn_z, opn_s, sel_z, sel_s, qCd_eq, qIf_true, qIf_false, qBl_eq, qPick_true, qG_tt, qLss_int, qEql_int, qNeq_int, qAdd_int, qLenS_str, c1, decide_true, ix, q10, q13, Bool.not_false, Bool.not_true, hw, sl, rw1, a1, c2, ix2, beq_self_eq_true, hw2]
    refine hk (s.length - (i + 1 + 1)) _ _ (by omega) ⟨i + 1 + 1, i + 1 + 1, _, v', _, _, _, _, rfl, by omega, by omega, rfl, a3, a2, by simp; omega, ?_⟩
    have hcb : (s.take (i + 1 + 1)).drop (i + 1 + 1) = [] := by rw [List.drop_take]; simp
    rw [hcb, ← hX]; simp
  · rw [if_neg n2, if_pos n1] at hX
    have hX' : (L ++ [(s.take i).drop a]) ++ linesD ((s.take (i + 1)).drop (i + 1)) (s.drop (i + 1)) = linesD [] s := by rw [hcb, ← hX]; simp
    by_cases n3 : c = 13
    case neg =>
      have n5 : c = 10 := n1.resolve_right n3
      rw [decide_eq_true n5] at q10
      rw [decide_eq_false n3] at q13
      simp -implicitDefEqProofs only [l73_6, r73_4, r73_5, r73_6, r73_7, r73_8, r73_10, opn_z, opn_s, sel_z, sel_s, qCd_eq, qIf_true, qIf_false, qBl_eq, qPick_false, qG_ft, qLss_int, qEql_int, qNeq_int, qAdd_int, qLenS_str, c1, decide_true, ix, q10, q13, Bool.not_true, hw, sl, rw1, a1]
      exact hk (s.length - (i + 1)) _ _ (by omega) ⟨i + 1, i + 1, _, v', _, _, _, _, rfl, h, by omega, rfl, a3, a2, by simp; omega, hX'⟩
    have g1 : decide (c = 10) = false := decide_eq_false (fun e => by rw [n3] at e; cases e)
    rw [g1] at q10
    rw [decide_eq_true n3] at q13
    rcases Nat.lt_or_ge (i + 1) s.length with h2 | h2
    case inr =>
      have c2 : ¬ ((i + 1 : Nat) : Int) < (s.length : Int) := by omega
      simp -implicitDefEqProofs only [l73_6, r73_4, r73_5, r73_6, r73_7, r73_8, r73_10, opn_z, opn_s, sel_z, sel_s, qCd_eq, qIf_true, qIf_false, qBl_eq, qPick_true, qPick_false, qG_tt, qG_ft, qLss_int, qEql_int, qNeq_int, qAdd_int, qLenS_str, c1, decide_true, decide_false, ix, q10, q13, Bool.not_false, Bool.not_true, hw, sl, rw1, a1, c2]
      exact hk (s.length - (i + 1)) _ _ (by omega) ⟨i + 1, i + 1, _, v', _, _, _, _, rfl, h, by omega, rfl, a3, a2, by simp; omega, hX'⟩
    have c2 : ((i + 1 : Nat) : Int) < (s.length : Int) := by omega
    obtain ⟨d, hd⟩ : ∃ d, s[i + 1]? = some d := ⟨_, List.getElem?_eq_getElem h2⟩
    have nd : ¬ d = 10 := fun e => n2 ⟨n3, by rw [hd, e]⟩
    have qd : (((d.toNat : Nat) : Int) == 10) = decide (d = 10) := eqU d 10
    rw [decide_eq_false nd] at qd
    have ix2 := fun k => qIx_str (R := Prop) hd .i64 k
    simp -implicitDefEqProofs only [l73_6, r73_4, r73_5, r73_6, r73_7, r73_8, r73_10, opn_z, opn_s, sel_z, sel_s, qCd_eq, qIf_true, qIf_false, qBl_eq, qPick_true, qG_tt, qLss_int, qEql_int, qNeq_int, qAdd_int, qLenS_str, c1, decide_true, ix, q10, q13, Bool.not_false, Bool.not_true, hw, sl, rw1, a1, c2, ix2, qd]
    exact hk (s.length - (i + 1)) _ _ (by omega) ⟨i + 1, i + 1, _, v', _, _, _, _, rfl, h, by omega, rfl, a3, a2, by simp; omega, hX'⟩
end T
set_option linter.unusedVariables false
set_option linter.unusedSimpArgs false
set_option maxRecDepth 10000
namespace T
open Go Go.Aes Go.Proofs
theorem joinTail_snoc (r : List Str) (x : Str) : Lib.joinTail [10] (r ++ [x]) = Lib.joinTail [10] r ++ [10] ++ x := by
  unfold Lib.joinTail
  simp
theorem join_snoc {l : List Str} (h : l ≠ []) (x : Str) : Lib.join (l ++ [x]) [10] = Lib.join l [10] ++ [10] ++ x := by
  cases l with
  | nil => exact absurd rfl h
  | cons a r =>
    rw [List.cons_append, Lib.join_cons, Lib.join_cons, joinTail_snoc]
    simp
theorem rf_join {D : List Str} (hD : ∀ l ∈ D, l.length < 1000000) (hL : D.length < 1000000) {H1 : AH} [IsFn H1] {i a m c : Nat} (g : H1.get i = some (.cells (D.map .str))) (ham : a + m ≤ D.length) (V : Str)
    (hV : V = Lib.join ((D.drop a).take m) [10]) (x0 x2 x4 x5 x6 x7 x8 x9 x15 x38 x47 x78 x100 x109 x113 : AV) :
    (r56_17 (r56_18 (qBl (fun k1 => (qLoop (l56_5 k1))) (r56_24 (fun fr (_ : AH) => (sel 1 fr).kill = .str V))))) [x0, x2, .hsl i a m c 1 true, x4, x5, x6, x7, x8, x9, x15, x38, x47, x78, x100, x109, x113] H1 := by
  simp -implicitDefEqProofs only [r56_17, r56_18, opn_z, opn_s, qBl_eq]
  refine loop_inv (fun m' fr H' => ∃ (q : Nat) (x0 x2 x4 x5 x6 x7 x15 x38 x47 x78 x100 x109 x113 : AV), m' = m - q ∧ q ≤ m ∧ fr = [x0, x2, .hsl i a m c 1 true, x4, x5, x6, x7, .str (Lib.join ((D.drop a).take q) [10]), .int .i64 (q : Int), x15, x38, x47, x78, x100, x109, x113] ∧ H' = H1) ?_ (m := m) ?_
  case refine_2 => exact ⟨0, _, _, _, _, _, _, _, _, _, _, _, _, _, rfl, by omega, rfl, rfl⟩
  rintro m' fr H' k ⟨q, x0, x2, x4, x5, x6, x7, x15, x38, x47, x78, x100, x109, x113, rfl, hq, rfl, rfl⟩ hk
  rcases Nat.lt_or_ge q m with h | h
  case inr =>
    have c1 : ¬ (q : Int) < (m : Int) := by omega
    obtain rfl : q = m := by omega
    simp -implicitDefEqProofs only [l56_5, r56_19, r56_24, opn_z, opn_s, sel_z, sel_s, qCd_eq, qIf_false, qBl_eq, qLss_int, qLenL_hsl, c1, decide_false, AV.kill]
    rw [hV]
  have c1 : (q : Int) < (m : Int) := by omega
  have hlt : a + q < D.length := by omega
  have hs : (D.drop a)[q]? = some D[a + q] := by rw [List.getElem?_drop]; exact List.getElem?_eq_getElem hlt
  have ia : ∀ k : AV → Prop, qIa 1 (.hsl i a m c 1 true) (.int .i64 (q : Int)) k = k (.ptr i (a + q)) := fun k => by
    have := qIa_hsl .i64 k 1 i a m c true q h
    rw [Nat.mul_one] at this
    exact this
  have ld := fun k => ld1 (R := Prop) g (a + q) (.str D[a + q]) (by rw [List.getElem?_map, List.getElem?_eq_getElem hlt]; rfl) k
  have hw := wrap_up q (by omega)
  have hj := join_le 1000000 ((D.drop a).take q) (fun l hl => Nat.le_of_lt (hD l (List.mem_of_mem_drop (List.mem_of_mem_take hl))))
  have hj2 : ((D.drop a).take q).length * (1000000 + 1) ≤ 1000000 * (1000000 + 1) := Nat.mul_le_mul_right _ (by simp; omega)
  have hx := hD _ (List.getElem_mem hlt)
  rcases Nat.eq_zero_or_pos q with h0 | h0
  · have c2 : ¬ (0 : Int) < (q : Int) := by omega
    have e0 : Lib.join ((D.drop a).take q) [10] = [] := by rw [h0]; rfl
    have q1 := fun k => qAdd_str (R := Prop) X 9 (Lib.join ((D.drop a).take q) [10]) D[a + q] (by unfold most; omega) k
    have e1 : Lib.join ((D.drop a).take q) [10] ++ D[a + q] = Lib.join ((D.drop a).take (q + 1)) [10] := by
      have et : (D.drop a).take q = [] := by rw [h0]; rfl
      rw [e0, take_succ' hs, et]
      simp [Lib.join_one]
    rw [e1] at q1
    simp -implicitDefEqProofs only [l56_5, r56_19, r56_20, r56_21, r56_23, opn_z, opn_s, sel_z, sel_s, qCd_eq, qIf_true, qIf_false, qBl_eq, qLss_int, qGtr_int, qAdd_int, qLenL_hsl, c1, c2, decide_true, decide_false, ia, ld, q1, hw]
    exact hk (m - (q + 1)) _ _ (by omega) ⟨q + 1, _, _, _, _, _, _, _, _, _, _, _, _, _, rfl, h, rfl, rfl⟩
  · have c2 : (0 : Int) < (q : Int) := by omega
    have q0 := fun k => qAdd_str (R := Prop) X 9 (Lib.join ((D.drop a).take q) [10]) [10] (by unfold most; simp only [List.length_cons, List.length_nil]; omega) k
    have q1 := fun k => qAdd_str (R := Prop) X 9 (Lib.join ((D.drop a).take q) [10] ++ [10]) D[a + q] (by unfold most; simp only [List.length_append, List.length_cons, List.length_nil]; omega) k
    have hne : (D.drop a).take q ≠ [] := by
      intro e
      have := congrArg List.length e
      simp at this; omega
    rw [← join_snoc hne, ← take_succ' hs] at q1
    simp -implicitDefEqProofs only [l56_5, r56_19, r56_20, r56_21, r56_22, r56_23, opn_z, opn_s, sel_z, sel_s, qCd_eq, qIf_true, qBl_eq, qLss_int, qGtr_int, qAdd_int, qLenL_hsl, c1, c2, decide_true, ia, ld, q0, q1, hw]
    exact hk (m - (q + 1)) _ _ (by omega) ⟨q + 1, _, _, _, _, _, _, _, _, _, _, _, _, _, rfl, h, rfl, rfl⟩
theorem bl_eq (x : Str) : (((ind x : Nat) : Int) == (x.length : Int)) = blank x := by
  unfold blank
  rw [Bool.eq_iff_iff]
  simp
  omega
theorem rf_end {D : List Str} (hD : ∀ l ∈ D, l.length < 1000000) (hL : D.length < 1000000) {H1 : AH} [IsFn H1] {i a m c : Nat} (g : H1.get i = some (.cells (D.map .str))) (ham : a + m ≤ D.length) (hc : m ≤ c) (V : Str)
    (hV : V = Lib.join (trimE ((D.drop a).take m)) [10]) (x0 x2 x4 x5 x6 x7 x8 x9 x15 x38 x47 x78 x100 x109 x113 : AV) :
    qLoop (l56_9 EP (r56_17 (r56_18 (qBl (fun k1 => (qLoop (l56_5 k1))) (r56_24 (fun fr (_ : AH) => (sel 1 fr).kill = .str V)))))) [x0, x2, .hsl i a m c 1 true, x4, x5, x6, x7, x8, x9, x15, x38, x47, x78, x100, x109, x113] H1 := by
  refine loop_inv (fun m' fr H' => ∃ (q : Nat) (x0 x2 x4 x5 x6 x7 x8 x9 x15 x38 x47 x78 x100 x109 x113 : AV), m' = q ∧ q ≤ m ∧ fr = [x0, x2, .hsl i a q c 1 true, x4, x5, x6, x7, x8, x9, x15, x38, x47, x78, x100, x109, x113] ∧ H' = H1 ∧ trimE ((D.drop a).take m) = trimE ((D.drop a).take q)) ?_ (m := m) ?_
  case refine_2 => exact ⟨m, _, _, _, _, _, _, _, _, _, _, _, _, _, _, _, rfl, Nat.le_refl _, rfl, rfl, rfl⟩
  rintro m' fr H' k ⟨q, x0, x2, x4, x5, x6, x7, x8, x9, x15, x38, x47, x78, x100, x109, x113, rfl, hq, rfl, rfl, hT⟩ hk
  cases m' with
  | zero =>
    have c1 : ¬ (0 : Int) < (((0 : Nat)) : Int) := by omega
    simp -implicitDefEqProofs only [l56_9, r56_15, opn_z, opn_s, sel_z, sel_s, qCd_eq, qIf_false, qBl_eq, qPick_false, qG_ft, qGtr_int, qLenL_hsl, c1, decide_false]
    refine rf_join hD hL g (by omega) V ?_ _ _ _ _ _ _ _ _ _ _ _ _ _ _ _
    rw [hV, hT]; rfl
  | succ p =>
    have c1 : (0 : Int) < ((p + 1 : Nat) : Int) := by omega
    have hw := wrap_dn p (by omega)
    have hlt : a + p < D.length := by omega
    have hs : (D.drop a)[p]? = some D[a + p] := by rw [List.getElem?_drop]; exact List.getElem?_eq_getElem hlt
    have ia : ∀ k : AV → Prop, qIa 1 (.hsl i a (p + 1) c 1 true) (.int .i64 (p : Int)) k = k (.ptr i (a + p)) := fun k => by
      have := qIa_hsl .i64 k 1 i a (p + 1) c true p (by omega)
      rw [Nat.mul_one] at this
      exact this
    have ld := fun k => ld1 (R := Prop) g (a + p) (.str D[a + p]) (by rw [List.getElem?_map, List.getElem?_eq_getElem hlt]; rfl) k
    have e74 := fun H => ep68 D[a + p] (by have := hD _ (List.getElem_mem hlt); omega) H
    have be := bl_eq D[a + p]
    cases hb : blank D[a + p] with
    | true =>
      rw [hb] at be
      have sl := fun k => slcH_hi i a (p + 1) c true p (by omega) k
      simp -implicitDefEqProofs only [l56_9, r56_15, r56_16, opn_z, opn_s, sel_z, sel_s, qCd_eq, qIf_true, qBl_eq, qRes_val, qPick_true, qG_tt, qGtr_int, qEql_int, qSub_int, qLenL_hsl, qLenS_str, qSame_refl, c1, decide_true, hw, ia, ld, e74, be, sl]
      refine hk p _ _ (by omega) ⟨p, _, _, _, _, _, _, _, _, _, _, _, _, _, _, _, rfl, by omega, rfl, rfl, ?_⟩
      rw [hT, take_succ' hs, trimE_snoc, if_pos hb]
    | false =>
      rw [hb] at be
      simp -implicitDefEqProofs only [l56_9, r56_15, opn_z, opn_s, sel_z, sel_s, qCd_eq, qIf_false, qBl_eq, qRes_val, qPick_true, qG_tt, qGtr_int, qEql_int, qSub_int, qLenL_hsl, qLenS_str, qSame_refl, c1, decide_true, hw, ia, ld, e74, be]
      refine rf_join hD hL g (by omega) V ?_ _ _ _ _ _ _ _ _ _ _ _ _ _ _ _
      rw [hV, hT, take_succ' hs, trimE_snoc, if_neg (by rw [hb]; simp)]
theorem rf_trim {D : List Str} (hD : ∀ l ∈ D, l.length < 1000000) (hL : D.length < 1000000) {H1 : AH} [IsFn H1] {i : Nat} (g : H1.get i = some (.cells (D.map .str))) (V : Str)
    (hV : V = Lib.join (trimE (D.dropWhile blank)) [10]) (x0 x2 x4 x5 x6 x7 x8 x9 x15 x38 x47 x78 x100 x109 x113 : AV) :
    qLoop (l56_13 EP (qLoop (l56_9 EP (r56_17 (r56_18 (qBl (fun k1 => (qLoop (l56_5 k1))) (r56_24 (fun fr (_ : AH) => (sel 1 fr).kill = .str V)))))))) [x0, x2, .hsl i 0 D.length D.length 1 true, x4, x5, x6, x7, x8, x9, x15, x38, x47, x78, x100, x109, x113] H1 := by
  refine loop_inv (fun m fr H' => ∃ (a : Nat) (x0 x2 x4 x5 x6 x7 x8 x9 x15 x38 x47 x78 x100 x109 x113 : AV), m = D.length - a ∧ a ≤ D.length ∧ fr = [x0, x2, .hsl i a (D.length - a) (D.length - a) 1 true, x4, x5, x6, x7, x8, x9, x15, x38, x47, x78, x100, x109, x113] ∧ H' = H1 ∧ D.dropWhile blank = (D.drop a).dropWhile blank) ?_ (m := D.length) ?_
  case refine_2 => exact ⟨0, _, _, _, _, _, _, _, _, _, _, _, _, _, _, _, rfl, by omega, rfl, rfl, rfl⟩
  rintro m fr H' k ⟨a, x0, x2, x4, x5, x6, x7, x8, x9, x15, x38, x47, x78, x100, x109, x113, rfl, ha, rfl, rfl, hT⟩ hk
  obtain ⟨n, hn⟩ : ∃ n, n = D.length - a := ⟨_, rfl⟩
  rw [← hn]
  rcases Nat.lt_or_ge a D.length with h | h
  case inr =>
    have c1 : ¬ (0 : Int) < (n : Int) := by omega
    simp -implicitDefEqProofs only [l56_13, r56_13, opn_z, opn_s, sel_z, sel_s, qCd_eq, qIf_false, qBl_eq, qPick_false, qG_ft, qGtr_int, qLenL_hsl, c1, decide_false]
    refine rf_end hD hL g (by omega) (by omega) V ?_ _ _ _ _ _ _ _ _ _ _ _ _ _ _ _
    rw [hV, hT, List.drop_of_length_le h]
    simp
  have c1 : (0 : Int) < (n : Int) := by omega
  have ia : ∀ k : AV → Prop, qIa 1 (.hsl i a n n 1 true) (.int .i64 0) k = k (.ptr i a) := fun k => qIa_hsl .i64 k 1 i a n n true 0 (by omega)
  have ld := fun k => ld1 (R := Prop) g a (.str D[a]) (by rw [List.getElem?_map, List.getElem?_eq_getElem h]; rfl) k
  have e74 := fun H => ep68 D[a] (by have := hD _ (List.getElem_mem h); omega) H
  have be := bl_eq D[a]
  cases hb : blank D[a] with
  | true =>
    rw [hb] at be
    have sl : ∀ k : AV → Prop, qSlc Tryz.t71.desc 1 (.hsl i a n n 1 true) (some (.int .i64 1)) none none k = k (.hsl i (a + 1) (D.length - (a + 1)) (D.length - (a + 1)) 1 true) := fun k => by
      have := slcH_lo i a n n true 1 (by omega) k
      rw [show n - 1 = D.length - (a + 1) by omega] at this
      exact this
    simp -implicitDefEqProofs only [l56_13, r56_13, r56_14, opn_z, opn_s, sel_z, sel_s, qCd_eq, qIf_true, qBl_eq, qRes_val, qPick_true, qG_tt, qGtr_int, qEql_int, qLenL_hsl, qLenS_str, qSame_refl, c1, decide_true, ia, ld, e74, be, sl]
    refine hk (D.length - (a + 1)) _ _ (by omega) ⟨a + 1, _, _, _, _, _, _, _, _, _, _, _, _, _, _, _, rfl, h, rfl, rfl, ?_⟩
    rw [hT, List.drop_eq_getElem_cons h, List.dropWhile_cons, hb]; rfl
  | false =>
    rw [hb] at be
    simp -implicitDefEqProofs only [l56_13, r56_13, opn_z, opn_s, sel_z, sel_s, qCd_eq, qIf_false, qBl_eq, qRes_val, qPick_true, qG_tt, qGtr_int, qEql_int, qLenL_hsl, qLenS_str, qSame_refl, c1, decide_true, ia, ld, e74, be]
    refine rf_end hD hL g (by omega) (by omega) V ?_ _ _ _ _ _ _ _ _ _ _ _ _ _ _ _
    rw [hV, hT, List.take_of_length_le (by simp; omega), List.drop_eq_getElem_cons h, List.dropWhile_cons, hb]; rfl
theorem cutL_none {C : Int} (h : ¬ 0 < C) : ∀ r : List Str, r.map (cutL C) = r
  | [] => rfl
  | l :: r => by
    have e : cutL C l = l := by
      unfold cutL
      rw [show min C.toNat (ind l) = 0 by omega]; rfl
    rw [List.map_cons, e, cutL_none h r]
theorem rf_cut {l0 : Str} {r : List Str} (hD : ∀ l ∈ l0 :: r, l.length < 1000000) (hL : r.length + 1 < 1000000) {H1 : AH} [IsFn H1] {i : Nat} (g : H1.get i = some (.cells ((l0 :: r).map .str))) (C : Int) (V : Str)
    (hV : V = Lib.join (trimE ((l0 :: r.map (cutL C)).dropWhile blank)) [10]) (x0 x2 x5 x6 x7 x8 x9 x15 x38 x47 x78 x100 x109 x113 : AV) :
    (r56_9 (qBl (fun k14 => (qLoop (l56_17 EP k14))) (qBl (fun k10 => (qLoop (l56_13 EP k10))) (qBl (fun k6 => (qLoop (l56_9 EP k6))) (r56_17 (r56_18 (qBl (fun k1 => (qLoop (l56_5 k1))) (r56_24 (fun fr (_ : AH) => (sel 1 fr).kill = .str V))))))))) [x0, x2, .hsl i 0 (r.length + 1) (r.length + 1) 1 true, .int .i64 C, x5, x6, x7, x8, x9, x15, x38, x47, x78, x100, x109, x113] H1 := by
  simp -implicitDefEqProofs only [r56_9, opn_z, opn_s, qBl_eq]
  refine loop_inv (fun m fr H' => ∃ (j : Nat) (x0 x2 x5 x6 x8 x9 x15 x38 x47 x78 x100 x109 x113 : AV), m = r.length - j ∧ j ≤ r.length ∧ fr = [x0, x2, .hsl i 0 (r.length + 1) (r.length + 1) 1 true, .int .i64 C, x5, x6, .int .i64 ((j + 1 : Nat) : Int), x8, x9, x15, x38, x47, x78, x100, x109, x113] ∧ IsFn H' ∧
    H'.get i = some (.cells ((l0 :: ((r.take j).map (cutL C) ++ r.drop j)).map .str))) ?_ (m := r.length) ?_
  case refine_2 => exact ⟨0, _, _, _, _, _, _, _, _, _, _, _, _, _, rfl, by omega, rfl, inferInstance, g⟩
  rintro m fr H' k ⟨j, x0, x2, x5, x6, x8, x9, x15, x38, x47, x78, x100, x109, x113, rfl, hj, rfl, hf, g'⟩ hk
  have hfin : H'.get i = some (.cells ((l0 :: r.map (cutL C)).map .str)) → ∀ (x0 x2 x4 x5 x6 x7 x8 x9 x15 x38 x47 x78 x100 x109 x113 : AV), qLoop (l56_13 EP (qLoop (l56_9 EP (r56_17 (r56_18 (qBl (fun k1 => (qLoop (l56_5 k1))) (r56_24 (fun fr (_ : AH) => (sel 1 fr).kill = .str V)))))))) [x0, x2, .hsl i 0 (r.length + 1) (r.length + 1) 1 true, x4, x5, x6, x7, x8, x9, x15, x38, x47, x78, x100, x109, x113] H' := by
    intro g'' x0 x2 x4 x5 x6 x7 x8 x9 x15 x38 x47 x78 x100 x109 x113
    have hn : r.length + 1 = (l0 :: r.map (cutL C)).length := by simp
    rw [hn]
    refine rf_trim (D := l0 :: r.map (cutL C)) ?_ (by rw [← hn]; exact hL) g'' V hV _ _ _ _ _ _ _ _ _ _ _ _ _ _ _
    intro l hl
    rcases List.mem_cons.1 hl with rfl | hl
    · exact hD _ (by simp)
    · obtain ⟨y, hy, rfl⟩ := List.mem_map.1 hl
      have := hD y (by simp [hy])
      have := cutL_le C y
      omega
  obtain ⟨n, hn⟩ : ∃ n, n = r.length + 1 := ⟨_, rfl⟩
  rcases Nat.lt_or_ge j r.length with h | h
  case inr =>
    have c1 : ¬ ((j + 1 : Nat) : Int) < ((r.length + 1 : Nat) : Int) := by omega
    rw [List.take_of_length_le h, List.drop_of_length_le h, List.append_nil] at g'
    rw [← hn] at c1 hfin ⊢
    simp -implicitDefEqProofs only [l56_17, r56_10, opn_z, opn_s, sel_z, sel_s, qCd_eq, qIf_false, qBl_eq, qPick_false, qG_ft, qLss_int, qLenL_hsl, c1, decide_false]
    (first | exact hfin g' _ _ _ _ _ _ _ _ _ _ _ _ _ _ _ | (apply hfin g' <;> exact Aes.undef))
  have c1 : ((j + 1 : Nat) : Int) < ((r.length + 1 : Nat) : Int) := by omega
  by_cases c2 : (0 : Int) < C
  case neg =>
    have e1 : (r.take j).map (cutL C) ++ r.drop j = r.map (cutL C) := by
      rw [cutL_none c2, cutL_none c2, List.take_append_drop]
    rw [e1] at g'
    rw [← hn] at c1 hfin ⊢
    simp -implicitDefEqProofs only [l56_17, r56_10, opn_z, opn_s, sel_z, sel_s, qCd_eq, qIf_false, qBl_eq, qPick_true, qG_tt, qLss_int, qGtr_int, qLenL_hsl, c1, c2, decide_true, decide_false]
    (first | exact hfin g' _ _ _ _ _ _ _ _ _ _ _ _ _ _ _ | (apply hfin g' <;> exact Aes.undef))
  obtain ⟨s1, s2⟩ := cells_step (f := cutL C) (l0 := l0) h
  have ia : ∀ k : AV → Prop, qIa 1 (.hsl i 0 (r.length + 1) (r.length + 1) 1 true) (.int .i64 ((j + 1 : Nat) : Int)) k = k (.ptr i (j + 1)) := fun k => by
    have := qIa_hsl .i64 k 1 i 0 (r.length + 1) (r.length + 1) true (j + 1) (by omega)
    rw [Nat.mul_one, Nat.zero_add] at this
    exact this
  have ld := fun k => ld1 (R := Prop) g' (j + 1) (.str r[j]) (by rw [List.getElem?_map, s1]; rfl) k
  have hrj := hD r[j] (List.mem_cons_of_mem _ (List.getElem_mem h))
  have e74 := fun H => ep68 r[j] (by omega) H
  have hile := ind_le r[j]
  have hm : min C ((ind r[j] : Nat) : Int) = ((min C.toNat (ind r[j]) : Nat) : Int) := by omega
  have sc := fun k => slcS_lo r[j] (min C.toNat (ind r[j])) (by omega) k
  have st := fun k => qSt_1 (R := Prop) (o := j + 1) (v := .str (cutL C r[j])) g' (by
    have := (List.getElem?_eq_some_iff.1 s1).1
    simpa using this) rfl k
  rw [← List.map_set, s2] at st
  unfold cutL at st
  have hw := wrap_up (j + 1) (by omega)
  rw [← hn] at c1 ia ⊢
  simp -implicitDefEqProofs only [l56_17, r56_10, r56_11, r56_12, opn_z, opn_s, sel_z, sel_s, qCd_eq, qIf_true, qBl_eq, qO_some, qRes_val, qPick_true, qG_tt, qLss_int, qGtr_int, qAdd_int, qLenL_hsl, foldO, min2_int, qSame_refl, c1, c2, decide_true, ia, ld, e74, hm, sc, st, hw]
  rw [hn]
  refine hk (r.length - (j + 1)) _ _ (by omega) ⟨j + 1, _, _, _, _, _, _, _, _, _, _, _, _, _, rfl, h, rfl, inferInstance, ?_⟩
  rw [get_set_i (lt_i g'), if_pos rfl]
  rfl
set_option maxHeartbeats 1000000 in
theorem ep39 (s : Str) (hs : s.length < 900000) (H : AH) : EP 56 [.str s] H = some (.val (.str (blockF s)) H) := by
  refine uo_form (X := X) (D := OD2) (O := OF2) (S := PS) (al := [.str s]) e56 xf56 rfl rfl rfl rfl ?_ H
  simp only [AV.kills, AV.kill]
  obtain ⟨l0, r, hlines⟩ := linesD_ne [] s
  obtain ⟨i1, i2⟩ := linesD_le s.length s (Nat.le_refl _) []
  obtain ⟨v, H1, e73, hL, hif⟩ := ep67 s hs H0
  rw [hlines] at hL i1 i2
  have hD : ∀ l ∈ l0 :: r, l.length < 1000000 := fun x hx => by have := i1 x hx; simp at this; omega
  have hLn : r.length + 1 < 1000000 := by simp at i2; omega
  rcases hL with ⟨_, h⟩ | ⟨i, n, rfl, hn, g⟩
  · cases h
  have hn' : n = r.length + 1 := hn
  have hb : blockF s = Lib.join (trimE ((l0 :: r.map (cutL (cmn (-1) r))).dropWhile blank)) [10] := by unfold blockF; rw [hlines]; rfl
  rw [hb]
  simp -implicitDefEqProofs only [c56, r56_0, r56_1, r56_2, r56_3, opn_z, opn_s, qFn_eq, qBl_eq, qRes_val, e73]
  refine loop_inv (fun m fr H' => ∃ (j : Nat) (cc : Int) (x0 x2 x6 x7 x8 x9 x15 x38 x47 x78 x100 x109 x113 : AV), m = r.length - j ∧ j ≤ r.length ∧ fr = [x0, x2, .hsl i 0 n n 1 true, .int .i64 cc, .int .i64 ((j + 1 : Nat) : Int), x6, x7, x8, x9, x15, x38, x47, x78, x100, x109, x113] ∧ H' = H1 ∧
    cmn (-1) r = cmn cc (r.drop j)) ?_ (m := r.length) ?_
  case refine_2 => exact ⟨0, -1, _, _, _, _, _, _, _, _, _, _, _, _, _, rfl, by omega, rfl, rfl, rfl⟩
  rintro m fr H' k ⟨j, cc, x0, x2, x6, x7, x8, x9, x15, x38, x47, x78, x100, x109, x113, rfl, hj, rfl, rfl, hT⟩ hk
  rcases Nat.lt_or_ge j r.length with h | h
  case inr =>
    have c1 : ¬ ((j + 1 : Nat) : Int) < (n : Int) := by omega
    rw [List.drop_of_length_le h] at hT
    simp -implicitDefEqProofs only [l56_22, r56_4, qCd_eq, qIf_false, opn_s, opn_z, sel_s, sel_z, qLenL_hsl, qLss_int, c1, decide_false]
    rw [hn']
    refine rf_cut hD hLn g cc _ ?_ _ _ _ _ _ _ _ _ _ _ _ _ _ _
    rw [hT]; rfl
  have c1 : ((j + 1 : Nat) : Int) < (n : Int) := by omega
  have ia : ∀ k : AV → Prop, qIa 1 (.hsl i 0 n n 1 true) (.int .i64 ((j + 1 : Nat) : Int)) k = k (.ptr i (j + 1)) := fun k => by
    have := qIa_hsl .i64 k 1 i 0 n n true (j + 1) (by omega)
    rw [Nat.mul_one, Nat.zero_add] at this
    exact this
  have ld := fun k => ld1 (R := Prop) g (j + 1) (.str r[j]) (by
    rw [List.getElem?_map, List.getElem?_cons_succ, List.getElem?_eq_getElem h]; rfl) k
  have hrj := hD r[j] (List.mem_cons_of_mem _ (List.getElem_mem h))
  have e74 := fun H => ep68 r[j] (by omega) H
  have hw := wrap_up (j + 1) (by omega)
  rw [cmn_at h] at hT
  by_cases d1 : ((ind r[j] : Nat) : Int) < (r[j].length : Int)
  case neg =>
    rw [if_neg (fun hh => d1 (by omega))] at hT
    simp -implicitDefEqProofs only [l56_22, r56_4, r56_5, r56_6, r56_7, opn_z, opn_s, sel_z, sel_s, qCd_eq, qIf_true, qIf_false, qBl_eq, qRes_val, qPick_false, qG_ft, qLss_int, qAdd_int, qLenL_hsl, qLenS_str, qG_un, c1, decide_true, ia, ld, e74, d1, decide_false, hw]
    exact hk (r.length - (j + 1)) _ _ (by omega) ⟨j + 1, cc, _, _, _, _, _, _, _, _, _, _, _, _, _, rfl, h, rfl, rfl, hT⟩
  by_cases d2 : cc < 0
  · rw [if_pos ⟨by omega, .inl d2⟩] at hT
    simp -implicitDefEqProofs only [l56_22, r56_4, r56_5, r56_6, r56_7, r56_8, opn_z, opn_s, sel_z, sel_s, qCd_eq, qIf_true, qBl_eq, qRes_val, qPick_true, qG_tt, qG_tf, qLss_int, qAdd_int, qLenL_hsl, qLenS_str, c1, decide_true, ia, ld, e74, d1, d2, hw]
    exact hk (r.length - (j + 1)) _ _ (by omega) ⟨j + 1, _, _, _, _, _, _, _, _, _, _, _, _, _, _, rfl, h, rfl, rfl, hT⟩
  by_cases d3 : ((ind r[j] : Nat) : Int) < cc
  · rw [if_pos ⟨by omega, .inr d3⟩] at hT
    simp -implicitDefEqProofs only [l56_22, r56_4, r56_5, r56_6, r56_7, r56_8, opn_z, opn_s, sel_z, sel_s, qCd_eq, qIf_true, qBl_eq, qRes_val, qPick_true, qPick_false, qG_tt, qG_ff, qLss_int, qAdd_int, qLenL_hsl, qLenS_str, c1, decide_true, decide_false, ia, ld, e74, d1, d2, d3, hw]
    exact hk (r.length - (j + 1)) _ _ (by omega) ⟨j + 1, _, _, _, _, _, _, _, _, _, _, _, _, _, _, rfl, h, rfl, rfl, hT⟩
  · rw [if_neg (fun hh => hh.2.elim d2 d3)] at hT
    simp -implicitDefEqProofs only [l56_22, r56_4, r56_5, r56_6, r56_7, opn_z, opn_s, sel_z, sel_s, qCd_eq, qIf_true, qIf_false, qBl_eq, qRes_val, qPick_true, qPick_false, qG_tt, qG_ff, qLss_int, qAdd_int, qLenL_hsl, qLenS_str, c1, decide_true, decide_false, ia, ld, e74, d1, d2, d3, hw]
    exact hk (r.length - (j + 1)) _ _ (by omega) ⟨j + 1, cc, _, _, _, _, _, _, _, _, _, _, _, _, _, rfl, h, rfl, rfl, hT⟩
end T
