import Derived.Test.YtphgikpdbaeeoaaDoorRyC
import Derived.Test.YtphgikpdbaeeoaaDoorRvD
set_option linter.all false
set_option linter.unusedVariables false
set_option linter.unusedSimpArgs false
set_option maxRecDepth 10000
namespace T
open Go Go.Aes Go.Proofs

/-! ### a list of texts that grows in the heap -/
def Ls (H : AH) (v : AV) (L : List Str) : Prop := (v = .sl [] .nil ∧ L = []) ∨ ∃ i n, v = .hsl i 0 n n 1 true ∧ n = L.length ∧ H.get i = some (.cells (L.map .str))
theorem one_strs : ∀ L : List Str, allOne (L.map AV.str) = true
  | [] => rfl
  | s :: L => by
    rw [List.map_cons, allOne_cons, one_strs L]; rfl
theorem Ls.app {H : AH} [IsFn H] {v : AV} {L : List Str} (h : Ls H v L) (s : Str) (hl : L.length < 1000000) :
    ∃ v' H', (∀ k : AV → AH → Prop, qApp 1 16 v (.sl [[.str s]] .full) true none H k = k v' H') ∧ Ls H' v' (L ++ [s]) ∧ IsFn H' := by
  have hx : readRows 1 (.sl [[.str s]] .full) H = some [[AV.str s]] := rfl
  rcases h with ⟨rfl, rfl⟩ | ⟨j, n, rfl, rfl, hg⟩
  · have hap : Go.Aes.app 1 16 (.sl [] .nil) (.sl [[.str s]] .full) true none H = some (.hsl H.nx 0 1 1 1 true, H.push (.cells [.str s])) := by
      unfold Go.Aes.app
      rw [hx]
      have hb : (([] : List (List AV)).length + [[AV.str s]].length) * (16 + 1) = 17 := rfl
      simp only [hb, new_i, AO.mkT, List.nil_append]
      rfl
    refine ⟨_, H.push (.cells [.str s]), fun k => ?_, .inr ⟨H.nx, 1, rfl, rfl, get_push_at (H := H) _⟩, inferInstance⟩
    unfold qApp
    rw [hap, qHp_some]
  · have htl := lt_i hg
    have hb : ((L.length + [[AV.str s]].length) * (16 + 1)).blt most = true := by rw [Nat.blt_eq]; unfold most; simp only [List.length_cons, List.length_nil]; omega
    have hsl : slice? (L.map AV.str) 0 (L.length * 1) = some (L.map AV.str) := slice_whole _ _ (by simp)
    have hap : Go.Aes.app 1 16 (.hsl j 0 L.length L.length 1 true) (.sl [[.str s]] .full) true none H = some (.hsl H.nx 0 (L.length + 1) (L.length + 1) 1 true, (H.set j none).push (.cells (L.map AV.str ++ [.str s]))) := by
      unfold Go.Aes.app
      rw [hx]
      have e1 : AO.unT none (.cells (L.map AV.str)) = some (L.map AV.str) := rfl
      have e2 : allOne ([[AV.str s]] : List (List AV)).flatten = true := rfl
      simp only [hb, okI_i htl, e2, hg, e1, hsl, new_i, AO.mkT, AH.nx_set]
      rfl
    refine ⟨_, (H.set j none).push (.cells (L.map AV.str ++ [.str s])), fun k => ?_, .inr ⟨H.nx, L.length + 1, rfl, by simp, ?_⟩, inferInstance⟩
    · unfold qApp
      rw [hap, qHp_some]
    · have := get_push_at (H := H.set j none) (.cells (L.map AV.str ++ [.str s]))
      rw [AH.nx_set] at this
      rw [this, List.map_append]; rfl

theorem lin_at {s : Str} {i : Nat} {c : UInt8} (h : s[i]? = some c) (cur : Str) : linesD cur (s.drop i) = if c = 13 ∧ s[i + 1]? = some 10 then cur :: linesD [] (s.drop (i + 2)) else if c = 10 ∨ c = 13 then cur :: linesD [] (s.drop (i + 1)) else linesD (cur ++ [c]) (s.drop (i + 1)) := by
  have hl := (List.getElem?_eq_some_iff.1 h).1
  have hd : s.drop i = c :: s.drop (i + 1) := by
    rw [List.drop_eq_getElem_cons hl]
    have := List.getElem?_eq_getElem hl
    rw [h] at this
    injection this with this
    rw [← this]
  rw [hd, linesD, List.head?_drop, List.tail_drop]

set_option maxHeartbeats 1000000 in
theorem ep67 (s : Str) (hs : s.length < 900000) (H : AH) [IsFn H] : ∃ v H', EP 67 [.str s] H = some (.val v H') ∧ Ls H' v (linesD [] s) ∧ IsFn H' := by
  refine ao_form (X := X) (D := OD2) (O := OF2) (S := PS) (al := [.str s]) (H := H) e67 xf67 rfl rfl (Q := fun v H' => Ls H' v (linesD [] s) ∧ IsFn H') ?_
  have rw1 : ∀ (x : Str) (k : AV → Prop), qRows z9 1 [(0, .str x)] k = k (.sl [[.str x]] .full) := fun x k => rfl
  simp -implicitDefEqProofs only [c67, r67_0, r67_1, r67_2, r67_3, opn_z, opn_s, qFn_eq, qBl_eq]
  refine loop_inv (fun m fr H' => ∃ (i a : Nat) (L : List Str) (v : AV) (x2 x9 x21 x46 : AV), m = s.length - i ∧ i ≤ s.length ∧ a ≤ i ∧ fr = [.str s, x2, v, .int .i64 (a : Int), .int .i64 (i : Int), x9, x21, x46] ∧ IsFn H' ∧ Ls H' v L ∧ L.length ≤ i ∧ L ++ linesD ((s.take i).drop a) (s.drop i) = linesD [] s) ?_ (m := s.length) ?_
  case refine_2 => exact ⟨0, 0, [], .sl [] .nil, _, _, _, _, rfl, by omega, by omega, rfl, inferInstance, .inl ⟨rfl, rfl⟩, by simp, by simp⟩
  rintro m fr H' k ⟨i, a, L, v, x2, x9, x21, x46, rfl, hi, ha, rfl, hf, hL, hLl, hX⟩ hk
  rcases Nat.lt_or_ge i s.length with h | h
  case inr =>
    have c1 : ¬ (i : Int) < (s.length : Int) := by omega
    obtain ⟨v', H2, a1, a2, a3⟩ := hL.app ((s.take i).drop a) (by omega)
    have sl := fun k => slcS_lo s a (by omega) k
    have e1 : s.drop a = (s.take i).drop a := by rw [List.take_of_length_le h]
    rw [e1] at sl
    rw [List.drop_of_length_le h, linesD] at hX
    rw [hX] at a2
    simp -implicitDefEqProofs only [l67_6, r67_4, r67_11, opn_z, opn_s, sel_z, sel_s, qCd_eq, qIf_false, qBl_eq, qLss_int, qLenS_str, c1, decide_false, sl, rw1, a1]
    exact ⟨a2, a3⟩
  have c1 : (i : Int) < (s.length : Int) := by omega
  obtain ⟨c, hc⟩ : ∃ c, s[i]? = some c := ⟨_, List.getElem?_eq_getElem h⟩
  have ix := fun k => qIx_str (R := Prop) hc .i64 k
  rw [lin_at hc] at hX
  have hw := wrap_up i (by omega)
  have hcb : (s.take (i + 1)).drop (i + 1) = [] := by rw [List.drop_take]; simp
  have q10 : (((c.toNat : Nat) : Int) == 10) = decide (c = 10) := eqU c 10
  have q13 : (((c.toNat : Nat) : Int) == 13) = decide (c = 13) := eqU c 13
  have grow : (s.take (i + 1)).drop a = (s.take i).drop a ++ [c] := by
    rw [take_succ' hc, List.drop_append_of_le_length (by simp; omega)]
  by_cases n1 : c = 10 ∨ c = 13
  case neg =>
    have g1 : decide (c = 10) = false := decide_eq_false (fun e => n1 (.inl e))
    have g2 : decide (c = 13) = false := decide_eq_false (fun e => n1 (.inr e))
    rw [g1] at q10
    rw [g2] at q13
    rw [if_neg (fun hh => n1 (.inr hh.1)), if_neg n1] at hX
    simp -implicitDefEqProofs only [l67_6, r67_4, r67_5, r67_6, opn_z, opn_s, sel_z, sel_s, qCd_eq, qIf_true, qBl_eq, qPick_true, qG_tt, qLss_int, qNeq_int, qAdd_int, qLenS_str, c1, decide_true, ix, q10, q13, Bool.not_false, hw]
    exact hk (s.length - (i + 1)) _ _ (by omega) ⟨i + 1, a, L, v, _, _, _, _, rfl, h, by omega, rfl, hf, hL, by omega, by rw [grow]; exact hX⟩
  obtain ⟨v', H2, a1, a2, a3⟩ := hL.app ((s.take i).drop a) (by omega)
  have sl := fun k => slcS_mid s a i ha hi k
  by_cases n2 : c = 13 ∧ s[i + 1]? = some 10
  · rw [if_pos n2] at hX
    obtain ⟨n3, n4⟩ := n2
    have g1 : decide (c = 10) = false := decide_eq_false (fun e => by rw [n3] at e; cases e)
    rw [g1] at q10
    rw [decide_eq_true n3] at q13
    have hl2 := (List.getElem?_eq_some_iff.1 n4).1
    have c2 : ((i + 1 : Nat) : Int) < (s.length : Int) := by omega
    have ix2 : ∀ k : AV → Prop, qIx (.str s) (.int .i64 ((i + 1 : Nat) : Int)) k = k (.int .u8 10) := fun k => qIx_str (R := Prop) n4 .i64 k
    have hw2 := wrap_up (i + 1) (by omega)
    simp -implicitDefEqProofs only [l67_6, r67_4, r67_5, r67_6, r67_7, r67_8, r67_9, r67_10, opn_z, opn_s, sel_z, sel_s, qCd_eq, qIf_true, qIf_false, qBl_eq, qPick_true, qG_tt, qLss_int, qEql_int, qNeq_int, qAdd_int, qLenS_str, c1, decide_true, ix, q10, q13, Bool.not_false, Bool.not_true, hw, sl, rw1, a1, c2, ix2, beq_self_eq_true, hw2]
    refine hk (s.length - (i + 1 + 1)) _ _ (by omega) ⟨i + 1 + 1, i + 1 + 1, _, v', _, _, _, _, rfl, by omega, by omega, rfl, a3, a2, by simp; omega, ?_⟩
    have hcb : (s.take (i + 1 + 1)).drop (i + 1 + 1) = [] := by rw [List.drop_take]; simp
    rw [hcb, ← hX]; simp
  · rw [if_neg n2, if_pos n1] at hX
    have hX' : (L ++ [(s.take i).drop a]) ++ linesD ((s.take (i + 1)).drop (i + 1)) (s.drop (i + 1)) = linesD [] s := by rw [hcb, ← hX]; simp
    by_cases n3 : c = 13
    case neg =>
      have n5 : c = 10 := n1.resolve_right n3
      rw [decide_eq_true n5] at q10
      rw [decide_eq_false n3] at q13
      simp -implicitDefEqProofs only [l67_6, r67_4, r67_5, r67_6, r67_7, r67_8, r67_10, opn_z, opn_s, sel_z, sel_s, qCd_eq, qIf_true, qIf_false, qBl_eq, qPick_false, qG_ft, qLss_int, qEql_int, qNeq_int, qAdd_int, qLenS_str, c1, decide_true, ix, q10, q13, Bool.not_true, hw, sl, rw1, a1]
      exact hk (s.length - (i + 1)) _ _ (by omega) ⟨i + 1, i + 1, _, v', _, _, _, _, rfl, h, by omega, rfl, a3, a2, by simp; omega, hX'⟩
    have g1 : decide (c = 10) = false := decide_eq_false (fun e => by rw [n3] at e; cases e)
    rw [g1] at q10
    rw [decide_eq_true n3] at q13
    rcases Nat.lt_or_ge (i + 1) s.length with h2 | h2
    case inr =>
      have c2 : ¬ ((i + 1 : Nat) : Int) < (s.length : Int) := by omega
      simp -implicitDefEqProofs only [l67_6, r67_4, r67_5, r67_6, r67_7, r67_8, r67_10, opn_z, opn_s, sel_z, sel_s, qCd_eq, qIf_true, qIf_false, qBl_eq, qPick_true, qPick_false, qG_tt, qG_ft, qLss_int, qEql_int, qNeq_int, qAdd_int, qLenS_str, c1, decide_true, decide_false, ix, q10, q13, Bool.not_false, Bool.not_true, hw, sl, rw1, a1, c2]
      exact hk (s.length - (i + 1)) _ _ (by omega) ⟨i + 1, i + 1, _, v', _, _, _, _, rfl, h, by omega, rfl, a3, a2, by simp; omega, hX'⟩
    have c2 : ((i + 1 : Nat) : Int) < (s.length : Int) := by omega
    obtain ⟨d, hd⟩ : ∃ d, s[i + 1]? = some d := ⟨_, List.getElem?_eq_getElem h2⟩
    have nd : ¬ d = 10 := fun e => n2 ⟨n3, by rw [hd, e]⟩
    have qd : (((d.toNat : Nat) : Int) == 10) = decide (d = 10) := eqU d 10
    rw [decide_eq_false nd] at qd
    have ix2 := fun k => qIx_str (R := Prop) hd .i64 k
    simp -implicitDefEqProofs only [l67_6, r67_4, r67_5, r67_6, r67_7, r67_8, r67_10, opn_z, opn_s, sel_z, sel_s, qCd_eq, qIf_true, qIf_false, qBl_eq, qPick_true, qG_tt, qLss_int, qEql_int, qNeq_int, qAdd_int, qLenS_str, c1, decide_true, ix, q10, q13, Bool.not_false, Bool.not_true, hw, sl, rw1, a1, c2, ix2, qd]
    exact hk (s.length - (i + 1)) _ _ (by omega) ⟨i + 1, i + 1, _, v', _, _, _, _, rfl, h, by omega, rfl, a3, a2, by simp; omega, hX'⟩
end T
