import Derived.Test.YtnmljkjdflfdoaaDoorLitX
import Derived.Test.YtnmljkjdflfdoaaDoorJrO
import Derived.Test.YtnmljkjdflfdoaaDoorJrY
set_option linter.all false
set_option linter.unusedVariables false
set_option linter.unusedSimpArgs false
set_option maxRecDepth 10000
namespace T
open Go Go.Aes Go.Proofs

set_option maxHeartbeats 2000000 in
theorem law6 (a b c : Int) : c6 EK [.int .i64 a, .int .i64 b, .int .i64 c] H0 (fun v _ => v = .bool true) := by
  obtain ⟨na, la, pa⟩ := k13n a 1000000 (by omega) (by omega)
  obtain ⟨nb, lb, pb⟩ := k13n b 1000 (by omega) (by omega)
  obtain ⟨k, lk, pk⟩ := k13n c 12 (by omega) (by omega)
  have pa' : ∀ H, EK 13 [.int .i64 a, .int .i64 1000000] H = some (.val (.int .i64 (na : Int)) H) := pa
  have pb' : ∀ H, EK 13 [.int .i64 b, .int .i64 1000] H = some (.val (.int .i64 (nb : Int)) H) := pb
  have pk' : ∀ H, EK 13 [.int .i64 c, .int .i64 12] H = some (.val (.int .i64 (k : Int)) H) := pk
  have p6 : (10 : Nat) ^ 6 = 1000000 := by decide
  have p3 : (10 : Nat) ^ 3 = 1000 := by decide
  have p18 : (1000000 : Nat) < 10 ^ 18 := by decide
  have da := fun H => k14 na (by omega) H
  have db := fun H => k14 nb (by omega) H
  obtain ⟨wx, lx⟩ := decs_wh 6 na (by omega) (by omega) (by omega)
  obtain ⟨wy, ly⟩ := decs_wh 3 nb (by omega) (by omega) (by omega)
  generalize decs na = x at da wx lx
  generalize decs nb = y at db wy ly
  obtain ⟨s, hs, ix⟩ := ix42 x y k lk
  obtain ⟨w1, w2, w3, w4, w5⟩ := f6_word wx wy lx ly k s hs
  have a1 := fun kc => qAdd_str (R := Prop) X 9 [45] x (by unfold most; simp; omega) kc
  have a2 := fun kc => qAdd_str (R := Prop) X 9 x [46] (by unfold most; simp; omega) kc
  have a3 := fun kc => qAdd_str (R := Prop) X 9 (x ++ [46]) y (by unfold most; simp; omega) kc
  have a4 := fun kc => qAdd_str (R := Prop) X 9 x [101, 45] (by unfold most; simp; omega) kc
  have a5 := fun kc => qAdd_str (R := Prop) X 9 (x ++ [101, 45]) y (by unfold most; simp; omega) kc
  have a7 := fun kc => qAdd_str (R := Prop) X 9 [48] x (by unfold most; simp; omega) kc
  have a8 := fun kc => qAdd_str (R := Prop) X 9 [91] s (by unfold most; simp; omega) kc
  have a9 := fun kc => qAdd_str (R := Prop) X 9 (91 :: s) [93] (by unfold most; simp; omega) kc
  have hr := readF_word w1 w2 (by omega)
  obtain ⟨row, ev, _, h8⟩ := k8 (91 :: (s ++ [93]))
  have z00 : ((0 : Int) == 0) = true := rfl
  have z22 : ((2 : Int) == 2) = true := rfl
  by_cases h5 : 5 < k
  · rw [w4 h5] at hr
    simp only [] at hr
    rw [hr] at ev h8
    obtain ⟨ca, Ha, Hb, n1, s1, ib, g1, _⟩ := cellW (H := H0) ev.four ev.ones
    have n1' := fun (kc : AV → AH → Prop) => n1 kc
    have s1' := fun (kc : AV → AH → Prop) => s1 kc
    have c5 : (k : Int) > 5 := by omega
    obtain ⟨u1, u2, ww, rfl, _⟩ := ev
    have l0 := fun (kc : AV → Prop) => ld1 g1 0 (.int .i64 0) rfl kc
    simp -implicitDefEqProofs only [c6, r6_0, r6_1, r6_2, r6_3, r6_4, r6_5, r6_6, opn_z, opn_s, sel_z, sel_s, qCd_eq, qIf_true, qIf_false, qFn_eq, qBl_eq, qO_some, qRes_val, qHp_some, qPick_true, qPick_false, qG_tt, qG_ff, qG_tf, qG_ft, cellsK_some, qLd_vptr, qLdA_vptr, qFa_ptr, qFa_vptr, qNc_ptr, qNc_vptr, qNc_fn, qNot_bool, qExt_tup, qCallV_fn, qLss_int, qLeq_int, qGtr_int, qGeq_int, qEql_int, qNeq_int, qAdd_int, qSub_int, qMul_int, qConvI_int, qLenL_sl, qLenL_hsl, qLenS_str, foldO, min2_int, max2_int, qSame_refl, Nat.zero_add, List.getElem?_cons_zero, List.getElem?_cons_succ, List.nil_append, List.cons_append, List.append_nil, one_bool, one_int, one_str, one_nilp, one_ptr, one_sl, one_hsl, one_map, one_fn, List.length_cons, List.length_nil, List.set_cons_zero, List.set_cons_succ, Nat.reduceLT, Nat.reduceAdd, qG_un, qResN_val, qCallVN_fn, pa', pb', pk', da, db, a1, a2, a3, a4, a5, a7, ix, a8, a9, h8, n1', s1', c5, decide_true, z22, l0, z00, k7]
  · obtain ⟨n, t, m1, m2, m3⟩ := w5 (by omega)
    rw [m2] at hr
    simp only [] at hr
    rw [hr] at ev h8
    obtain ⟨ca, Ha, Hb, n1, s1, ib, g1, _⟩ := cellW (H := H0) ev.four ev.ones
    have n1' := fun (kc : AV → AH → Prop) => n1 kc
    have s1' := fun (kc : AV → AH → Prop) => s1 kc
    have c5 : ¬ (k : Int) > 5 := by omega
    have ix2 := ix43 k (by omega) n m1
    obtain ⟨u1, u2, rows, rfl, he⟩ := ev
    obtain ⟨r1, rs1, rfl, e1, rfl⟩ := he
    obtain ⟨q1, q2, ww, rfl, _⟩ := e1
    have l3 := fun (kc : AV → Prop) => ld1 g1 3 (.sl [[.int .i64 n, .str t, .sl (strRows []) q1, .sl ww q2]] u2) rfl kc
    have ia : ∀ (kc : AV → Prop), qIa 4 (.sl [[.int .i64 n, .str t, .sl (strRows []) q1, .sl ww q2]] u2) (.int .i64 0) kc = kc (.vptr [.int .i64 n, .str t, .sl (strRows []) q1, .sl ww q2] 0) := fun (kc : AV → Prop) => qIa_sl (R := Prop) .i64 kc 4 [[.int .i64 n, .str t, .sl (strRows []) q1, .sl ww q2]] u2 0 [.int .i64 n, .str t, .sl (strRows []) q1, .sl ww q2] rfl rfl
    have nn : (!(n == n)) = false := by simp
    have z0n : (!((0 : Int) == 0)) = false := rfl
    have z1 : (!((((1 : Nat) : Int)) == 1)) = false := rfl
    have z1' : (!(((((0 + 1 : Nat)) : Nat) : Int) == 1)) = false := rfl
    by_cases hk5 : k = 5
    · have ck : ((k : Int) == 5) = true := by rw [hk5]; rfl
      simp -implicitDefEqProofs only [c6, r6_0, r6_1, r6_2, r6_3, r6_4, r6_5, r6_7, r6_8, r6_10, opn_z, opn_s, sel_z, sel_s, qCd_eq, qIf_true, qIf_false, qFn_eq, qBl_eq, qO_some, qRes_val, qHp_some, qPick_true, qPick_false, qG_tt, qG_ff, qG_tf, qG_ft, cellsK_some, qLd_vptr, qLdA_vptr, qFa_ptr, qFa_vptr, qNc_ptr, qNc_vptr, qNc_fn, qNot_bool, qExt_tup, qCallV_fn, qLss_int, qLeq_int, qGtr_int, qGeq_int, qEql_int, qNeq_int, qAdd_int, qSub_int, qMul_int, qConvI_int, qLenL_sl, qLenL_hsl, qLenS_str, foldO, min2_int, max2_int, qSame_refl, Nat.zero_add, List.getElem?_cons_zero, List.getElem?_cons_succ, List.nil_append, List.cons_append, List.append_nil, one_bool, one_int, one_str, one_nilp, one_ptr, one_sl, one_hsl, one_map, one_fn, List.length_cons, List.length_nil, List.set_cons_zero, List.set_cons_succ, Nat.reduceLT, Nat.reduceAdd, qG_un, qResN_val, qCallVN_fn, pa', pb', pk', da, db, a1, a2, a3, a4, a5, a7, ix, a8, a9, h8, n1', s1', c5, decide_false, ix2, z0n, l3, ia, nn, z1, z1', ck, k7]
    · have ck : ((k : Int) == 5) = false := by
        rw [beq_eq_false_iff_ne]; omega
      have ht : t = s := by rcases m3 with h | h; exact absurd h hk5; exact h
      subst ht
      simp -implicitDefEqProofs only [c6, r6_0, r6_1, r6_2, r6_3, r6_4, r6_5, r6_7, r6_8, r6_10, opn_z, opn_s, sel_z, sel_s, qCd_eq, qIf_true, qIf_false, qFn_eq, qBl_eq, qO_some, qRes_val, qHp_some, qPick_true, qPick_false, qG_tt, qG_ff, qG_tf, qG_ft, cellsK_some, qLd_vptr, qLdA_vptr, qFa_ptr, qFa_vptr, qNc_ptr, qNc_vptr, qNc_fn, qNot_bool, qExt_tup, qCallV_fn, qLss_int, qLeq_int, qGtr_int, qGeq_int, qEql_int, qNeq_int, qAdd_int, qSub_int, qMul_int, qConvI_int, qLenL_sl, qLenL_hsl, qLenS_str, foldO, min2_int, max2_int, qSame_refl, Nat.zero_add, List.getElem?_cons_zero, List.getElem?_cons_succ, List.nil_append, List.cons_append, List.append_nil, one_bool, one_int, one_str, one_nilp, one_ptr, one_sl, one_hsl, one_map, one_fn, List.length_cons, List.length_nil, List.set_cons_zero, List.set_cons_succ, Nat.reduceLT, Nat.reduceAdd, qG_un, qResN_val, qCallVN_fn, pa', pb', pk', da, db, a1, a2, a3, a4, a5, a7, ix, a8, a9, h8, n1', s1', c5, decide_false, ix2, z0n, l3, ia, nn, z1, z1', ck, qEql_str, decide_true, k7]
theorem ev_numbers (a b c : Int) : ∃ H', EK 6 [.int .i64 a, .int .i64 b, .int .i64 c] H0 = some (.val (.bool true) H') := by
  obtain ⟨w, H', h1, h2⟩ := az_form (X := X) (D := DK) (O := OK15) (S := PK) (Z := ZK) (al := [.int .i64 a, .int .i64 b, .int .i64 c]) (H := H0) e6 xf6 rfl rfl (Q := fun v _ => v = .bool true) (law6 a b c)
  subst h2
  exact ⟨H', h1⟩
end T
