import Derived.Test.YtphgikpdbaeeoaaDoorRdD
set_option linter.all false
set_option linter.unusedVariables false
set_option linter.unusedSimpArgs false
set_option maxRecDepth 10000
namespace T
open Go Go.Aes Go.Proofs

theorem qEql_bool (a b : Bool) (k : AV → Prop) : qEql X 4 (.bool a) (.bool b) k = k (.bool (a == b)) := by
  unfold qEql intsK
  simp only [binop, und4, refEq, Option.map_some, qO_some]

set_option maxHeartbeats 2000000 in
theorem right_walk (d : Nat) (hd : d < 1000) (ih : RightOk d) {H : AH} [IsFn H] {kind : Int} {s : Str} {ns : List Str} {l : List Val} {nv lv : AV} {rows : List (List AV)} (hN : Rd H 1 (strRows ns) nv) (hL : Rd H 4 rows lv) (hE : EVs l rows)
    (hsz : vsz (.mk kind s ns l)) (Q : AV → AH → Prop) (hQ : ∀ H', Kp H H' (fun _ => False) → Q (.bool (rightF (d + 1) (.mk kind s ns l))) H') : c45 EP [.agg [.int .i64 kind, .str s, nv, lv], .int .i64 ((d + 1 : Nat) : Int)] H Q := by
  obtain ⟨z1, z2, z3, z4, z5⟩ := hsz
  have o1 := hN.one
  have o2 := hL.one
  have bx : ∀ k : AV → AH → Prop, qBox (.agg [.int .i64 kind, .str s, nv, lv]) H k = k (.ptr H.nx 0) (H.push (.cells [.int .i64 kind, .str s, nv, lv])) := fun k => by
    rw [qBox_i, cells_agg]
    simp only [allOne_cons, allOne_nil, one_int, one_str, o1, o2, Bool.and_true, cond_true]
  have g0 := get_push_at (H := H) (.cells [.int .i64 kind, .str s, nv, lv])
  have kp : Kp H (H.push (.cells [.int .i64 kind, .str s, nv, lv])) (fun _ => False) := Kp.push _ _
  have hN' := hN.kp kp
  have hL' := hL.kp kp
  have hd1 : ¬ (((d + 1 : Nat) : Int) < 1) := by omega
  simp -implicitDefEqProofs only [c45, r45_0, r45_1, opn_z, opn_s, sel_z, sel_s, qCd_eq, qIf_false, qFn_eq, qBl_eq, qLss_int, bx, hd1, decide_false]
  generalize H.push (.cells [.int .i64 kind, .str s, nv, lv]) = Ha at *
  haveI := kp.fn
  have p0 := fun k => ld1 (R := Prop) g0 0 _ rfl k
  have p1 := fun k => ld1 (R := Prop) g0 1 _ rfl k
  have p2 := fun k => ld1 (R := Prop) g0 2 _ rfl k
  have p3 := fun k => ld1 (R := Prop) g0 3 _ rfl k
  have e1 := fun k => hN'.len k
  have e2 := fun k => hL'.len k
  rw [strRows_len] at e1
  rw [hE.len] at e2
  have b1 := dec_len0' ns
  have b2 := dec_len0' l
  have q := hQ Ha kp
  have bare : ∀ (k : KT Prop), (∀ (x0 x6 x7 x9 x11 x23 x24 x32 x45 x65 x73 x83 x84 x103 x105 x106 x107 x108 x115 : AV), k [x0, .int .i64 ((d + 1 : Nat) : Int), .ptr H.nx 0, .bool false, .bool (decide (ns = []) && decide (l = [])), x6, x7, x9, x11, x23, x24, x32, x45, x65, x73, x83, x84, x103, x105, x106, x107, x108, x115] Ha) → ∀ (x0 x5 x6 x7 x9 x11 x23 x24 x32 x45 x65 x73 x83 x84 x103 x105 x106 x107 x108 x115 : AV), r45_3 k [x0, .int .i64 ((d + 1 : Nat) : Int), .ptr H.nx 0, .bool false, x5, x6, x7, x9, x11, x23, x24, x32, x45, x65, x73, x83, x84, x103, x105, x106, x107, x108, x115] Ha := by
    intro k hk x0 x5 x6 x7 x9 x11 x23 x24 x32 x45 x65 x73 x83 x84 x103 x105 x106 x107 x108 x115
    cases hb1 : decide (ns = []) with
    | false =>
      rw [hb1] at hk b1
      simp -implicitDefEqProofs only [r45_3, opn_z, opn_s, qPick_false, qG_ft, qFa_ptr, qEql_int, Nat.zero_add, p2, e1, b1]
      simpa using hk _ _ _ _ _ _ _ _ _ _ _ _ _ _ _ _ _ _ _
    | true =>
      rw [hb1] at hk b1
      simp -implicitDefEqProofs only [r45_3, opn_z, opn_s, qPick_true, qG_tt, qFa_ptr, qEql_int, Nat.zero_add, p2, p3, e1, e2, b1, b2]
      simpa using hk _ _ _ _ _ _ _ _ _ _ _ _ _ _ _ _ _ _ _
  by_cases k1 : kind = 1
  · subst k1
    have hr : rightF (d + 1) (.mk 1 s ns l) = (decide (ns = []) && decide (l = []) && decide (s = [])) := rfl
    rw [hr] at q
    generalize (decide (ns = []) && decide (l = [])) = bb at *
    (first | apply bare | refine bare _ ?_ _ _ _ _ _ _ _ _ _ _ _ _ _ _ _ _ _ _ _ _)
    intro x0 x6 x7 x9 x11 x23 x24 x32 x45 x65 x73 x83 x84 x103 x105 x106 x107 x108 x115
    cases bb <;> simp -implicitDefEqProofs only [r45_4, r45_6, r45_7, opn_z, opn_s, sel_z, sel_s, qCd_eq, qIf_true, qPick_true, qPick_false, qG_tt, qG_ft, qFa_ptr, qEql_int, Nat.zero_add, p0, p1, beq_self_eq_true, qEql_str] <;> simpa using q
  have n1 : (kind == 1) = false := by simpa using k1
  by_cases k2 : kind = 2
  · subst k2
    have hr : rightF (d + 1) (.mk 2 s ns l) = (decide (ns = []) && decide (l = []) && (decide (s = sT) || decide (s = sF))) := rfl
    rw [hr] at q
    generalize (decide (ns = []) && decide (l = [])) = bb at *
    (first | apply bare | refine bare _ ?_ _ _ _ _ _ _ _ _ _ _ _ _ _ _ _ _ _ _ _ _)
    intro x0 x6 x7 x9 x11 x23 x24 x32 x45 x65 x73 x83 x84 x103 x105 x106 x107 x108 x115
    have hT : decide (s = [116, 114, 117, 101]) = decide (s = sT) := rfl
    have hF : decide (s = [102, 97, 108, 115, 101]) = decide (s = sF) := rfl
    cases bb with
    | false =>
      simp -implicitDefEqProofs only [r45_4, r45_6, r45_8, r45_9, opn_z, opn_s, sel_z, sel_s, qCd_eq, qIf_true, qIf_false, qPick_false, qG_ft, qFa_ptr, qEql_int, Nat.zero_add, qG_un, p0, n1, beq_self_eq_true]
      simpa using q
    | true =>
      cases hst : decide (s = sT) with
      | true =>
        rw [hst] at q
        simp -implicitDefEqProofs only [r45_4, r45_6, r45_8, r45_9, opn_z, opn_s, sel_z, sel_s, qCd_eq, qIf_true, qIf_false, qPick_true, qG_tt, qG_tf, qFa_ptr, qEql_int, Nat.zero_add, p0, p1, n1, beq_self_eq_true, qEql_str, hT, hst]
        simpa using q
      | false =>
        rw [hst] at q
        simp -implicitDefEqProofs only [r45_4, r45_6, r45_8, r45_9, opn_z, opn_s, sel_z, sel_s, qCd_eq, qIf_true, qIf_false, qPick_true, qPick_false, qG_tt, qG_ff, qFa_ptr, qEql_int, Nat.zero_add, p0, p1, n1, beq_self_eq_true, qEql_str, hT, hst, hF]
        simpa using q
  have n2 : (kind == 2) = false := by simpa using k2
  have e15 := fun H => ep15 s z1 H
  have num34 : (kind = 3 ∨ kind = 4) → ∀ (x0 x6 x7 x9 x11 x23 x24 x32 x45 x65 x73 x83 x84 x103 x105 x106 x107 x108 x115 : AV), (r45_12 EP (r45_13 (fun fr H => Q (sel 3 fr) H))) [x0, .int .i64 ((d + 1 : Nat) : Int), .ptr H.nx 0, .bool false, .bool (decide (ns = []) && decide (l = [])), x6, x7, x9, x11, x23, x24, x32, x45, x65, x73, x83, x84, x103, x105, x106, x107, x108, x115] Ha := by
    intro hk x0 x6 x7 x9 x11 x23 x24 x32 x45 x65 x73 x83 x84 x103 x105 x106 x107 x108 x115
    have hr : rightF (d + 1) (.mk kind s ns l) = (decide (ns = []) && decide (l = []) && (num s).2 && ((num s).1 == decide (kind = 3))) := by
      simp only [rightF, if_neg k1, if_neg k2, if_pos hk]
    rw [hr] at q
    have h3 : (kind == 3) = decide (kind = 3) := by
      rw [Bool.eq_iff_iff]; simp
    generalize (decide (ns = []) && decide (l = [])) = bb at *
    generalize num s = nn at *
    obtain ⟨n1', n2'⟩ := nn
    cases bb <;> cases n2' <;> simp -implicitDefEqProofs only [r45_12, r45_13, opn_z, opn_s, sel_z, sel_s, qO_some, qRes_val, qPick_true, qPick_false, qG_tt, qG_ft, qFa_ptr, qExt_tup, qEql_int, Nat.zero_add, List.getElem?_cons_zero, List.getElem?_cons_succ, p0, p1, e15, h3, qEql_bool] <;> simpa using q
  by_cases k3 : kind = 3
  · have n3 : (kind == 3) = true := by simpa using k3
    (first | apply bare | refine bare _ ?_ _ _ _ _ _ _ _ _ _ _ _ _ _ _ _ _ _ _ _ _)
    intro x0 x6 x7 x9 x11 x23 x24 x32 x45 x65 x73 x83 x84 x103 x105 x106 x107 x108 x115
    simp -implicitDefEqProofs only [r45_4, r45_6, r45_8, r45_10, opn_z, opn_s, sel_z, sel_s, qCd_eq, qIf_true, qIf_false, qFa_ptr, qEql_int, Nat.zero_add, p0, n1, n2, n3]
    (first | exact num34 (.inl k3) _ _ _ _ _ _ _ _ _ _ _ _ _ _ _ _ _ _ _ | (apply num34 (.inl k3) <;> exact Aes.undef))
  have n3 : (kind == 3) = false := by simpa using k3
  by_cases k4 : kind = 4
  · have n4 : (kind == 4) = true := by simpa using k4
    (first | apply bare | refine bare _ ?_ _ _ _ _ _ _ _ _ _ _ _ _ _ _ _ _ _ _ _ _)
    intro x0 x6 x7 x9 x11 x23 x24 x32 x45 x65 x73 x83 x84 x103 x105 x106 x107 x108 x115
    simp -implicitDefEqProofs only [r45_4, r45_6, r45_8, r45_10, r45_11, opn_z, opn_s, sel_z, sel_s, qCd_eq, qIf_true, qIf_false, qFa_ptr, qEql_int, Nat.zero_add, p0, n1, n2, n3, n4]
    (first | exact num34 (.inr k4) _ _ _ _ _ _ _ _ _ _ _ _ _ _ _ _ _ _ _ | (apply num34 (.inr k4) <;> exact Aes.undef))
  have n4 : (kind == 4) = false := by simpa using k4
  have h34 : ¬ (kind = 3 ∨ kind = 4) := by omega
  by_cases k5 : kind = 5
  · have n5 : (kind == 5) = true := by simpa using k5
    have hr : rightF (d + 1) (.mk kind s ns l) = (decide (ns = []) && decide (l = []) && Lib.validD s) := by simp only [rightF, if_neg k1, if_neg k2, if_neg h34, if_pos k5]
    rw [hr] at q
    have e30 := fun H => ep30 s z1 H
    generalize (decide (ns = []) && decide (l = [])) = bb at *
    (first | apply bare | refine bare _ ?_ _ _ _ _ _ _ _ _ _ _ _ _ _ _ _ _ _ _ _ _)
    intro x0 x6 x7 x9 x11 x23 x24 x32 x45 x65 x73 x83 x84 x103 x105 x106 x107 x108 x115
    cases bb <;> simp -implicitDefEqProofs only [r45_4, r45_6, r45_8, r45_10, r45_11, r45_14, r45_15, opn_z, opn_s, sel_z, sel_s, qCd_eq, qIf_true, qIf_false, qRes_val, qPick_true, qPick_false, qG_tt, qG_ft, qFa_ptr, qEql_int, Nat.zero_add, p0, p1, n1, n2, n3, n4, n5, e30] <;> simpa using q
  have n5 : (kind == 5) = false := by simpa using k5
  have go : rightF (d + 1) (.mk kind s ns l) = l.all (rightF d) → ∀ H', Kp H H' (fun _ => False) → H'.get H.nx = some (.cells [.int .i64 kind, .str s, nv, lv]) → ∀ (x0 x5 x6 x7 x9 x11 x23 x24 x32 x45 x65 x73 x83 x84 x103 x105 x106 x107 x108 x115 : AV),
      (r45_22 (qLoop (l45_5 EP (r45_28 (fun fr H => Q (sel 3 fr) H)) (fun fr H => Q (sel 3 fr) H)))) [x0, .int .i64 ((d + 1 : Nat) : Int), .ptr H.nx 0, .bool false, x5, x6, x7, x9, x11, x23, x24, x32, x45, x65, x73, x83, x84, x103, x105, x106, x107, x108, x115] H' := by
    intro hr H' kp' hg' x0 x5 x6 x7 x9 x11 x23 x24 x32 x45 x65 x73 x83 x84 x103 x105 x106 x107 x108 x115
    haveI := kp'.fn
    have p3' := fun k => ld1 (R := Prop) hg' 3 _ rfl k
    have e2' := fun k => (hL.kp kp').len k
    rw [hE.len] at e2'
    simp -implicitDefEqProofs only [r45_22, opn_z, opn_s, qFa_ptr, Nat.zero_add, p3', e2']
    (first
      | exact right_loop d hd ih hE z5 z4 hL _ _ (fun ha H'' k'' x0 x1 x2 x5 x6 x7 x9 x11 x23 x24 x32 x45 x65 x73 x83 x84 x103 x105 x106 x107 x108 x115 => by have := hQ H'' k''; rw [hr, ha] at this; exact this)
          (fun ha H'' k'' x0 x1 x2 x4 x5 x6 x7 x9 x11 x23 x24 x32 x45 x65 x73 x83 x84 x103 x105 x106 x107 x108 x115 => by have := hQ H'' k''; rw [hr, ha] at this; simp -implicitDefEqProofs only [r45_28, opn_z, opn_s, sel_z, sel_s]; exact this) kp' _ _ _ _ _ _ _ _ _ _ _ _ _ _ _ _ _ _ _)
  by_cases k7 : kind = 7
  · have n7 : (kind == 7) = true := by simpa using k7
    have hr : rightF (d + 1) (.mk kind s ns l) = (decide (s = []) && decide (ns = []) && l.all (rightF d)) := by simp only [rightF, if_neg k1, if_neg k2, if_neg h34, if_neg k5, if_pos k7]
    (first | apply bare | refine bare _ ?_ _ _ _ _ _ _ _ _ _ _ _ _ _ _ _ _ _ _ _ _)
    intro x0 x6 x7 x9 x11 x23 x24 x32 x45 x65 x73 x83 x84 x103 x105 x106 x107 x108 x115
    cases hs : decide (s = []) with
    | false =>
      rw [hr, hs] at q
      simp -implicitDefEqProofs only [r45_4, r45_6, r45_8, r45_10, r45_11, r45_14, r45_16, r45_17, r45_18, opn_z, opn_s, sel_z, sel_s, qCd_eq, qIf_true, qIf_false, qPick_true, qG_tf, qFa_ptr, qEql_int, Nat.zero_add, p0, p1, n1, n2, n3, n4, n5, n7, qNeq_str, hs, Bool.not_false]
      exact q
    | true =>
      cases hn : decide (ns = []) with
      | false =>
        rw [hr, hs, hn] at q
        rw [hn] at b1
        simp -implicitDefEqProofs only [r45_4, r45_6, r45_8, r45_10, r45_11, r45_14, r45_16, r45_17, r45_18, opn_z, opn_s, sel_z, sel_s, qCd_eq, qIf_true, qIf_false, qPick_false, qG_ff, qFa_ptr, qEql_int, qNeq_int, Nat.zero_add, p0, p1, p2, n1, n2, n3, n4, n5, n7, qNeq_str, hs, Bool.not_true, Bool.not_false, e1, b1]
        exact q
      | true =>
        rw [hn] at b1
        rw [hs, hn, Bool.true_and, Bool.true_and] at hr
        simp -implicitDefEqProofs only [r45_4, r45_6, r45_8, r45_10, r45_11, r45_14, r45_16, r45_17, opn_z, opn_s, sel_z, sel_s, qCd_eq, qIf_true, qIf_false, qPick_false, qG_ff, qFa_ptr, qEql_int, qNeq_int, Nat.zero_add, p0, p1, p2, n1, n2, n3, n4, n5, n7, qNeq_str, hs, Bool.not_true, e1, b1]
        (first | exact go hr Ha kp g0 _ _ _ _ _ _ _ _ _ _ _ _ _ _ _ _ _ _ _ _ | (apply go hr Ha kp g0 <;> exact Aes.undef))
  have n7 : (kind == 7) = false := by simpa using k7
  by_cases k8 : kind = 8
  · have n8 : (kind == 8) = true := by simpa using k8
    have hr : rightF (d + 1) (.mk kind s ns l) = (decide (s = []) && decide (ns.length = l.length) && nmF [] ns && l.all (rightF d)) := by simp only [rightF, if_neg k1, if_neg k2, if_neg h34, if_neg k5, if_neg k7, if_pos k8]
    (first | apply bare | refine bare _ ?_ _ _ _ _ _ _ _ _ _ _ _ _ _ _ _ _ _ _ _ _)
    intro x0 x6 x7 x9 x11 x23 x24 x32 x45 x65 x73 x83 x84 x103 x105 x106 x107 x108 x115
    cases hs : decide (s = []) with
    | false =>
      rw [hr, hs] at q
      simp -implicitDefEqProofs only [r45_4, r45_6, r45_8, r45_10, r45_11, r45_14, r45_16, r45_19, r45_20, r45_21, opn_z, opn_s, sel_z, sel_s, qCd_eq, qIf_true, qIf_false, qPick_true, qG_tf, qFa_ptr, qEql_int, Nat.zero_add, p0, p1, n1, n2, n3, n4, n5, n7, n8, qNeq_str, hs, Bool.not_false]
      exact q
    | true =>
      have hll : ((ns.length : Int) == (l.length : Int)) = decide (ns.length = l.length) := by
        rw [Bool.eq_iff_iff]; simp; omega
      cases hn : decide (ns.length = l.length) with
      | false =>
        rw [hr, hs, hn] at q
        rw [hn] at hll
        simp -implicitDefEqProofs only [r45_4, r45_6, r45_8, r45_10, r45_11, r45_14, r45_16, r45_19, r45_20, r45_21, opn_z, opn_s, sel_z, sel_s, qCd_eq, qIf_true, qIf_false, qPick_true, qPick_false, qG_ff, qG_tf, qFa_ptr, qEql_int, qNeq_int, Nat.zero_add, p0, p1, p2, p3, n1, n2, n3, n4, n5, n7, n8, qNeq_str, hs, Bool.not_true, Bool.not_false, e1, e2, hll]
        exact q
      | true =>
        rw [hn] at hll
        obtain ⟨Hc, e73, kpc⟩ := ep73 hN' z2 z3
        haveI := kpc.fn
        have kp2 : Kp H Hc (fun _ => False) := kp.trans kpc (fun _ _ h => h)
        have gc : Hc.get H.nx = some (.cells [.int .i64 kind, .str s, nv, lv]) := (kpc.keep _ (lt_i g0) (fun h => h)).trans g0
        cases hnm : nmF [] ns with
        | false =>
          have q2 := hQ Hc kp2
          rw [hr, hs, hn, hnm] at q2
          rw [hnm] at e73
          simp -implicitDefEqProofs only [r45_4, r45_6, r45_8, r45_10, r45_11, r45_14, r45_16, r45_19, r45_20, r45_21, opn_z, opn_s, sel_z, sel_s, qCd_eq, qIf_true, qIf_false, qRes_val, qPick_false, qG_ff, qFa_ptr, qNot_bool, qEql_int, qNeq_int, Nat.zero_add, p0, p1, p2, p3, n1, n2, n3, n4, n5, n7, n8, qNeq_str, hs, Bool.not_true, Bool.not_false, e1, e2, hll, e73]
          exact q2
        | true =>
          rw [hs, hn, hnm, Bool.true_and, Bool.true_and, Bool.true_and] at hr
          rw [hnm] at e73
          simp -implicitDefEqProofs only [r45_4, r45_6, r45_8, r45_10, r45_11, r45_14, r45_16, r45_19, r45_20, opn_z, opn_s, sel_z, sel_s, qCd_eq, qIf_true, qIf_false, qRes_val, qPick_false, qG_ff, qFa_ptr, qNot_bool, qEql_int, qNeq_int, Nat.zero_add, p0, p1, p2, p3, n1, n2, n3, n4, n5, n7, n8, qNeq_str, hs, Bool.not_true, e1, e2, hll, e73]
          (first | exact go hr Hc kp2 gc _ _ _ _ _ _ _ _ _ _ _ _ _ _ _ _ _ _ _ _ | (apply go hr Hc kp2 gc <;> exact Aes.undef))
  have n8 : (kind == 8) = false := by simpa using k8
  have hr : rightF (d + 1) (.mk kind s ns l) = false := by simp only [rightF, if_neg k1, if_neg k2, if_neg h34, if_neg k5, if_neg k7, if_neg k8]
  rw [hr] at q
  (first | apply bare | refine bare _ ?_ _ _ _ _ _ _ _ _ _ _ _ _ _ _ _ _ _ _ _ _)
  intro x0 x6 x7 x9 x11 x23 x24 x32 x45 x65 x73 x83 x84 x103 x105 x106 x107 x108 x115
  simp -implicitDefEqProofs only [r45_4, r45_5, r45_6, r45_8, r45_10, r45_11, r45_14, r45_16, r45_19, opn_z, opn_s, sel_z, sel_s, qCd_eq, qIf_false, qFa_ptr, qEql_int, Nat.zero_add, p0, n1, n2, n3, n4, n5, n7, n8]
  exact q

theorem ep45 : ∀ d, d < 1000 → RightOk d := by
  intro d
  induction d with
  | zero =>
    intro _ v r hv hsz H
    obtain ⟨a1, a2⟩ := EV.kill _ _ hv
    refine uo_form e45 xf45 rfl rfl (by simp only [AV.kills, AV.kill, AV.frees, AV.free, a2]; rfl) rfl ?_ H
    simp only [AV.kills, AV.kill]
    cases v with
    | mk k s ns l =>
    obtain ⟨t1, t2, rows, h1, h2⟩ := a1
    rw [h1]
    have bx1 : ∀ q : AV → AH → Prop, qBox (.agg [.int .i64 k, .str s, .sl (strRows ns) t1, .sl rows t2]) H0 q = q (.ptr 0 0) (H0.push (.cells [.int .i64 k, .str s, .sl (strRows ns) t1, .sl rows t2])) := fun q => by rw [qBox_i]; rfl
    have h0 : decide (((0 : Nat) : Int) < 1) = true := rfl
    simp -implicitDefEqProofs only [c45, r45_0, r45_1, r45_2, opn_z, opn_s, sel_z, sel_s, qCd_eq, qIf_true, qFn_eq, qBl_eq, qLss_int, bx1, h0]
    rfl
  | succ d ih =>
    intro hd v r hv hsz H
    obtain ⟨a1, a2⟩ := EV.kill _ _ hv
    refine uo_form e45 xf45 rfl rfl (by simp only [AV.kills, AV.kill, AV.frees, AV.free, a2]; rfl) rfl ?_ H
    simp only [AV.kills, AV.kill]
    cases v with
    | mk k s ns l =>
    obtain ⟨t1, t2, rows, h1, h2⟩ := a1
    rw [h1]
    exact right_walk d (by omega) (ih (by omega)) (.sl t1) (.sl t2) h2 hsz _ (fun H' _ => rfl)

/-- of a value whose lists lie in the heap -/
theorem ep45h (d : Nat) (hd : d < 999) {H : AH} [IsFn H] {kind : Int} {s : Str} {ns : List Str} {l : List Val} {nv : AV} {i len cap : Nat} {g : Bool} {rows : List (List AV)} (hN : Rd H 1 (strRows ns) nv) (hL : Rd H 4 rows (.hsl i 0 len cap 4 g)) (hE : EVs l rows)
    (hsz : vsz (.mk kind s ns l)) : ∃ H', EP 45 [.agg [.int .i64 kind, .str s, nv, .hsl i 0 len cap 4 g], .int .i64 ((d + 1 : Nat) : Int)] H = some (.val (.bool (rightF (d + 1) (.mk kind s ns l))) H') ∧ Kp H H' (fun _ => False) := by
  have hfr : (PS 45 && AV.frees (AV.kills [.agg [.int .i64 kind, .str s, nv, .hsl i 0 len cap 4 g], .int .i64 ((d + 1 : Nat) : Int)])) = false := by
    simp only [AV.kills, AV.kill, AV.frees, AV.free, Bool.and_false, Bool.false_and]
  obtain ⟨v, H', h1, h2, h3⟩ := ao_form (al := [.agg [.int .i64 kind, .str s, nv, .hsl i 0 len cap 4 g], .int .i64 ((d + 1 : Nat) : Int)]) (H := H) e45 xf45 rfl hfr (Q := fun v H' => v = .bool (rightF (d + 1) (.mk kind s ns l)) ∧ Kp H H' (fun _ => False))
    (right_walk d (by omega) (ep45 d (by omega)) hN hL hE hsz _ (fun H' kp => ⟨rfl, kp⟩))
  exact ⟨H', h1.trans (by rw [h2]), h3⟩
end T
