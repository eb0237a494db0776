import Derived.Test.YtnmljkjdflfdoaaDoorJrX4
set_option linter.all false
set_option linter.unusedVariables false
set_option linter.unusedSimpArgs false
set_option maxRecDepth 10000
namespace T
open Go Go.Aes Go.Proofs

theorem awk1 : readF [32, 91, 49, 32, 44, 32, 34, 97, 34, 93, 32] = (.mk 7 [] [] [.mk 3 [49] [] [], .mk 5 [97] [] []], 0) := by kernel_rfl
theorem awk2 : readF [91, 49, 44, 93] = (zV, 2) := by kernel_rfl
def opS (k : Nat) : Str := List.replicate k 91 ++ List.replicate k 93
def twS (k : Nat) : Str := List.replicate (k - 1) 91 ++ ([123, 34, 97, 34, 58, 49, 44, 34, 97, 34, 58, 50, 125] ++ List.replicate (k - 1) 93)
def okD (k : Nat) : Bool := decide ((readF (opS k)).2 = if k ≤ 12 then 0 else 4) && decide ((readF (twS k)).2 = if 12 ≤ k then 4 else 5)
theorem tabD : ((List.range 20).all fun i => okD (i + 1)) = true := by kernel_rfl

/-- a value put into a cell of its own -/
theorem cellW {H : AH} [IsFn H] {row : List AV} (hl : row.length = 4) (ho : allOne row = true) : ∃ ci Ha Hb, (∀ {R : Type} [Mon R] (k : AV → AH → R), qNew (.cells z26) .ptr H k = k (.ptr ci 0) Ha) ∧ (∀ {R : Type} [Mon R] (k : AV → AH → R), qSt 4 (.ptr ci 0) (.agg row) Ha k = k Aes.undef Hb) ∧ IsFn Hb ∧ Hb.get ci = some (.cells row) ∧ (∀ i ob, H.get i = some ob → Hb.get i = some ob) := by
  have ha := get_push_at (H := H) (.cells z26)
  refine ⟨H.nx, H.push (.cells z26), _, fun {R} _ k => by rw [qNew_i]; rfl, fun {R} _ k => qSt_whole (n := 4) (l := row) ha rfl hl ho k, inferInstance, by rw [get_set_i (lt_i ha), if_pos rfl], fun i ob hi => ?_⟩
  have := lt_i hi
  rw [get_set_i (lt_i ha), if_neg (by omega), get_push_lt _ this]; exact hi

theorem i00 : ((0 : Int) == 0) = true := rfl
theorem i77 : ((7 : Int) == 7) = true := rfl
theorem i22 : ((2 : Int) == 2) = true := rfl
theorem i22' : ((((2 : Nat) : Int)) == 2) = true := rfl
theorem k7 (H : AH) : EK 7 [] H = some (.val (.bool true) H) := by
  refine uz_form (X := X) (D := DK) (O := OK15) (S := PK) (Z := ZK) (al := []) e7 xf7 rfl rfl rfl rfl ?_ H
  simp only [AV.kills]
  obtain ⟨row, ev, _, h8⟩ := k8 [32, 91, 49, 32, 44, 32, 34, 97, 34, 93, 32]
  obtain ⟨row2, ev2, _, h8b⟩ := k8 [91, 49, 44, 93]
  rw [awk1] at ev h8
  rw [awk2] at ev2 h8b
  have f1 := ev.four
  have o1 := ev.ones
  obtain ⟨c1, Ha, Hb, n1, s1, ib, g1, _⟩ := cellW (H := H0) f1 o1
  obtain ⟨c2, Hc, Hd, n2, s2, id, g2, old⟩ := cellW (H := Hb) ev2.four ev2.ones
  have g3 := old _ _ g1
  obtain ⟨t1, t2, rows, rfl, he⟩ := ev
  obtain ⟨r1, rs1, rfl, e1, r2, rs2, rfl, e2, rfl⟩ := he
  obtain ⟨u1, u2, ww, rfl, _⟩ := e2
  have n1' := fun (k : AV → AH → Prop) => n1 k
  have s1' := fun (k : AV → AH → Prop) => s1 k
  have n2' := fun (k : AV → AH → Prop) => n2 k
  have s2' := fun (k : AV → AH → Prop) => s2 k
  have l0 := fun (k : AV → Prop) => ld1 g3 0 (.int .i64 7) rfl k
  have l3 := fun (k : AV → Prop) => ld1 g3 3 (.sl [r1, [.int .i64 5, .str [97], .sl (strRows []) u1, .sl ww u2]] t2) rfl k
  have ia : ∀ (k : AV → Prop), qIa 4 (.sl [r1, [.int .i64 5, .str [97], .sl (strRows []) u1, .sl ww u2]] t2) (.int .i64 1) k = k (.vptr [.int .i64 5, .str [97], .sl (strRows []) u1, .sl ww u2] 0) := fun (k : AV → Prop) => qIa_sl (R := Prop) .i64 k 4 [r1, [.int .i64 5, .str [97], .sl (strRows []) u1, .sl ww u2]] t2 1 [.int .i64 5, .str [97], .sl (strRows []) u1, .sl ww u2] rfl rfl
  simp -implicitDefEqProofs only [c7, r7_0, r7_1, r7_2, r7_3, opn_z, opn_s, sel_z, sel_s, qCd_eq, qIf_true, qIf_false, qFn_eq, qBl_eq, qO_some, qRes_val, qHp_some, qPick_true, qPick_false, qG_tt, qG_ff, qG_tf, qG_ft, cellsK_some, qLd_vptr, qLdA_vptr, qFa_ptr, qFa_vptr, qNc_ptr, qNc_vptr, qNc_fn, qNot_bool, qExt_tup, qCallV_fn, qLss_int, qLeq_int, qGtr_int, qGeq_int, qEql_int, qNeq_int, qAdd_int, qSub_int, qMul_int, qConvI_int, qLenL_sl, qLenL_hsl, qLenS_str, foldO, min2_int, max2_int, qSame_refl, Nat.zero_add, List.getElem?_cons_zero, List.getElem?_cons_succ, List.nil_append, List.cons_append, List.append_nil, one_bool, one_int, one_str, one_nilp, one_ptr, one_sl, one_hsl, one_map, one_fn, List.length_cons, List.length_nil, List.set_cons_zero, List.set_cons_succ, Nat.reduceLT, Nat.reduceAdd, qG_un, qResN_val, qCallVN_fn, h8, h8b, n1', s1', n2', s2', l0, l3, ia, i00, i77, i22, i22', qEql_str, decide_true]
  rfl
end T
set_option linter.unusedVariables false
set_option linter.unusedSimpArgs false
set_option maxRecDepth 10000
namespace T
open Go Go.Aes Go.Proofs

/-! ### a number and blanks -/
theorem skF_rep : ∀ n : Nat, skF (List.replicate n 32) = []
  | 0 => rfl
  | n + 1 => by
    rw [List.replicate_succ]
    show List.dropWhile jb.contains (32 :: List.replicate n 32) = []
    rw [List.dropWhile_cons, if_pos (by decide)]
    exact skF_rep n
theorem tw5 (n : Nat) : (53 :: List.replicate n 32 : Str).takeWhile wdB = [53] := by
  rw [List.takeWhile_cons, if_pos (by decide)]
  cases n with
  | zero => rfl
  | succ n => rw [List.replicate_succ, List.takeWhile_cons, if_neg (by decide)]
theorem dw5 (n : Nat) : (53 :: List.replicate n 32 : Str).dropWhile wdB = List.replicate n 32 := by
  rw [List.dropWhile_cons, if_pos (by decide)]
  cases n with
  | zero => rfl
  | succ n => rw [List.replicate_succ, List.dropWhile_cons, if_neg (by decide)]
theorem wk5 : wordK [53] = some (3, [53]) := by kernel_rfl
theorem readF_5 (n : Nat) : (readF (53 :: List.replicate n 32)).2 = if 4000 < n + 1 then 3 else 0 := by
  unfold readF
  rw [List.length_cons, List.length_replicate]
  split
  · rfl
  · have sk : skF (53 :: List.replicate n 32) = 53 :: List.replicate n 32 := by
      show List.dropWhile jb.contains (53 :: List.replicate n 32) = _
      rw [List.dropWhile_cons, if_neg (by decide)]
    have hb : ∀ c : UInt8, c ≠ 53 → hp (53 :: List.replicate n 32) [c] = false := fun c hc => by rw [hp_one]; simp [Ne.symm hc]
    have h1 : hasB (53 :: List.replicate n 32) [91] = false := by unfold hasB; rw [sk]; exact hb 91 (by decide)
    have h2 : hasS (53 :: List.replicate n 32) [91] = 53 :: List.replicate n 32 := by unfold hasS cutP; rw [sk, hb 91 (by decide), if_neg (by simp)]
    have h3 : hasB (53 :: List.replicate n 32) [123] = false := by unfold hasB; rw [sk]; exact hb 123 (by decide)
    have h4 : hasS (53 :: List.replicate n 32) [123] = 53 :: List.replicate n 32 := by unfold hasS cutP; rw [sk, hb 123 (by decide), if_neg (by simp)]
    have h5 : hp (53 :: List.replicate n 32) [34] = false := hb 34 (by decide)
    have hr : rdF (53 :: List.replicate n 32) false false = some (.mk 3 [53] [] [], false, false) := by
      unfold rdF valF
      simp [h1, h2, h3, h4, h5, tw5, dw5, wk5, skF_rep]
    rw [hr]
    rfl
end T
set_option linter.unusedVariables false
set_option linter.unusedSimpArgs false
set_option maxRecDepth 10000
namespace T
open Go Go.Aes Go.Proofs

theorem qEql_bb {R : Type} [Mon R] (a b : Bool) (k : AV → R) : qEql X 4 (.bool a) (.bool b) k = k (.bool (a == b)) := by cases a <;> cases b <;> rfl
theorem fin5 {kr : KT Prop} {k m : Nat} {e1 e2 w e3 : Int} {H : AH} (x0 x1 x4 x6 x7 x8 x11 x16 x17 x25 x32 x58 x67 : AV) (h1 : (e1 = 0 ∧ k ≤ 12) ∨ (e1 = 4 ∧ 12 < k)) (h2 : e2 = w) (h3 : (e3 = 0 ∧ m ≤ 4000) ∨ (e3 = 3 ∧ 4000 < m)) (hk : ∀ fr, sel 2 fr = .bool true → kr fr H) :
    r5_25 EK kr [x0, x1, x4, .int .i64 (k : Int), x6, x7, x8, .int .i64 e1, x11, .int .i64 e2, .int .i64 w, .int .i64 (m : Int), x16, x17, .int .i64 e3, x25, x32, x58, x67] H := by
  subst h2
  have z0 : ((0 : Int) == 0) = true := rfl
  have z4 : ((4 : Int) == 0) = false := rfl
  have z44 : ((4 : Int) == 4) = true := rfl
  have z3 : ((3 : Int) == 0) = false := rfl
  have z33 : ((3 : Int) == 3) = true := rfl
  have ee : (e2 == e2) = true := by simp
  have tt : (true == true) = true := rfl
  have ff : (false == false) = true := rfl
  rcases h1 with ⟨rfl, h1⟩ | ⟨rfl, h1⟩ <;> rcases h3 with ⟨rfl, h3⟩ | ⟨rfl, h3⟩
  · have c1 : (k : Int) ≤ 12 := by omega
    have c3 : (m : Int) ≤ 4000 := by omega
    simp -implicitDefEqProofs only [r5_25, opn_z, opn_s, sel_z, sel_s, qCd_eq, qIf_true, qIf_false, qFn_eq, qBl_eq, qO_some, qRes_val, qHp_some, qPick_true, qPick_false, qG_tt, qG_ff, qG_tf, qG_ft, cellsK_some, qLd_vptr, qLdA_vptr, qFa_ptr, qFa_vptr, qNc_ptr, qNc_vptr, qNc_fn, qNot_bool, qExt_tup, qCallV_fn, qLss_int, qLeq_int, qGtr_int, qGeq_int, qEql_int, qNeq_int, qAdd_int, qSub_int, qMul_int, qConvI_int, qLenL_sl, qLenL_hsl, qLenS_str, foldO, min2_int, max2_int, qSame_refl, Nat.zero_add, List.getElem?_cons_zero, List.getElem?_cons_succ, List.nil_append, List.cons_append, List.append_nil, one_bool, one_int, one_str, one_nilp, one_ptr, one_sl, one_hsl, one_map, one_fn, List.length_cons, List.length_nil, List.set_cons_zero, List.set_cons_succ, Nat.reduceLT, Nat.reduceAdd, qG_un, qResN_val, qCallVN_fn, qEql_bb, z0, z4, z44, z3, z33, ee, tt, ff, c1, c3, decide_true, decide_false, k7]
    exact hk _ rfl
  · have c1 : (k : Int) ≤ 12 := by omega
    have c3 : ¬ (m : Int) ≤ 4000 := by omega
    simp -implicitDefEqProofs only [r5_25, opn_z, opn_s, sel_z, sel_s, qCd_eq, qIf_true, qIf_false, qFn_eq, qBl_eq, qO_some, qRes_val, qHp_some, qPick_true, qPick_false, qG_tt, qG_ff, qG_tf, qG_ft, cellsK_some, qLd_vptr, qLdA_vptr, qFa_ptr, qFa_vptr, qNc_ptr, qNc_vptr, qNc_fn, qNot_bool, qExt_tup, qCallV_fn, qLss_int, qLeq_int, qGtr_int, qGeq_int, qEql_int, qNeq_int, qAdd_int, qSub_int, qMul_int, qConvI_int, qLenL_sl, qLenL_hsl, qLenS_str, foldO, min2_int, max2_int, qSame_refl, Nat.zero_add, List.getElem?_cons_zero, List.getElem?_cons_succ, List.nil_append, List.cons_append, List.append_nil, one_bool, one_int, one_str, one_nilp, one_ptr, one_sl, one_hsl, one_map, one_fn, List.length_cons, List.length_nil, List.set_cons_zero, List.set_cons_succ, Nat.reduceLT, Nat.reduceAdd, qG_un, qResN_val, qCallVN_fn, qEql_bb, z0, z4, z44, z3, z33, ee, tt, ff, c1, c3, decide_true, decide_false, k7]
    exact hk _ rfl
  · have c1 : ¬ (k : Int) ≤ 12 := by omega
    have c3 : (m : Int) ≤ 4000 := by omega
    simp -implicitDefEqProofs only [r5_25, opn_z, opn_s, sel_z, sel_s, qCd_eq, qIf_true, qIf_false, qFn_eq, qBl_eq, qO_some, qRes_val, qHp_some, qPick_true, qPick_false, qG_tt, qG_ff, qG_tf, qG_ft, cellsK_some, qLd_vptr, qLdA_vptr, qFa_ptr, qFa_vptr, qNc_ptr, qNc_vptr, qNc_fn, qNot_bool, qExt_tup, qCallV_fn, qLss_int, qLeq_int, qGtr_int, qGeq_int, qEql_int, qNeq_int, qAdd_int, qSub_int, qMul_int, qConvI_int, qLenL_sl, qLenL_hsl, qLenS_str, foldO, min2_int, max2_int, qSame_refl, Nat.zero_add, List.getElem?_cons_zero, List.getElem?_cons_succ, List.nil_append, List.cons_append, List.append_nil, one_bool, one_int, one_str, one_nilp, one_ptr, one_sl, one_hsl, one_map, one_fn, List.length_cons, List.length_nil, List.set_cons_zero, List.set_cons_succ, Nat.reduceLT, Nat.reduceAdd, qG_un, qResN_val, qCallVN_fn, qEql_bb, z0, z4, z44, z3, z33, ee, tt, ff, c1, c3, decide_true, decide_false, k7]
    exact hk _ rfl
  · have c1 : ¬ (k : Int) ≤ 12 := by omega
    have c3 : ¬ (m : Int) ≤ 4000 := by omega
    simp -implicitDefEqProofs only [r5_25, opn_z, opn_s, sel_z, sel_s, qCd_eq, qIf_true, qIf_false, qFn_eq, qBl_eq, qO_some, qRes_val, qHp_some, qPick_true, qPick_false, qG_tt, qG_ff, qG_tf, qG_ft, cellsK_some, qLd_vptr, qLdA_vptr, qFa_ptr, qFa_vptr, qNc_ptr, qNc_vptr, qNc_fn, qNot_bool, qExt_tup, qCallV_fn, qLss_int, qLeq_int, qGtr_int, qGeq_int, qEql_int, qNeq_int, qAdd_int, qSub_int, qMul_int, qConvI_int, qLenL_sl, qLenL_hsl, qLenS_str, foldO, min2_int, max2_int, qSame_refl, Nat.zero_add, List.getElem?_cons_zero, List.getElem?_cons_succ, List.nil_append, List.cons_append, List.append_nil, one_bool, one_int, one_str, one_nilp, one_ptr, one_sl, one_hsl, one_map, one_fn, List.length_cons, List.length_nil, List.set_cons_zero, List.set_cons_succ, Nat.reduceLT, Nat.reduceAdd, qG_un, qResN_val, qCallVN_fn, qEql_bb, z0, z4, z44, z3, z33, ee, tt, ff, c1, c3, decide_true, decide_false, k7]
    exact hk _ rfl

theorem mkB {H : AH} [IsFn H] (n : Nat) (hn : n < 1000000) (k : AV → AH → Prop) : qMkS z5 1 1 (.int .i64 (n : Int)) (.int .i64 (n : Int)) H k = k (.hsl H.nx 0 n n 1 true) (H.push (.cells (bys (List.replicate n 0)))) := by
  have ha : asN (.int .i64 (n : Int)) = some n := by simp [asN]
  have hb : (n * (1 + 1)).blt most = true := by rw [Nat.blt_eq]; unfold most; omega
  have hc : (List.replicate n z5).flatten = bys (List.replicate n 0) := by
    induction n with
    | zero => rfl
    | succ n ih =>
      rw [List.replicate_succ, List.flatten_cons, ih (by omega) (by simp [asN]) (by rw [Nat.blt_eq]; unfold most; omega)]
      rfl
  unfold qMkS
  rw [ha, qO_some, qO_some, hb, hc]
  simp only [Nat.beq_refl, Bool.true_and]
  exact qNew_i _ _ _
theorem qIa_h (i n c j : Nat) (g : Bool) (h : j < n) (k : AV → Prop) : qIa 1 (.hsl i 0 n c 1 g) (.int .i64 (j : Int)) k = k (.ptr i j) := by
  rw [qIa_hsl (R := Prop) .i64 k 1 i 0 n c g j h]
  simp
theorem rowsOf_bys : ∀ s : Str, rowsOf 1 s.length (bys s) = byR s
  | [] => rfl
  | b :: s => by
    show (bys (b :: s)).take 1 :: rowsOf 1 s.length ((bys (b :: s)).drop 1) = _
    show _ :: rowsOf 1 s.length (bys s) = _
    rw [rowsOf_bys s]
    rfl
theorem bytesOf_byR' : ∀ l : Str, bytesOf (byR l) = some l
  | [] => rfl
  | b :: l => by
    show (bytesOf (byR l)).map (UInt8.ofNat (((b.toNat : Nat) : Int)).toNat :: ·) = _
    rw [bytesOf_byR' l]
    simp
theorem bstr_h {H : AH} {i : Nat} {s : Str} (hg : H.get i = some (.cells (bys s))) (c : Nat) (g : Bool) (k : AV → Prop) : qBstr (.hsl i 0 s.length c 1 g) H k = k (.str s) := by
  have hsl : slice? (bys s) 0 (s.length * 1) = some (bys s) := slice_whole _ _ (by rw [bys_len]; omega)
  have h1 : readRows 1 (.hsl i 0 s.length c 1 g) H = some (byR s) := by
    simp only [readRows, hg, hsl, Nat.beq_refl, cond_true, Option.map_some, rowsOf_bys]
  show (bif true then qO (readRows 1 (.hsl i 0 s.length c 1 g) H) fun rows => qO (bytesOf rows) fun s => k (.str s) else fail) = _
  simp only [cond_true, h1, qO_some, bytesOf_byR']
theorem bys_set (s : Str) (i : Nat) (b : UInt8) : (bys s).set i (.int .u8 b.toNat) = bys (s.set i b) := by
  unfold bys
  rw [List.map_set]
def blS (n i : Nat) : Str := List.replicate i 32 ++ List.replicate (n - i) 0
theorem bl_set {n i : Nat} (h : i < n) : (blS n i).set i 32 = blS n (i + 1) := by
  unfold blS
  rw [List.set_append, if_neg (by rw [List.length_replicate]; omega), List.length_replicate, Nat.sub_self, show n - i = (n - (i + 1)) + 1 by omega, List.replicate_succ, List.replicate_succ']
  simp
theorem bl_len {n i : Nat} (h : i ≤ n) : (blS n i).length = n := by
  unfold blS
  rw [List.length_append, List.length_replicate, List.length_replicate]
  omega
theorem tw_eq {k : Nat} (hk : 0 < k) : (opS k).take (k - 1) ++ [123, 34, 97, 34, 58, 49, 44, 34, 97, 34, 58, 50, 125] ++ (opS k).drop (k + 1) = twS k := by
  unfold opS twS
  rw [List.take_append_of_le_length (by rw [List.length_replicate]; omega), List.take_replicate, List.drop_append, List.drop_of_length_le (by rw [List.length_replicate]; omega), List.length_replicate, List.drop_replicate]
  rw [show min (k - 1) k = k - 1 by omega, show k - (k + 1 - k) = k - 1 by omega]
  simp
end T
