import Derived.Test.YtgmifbbimcblcaaFillX
set_option linter.all false
set_option linter.unusedVariables false
set_option linter.unusedSimpArgs false
set_option maxRecDepth 10000
namespace T
open Go Go.Aes Go.Proofs

theorem ENs.append : ∀ {a b : List Nd} {ra rb : List (List AV)}, ENs a ra → ENs b rb → ENs (a ++ b) (ra ++ rb)
  | [], b, ra, rb, ha, hb => by cases ha; exact hb
  | f :: a, b, ra, rb, ⟨r, rs, h1, h2, h3⟩, hb => by subst h1; exact ⟨r, rs ++ rb, rfl, h2, ENs.append h3 hb⟩
theorem ENs.one {f : Nd} {r : List AV} (h : EN f r) : ENs [f] [r] := ⟨r, [], rfl, h, rfl⟩
theorem ENs.tens : ∀ {a : List Nd} {ra : List (List AV)}, ENs a ra → ∀ x ∈ ra, x.length = 10
  | [], ra, h, x, hx => by cases h; cases hx
  | f :: a, ra, ⟨r, rs, h1, h2, h3⟩, x, hx => by
    subst h1
    rcases List.mem_cons.1 hx with rfl | hx
    · exact h2.ten.1
    · exact ENs.tens h3 x hx

theorem boolRows_len (l : List Bool) : (boolRows l).length = l.length := by simp [boolRows]
theorem qIa_bools {l : List Bool} {tk : Tk} {i : Nat} {b : Bool} (h : l[i]? = some b) (k : AV → Prop) : qIa 1 (.sl (boolRows l) tk) (.int .i64 (i : Int)) k = k (.vptr [.bool b] 0) :=
  qIa_sl (R := Prop) .i64 k 1 (boolRows l) tk i [.bool b] (by simp [boolRows, h]) rfl

def cntT (l : List Bool) : Nat := (l.filter id).length
theorem cntT_app (l : List Bool) (b : Bool) : cntT (l ++ [b]) = cntT l + (if b then 1 else 0) := by
  cases b <;> simp [cntT, List.filter_append]
theorem cntT_le (l : List Bool) : cntT l ≤ l.length := List.length_filter_le _ _
theorem take_succ' {α : Type} {l : List α} {i : Nat} {x : α} (h : l[i]? = some x) : l.take (i + 1) = l.take i ++ [x] := by
  rw [List.take_add_one, h]; rfl

set_option maxHeartbeats 1000000 in
/-- the nodes are made -/
theorem paths_make (bad : List Bool) (tk : Tk) (must deep : Bool) (K : KT Prop)
    (hK : ∀ (H' : AH) (v : AV) (rows : List (List AV)), IsFn H' → Ow H' v rows → ENs ((bad.take 20).map (kidF deep)) rows → ∀ (x6 x9 x10 x11 x12 x13 x14 x15 x16 x17 x25 x33 x37 x49 x62 x70 x77 x139 : AV),
      K [.sl (boolRows bad) tk, .bool must, .bool deep, x6, v, .int .i64 (cntT (bad.take 20) : Int), x9, x10, x11, x12, x13, x14, x15, x16, x17, x25, x33, x37, x49, x62, x70, x77, x139] H')
    (H : AH) [IsFn H] (x6 x10 x11 x12 x13 x14 x15 x16 x17 x25 x33 x37 x49 x62 x70 x77 x139 : AV) :
    qLoop (l12_14 K) [.sl (boolRows bad) tk, .bool must, .bool deep, x6, .sl [] .nil, .int .i64 0, .int .i64 0, x10, x11, x12, x13, x14, x15, x16, x17, x25, x33, x37, x49, x62, x70, x77, x139] H := by
  refine loop_inv (fun m fr H1 => ∃ (i : Nat) (v : AV) (rows : List (List AV)) (x6 x10 x11 x12 x13 x14 x15 x16 x17 x25 x33 x37 x49 x62 x70 x77 x139 : AV), m = 20 - i ∧ i ≤ 20 ∧ i ≤ bad.length ∧
      fr = [.sl (boolRows bad) tk, .bool must, .bool deep, x6, v, .int .i64 (cntT (bad.take i) : Int), .int .i64 (i : Int), x10, x11, x12, x13, x14, x15, x16, x17, x25, x33, x37, x49, x62, x70, x77, x139] ∧ IsFn H1 ∧ Ow H1 v rows ∧ ENs ((bad.take i).map (kidF deep)) rows) ?_ (m := 20) ?_
  · rintro m fr H1 k ⟨i, v, rows, x6, x10, x11, x12, x13, x14, x15, x16, x17, x25, x33, x37, x49, x62, x70, x77, x139, rfl, hi, hib, rfl, hfn, ow, hE⟩ hk
    have hln : ∀ k : AV → Prop, qLenL (.sl (boolRows bad) tk) k = k (.int .i64 (bad.length : Int)) := fun k => by rw [qLenL_sl, boolRows_len]
    have done : (bad.take i = bad.take 20) → K [.sl (boolRows bad) tk, .bool must, .bool deep, x6, v, .int .i64 (cntT (bad.take i) : Int), .int .i64 (i : Int), x10, x11, x12, x13, x14, x15, x16, x17, .bool false, x33, x37, x49, x62, x70, x77, x139] H1 := fun e => by
      rw [e] at hE ⊢
      exact hK H1 v rows hfn ow hE _ _ _ _ _ _ _ _ _ _ _ _ _ _ _ _ _ _
    by_cases h1 : i < bad.length
    · have h1' : (i : Int) < (bad.length : Int) := by omega
      by_cases h2 : i < 20
      · have h2' : (i : Int) < 20 := by omega
        obtain ⟨b, hb⟩ : ∃ b, bad[i]? = some b := ⟨_, List.getElem?_eq_getElem h1⟩
        have ht := take_succ' hb
        have ix := fun k => qIa_bools (tk := tk) hb k
        have b0 : ∀ k : AV → Prop, qBld z58 [(0, 1, .int .i64 3), (1, 1, .str [49])] k = k (.agg rowOne) := fun k => rfl
        have b1 : ∀ k : AV → Prop, qBld z61 [(0, 1, .int .i64 1), (4, 4, .agg rowOne)] k = k (.agg [.int .i64 1, .str [], .str [], .str [], .int .i64 3, .str [49], .sl [] .nil, .sl [] .nil, .str [], .sl [] .nil]) := fun k => rfl
        have b2 : ∀ k : AV → Prop, qBld z61 [(0, 1, .int .i64 3), (8, 1, .str [84, 89, 80, 69])] k = k (.agg [.int .i64 3, .str [], .str [], .str [], .int .i64 0, .str [], .sl [] .nil, .sl [] .nil, .str sTYPE, .sl [] .nil]) := fun k => rfl
        have b3 : ∀ k : AV → Prop, qBld z54 [(0, 1, .str [73, 110, 116])] k = k (.agg [.str [73, 110, 116], .str []]) := fun k => rfl
        have w1 := wrap_up (cntT (bad.take i)) (by have := cntT_le (bad.take i); rw [List.length_take] at this; omega)
        have w2 := wrap_up i (by omega)
        have gA := get_push_at (H := H1) (.cells z61)
        have stA := fun k => qSt_whole (n := 10) gA (l := [.int .i64 1, .str [], .str [], .str [], .int .i64 3, .str [49], .sl [] .nil, .sl [] .nil, .str [], .sl [] .nil]) rfl rfl rfl k
        have gB := get_set_at gA (.cells [.int .i64 1, .str [], .str [], .str [], .int .i64 3, .str [49], .sl [] .nil, .sl [] .nil, .str [], .sl [] .nil])
        have eA : Kp H1 (H1.push (.cells z61)) (fun _ => False) := Kp.push _ _
        have eB := Kp_set eA gA (Nat.le_refl _) (some (.cells [.int .i64 1, .str [], .str [], .str [], .int .i64 3, .str [49], .sl [] .nil, .sl [] .nil, .str [], .sl [] .nil]))
        simp only [l12_14, r12_4, r12_6, r12_7, r12_10, opn_z, opn_s, sel_z, sel_s, qCd_eq, qIf_true, qIf_false, qFn_eq, qBl_eq, qO_some, qRes_val, qHp_some, qPick_true, qPick_false, qG_tt, qG_ff, qG_tf, qG_ft, cellsK_some, qLd_vptr, qLdA_vptr, qFa_ptr, qFa_vptr, qNc_ptr, qNc_vptr, qNc_fn, qNot_bool, qExt_tup, qCallV_fn, qLss_int, qLeq_int, qGtr_int, qGeq_int, qEql_int, qNeq_int, qAdd_int, qSub_int, qMul_int, qConvI_int, qLenL_sl, qLenL_hsl, qLenS_str, foldO, min2_int, max2_int, qSame_refl, Nat.zero_add, List.getElem?_cons_zero, List.getElem?_cons_succ, List.nil_append, List.cons_append, List.append_nil, one_bool, one_int, one_str, one_nilp, one_ptr, one_sl, one_hsl, one_map, one_fn, List.length_cons, List.length_nil, List.set_cons_zero, List.set_cons_succ, Nat.reduceLT, Nat.reduceAdd, hln, h1', h2', decide_true, b0, b1, qNew_i, wr_ptr, stA, ix]
        suffices fin : ∀ (H2 : AH) (row : List AV), IsFn H2 → Kp H1 H2 (fun _ => False) → H2.get H1.nx = some (.cells row) → EN (kidF deep b) row → ∀ (x25 x33 x37 : AV),
            r12_13 (r12_5 k) [.sl (boolRows bad) tk, .bool must, .bool deep, x6, v, .int .i64 (cntT (bad.take (i + 1)) : Int), .int .i64 (i : Int), .ptr H1.nx 0, x11, x12, x13, x14, x15, x16, x17, x25, x33, x37, x49, x62, x70, x77, x139] H2 by
          have hcT : ∀ x, b = x → (cntT (bad.take (i + 1)) : Nat) = cntT (bad.take i) + (if x then 1 else 0) := fun x e => by rw [ht, cntT_app, e]
          cases b with
          | false =>
            have hc := hcT false rfl
            simp only [Bool.false_eq_true, if_false, Nat.add_zero] at hc
            rw [hc] at fin
            cases deep with
            | false =>
              exact fin _ _ inferInstance eB gB ⟨_, _, _, _, _, _, EVone, rfl, rfl⟩ _ _ _
            | true =>
              have s3 := fun k => qSt_gen (n := 1) (cs' := [.int .i64 1, .str [121], .str [], .str [], .int .i64 3, .str [49], .sl [] .nil, .sl [] .nil, .str [], .sl [] .nil]) gB 1 (.str [121]) rfl rfl rfl k
              have g3 := get_set_at gB (.cells [.int .i64 1, .str [121], .str [], .str [], .int .i64 3, .str [49], .sl [] .nil, .sl [] .nil, .str [], .sl [] .nil])
              have s4 := fun k => qSt_gen (n := 2) (cs' := [.int .i64 1, .str [121], .str [73, 110, 116], .str [], .int .i64 3, .str [49], .sl [] .nil, .sl [] .nil, .str [], .sl [] .nil]) g3 2 (.agg [.str [73, 110, 116], .str []]) rfl rfl rfl k
              have g4 := get_set_at g3 (.cells [.int .i64 1, .str [121], .str [73, 110, 116], .str [], .int .i64 3, .str [49], .sl [] .nil, .sl [] .nil, .str [], .sl [] .nil])
              have l4 := fun k => qLdA_whole (n := 10) g4 rfl k
              have r4 : ∀ k : AV → Prop, qRows z61 1 [(0, .agg [.int .i64 1, .str [121], .str [73, 110, 116], .str [], .int .i64 3, .str [49], .sl [] .nil, .sl [] .nil, .str [], .sl [] .nil])] k = k (.sl [[.int .i64 1, .str [121], .str [73, 110, 116], .str [], .int .i64 3, .str [49], .sl [] .nil, .sl [] .nil, .str [], .sl [] .nil]] .full) := fun k => rfl
              have b5 : ∀ k : AV → Prop, qBld z61 [(0, 1, .int .i64 5), (9, 1, .sl [[.int .i64 1, .str [121], .str [73, 110, 116], .str [], .int .i64 3, .str [49], .sl [] .nil, .sl [] .nil, .str [], .sl [] .nil]] .full)] k = k (.agg [.int .i64 5, .str [], .str [], .str [], .int .i64 0, .str [], .sl [] .nil, .sl [] .nil, .str [], .sl [[.int .i64 1, .str [121], .str [73, 110, 116], .str [], .int .i64 3, .str [49], .sl [] .nil, .sl [] .nil, .str [], .sl [] .nil]] .full]) := fun k => rfl
              have s5 := fun k => qSt_whole (n := 10) g4 (l := [.int .i64 5, .str [], .str [], .str [], .int .i64 0, .str [], .sl [] .nil, .sl [] .nil, .str [], .sl [[.int .i64 1, .str [121], .str [73, 110, 116], .str [], .int .i64 3, .str [49], .sl [] .nil, .sl [] .nil, .str [], .sl [] .nil]] .full]) rfl rfl rfl k
              have g5 := get_set_at g4 (.cells [.int .i64 5, .str [], .str [], .str [], .int .i64 0, .str [], .sl [] .nil, .sl [] .nil, .str [], .sl [[.int .i64 1, .str [121], .str [73, 110, 116], .str [], .int .i64 3, .str [49], .sl [] .nil, .sl [] .nil, .str [], .sl [] .nil]] .full])
              simp only [r12_11, r12_12, opn_z, opn_s, sel_z, sel_s, qCd_eq, qIf_true, qIf_false, qFn_eq, qBl_eq, qO_some, qRes_val, qHp_some, qPick_true, qPick_false, qG_tt, qG_ff, qG_tf, qG_ft, cellsK_some, qLd_vptr, qLdA_vptr, qFa_ptr, qFa_vptr, qNc_ptr, qNc_vptr, qNc_fn, qNot_bool, qExt_tup, qCallV_fn, qLss_int, qLeq_int, qGtr_int, qGeq_int, qEql_int, qNeq_int, qAdd_int, qSub_int, qMul_int, qConvI_int, qLenL_sl, qLenL_hsl, qLenS_str, foldO, min2_int, max2_int, qSame_refl, Nat.zero_add, List.getElem?_cons_zero, List.getElem?_cons_succ, List.nil_append, List.cons_append, List.append_nil, one_bool, one_int, one_str, one_nilp, one_ptr, one_sl, one_hsl, one_map, one_fn, List.length_cons, List.length_nil, List.set_cons_zero, List.set_cons_succ, Nat.reduceLT, Nat.reduceAdd, b3, s3, s4, l4, r4, b5, s5]
              exact fin _ _ inferInstance (Kp_set (Kp_set (Kp_set eB gB (Nat.le_refl _) _) g3 (Nat.le_refl _) _) g4 (Nat.le_refl _) _) g5 ⟨_, _, _, _, _, _, EVzero, rfl, ENs.one ⟨_, _, _, _, _, _, EVone, rfl, rfl⟩⟩ _ _ _
          | true =>
            have hc := hcT true rfl
            simp only [if_true] at hc
            rw [hc] at fin
            have sB := fun k => qSt_whole (n := 10) gB (l := [.int .i64 3, .str [], .str [], .str [], .int .i64 0, .str [], .sl [] .nil, .sl [] .nil, .str sTYPE, .sl [] .nil]) rfl rfl rfl k
            have gC := get_set_at gB (.cells [.int .i64 3, .str [], .str [], .str [], .int .i64 0, .str [], .sl [] .nil, .sl [] .nil, .str sTYPE, .sl [] .nil])
            have eC := Kp_set eB gB (Nat.le_refl _) (some (.cells [.int .i64 3, .str [], .str [], .str [], .int .i64 0, .str [], .sl [] .nil, .sl [] .nil, .str sTYPE, .sl [] .nil]))
            simp only [r12_8, r12_9, r12_10, opn_z, opn_s, sel_z, sel_s, qCd_eq, qIf_true, qIf_false, qFn_eq, qBl_eq, qO_some, qRes_val, qHp_some, qPick_true, qPick_false, qG_tt, qG_ff, qG_tf, qG_ft, cellsK_some, qLd_vptr, qLdA_vptr, qFa_ptr, qFa_vptr, qNc_ptr, qNc_vptr, qNc_fn, qNot_bool, qExt_tup, qCallV_fn, qLss_int, qLeq_int, qGtr_int, qGeq_int, qEql_int, qNeq_int, qAdd_int, qSub_int, qMul_int, qConvI_int, qLenL_sl, qLenL_hsl, qLenS_str, foldO, min2_int, max2_int, qSame_refl, Nat.zero_add, List.getElem?_cons_zero, List.getElem?_cons_succ, List.nil_append, List.cons_append, List.append_nil, one_bool, one_int, one_str, one_nilp, one_ptr, one_sl, one_hsl, one_map, one_fn, List.length_cons, List.length_nil, List.set_cons_zero, List.set_cons_succ, Nat.reduceLT, Nat.reduceAdd, b2, sB, w1]
            cases deep with
            | false =>
              exact fin _ _ inferInstance eC gC ⟨_, _, _, _, _, _, EVzero, rfl, rfl⟩ _ _ _
            | true =>
              have s3 := fun k => qSt_gen (n := 1) (cs' := [.int .i64 3, .str [121], .str [], .str [], .int .i64 0, .str [], .sl [] .nil, .sl [] .nil, .str sTYPE, .sl [] .nil]) gC 1 (.str [121]) rfl rfl rfl k
              have g3 := get_set_at gC (.cells [.int .i64 3, .str [121], .str [], .str [], .int .i64 0, .str [], .sl [] .nil, .sl [] .nil, .str sTYPE, .sl [] .nil])
              have s4 := fun k => qSt_gen (n := 2) (cs' := [.int .i64 3, .str [121], .str [73, 110, 116], .str [], .int .i64 0, .str [], .sl [] .nil, .sl [] .nil, .str sTYPE, .sl [] .nil]) g3 2 (.agg [.str [73, 110, 116], .str []]) rfl rfl rfl k
              have g4 := get_set_at g3 (.cells [.int .i64 3, .str [121], .str [73, 110, 116], .str [], .int .i64 0, .str [], .sl [] .nil, .sl [] .nil, .str sTYPE, .sl [] .nil])
              have l4 := fun k => qLdA_whole (n := 10) g4 rfl k
              have r4 : ∀ k : AV → Prop, qRows z61 1 [(0, .agg [.int .i64 3, .str [121], .str [73, 110, 116], .str [], .int .i64 0, .str [], .sl [] .nil, .sl [] .nil, .str sTYPE, .sl [] .nil])] k = k (.sl [[.int .i64 3, .str [121], .str [73, 110, 116], .str [], .int .i64 0, .str [], .sl [] .nil, .sl [] .nil, .str sTYPE, .sl [] .nil]] .full) := fun k => rfl
              have b5 : ∀ k : AV → Prop, qBld z61 [(0, 1, .int .i64 5), (9, 1, .sl [[.int .i64 3, .str [121], .str [73, 110, 116], .str [], .int .i64 0, .str [], .sl [] .nil, .sl [] .nil, .str sTYPE, .sl [] .nil]] .full)] k = k (.agg [.int .i64 5, .str [], .str [], .str [], .int .i64 0, .str [], .sl [] .nil, .sl [] .nil, .str [], .sl [[.int .i64 3, .str [121], .str [73, 110, 116], .str [], .int .i64 0, .str [], .sl [] .nil, .sl [] .nil, .str sTYPE, .sl [] .nil]] .full]) := fun k => rfl
              have s5 := fun k => qSt_whole (n := 10) g4 (l := [.int .i64 5, .str [], .str [], .str [], .int .i64 0, .str [], .sl [] .nil, .sl [] .nil, .str [], .sl [[.int .i64 3, .str [121], .str [73, 110, 116], .str [], .int .i64 0, .str [], .sl [] .nil, .sl [] .nil, .str sTYPE, .sl [] .nil]] .full]) rfl rfl rfl k
              have g5 := get_set_at g4 (.cells [.int .i64 5, .str [], .str [], .str [], .int .i64 0, .str [], .sl [] .nil, .sl [] .nil, .str [], .sl [[.int .i64 3, .str [121], .str [73, 110, 116], .str [], .int .i64 0, .str [], .sl [] .nil, .sl [] .nil, .str sTYPE, .sl [] .nil]] .full])
              simp only [r12_11, r12_12, opn_z, opn_s, sel_z, sel_s, qCd_eq, qIf_true, qIf_false, qFn_eq, qBl_eq, qO_some, qRes_val, qHp_some, qPick_true, qPick_false, qG_tt, qG_ff, qG_tf, qG_ft, cellsK_some, qLd_vptr, qLdA_vptr, qFa_ptr, qFa_vptr, qNc_ptr, qNc_vptr, qNc_fn, qNot_bool, qExt_tup, qCallV_fn, qLss_int, qLeq_int, qGtr_int, qGeq_int, qEql_int, qNeq_int, qAdd_int, qSub_int, qMul_int, qConvI_int, qLenL_sl, qLenL_hsl, qLenS_str, foldO, min2_int, max2_int, qSame_refl, Nat.zero_add, List.getElem?_cons_zero, List.getElem?_cons_succ, List.nil_append, List.cons_append, List.append_nil, one_bool, one_int, one_str, one_nilp, one_ptr, one_sl, one_hsl, one_map, one_fn, List.length_cons, List.length_nil, List.set_cons_zero, List.set_cons_succ, Nat.reduceLT, Nat.reduceAdd, b3, s3, s4, l4, r4, b5, s5]
              exact fin _ _ inferInstance (Kp_set (Kp_set (Kp_set eC gC (Nat.le_refl _) _) g3 (Nat.le_refl _) _) g4 (Nat.le_refl _) _) g5 ⟨_, _, _, _, _, _, EVzero, rfl, ENs.one ⟨_, _, _, _, _, _, EVzero, rfl, rfl⟩⟩ _ _ _
        intro H2 row hf2 e2 g2 hrow y25 y33 y37
        have ow2 : Ow H2 v rows := ow.keep fun j hj => e2.keep j (lt_i (ow.tok hj)) (fun h => h)
        have hrl := hE.len
        rw [List.length_map, List.length_take] at hrl
        obtain ⟨v', H3, k1, k2, k3, k4⟩ := ow2.app (n := 10) (b := 168) (tk' := .full) hrow.ten.1 (by decide) (by decide) (by rw [hrl]; unfold most; omega) hE.tens hrow.ten.2
        have l2 := fun k => qLdA_whole (n := 10) g2 hrow.ten.1 k
        have r2 := fun k => qRows1 z61 row hrow.ten.1 hrow.ten.2 k
        simp only [r12_13, r12_5, opn_z, opn_s, sel_z, sel_s, qCd_eq, qIf_true, qIf_false, qFn_eq, qBl_eq, qO_some, qRes_val, qHp_some, qPick_true, qPick_false, qG_tt, qG_ff, qG_tf, qG_ft, cellsK_some, qLd_vptr, qLdA_vptr, qFa_ptr, qFa_vptr, qNc_ptr, qNc_vptr, qNc_fn, qNot_bool, qExt_tup, qCallV_fn, qLss_int, qLeq_int, qGtr_int, qGeq_int, qEql_int, qNeq_int, qAdd_int, qSub_int, qMul_int, qConvI_int, qLenL_sl, qLenL_hsl, qLenS_str, foldO, min2_int, max2_int, qSame_refl, Nat.zero_add, List.getElem?_cons_zero, List.getElem?_cons_succ, List.nil_append, List.cons_append, List.append_nil, one_bool, one_int, one_str, one_nilp, one_ptr, one_sl, one_hsl, one_map, one_fn, List.length_cons, List.length_nil, List.set_cons_zero, List.set_cons_succ, Nat.reduceLT, Nat.reduceAdd, l2, r2, k1, w2]
        refine hk (20 - (i + 1)) _ _ (by omega) ⟨i + 1, v', rows ++ [row], _, _, _, _, _, _, _, _, _, _, _, _, _, _, _, _, _, rfl, by omega, by omega, rfl, k3.fn, k2, ?_⟩
        rw [ht, List.map_append]
        exact hE.append (.one hrow)
      · have h2' : ¬ (i : Int) < 20 := by omega
        have hd := done (by have : i = 20 := by omega
                            rw [this])
        simp only [l12_14, r12_4, opn_z, opn_s, sel_z, sel_s, qCd_eq, qIf_true, qIf_false, qFn_eq, qBl_eq, qO_some, qRes_val, qHp_some, qPick_true, qPick_false, qG_tt, qG_ff, qG_tf, qG_ft, cellsK_some, qLd_vptr, qLdA_vptr, qFa_ptr, qFa_vptr, qNc_ptr, qNc_vptr, qNc_fn, qNot_bool, qExt_tup, qCallV_fn, qLss_int, qLeq_int, qGtr_int, qGeq_int, qEql_int, qNeq_int, qAdd_int, qSub_int, qMul_int, qConvI_int, qLenL_sl, qLenL_hsl, qLenS_str, foldO, min2_int, max2_int, qSame_refl, Nat.zero_add, List.getElem?_cons_zero, List.getElem?_cons_succ, List.nil_append, List.cons_append, List.append_nil, one_bool, one_int, one_str, one_nilp, one_ptr, one_sl, one_hsl, one_map, one_fn, List.length_cons, List.length_nil, List.set_cons_zero, List.set_cons_succ, Nat.reduceLT, Nat.reduceAdd, hln, h1', h2', decide_true, decide_false]
        exact hd
    · have h1' : ¬ (i : Int) < (bad.length : Int) := by omega
      have hd := done (by rw [List.take_of_length_le (by omega), List.take_of_length_le (by omega)])
      simp only [l12_14, r12_4, opn_z, opn_s, sel_z, sel_s, qCd_eq, qIf_true, qIf_false, qFn_eq, qBl_eq, qO_some, qRes_val, qHp_some, qPick_true, qPick_false, qG_tt, qG_ff, qG_tf, qG_ft, cellsK_some, qLd_vptr, qLdA_vptr, qFa_ptr, qFa_vptr, qNc_ptr, qNc_vptr, qNc_fn, qNot_bool, qExt_tup, qCallV_fn, qLss_int, qLeq_int, qGtr_int, qGeq_int, qEql_int, qNeq_int, qAdd_int, qSub_int, qMul_int, qConvI_int, qLenL_sl, qLenL_hsl, qLenS_str, foldO, min2_int, max2_int, qSame_refl, Nat.zero_add, List.getElem?_cons_zero, List.getElem?_cons_succ, List.nil_append, List.cons_append, List.append_nil, one_bool, one_int, one_str, one_nilp, one_ptr, one_sl, one_hsl, one_map, one_fn, List.length_cons, List.length_nil, List.set_cons_zero, List.set_cons_succ, Nat.reduceLT, Nat.reduceAdd, hln, h1', decide_false]
      exact hd
  · exact ⟨0, _, [], _, _, _, _, _, _, _, _, _, _, _, _, _, _, _, _, _, rfl, by omega, by omega, rfl, inferInstance, .nil, rfl⟩

end T
set_option linter.unusedVariables false
set_option linter.unusedSimpArgs false
set_option maxRecDepth 10000
namespace T
open Go Go.Aes Go.Proofs

/-! ### what the law of paths comes to -/
def pPath (deep : Bool) (i : Nat) : List (Str × Int) := if deep then [([120], 0), ([], (i : Int)), ([121], 0)] else [([120], 0), ([], (i : Int))]
def pF (deep : Bool) : Nat → List Bool → List Fau
  | _, [] => []
  | i, b :: bs => (if b then [⟨sTYPE, pPath deep i⟩] else []) ++ pF deep (i + 1) bs

theorem pF_len (deep : Bool) : ∀ (i : Nat) (bs : List Bool), (pF deep i bs).length = cntT bs
  | i, [] => rfl
  | i, b :: bs => by
    have := pF_len deep (i + 1) bs
    cases b <;> simp [pF, cntT] at * <;> omega

theorem pF_get (deep : Bool) : ∀ (j : Nat) (bs : List Bool) (i : Nat), bs[i]? = some true → (pF deep j bs)[cntT (bs.take i)]? = some ⟨sTYPE, pPath deep (j + i)⟩
  | j, [], i, h => by simp at h
  | j, b :: bs, 0, h => by
    simp at h; subst h
    simp [pF, cntT]
  | j, b :: bs, i + 1, h => by
    have := pF_get deep (j + 1) bs i (by simpa using h)
    have e : j + 1 + i = j + (i + 1) := by omega
    rw [e] at this
    cases b with
    | false => simpa [pF, cntT] using this
    | true =>
      have hc : cntT ((true :: bs).take (i + 1)) = cntT (bs.take i) + 1 := by simp [cntT]
      rw [hc]
      simpa [pF] using this

theorem kid_node (w : Str) (deep b : Bool) (i : Nat) : nodeF w [([120], 0), ([], (i : Int))] (kidF deep b) =
    (if deep then .mk 8 [] [[121]] [if b then nullV else oneV] else if b then nullV else oneV, deep || !b || !ends w 33, if b then [⟨sTYPE, pPath deep i⟩] else []) := by
  cases deep <;> cases b <;> simp [kidF, nodeF, fieldsF, pPath, Nd.w, Nd.key, ends]

theorem kid_items (w : Str) (deep : Bool) : ∀ (bs : List Bool) (i : Nat), (itemsF w [([120], 0)] i (bs.map (kidF deep))).1.length = bs.length ∧
    (itemsF w [([120], 0)] i (bs.map (kidF deep))).2.1 = (deep || !ends w 33 || !decide (0 < cntT bs)) ∧ (itemsF w [([120], 0)] i (bs.map (kidF deep))).2.2 = pF deep i bs
  | [], i => by cases deep <;> simp [itemsF, cntT, pF]
  | b :: bs, i => by
    obtain ⟨h1, h2, h3⟩ := kid_items w deep bs (i + 1)
    simp only [List.map_cons, itemsF, List.cons_append, List.nil_append, kid_node, h1, h2, h3, List.length_cons, pF]
    refine ⟨trivial, ?_, trivial⟩
    cases deep <;> cases b <;> cases ends w 33 <;> simp [cntT]

def pNd (bad : List Bool) (must deep : Bool) : Nd := .mk 4 [120] [84] (if must then [33, 93, 33] else [93]) zeroV [] ((bad.take 20).map (kidF deep))
def pFalls (bad : List Bool) (must deep : Bool) : Bool := must && !deep && decide (0 < cntT (bad.take 20))

theorem p_fin (bad : List Bool) (must deep : Bool) : ∃ vals : List Val, vals.length = (bad.take 20).length ∧
    finF [pNd bad must deep] = (if pFalls bad must deep then nullV else .mk 8 [] [[120]] [.mk 7 [] [] vals], pF deep 0 (bad.take 20)) := by
  unfold pNd pFalls
  generalize bad.take 20 = bs
  cases must with
  | false =>
    have hw : cutE (cutE [93] 33) 93 = ([] : Str) := by decide
    obtain ⟨h1, h2, h3⟩ := kid_items [] deep bs 0
    have he : ends ([] : Str) 33 = false := by decide
    simp only [he, Bool.not_false, Bool.or_true, Bool.true_or] at h2
    refine ⟨_, h1, ?_⟩
    simp [finF, fieldsF, nodeF, Nd.w, Nd.key, hw, h2, h3]
  | true =>
    have hw : cutE (cutE [33, 93, 33] 33) 93 = ([33] : Str) := by decide
    obtain ⟨h1, h2, h3⟩ := kid_items [33] deep bs 0
    have he : ends ([33] : Str) 33 = true := by decide
    have he2 : ends ([33, 93, 33] : Str) 33 = true := by decide
    simp only [he, Bool.not_true, Bool.or_false] at h2
    refine ⟨_, h1, ?_⟩
    cases hd : (deep || !decide (0 < cntT bs)) with
    | true =>
      rw [hd] at h2
      have hp : (!deep && decide (0 < cntT bs)) = false := by
        cases deep <;> simp_all
      simp [finF, fieldsF, nodeF, Nd.w, Nd.key, hw, h2, h3, hp]
    | false =>
      rw [hd] at h2
      have hp : (!deep && decide (0 < cntT bs)) = true := by
        cases deep <;> simp_all
      simp [finF, fieldsF, nodeF, Nd.w, Nd.key, hw, h2, h3, hp, he2]

theorem kids_tot (deep : Bool) : ∀ bs : List Bool, woks (bs.map (kidF deep)) ∧ tots (bs.map (kidF deep)) ≤ 2 * bs.length
  | [] => ⟨trivial, by simp [tots]⟩
  | b :: bs => by
    obtain ⟨h1, h2⟩ := kids_tot deep bs
    obtain ⟨k1, k2⟩ := kid_wok deep b
    refine ⟨⟨k1, h1⟩, ?_⟩
    simp only [List.map_cons, tots, List.length_cons]; omega

theorem qG_un (w : Bool) (A : (AV → AH → Prop) → Prop) (H : AH) (k : AV → AH → Prop) : qG Aes.undef w A H k = k Aes.undef H := id rfl
theorem qEql_bool (a b : Bool) (k : AV → Prop) : qEql X 4 (.bool a) (.bool b) k = k (.bool (a == b)) := id rfl

/-- the paths are looked at -/
theorem paths_look (bad : List Bool) (tk : Tk) (must deep : Bool) (frows : List (List AV)) (tkf : Tk) (hf : EFs (pF deep 0 (bad.take 20)) frows) (K KR : KT Prop) (H : AH)
    (P7 P8 P11 P12 : AV)
    (hK : ∀ (x6 x9 x10 x14 x15 x16 x17 x25 x33 x37 x49 x62 x70 x77 x139 : AV), K [.sl (boolRows bad) tk, .bool must, .bool deep, x6, P7, P8, x9, x10, P11, P12, .sl frows tkf, x14, x15, x16, x17, x25, x33, x37, x49, x62, x70, x77, x139] H)
    (x6 x9 x10 x16 x17 x25 x33 x37 x49 x62 x70 x77 x139 : AV) :
    qLoop (l12_6 K KR) [.sl (boolRows bad) tk, .bool must, .bool deep, x6, P7, P8, x9, x10, P11, P12, .sl frows tkf, .int .i64 0, .int .i64 0, x16, x17, x25, x33, x37, x49, x62, x70, x77, x139] H := by
  refine loop_inv (fun m fr H1 => ∃ (i : Nat) (x6 x9 x10 x16 x17 x25 x33 x37 x49 x62 x70 x77 x139 : AV), m = 20 - i ∧ i ≤ 20 ∧ i ≤ bad.length ∧
      fr = [.sl (boolRows bad) tk, .bool must, .bool deep, x6, P7, P8, x9, x10, P11, P12, .sl frows tkf, .int .i64 (cntT (bad.take i) : Int), .int .i64 (i : Int), x16, x17, x25, x33, x37, x49, x62, x70, x77, x139] ∧ H1 = H) ?_ (m := 20) ?_
  · rintro m fr H1 k ⟨i, x6, x9, x10, x16, x17, x25, x33, x37, x49, x62, x70, x77, x139, rfl, hi, hib, rfl, rfl⟩ hk
    have hln : ∀ k : AV → Prop, qLenL (.sl (boolRows bad) tk) k = k (.int .i64 (bad.length : Int)) := fun k => by rw [qLenL_sl, boolRows_len]
    by_cases h1 : i < bad.length
    · have h1' : (i : Int) < (bad.length : Int) := by omega
      by_cases h2 : i < 20
      · have h2' : (i : Int) < 20 := by omega
        obtain ⟨b, hb⟩ : ∃ b, bad[i]? = some b := ⟨_, List.getElem?_eq_getElem h1⟩
        have ht := take_succ' hb
        have ix := fun k => qIa_bools (tk := tk) hb k
        have w1 := wrap_up (cntT (bad.take i)) (by have := cntT_le (bad.take i); rw [List.length_take] at this; omega)
        have w2 := wrap_up i (by omega)
        cases b with
        | false =>
          simp only [l12_6, r12_22, r12_24, r12_23, opn_z, opn_s, sel_z, sel_s, qCd_eq, qIf_true, qIf_false, qFn_eq, qBl_eq, qO_some, qRes_val, qHp_some, qPick_true, qPick_false, qG_tt, qG_ff, qG_tf, qG_ft, cellsK_some, qLd_vptr, qLdA_vptr, qFa_ptr, qFa_vptr, qNc_ptr, qNc_vptr, qNc_fn, qNot_bool, qExt_tup, qCallV_fn, qLss_int, qLeq_int, qGtr_int, qGeq_int, qEql_int, qNeq_int, qAdd_int, qSub_int, qMul_int, qConvI_int, qLenL_sl, qLenL_hsl, qLenS_str, foldO, min2_int, max2_int, qSame_refl, Nat.zero_add, List.getElem?_cons_zero, List.getElem?_cons_succ, List.nil_append, List.cons_append, List.append_nil, one_bool, one_int, one_str, one_nilp, one_ptr, one_sl, one_hsl, one_map, one_fn, List.length_cons, List.length_nil, List.set_cons_zero, List.set_cons_succ, Nat.reduceLT, Nat.reduceAdd, hln, h1', h2', decide_true, ix, Bool.not_false, w2]
          exact hk (20 - (i + 1)) _ _ (by omega) ⟨i + 1, _, _, _, _, _, _, _, _, _, _, _, _, _, rfl, by omega, by omega, by rw [ht, cntT_app]; rfl, rfl⟩
        | true =>
          have hg := pF_get deep 0 (bad.take 20) i (by rw [List.getElem?_take, if_pos h2]; exact hb)
          rw [List.take_take, Nat.min_eq_left hi, Nat.zero_add] at hg
          obtain ⟨fr, e1, ⟨tk2, rfl⟩⟩ := hf.get hg
          have ixf : ∀ k : AV → Prop, qIa 2 (.sl frows tkf) (.int .i64 (cntT (bad.take i) : Int)) k = k (.vptr [.str sTYPE, .sl (pRows (pPath deep i)) tk2] 0) := fun k => qIa_sl (R := Prop) .i64 k 2 frows tkf _ _ e1 rfl
          have fin : k [.sl (boolRows bad) tk, .bool must, .bool deep, x6, P7, P8, x9, x10, P11, P12, .sl frows tkf, .int .i64 ((cntT (bad.take i) + 1 : Nat) : Int), .int .i64 ((i + 1 : Nat) : Int), .sl (pRows (pPath deep i)) tk2, x17, x25, x33, x37, x49, x62, .bool true, .bool false, .bool false] H1 :=
            hk (20 - (i + 1)) _ _ (by omega) ⟨i + 1, _, _, _, _, _, _, _, _, _, _, _, _, _, rfl, by omega, by omega, by rw [ht, cntT_app]; rfl, rfl⟩
          have c2 : ¬ ((2 : Int) < 2) := by decide
          have c3 : ¬ ((3 : Int) < 2) := by decide
          have c33 : ((3 : Int) == 3) = true := rfl
          have c22 : ((2 : Int) == 2) = true := rfl
          have ce : decide (([] : Str) = []) = true := rfl
          cases deep with
          | false =>
            have q1 : ∀ k : AV → Prop, qLenL (.sl (pRows (pPath false i)) tk2) k = k (.int .i64 2) := fun k => rfl
            have q2 : ∀ k : AV → Prop, qIa 2 (.sl (pRows (pPath false i)) tk2) (.int .i64 0) k = k (.vptr [.str [120], .int .i64 0] 0) := fun k => rfl
            have q3 : ∀ k : AV → Prop, qIa 2 (.sl (pRows (pPath false i)) tk2) (.int .i64 1) k = k (.vptr [.str [], .int .i64 (i : Int)] 0) := fun k => rfl
            simp only [l12_6, r12_22, r12_24, r12_25, r12_26, r12_28, r12_23, opn_z, opn_s, sel_z, sel_s, qCd_eq, qIf_true, qIf_false, qFn_eq, qBl_eq, qO_some, qRes_val, qHp_some, qPick_true, qPick_false, qG_tt, qG_ff, qG_tf, qG_ft, cellsK_some, qLd_vptr, qLdA_vptr, qFa_ptr, qFa_vptr, qNc_ptr, qNc_vptr, qNc_fn, qNot_bool, qExt_tup, qCallV_fn, qLss_int, qLeq_int, qGtr_int, qGeq_int, qEql_int, qNeq_int, qAdd_int, qSub_int, qMul_int, qConvI_int, qLenL_sl, qLenL_hsl, qLenS_str, foldO, min2_int, max2_int, qSame_refl, Nat.zero_add, List.getElem?_cons_zero, List.getElem?_cons_succ, List.nil_append, List.cons_append, List.append_nil, one_bool, one_int, one_str, one_nilp, one_ptr, one_sl, one_hsl, one_map, one_fn, List.length_cons, List.length_nil, List.set_cons_zero, List.set_cons_succ, Nat.reduceLT, Nat.reduceAdd, hln, h1', h2', decide_true, decide_false, ix, ixf, Bool.not_true, Bool.not_false, q1, q2, q3, c2, c22, qNeq_str, beq_self_eq_true, sTYPE, w1, w2]
            exact fin
          | true =>
            have q1 : ∀ k : AV → Prop, qLenL (.sl (pRows (pPath true i)) tk2) k = k (.int .i64 3) := fun k => rfl
            have q2 : ∀ k : AV → Prop, qIa 2 (.sl (pRows (pPath true i)) tk2) (.int .i64 0) k = k (.vptr [.str [120], .int .i64 0] 0) := fun k => rfl
            have q3 : ∀ k : AV → Prop, qIa 2 (.sl (pRows (pPath true i)) tk2) (.int .i64 1) k = k (.vptr [.str [], .int .i64 (i : Int)] 0) := fun k => rfl
            have q4 : ∀ k : AV → Prop, qIa 2 (.sl (pRows (pPath true i)) tk2) (.int .i64 2) k = k (.vptr [.str [121], .int .i64 0] 0) := fun k => rfl
            simp only [l12_6, r12_22, r12_24, r12_25, r12_26, r12_28, r12_23, opn_z, opn_s, sel_z, sel_s, qCd_eq, qIf_true, qIf_false, qFn_eq, qBl_eq, qO_some, qRes_val, qHp_some, qPick_true, qPick_false, qG_tt, qG_ff, qG_tf, qG_ft, cellsK_some, qLd_vptr, qLdA_vptr, qFa_ptr, qFa_vptr, qNc_ptr, qNc_vptr, qNc_fn, qNot_bool, qExt_tup, qCallV_fn, qLss_int, qLeq_int, qGtr_int, qGeq_int, qEql_int, qNeq_int, qAdd_int, qSub_int, qMul_int, qConvI_int, qLenL_sl, qLenL_hsl, qLenS_str, foldO, min2_int, max2_int, qSame_refl, Nat.zero_add, List.getElem?_cons_zero, List.getElem?_cons_succ, List.nil_append, List.cons_append, List.append_nil, one_bool, one_int, one_str, one_nilp, one_ptr, one_sl, one_hsl, one_map, one_fn, List.length_cons, List.length_nil, List.set_cons_zero, List.set_cons_succ, Nat.reduceLT, Nat.reduceAdd, hln, h1', h2', decide_true, decide_false, ix, ixf, Bool.not_true, Bool.not_false, q1, q2, q3, q4, c3, c33, qNeq_str, beq_self_eq_true, sTYPE, w1, w2]
            exact fin
      · have h2' : ¬ (i : Int) < 20 := by omega
        have hd := hK
        simp only [l12_6, r12_22, opn_z, opn_s, sel_z, sel_s, qCd_eq, qIf_true, qIf_false, qFn_eq, qBl_eq, qO_some, qRes_val, qHp_some, qPick_true, qPick_false, qG_tt, qG_ff, qG_tf, qG_ft, cellsK_some, qLd_vptr, qLdA_vptr, qFa_ptr, qFa_vptr, qNc_ptr, qNc_vptr, qNc_fn, qNot_bool, qExt_tup, qCallV_fn, qLss_int, qLeq_int, qGtr_int, qGeq_int, qEql_int, qNeq_int, qAdd_int, qSub_int, qMul_int, qConvI_int, qLenL_sl, qLenL_hsl, qLenS_str, foldO, min2_int, max2_int, qSame_refl, Nat.zero_add, List.getElem?_cons_zero, List.getElem?_cons_succ, List.nil_append, List.cons_append, List.append_nil, one_bool, one_int, one_str, one_nilp, one_ptr, one_sl, one_hsl, one_map, one_fn, List.length_cons, List.length_nil, List.set_cons_zero, List.set_cons_succ, Nat.reduceLT, Nat.reduceAdd, hln, h1', h2', decide_true, decide_false]
        exact hd _ _ _ _ _ _ _ _ _ _ _ _ _ _ _
    · have h1' : ¬ (i : Int) < (bad.length : Int) := by omega
      have hd := hK
      simp only [l12_6, r12_22, opn_z, opn_s, sel_z, sel_s, qCd_eq, qIf_true, qIf_false, qFn_eq, qBl_eq, qO_some, qRes_val, qHp_some, qPick_true, qPick_false, qG_tt, qG_ff, qG_tf, qG_ft, cellsK_some, qLd_vptr, qLdA_vptr, qFa_ptr, qFa_vptr, qNc_ptr, qNc_vptr, qNc_fn, qNot_bool, qExt_tup, qCallV_fn, qLss_int, qLeq_int, qGtr_int, qGeq_int, qEql_int, qNeq_int, qAdd_int, qSub_int, qMul_int, qConvI_int, qLenL_sl, qLenL_hsl, qLenS_str, foldO, min2_int, max2_int, qSame_refl, Nat.zero_add, List.getElem?_cons_zero, List.getElem?_cons_succ, List.nil_append, List.cons_append, List.append_nil, one_bool, one_int, one_str, one_nilp, one_ptr, one_sl, one_hsl, one_map, one_fn, List.length_cons, List.length_nil, List.set_cons_zero, List.set_cons_succ, Nat.reduceLT, Nat.reduceAdd, hln, h1', decide_false]
      exact hd _ _ _ _ _ _ _ _ _ _ _ _ _ _ _
  · exact ⟨0, _, _, _, _, _, _, _, _, _, _, _, _, _, rfl, by omega, by omega, rfl, rfl⟩

end T
set_option linter.unusedVariables false
set_option linter.unusedSimpArgs false
set_option maxRecDepth 10000
namespace T
open Go Go.Aes Go.Proofs

theorem ev_paths (bad : List Bool) (tk : Tk) (must deep : Bool) : ∃ H', EP 12 [.sl (boolRows bad) tk, .bool must, .bool deep] H0 = some (.val (.bool true) H') := by
  suffices key : ∃ v H', EP 12 [.sl (boolRows bad) tk, .bool must, .bool deep] H0 = some (.val v H') ∧ v = .bool true by
    obtain ⟨v, H', h1, rfl⟩ := key
    exact ⟨H', h1⟩
  refine ap_form e12 xf12 rfl ?_
  simp only [c12, r12_0, r12_1, r12_2, r12_3, opn_z, opn_s, sel_z, sel_s, qCd_eq, qIf_true, qIf_false, qFn_eq, qBl_eq, qO_some, qRes_val, qHp_some, qPick_true, qPick_false, qG_tt, qG_ff, qG_tf, qG_ft, cellsK_some, qLd_vptr, qLdA_vptr, qFa_ptr, qFa_vptr, qNc_ptr, qNc_vptr, qNc_fn, qNot_bool, qExt_tup, qCallV_fn, qLss_int, qLeq_int, qGtr_int, qGeq_int, qEql_int, qNeq_int, qAdd_int, qSub_int, qMul_int, qConvI_int, qLenL_sl, qLenL_hsl, qLenS_str, foldO, min2_int, max2_int, qSame_refl, Nat.zero_add, List.getElem?_cons_zero, List.getElem?_cons_succ, List.nil_append, List.cons_append, List.append_nil, one_bool, one_int, one_str, one_nilp, one_ptr, one_sl, one_hsl, one_map, one_fn, List.length_cons, List.length_nil, List.set_cons_zero, List.set_cons_succ, Nat.reduceLT, Nat.reduceAdd]
  refine paths_make bad tk must deep _ ?_ _ _ _ _ _ _ _ _ _ _ _ _ _ _ _ _ _ _
  intro H1 v rows hfn ow hE x6 x9 x10 x11 x12 x13 x14 x15 x16 x17 x25 x33 x37 x49 x62 x70 x77 x139
  obtain ⟨kw, kt⟩ := kids_tot deep (bad.take 20)
  have hrl := hE.len
  rw [List.length_map] at hrl
  have h20 : (bad.take 20).length ≤ 20 := by rw [List.length_take]; omega
  obtain ⟨tkv, rfl⟩ := ow.sl
  have b1 : ∀ k : AV → Prop, qBld z54 [(0, 1, .str [84]), (1, 1, .str [93])] k = k (.agg [.str [84], .str [93]]) := fun k => rfl
  have g1 := get_push_at (H := H1) (.cells z54)
  have s1 := fun k => qSt_whole (n := 2) g1 (l := [.str [84], .str [93]]) rfl rfl rfl k
  have g2 := get_set_at g1 (.cells [.str [84], .str [93]])
  have s2 := fun k => qSt_gen (n := 1) (cs' := [.str [84], .str [33, 93, 33]]) g2 1 (.str [33, 93, 33]) rfl rfl rfl k
  have g3 := get_set_at g2 (.cells [.str [84], .str [33, 93, 33]])
  simp only [r12_14, r12_15, opn_z, opn_s, sel_z, sel_s, qCd_eq, qIf_true, qIf_false, qFn_eq, qBl_eq, qO_some, qRes_val, qHp_some, qPick_true, qPick_false, qG_tt, qG_ff, qG_tf, qG_ft, cellsK_some, qLd_vptr, qLdA_vptr, qFa_ptr, qFa_vptr, qNc_ptr, qNc_vptr, qNc_fn, qNot_bool, qExt_tup, qCallV_fn, qLss_int, qLeq_int, qGtr_int, qGeq_int, qEql_int, qNeq_int, qAdd_int, qSub_int, qMul_int, qConvI_int, qLenL_sl, qLenL_hsl, qLenS_str, foldO, min2_int, max2_int, qSame_refl, Nat.zero_add, List.getElem?_cons_zero, List.getElem?_cons_succ, List.nil_append, List.cons_append, List.append_nil, one_bool, one_int, one_str, one_nilp, one_ptr, one_sl, one_hsl, one_map, one_fn, List.length_cons, List.length_nil, List.set_cons_zero, List.set_cons_succ, Nat.reduceLT, Nat.reduceAdd, b1, qNew_i, wr_ptr, s1]
  suffices key : ∀ (H2 : AH), IsFn H2 → H2.get H1.nx = some (.cells [.str [84], .str (if must then [33, 93, 33] else [93])]) → ∀ (x49 : AV),
      r12_17 EP (r12_18 (qCd (sel 19) (fun _ => r12_19 fun fr H => sel 3 fr = .bool true) (fun k7 => k7) (r12_20 (r12_21 (qLoop (l12_6 (r12_29 (r12_30 EP fun fr H => sel 3 fr = .bool true)) (fun fr H => sel 3 fr = .bool true)))))))
        [.sl (boolRows bad) tk, .bool must, .bool deep, x6, .sl rows tkv, .int .i64 (cntT (bad.take 20) : Int), x9, x10, .ptr H1.nx 0, x12, x13, x14, x15, x16, x17, x25, x33, x37, x49, x62, x70, x77, x139] H2 by
    cases must with
    | false =>
      simp only [opn_z, opn_s, sel_z, sel_s, qCd_eq, qIf_true, qIf_false, qFn_eq, qBl_eq, qO_some, qRes_val, qHp_some, qPick_true, qPick_false, qG_tt, qG_ff, qG_tf, qG_ft, cellsK_some, qLd_vptr, qLdA_vptr, qFa_ptr, qFa_vptr, qNc_ptr, qNc_vptr, qNc_fn, qNot_bool, qExt_tup, qCallV_fn, qLss_int, qLeq_int, qGtr_int, qGeq_int, qEql_int, qNeq_int, qAdd_int, qSub_int, qMul_int, qConvI_int, qLenL_sl, qLenL_hsl, qLenS_str, foldO, min2_int, max2_int, qSame_refl, Nat.zero_add, List.getElem?_cons_zero, List.getElem?_cons_succ, List.nil_append, List.cons_append, List.append_nil, one_bool, one_int, one_str, one_nilp, one_ptr, one_sl, one_hsl, one_map, one_fn, List.length_cons, List.length_nil, List.set_cons_zero, List.set_cons_succ, Nat.reduceLT, Nat.reduceAdd]
      exact key _ inferInstance g2 _
    | true =>
      simp only [opn_z, opn_s, sel_z, sel_s, qCd_eq, qIf_true, qIf_false, qFn_eq, qBl_eq, qO_some, qRes_val, qHp_some, qPick_true, qPick_false, qG_tt, qG_ff, qG_tf, qG_ft, cellsK_some, qLd_vptr, qLdA_vptr, qFa_ptr, qFa_vptr, qNc_ptr, qNc_vptr, qNc_fn, qNot_bool, qExt_tup, qCallV_fn, qLss_int, qLeq_int, qGtr_int, qGeq_int, qEql_int, qNeq_int, qAdd_int, qSub_int, qMul_int, qConvI_int, qLenL_sl, qLenL_hsl, qLenS_str, foldO, min2_int, max2_int, qSame_refl, Nat.zero_add, List.getElem?_cons_zero, List.getElem?_cons_succ, List.nil_append, List.cons_append, List.append_nil, one_bool, one_int, one_str, one_nilp, one_ptr, one_sl, one_hsl, one_map, one_fn, List.length_cons, List.length_nil, List.set_cons_zero, List.set_cons_succ, Nat.reduceLT, Nat.reduceAdd, r12_16, s2]
      exact key _ inferInstance g3 _
  intro H2 hf2 gt x49
  obtain ⟨vals, v1, v2⟩ := p_fin bad must deep
  generalize hw : (if must then [33, 93, 33] else [93] : Str) = w at gt
  have lt := fun k => qLdA_whole (n := 2) gt rfl k
  have b2 : ∀ k : AV → Prop, qBld z61 [(0, 1, .int .i64 4), (1, 1, .str [120]), (2, 2, .agg [.str [84], .str w]), (9, 1, .sl rows tkv)] k =
      k (.agg [.int .i64 4, .str [120], .str [84], .str w, .int .i64 0, .str [], .sl [] .nil, .sl [] .nil, .str [], .sl rows tkv]) := fun k => rfl
  have b3 : ∀ k : AV → Prop, qRows z61 1 [(0, .agg [.int .i64 4, .str [120], .str [84], .str w, .int .i64 0, .str [], .sl [] .nil, .sl [] .nil, .str [], .sl rows tkv])] k =
      k (.sl [[.int .i64 4, .str [120], .str [84], .str w, .int .i64 0, .str [], .sl [] .nil, .sl [] .nil, .str [], .sl rows tkv]] .full) := fun k => rfl
  have hEn : EN (pNd bad must deep) [.int .i64 4, .str [120], .str [84], .str w, .int .i64 0, .str [], .sl [] .nil, .sl [] .nil, .str [], .sl rows tkv] := by
    unfold pNd
    rw [hw]
    exact ⟨_, _, _, _, _, _, EVzero, rfl, hE⟩
  have hwk : woks [pNd bad must deep] := ⟨⟨by cases must <;> decide, kw⟩, trivial⟩
  obtain ⟨v, ⟨r, frows, tkf, rfl, f1, f2⟩, f3⟩ := ep32 .full (ENs.one hEn) hwk (by simp only [tots, pNd, tot]; omega)
  rw [v2] at f1 f2
  have n1 : ∀ k : AV → AH → Prop, qNew (.cells z58) .ptr H2 k = k (.ptr H2.nx 0) (H2.push (.cells z58)) := fun k => by rw [qNew_i, wr_ptr]
  have gz := get_push_at (H := H2) (.cells z58)
  have sz := fun k => qSt_whole (n := 4) gz (l := r) rfl f1.four f1.ones k
  have gr := get_set_at gz (.cells r)
  have fl : frows.length = cntT (bad.take 20) := by rw [f2.len, pF_len]
  simp only [r12_17, opn_z, opn_s, sel_z, sel_s, qCd_eq, qIf_true, qIf_false, qFn_eq, qBl_eq, qO_some, qRes_val, qHp_some, qPick_true, qPick_false, qG_tt, qG_ff, qG_tf, qG_ft, cellsK_some, qLd_vptr, qLdA_vptr, qFa_ptr, qFa_vptr, qNc_ptr, qNc_vptr, qNc_fn, qNot_bool, qExt_tup, qCallV_fn, qLss_int, qLeq_int, qGtr_int, qGeq_int, qEql_int, qNeq_int, qAdd_int, qSub_int, qMul_int, qConvI_int, qLenL_sl, qLenL_hsl, qLenS_str, foldO, min2_int, max2_int, qSame_refl, Nat.zero_add, List.getElem?_cons_zero, List.getElem?_cons_succ, List.nil_append, List.cons_append, List.append_nil, one_bool, one_int, one_str, one_nilp, one_ptr, one_sl, one_hsl, one_map, one_fn, List.length_cons, List.length_nil, List.set_cons_zero, List.set_cons_succ, Nat.reduceLT, Nat.reduceAdd, lt, b2, b3]
  rw [f3]
  simp only [r12_18, opn_z, opn_s, sel_z, sel_s, qCd_eq, qIf_true, qIf_false, qFn_eq, qBl_eq, qO_some, qRes_val, qHp_some, qPick_true, qPick_false, qG_tt, qG_ff, qG_tf, qG_ft, cellsK_some, qLd_vptr, qLdA_vptr, qFa_ptr, qFa_vptr, qNc_ptr, qNc_vptr, qNc_fn, qNot_bool, qExt_tup, qCallV_fn, qLss_int, qLeq_int, qGtr_int, qGeq_int, qEql_int, qNeq_int, qAdd_int, qSub_int, qMul_int, qConvI_int, qLenL_sl, qLenL_hsl, qLenS_str, foldO, min2_int, max2_int, qSame_refl, Nat.zero_add, List.getElem?_cons_zero, List.getElem?_cons_succ, List.nil_append, List.cons_append, List.append_nil, one_bool, one_int, one_str, one_nilp, one_ptr, one_sl, one_hsl, one_map, one_fn, List.length_cons, List.length_nil, List.set_cons_zero, List.set_cons_succ, Nat.reduceLT, Nat.reduceAdd, n1, sz, fl, beq_self_eq_true, Bool.not_true, r12_20, r12_21]
  refine paths_look bad tk must deep frows tkf f2 _ _ _ _ _ _ _ ?_ _ _ _ _ _ _ _ _ _ _ _ _ _
  intro x6 x9 x10 x14 x15 x16 x17 x25 x33 x37 x49 x62 x70 x77 x139
  haveI : IsFn ((H2.push (.cells z58)).set H2.nx (some (.cells r))) := inferInstance
  generalize (H2.push (.cells z58)).set H2.nx (some (.cells r)) = H3 at gr ⊢
  have aw := ep33 H3
  have gt0 : decide ((0 : Int) < (cntT (bad.take 20) : Int)) = decide (0 < cntT (bad.take 20)) := by
    rw [Bool.eq_iff_iff]; simp
  have hfl : ∀ k : KT Prop, r12_29 k [.sl (boolRows bad) tk, .bool must, .bool deep, x6, .sl rows tkv, .int .i64 (cntT (bad.take 20) : Int), x9, x10, .ptr H1.nx 0, .ptr H2.nx 0, .sl frows tkf, x14, x15, x16, x17, x25, x33, x37, x49, x62, x70, x77, x139] H3 =
      k [.sl (boolRows bad) tk, .bool must, .bool deep, x6, .sl rows tkv, .int .i64 (cntT (bad.take 20) : Int), x9, x10, .ptr H1.nx 0, .ptr H2.nx 0, .sl frows tkf, x14, x15, x16, .bool (pFalls bad must deep), x25, x33, x37, x49, x62, x70, x77, x139] H3 := fun k => by
    unfold pFalls
    cases must <;> cases deep <;> simp only [r12_29, opn_z, opn_s, sel_z, sel_s, qCd_eq, qIf_true, qIf_false, qFn_eq, qBl_eq, qO_some, qRes_val, qHp_some, qPick_true, qPick_false, qG_tt, qG_ff, qG_tf, qG_ft, cellsK_some, qLd_vptr, qLdA_vptr, qFa_ptr, qFa_vptr, qNc_ptr, qNc_vptr, qNc_fn, qNot_bool, qExt_tup, qCallV_fn, qLss_int, qLeq_int, qGtr_int, qGeq_int, qEql_int, qNeq_int, qAdd_int, qSub_int, qMul_int, qConvI_int, qLenL_sl, qLenL_hsl, qLenS_str, foldO, min2_int, max2_int, qSame_refl, Nat.zero_add, List.getElem?_cons_zero, List.getElem?_cons_succ, List.nil_append, List.cons_append, List.append_nil, one_bool, one_int, one_str, one_nilp, one_ptr, one_sl, one_hsl, one_map, one_fn, List.length_cons, List.length_nil, List.set_cons_zero, List.set_cons_succ, Nat.reduceLT, Nat.reduceAdd, Bool.not_false, Bool.not_true, gt0, Bool.true_and, Bool.false_and, Bool.and_false, Bool.and_true]
  rw [hfl]
  cases hp : pFalls bad must deep with
  | true =>
    rw [hp] at f1
    obtain ⟨t1, t2, rws, rfl, _⟩ := f1
    have l0 := fun k => ld1 gr 0 (.int .i64 1) rfl k
    simp -implicitDefEqProofs only [r12_30, opn_z, opn_s, sel_z, sel_s, qCd_eq, qIf_true, qIf_false, qFn_eq, qBl_eq, qO_some, qRes_val, qHp_some, qPick_true, qPick_false, qG_tt, qG_ff, qG_tf, qG_ft, cellsK_some, qLd_vptr, qLdA_vptr, qFa_ptr, qFa_vptr, qNc_ptr, qNc_vptr, qNc_fn, qNot_bool, qExt_tup, qCallV_fn, qLss_int, qLeq_int, qGtr_int, qGeq_int, qEql_int, qNeq_int, qAdd_int, qSub_int, qMul_int, qConvI_int, qLenL_sl, qLenL_hsl, qLenS_str, foldO, min2_int, max2_int, qSame_refl, Nat.zero_add, List.getElem?_cons_zero, List.getElem?_cons_succ, List.nil_append, List.cons_append, List.append_nil, one_bool, one_int, one_str, one_nilp, one_ptr, one_sl, one_hsl, one_map, one_fn, List.length_cons, List.length_nil, List.set_cons_zero, List.set_cons_succ, Nat.reduceLT, Nat.reduceAdd, qG_un, l0, beq_self_eq_true, qEql_bool]
    rw [aw]
    simp only [opn_z, opn_s, sel_z, sel_s, qCd_eq, qIf_true, qIf_false, qFn_eq, qBl_eq, qO_some, qRes_val, qHp_some, qPick_true, qPick_false, qG_tt, qG_ff, qG_tf, qG_ft, cellsK_some, qLd_vptr, qLdA_vptr, qFa_ptr, qFa_vptr, qNc_ptr, qNc_vptr, qNc_fn, qNot_bool, qExt_tup, qCallV_fn, qLss_int, qLeq_int, qGtr_int, qGeq_int, qEql_int, qNeq_int, qAdd_int, qSub_int, qMul_int, qConvI_int, qLenL_sl, qLenL_hsl, qLenS_str, foldO, min2_int, max2_int, qSame_refl, Nat.zero_add, List.getElem?_cons_zero, List.getElem?_cons_succ, List.nil_append, List.cons_append, List.append_nil, one_bool, one_int, one_str, one_nilp, one_ptr, one_sl, one_hsl, one_map, one_fn, List.length_cons, List.length_nil, List.set_cons_zero, List.set_cons_succ, Nat.reduceLT, Nat.reduceAdd]
  | false =>
    rw [hp] at f1
    obtain ⟨t1, t2, rws, rfl, ⟨r1, rs, rfl, ⟨t3, t4, lr, rfl, hlr⟩, rfl⟩⟩ := f1
    have l0 := fun k => ld1 gr 0 (.int .i64 8) rfl k
    have l3 := fun k => ld1 gr 3 (.sl [[.int .i64 7, .str [], .sl (strRows []) t3, .sl lr t4]] t2) rfl k
    have q1 : ∀ k : AV → Prop, qLenL (.sl [[.int .i64 7, .str [], .sl (strRows []) t3, .sl lr t4]] t2) k = k (.int .i64 1) := fun k => rfl
    have q2 : ∀ k : AV → Prop, qIa 4 (.sl [[.int .i64 7, .str [], .sl (strRows []) t3, .sl lr t4]] t2) (.int .i64 0) k = k (.vptr [.int .i64 7, .str [], .sl (strRows []) t3, .sl lr t4] 0) := fun k => rfl
    have e1 : ((8 : Int) == 1) = false := rfl
    have hll : lr.length = rows.length := by rw [hlr.len, v1, hrl]
    simp -implicitDefEqProofs only [r12_30, opn_z, opn_s, sel_z, sel_s, qCd_eq, qIf_true, qIf_false, qFn_eq, qBl_eq, qO_some, qRes_val, qHp_some, qPick_true, qPick_false, qG_tt, qG_ff, qG_tf, qG_ft, cellsK_some, qLd_vptr, qLdA_vptr, qFa_ptr, qFa_vptr, qNc_ptr, qNc_vptr, qNc_fn, qNot_bool, qExt_tup, qCallV_fn, qLss_int, qLeq_int, qGtr_int, qGeq_int, qEql_int, qNeq_int, qAdd_int, qSub_int, qMul_int, qConvI_int, qLenL_sl, qLenL_hsl, qLenS_str, foldO, min2_int, max2_int, qSame_refl, Nat.zero_add, List.getElem?_cons_zero, List.getElem?_cons_succ, List.nil_append, List.cons_append, List.append_nil, one_bool, one_int, one_str, one_nilp, one_ptr, one_sl, one_hsl, one_map, one_fn, List.length_cons, List.length_nil, List.set_cons_zero, List.set_cons_succ, Nat.reduceLT, Nat.reduceAdd, qG_un, l0, l3, q1, q2, e1, qEql_bool, beq_self_eq_true, hll]
    rw [aw]
    simp only [opn_z, opn_s, sel_z, sel_s, qCd_eq, qIf_true, qIf_false, qFn_eq, qBl_eq, qO_some, qRes_val, qHp_some, qPick_true, qPick_false, qG_tt, qG_ff, qG_tf, qG_ft, cellsK_some, qLd_vptr, qLdA_vptr, qFa_ptr, qFa_vptr, qNc_ptr, qNc_vptr, qNc_fn, qNot_bool, qExt_tup, qCallV_fn, qLss_int, qLeq_int, qGtr_int, qGeq_int, qEql_int, qNeq_int, qAdd_int, qSub_int, qMul_int, qConvI_int, qLenL_sl, qLenL_hsl, qLenS_str, foldO, min2_int, max2_int, qSame_refl, Nat.zero_add, List.getElem?_cons_zero, List.getElem?_cons_succ, List.nil_append, List.cons_append, List.append_nil, one_bool, one_int, one_str, one_nilp, one_ptr, one_sl, one_hsl, one_map, one_fn, List.length_cons, List.length_nil, List.set_cons_zero, List.set_cons_succ, Nat.reduceLT, Nat.reduceAdd]

end T
