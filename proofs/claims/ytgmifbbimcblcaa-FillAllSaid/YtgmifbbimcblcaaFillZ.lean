import Derived.Test.YtgmifbbimcblcaaFillY
set_option linter.all false
set_option linter.unusedVariables false
set_option linter.unusedSimpArgs false
set_option maxRecDepth 10000
namespace T
open Go Go.Aes Go.Proofs

/-! ### a fault so deep -/
def gt' (l : List Bool) (i : Nat) : Bool := l.getD i false
def sERR : Str := [69, 82, 82, 79, 82]
def bangIf (b : Bool) : Str := if b then [33] else []
def setKey : Nd → Str → Nd
  | .mk k _ tn w v wh kids, key => .mk k key tn w v wh kids
def nodeN (m l : List Bool) : Nat → Nd
  | 0 => .mk 3 [120] [84] (bangIf (gt' m 0)) zeroV sERR []
  | i + 1 => if gt' l (i + 1) then .mk 4 [120] [84] ((nodeN m l i).w ++ [93] ++ bangIf (gt' m (i + 1))) zeroV [] [setKey (nodeN m l i) []]
      else .mk 5 [120] [84] (bangIf (gt' m (i + 1))) zeroV [] [nodeN m l i]
def upF (m : List Bool) : Nat → Bool
  | 0 => gt' m 0
  | i + 1 => upF m i && gt' m (i + 1)
def lvF (m : List Bool) : Nat → Nat
  | 0 => if gt' m 0 then 1 else 0
  | i + 1 => if gt' m (i + 1) && upF m i then lvF m i + 1 else lvF m i

theorem lvF_up (m : List Bool) : ∀ i, (upF m i = true → lvF m i = i + 1) ∧ (upF m i = false → lvF m i ≤ i)
  | 0 => by cases h : gt' m 0 <;> simp [upF, lvF, h]
  | i + 1 => by
    obtain ⟨h1, h2⟩ := lvF_up m i
    cases ha : upF m i <;> cases hb : gt' m (i + 1) <;> simp [upF, lvF, ha, hb] at h1 h2 ⊢ <;> omega

theorem nodeF_key (w : Str) (path : List (Str × Int)) (n : Nd) (key : Str) : nodeF w path (setKey n key) = nodeF w path n := by
  cases n; simp [setKey, nodeF]
theorem setKey_w (n : Nd) (key : Str) : (setKey n key).w = n.w := by cases n; rfl

theorem ends_bang (w : Str) (b : Bool) : ends (w ++ [93] ++ bangIf b) 33 = b ∧ cutE (cutE (w ++ [93] ++ bangIf b) 33) 93 = w := by
  cases b with
  | false =>
    have : bangIf false = [] := rfl
    rw [this, List.append_nil]
    constructor
    · simp [ends]
    · have h1 : cutE (w ++ [93]) 33 = w ++ [93] := by simp [cutE]
      rw [h1]; simp [cutE]
  | true =>
    have : bangIf true = [33] := rfl
    rw [this]
    constructor
    · unfold ends; rw [List.getLast?_concat]; rfl
    · have h1 : cutE (w ++ [93] ++ [33]) 33 = w ++ [93] := by unfold cutE; rw [List.getLast?_concat, if_pos rfl, List.dropLast_concat]
      rw [h1]; unfold cutE; rw [List.getLast?_concat, if_pos rfl, List.dropLast_concat]
theorem ends_bang0 (b : Bool) : ends (bangIf b) 33 = b := by cases b <;> rfl

theorem nodeN_F (m l : List Bool) : ∀ (i : Nat) (path : List (Str × Int)), ∃ v pth, nodeF (nodeN m l i).w path (nodeN m l i) = (v, !upF m i, [⟨sERR, path ++ pth⟩]) ∧ pth.length = i
  | 0, path => ⟨nullV, [], by simp [nodeN, nodeF, Nd.w, ends_bang0, upF], rfl⟩
  | i + 1, path => by
    unfold nodeN
    by_cases hl : gt' l (i + 1) = true
    · rw [if_pos hl]
      obtain ⟨e1, e2⟩ := ends_bang (nodeN m l i).w (gt' m (i + 1))
      obtain ⟨v, pth, h1, h2⟩ := nodeN_F m l i (path ++ [([], 0)])
      have hi : itemsF (nodeN m l i).w path 0 [setKey (nodeN m l i) []] = ([v], !upF m i, [⟨sERR, path ++ ([], 0) :: pth⟩]) := by
        simp [itemsF, nodeF_key, h1]
      show ∃ v pth, nodeF ((nodeN m l i).w ++ [93] ++ bangIf (gt' m (i + 1))) path _ = _ ∧ _
      generalize (nodeN m l i).w ++ [93] ++ bangIf (gt' m (i + 1)) = W at e1 e2 ⊢
      cases hu : upF m i with
      | false => exact ⟨.mk 7 [] [] [v], ([], 0) :: pth, by simp [nodeF, hi, e1, e2, hu, upF], by simp [h2]⟩
      | true => exact ⟨nullV, ([], 0) :: pth, by simp [nodeF, hi, e1, e2, hu, upF], by simp [h2]⟩
    · rw [if_neg hl]
      obtain ⟨v, pth, h1, h2⟩ := nodeN_F m l i (path ++ [((nodeN m l i).key, 0)])
      have hi : fieldsF path [nodeN m l i] = ([v], !upF m i, [⟨sERR, path ++ ((nodeN m l i).key, 0) :: pth⟩]) := by
        simp [fieldsF, h1]
      cases hu : upF m i with
      | false => exact ⟨.mk 8 [] [(nodeN m l i).key] [v], ((nodeN m l i).key, 0) :: pth, by simp [nodeF, Nd.w, hi, ends_bang0, hu, upF], by simp [h2]⟩
      | true => exact ⟨nullV, ((nodeN m l i).key, 0) :: pth, by simp [nodeF, Nd.w, hi, ends_bang0, hu, upF], by simp [h2]⟩

theorem nodeN_ok (m l : List Bool) : ∀ i, (nodeN m l i).w.length ≤ 2 * i + 1 ∧ tot (nodeN m l i) = i + 1 ∧ (i ≤ 1000 → wok (nodeN m l i))
  | 0 => by
    cases h : gt' m 0 <;> simp [nodeN, Nd.w, bangIf, tot, tots, wok, woks, h]
  | i + 1 => by
    obtain ⟨h1, h2, h3⟩ := nodeN_ok m l i
    have hb : (bangIf (gt' m (i + 1))).length ≤ 1 := by cases gt' m (i + 1) <;> simp [bangIf]
    have hs : tot (setKey (nodeN m l i) []) = i + 1 ∧ (wok (nodeN m l i) → wok (setKey (nodeN m l i) [])) := by
      rw [← h2]
      cases nodeN m l i
      exact ⟨rfl, fun h => h⟩
    unfold nodeN
    split
    · refine ⟨?_, ?_, fun hi => ⟨?_, hs.2 (h3 (by omega)), trivial⟩⟩
      · show ((nodeN m l i).w ++ [93] ++ bangIf (gt' m (i + 1))).length ≤ _
        rw [List.length_append, List.length_append, List.length_singleton]; omega
      · show 1 + (tot (setKey (nodeN m l i) []) + 0) = _
        omega
      · show ((nodeN m l i).w ++ [93] ++ bangIf (gt' m (i + 1))).length ≤ _
        rw [List.length_append, List.length_append, List.length_singleton]; omega
    · refine ⟨?_, ?_, fun hi => ⟨?_, h3 (by omega), trivial⟩⟩
      · show (bangIf (gt' m (i + 1))).length ≤ _
        omega
      · show 1 + (tot (nodeN m l i) + 0) = _
        omega
      · show (bangIf (gt' m (i + 1))).length ≤ _
        omega

def lastNd : Nd := .mk 1 [121] [73, 110, 116] [33] oneV [] []
theorem falls_fin (m l : List Bool) (i : Nat) : ∃ v pth, finF [setKey (nodeN m l i) [120], lastNd] = (if upF m i then nullV else .mk 8 [] [[120], [121]] [v, oneV], [⟨sERR, pth⟩]) ∧ pth.length = i + 1 := by
  obtain ⟨v, pth, h1, h2⟩ := nodeN_F m l i [([120], 0)]
  have hk : (setKey (nodeN m l i) [120]).key = [120] := by cases nodeN m l i; rfl
  refine ⟨v, ([120], 0) :: pth, ?_, by simp [h2]⟩
  have h3 : nodeF lastNd.w [([121], 0)] lastNd = (oneV, true, []) := by simp [lastNd, nodeF]
  have hk2 : lastNd.key = [121] := rfl
  simp only [finF, fieldsF, hk, setKey_w, nodeF_key, List.nil_append, h1, h3, List.map_cons, List.map_nil, hk2]
  cases upF m i <;> simp

theorem qAdd_str (t : Nat) (a b : Str) (h : a.length + b.length < most) (k : AV → Prop) : qAdd X t (.str a) (.str b) k = k (.str (a ++ b)) := by
  have hb : (a.length + b.length).blt most = true := by rw [Nat.blt_eq]; exact h
  show qO (binop X .add t (.str a) (.str b)) k = _
  show qO (bif (a.length + b.length).blt most then some (.str (a ++ b)) else none) k = _
  rw [hb]; rfl

/-- a flag out of a list of flags -/
theorem flag_at (l : List Bool) (tk : Tk) (i : Nat) (K : AV → AH → Prop) (H : AH) :
    (qG (.bool (decide ((i : Int) < ((boolRows l).length : Int)))) true (fun k => k (.sl (boolRows l) tk) H) H fun v52 H => qG (.bool (decide ((i : Int) < ((boolRows l).length : Int)))) true (fun k => k (.int .i64 (i : Int)) H) H fun v53 H =>
      qG (.bool (decide ((i : Int) < ((boolRows l).length : Int)))) true (fun k => qIa 1 v52 v53 fun v => k v H) H fun v54 H => qG (.bool (decide ((i : Int) < ((boolRows l).length : Int)))) true (fun k => qLd v54 H fun v => k v H) H fun v55 H =>
      qPick (.bool (decide ((i : Int) < ((boolRows l).length : Int)))) v55 (.bool false) fun w => K w H) = K (.bool (gt' l i)) H := by
  rw [boolRows_len]
  by_cases h : i < l.length
  · have h' : (i : Int) < (l.length : Int) := by omega
    obtain ⟨b, hb⟩ : ∃ b, l[i]? = some b := ⟨_, List.getElem?_eq_getElem h⟩
    have hg : gt' l i = b := by simp [gt', List.getD_eq_getElem?_getD, hb]
    simp -implicitDefEqProofs only [h', decide_true, qG_tt, qIa_bools hb, qLd_vptr, List.getElem?_cons_zero, qO_some, qPick_true, hg]
  · have h' : ¬ (i : Int) < (l.length : Int) := by omega
    have hg : gt' l i = false := by simp [gt', List.getD_eq_getElem?_getD, List.getElem?_eq_none (Nat.le_of_not_lt h)]
    simp -implicitDefEqProofs only [h', decide_false, qG_ft, qG_tf, qPick_false, hg]

theorem flag0_at (l : List Bool) (tk : Tk) (K : AV → AH → Prop) (H : AH) :
    (qG (.bool (decide ((0 : Int) < ((boolRows l).length : Int)))) true (fun k => k (.sl (boolRows l) tk) H) H fun v27 H =>
      qG (.bool (decide ((0 : Int) < ((boolRows l).length : Int)))) true (fun k => qIa 1 v27 (.int .i64 0) fun v => k v H) H fun v28 H => qG (.bool (decide ((0 : Int) < ((boolRows l).length : Int)))) true (fun k => qLd v28 H fun v => k v H) H fun v29 H =>
      qPick (.bool (decide ((0 : Int) < ((boolRows l).length : Int)))) v29 (.bool false) fun w => K w H) = K (.bool (gt' l 0)) H := by
  rw [boolRows_len]
  cases l with
  | nil => rfl
  | cons b l =>
    have h' : (0 : Int) < ((b :: l).length : Int) := by rw [List.length_cons]; omega
    have ix : ∀ k : AV → Prop, qIa 1 (.sl (boolRows (b :: l)) tk) (.int .i64 0) k = k (.vptr [.bool b] 0) := fun k => rfl
    have hg : gt' (b :: l) 0 = b := rfl
    simp -implicitDefEqProofs only [h', decide_true, qG_tt, ix, qLd_vptr, List.getElem?_cons_zero, qO_some, qPick_true, hg]

end T
set_option linter.unusedVariables false
set_option linter.unusedSimpArgs false
set_option maxRecDepth 10000
namespace T
open Go Go.Aes Go.Proofs

theorem qG_un' (w : Bool) (A : (AV → AH → Prop) → Prop) (H : AH) (k : AV → AH → Prop) : qG Aes.undef w A H k = k Aes.undef H := id rfl

/-- the second of two names -/
theorem ep34 {ra rb : List AV} {va vb : Val} (ha : EV va ra) (hb : EV vb rb) (t1 t2 : Tk) : ∃ v, (∃ rb', v = .tup [.agg rb', .bool true] ∧ EV vb rb') ∧
    ∀ H, EP 34 [.agg [.int .i64 8, .str [], .sl (strRows [[120], [121]]) t1, .sl [ra, rb] t2], .str [121]] H = some (.val v H) := by
  have hr : EV (.mk 8 [] [[120], [121]] [va, vb]) [.int .i64 8, .str [], .sl (strRows [[120], [121]]) t1, .sl [ra, rb] t2] := ⟨t1, t2, _, rfl, ra, [rb], rfl, ha, rb, [], rfl, hb, rfl⟩
  have hk := EV.kill _ _ hr
  refine pu_form_ex e34 xf34 rfl (by simp only [AV.kills, AV.kill, AV.frees, AV.free, hk.2, Bool.and_true] at hk ⊢; simpa using hk.2) ?_
  simp only [AV.kills, AV.kill, strRows_kill, AV.killss]
  have ha' := (EV.kill _ _ ha).1
  have hb' := (EV.kill _ _ hb).1
  generalize AV.kills ra = ra at ha'
  generalize AV.kills rb = rb at hb'
  generalize t1.kill = t1
  generalize t2.kill = t2
  have bx : ∀ k : AV → AH → Prop, qBox (.agg [.int .i64 8, .str [], .sl (strRows [[120], [121]]) t1, .sl [ra, rb] t2]) H0 k = k (.ptr 0 0) (H0.push (.cells [.int .i64 8, .str [], .sl (strRows [[120], [121]]) t1, .sl [ra, rb] t2])) := fun k => by rw [qBox_i]; rfl
  have nw : ∀ k : AV → AH → Prop, qNew (.cells z58) .ptr (H0.push (.cells [.int .i64 8, .str [], .sl (strRows [[120], [121]]) t1, .sl [ra, rb] t2])) k = k (.ptr 1 0) ((H0.push (.cells [.int .i64 8, .str [], .sl (strRows [[120], [121]]) t1, .sl [ra, rb] t2])).push (.cells z58)) := fun k => by rw [qNew_i]; rfl
  have g0 : ((H0.push (.cells [.int .i64 8, .str [], .sl (strRows [[120], [121]]) t1, .sl [ra, rb] t2])).push (.cells z58)).get 0 = some (.cells [.int .i64 8, .str [], .sl (strRows [[120], [121]]) t1, .sl [ra, rb] t2]) := rfl
  have g1 : ((H0.push (.cells [.int .i64 8, .str [], .sl (strRows [[120], [121]]) t1, .sl [ra, rb] t2])).push (.cells z58)).get 1 = some (.cells z58) := rfl
  simp only [c34, r34_0, r34_1, opn_z, opn_s, sel_z, sel_s, qCd_eq, qIf_true, qIf_false, qFn_eq, qBl_eq, qO_some, qRes_val, qHp_some, qPick_true, qPick_false, qG_tt, qG_ff, qG_tf, qG_ft, cellsK_some, qLd_vptr, qLdA_vptr, qFa_ptr, qFa_vptr, qNc_ptr, qNc_vptr, qNc_fn, qNot_bool, qExt_tup, qCallV_fn, qLss_int, qLeq_int, qGtr_int, qGeq_int, qEql_int, qNeq_int, qAdd_int, qSub_int, qMul_int, qConvI_int, qLenL_sl, qLenL_hsl, qLenS_str, foldO, min2_int, max2_int, qSame_refl, Nat.zero_add, List.getElem?_cons_zero, List.getElem?_cons_succ, List.nil_append, List.cons_append, List.append_nil, one_bool, one_int, one_str, one_nilp, one_ptr, one_sl, one_hsl, one_map, one_fn, List.length_cons, List.length_nil, List.set_cons_zero, List.set_cons_succ, Nat.reduceLT, Nat.reduceAdd, bx, nw]
  haveI : IsFn ((H0.push (.cells [.int .i64 8, .str [], .sl (strRows [[120], [121]]) t1, .sl [ra, rb] t2])).push (.cells z58)) := inferInstance
  generalize (H0.push (.cells [.int .i64 8, .str [], .sl (strRows [[120], [121]]) t1, .sl [ra, rb] t2])).push (.cells z58) = Ha at *
  have l0 := fun k => ld1 g0 0 _ rfl k
  have l2 := fun k => ld1 g0 2 _ rfl k
  have l3 := fun k => ld1 g0 3 _ rfl k
  have q1 : ∀ k : AV → Prop, qLenL (.sl (strRows [[120], [121]]) t1) k = k (.int .i64 2) := fun k => rfl
  have q2 : ∀ k : AV → Prop, qLenL (.sl [ra, rb] t2) k = k (.int .i64 2) := fun k => rfl
  refine loop_inv (fun m fr H => ∃ (i : Nat) (x23 x32 : AV), m = 2 - i ∧ i ≤ 1 ∧
    fr = [.agg [.int .i64 8, .str [], .sl (strRows [[120], [121]]) t1, .sl [ra, rb] t2], .str [121], .ptr 0 0, .ptr 1 0, .bool false, .int .i64 (i : Int), x23, x32] ∧ H = Ha) ?_ (m := 2) ?_
  · rintro m fr H k ⟨i, x23, x32, rfl, hi, rfl, rfl⟩ hk
    have hi2 : (i : Int) < 2 := by omega
    rcases Nat.lt_or_ge i 1 with h | h
    · obtain rfl : i = 0 := by omega
      have ix : ∀ k : AV → Prop, qIa 1 (.sl (strRows [[120], [121]]) t1) (.int .i64 ((0 : Nat) : Int)) k = k (.vptr [.str [120]] 0) := fun k => rfl
      have hs : decide (([120] : Str) = [121]) = false := rfl
      have hw := wrap_up 0 (by omega)
      simp -implicitDefEqProofs only [l34_5, r34_2, r34_3, r34_4, opn_z, opn_s, sel_z, sel_s, qCd_eq, qIf_true, qIf_false, qFn_eq, qBl_eq, qO_some, qRes_val, qHp_some, qPick_true, qPick_false, qG_tt, qG_ff, qG_tf, qG_ft, cellsK_some, qLd_vptr, qLdA_vptr, qFa_ptr, qFa_vptr, qNc_ptr, qNc_vptr, qNc_fn, qNot_bool, qExt_tup, qCallV_fn, qLss_int, qLeq_int, qGtr_int, qGeq_int, qEql_int, qNeq_int, qAdd_int, qSub_int, qMul_int, qConvI_int, qLenL_sl, qLenL_hsl, qLenS_str, foldO, min2_int, max2_int, qSame_refl, Nat.zero_add, List.getElem?_cons_zero, List.getElem?_cons_succ, List.nil_append, List.cons_append, List.append_nil, one_bool, one_int, one_str, one_nilp, one_ptr, one_sl, one_hsl, one_map, one_fn, List.length_cons, List.length_nil, List.set_cons_zero, List.set_cons_succ, Nat.reduceLT, Nat.reduceAdd, l0, l2, l3, q1, q2, ix, hi2, beq_self_eq_true, decide_true, qEql_str, hs, hw]
      exact hk 1 _ _ (by omega) ⟨1, _, _, rfl, by omega, rfl, rfl⟩
    · obtain rfl : i = 1 := by omega
      have ix : ∀ k : AV → Prop, qIa 1 (.sl (strRows [[120], [121]]) t1) (.int .i64 ((1 : Nat) : Int)) k = k (.vptr [.str [121]] 0) := fun k => rfl
      have ix2 : ∀ k : AV → Prop, qIa 4 (.sl [ra, rb] t2) (.int .i64 ((1 : Nat) : Int)) k = k (.vptr rb 0) := fun k => qIa_sl (R := Prop) .i64 k 4 [ra, rb] t2 1 rb rfl hb'.four
      have lr : ∀ (H : AH) (k : AV → Prop), qLdA 4 (.vptr rb 0) H k = k (.agg rb) := fun H k => by rw [qLdA_vptr, slice_whole rb 4 hb'.four, qO_some]
      have st := fun k => qSt_whole (n := 4) g1 (l := rb) rfl hb'.four hb'.ones k
      have g1' := get_set_at g1 (.cells rb)
      have l1 := fun k => qLdA_whole (n := 4) g1' hb'.four k
      simp -implicitDefEqProofs only [l34_5, r34_2, r34_4, r34_5, opn_z, opn_s, sel_z, sel_s, qCd_eq, qIf_true, qIf_false, qFn_eq, qBl_eq, qO_some, qRes_val, qHp_some, qPick_true, qPick_false, qG_tt, qG_ff, qG_tf, qG_ft, cellsK_some, qLd_vptr, qLdA_vptr, qFa_ptr, qFa_vptr, qNc_ptr, qNc_vptr, qNc_fn, qNot_bool, qExt_tup, qCallV_fn, qLss_int, qLeq_int, qGtr_int, qGeq_int, qEql_int, qNeq_int, qAdd_int, qSub_int, qMul_int, qConvI_int, qLenL_sl, qLenL_hsl, qLenS_str, foldO, min2_int, max2_int, qSame_refl, Nat.zero_add, List.getElem?_cons_zero, List.getElem?_cons_succ, List.nil_append, List.cons_append, List.append_nil, one_bool, one_int, one_str, one_nilp, one_ptr, one_sl, one_hsl, one_map, one_fn, List.length_cons, List.length_nil, List.set_cons_zero, List.set_cons_succ, Nat.reduceLT, Nat.reduceAdd, l0, l2, l3, q1, q2, ix, ix2, hi2, beq_self_eq_true, decide_true, qEql_str, lr, st, qPtr_ptr, l1]
      obtain ⟨a1, a2⟩ := EV.kill _ _ hb'
      refine ⟨?_, ⟨_, rfl, a1⟩⟩
      simp only [AV.kill, AV.kills, AV.free, AV.frees, a2]; rfl
  · exact ⟨0, _, _, rfl, by omega, rfl, rfl⟩

theorem setKey_EN {n : Nd} {row : List AV} (h : EN n row) (key : Str) : setRange row 1 [.str key] = some (row.set 1 (.str key)) ∧ EN (setKey n key) (row.set 1 (.str key)) := by
  cases n
  obtain ⟨a, b, c, d, t, rows, h1, rfl, h2⟩ := h
  exact ⟨rfl, a, b, c, d, t, rows, h1, rfl, h2⟩

theorem EN.wcell {n : Nd} {row : List AV} (h : EN n row) : row[3]? = some (.str n.w) := by
  cases n
  obtain ⟨a, b, c, d, t, rows, h1, rfl, h2⟩ := h
  rfl
end T
set_option linter.unusedVariables false
set_option linter.unusedSimpArgs false
set_option maxRecDepth 10000
namespace T
open Go Go.Aes Go.Proofs

def mRow (kind : Int) (wr : Str) (kid : List AV) : List AV := [.int .i64 kind, .str [120], .str [84], .str wr, .int .i64 0, .str [], .sl [] .nil, .sl [] .nil, .str [], .sl [kid] .full]

theorem mRow_EN {n : Nd} {row : List AV} (h : EN n row) (kind : Int) (wr : Str) : EN (.mk kind [120] [84] wr zeroV [] [n]) (mRow kind wr row) := ⟨_, _, _, _, _, _, EVzero, rfl, ENs.one h⟩

/-- one level more -/
theorem falls_loop (m l : List Bool) (tkm tkl : Tk) (k : Nat) (hk1 : 1 ≤ k) (hk8 : k ≤ 8) (S0 : AV) (K : KT Prop)
    (hK : ∀ (H' : AH) (p8 : Nat) (row : List AV), IsFn H' → H'.get p8 = some (.cells row) → EN (nodeN m l (k - 1)) row → ∀ (x11 x12 x13 x14 x15 x16 x17 x30 x41 x44 x61 x82 x89 x121 x124 : AV),
      K [S0, .sl (boolRows m) tkm, .sl (boolRows l) tkl, .bool false, .int .i64 (k : Int), .ptr p8 0, .bool (upF m (k - 1)), .int .i64 (lvF m (k - 1) : Int), x11, x12, x13, x14, x15, x16, x17, x30, x41, x44, x61, x82, x89, x121, x124] H')
    (H : AH) [hfn0 : IsFn H] (p8 : Nat) (row : List AV) (hg0 : H.get p8 = some (.cells row)) (hE0 : EN (nodeN m l 0) row) (x12 x13 x14 x15 x16 x17 x30 x41 x44 x61 x82 x89 x121 x124 : AV) :
    qLoop (l11_9 K) [S0, .sl (boolRows m) tkm, .sl (boolRows l) tkl, .bool false, .int .i64 (k : Int), .ptr p8 0, .bool (upF m 0), .int .i64 (lvF m 0 : Int), .int .i64 1, x12, x13, x14, x15, x16, x17, x30, x41, x44, x61, x82, x89, x121, x124] H := by
  refine loop_inv (fun mm fr H1 => ∃ (i : Nat) (row : List AV) (x12 x13 x14 x15 x16 x17 x30 x41 x44 x61 x82 x89 x121 x124 : AV), mm = 8 - i ∧ i + 1 ≤ k ∧
      fr = [S0, .sl (boolRows m) tkm, .sl (boolRows l) tkl, .bool false, .int .i64 (k : Int), .ptr p8 0, .bool (upF m i), .int .i64 (lvF m i : Int), .int .i64 ((i + 1 : Nat) : Int), x12, x13, x14, x15, x16, x17, x30, x41, x44, x61, x82, x89, x121, x124] ∧
      IsFn H1 ∧ H1.get p8 = some (.cells row) ∧ EN (nodeN m l i) row) ?_ (m := 8) ?_
  · rintro mm fr H1 kk ⟨i, row, x12, x13, x14, x15, x16, x17, x30, x41, x44, x61, x82, x89, x121, x124, rfl, hi, rfl, hfn, hg, hE⟩ hk
    rcases Nat.lt_or_ge (i + 1) k with h1 | h1
    · have h1' : ((i + 1 : Nat) : Int) < (k : Int) := by omega
      obtain ⟨r1, r2⟩ := hE.ten
      have hw := hE.wcell
      obtain ⟨k1, k2⟩ := setKey_EN hE []
      have hwl := (nodeN_ok m l i).1
      have b1 : ∀ k : AV → Prop, qBld z54 [(0, 1, .str [84])] k = k (.agg [.str [84], .str []]) := fun k => rfl
      have l1 := fun k => qLdA_whole (n := 10) hg r1 k
      have rw1 := fun k => qRows1 z61 row r1 r2 k
      have b2 : ∀ k : AV → Prop, qBld z61 [(0, 1, .int .i64 5), (1, 1, .str [120]), (2, 2, .agg [.str [84], .str []]), (9, 1, .sl [row] .full)] k = k (.agg (mRow 5 [] row)) := fun k => rfl
      obtain ⟨p13, Hx, H2, x1, x2, x3, x4, x5, x6⟩ := boxK (Hs := H1) (.refl _) z61 (mRow 5 [] row) (n := 10) rfl rfl rfl
      haveI := x5.fn
      obtain ⟨g8, hne⟩ := x6 _ _ hg
      have w2 := wrap_up (i + 1) (by omega)
      have hlv := lvF_up m i
      have w3 := wrap_up (lvF m i) (by rcases h : upF m i with _ | _ <;> simp [h] at hlv <;> omega)
      simp -implicitDefEqProofs only [l11_9, r11_10, r11_12, r11_13, r11_14, opn_z, opn_s, sel_z, sel_s, qCd_eq, qIf_true, qIf_false, qFn_eq, qBl_eq, qO_some, qRes_val, qHp_some, qPick_true, qPick_false, qG_tt, qG_ff, qG_tf, qG_ft, cellsK_some, qLd_vptr, qLdA_vptr, qFa_ptr, qFa_vptr, qNc_ptr, qNc_vptr, qNc_fn, qNot_bool, qExt_tup, qCallV_fn, qLss_int, qLeq_int, qGtr_int, qGeq_int, qEql_int, qNeq_int, qAdd_int, qSub_int, qMul_int, qConvI_int, qLenL_sl, qLenL_hsl, qLenS_str, foldO, min2_int, max2_int, qSame_refl, Nat.zero_add, List.getElem?_cons_zero, List.getElem?_cons_succ, List.nil_append, List.cons_append, List.append_nil, one_bool, one_int, one_str, one_nilp, one_ptr, one_sl, one_hsl, one_map, one_fn, List.length_cons, List.length_nil, List.set_cons_zero, List.set_cons_succ, Nat.reduceLT, Nat.reduceAdd, h1', decide_true, flag_at, b1, l1, rw1, b2, x1, x2]
      suffices mid : ∀ (H3 : AH) (row2 mrow : List AV) (kind : Int) (wb : Str) (kid : List AV), IsFn H3 → H3.get p8 = some (.cells row2) → row2.length = 10 → H3.get p13 = some (.cells mrow) → mrow = mRow kind wb kid → wb.length ≤ 100 →
          EN (nodeN m l (i + 1)) (mRow kind (wb ++ bangIf (gt' m (i + 1))) kid) → ∀ (y12 y61 : AV),
          r11_17 (qCd (sel 19) (fun k6 => r11_18 (r11_19 (qCd (sel 20) (fun k7 => r11_20 k7) (fun k7 => k7) k6))) (fun k6 => r11_21 k6) (r11_22 (r11_11 kk)))
            [S0, .sl (boolRows m) tkm, .sl (boolRows l) tkl, .bool false, .int .i64 (k : Int), .ptr p8 0, .bool (upF m i), .int .i64 (lvF m i : Int), .int .i64 ((i + 1 : Nat) : Int), y12, .ptr p13 0, x14, x15, x16, x17, x30, x41, .bool true, y61, x82, x89, x121, x124] H3 by
        cases hl : gt' l (i + 1) with
        | false =>
          have hN : nodeN m l (i + 1) = .mk 5 [120] [84] (bangIf (gt' m (i + 1))) zeroV [] [nodeN m l i] := by
            show (if gt' l (i + 1) then _ else _) = _
            rw [hl]; rfl
          exact mid H2 row _ 5 [] row inferInstance g8 r1 x3 rfl (by simp) (by rw [hN, List.nil_append]; exact mRow_EN hE 5 _) _ _
        | true =>
          have hN : nodeN m l (i + 1) = .mk 4 [120] [84] ((nodeN m l i).w ++ [93] ++ bangIf (gt' m (i + 1))) zeroV [] [setKey (nodeN m l i) []] := by
            show (if gt' l (i + 1) then _ else _) = _
            rw [hl]; rfl
          obtain ⟨q1, q2⟩ := k2.ten
          have s1 := fun k => qSt_gen (n := 1) (cs' := row.set 1 (.str [])) g8 1 (.str []) rfl rfl k1 k
          have ga := get_set_at g8 (.cells (row.set 1 (.str [])))
          have gb : (H2.set p8 (some (.cells (row.set 1 (.str []))))).get p13 = some (.cells (mRow 5 [] row)) := by rw [get_set_i (lt_i g8), if_neg hne.symm]; exact x3
          have hi1 : IsFn (H2.set p8 (some (.cells (row.set 1 (.str []))))) := inferInstance
          generalize H2.set p8 (some (.cells (row.set 1 (.str [])))) = Ha at hi1 s1 ga gb
          haveI := hi1
          have la := fun k => ld1 ga 3 (.str (nodeN m l i).w) (by rw [List.getElem?_set_ne (by decide)]; exact hw) k
          have lb := fun k => qLdA_whole (n := 10) ga q1 k
          have rb := fun k => qRows1 z61 (row.set 1 (.str [])) q1 q2 k
          have ad := fun k => qAdd_str 9 (nodeN m l i).w [93] (by simp; unfold most; omega) k
          have s2 := fun k => qSt_gen (n := 1) (cs' := mRow 4 [] row) gb 0 (.int .i64 4) rfl rfl rfl k
          have gc := get_set_at gb (.cells (mRow 4 [] row))
          have gd : (Ha.set p13 (some (.cells (mRow 4 [] row)))).get p8 = some (.cells (row.set 1 (.str []))) := by rw [get_set_i (lt_i gb), if_neg hne]; exact ga
          have hi2 : IsFn (Ha.set p13 (some (.cells (mRow 4 [] row)))) := inferInstance
          generalize Ha.set p13 (some (.cells (mRow 4 [] row))) = Hb at hi2 s2 gc gd
          haveI := hi2
          have la2 := fun k => ld1 gd 3 (.str (nodeN m l i).w) (by rw [List.getElem?_set_ne (by decide)]; exact hw) k
          have lb2 := fun k => qLdA_whole (n := 10) gd q1 k
          have s3 := fun k => qSt_gen (n := 1) (cs' := mRow 4 ((nodeN m l i).w ++ [93]) row) gc 3 (.str ((nodeN m l i).w ++ [93])) rfl rfl rfl k
          have ge := get_set_at gc (.cells (mRow 4 ((nodeN m l i).w ++ [93]) row))
          have gf : (Hb.set p13 (some (.cells (mRow 4 ((nodeN m l i).w ++ [93]) row)))).get p8 = some (.cells (row.set 1 (.str []))) := by rw [get_set_i (lt_i gc), if_neg hne]; exact gd
          have hi3 : IsFn (Hb.set p13 (some (.cells (mRow 4 ((nodeN m l i).w ++ [93]) row)))) := inferInstance
          generalize Hb.set p13 (some (.cells (mRow 4 ((nodeN m l i).w ++ [93]) row))) = Hc at hi3 s3 ge gf
          haveI := hi3
          have lb3 := fun k => qLdA_whole (n := 10) gf q1 k
          have s4 := fun k => qSt_gen (n := 1) (cs' := mRow 4 ((nodeN m l i).w ++ [93]) (row.set 1 (.str []))) ge 9 (.sl [row.set 1 (.str [])] .full) rfl rfl rfl k
          have gg := get_set_at ge (.cells (mRow 4 ((nodeN m l i).w ++ [93]) (row.set 1 (.str []))))
          have gh : (Hc.set p13 (some (.cells (mRow 4 ((nodeN m l i).w ++ [93]) (row.set 1 (.str [])))))).get p8 = some (.cells (row.set 1 (.str []))) := by rw [get_set_i (lt_i ge), if_neg hne]; exact gf
          simp -implicitDefEqProofs only [r11_15, r11_16, opn_z, opn_s, sel_z, sel_s, qCd_eq, qIf_true, qIf_false, qFn_eq, qBl_eq, qO_some, qRes_val, qHp_some, qPick_true, qPick_false, qG_tt, qG_ff, qG_tf, qG_ft, cellsK_some, qLd_vptr, qLdA_vptr, qFa_ptr, qFa_vptr, qNc_ptr, qNc_vptr, qNc_fn, qNot_bool, qExt_tup, qCallV_fn, qLss_int, qLeq_int, qGtr_int, qGeq_int, qEql_int, qNeq_int, qAdd_int, qSub_int, qMul_int, qConvI_int, qLenL_sl, qLenL_hsl, qLenS_str, foldO, min2_int, max2_int, qSame_refl, Nat.zero_add, List.getElem?_cons_zero, List.getElem?_cons_succ, List.nil_append, List.cons_append, List.append_nil, one_bool, one_int, one_str, one_nilp, one_ptr, one_sl, one_hsl, one_map, one_fn, List.length_cons, List.length_nil, List.set_cons_zero, List.set_cons_succ, Nat.reduceLT, Nat.reduceAdd, s1, la, ad, lb, rb, s2, lb2, la2, s3, lb3, s4]
          exact mid _ _ _ 4 ((nodeN m l i).w ++ [93]) (row.set 1 (.str [])) inferInstance gh q1 gg rfl (by simp; omega) (by rw [hN]; exact mRow_EN k2 4 _) _ _
      intro H3 row2 mrow kind wb kid hf3 g8' hr2 g13 hm hwb hEN y12 y61
      subst hm
      have rest : ∀ (H4 : AH), IsFn H4 → H4.get p8 = some (.cells row2) → H4.get p13 = some (.cells (mRow kind (wb ++ bangIf (gt' m (i + 1))) kid)) → ∀ (y82 y89 : AV),
          r11_22 (r11_11 kk) [S0, .sl (boolRows m) tkm, .sl (boolRows l) tkl, .bool false, .int .i64 (k : Int), .ptr p8 0, .bool (upF m (i + 1)), .int .i64 (lvF m (i + 1) : Int), .int .i64 ((i + 1 : Nat) : Int), y12, .ptr p13 0, x14, x15, x16, x17, x30, x41, .bool true, y61, y82, y89, x121, x124] H4 := by
        intro H4 hf4 g84 g134 y82 y89
        have e10 := hEN.ten
        have la := fun k => qLdA_whole (n := 10) g134 e10.1 k
        have sa := fun k => qSt_whole (n := 10) g84 hr2 e10.1 e10.2 k
        simp -implicitDefEqProofs only [r11_22, r11_11, opn_z, opn_s, sel_z, sel_s, qCd_eq, qIf_true, qIf_false, qFn_eq, qBl_eq, qO_some, qRes_val, qHp_some, qPick_true, qPick_false, qG_tt, qG_ff, qG_tf, qG_ft, cellsK_some, qLd_vptr, qLdA_vptr, qFa_ptr, qFa_vptr, qNc_ptr, qNc_vptr, qNc_fn, qNot_bool, qExt_tup, qCallV_fn, qLss_int, qLeq_int, qGtr_int, qGeq_int, qEql_int, qNeq_int, qAdd_int, qSub_int, qMul_int, qConvI_int, qLenL_sl, qLenL_hsl, qLenS_str, foldO, min2_int, max2_int, qSame_refl, Nat.zero_add, List.getElem?_cons_zero, List.getElem?_cons_succ, List.nil_append, List.cons_append, List.append_nil, one_bool, one_int, one_str, one_nilp, one_ptr, one_sl, one_hsl, one_map, one_fn, List.length_cons, List.length_nil, List.set_cons_zero, List.set_cons_succ, Nat.reduceLT, Nat.reduceAdd, la, sa, w2]
        exact hk (8 - (i + 1)) _ _ (by omega) ⟨i + 1, _, _, _, _, _, _, _, _, _, _, _, _, _, _, _, rfl, by omega, rfl, inferInstance, get_set_at g84 _, hEN⟩
      cases hm : gt' m (i + 1) with
      | false =>
        have hu : upF m (i + 1) = false := by show (upF m i && gt' m (i + 1)) = false; rw [hm]; simp
        have hl : lvF m (i + 1) = lvF m i := by show (if gt' m (i + 1) && upF m i then _ else _) = _; rw [hm]; rfl
        have hb0 : bangIf false = [] := rfl
        rw [hm, hb0, List.append_nil, hu, hl] at rest
        simp -implicitDefEqProofs only [r11_17, opn_z, opn_s, sel_z, sel_s, qCd_eq, qIf_true, qIf_false, qFn_eq, qBl_eq, qO_some, qRes_val, qHp_some, qPick_true, qPick_false, qG_tt, qG_ff, qG_tf, qG_ft, cellsK_some, qLd_vptr, qLdA_vptr, qFa_ptr, qFa_vptr, qNc_ptr, qNc_vptr, qNc_fn, qNot_bool, qExt_tup, qCallV_fn, qLss_int, qLeq_int, qGtr_int, qGeq_int, qEql_int, qNeq_int, qAdd_int, qSub_int, qMul_int, qConvI_int, qLenL_sl, qLenL_hsl, qLenS_str, foldO, min2_int, max2_int, qSame_refl, Nat.zero_add, List.getElem?_cons_zero, List.getElem?_cons_succ, List.nil_append, List.cons_append, List.append_nil, one_bool, one_int, one_str, one_nilp, one_ptr, one_sl, one_hsl, one_map, one_fn, List.length_cons, List.length_nil, List.set_cons_zero, List.set_cons_succ, Nat.reduceLT, Nat.reduceAdd, flag_at, hm, r11_21]
        exact rest H3 hf3 g8' g13 _ _
      | true =>
        have hb1 : bangIf true = [33] := rfl
        rw [hm, hb1] at rest
        have lw := fun k => ld1 g13 3 (.str wb) rfl k
        have ad := fun k => qAdd_str 9 wb [33] (by simp; unfold most; omega) k
        have sa := fun k => qSt_gen (n := 1) (cs' := mRow kind (wb ++ [33]) kid) g13 3 (.str (wb ++ [33])) rfl rfl rfl k
        have ga := get_set_at g13 (.cells (mRow kind (wb ++ [33]) kid))
        have gb : (H3.set p13 (some (.cells (mRow kind (wb ++ [33]) kid)))).get p8 = some (.cells row2) := by rw [get_set_i (lt_i g13), if_neg hne]; exact g8'
        simp -implicitDefEqProofs only [r11_17, opn_z, opn_s, sel_z, sel_s, qCd_eq, qIf_true, qIf_false, qFn_eq, qBl_eq, qO_some, qRes_val, qHp_some, qPick_true, qPick_false, qG_tt, qG_ff, qG_tf, qG_ft, cellsK_some, qLd_vptr, qLdA_vptr, qFa_ptr, qFa_vptr, qNc_ptr, qNc_vptr, qNc_fn, qNot_bool, qExt_tup, qCallV_fn, qLss_int, qLeq_int, qGtr_int, qGeq_int, qEql_int, qNeq_int, qAdd_int, qSub_int, qMul_int, qConvI_int, qLenL_sl, qLenL_hsl, qLenS_str, foldO, min2_int, max2_int, qSame_refl, Nat.zero_add, List.getElem?_cons_zero, List.getElem?_cons_succ, List.nil_append, List.cons_append, List.append_nil, one_bool, one_int, one_str, one_nilp, one_ptr, one_sl, one_hsl, one_map, one_fn, List.length_cons, List.length_nil, List.set_cons_zero, List.set_cons_succ, Nat.reduceLT, Nat.reduceAdd, flag_at, hm, r11_18, r11_19, lw, ad, sa]
        cases hup : upF m i with
        | false =>
          have hu : upF m (i + 1) = false := by show (upF m i && gt' m (i + 1)) = false; rw [hup]; rfl
          have hl : lvF m (i + 1) = lvF m i := by show (if gt' m (i + 1) && upF m i then _ else _) = _; rw [hup, hm]; rfl
          rw [hu, hl] at rest
          simp -implicitDefEqProofs only [opn_z, opn_s, sel_z, sel_s, qCd_eq, qIf_true, qIf_false, qFn_eq, qBl_eq, qO_some, qRes_val, qHp_some, qPick_true, qPick_false, qG_tt, qG_ff, qG_tf, qG_ft, cellsK_some, qLd_vptr, qLdA_vptr, qFa_ptr, qFa_vptr, qNc_ptr, qNc_vptr, qNc_fn, qNot_bool, qExt_tup, qCallV_fn, qLss_int, qLeq_int, qGtr_int, qGeq_int, qEql_int, qNeq_int, qAdd_int, qSub_int, qMul_int, qConvI_int, qLenL_sl, qLenL_hsl, qLenS_str, foldO, min2_int, max2_int, qSame_refl, Nat.zero_add, List.getElem?_cons_zero, List.getElem?_cons_succ, List.nil_append, List.cons_append, List.append_nil, one_bool, one_int, one_str, one_nilp, one_ptr, one_sl, one_hsl, one_map, one_fn, List.length_cons, List.length_nil, List.set_cons_zero, List.set_cons_succ, Nat.reduceLT, Nat.reduceAdd]
          exact rest _ inferInstance gb ga _ _
        | true =>
          have hu : upF m (i + 1) = true := by show (upF m i && gt' m (i + 1)) = true; rw [hup, hm]; rfl
          have hl : lvF m (i + 1) = lvF m i + 1 := by show (if gt' m (i + 1) && upF m i then _ else _) = _; rw [hup, hm]; rfl
          rw [hu, hl] at rest
          simp -implicitDefEqProofs only [opn_z, opn_s, sel_z, sel_s, qCd_eq, qIf_true, qIf_false, qFn_eq, qBl_eq, qO_some, qRes_val, qHp_some, qPick_true, qPick_false, qG_tt, qG_ff, qG_tf, qG_ft, cellsK_some, qLd_vptr, qLdA_vptr, qFa_ptr, qFa_vptr, qNc_ptr, qNc_vptr, qNc_fn, qNot_bool, qExt_tup, qCallV_fn, qLss_int, qLeq_int, qGtr_int, qGeq_int, qEql_int, qNeq_int, qAdd_int, qSub_int, qMul_int, qConvI_int, qLenL_sl, qLenL_hsl, qLenS_str, foldO, min2_int, max2_int, qSame_refl, Nat.zero_add, List.getElem?_cons_zero, List.getElem?_cons_succ, List.nil_append, List.cons_append, List.append_nil, one_bool, one_int, one_str, one_nilp, one_ptr, one_sl, one_hsl, one_map, one_fn, List.length_cons, List.length_nil, List.set_cons_zero, List.set_cons_succ, Nat.reduceLT, Nat.reduceAdd, r11_20, w3]
          exact rest _ inferInstance gb ga _ _
    · have h1' : ¬ ((i + 1 : Nat) : Int) < (k : Int) := by omega
      have hik : k - 1 = i := by omega
      rw [hik] at hK
      simp -implicitDefEqProofs only [l11_9, r11_10, opn_z, opn_s, sel_z, sel_s, qCd_eq, qIf_true, qIf_false, qFn_eq, qBl_eq, qO_some, qRes_val, qHp_some, qPick_true, qPick_false, qG_tt, qG_ff, qG_tf, qG_ft, cellsK_some, qLd_vptr, qLdA_vptr, qFa_ptr, qFa_vptr, qNc_ptr, qNc_vptr, qNc_fn, qNot_bool, qExt_tup, qCallV_fn, qLss_int, qLeq_int, qGtr_int, qGeq_int, qEql_int, qNeq_int, qAdd_int, qSub_int, qMul_int, qConvI_int, qLenL_sl, qLenL_hsl, qLenS_str, foldO, min2_int, max2_int, qSame_refl, Nat.zero_add, List.getElem?_cons_zero, List.getElem?_cons_succ, List.nil_append, List.cons_append, List.append_nil, one_bool, one_int, one_str, one_nilp, one_ptr, one_sl, one_hsl, one_map, one_fn, List.length_cons, List.length_nil, List.set_cons_zero, List.set_cons_succ, Nat.reduceLT, Nat.reduceAdd, h1', decide_false]
      exact hK H1 p8 row hfn hg hE _ _ _ _ _ _ _ _ _ _ _ _ _ _ _
  · exact ⟨0, row, _, _, _, _, _, _, _, _, _, _, _, _, _, _, rfl, hk1, rfl, hfn0, hg0, hE0⟩

end T
set_option linter.unusedVariables false
set_option linter.unusedSimpArgs false
set_option maxRecDepth 10000
namespace T
open Go Go.Aes Go.Proofs

theorem place_eq' (v n : Int) (hn : 0 < n) : (if v.tmod n < 0 then v.tmod n + n else v.tmod n) = v % n := by
  have h1 := Int.tmod_eq_emod (a := v) (b := n)
  have h2 := Int.emod_nonneg v (by omega : n ≠ 0)
  have h3 := Int.emod_lt_of_pos v hn
  split at h1 <;> split <;> omega

theorem ep23 (v n : Int) (hn : 0 < n) (hn2 : n ≤ 4611686018427387904) (H : AH) : EP 23 [.int .i64 v, .int .i64 n] H = some (.val (.int .i64 (v % n)) H) := by
  refine pu_form e23 xf23 rfl rfl rfl ?_ H
  simp only [AV.kills, AV.kill]
  have h0 := place_eq' v n hn
  have hrem := fun k => qRem_int (R := Prop) X 3 .i64 v n k (by omega)
  have h2 := Int.emod_nonneg v (by omega : n ≠ 0)
  have h3 := Int.emod_lt_of_pos v hn
  by_cases h : v.tmod n < 0
  · rw [if_pos h] at h0
    simp -implicitDefEqProofs only [c23, r23_0, r23_1, r23_2, r23_3, r23_4, opn_z, opn_s, sel_z, sel_s, qCd_eq, qIf_true, qIf_false, qFn_eq, qBl_eq, qO_some, qRes_val, qHp_some, qPick_true, qPick_false, qG_tt, qG_ff, qG_tf, qG_ft, cellsK_some, qLd_vptr, qLdA_vptr, qFa_ptr, qFa_vptr, qNc_ptr, qNc_vptr, qNc_fn, qNot_bool, qExt_tup, qCallV_fn, qLss_int, qLeq_int, qGtr_int, qGeq_int, qEql_int, qNeq_int, qAdd_int, qSub_int, qMul_int, qConvI_int, qLenL_sl, qLenL_hsl, qLenS_str, foldO, min2_int, max2_int, qSame_refl, Nat.zero_add, List.getElem?_cons_zero, List.getElem?_cons_succ, List.nil_append, List.cons_append, List.append_nil, one_bool, one_int, one_str, one_nilp, one_ptr, one_sl, one_hsl, one_map, one_fn, List.length_cons, List.length_nil, List.set_cons_zero, List.set_cons_succ, Nat.reduceLT, Nat.reduceAdd, hrem, h, decide_true, h0, i64_in' (x := v % n) (by omega)]
    rfl
  · rw [if_neg h] at h0
    simp -implicitDefEqProofs only [c23, r23_0, r23_1, r23_2, r23_3, r23_4, opn_z, opn_s, sel_z, sel_s, qCd_eq, qIf_true, qIf_false, qFn_eq, qBl_eq, qO_some, qRes_val, qHp_some, qPick_true, qPick_false, qG_tt, qG_ff, qG_tf, qG_ft, cellsK_some, qLd_vptr, qLdA_vptr, qFa_ptr, qFa_vptr, qNc_ptr, qNc_vptr, qNc_fn, qNot_bool, qExt_tup, qCallV_fn, qLss_int, qLeq_int, qGtr_int, qGeq_int, qEql_int, qNeq_int, qAdd_int, qSub_int, qMul_int, qConvI_int, qLenL_sl, qLenL_hsl, qLenS_str, foldO, min2_int, max2_int, qSame_refl, Nat.zero_add, List.getElem?_cons_zero, List.getElem?_cons_succ, List.nil_append, List.cons_append, List.append_nil, one_bool, one_int, one_str, one_nilp, one_ptr, one_sl, one_hsl, one_map, one_fn, List.length_cons, List.length_nil, List.set_cons_zero, List.set_cons_succ, Nat.reduceLT, Nat.reduceAdd, hrem, h, decide_false]
    rw [h0]; rfl

theorem ev_falls (deep : Int) (m : List Bool) (tkm : Tk) (l : List Bool) (tkl : Tk) : ∃ H', EP 11 [.int .i64 deep, .sl (boolRows m) tkm, .sl (boolRows l) tkl] H0 = some (.val (.bool true) H') := by
  suffices key : ∃ v H', EP 11 [.int .i64 deep, .sl (boolRows m) tkm, .sl (boolRows l) tkl] H0 = some (.val v H') ∧ v = .bool true by
    obtain ⟨v, H', h1, rfl⟩ := key
    exact ⟨H', h1⟩
  refine ap_form e11 xf11 rfl ?_
  obtain ⟨d, hd, hd8⟩ : ∃ d : Nat, deep % 8 = (d : Int) ∧ d < 8 := ⟨(deep % 8).toNat, by omega, by omega⟩
  have e23' := ep23 deep 8 (by decide) (by decide) H0
  rw [hd] at e23'
  have hk : IntKind.i64.wrap (1 + (d : Int)) = ((d + 1 : Nat) : Int) := by rw [i64_in' (by omega)]; omega
  have b1 : ∀ k : AV → Prop, qBld z54 [(0, 1, .str [84])] k = k (.agg [.str [84], .str []]) := fun k => rfl
  have b2 : ∀ k : AV → Prop, qBld z61 [(0, 1, .int .i64 3), (8, 1, .str [69, 82, 82, 79, 82]), (1, 1, .str [120]), (2, 2, .agg [.str [84], .str []])] k =
      k (.agg [.int .i64 3, .str [120], .str [84], .str [], .int .i64 0, .str [], .sl [] .nil, .sl [] .nil, .str sERR, .sl [] .nil]) := fun k => rfl
  have g1 := get_push_at (H := H0) (.cells z61)
  have s1 := fun k => qSt_whole (n := 10) g1 (l := [.int .i64 3, .str [120], .str [84], .str [], .int .i64 0, .str [], .sl [] .nil, .sl [] .nil, .str sERR, .sl [] .nil]) rfl rfl rfl k
  have g2 := get_set_at g1 (.cells [.int .i64 3, .str [120], .str [84], .str [], .int .i64 0, .str [], .sl [] .nil, .sl [] .nil, .str sERR, .sl [] .nil])
  have s2 := fun k => qSt_gen (n := 1) (cs' := [.int .i64 3, .str [120], .str [84], .str [33], .int .i64 0, .str [], .sl [] .nil, .sl [] .nil, .str sERR, .sl [] .nil]) g2 3 (.str [33]) rfl rfl rfl k
  have g3 := get_set_at g2 (.cells [.int .i64 3, .str [120], .str [84], .str [33], .int .i64 0, .str [], .sl [] .nil, .sl [] .nil, .str sERR, .sl [] .nil])
  have n0 : H0.nx = 0 := rfl
  simp -implicitDefEqProofs only [c11, r11_0, r11_1, opn_z, opn_s, sel_z, sel_s, qCd_eq, qIf_true, qIf_false, qFn_eq, qBl_eq, qO_some, qRes_val, qHp_some, qPick_true, qPick_false, qG_tt, qG_ff, qG_tf, qG_ft, cellsK_some, qLd_vptr, qLdA_vptr, qFa_ptr, qFa_vptr, qNc_ptr, qNc_vptr, qNc_fn, qNot_bool, qExt_tup, qCallV_fn, qLss_int, qLeq_int, qGtr_int, qGeq_int, qEql_int, qNeq_int, qAdd_int, qSub_int, qMul_int, qConvI_int, qLenL_sl, qLenL_hsl, qLenS_str, foldO, min2_int, max2_int, qSame_refl, Nat.zero_add, List.getElem?_cons_zero, List.getElem?_cons_succ, List.nil_append, List.cons_append, List.append_nil, one_bool, one_int, one_str, one_nilp, one_ptr, one_sl, one_hsl, one_map, one_fn, List.length_cons, List.length_nil, List.set_cons_zero, List.set_cons_succ, Nat.reduceLT, Nat.reduceAdd, e23', hk, r11_2, b1, b2, qNew_i, wr_ptr, s1, r11_3, flag0_at]
  -- the node
  suffices mid : ∀ (Ha : AH) (row : List AV), IsFn Ha → Ha.get 0 = some (.cells row) → EN (nodeN m l 0) row → ∀ (x30 : AV),
      r11_5 (r11_6 (r11_7 (qCd (sel 16) (fun k10 => r11_8 k10) (fun k10 => k10) (r11_9 (qLoop (l11_9 (r11_23 (r11_24 (evp X PS) (r11_25 (qCd (sel 21) (fun _ => r11_26 fun fr H => sel 3 fr = .bool true) (fun k2 => k2) (r11_27 (qCd (sel 22) (fun _ => r11_28 (evp X PS) fun fr H => sel 3 fr = .bool true) (fun k1 => k1) (r11_29 (evp X PS) (r11_30 (evp X PS) fun fr H => sel 3 fr = .bool true))))))))))))))
        [.int .i64 deep, .sl (boolRows m) tkm, .sl (boolRows l) tkl, .bool false, .int .i64 ((d + 1 : Nat) : Int), .ptr 0 0, undef, undef, undef, undef, undef, undef, undef, undef, undef, x30, undef, undef, undef, undef, undef, undef, undef] Ha by
    cases hm : gt' m 0 with
    | false =>
      have hN : nodeN m l 0 = .mk 3 [120] [84] [] zeroV sERR [] := by show Nd.mk 3 [120] [84] (bangIf (gt' m 0)) zeroV sERR [] = _; rw [hm]; rfl
      exact mid _ _ inferInstance g2 (by rw [hN]; exact ⟨_, _, _, _, _, [], EVzero, rfl, rfl⟩) _
    | true =>
      have hN : nodeN m l 0 = .mk 3 [120] [84] [33] zeroV sERR [] := by show Nd.mk 3 [120] [84] (bangIf (gt' m 0)) zeroV sERR [] = _; rw [hm]; rfl
      simp -implicitDefEqProofs only [qCd_eq, sel_z, sel_s, qIf_true, r11_4, opn_z, opn_s, sel_z, sel_s, qCd_eq, qIf_true, qIf_false, qFn_eq, qBl_eq, qO_some, qRes_val, qHp_some, qPick_true, qPick_false, qG_tt, qG_ff, qG_tf, qG_ft, cellsK_some, qLd_vptr, qLdA_vptr, qFa_ptr, qFa_vptr, qNc_ptr, qNc_vptr, qNc_fn, qNot_bool, qExt_tup, qCallV_fn, qLss_int, qLeq_int, qGtr_int, qGeq_int, qEql_int, qNeq_int, qAdd_int, qSub_int, qMul_int, qConvI_int, qLenL_sl, qLenL_hsl, qLenS_str, foldO, min2_int, max2_int, qSame_refl, Nat.zero_add, List.getElem?_cons_zero, List.getElem?_cons_succ, List.nil_append, List.cons_append, List.append_nil, one_bool, one_int, one_str, one_nilp, one_ptr, one_sl, one_hsl, one_map, one_fn, List.length_cons, List.length_nil, List.set_cons_zero, List.set_cons_succ, Nat.reduceLT, Nat.reduceAdd, s2]
      exact mid _ _ inferInstance g3 (by rw [hN]; exact ⟨_, _, _, _, _, [], EVzero, rfl, rfl⟩) _
  intro Ha row hfa ga hEa x30
  simp -implicitDefEqProofs only [r11_5, r11_6, r11_7, opn_z, opn_s, sel_z, sel_s, qCd_eq, qIf_true, qIf_false, qFn_eq, qBl_eq, qO_some, qRes_val, qHp_some, qPick_true, qPick_false, qG_tt, qG_ff, qG_tf, qG_ft, cellsK_some, qLd_vptr, qLdA_vptr, qFa_ptr, qFa_vptr, qNc_ptr, qNc_vptr, qNc_fn, qNot_bool, qExt_tup, qCallV_fn, qLss_int, qLeq_int, qGtr_int, qGeq_int, qEql_int, qNeq_int, qAdd_int, qSub_int, qMul_int, qConvI_int, qLenL_sl, qLenL_hsl, qLenS_str, foldO, min2_int, max2_int, qSame_refl, Nat.zero_add, List.getElem?_cons_zero, List.getElem?_cons_succ, List.nil_append, List.cons_append, List.append_nil, one_bool, one_int, one_str, one_nilp, one_ptr, one_sl, one_hsl, one_map, one_fn, List.length_cons, List.length_nil, List.set_cons_zero, List.set_cons_succ, Nat.reduceLT, Nat.reduceAdd, flag0_at]
  suffices mid2 : ∀ (x30 x41 : AV), qLoop (l11_9 (r11_23 (r11_24 (evp X PS) (r11_25 (qCd (sel 21) (fun _ => r11_26 fun fr H => sel 3 fr = .bool true) (fun k2 => k2) (r11_27 (qCd (sel 22) (fun _ => r11_28 (evp X PS) fun fr H => sel 3 fr = .bool true) (fun k1 => k1) (r11_29 (evp X PS) (r11_30 (evp X PS) fun fr H => sel 3 fr = .bool true)))))))))
        [.int .i64 deep, .sl (boolRows m) tkm, .sl (boolRows l) tkl, .bool false, .int .i64 ((d + 1 : Nat) : Int), .ptr 0 0, .bool (upF m 0), .int .i64 (lvF m 0 : Int), .int .i64 1, undef, undef, undef, undef, undef, undef, x30, x41, undef, undef, undef, undef, undef, undef] Ha by
    cases hm : gt' m 0 with
    | false =>
      have hu : upF m 0 = false := hm
      have hl : lvF m 0 = 0 := by show (if gt' m 0 then 1 else 0) = 0; rw [hm]; rfl
      rw [hu, hl] at mid2
      simp -implicitDefEqProofs only [qCd_eq, sel_z, sel_s, qIf_false, r11_9, opn_z, opn_s, sel_z, sel_s, qCd_eq, qIf_true, qIf_false, qFn_eq, qBl_eq, qO_some, qRes_val, qHp_some, qPick_true, qPick_false, qG_tt, qG_ff, qG_tf, qG_ft, cellsK_some, qLd_vptr, qLdA_vptr, qFa_ptr, qFa_vptr, qNc_ptr, qNc_vptr, qNc_fn, qNot_bool, qExt_tup, qCallV_fn, qLss_int, qLeq_int, qGtr_int, qGeq_int, qEql_int, qNeq_int, qAdd_int, qSub_int, qMul_int, qConvI_int, qLenL_sl, qLenL_hsl, qLenS_str, foldO, min2_int, max2_int, qSame_refl, Nat.zero_add, List.getElem?_cons_zero, List.getElem?_cons_succ, List.nil_append, List.cons_append, List.append_nil, one_bool, one_int, one_str, one_nilp, one_ptr, one_sl, one_hsl, one_map, one_fn, List.length_cons, List.length_nil, List.set_cons_zero, List.set_cons_succ, Nat.reduceLT, Nat.reduceAdd]
      exact mid2 _ _
    | true =>
      have hu : upF m 0 = true := hm
      have hl : lvF m 0 = 1 := by show (if gt' m 0 then 1 else 0) = 1; rw [hm]; rfl
      rw [hu, hl] at mid2
      simp -implicitDefEqProofs only [qCd_eq, sel_z, sel_s, qIf_true, r11_8, r11_9, opn_z, opn_s, sel_z, sel_s, qCd_eq, qIf_true, qIf_false, qFn_eq, qBl_eq, qO_some, qRes_val, qHp_some, qPick_true, qPick_false, qG_tt, qG_ff, qG_tf, qG_ft, cellsK_some, qLd_vptr, qLdA_vptr, qFa_ptr, qFa_vptr, qNc_ptr, qNc_vptr, qNc_fn, qNot_bool, qExt_tup, qCallV_fn, qLss_int, qLeq_int, qGtr_int, qGeq_int, qEql_int, qNeq_int, qAdd_int, qSub_int, qMul_int, qConvI_int, qLenL_sl, qLenL_hsl, qLenS_str, foldO, min2_int, max2_int, qSame_refl, Nat.zero_add, List.getElem?_cons_zero, List.getElem?_cons_succ, List.nil_append, List.cons_append, List.append_nil, one_bool, one_int, one_str, one_nilp, one_ptr, one_sl, one_hsl, one_map, one_fn, List.length_cons, List.length_nil, List.set_cons_zero, List.set_cons_succ, Nat.reduceLT, Nat.reduceAdd]
      exact mid2 _ _
  intro x30 x41
  refine falls_loop m l tkm tkl (d + 1) (by omega) (by omega) _ _ ?_ Ha 0 row ga hEa _ _ _ _ _ _ _ _ _ _ _ _ _ _
  intro Hb p8 rowb hfb gb hEb x11 x12 x13 x14 x15 x16 x17 x30 x41 x44 x61 x82 x89 x121 x124
  rw [show d + 1 - 1 = d by omega] at hEb ⊢
  obtain ⟨k1, k2⟩ := setKey_EN hEb [120]
  obtain ⟨q1, q2⟩ := k2.ten
  have sx := fun k => qSt_gen (n := 1) (cs' := rowb.set 1 (.str [120])) gb 1 (.str [120]) rfl rfl k1 k
  have gx := get_set_at gb (.cells (rowb.set 1 (.str [120])))
  have hic : IsFn (Hb.set p8 (some (.cells (rowb.set 1 (.str [120]))))) := inferInstance
  generalize rowb.set 1 (.str [120]) = rowx at k2 q1 q2 sx gx hic
  simp -implicitDefEqProofs only [r11_23, opn_z, opn_s, sel_z, sel_s, qCd_eq, qIf_true, qIf_false, qFn_eq, qBl_eq, qO_some, qRes_val, qHp_some, qPick_true, qPick_false, qG_tt, qG_ff, qG_tf, qG_ft, cellsK_some, qLd_vptr, qLdA_vptr, qFa_ptr, qFa_vptr, qNc_ptr, qNc_vptr, qNc_fn, qNot_bool, qExt_tup, qCallV_fn, qLss_int, qLeq_int, qGtr_int, qGeq_int, qEql_int, qNeq_int, qAdd_int, qSub_int, qMul_int, qConvI_int, qLenL_sl, qLenL_hsl, qLenS_str, foldO, min2_int, max2_int, qSame_refl, Nat.zero_add, List.getElem?_cons_zero, List.getElem?_cons_succ, List.nil_append, List.cons_append, List.append_nil, one_bool, one_int, one_str, one_nilp, one_ptr, one_sl, one_hsl, one_map, one_fn, List.length_cons, List.length_nil, List.set_cons_zero, List.set_cons_succ, Nat.reduceLT, Nat.reduceAdd, sx]
  generalize Hb.set p8 (some (.cells rowx)) = Hc at gx hic ⊢
  clear sx
  haveI := hic
  have lx := fun k => qLdA_whole (n := 10) gx q1 k
  have b3 : ∀ k : AV → Prop, qBld z58 [(0, 1, .int .i64 3), (1, 1, .str [49])] k = k (.agg rowOne) := fun k => rfl
  have b4 : ∀ k : AV → Prop, qBld z54 [(0, 1, .str [73, 110, 116]), (1, 1, .str [33])] k = k (.agg [.str [73, 110, 116], .str [33]]) := fun k => rfl
  have b5 : ∀ k : AV → Prop, qBld z61 [(0, 1, .int .i64 1), (1, 1, .str [121]), (4, 4, .agg rowOne), (2, 2, .agg [.str [73, 110, 116], .str [33]])] k =
      k (.agg [.int .i64 1, .str [121], .str [73, 110, 116], .str [33], .int .i64 3, .str [49], .sl [] .nil, .sl [] .nil, .str [], .sl [] .nil]) := fun k => rfl
  have hEy : EN lastNd [.int .i64 1, .str [121], .str [73, 110, 116], .str [33], .int .i64 3, .str [49], .sl [] .nil, .sl [] .nil, .str [], .sl [] .nil] := ⟨_, _, _, _, _, [], EVone, rfl, rfl⟩
  have b6 : ∀ k : AV → Prop, qRows z61 2 [(0, .agg rowx), (1, .agg [.int .i64 1, .str [121], .str [73, 110, 116], .str [33], .int .i64 3, .str [49], .sl [] .nil, .sl [] .nil, .str [], .sl [] .nil])] k =
      k (.sl [rowx, [.int .i64 1, .str [121], .str [73, 110, 116], .str [33], .int .i64 3, .str [49], .sl [] .nil, .sl [] .nil, .str [], .sl [] .nil]] .full) := fun k => by
    have h1 : (rowx.length.beq z61.length) = true := by rw [q1]; rfl
    rw [qRows_eq]
    show qO (bif rowx.length.beq z61.length && allOne rowx && true then _ else none) _ = _
    rw [h1, q2]; rfl
  obtain ⟨vv, pth, v1, v2⟩ := falls_fin m l d
  obtain ⟨nk1, nk2, nk3⟩ := nodeN_ok m l d
  have hks : tot (setKey (nodeN m l d) [120]) = d + 1 ∧ wok (setKey (nodeN m l d) [120]) := by
    have := nk3 (by omega)
    revert nk2 this
    cases nodeN m l d
    exact fun a b => ⟨a, b⟩
  obtain ⟨fv, ⟨r, frows, tkf, rfl, f1, f2⟩, f3⟩ := ep32 .full (show ENs [setKey (nodeN m l d) [120], lastNd] [rowx, _] from ⟨_, _, rfl, k2, _, [], rfl, hEy, rfl⟩) ⟨hks.2, ⟨by decide, trivial⟩, trivial⟩ (by simp only [tots, hks.1, lastNd, tot]; omega)
  rw [v1] at f1 f2
  obtain ⟨fr, frs, rfl, ⟨tk2, rfl⟩, hfrs⟩ := f2
  simp only [EFs] at hfrs
  subst hfrs
  obtain ⟨p14, Hx, Hd, x1, x2, x3, x4, x5, x6⟩ := boxK (Hs := Hc) (.refl _) z58 r (n := 4) rfl f1.four f1.ones
  haveI := x5.fn
  simp -implicitDefEqProofs only [r11_24, opn_z, opn_s, sel_z, sel_s, qCd_eq, qIf_true, qIf_false, qFn_eq, qBl_eq, qO_some, qRes_val, qHp_some, qPick_true, qPick_false, qG_tt, qG_ff, qG_tf, qG_ft, cellsK_some, qLd_vptr, qLdA_vptr, qFa_ptr, qFa_vptr, qNc_ptr, qNc_vptr, qNc_fn, qNot_bool, qExt_tup, qCallV_fn, qLss_int, qLeq_int, qGtr_int, qGeq_int, qEql_int, qNeq_int, qAdd_int, qSub_int, qMul_int, qConvI_int, qLenL_sl, qLenL_hsl, qLenS_str, foldO, min2_int, max2_int, qSame_refl, Nat.zero_add, List.getElem?_cons_zero, List.getElem?_cons_succ, List.nil_append, List.cons_append, List.append_nil, one_bool, one_int, one_str, one_nilp, one_ptr, one_sl, one_hsl, one_map, one_fn, List.length_cons, List.length_nil, List.set_cons_zero, List.set_cons_succ, Nat.reduceLT, Nat.reduceAdd, lx, b3, b4, b5, b6]
  change qRes (EP _ _ _) _
  rw [f3]
  simp -implicitDefEqProofs only [opn_z, opn_s, sel_z, sel_s, qCd_eq, qIf_true, qIf_false, qFn_eq, qBl_eq, qO_some, qRes_val, qHp_some, qPick_true, qPick_false, qG_tt, qG_ff, qG_tf, qG_ft, cellsK_some, qLd_vptr, qLdA_vptr, qFa_ptr, qFa_vptr, qNc_ptr, qNc_vptr, qNc_fn, qNot_bool, qExt_tup, qCallV_fn, qLss_int, qLeq_int, qGtr_int, qGeq_int, qEql_int, qNeq_int, qAdd_int, qSub_int, qMul_int, qConvI_int, qLenL_sl, qLenL_hsl, qLenS_str, foldO, min2_int, max2_int, qSame_refl, Nat.zero_add, List.getElem?_cons_zero, List.getElem?_cons_succ, List.nil_append, List.cons_append, List.append_nil, one_bool, one_int, one_str, one_nilp, one_ptr, one_sl, one_hsl, one_map, one_fn, List.length_cons, List.length_nil, List.set_cons_zero, List.set_cons_succ, Nat.reduceLT, Nat.reduceAdd, x1, x2]
  have q1 : ∀ k : AV → Prop, qLenL (.sl [[.str sERR, .sl (pRows pth) tk2]] tkf) k = k (.int .i64 1) := fun k => rfl
  have q2 : ∀ k : AV → Prop, qIa 2 (.sl [[.str sERR, .sl (pRows pth) tk2]] tkf) (.int .i64 0) k = k (.vptr [.str sERR, .sl (pRows pth) tk2] 0) := fun k => rfl
  have hse : decide (sERR = [69, 82, 82, 79, 82]) = true := rfl
  have c1 : (((1 : Nat) : Int) == 1) = true := rfl
  have c2 : (((strRows [[120], [121]]).length : Int) == 2) = true := rfl
  have hpl : (pRows pth).length = d + 1 := by rw [pRows_len, v2]
  simp -implicitDefEqProofs only [r11_25, r11_27, opn_z, opn_s, sel_z, sel_s, qCd_eq, qIf_true, qIf_false, qFn_eq, qBl_eq, qO_some, qRes_val, qHp_some, qPick_true, qPick_false, qG_tt, qG_ff, qG_tf, qG_ft, cellsK_some, qLd_vptr, qLdA_vptr, qFa_ptr, qFa_vptr, qNc_ptr, qNc_vptr, qNc_fn, qNot_bool, qExt_tup, qCallV_fn, qLss_int, qLeq_int, qGtr_int, qGeq_int, qEql_int, qNeq_int, qAdd_int, qSub_int, qMul_int, qConvI_int, qLenL_sl, qLenL_hsl, qLenS_str, foldO, min2_int, max2_int, qSame_refl, Nat.zero_add, List.getElem?_cons_zero, List.getElem?_cons_succ, List.nil_append, List.cons_append, List.append_nil, one_bool, one_int, one_str, one_nilp, one_ptr, one_sl, one_hsl, one_map, one_fn, List.length_cons, List.length_nil, List.set_cons_zero, List.set_cons_succ, Nat.reduceLT, Nat.reduceAdd, qG_un, q1, q2, c1, beq_self_eq_true, Bool.not_true, qNeq_str, hse, hpl]
  have aw := ep33 Hd
  have hlv := lvF_up m d
  cases hu : upF m d with
  | true =>
    rw [hu] at f1
    obtain ⟨t1, t2, rws, rfl, _⟩ := f1
    rw [hlv.1 hu]
    have l0 := fun k => ld1 x3 0 (.int .i64 1) rfl k
    simp -implicitDefEqProofs only [r11_28, opn_z, opn_s, sel_z, sel_s, qCd_eq, qIf_true, qIf_false, qFn_eq, qBl_eq, qO_some, qRes_val, qHp_some, qPick_true, qPick_false, qG_tt, qG_ff, qG_tf, qG_ft, cellsK_some, qLd_vptr, qLdA_vptr, qFa_ptr, qFa_vptr, qNc_ptr, qNc_vptr, qNc_fn, qNot_bool, qExt_tup, qCallV_fn, qLss_int, qLeq_int, qGtr_int, qGeq_int, qEql_int, qNeq_int, qAdd_int, qSub_int, qMul_int, qConvI_int, qLenL_sl, qLenL_hsl, qLenS_str, foldO, min2_int, max2_int, qSame_refl, Nat.zero_add, List.getElem?_cons_zero, List.getElem?_cons_succ, List.nil_append, List.cons_append, List.append_nil, one_bool, one_int, one_str, one_nilp, one_ptr, one_sl, one_hsl, one_map, one_fn, List.length_cons, List.length_nil, List.set_cons_zero, List.set_cons_succ, Nat.reduceLT, Nat.reduceAdd, qG_un, l0, beq_self_eq_true]
    change qRes (EP _ _ _) _
    rw [aw]
    simp only [opn_z, opn_s, sel_z, sel_s, qCd_eq, qIf_true, qIf_false, qFn_eq, qBl_eq, qO_some, qRes_val, qHp_some, qPick_true, qPick_false, qG_tt, qG_ff, qG_tf, qG_ft, cellsK_some, qLd_vptr, qLdA_vptr, qFa_ptr, qFa_vptr, qNc_ptr, qNc_vptr, qNc_fn, qNot_bool, qExt_tup, qCallV_fn, qLss_int, qLeq_int, qGtr_int, qGeq_int, qEql_int, qNeq_int, qAdd_int, qSub_int, qMul_int, qConvI_int, qLenL_sl, qLenL_hsl, qLenS_str, foldO, min2_int, max2_int, qSame_refl, Nat.zero_add, List.getElem?_cons_zero, List.getElem?_cons_succ, List.nil_append, List.cons_append, List.append_nil, one_bool, one_int, one_str, one_nilp, one_ptr, one_sl, one_hsl, one_map, one_fn, List.length_cons, List.length_nil, List.set_cons_zero, List.set_cons_succ, Nat.reduceLT, Nat.reduceAdd]
  | false =>
    rw [hu] at f1
    obtain ⟨t1, t2, rws, rfl, ⟨r1, rs, rfl, e1, ⟨r2, rs2, rfl, e2, e3⟩⟩⟩ := f1
    simp only [EVs] at e3
    subst e3
    have hne : ((lvF m d : Int) == ((d + 1 : Nat) : Int)) = false := by
      have := hlv.2 hu
      simp; omega
    have lw := fun k => qLdA_whole (n := 4) x3 rfl k
    obtain ⟨gv, ⟨rb', rfl, e4⟩, e5⟩ := ep34 e1 e2 t1 t2
    obtain ⟨p16, Hy, He, y1, y2, y3, y4, y5, y6⟩ := boxK (Hs := Hd) (.refl _) z58 rb' (n := 4) rfl e4.four e4.ones
    haveI := y5.fn
    have x3' := (y6 _ _ x3).1
    simp -implicitDefEqProofs only [hne, r11_29, opn_z, opn_s, sel_z, sel_s, qCd_eq, qIf_true, qIf_false, qFn_eq, qBl_eq, qO_some, qRes_val, qHp_some, qPick_true, qPick_false, qG_tt, qG_ff, qG_tf, qG_ft, cellsK_some, qLd_vptr, qLdA_vptr, qFa_ptr, qFa_vptr, qNc_ptr, qNc_vptr, qNc_fn, qNot_bool, qExt_tup, qCallV_fn, qLss_int, qLeq_int, qGtr_int, qGeq_int, qEql_int, qNeq_int, qAdd_int, qSub_int, qMul_int, qConvI_int, qLenL_sl, qLenL_hsl, qLenS_str, foldO, min2_int, max2_int, qSame_refl, Nat.zero_add, List.getElem?_cons_zero, List.getElem?_cons_succ, List.nil_append, List.cons_append, List.append_nil, one_bool, one_int, one_str, one_nilp, one_ptr, one_sl, one_hsl, one_map, one_fn, List.length_cons, List.length_nil, List.set_cons_zero, List.set_cons_succ, Nat.reduceLT, Nat.reduceAdd, lw]
    change qRes (EP _ _ _) _
    rw [e5]
    simp -implicitDefEqProofs only [opn_z, opn_s, sel_z, sel_s, qCd_eq, qIf_true, qIf_false, qFn_eq, qBl_eq, qO_some, qRes_val, qHp_some, qPick_true, qPick_false, qG_tt, qG_ff, qG_tf, qG_ft, cellsK_some, qLd_vptr, qLdA_vptr, qFa_ptr, qFa_vptr, qNc_ptr, qNc_vptr, qNc_fn, qNot_bool, qExt_tup, qCallV_fn, qLss_int, qLeq_int, qGtr_int, qGeq_int, qEql_int, qNeq_int, qAdd_int, qSub_int, qMul_int, qConvI_int, qLenL_sl, qLenL_hsl, qLenS_str, foldO, min2_int, max2_int, qSame_refl, Nat.zero_add, List.getElem?_cons_zero, List.getElem?_cons_succ, List.nil_append, List.cons_append, List.append_nil, one_bool, one_int, one_str, one_nilp, one_ptr, one_sl, one_hsl, one_map, one_fn, List.length_cons, List.length_nil, List.set_cons_zero, List.set_cons_succ, Nat.reduceLT, Nat.reduceAdd, y1, y2]
    have l0 := fun k => ld1 x3' 0 (.int .i64 8) rfl k
    have l2 := fun k => ld1 x3' 2 (.sl (strRows [[120], [121]]) t1) rfl k
    have q3 : ∀ k : AV → Prop, qLenL (.sl (strRows [[120], [121]]) t1) k = k (.int .i64 2) := fun k => rfl
    obtain ⟨t3, t4, rws3, rfl, _⟩ := e4
    have l1 := fun k => ld1 y3 1 (.str [49]) rfl k
    have aw := ep33 He
    simp -implicitDefEqProofs only [r11_30, opn_z, opn_s, sel_z, sel_s, qCd_eq, qIf_true, qIf_false, qFn_eq, qBl_eq, qO_some, qRes_val, qHp_some, qPick_true, qPick_false, qG_tt, qG_ff, qG_tf, qG_ft, cellsK_some, qLd_vptr, qLdA_vptr, qFa_ptr, qFa_vptr, qNc_ptr, qNc_vptr, qNc_fn, qNot_bool, qExt_tup, qCallV_fn, qLss_int, qLeq_int, qGtr_int, qGeq_int, qEql_int, qNeq_int, qAdd_int, qSub_int, qMul_int, qConvI_int, qLenL_sl, qLenL_hsl, qLenS_str, foldO, min2_int, max2_int, qSame_refl, Nat.zero_add, List.getElem?_cons_zero, List.getElem?_cons_succ, List.nil_append, List.cons_append, List.append_nil, one_bool, one_int, one_str, one_nilp, one_ptr, one_sl, one_hsl, one_map, one_fn, List.length_cons, List.length_nil, List.set_cons_zero, List.set_cons_succ, Nat.reduceLT, Nat.reduceAdd, qG_un, l0, l2, q3, l1, c2, beq_self_eq_true, qEql_str, decide_true]
    change qRes (EP _ _ _) _
    rw [aw]
    simp only [opn_z, opn_s, sel_z, sel_s, qCd_eq, qIf_true, qIf_false, qFn_eq, qBl_eq, qO_some, qRes_val, qHp_some, qPick_true, qPick_false, qG_tt, qG_ff, qG_tf, qG_ft, cellsK_some, qLd_vptr, qLdA_vptr, qFa_ptr, qFa_vptr, qNc_ptr, qNc_vptr, qNc_fn, qNot_bool, qExt_tup, qCallV_fn, qLss_int, qLeq_int, qGtr_int, qGeq_int, qEql_int, qNeq_int, qAdd_int, qSub_int, qMul_int, qConvI_int, qLenL_sl, qLenL_hsl, qLenS_str, foldO, min2_int, max2_int, qSame_refl, Nat.zero_add, List.getElem?_cons_zero, List.getElem?_cons_succ, List.nil_append, List.cons_append, List.append_nil, one_bool, one_int, one_str, one_nilp, one_ptr, one_sl, one_hsl, one_map, one_fn, List.length_cons, List.length_nil, List.set_cons_zero, List.set_cons_succ, Nat.reduceLT, Nat.reduceAdd]

end T
