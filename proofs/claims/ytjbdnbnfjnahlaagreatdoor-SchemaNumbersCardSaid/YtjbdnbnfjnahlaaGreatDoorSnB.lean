import Derived.Test.YtjbdnbnfjnahlaaGreatDoorSnA
set_option linter.all false
set_option linter.unusedVariables false
set_option linter.unusedSimpArgs false
set_option maxRecDepth 100000
namespace T
open Go Go.Aes Go.Proofs

def D2 (g : Nat) : Bool := [6, 7, 8, 15, 9, 10, 11, 48, 21, 44, 42, 43, 45, 22, 35, 23, 47, 46, 50, 51, 52, 53, 90].contains g
def PS2 (g : Nat) : Bool := [14, 49, 91, 112, 115].contains g
noncomputable def O2 : CallF := orO (fun g => [6, 7, 8, 15, 9, 10, 11].contains g) EP (orO (fun g => g.beq 48) OFm compO)
theorem O2_ok (B : Nat) (W : World) (ht : Tb B W) : CallOk Tryz.prog B W O2 := orO_ok (evO_ok tbOk OFs_ok prOk B W ht) (orO_ok (OFm_ok B W ht) (compO_ok B W ht))
noncomputable abbrev E2 : CallF := evO X D2 O2 PS2

/-! ### the reference's Sub -/
def lst (w : Str) : UInt8 := (w[w.length - 1]?).getD 0
def ini (w : Str) : Str := w.take (w.length - 1)
theorem lst_pos {w : Str} {c : UInt8} (h : lst w = c) (hc : c ≠ 0) : 0 < w.length := by
  rcases Nat.eq_zero_or_pos w.length with h0 | h0
  · have : w = [] := List.eq_nil_of_length_eq_zero h0
    subst this
    exact absurd h.symm hc
  · exact h0
theorem ini_len (w : Str) : (ini w).length = w.length - 1 := by simp [ini]
theorem u8_33 (a : UInt8) : (((a.toNat : Nat) : Int) == (33 : Int)) = decide (a = 33) := u8_eq a 33
theorem u8_93 (a : UInt8) : (((a.toNat : Nat) : Int) == (93 : Int)) = decide (a = 93) := u8_eq a 93
def subR (c : Bool) : Nat → Str → Str → Bool
  | 0, _, _ => c
  | n + 1, wa, wb =>
    if lst wb = 33 then decide (lst wa = 33) && subR c n (ini wa) (ini wb)
    else if lst wa = 33 then subR c n (ini wa) wb
    else if lst wa = 93 ∨ lst wb = 93 then decide (lst wa = lst wb) && subR c n (ini wa) (ini wb)
    else c

theorem ep112 (n w : Str) (hl : w.length < 1000) (H : AH) : E2 112 [ty n w] H = some (.val (.int .u8 (lst w).toNat) H) := by
  refine uo_form (X := X) (D := D2) (O := O2) (S := PS2) (al := [ty n w]) e112 xf112 rfl rfl rfl rfl ?_ H
  unfold ty
  simp only [AV.kills, AV.kill]
  obtain ⟨K, hK⟩ : ∃ K, K = H0.push (.cells [.str n, .str w]) := ⟨_, rfl⟩
  have iK : IsFn K := by subst hK; exact inferInstance
  have g0 : K.get 0 = some (.cells [.str n, .str w]) := by subst hK; simp [get_push_i, H0_nx]
  have hb : ∀ k : AV → AH → Prop, qBox (.agg [.str n, .str w]) H0 k = k (.ptr 0 0) K := fun k => by rw [qBox_i, hK]; rfl
  have l1 := fun (k : AV → Prop) => ld1 g0 1 (.str w) rfl k
  by_cases h0 : w = []
  · have hs : lst w = 0 := by subst h0; rfl
    simp -implicitDefEqProofs only [c112, r112_0, r112_1, r112_2, opn_z, opn_s, sel_z, sel_s, qCd_eq, qIf_true, qIf_false, qFn_eq, qBl_eq, qO_some, qRes_val, qHp_some, qPick_true, qPick_false, qG_tt, qG_ff, qG_tf, qG_ft, cellsK_some, qLd_vptr, qLdA_vptr, qFa_ptr, qFa_vptr, qNc_ptr, qNc_vptr, qNc_fn, qNot_bool, qExt_tup, qCallV_fn, qLss_int, qLeq_int, qGtr_int, qGeq_int, qEql_int, qNeq_int, qAdd_int, qSub_int, qMul_int, qConvI_int, qLenL_sl, qLenL_hsl, qLenS_str, foldO, min2_int, max2_int, qSame_refl, Nat.zero_add, List.getElem?_cons_zero, List.getElem?_cons_succ, List.nil_append, List.cons_append, List.append_nil, one_bool, one_int, one_str, one_nilp, one_ptr, one_sl, one_hsl, one_map, one_fn, List.length_cons, List.length_nil, List.set_cons_zero, List.set_cons_succ, Nat.reduceLT, Nat.reduceAdd, qG_un, hb, l1, qEql_str, h0, decide_true, hs, AV.kill]
    rfl
  · have hp : 0 < w.length := List.length_pos_iff.2 h0
    obtain ⟨x, hx⟩ : ∃ x, w[w.length - 1]? = some x := ⟨_, List.getElem?_eq_getElem (by omega)⟩
    have hs1 : IntKind.i64.wrap ((w.length : Int) - 1) = ((w.length - 1 : Nat) : Int) := by rw [i64_in' (by omega)]; omega
    have hix := fun (k : AV → Prop) => qIx_str hx .i64 k
    have hs : lst w = x := by unfold lst; rw [hx]; rfl
    simp -implicitDefEqProofs only [c112, r112_0, r112_1, r112_3, opn_z, opn_s, sel_z, sel_s, qCd_eq, qIf_true, qIf_false, qFn_eq, qBl_eq, qO_some, qRes_val, qHp_some, qPick_true, qPick_false, qG_tt, qG_ff, qG_tf, qG_ft, cellsK_some, qLd_vptr, qLdA_vptr, qFa_ptr, qFa_vptr, qNc_ptr, qNc_vptr, qNc_fn, qNot_bool, qExt_tup, qCallV_fn, qLss_int, qLeq_int, qGtr_int, qGeq_int, qEql_int, qNeq_int, qAdd_int, qSub_int, qMul_int, qConvI_int, qLenL_sl, qLenL_hsl, qLenS_str, foldO, min2_int, max2_int, qSame_refl, Nat.zero_add, List.getElem?_cons_zero, List.getElem?_cons_succ, List.nil_append, List.cons_append, List.append_nil, one_bool, one_int, one_str, one_nilp, one_ptr, one_sl, one_hsl, one_map, one_fn, List.length_cons, List.length_nil, List.set_cons_zero, List.set_cons_succ, Nat.reduceLT, Nat.reduceAdd, qG_un, hb, l1, qEql_str, h0, decide_false, hs1, hix, hs, AV.kill]
theorem ep115 (n w : Str) (hl : w.length < 1000) (H : AH) : E2 115 [ty n w] H = some (.val (ty n (ini w)) H) := by
  refine uo_form (X := X) (D := D2) (O := O2) (S := PS2) (al := [ty n w]) e115 xf115 rfl rfl rfl rfl ?_ H
  unfold ty
  simp only [AV.kills, AV.kill]
  obtain ⟨K, hK⟩ : ∃ K, K = (H0.push (.cells [.str n, .str w])).push (.cells z27) := ⟨_, rfl⟩
  have iK : IsFn K := by subst hK; exact inferInstance
  have g0 : K.get 0 = some (.cells [.str n, .str w]) := by subst hK; simp [get_push_i, nx_push_i, H0_nx]
  have g1 : K.get 1 = some (.cells z27) := by subst hK; simp [get_push_i, nx_push_i, H0_nx]
  have hb : ∀ k : AV → AH → Prop, qBox (.agg [.str n, .str w]) H0 k = k (.ptr 0 0) (H0.push (.cells [.str n, .str w])) := fun k => by rw [qBox_i]; rfl
  have hn : ∀ k : AV → AH → Prop, qNew (.cells z27) .ptr (H0.push (.cells [.str n, .str w])) k = k (.ptr 1 0) K := fun k => by rw [qNew_i, hK]; rfl
  have l0 := fun (k : AV → Prop) => ld1 g0 0 (.str n) rfl k
  have l1 := fun (k : AV → Prop) => ld1 g0 1 (.str w) rfl k
  have la := fun (k : AV → Prop) => qLdA_whole (n := 2) g0 rfl k
  have st := fun (w' : Str) (k : AV → AH → Prop) => qSt_whole (n := 2) (l := [.str n, .str w']) g1 rfl rfl rfl k
  have ge : ∀ w', (K.set 1 (some (.cells [.str n, .str w']))).get 1 = some (.cells [.str n, .str w']) := fun w' => by rw [get_set_i (lt_i g1), if_pos rfl]
  have lf := fun (w' : Str) (k : AV → Prop) => qLdA_whole (n := 2) (ge w') rfl k
  by_cases h0 : w = []
  · have hs : ini w = w := by subst h0; rfl
    simp -implicitDefEqProofs only [c115, r115_0, r115_1, r115_2, opn_z, opn_s, sel_z, sel_s, qCd_eq, qIf_true, qIf_false, qFn_eq, qBl_eq, qO_some, qRes_val, qHp_some, qPick_true, qPick_false, qG_tt, qG_ff, qG_tf, qG_ft, cellsK_some, qLd_vptr, qLdA_vptr, qFa_ptr, qFa_vptr, qNc_ptr, qNc_vptr, qNc_fn, qNot_bool, qExt_tup, qCallV_fn, qLss_int, qLeq_int, qGtr_int, qGeq_int, qEql_int, qNeq_int, qAdd_int, qSub_int, qMul_int, qConvI_int, qLenL_sl, qLenL_hsl, qLenS_str, foldO, min2_int, max2_int, qSame_refl, Nat.zero_add, List.getElem?_cons_zero, List.getElem?_cons_succ, List.nil_append, List.cons_append, List.append_nil, one_bool, one_int, one_str, one_nilp, one_ptr, one_sl, one_hsl, one_map, one_fn, List.length_cons, List.length_nil, List.set_cons_zero, List.set_cons_succ, Nat.reduceLT, Nat.reduceAdd, qG_un, hb, hn, l1, qEql_str, h0, decide_true, la, st, qPtr_ptr, AV.kill, AV.kills]
    subst h0
    rfl
  · have hp : 0 < w.length := List.length_pos_iff.2 h0
    have hs1 : IntKind.i64.wrap ((w.length : Int) - 1) = ((w.length - 1 : Nat) : Int) := by rw [i64_in' (by omega)]; omega
    have hsl := fun (k : AV → Prop) => slcS_hi w (w.length - 1) (by omega) k
    have b3 : ∀ (w' : Str) (k : AV → Prop), qBld z27 [(0, 1, .str n), (1, 1, .str w')] k = k (.agg [.str n, .str w']) := fun w' k => by kernel_rfl
    simp -implicitDefEqProofs only [c115, r115_0, r115_1, r115_3, opn_z, opn_s, sel_z, sel_s, qCd_eq, qIf_true, qIf_false, qFn_eq, qBl_eq, qO_some, qRes_val, qHp_some, qPick_true, qPick_false, qG_tt, qG_ff, qG_tf, qG_ft, cellsK_some, qLd_vptr, qLdA_vptr, qFa_ptr, qFa_vptr, qNc_ptr, qNc_vptr, qNc_fn, qNot_bool, qExt_tup, qCallV_fn, qLss_int, qLeq_int, qGtr_int, qGeq_int, qEql_int, qNeq_int, qAdd_int, qSub_int, qMul_int, qConvI_int, qLenL_sl, qLenL_hsl, qLenS_str, foldO, min2_int, max2_int, qSame_refl, Nat.zero_add, List.getElem?_cons_zero, List.getElem?_cons_succ, List.nil_append, List.cons_append, List.append_nil, one_bool, one_int, one_str, one_nilp, one_ptr, one_sl, one_hsl, one_map, one_fn, List.length_cons, List.length_nil, List.set_cons_zero, List.set_cons_succ, Nat.reduceLT, Nat.reduceAdd, qG_un, hb, hn, l0, l1, qEql_str, h0, decide_false, hs1, hsl, b3, st, lf, qPtr_ptr, AV.kill, AV.kills]
    rfl

/-! #### names -/
def kn (o : Bool) (n : Str) : Int := match fd o n with
  | .tup [.agg (.int _ k :: _), _] => k
  | _ => 0
def d3 (o : Bool) (n : Str) : AV := match fd o n with
  | .tup [.agg [_, _, c, _, _], _] => c
  | _ => Aes.undef
def hs (o : Bool) (n m : Str) : Bool := match d3 o n with
  | .sl rows _ => rows.any fun r => beqVs r [.str m]
  | _ => false
def cR (o : Bool) (n1 n2 : Str) : Bool :=
  if n1 = n2 then true else if kn o n2 = 3 then (decide (kn o n1 = 2) || decide (kn o n1 = 3)) && hs o n1 n2 else decide (kn o n2 = 4) && decide (kn o n1 = 2) && hs o n2 n1
def tplK : AV → Bool
  | .tup [.agg [.int .i64 _, b, c, d, e], .bool _] => one b && one c && one d && one e
  | _ => false
noncomputable def chkS (o : Bool) (n : Str) : Bool := chkB OF1 100 43 [sch o, .str n] (fd o n) && (tplK (fd o n) && N12.all fun m => chkB OF1 100 90 [d3 o n, .str m] (.bool (hs o n m)))
theorem chkS_all : ([true, false].all fun o => N12.all fun n => chkS o n) = true := by kernel_rfl
theorem cR_all : ([true, false].all fun o => N12.all fun n => N12.all fun m => cR o n m == bel o n m) = true := by kernel_rfl
theorem cR_eq (o : Bool) {n m : Str} (hn : n ∈ N12) (hm : m ∈ N12) : cR o n m = bel o n m := by
  have := List.all_eq_true.1 (List.all_eq_true.1 (List.all_eq_true.1 cR_all o (by cases o <;> simp)) n hn) m hm
  simpa using this
theorem chkS_get (o : Bool) {n : Str} (hn : n ∈ N12) : chkS o n = true := List.all_eq_true.1 (List.all_eq_true.1 chkS_all o (by cases o <;> simp)) n hn
/-- the type of a name, as the reference finds it; has it a name? -/
theorem find_n (o : Bool) {n : Str} (hn : n ∈ N12) : ∃ b c d e k, (∀ H, E2 43 [sch o, .str n] H = some (.val (.tup [.agg [.int .i64 (kn o n), b, c, d, e], .bool k]) H)) ∧ one b = true ∧ one c = true ∧ one d = true ∧ one e = true ∧
    ∀ m, m ∈ N12 → ∀ H, E2 90 [c, .str m] H = some (.val (.bool (hs o n m)) H) := by
  have h := chkS_get o hn
  unfold chkS at h
  simp only [Bool.and_eq_true] at h
  obtain ⟨h1, h2, h3⟩ := h
  have key : ∀ v, fd o n = v → tplK v = true → ∃ x b c d e k, v = .tup [.agg [.int .i64 x, b, c, d, e], .bool k] ∧ one b = true ∧ one c = true ∧ one d = true ∧ one e = true := by
    intro v _ hv
    unfold tplK at hv
    split at hv
    · simp only [Bool.and_eq_true] at hv
      exact ⟨_, _, _, _, _, _, rfl, hv.1.1.1, hv.1.1.2, hv.1.2, hv.2⟩
    · cases hv
  obtain ⟨x, b, c, d, e, k, hv, o1, o2, o3, o4⟩ := key _ rfl h2
  have hk : kn o n = x := by unfold kn; rw [hv]
  have hd : d3 o n = c := by unfold d3; rw [hv]
  refine ⟨b, c, d, e, k, fun H => evO_O rfl ?_, o1, o2, o3, o4, fun m hm H => evO_O rfl ?_⟩
  · show compO 43 [sch o, .str n] H = _
    rw [hk, ← hv]
    exact compO_of h1 H
  · show compO 90 [c, .str m] H = _
    rw [← hd]
    exact compO_of (List.all_eq_true.1 h3 m hm) H
end T
