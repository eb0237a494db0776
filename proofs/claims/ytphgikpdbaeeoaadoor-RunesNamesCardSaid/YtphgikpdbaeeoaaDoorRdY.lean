import Derived.Test.YtphgikpdbaeeoaaDoorRdX
set_option linter.all false
set_option linter.unusedVariables false
set_option linter.unusedSimpArgs false
set_option maxRecDepth 10000
namespace T
open Go Go.Aes Go.Proofs

/-! ### a list that can be read: held in the hand, or in the heap -/
inductive Rd (H : AH) (n : Nat) (rows : List (List AV)) : AV → Prop where
  | sl (tk : Tk) : Rd H n rows (.sl rows tk)
  | hsl (i len cap : Nat) (g : Bool) (cs : List AV) (h : H.get i = some (.cells cs)) (hc : cs.take (rows.length * n) = rows.flatten) (hl : len = rows.length) : Rd H n rows (.hsl i 0 len cap n g)

theorem Rd.keep {H H' : AH} {n : Nat} {rows : List (List AV)} {v : AV} (h : Rd H n rows v) (k : ∀ i cs, H.get i = some (.cells cs) → H'.get i = some (.cells cs)) : Rd H' n rows v := by
  cases h with
  | sl tk => exact .sl tk
  | hsl i len cap g cs h hc hl => exact .hsl i len cap g cs (k i _ h) hc hl
theorem Rd.kp {H H' : AH} [IsFn H] {n : Nat} {rows : List (List AV)} {v : AV} (h : Rd H n rows v) (k : Kp H H' (fun _ => False)) : Rd H' n rows v :=
  h.keep fun i cs hg => (k.keep i (lt_i hg) (fun h => h)).trans hg
theorem Rd.len {H : AH} {n : Nat} {rows : List (List AV)} {v : AV} (h : Rd H n rows v) (k : AV → Prop) : qLenL v k = k (.int .i64 (rows.length : Int)) := by
  cases h with
  | sl tk => rfl
  | hsl i len cap g cs h hc hl => subst hl; rfl
theorem Rd.one {H : AH} {n : Nat} {rows : List (List AV)} {v : AV} (h : Rd H n rows v) : one v = true := by cases h <;> rfl
theorem flat_get : ∀ {rows : List (List AV)} {n : Nat}, (∀ r ∈ rows, r.length = n) → ∀ {i : Nat} {r : List AV}, rows[i]? = some r → (rows.flatten.drop (i * n)).take n = r
  | [], n, h, i, r, hi => by simp at hi
  | a :: rows, n, h, 0, r, hi => by
    simp at hi
    subst hi
    have := h a (by simp)
    simp [← this]
  | a :: rows, n, h, i + 1, r, hi => by
    have ha := h a (by simp)
    rw [List.flatten_cons, Nat.add_mul, Nat.one_mul, Nat.add_comm, ← List.drop_drop, ← ha, List.drop_left, ha]
    exact flat_get (fun r hr => h r (by simp [hr])) (by simpa using hi)
theorem Rd.at_ {H : AH} {n : Nat} {rows : List (List AV)} {v : AV} (h : Rd H n rows v) (hr : ∀ r ∈ rows, r.length = n) {i : Nat} {r : List AV} (hi : rows[i]? = some r) :
    ∃ p, (∀ k : AV → Prop, qIa n v (.int .i64 (i : Int)) k = k p) ∧ (∀ k : AV → Prop, qLdA n p H k = k (.agg r)) ∧ (∀ a, r = [a] → ∀ k : AV → Prop, qLd p H k = k a) := by
  have hrl := hr r (List.mem_of_getElem? hi)
  cases h with
  | sl tk =>
    refine ⟨.vptr r 0, fun k => qIa_rows hi hrl k, fun k => by rw [qLdA_vptr, slice_whole r n hrl, qO_some], fun a ha k => by subst ha; rfl⟩
  | hsl j len cap g cs hg hc hlen =>
    subst hlen
    have hil : i < rows.length := (List.getElem?_eq_some_iff.1 hi).1
    have hfl := flat_get hr hi
    rw [← hc, List.drop_take, List.take_take, Nat.min_eq_left (by
      have h1 : (i + 1) * n ≤ rows.length * n := Nat.mul_le_mul_right n hil
      rw [Nat.add_mul, Nat.one_mul] at h1
      omega)] at hfl
    have hsl : slice? cs (0 + i * n) n = some r := by
      rw [Nat.zero_add]
      simp only [slice?, hfl, hrl, Nat.beq_refl, cond_true]
    refine ⟨.ptr j (0 + i * n), fun k => qIa_hsl .i64 k n j 0 rows.length cap g i hil, fun k => ldA hg _ hsl k, fun a ha k => ?_⟩
    subst ha
    refine ld1 hg _ a ?_ k
    rw [Nat.zero_add]
    have := congrArg (·[0]?) hfl
    simpa [List.getElem?_take, List.getElem?_drop, ← hrl] using this

/-! ### maps that are sets of names -/
def setE (ns : List Str) : List (AV × AV) := ns.map fun n => (.str n, .bool true)
theorem und111 : X.und 111 = some (.map 9 4) := by kernel_rfl
theorem und9 : X.und 9 = some .string := by kernel_rfl
theorem und4 : X.und 4 = some .bool := by kernel_rfl
theorem unz4 : unZ X 4 = some (.bool false) := by kernel_rfl
theorem look_set : ∀ (ns : List Str) (s : Str), Aes.look (.str s) (setE ns) = some (if ns.contains s then some (.bool true) else none)
  | [], s => rfl
  | n :: ns, s => by
    have ih := look_set ns s
    simp only [setE, List.map_cons, Aes.look, keyEq]
    rw [show eqL s n = decide (s = n) from eqL_eq s n]
    by_cases h : s = n
    · subst h
      simp
    · rw [decide_eq_false h]
      simp only [setE] at ih
      simp only [ih, List.contains_cons]
      have : (s == n) = false := by simpa using h
      rw [this, Bool.false_or]
theorem lookup_set {H : AH} {r : Nat} {ns : List Str} (hg : H.get r = some (.map (setE ns))) (s : Str) : lookup X 111 (.map (some r)) (.str s) false H = some (.bool (ns.contains s)) := by
  unfold lookup
  simp only [und111, und9, keyTy, Bool.not_true, cond_false, hg, look_set]
  cases h : ns.contains s with
  | true => simp
  | false => simp [unz4]
theorem upd_set : ∀ (ns : List Str) (s : Str), ns.contains s = false → upd (.str s) (.bool true) (setE ns) = some (setE (ns ++ [s]))
  | [], s, _ => rfl
  | n :: ns, s, h => by
    simp only [List.contains_cons, Bool.or_eq_false_iff] at h
    have ih := upd_set ns s h.2
    have hn : eqL s n = false := by rw [eqL_eq]; simpa using h.1
    simp only [setE, List.map_cons, upd, keyEq, hn] at ih ⊢
    rw [ih]
    rfl
theorem mset_set {H : AH} [IsFn H] {r : Nat} {ns : List Str} (hg : H.get r = some (.map (setE ns))) (s : Str) (hs : ns.contains s = false) (k : AV → AH → Prop) :
    qMset X 111 (.map (some r)) (.str s) (.bool true) H k = k Aes.undef (H.set r (some (.map (setE (ns ++ [s]))))) := by
  unfold qMset mapSet
  simp only [und111, und9, keyTy, Bool.not_true, cond_false, okI_i (lt_i hg), hg, upd_set ns s hs]
  rfl

/-! ### right texts, right names -/
theorem ep55 (s : Str) (h : s.length < 1000000000000) (H : AH) : EP 55 [.str s] H = some (.val (.bool (Lib.validD s)) H) := by
  refine evO_O rfl ?_
  have hb : s.length.ble 9223372036854775807 = true := by rw [Nat.ble_eq]; omega
  have : OF2 55 [.str s] H = oValid [.str s] H := rfl
  rw [this]
  simp [oValid, hb]
theorem ep30 (s : Str) (h : s.length < 1000000000000) (H : AH) : EP 30 [.str s] H = some (.val (.bool (Lib.validD s)) H) := by
  refine uo_form e30 xf30 rfl rfl rfl rfl ?_ H
  simp only [AV.kills, AV.kill]
  simp -implicitDefEqProofs only [c30, r30_0, r30_1, opn_z, opn_s, sel_z, sel_s, qCd_eq, qIf_true, qIf_false, qFn_eq, qBl_eq, qO_some, qRes_val, qHp_some, qPick_true, qPick_false, qG_tt, qG_ff, qG_tf, qG_ft, cellsK_some, qLd_ptr, qLd_vptr, qLdA_ptr, qLdA_vptr, qFa_ptr, qFa_vptr, qNc_ptr, qNc_vptr, qNc_fn, qNot_bool, qExt_tup, qCallV_fn, qLss_int, qLeq_int, qGtr_int, qGeq_int, qEql_int, qNeq_int, qAdd_int, qSub_int, qMul_int, qConvI_int, qLenL_sl, qLenL_hsl, qLenS_str, foldO, min2_int, max2_int, qSame_refl, Nat.zero_add, List.getElem?_cons_zero, List.getElem?_cons_succ, List.nil_append, List.cons_append, List.append_nil, one_bool, one_int, one_str, one_nilp, one_ptr, one_sl, one_hsl, one_map, one_fn, List.length_cons, List.length_nil, List.set_cons_zero, List.set_cons_succ, Nat.reduceLT, Nat.reduceAdd, qG_un, AV.kill, AV.kills, Tk.kill, ep55 s h]

def nmF : List Str → List Str → Bool
  | _, [] => true
  | seen, n :: r => if seen.contains n || !Lib.validD n then false else nmF (seen ++ [n]) r

theorem names_walk {H : AH} [IsFn H] {nv : AV} {ns : List Str} (hN : Rd H 1 (strRows ns) nv) (hl : ns.length < 1000000000) (hs : ∀ n ∈ ns, n.length < 1000000000000) (Q : AV → AH → Prop)
    (hQ : ∀ H', Kp H H' (fun _ => False) → Q (.bool (nmF [] ns)) H') : c73 EP [nv] H Q := by
  have ln := fun k => hN.len k
  rw [strRows_len] at ln
  simp -implicitDefEqProofs only [c73, r73_0, r73_1, r73_2, opn_z, opn_s, sel_z, sel_s, qCd_eq, qIf_true, qIf_false, qFn_eq, qBl_eq, qO_some, qRes_val, qHp_some, qPick_true, qPick_false, qG_tt, qG_ff, qG_tf, qG_ft, cellsK_some, qLd_ptr, qLd_vptr, qLdA_ptr, qLdA_vptr, qFa_ptr, qFa_vptr, qNc_ptr, qNc_vptr, qNc_fn, qNot_bool, qExt_tup, qCallV_fn, qLss_int, qLeq_int, qGtr_int, qGeq_int, qEql_int, qNeq_int, qAdd_int, qSub_int, qMul_int, qConvI_int, qLenL_sl, qLenL_hsl, qLenS_str, foldO, min2_int, max2_int, qSame_refl, Nat.zero_add, List.getElem?_cons_zero, List.getElem?_cons_succ, List.nil_append, List.cons_append, List.append_nil, one_bool, one_int, one_str, one_nilp, one_ptr, one_sl, one_hsl, one_map, one_fn, List.length_cons, List.length_nil, List.set_cons_zero, List.set_cons_succ, Nat.reduceLT, Nat.reduceAdd, qG_un, qNew_i, wr_map, ln]
  have hr1 : ∀ r ∈ strRows ns, r.length = 1 := by
    intro r hr
    obtain ⟨y, _, rfl⟩ := List.mem_map.1 hr
    rfl
  refine loop_inv (fun m fr H' => ∃ (i : Nat) (x5 x10 x20 : AV), m = ns.length - i ∧ i ≤ ns.length ∧ nmF [] ns = nmF (ns.take i) (ns.drop i) ∧ fr = [nv, .bool false, .map (some H.nx), x5, nv, .int .i64 (ns.length : Int), .int .i64 (i : Int), x10, x20] ∧
    Kp H H' (fun _ => False) ∧ H'.get H.nx = some (.map (setE (ns.take i)))) ?_ (m := ns.length) ?_
  · rintro m fr H' k ⟨i, x5, x10, x20, rfl, hi, hn, rfl, kp, hg⟩ hk
    haveI := kp.fn
    rcases Nat.lt_or_ge i ns.length with h | h
    · have h' : (i : Int) < (ns.length : Int) := by omega
      have hget : (strRows ns)[i]? = some [.str ns[i]] := by simp [strRows, h]
      obtain ⟨p, p1, p2, p3⟩ := (hN.kp kp).at_ hr1 hget
      have p3' := p3 _ rfl
      have lk := lookup_set hg ns[i]
      have hv := fun H => ep30 ns[i] (hs _ (List.getElem_mem h)) H
      have hw := wrap_up i (by omega)
      rw [List.drop_eq_getElem_cons h] at hn
      simp only [nmF] at hn
      cases hc : (ns.take i).contains ns[i] with
      | true =>
        rw [hc] at lk hn
        simp only [Bool.true_or, if_true] at hn
        simp -implicitDefEqProofs only [l73_5, r73_3, r73_4, r73_5, r73_6, opn_z, opn_s, sel_z, sel_s, qCd_eq, qIf_true, qIf_false, qFn_eq, qBl_eq, qO_some, qRes_val, qHp_some, qPick_true, qPick_false, qG_tt, qG_ff, qG_tf, qG_ft, cellsK_some, qLd_ptr, qLd_vptr, qLdA_ptr, qLdA_vptr, qFa_ptr, qFa_vptr, qNc_ptr, qNc_vptr, qNc_fn, qNot_bool, qExt_tup, qCallV_fn, qLss_int, qLeq_int, qGtr_int, qGeq_int, qEql_int, qNeq_int, qAdd_int, qSub_int, qMul_int, qConvI_int, qLenL_sl, qLenL_hsl, qLenS_str, foldO, min2_int, max2_int, qSame_refl, Nat.zero_add, List.getElem?_cons_zero, List.getElem?_cons_succ, List.nil_append, List.cons_append, List.append_nil, one_bool, one_int, one_str, one_nilp, one_ptr, one_sl, one_hsl, one_map, one_fn, List.length_cons, List.length_nil, List.set_cons_zero, List.set_cons_succ, Nat.reduceLT, Nat.reduceAdd, qG_un, h', decide_true, p1, p3', lk]
        have := hQ H' kp
        rwa [hn] at this
      | false =>
        rw [hc] at lk hn
        have ms := fun k => mset_set hg ns[i] hc k
        cases hv2 : Lib.validD ns[i] with
        | false =>
          rw [hv2] at hv hn
          simp only [Bool.not_false, Bool.or_true, if_true] at hn
          simp -implicitDefEqProofs only [l73_5, r73_3, r73_4, r73_5, r73_6, opn_z, opn_s, sel_z, sel_s, qCd_eq, qIf_true, qIf_false, qFn_eq, qBl_eq, qO_some, qRes_val, qHp_some, qPick_true, qPick_false, qG_tt, qG_ff, qG_tf, qG_ft, cellsK_some, qLd_ptr, qLd_vptr, qLdA_ptr, qLdA_vptr, qFa_ptr, qFa_vptr, qNc_ptr, qNc_vptr, qNc_fn, qNot_bool, qExt_tup, qCallV_fn, qLss_int, qLeq_int, qGtr_int, qGeq_int, qEql_int, qNeq_int, qAdd_int, qSub_int, qMul_int, qConvI_int, qLenL_sl, qLenL_hsl, qLenS_str, foldO, min2_int, max2_int, qSame_refl, Nat.zero_add, List.getElem?_cons_zero, List.getElem?_cons_succ, List.nil_append, List.cons_append, List.append_nil, one_bool, one_int, one_str, one_nilp, one_ptr, one_sl, one_hsl, one_map, one_fn, List.length_cons, List.length_nil, List.set_cons_zero, List.set_cons_succ, Nat.reduceLT, Nat.reduceAdd, qG_un, h', decide_true, p1, p3', lk, hv, Bool.not_false]
          have := hQ H' kp
          rwa [hn] at this
        | true =>
          rw [hv2] at hv hn
          simp only [Bool.not_true, Bool.or_false, Bool.false_eq_true, if_false] at hn
          simp -implicitDefEqProofs only [l73_5, r73_3, r73_4, r73_5, r73_7, r73_8, opn_z, opn_s, sel_z, sel_s, qCd_eq, qIf_true, qIf_false, qFn_eq, qBl_eq, qO_some, qRes_val, qHp_some, qPick_true, qPick_false, qG_tt, qG_ff, qG_tf, qG_ft, cellsK_some, qLd_ptr, qLd_vptr, qLdA_ptr, qLdA_vptr, qFa_ptr, qFa_vptr, qNc_ptr, qNc_vptr, qNc_fn, qNot_bool, qExt_tup, qCallV_fn, qLss_int, qLeq_int, qGtr_int, qGeq_int, qEql_int, qNeq_int, qAdd_int, qSub_int, qMul_int, qConvI_int, qLenL_sl, qLenL_hsl, qLenS_str, foldO, min2_int, max2_int, qSame_refl, Nat.zero_add, List.getElem?_cons_zero, List.getElem?_cons_succ, List.nil_append, List.cons_append, List.append_nil, one_bool, one_int, one_str, one_nilp, one_ptr, one_sl, one_hsl, one_map, one_fn, List.length_cons, List.length_nil, List.set_cons_zero, List.set_cons_succ, Nat.reduceLT, Nat.reduceAdd, qG_un, h', decide_true, p1, p3', lk, hv, Bool.not_true, ms, hw]
          refine hk (ns.length - (i + 1)) _ _ (by omega) ⟨i + 1, _, _, _, rfl, h, ?_, rfl, ?_, ?_⟩
          · rw [hn, take_succ' (List.getElem?_eq_getElem h)]
          · exact ⟨inferInstance, by rw [AH.nx_set]; exact kp.nx, fun j hj hp => by rw [get_set_i (lt_i hg), if_neg (by omega)]; exact kp.keep j hj hp⟩
          · rw [get_set_i (lt_i hg), if_pos rfl, take_succ' (List.getElem?_eq_getElem h)]
    · have h' : ¬ (i : Int) < (ns.length : Int) := by omega
      have hi' : i = ns.length := by omega
      subst hi'
      rw [List.drop_length] at hn
      simp -implicitDefEqProofs only [l73_5, r73_3, r73_9, opn_z, opn_s, sel_z, sel_s, qCd_eq, qIf_true, qIf_false, qFn_eq, qBl_eq, qO_some, qRes_val, qHp_some, qPick_true, qPick_false, qG_tt, qG_ff, qG_tf, qG_ft, cellsK_some, qLd_ptr, qLd_vptr, qLdA_ptr, qLdA_vptr, qFa_ptr, qFa_vptr, qNc_ptr, qNc_vptr, qNc_fn, qNot_bool, qExt_tup, qCallV_fn, qLss_int, qLeq_int, qGtr_int, qGeq_int, qEql_int, qNeq_int, qAdd_int, qSub_int, qMul_int, qConvI_int, qLenL_sl, qLenL_hsl, qLenS_str, foldO, min2_int, max2_int, qSame_refl, Nat.zero_add, List.getElem?_cons_zero, List.getElem?_cons_succ, List.nil_append, List.cons_append, List.append_nil, one_bool, one_int, one_str, one_nilp, one_ptr, one_sl, one_hsl, one_map, one_fn, List.length_cons, List.length_nil, List.set_cons_zero, List.set_cons_succ, Nat.reduceLT, Nat.reduceAdd, qG_un, h', decide_false]
      have := hQ H' kp
      rwa [hn] at this
  · exact ⟨0, _, _, _, rfl, by omega, rfl, rfl, Kp.push _ _, get_push_at _⟩

theorem ep73 {H : AH} [IsFn H] {nv : AV} {ns : List Str} (hN : Rd H 1 (strRows ns) nv) (hl : ns.length < 1000000000) (hs : ∀ n ∈ ns, n.length < 1000000000000) :
    ∃ H', EP 73 [nv] H = some (.val (.bool (nmF [] ns)) H') ∧ Kp H H' (fun _ => False) := by
  cases hN with
  | sl tk =>
    refine ⟨H, ?_, .refl _⟩
    refine uo_form e73 xf73 rfl rfl (by simp only [AV.kills, AV.kill, AV.frees, Tk.kill_free, strRows_kill, strRows_free]; rfl) rfl ?_ H
    simp only [AV.kills, AV.kill, strRows_kill]
    exact names_walk (.sl _) hl hs _ (fun H' _ => rfl)
  | hsl i len cap g cs hg hc hlen =>
    obtain ⟨v, H', h1, h2, h3⟩ := ao_form (al := [.hsl i 0 len cap 1 g]) (H := H) e73 xf73 rfl rfl (Q := fun v H' => v = .bool (nmF [] ns) ∧ Kp H H' (fun _ => False))
      (names_walk (.hsl i len cap g cs hg hc hlen) hl hs _ (fun H' kp => ⟨rfl, kp⟩))
    exact ⟨H', h1.trans (by rw [h2]), h3⟩

/-! ### right values -/
def sT : Str := [116, 114, 117, 101]
def sF : Str := [102, 97, 108, 115, 101]
def rightF : Nat → Val → Bool
  | 0, _ => false
  | d + 1, .mk k s ns l =>
    if k = 1 then decide (ns = []) && decide (l = []) && decide (s = [])
    else if k = 2 then decide (ns = []) && decide (l = []) && (decide (s = sT) || decide (s = sF))
    else if k = 3 ∨ k = 4 then decide (ns = []) && decide (l = []) && (num s).2 && ((num s).1 == decide (k = 3))
    else if k = 5 then decide (ns = []) && decide (l = []) && Lib.validD s
    else if k = 7 then decide (s = []) && decide (ns = []) && l.all (rightF d)
    else if k = 8 then decide (s = []) && decide (ns.length = l.length) && nmF [] ns && l.all (rightF d)
    else false

mutual
def vsz : Val → Prop
  | .mk _ s ns l => s.length < 1000000000000 ∧ ns.length < 1000000000 ∧ (∀ n ∈ ns, n.length < 1000000000000) ∧ l.length < 1000000000 ∧ vszs l
def vszs : List Val → Prop
  | [] => True
  | v :: l => vsz v ∧ vszs l
end
theorem vszs_mem : ∀ {l : List Val}, vszs l → ∀ v ∈ l, vsz v
  | [], _, v, hv => by cases hv
  | a :: l, ⟨h1, h2⟩, v, hv => by
    rcases List.mem_cons.1 hv with rfl | hv
    · exact h1
    · exact vszs_mem h2 v hv

def RightOk (d : Nat) : Prop := ∀ (v : Val) (r : List AV), EV v r → vsz v → ∀ H, EP 45 [.agg r, .int .i64 (d : Int)] H = some (.val (.bool (rightF d v)) H)

theorem dec_len0 {α : Type} [DecidableEq (List α)] (l : List α) : ((l.length : Int) == 0) = decide (l = []) := by
  cases l with
  | nil => simp
  | cons a l => simp; omega
theorem dec_len0' {α : Type} (l : List α) [Decidable (l = [])] : ((l.length : Int) == 0) = decide (l = []) := by
  cases l with
  | nil => simp
  | cons a l => simp; omega

/-- the parts, one by one -/
theorem right_loop (d : Nat) (hd : d < 1000) (ih : RightOk d) {Hs : AH} [IsFn Hs] {lv : AV} {l : List Val} {rows : List (List AV)} (hE : EVs l rows) (hsz : vszs l) (hl : l.length < 1000000000) (hL : Rd Hs 4 rows lv) (kr kb : KT Prop)
    (hno : l.all (rightF d) = false → ∀ H', Kp Hs H' (fun _ => False) → ∀ (x0 x1 x2 x5 x6 x7 x9 x11 x23 x24 x32 x45 x65 x73 x83 x84 x103 x105 x106 x107 x108 x115 : AV), kr [x0, x1, x2, .bool false, x5, x6, x7, x9, x11, x23, x24, x32, x45, x65, x73, x83, x84, x103, x105, x106, x107, x108, x115] H')
    (hyes : l.all (rightF d) = true → ∀ H', Kp Hs H' (fun _ => False) → ∀ (x0 x1 x2 x4 x5 x6 x7 x9 x11 x23 x24 x32 x45 x65 x73 x83 x84 x103 x105 x106 x107 x108 x115 : AV), kb [x0, x1, x2, x4, x5, x6, x7, x9, x11, x23, x24, x32, x45, x65, x73, x83, x84, x103, x105, x106, x107, x108, x115] H') {H : AH} (kp : Kp Hs H (fun _ => False)) (x0 x2 x4 x5 x6 x7 x9 x11 x23 x24 x32 x45 x65 x73 x83 x84 x103 x108 x115 : AV) :
    qLoop (l45_5 EP kb kr) [x0, .int .i64 ((d + 1 : Nat) : Int), x2, x4, x5, x6, x7, x9, x11, x23, x24, x32, x45, x65, x73, x83, x84, x103, lv, .int .i64 (l.length : Int), .int .i64 0, x108, x115] H := by
  refine loop_inv (fun m fr H' => ∃ (i : Nat) (x0 x2 x4 x5 x6 x7 x9 x11 x23 x24 x32 x45 x65 x73 x83 x84 x103 x108 x115 : AV), m = l.length - i ∧ i ≤ l.length ∧ (∀ v ∈ l.take i, rightF d v = true) ∧ fr = [x0, .int .i64 ((d + 1 : Nat) : Int), x2, x4, x5, x6, x7, x9, x11, x23, x24, x32, x45, x65, x73, x83, x84, x103, lv, .int .i64 (l.length : Int), .int .i64 (i : Int), x108, x115] ∧ Kp Hs H' (fun _ => False)) ?_ (m := l.length) ?_
  · rintro m fr H' k ⟨i, x0, x2, x4, x5, x6, x7, x9, x11, x23, x24, x32, x45, x65, x73, x83, x84, x103, x108, x115, rfl, hi, hall, rfl, kp'⟩ hk
    haveI := kp'.fn
    rcases Nat.lt_or_ge i l.length with h | h
    · have h' : (i : Int) < (l.length : Int) := by omega
      obtain ⟨r, e1, e2⟩ := hE.get (List.getElem?_eq_getElem h)
      obtain ⟨p, p1, p2, _⟩ := (hL.kp kp').at_ hE.four e1
      obtain ⟨q, Ha, Hb, x1, x2, x3, x4, x5, x6⟩ := boxK (R := Prop) (Hs := Hs) (H := H') kp' z25 r (n := 4) rfl e2.four e2.ones
      have ld := fun k => qLdA_whole (R := Prop) x3 e2.four k
      have hd1 : IntKind.i64.wrap (((d + 1 : Nat) : Int) - 1) = (d : Int) := wrap_dn d (by omega)
      have hc := fun H => ih l[i] r e2 (vszs_mem hsz _ (List.getElem_mem h)) H
      have hw := wrap_up i (by omega)
      cases hb : rightF d l[i] with
      | false =>
        rw [hb] at hc
        simp -implicitDefEqProofs only [l45_5, r45_23, r45_24, r45_25, r45_26, opn_z, opn_s, sel_z, sel_s, qCd_eq, qIf_true, qIf_false, qFn_eq, qBl_eq, qO_some, qRes_val, qHp_some, qPick_true, qPick_false, qG_tt, qG_ff, qG_tf, qG_ft, cellsK_some, qLd_vptr, qLdA_vptr, qFa_ptr, qFa_vptr, qNc_ptr, qNc_vptr, qNc_fn, qNot_bool, qExt_tup, qCallV_fn, qLss_int, qLeq_int, qGtr_int, qGeq_int, qEql_int, qNeq_int, qAdd_int, qSub_int, qMul_int, qConvI_int, qLenL_sl, qLenL_hsl, qLenS_str, foldO, min2_int, max2_int, qSame_refl, Nat.zero_add, List.getElem?_cons_zero, List.getElem?_cons_succ, List.nil_append, List.cons_append, List.append_nil, one_bool, one_int, one_str, one_nilp, one_ptr, one_sl, one_hsl, one_map, one_fn, List.length_cons, List.length_nil, List.set_cons_zero, List.set_cons_succ, Nat.reduceLT, Nat.reduceAdd, qG_un, h', decide_true, p1, p2, x1, x2, ld, hd1, hc, Bool.not_false]
        refine hno ?_ Hb x5 _ _ _ _ _ _ _ _ _ _ _ _ _ _ _ _ _ _ _ _ _ _
        rw [List.all_eq_false]
        exact ⟨l[i], List.getElem_mem h, by simp [hb]⟩
      | true =>
        rw [hb] at hc
        simp -implicitDefEqProofs only [l45_5, r45_23, r45_24, r45_25, r45_27, opn_z, opn_s, sel_z, sel_s, qCd_eq, qIf_true, qIf_false, qFn_eq, qBl_eq, qO_some, qRes_val, qHp_some, qPick_true, qPick_false, qG_tt, qG_ff, qG_tf, qG_ft, cellsK_some, qLd_vptr, qLdA_vptr, qFa_ptr, qFa_vptr, qNc_ptr, qNc_vptr, qNc_fn, qNot_bool, qExt_tup, qCallV_fn, qLss_int, qLeq_int, qGtr_int, qGeq_int, qEql_int, qNeq_int, qAdd_int, qSub_int, qMul_int, qConvI_int, qLenL_sl, qLenL_hsl, qLenS_str, foldO, min2_int, max2_int, qSame_refl, Nat.zero_add, List.getElem?_cons_zero, List.getElem?_cons_succ, List.nil_append, List.cons_append, List.append_nil, one_bool, one_int, one_str, one_nilp, one_ptr, one_sl, one_hsl, one_map, one_fn, List.length_cons, List.length_nil, List.set_cons_zero, List.set_cons_succ, Nat.reduceLT, Nat.reduceAdd, qG_un, h', decide_true, p1, p2, x1, x2, ld, hd1, hc, Bool.not_true, hw]
        refine hk (l.length - (i + 1)) _ _ (by omega) ⟨i + 1, _, _, _, _, _, _, _, _, _, _, _, _, _, _, _, _, _, _, _, rfl, h, ?_, rfl, x5⟩
        intro v hv
        rw [take_succ' (List.getElem?_eq_getElem h)] at hv
        rcases List.mem_append.1 hv with hv | hv
        · exact hall v hv
        · obtain rfl := List.mem_singleton.1 hv
          exact hb
    · have h' : ¬ (i : Int) < (l.length : Int) := by omega
      have hi' : i = l.length := by omega
      subst hi'
      rw [List.take_length] at hall
      simp -implicitDefEqProofs only [l45_5, r45_23, opn_z, opn_s, sel_z, sel_s, qCd_eq, qIf_true, qIf_false, qFn_eq, qBl_eq, qO_some, qRes_val, qHp_some, qPick_true, qPick_false, qG_tt, qG_ff, qG_tf, qG_ft, cellsK_some, qLd_vptr, qLdA_vptr, qFa_ptr, qFa_vptr, qNc_ptr, qNc_vptr, qNc_fn, qNot_bool, qExt_tup, qCallV_fn, qLss_int, qLeq_int, qGtr_int, qGeq_int, qEql_int, qNeq_int, qAdd_int, qSub_int, qMul_int, qConvI_int, qLenL_sl, qLenL_hsl, qLenS_str, foldO, min2_int, max2_int, qSame_refl, Nat.zero_add, List.getElem?_cons_zero, List.getElem?_cons_succ, List.nil_append, List.cons_append, List.append_nil, one_bool, one_int, one_str, one_nilp, one_ptr, one_sl, one_hsl, one_map, one_fn, List.length_cons, List.length_nil, List.set_cons_zero, List.set_cons_succ, Nat.reduceLT, Nat.reduceAdd, qG_un, h', decide_false]
      exact hyes (List.all_eq_true.2 hall) H' kp' _ _ _ _ _ _ _ _ _ _ _ _ _ _ _ _ _ _ _ _ _ _ _
  · exact ⟨0, _, _, _, _, _, _, _, _, _, _, _, _, _, _, _, _, _, _, _, rfl, by omega, by simp, rfl, kp⟩
end T
set_option linter.unusedVariables false
set_option linter.unusedSimpArgs false
set_option maxRecDepth 10000
namespace T
open Go Go.Aes Go.Proofs

theorem qEql_bool (a b : Bool) (k : AV → Prop) : qEql X 4 (.bool a) (.bool b) k = k (.bool (a == b)) := by
  unfold qEql intsK
  simp only [binop, und4, refEq, Option.map_some, qO_some]

set_option maxHeartbeats 2000000 in
theorem right_walk (d : Nat) (hd : d < 1000) (ih : RightOk d) {H : AH} [IsFn H] {kind : Int} {s : Str} {ns : List Str} {l : List Val} {nv lv : AV} {rows : List (List AV)} (hN : Rd H 1 (strRows ns) nv) (hL : Rd H 4 rows lv) (hE : EVs l rows)
    (hsz : vsz (.mk kind s ns l)) (Q : AV → AH → Prop) (hQ : ∀ H', Kp H H' (fun _ => False) → Q (.bool (rightF (d + 1) (.mk kind s ns l))) H') : c45 EP [.agg [.int .i64 kind, .str s, nv, lv], .int .i64 ((d + 1 : Nat) : Int)] H Q := by
  obtain ⟨z1, z2, z3, z4, z5⟩ := hsz
  have o1 := hN.one
  have o2 := hL.one
  have bx : ∀ k : AV → AH → Prop, qBox (.agg [.int .i64 kind, .str s, nv, lv]) H k = k (.ptr H.nx 0) (H.push (.cells [.int .i64 kind, .str s, nv, lv])) := fun k => by
    rw [qBox_i, cells_agg]
    simp only [allOne_cons, allOne_nil, one_int, one_str, o1, o2, Bool.and_true, cond_true]
  have g0 := get_push_at (H := H) (.cells [.int .i64 kind, .str s, nv, lv])
  have kp : Kp H (H.push (.cells [.int .i64 kind, .str s, nv, lv])) (fun _ => False) := Kp.push _ _
  have hN' := hN.kp kp
  have hL' := hL.kp kp
  have hd1 : ¬ (((d + 1 : Nat) : Int) < 1) := by omega
  simp -implicitDefEqProofs only [c45, r45_0, r45_1, opn_z, opn_s, sel_z, sel_s, qCd_eq, qIf_true, qIf_false, qFn_eq, qBl_eq, qO_some, qRes_val, qHp_some, qPick_true, qPick_false, qG_tt, qG_ff, qG_tf, qG_ft, cellsK_some, qLd_vptr, qLdA_vptr, qFa_ptr, qFa_vptr, qNc_ptr, qNc_vptr, qNc_fn, qNot_bool, qExt_tup, qCallV_fn, qLss_int, qLeq_int, qGtr_int, qGeq_int, qEql_int, qNeq_int, qAdd_int, qSub_int, qMul_int, qConvI_int, qLenL_sl, qLenL_hsl, qLenS_str, foldO, min2_int, max2_int, qSame_refl, Nat.zero_add, List.getElem?_cons_zero, List.getElem?_cons_succ, List.nil_append, List.cons_append, List.append_nil, one_bool, one_int, one_str, one_nilp, one_ptr, one_sl, one_hsl, one_map, one_fn, List.length_cons, List.length_nil, List.set_cons_zero, List.set_cons_succ, Nat.reduceLT, Nat.reduceAdd, qG_un, bx, hd1, decide_false]
  generalize H.push (.cells [.int .i64 kind, .str s, nv, lv]) = Ha at *
  haveI := kp.fn
  have p0 := fun k => ld1 (R := Prop) g0 0 _ rfl k
  have p1 := fun k => ld1 (R := Prop) g0 1 _ rfl k
  have p2 := fun k => ld1 (R := Prop) g0 2 _ rfl k
  have p3 := fun k => ld1 (R := Prop) g0 3 _ rfl k
  have e1 := fun k => hN'.len k
  have e2 := fun k => hL'.len k
  rw [strRows_len] at e1
  rw [hE.len] at e2
  have b1 := dec_len0' ns
  have b2 := dec_len0' l
  have q := hQ Ha kp
  have bare : ∀ (k : KT Prop), (∀ (x0 x6 x7 x9 x11 x23 x24 x32 x45 x65 x73 x83 x84 x103 x105 x106 x107 x108 x115 : AV), k [x0, .int .i64 ((d + 1 : Nat) : Int), .ptr H.nx 0, .bool false, .bool (decide (ns = []) && decide (l = [])), x6, x7, x9, x11, x23, x24, x32, x45, x65, x73, x83, x84, x103, x105, x106, x107, x108, x115] Ha) → ∀ (x0 x5 x6 x7 x9 x11 x23 x24 x32 x45 x65 x73 x83 x84 x103 x105 x106 x107 x108 x115 : AV), r45_3 k [x0, .int .i64 ((d + 1 : Nat) : Int), .ptr H.nx 0, .bool false, x5, x6, x7, x9, x11, x23, x24, x32, x45, x65, x73, x83, x84, x103, x105, x106, x107, x108, x115] Ha := by
    intro k hk x0 x5 x6 x7 x9 x11 x23 x24 x32 x45 x65 x73 x83 x84 x103 x105 x106 x107 x108 x115
    cases hb1 : decide (ns = []) with
    | false =>
      rw [hb1] at hk b1
      simp -implicitDefEqProofs only [r45_3, opn_z, opn_s, sel_z, sel_s, qCd_eq, qIf_true, qIf_false, qFn_eq, qBl_eq, qO_some, qRes_val, qHp_some, qPick_true, qPick_false, qG_tt, qG_ff, qG_tf, qG_ft, cellsK_some, qLd_vptr, qLdA_vptr, qFa_ptr, qFa_vptr, qNc_ptr, qNc_vptr, qNc_fn, qNot_bool, qExt_tup, qCallV_fn, qLss_int, qLeq_int, qGtr_int, qGeq_int, qEql_int, qNeq_int, qAdd_int, qSub_int, qMul_int, qConvI_int, qLenL_sl, qLenL_hsl, qLenS_str, foldO, min2_int, max2_int, qSame_refl, Nat.zero_add, List.getElem?_cons_zero, List.getElem?_cons_succ, List.nil_append, List.cons_append, List.append_nil, one_bool, one_int, one_str, one_nilp, one_ptr, one_sl, one_hsl, one_map, one_fn, List.length_cons, List.length_nil, List.set_cons_zero, List.set_cons_succ, Nat.reduceLT, Nat.reduceAdd, qG_un, p2, e1, b1]
      simpa using hk _ _ _ _ _ _ _ _ _ _ _ _ _ _ _ _ _ _ _
    | true =>
      rw [hb1] at hk b1
      simp -implicitDefEqProofs only [r45_3, opn_z, opn_s, sel_z, sel_s, qCd_eq, qIf_true, qIf_false, qFn_eq, qBl_eq, qO_some, qRes_val, qHp_some, qPick_true, qPick_false, qG_tt, qG_ff, qG_tf, qG_ft, cellsK_some, qLd_vptr, qLdA_vptr, qFa_ptr, qFa_vptr, qNc_ptr, qNc_vptr, qNc_fn, qNot_bool, qExt_tup, qCallV_fn, qLss_int, qLeq_int, qGtr_int, qGeq_int, qEql_int, qNeq_int, qAdd_int, qSub_int, qMul_int, qConvI_int, qLenL_sl, qLenL_hsl, qLenS_str, foldO, min2_int, max2_int, qSame_refl, Nat.zero_add, List.getElem?_cons_zero, List.getElem?_cons_succ, List.nil_append, List.cons_append, List.append_nil, one_bool, one_int, one_str, one_nilp, one_ptr, one_sl, one_hsl, one_map, one_fn, List.length_cons, List.length_nil, List.set_cons_zero, List.set_cons_succ, Nat.reduceLT, Nat.reduceAdd, qG_un, p2, p3, e1, e2, b1, b2]
      simpa using hk _ _ _ _ _ _ _ _ _ _ _ _ _ _ _ _ _ _ _
  by_cases k1 : kind = 1
  · subst k1
    have hr : rightF (d + 1) (.mk 1 s ns l) = (decide (ns = []) && decide (l = []) && decide (s = [])) := rfl
    rw [hr] at q
    generalize (decide (ns = []) && decide (l = [])) = bb at *
    (first | apply bare | refine bare _ ?_ _ _ _ _ _ _ _ _ _ _ _ _ _ _ _ _ _ _ _ _)
    intro x0 x6 x7 x9 x11 x23 x24 x32 x45 x65 x73 x83 x84 x103 x105 x106 x107 x108 x115
    cases bb <;> simp -implicitDefEqProofs only [r45_4, r45_6, r45_7, opn_z, opn_s, sel_z, sel_s, qCd_eq, qIf_true, qIf_false, qFn_eq, qBl_eq, qO_some, qRes_val, qHp_some, qPick_true, qPick_false, qG_tt, qG_ff, qG_tf, qG_ft, cellsK_some, qLd_vptr, qLdA_vptr, qFa_ptr, qFa_vptr, qNc_ptr, qNc_vptr, qNc_fn, qNot_bool, qExt_tup, qCallV_fn, qLss_int, qLeq_int, qGtr_int, qGeq_int, qEql_int, qNeq_int, qAdd_int, qSub_int, qMul_int, qConvI_int, qLenL_sl, qLenL_hsl, qLenS_str, foldO, min2_int, max2_int, qSame_refl, Nat.zero_add, List.getElem?_cons_zero, List.getElem?_cons_succ, List.nil_append, List.cons_append, List.append_nil, one_bool, one_int, one_str, one_nilp, one_ptr, one_sl, one_hsl, one_map, one_fn, List.length_cons, List.length_nil, List.set_cons_zero, List.set_cons_succ, Nat.reduceLT, Nat.reduceAdd, qG_un, p0, p1, beq_self_eq_true, qEql_str] <;> simpa using q
  have n1 : (kind == 1) = false := by simpa using k1
  by_cases k2 : kind = 2
  · subst k2
    have hr : rightF (d + 1) (.mk 2 s ns l) = (decide (ns = []) && decide (l = []) && (decide (s = sT) || decide (s = sF))) := rfl
    rw [hr] at q
    generalize (decide (ns = []) && decide (l = [])) = bb at *
    (first | apply bare | refine bare _ ?_ _ _ _ _ _ _ _ _ _ _ _ _ _ _ _ _ _ _ _ _)
    intro x0 x6 x7 x9 x11 x23 x24 x32 x45 x65 x73 x83 x84 x103 x105 x106 x107 x108 x115
    have hT : decide (s = [116, 114, 117, 101]) = decide (s = sT) := rfl
    have hF : decide (s = [102, 97, 108, 115, 101]) = decide (s = sF) := rfl
    cases bb with
    | false =>
      simp -implicitDefEqProofs only [r45_4, r45_6, r45_8, r45_9, opn_z, opn_s, sel_z, sel_s, qCd_eq, qIf_true, qIf_false, qFn_eq, qBl_eq, qO_some, qRes_val, qHp_some, qPick_true, qPick_false, qG_tt, qG_ff, qG_tf, qG_ft, cellsK_some, qLd_vptr, qLdA_vptr, qFa_ptr, qFa_vptr, qNc_ptr, qNc_vptr, qNc_fn, qNot_bool, qExt_tup, qCallV_fn, qLss_int, qLeq_int, qGtr_int, qGeq_int, qEql_int, qNeq_int, qAdd_int, qSub_int, qMul_int, qConvI_int, qLenL_sl, qLenL_hsl, qLenS_str, foldO, min2_int, max2_int, qSame_refl, Nat.zero_add, List.getElem?_cons_zero, List.getElem?_cons_succ, List.nil_append, List.cons_append, List.append_nil, one_bool, one_int, one_str, one_nilp, one_ptr, one_sl, one_hsl, one_map, one_fn, List.length_cons, List.length_nil, List.set_cons_zero, List.set_cons_succ, Nat.reduceLT, Nat.reduceAdd, qG_un, p0, p1, n1, beq_self_eq_true, qEql_str]
      simpa using q
    | true =>
      cases hst : decide (s = sT) with
      | true =>
        rw [hst] at q
        simp -implicitDefEqProofs only [r45_4, r45_6, r45_8, r45_9, opn_z, opn_s, sel_z, sel_s, qCd_eq, qIf_true, qIf_false, qFn_eq, qBl_eq, qO_some, qRes_val, qHp_some, qPick_true, qPick_false, qG_tt, qG_ff, qG_tf, qG_ft, cellsK_some, qLd_vptr, qLdA_vptr, qFa_ptr, qFa_vptr, qNc_ptr, qNc_vptr, qNc_fn, qNot_bool, qExt_tup, qCallV_fn, qLss_int, qLeq_int, qGtr_int, qGeq_int, qEql_int, qNeq_int, qAdd_int, qSub_int, qMul_int, qConvI_int, qLenL_sl, qLenL_hsl, qLenS_str, foldO, min2_int, max2_int, qSame_refl, Nat.zero_add, List.getElem?_cons_zero, List.getElem?_cons_succ, List.nil_append, List.cons_append, List.append_nil, one_bool, one_int, one_str, one_nilp, one_ptr, one_sl, one_hsl, one_map, one_fn, List.length_cons, List.length_nil, List.set_cons_zero, List.set_cons_succ, Nat.reduceLT, Nat.reduceAdd, qG_un, p0, p1, n1, beq_self_eq_true, qEql_str, hT, hst]
        simpa using q
      | false =>
        rw [hst] at q
        simp -implicitDefEqProofs only [r45_4, r45_6, r45_8, r45_9, opn_z, opn_s, sel_z, sel_s, qCd_eq, qIf_true, qIf_false, qFn_eq, qBl_eq, qO_some, qRes_val, qHp_some, qPick_true, qPick_false, qG_tt, qG_ff, qG_tf, qG_ft, cellsK_some, qLd_vptr, qLdA_vptr, qFa_ptr, qFa_vptr, qNc_ptr, qNc_vptr, qNc_fn, qNot_bool, qExt_tup, qCallV_fn, qLss_int, qLeq_int, qGtr_int, qGeq_int, qEql_int, qNeq_int, qAdd_int, qSub_int, qMul_int, qConvI_int, qLenL_sl, qLenL_hsl, qLenS_str, foldO, min2_int, max2_int, qSame_refl, Nat.zero_add, List.getElem?_cons_zero, List.getElem?_cons_succ, List.nil_append, List.cons_append, List.append_nil, one_bool, one_int, one_str, one_nilp, one_ptr, one_sl, one_hsl, one_map, one_fn, List.length_cons, List.length_nil, List.set_cons_zero, List.set_cons_succ, Nat.reduceLT, Nat.reduceAdd, qG_un, p0, p1, n1, beq_self_eq_true, qEql_str, hT, hst, hF]
        simpa using q
  have n2 : (kind == 2) = false := by simpa using k2
  have e15 := fun H => ep15 s z1 H
  have num34 : (kind = 3 ∨ kind = 4) → ∀ (x0 x6 x7 x9 x11 x23 x24 x32 x45 x65 x73 x83 x84 x103 x105 x106 x107 x108 x115 : AV), (r45_12 EP (r45_13 (fun fr H => Q (sel 3 fr) H))) [x0, .int .i64 ((d + 1 : Nat) : Int), .ptr H.nx 0, .bool false, .bool (decide (ns = []) && decide (l = [])), x6, x7, x9, x11, x23, x24, x32, x45, x65, x73, x83, x84, x103, x105, x106, x107, x108, x115] Ha := by
    intro hk x0 x6 x7 x9 x11 x23 x24 x32 x45 x65 x73 x83 x84 x103 x105 x106 x107 x108 x115
    have hr : rightF (d + 1) (.mk kind s ns l) = (decide (ns = []) && decide (l = []) && (num s).2 && ((num s).1 == decide (kind = 3))) := by
      simp only [rightF, if_neg k1, if_neg k2, if_pos hk]
    rw [hr] at q
    have h3 : (kind == 3) = decide (kind = 3) := by
      rw [Bool.eq_iff_iff]; simp
    generalize (decide (ns = []) && decide (l = [])) = bb at *
    generalize num s = nn at *
    obtain ⟨n1', n2'⟩ := nn
    cases bb <;> cases n2' <;> simp -implicitDefEqProofs only [r45_12, r45_13, opn_z, opn_s, sel_z, sel_s, qCd_eq, qIf_true, qIf_false, qFn_eq, qBl_eq, qO_some, qRes_val, qHp_some, qPick_true, qPick_false, qG_tt, qG_ff, qG_tf, qG_ft, cellsK_some, qLd_vptr, qLdA_vptr, qFa_ptr, qFa_vptr, qNc_ptr, qNc_vptr, qNc_fn, qNot_bool, qExt_tup, qCallV_fn, qLss_int, qLeq_int, qGtr_int, qGeq_int, qEql_int, qNeq_int, qAdd_int, qSub_int, qMul_int, qConvI_int, qLenL_sl, qLenL_hsl, qLenS_str, foldO, min2_int, max2_int, qSame_refl, Nat.zero_add, List.getElem?_cons_zero, List.getElem?_cons_succ, List.nil_append, List.cons_append, List.append_nil, one_bool, one_int, one_str, one_nilp, one_ptr, one_sl, one_hsl, one_map, one_fn, List.length_cons, List.length_nil, List.set_cons_zero, List.set_cons_succ, Nat.reduceLT, Nat.reduceAdd, qG_un, p0, p1, e15, h3, qEql_bool] <;> simpa using q
  by_cases k3 : kind = 3
  · have n3 : (kind == 3) = true := by simpa using k3
    (first | apply bare | refine bare _ ?_ _ _ _ _ _ _ _ _ _ _ _ _ _ _ _ _ _ _ _ _)
    intro x0 x6 x7 x9 x11 x23 x24 x32 x45 x65 x73 x83 x84 x103 x105 x106 x107 x108 x115
    simp -implicitDefEqProofs only [r45_4, r45_6, r45_8, r45_10, opn_z, opn_s, sel_z, sel_s, qCd_eq, qIf_true, qIf_false, qFn_eq, qBl_eq, qO_some, qRes_val, qHp_some, qPick_true, qPick_false, qG_tt, qG_ff, qG_tf, qG_ft, cellsK_some, qLd_vptr, qLdA_vptr, qFa_ptr, qFa_vptr, qNc_ptr, qNc_vptr, qNc_fn, qNot_bool, qExt_tup, qCallV_fn, qLss_int, qLeq_int, qGtr_int, qGeq_int, qEql_int, qNeq_int, qAdd_int, qSub_int, qMul_int, qConvI_int, qLenL_sl, qLenL_hsl, qLenS_str, foldO, min2_int, max2_int, qSame_refl, Nat.zero_add, List.getElem?_cons_zero, List.getElem?_cons_succ, List.nil_append, List.cons_append, List.append_nil, one_bool, one_int, one_str, one_nilp, one_ptr, one_sl, one_hsl, one_map, one_fn, List.length_cons, List.length_nil, List.set_cons_zero, List.set_cons_succ, Nat.reduceLT, Nat.reduceAdd, qG_un, p0, n1, n2, n3]
    (first | exact num34 (.inl k3) _ _ _ _ _ _ _ _ _ _ _ _ _ _ _ _ _ _ _ | (apply num34 (.inl k3) <;> exact Aes.undef))
  have n3 : (kind == 3) = false := by simpa using k3
  by_cases k4 : kind = 4
  · have n4 : (kind == 4) = true := by simpa using k4
    (first | apply bare | refine bare _ ?_ _ _ _ _ _ _ _ _ _ _ _ _ _ _ _ _ _ _ _ _)
    intro x0 x6 x7 x9 x11 x23 x24 x32 x45 x65 x73 x83 x84 x103 x105 x106 x107 x108 x115
    simp -implicitDefEqProofs only [r45_4, r45_6, r45_8, r45_10, r45_11, opn_z, opn_s, sel_z, sel_s, qCd_eq, qIf_true, qIf_false, qFn_eq, qBl_eq, qO_some, qRes_val, qHp_some, qPick_true, qPick_false, qG_tt, qG_ff, qG_tf, qG_ft, cellsK_some, qLd_vptr, qLdA_vptr, qFa_ptr, qFa_vptr, qNc_ptr, qNc_vptr, qNc_fn, qNot_bool, qExt_tup, qCallV_fn, qLss_int, qLeq_int, qGtr_int, qGeq_int, qEql_int, qNeq_int, qAdd_int, qSub_int, qMul_int, qConvI_int, qLenL_sl, qLenL_hsl, qLenS_str, foldO, min2_int, max2_int, qSame_refl, Nat.zero_add, List.getElem?_cons_zero, List.getElem?_cons_succ, List.nil_append, List.cons_append, List.append_nil, one_bool, one_int, one_str, one_nilp, one_ptr, one_sl, one_hsl, one_map, one_fn, List.length_cons, List.length_nil, List.set_cons_zero, List.set_cons_succ, Nat.reduceLT, Nat.reduceAdd, qG_un, p0, n1, n2, n3, n4]
    (first | exact num34 (.inr k4) _ _ _ _ _ _ _ _ _ _ _ _ _ _ _ _ _ _ _ | (apply num34 (.inr k4) <;> exact Aes.undef))
  have n4 : (kind == 4) = false := by simpa using k4
  have h34 : ¬ (kind = 3 ∨ kind = 4) := by omega
  by_cases k5 : kind = 5
  · have n5 : (kind == 5) = true := by simpa using k5
    have hr : rightF (d + 1) (.mk kind s ns l) = (decide (ns = []) && decide (l = []) && Lib.validD s) := by simp only [rightF, if_neg k1, if_neg k2, if_neg h34, if_pos k5]
    rw [hr] at q
    have e30 := fun H => ep30 s z1 H
    generalize (decide (ns = []) && decide (l = [])) = bb at *
    (first | apply bare | refine bare _ ?_ _ _ _ _ _ _ _ _ _ _ _ _ _ _ _ _ _ _ _ _)
    intro x0 x6 x7 x9 x11 x23 x24 x32 x45 x65 x73 x83 x84 x103 x105 x106 x107 x108 x115
    cases bb <;> simp -implicitDefEqProofs only [r45_4, r45_6, r45_8, r45_10, r45_11, r45_14, r45_15, opn_z, opn_s, sel_z, sel_s, qCd_eq, qIf_true, qIf_false, qFn_eq, qBl_eq, qO_some, qRes_val, qHp_some, qPick_true, qPick_false, qG_tt, qG_ff, qG_tf, qG_ft, cellsK_some, qLd_vptr, qLdA_vptr, qFa_ptr, qFa_vptr, qNc_ptr, qNc_vptr, qNc_fn, qNot_bool, qExt_tup, qCallV_fn, qLss_int, qLeq_int, qGtr_int, qGeq_int, qEql_int, qNeq_int, qAdd_int, qSub_int, qMul_int, qConvI_int, qLenL_sl, qLenL_hsl, qLenS_str, foldO, min2_int, max2_int, qSame_refl, Nat.zero_add, List.getElem?_cons_zero, List.getElem?_cons_succ, List.nil_append, List.cons_append, List.append_nil, one_bool, one_int, one_str, one_nilp, one_ptr, one_sl, one_hsl, one_map, one_fn, List.length_cons, List.length_nil, List.set_cons_zero, List.set_cons_succ, Nat.reduceLT, Nat.reduceAdd, qG_un, p0, p1, n1, n2, n3, n4, n5, e30] <;> simpa using q
  have n5 : (kind == 5) = false := by simpa using k5
  have go : rightF (d + 1) (.mk kind s ns l) = l.all (rightF d) → ∀ H', Kp H H' (fun _ => False) → H'.get H.nx = some (.cells [.int .i64 kind, .str s, nv, lv]) → ∀ (x0 x5 x6 x7 x9 x11 x23 x24 x32 x45 x65 x73 x83 x84 x103 x105 x106 x107 x108 x115 : AV),
      (r45_22 (qLoop (l45_5 EP (r45_28 (fun fr H => Q (sel 3 fr) H)) (fun fr H => Q (sel 3 fr) H)))) [x0, .int .i64 ((d + 1 : Nat) : Int), .ptr H.nx 0, .bool false, x5, x6, x7, x9, x11, x23, x24, x32, x45, x65, x73, x83, x84, x103, x105, x106, x107, x108, x115] H' := by
    intro hr H' kp' hg' x0 x5 x6 x7 x9 x11 x23 x24 x32 x45 x65 x73 x83 x84 x103 x105 x106 x107 x108 x115
    haveI := kp'.fn
    have p3' := fun k => ld1 (R := Prop) hg' 3 _ rfl k
    have e2' := fun k => (hL.kp kp').len k
    rw [hE.len] at e2'
    simp -implicitDefEqProofs only [r45_22, opn_z, opn_s, sel_z, sel_s, qCd_eq, qIf_true, qIf_false, qFn_eq, qBl_eq, qO_some, qRes_val, qHp_some, qPick_true, qPick_false, qG_tt, qG_ff, qG_tf, qG_ft, cellsK_some, qLd_vptr, qLdA_vptr, qFa_ptr, qFa_vptr, qNc_ptr, qNc_vptr, qNc_fn, qNot_bool, qExt_tup, qCallV_fn, qLss_int, qLeq_int, qGtr_int, qGeq_int, qEql_int, qNeq_int, qAdd_int, qSub_int, qMul_int, qConvI_int, qLenL_sl, qLenL_hsl, qLenS_str, foldO, min2_int, max2_int, qSame_refl, Nat.zero_add, List.getElem?_cons_zero, List.getElem?_cons_succ, List.nil_append, List.cons_append, List.append_nil, one_bool, one_int, one_str, one_nilp, one_ptr, one_sl, one_hsl, one_map, one_fn, List.length_cons, List.length_nil, List.set_cons_zero, List.set_cons_succ, Nat.reduceLT, Nat.reduceAdd, qG_un, p3', e2']
    (first
      | exact right_loop d hd ih hE z5 z4 hL _ _ (fun ha H'' k'' x0 x1 x2 x5 x6 x7 x9 x11 x23 x24 x32 x45 x65 x73 x83 x84 x103 x105 x106 x107 x108 x115 => by have := hQ H'' k''; rw [hr, ha] at this; exact this)
          (fun ha H'' k'' x0 x1 x2 x4 x5 x6 x7 x9 x11 x23 x24 x32 x45 x65 x73 x83 x84 x103 x105 x106 x107 x108 x115 => by have := hQ H'' k''; rw [hr, ha] at this; simp -implicitDefEqProofs only [r45_28, opn_z, opn_s, sel_z, sel_s, qCd_eq, qIf_true, qIf_false, qFn_eq, qBl_eq, qO_some, qRes_val, qHp_some, qPick_true, qPick_false, qG_tt, qG_ff, qG_tf, qG_ft, cellsK_some, qLd_vptr, qLdA_vptr, qFa_ptr, qFa_vptr, qNc_ptr, qNc_vptr, qNc_fn, qNot_bool, qExt_tup, qCallV_fn, qLss_int, qLeq_int, qGtr_int, qGeq_int, qEql_int, qNeq_int, qAdd_int, qSub_int, qMul_int, qConvI_int, qLenL_sl, qLenL_hsl, qLenS_str, foldO, min2_int, max2_int, qSame_refl, Nat.zero_add, List.getElem?_cons_zero, List.getElem?_cons_succ, List.nil_append, List.cons_append, List.append_nil, one_bool, one_int, one_str, one_nilp, one_ptr, one_sl, one_hsl, one_map, one_fn, List.length_cons, List.length_nil, List.set_cons_zero, List.set_cons_succ, Nat.reduceLT, Nat.reduceAdd, qG_un]; exact this) kp' _ _ _ _ _ _ _ _ _ _ _ _ _ _ _ _ _ _ _)
  by_cases k7 : kind = 7
  · have n7 : (kind == 7) = true := by simpa using k7
    have hr : rightF (d + 1) (.mk kind s ns l) = (decide (s = []) && decide (ns = []) && l.all (rightF d)) := by simp only [rightF, if_neg k1, if_neg k2, if_neg h34, if_neg k5, if_pos k7]
    (first | apply bare | refine bare _ ?_ _ _ _ _ _ _ _ _ _ _ _ _ _ _ _ _ _ _ _ _)
    intro x0 x6 x7 x9 x11 x23 x24 x32 x45 x65 x73 x83 x84 x103 x105 x106 x107 x108 x115
    cases hs : decide (s = []) with
    | false =>
      rw [hr, hs] at q
      simp -implicitDefEqProofs only [r45_4, r45_6, r45_8, r45_10, r45_11, r45_14, r45_16, r45_17, r45_18, opn_z, opn_s, sel_z, sel_s, qCd_eq, qIf_true, qIf_false, qFn_eq, qBl_eq, qO_some, qRes_val, qHp_some, qPick_true, qPick_false, qG_tt, qG_ff, qG_tf, qG_ft, cellsK_some, qLd_vptr, qLdA_vptr, qFa_ptr, qFa_vptr, qNc_ptr, qNc_vptr, qNc_fn, qNot_bool, qExt_tup, qCallV_fn, qLss_int, qLeq_int, qGtr_int, qGeq_int, qEql_int, qNeq_int, qAdd_int, qSub_int, qMul_int, qConvI_int, qLenL_sl, qLenL_hsl, qLenS_str, foldO, min2_int, max2_int, qSame_refl, Nat.zero_add, List.getElem?_cons_zero, List.getElem?_cons_succ, List.nil_append, List.cons_append, List.append_nil, one_bool, one_int, one_str, one_nilp, one_ptr, one_sl, one_hsl, one_map, one_fn, List.length_cons, List.length_nil, List.set_cons_zero, List.set_cons_succ, Nat.reduceLT, Nat.reduceAdd, qG_un, p0, p1, p2, n1, n2, n3, n4, n5, n7, qNeq_str, hs, Bool.not_false]
      exact q
    | true =>
      cases hn : decide (ns = []) with
      | false =>
        rw [hr, hs, hn] at q
        rw [hn] at b1
        simp -implicitDefEqProofs only [r45_4, r45_6, r45_8, r45_10, r45_11, r45_14, r45_16, r45_17, r45_18, opn_z, opn_s, sel_z, sel_s, qCd_eq, qIf_true, qIf_false, qFn_eq, qBl_eq, qO_some, qRes_val, qHp_some, qPick_true, qPick_false, qG_tt, qG_ff, qG_tf, qG_ft, cellsK_some, qLd_vptr, qLdA_vptr, qFa_ptr, qFa_vptr, qNc_ptr, qNc_vptr, qNc_fn, qNot_bool, qExt_tup, qCallV_fn, qLss_int, qLeq_int, qGtr_int, qGeq_int, qEql_int, qNeq_int, qAdd_int, qSub_int, qMul_int, qConvI_int, qLenL_sl, qLenL_hsl, qLenS_str, foldO, min2_int, max2_int, qSame_refl, Nat.zero_add, List.getElem?_cons_zero, List.getElem?_cons_succ, List.nil_append, List.cons_append, List.append_nil, one_bool, one_int, one_str, one_nilp, one_ptr, one_sl, one_hsl, one_map, one_fn, List.length_cons, List.length_nil, List.set_cons_zero, List.set_cons_succ, Nat.reduceLT, Nat.reduceAdd, qG_un, p0, p1, p2, n1, n2, n3, n4, n5, n7, qNeq_str, hs, Bool.not_true, Bool.not_false, e1, b1]
        exact q
      | true =>
        rw [hn] at b1
        rw [hs, hn, Bool.true_and, Bool.true_and] at hr
        simp -implicitDefEqProofs only [r45_4, r45_6, r45_8, r45_10, r45_11, r45_14, r45_16, r45_17, opn_z, opn_s, sel_z, sel_s, qCd_eq, qIf_true, qIf_false, qFn_eq, qBl_eq, qO_some, qRes_val, qHp_some, qPick_true, qPick_false, qG_tt, qG_ff, qG_tf, qG_ft, cellsK_some, qLd_vptr, qLdA_vptr, qFa_ptr, qFa_vptr, qNc_ptr, qNc_vptr, qNc_fn, qNot_bool, qExt_tup, qCallV_fn, qLss_int, qLeq_int, qGtr_int, qGeq_int, qEql_int, qNeq_int, qAdd_int, qSub_int, qMul_int, qConvI_int, qLenL_sl, qLenL_hsl, qLenS_str, foldO, min2_int, max2_int, qSame_refl, Nat.zero_add, List.getElem?_cons_zero, List.getElem?_cons_succ, List.nil_append, List.cons_append, List.append_nil, one_bool, one_int, one_str, one_nilp, one_ptr, one_sl, one_hsl, one_map, one_fn, List.length_cons, List.length_nil, List.set_cons_zero, List.set_cons_succ, Nat.reduceLT, Nat.reduceAdd, qG_un, p0, p1, p2, n1, n2, n3, n4, n5, n7, qNeq_str, hs, Bool.not_true, e1, b1]
        (first | exact go hr Ha kp g0 _ _ _ _ _ _ _ _ _ _ _ _ _ _ _ _ _ _ _ _ | (apply go hr Ha kp g0 <;> exact Aes.undef))
  have n7 : (kind == 7) = false := by simpa using k7
  by_cases k8 : kind = 8
  · have n8 : (kind == 8) = true := by simpa using k8
    have hr : rightF (d + 1) (.mk kind s ns l) = (decide (s = []) && decide (ns.length = l.length) && nmF [] ns && l.all (rightF d)) := by simp only [rightF, if_neg k1, if_neg k2, if_neg h34, if_neg k5, if_neg k7, if_pos k8]
    (first | apply bare | refine bare _ ?_ _ _ _ _ _ _ _ _ _ _ _ _ _ _ _ _ _ _ _ _)
    intro x0 x6 x7 x9 x11 x23 x24 x32 x45 x65 x73 x83 x84 x103 x105 x106 x107 x108 x115
    cases hs : decide (s = []) with
    | false =>
      rw [hr, hs] at q
      simp -implicitDefEqProofs only [r45_4, r45_6, r45_8, r45_10, r45_11, r45_14, r45_16, r45_19, r45_20, r45_21, opn_z, opn_s, sel_z, sel_s, qCd_eq, qIf_true, qIf_false, qFn_eq, qBl_eq, qO_some, qRes_val, qHp_some, qPick_true, qPick_false, qG_tt, qG_ff, qG_tf, qG_ft, cellsK_some, qLd_vptr, qLdA_vptr, qFa_ptr, qFa_vptr, qNc_ptr, qNc_vptr, qNc_fn, qNot_bool, qExt_tup, qCallV_fn, qLss_int, qLeq_int, qGtr_int, qGeq_int, qEql_int, qNeq_int, qAdd_int, qSub_int, qMul_int, qConvI_int, qLenL_sl, qLenL_hsl, qLenS_str, foldO, min2_int, max2_int, qSame_refl, Nat.zero_add, List.getElem?_cons_zero, List.getElem?_cons_succ, List.nil_append, List.cons_append, List.append_nil, one_bool, one_int, one_str, one_nilp, one_ptr, one_sl, one_hsl, one_map, one_fn, List.length_cons, List.length_nil, List.set_cons_zero, List.set_cons_succ, Nat.reduceLT, Nat.reduceAdd, qG_un, p0, p1, p2, p3, n1, n2, n3, n4, n5, n7, n8, qNeq_str, hs, Bool.not_false]
      exact q
    | true =>
      have hll : ((ns.length : Int) == (l.length : Int)) = decide (ns.length = l.length) := by
        rw [Bool.eq_iff_iff]; simp; omega
      cases hn : decide (ns.length = l.length) with
      | false =>
        rw [hr, hs, hn] at q
        rw [hn] at hll
        simp -implicitDefEqProofs only [r45_4, r45_6, r45_8, r45_10, r45_11, r45_14, r45_16, r45_19, r45_20, r45_21, opn_z, opn_s, sel_z, sel_s, qCd_eq, qIf_true, qIf_false, qFn_eq, qBl_eq, qO_some, qRes_val, qHp_some, qPick_true, qPick_false, qG_tt, qG_ff, qG_tf, qG_ft, cellsK_some, qLd_vptr, qLdA_vptr, qFa_ptr, qFa_vptr, qNc_ptr, qNc_vptr, qNc_fn, qNot_bool, qExt_tup, qCallV_fn, qLss_int, qLeq_int, qGtr_int, qGeq_int, qEql_int, qNeq_int, qAdd_int, qSub_int, qMul_int, qConvI_int, qLenL_sl, qLenL_hsl, qLenS_str, foldO, min2_int, max2_int, qSame_refl, Nat.zero_add, List.getElem?_cons_zero, List.getElem?_cons_succ, List.nil_append, List.cons_append, List.append_nil, one_bool, one_int, one_str, one_nilp, one_ptr, one_sl, one_hsl, one_map, one_fn, List.length_cons, List.length_nil, List.set_cons_zero, List.set_cons_succ, Nat.reduceLT, Nat.reduceAdd, qG_un, p0, p1, p2, p3, n1, n2, n3, n4, n5, n7, n8, qNeq_str, hs, Bool.not_true, Bool.not_false, e1, e2, hll]
        exact q
      | true =>
        rw [hn] at hll
        obtain ⟨Hc, e73, kpc⟩ := ep73 hN' z2 z3
        haveI := kpc.fn
        have kp2 : Kp H Hc (fun _ => False) := kp.trans kpc (fun _ _ h => h)
        have gc : Hc.get H.nx = some (.cells [.int .i64 kind, .str s, nv, lv]) := (kpc.keep _ (lt_i g0) (fun h => h)).trans g0
        cases hnm : nmF [] ns with
        | false =>
          have q2 := hQ Hc kp2
          rw [hr, hs, hn, hnm] at q2
          rw [hnm] at e73
          simp -implicitDefEqProofs only [r45_4, r45_6, r45_8, r45_10, r45_11, r45_14, r45_16, r45_19, r45_20, r45_21, opn_z, opn_s, sel_z, sel_s, qCd_eq, qIf_true, qIf_false, qFn_eq, qBl_eq, qO_some, qRes_val, qHp_some, qPick_true, qPick_false, qG_tt, qG_ff, qG_tf, qG_ft, cellsK_some, qLd_vptr, qLdA_vptr, qFa_ptr, qFa_vptr, qNc_ptr, qNc_vptr, qNc_fn, qNot_bool, qExt_tup, qCallV_fn, qLss_int, qLeq_int, qGtr_int, qGeq_int, qEql_int, qNeq_int, qAdd_int, qSub_int, qMul_int, qConvI_int, qLenL_sl, qLenL_hsl, qLenS_str, foldO, min2_int, max2_int, qSame_refl, Nat.zero_add, List.getElem?_cons_zero, List.getElem?_cons_succ, List.nil_append, List.cons_append, List.append_nil, one_bool, one_int, one_str, one_nilp, one_ptr, one_sl, one_hsl, one_map, one_fn, List.length_cons, List.length_nil, List.set_cons_zero, List.set_cons_succ, Nat.reduceLT, Nat.reduceAdd, qG_un, p0, p1, p2, p3, n1, n2, n3, n4, n5, n7, n8, qNeq_str, hs, Bool.not_true, Bool.not_false, e1, e2, hll, e73]
          exact q2
        | true =>
          rw [hs, hn, hnm, Bool.true_and, Bool.true_and, Bool.true_and] at hr
          rw [hnm] at e73
          simp -implicitDefEqProofs only [r45_4, r45_6, r45_8, r45_10, r45_11, r45_14, r45_16, r45_19, r45_20, opn_z, opn_s, sel_z, sel_s, qCd_eq, qIf_true, qIf_false, qFn_eq, qBl_eq, qO_some, qRes_val, qHp_some, qPick_true, qPick_false, qG_tt, qG_ff, qG_tf, qG_ft, cellsK_some, qLd_vptr, qLdA_vptr, qFa_ptr, qFa_vptr, qNc_ptr, qNc_vptr, qNc_fn, qNot_bool, qExt_tup, qCallV_fn, qLss_int, qLeq_int, qGtr_int, qGeq_int, qEql_int, qNeq_int, qAdd_int, qSub_int, qMul_int, qConvI_int, qLenL_sl, qLenL_hsl, qLenS_str, foldO, min2_int, max2_int, qSame_refl, Nat.zero_add, List.getElem?_cons_zero, List.getElem?_cons_succ, List.nil_append, List.cons_append, List.append_nil, one_bool, one_int, one_str, one_nilp, one_ptr, one_sl, one_hsl, one_map, one_fn, List.length_cons, List.length_nil, List.set_cons_zero, List.set_cons_succ, Nat.reduceLT, Nat.reduceAdd, qG_un, p0, p1, p2, p3, n1, n2, n3, n4, n5, n7, n8, qNeq_str, hs, Bool.not_true, Bool.not_false, e1, e2, hll, e73]
          (first | exact go hr Hc kp2 gc _ _ _ _ _ _ _ _ _ _ _ _ _ _ _ _ _ _ _ _ | (apply go hr Hc kp2 gc <;> exact Aes.undef))
  have n8 : (kind == 8) = false := by simpa using k8
  have hr : rightF (d + 1) (.mk kind s ns l) = false := by simp only [rightF, if_neg k1, if_neg k2, if_neg h34, if_neg k5, if_neg k7, if_neg k8]
  rw [hr] at q
  (first | apply bare | refine bare _ ?_ _ _ _ _ _ _ _ _ _ _ _ _ _ _ _ _ _ _ _ _)
  intro x0 x6 x7 x9 x11 x23 x24 x32 x45 x65 x73 x83 x84 x103 x105 x106 x107 x108 x115
  simp -implicitDefEqProofs only [r45_4, r45_5, r45_6, r45_8, r45_10, r45_11, r45_14, r45_16, r45_19, opn_z, opn_s, sel_z, sel_s, qCd_eq, qIf_true, qIf_false, qFn_eq, qBl_eq, qO_some, qRes_val, qHp_some, qPick_true, qPick_false, qG_tt, qG_ff, qG_tf, qG_ft, cellsK_some, qLd_vptr, qLdA_vptr, qFa_ptr, qFa_vptr, qNc_ptr, qNc_vptr, qNc_fn, qNot_bool, qExt_tup, qCallV_fn, qLss_int, qLeq_int, qGtr_int, qGeq_int, qEql_int, qNeq_int, qAdd_int, qSub_int, qMul_int, qConvI_int, qLenL_sl, qLenL_hsl, qLenS_str, foldO, min2_int, max2_int, qSame_refl, Nat.zero_add, List.getElem?_cons_zero, List.getElem?_cons_succ, List.nil_append, List.cons_append, List.append_nil, one_bool, one_int, one_str, one_nilp, one_ptr, one_sl, one_hsl, one_map, one_fn, List.length_cons, List.length_nil, List.set_cons_zero, List.set_cons_succ, Nat.reduceLT, Nat.reduceAdd, qG_un, p0, n1, n2, n3, n4, n5, n7, n8]
  exact q

theorem ep45 : ∀ d, d < 1000 → RightOk d := by
  intro d
  induction d with
  | zero =>
    intro _ v r hv hsz H
    obtain ⟨a1, a2⟩ := EV.kill _ _ hv
    refine uo_form e45 xf45 rfl rfl (by simp only [AV.kills, AV.kill, AV.frees, AV.free, a2]; rfl) rfl ?_ H
    simp only [AV.kills, AV.kill]
    cases v with
    | mk k s ns l =>
    obtain ⟨t1, t2, rows, h1, h2⟩ := a1
    rw [h1]
    have bx1 : ∀ q : AV → AH → Prop, qBox (.agg [.int .i64 k, .str s, .sl (strRows ns) t1, .sl rows t2]) H0 q = q (.ptr 0 0) (H0.push (.cells [.int .i64 k, .str s, .sl (strRows ns) t1, .sl rows t2])) := fun q => by rw [qBox_i]; rfl
    have h0 : decide (((0 : Nat) : Int) < 1) = true := rfl
    simp -implicitDefEqProofs only [c45, r45_0, r45_1, r45_2, opn_z, opn_s, sel_z, sel_s, qCd_eq, qIf_true, qIf_false, qFn_eq, qBl_eq, qO_some, qRes_val, qHp_some, qPick_true, qPick_false, qG_tt, qG_ff, qG_tf, qG_ft, cellsK_some, qLd_vptr, qLdA_vptr, qFa_ptr, qFa_vptr, qNc_ptr, qNc_vptr, qNc_fn, qNot_bool, qExt_tup, qCallV_fn, qLss_int, qLeq_int, qGtr_int, qGeq_int, qEql_int, qNeq_int, qAdd_int, qSub_int, qMul_int, qConvI_int, qLenL_sl, qLenL_hsl, qLenS_str, foldO, min2_int, max2_int, qSame_refl, Nat.zero_add, List.getElem?_cons_zero, List.getElem?_cons_succ, List.nil_append, List.cons_append, List.append_nil, one_bool, one_int, one_str, one_nilp, one_ptr, one_sl, one_hsl, one_map, one_fn, List.length_cons, List.length_nil, List.set_cons_zero, List.set_cons_succ, Nat.reduceLT, Nat.reduceAdd, qG_un, bx1, h0]
    rfl
  | succ d ih =>
    intro hd v r hv hsz H
    obtain ⟨a1, a2⟩ := EV.kill _ _ hv
    refine uo_form e45 xf45 rfl rfl (by simp only [AV.kills, AV.kill, AV.frees, AV.free, a2]; rfl) rfl ?_ H
    simp only [AV.kills, AV.kill]
    cases v with
    | mk k s ns l =>
    obtain ⟨t1, t2, rows, h1, h2⟩ := a1
    rw [h1]
    exact right_walk d (by omega) (ih (by omega)) (.sl t1) (.sl t2) h2 hsz _ (fun H' _ => rfl)

/-- of a value whose lists lie in the heap -/
theorem ep45h (d : Nat) (hd : d < 999) {H : AH} [IsFn H] {kind : Int} {s : Str} {ns : List Str} {l : List Val} {nv : AV} {i len cap : Nat} {g : Bool} {rows : List (List AV)} (hN : Rd H 1 (strRows ns) nv) (hL : Rd H 4 rows (.hsl i 0 len cap 4 g)) (hE : EVs l rows)
    (hsz : vsz (.mk kind s ns l)) : ∃ H', EP 45 [.agg [.int .i64 kind, .str s, nv, .hsl i 0 len cap 4 g], .int .i64 ((d + 1 : Nat) : Int)] H = some (.val (.bool (rightF (d + 1) (.mk kind s ns l))) H') ∧ Kp H H' (fun _ => False) := by
  have hfr : (PS 45 && AV.frees (AV.kills [.agg [.int .i64 kind, .str s, nv, .hsl i 0 len cap 4 g], .int .i64 ((d + 1 : Nat) : Int)])) = false := by
    simp only [AV.kills, AV.kill, AV.frees, AV.free, Bool.and_false, Bool.false_and]
  obtain ⟨v, H', h1, h2, h3⟩ := ao_form (al := [.agg [.int .i64 kind, .str s, nv, .hsl i 0 len cap 4 g], .int .i64 ((d + 1 : Nat) : Int)]) (H := H) e45 xf45 rfl hfr (Q := fun v H' => v = .bool (rightF (d + 1) (.mk kind s ns l)) ∧ Kp H H' (fun _ => False))
    (right_walk d (by omega) (ep45 d (by omega)) hN hL hE hsz _ (fun H' kp => ⟨rfl, kp⟩))
  exact ⟨H', h1.trans (by rw [h2]), h3⟩
end T
set_option linter.unusedVariables false
set_option linter.unusedSimpArgs false
set_option maxRecDepth 10000
namespace T
open Go Go.Aes Go.Proofs

/-! ### the values that the laws make -/
def iRows (ch : List Int) : List (List AV) := ch.map fun z => [.int .i64 z]
theorem iRows_len (ch : List Int) : (iRows ch).length = ch.length := by simp [iRows]
theorem iRows_kill (l : List Int) : AV.killss (iRows l) = iRows l := by
  rw [killss_map]; simp [iRows, AV.kill]
theorem iRows_free (l : List Int) : AV.freess (iRows l) = true := by
  rw [freess_all]
  intro r hr a ha
  obtain ⟨y, _, rfl⟩ := List.mem_map.1 hr
  simp at ha; subst ha; rfl

def null : Val := .mk 1 [] [] []
def bools : List Str := [sT, sF]
def whole : List Str := [[48], [45,53], [49,50], [50,49,52,55,52,56,51,54,52,55], [57,57,57,57,57,57,57,57,57,57,57]]
def broken : List Str := [[49,46,53], [48,101,49], [45,48,46,50,53,69,45,51], [49,101,43,57]]
def texts : List Str := [[], [97], [34], [195,169,10], [120,32,121]]
def leaf (c : Nat) : Val :=
  if c % 7 = 0 then .mk 2 (bools.getD (c / 7 % 2) []) [] []
  else if c % 7 = 1 then .mk 3 (whole.getD (c / 7 % 5) []) [] []
  else if c % 7 = 2 then .mk 4 (broken.getD (c / 7 % 4) []) [] []
  else if c % 7 = 3 then .mk 5 (texts.getD (c / 7 % 5) []) [] []
  else null
def kids (f : Nat → Val × Nat) : Nat → Nat → List Val × Nat
  | 0, i => ([], i)
  | m + 1, i => ((f i).1 :: (kids f m (f i).2).1, (kids f m (f i).2).2)
def nms : Nat → List Str
  | 0 => []
  | m + 1 => (110 :: decs (m + 1)) :: nms m
def nmsB (b : Bool) (m : Nat) : List Str := bif b then nms m else []
def tree (c : Nat) (f : Nat → Val × Nat) (i : Nat) : Val × Nat :=
  (.mk (7 + (c / 7 % 2 : Nat)) [] (nmsB (c / 7 % 2 == 1) (c / 14 % 4)) (kids f (c / 14 % 4) i).1, (kids f (c / 14 % 4) i).2)
def chz (z : Int) : Nat := (z % 1048576).toNat
def made : Nat → List Int → Nat → Val × Nat
  | 0, ch, i => match ch[i]? with
    | none => (null, i)
    | some z => (leaf (chz z), i + 1)
  | d + 1, ch, i => match ch[i]? with
    | none => (null, i)
    | some z => if chz z % 7 = 4 ∧ d ≠ 0 then tree (chz z) (made d ch) (i + 1) else (leaf (chz z), i + 1)

theorem made_none {ch : List Int} {i : Nat} (h : ch.length ≤ i) (D : Nat) : made D ch i = (null, i) := by
  have : ch[i]? = none := by simp; omega
  cases D <;> simp [made, this]
theorem made_leaf {ch : List Int} {i : Nat} {z : Int} (h : ch[i]? = some z) {D : Nat} (hc : chz z % 7 ≠ 4 ∨ D ≤ 1) : made D ch i = (leaf (chz z), i + 1) := by
  cases D with
  | zero => simp [made, h]
  | succ d =>
    simp only [made, h]
    rw [if_neg (by omega)]
theorem made_tree {ch : List Int} {i : Nat} {z : Int} (h : ch[i]? = some z) {d : Nat} (hc : chz z % 7 = 4) (hd : d ≠ 0) : made (d + 1) ch i = tree (chz z) (made d ch) (i + 1) := by
  simp only [made, h]
  rw [if_pos ⟨hc, hd⟩]
theorem kids_le {f : Nat → Val × Nat} {N : Nat} (hf : ∀ i, i ≤ N → i ≤ (f i).2 ∧ (f i).2 ≤ N) : ∀ m i, i ≤ N → i ≤ (kids f m i).2 ∧ (kids f m i).2 ≤ N
  | 0, i, hi => ⟨Nat.le_refl _, hi⟩
  | m + 1, i, hi => by
    have h1 := hf i hi
    have h2 := kids_le hf m (f i).2 h1.2
    simp only [kids]
    omega
theorem made_le {ch : List Int} : ∀ D i, i ≤ ch.length → i ≤ (made D ch i).2 ∧ (made D ch i).2 ≤ ch.length := by
  intro D
  induction D with
  | zero =>
    intro i hi
    rcases Nat.lt_or_ge i ch.length with h | h
    · rw [made_leaf (List.getElem?_eq_getElem h) (.inr (by omega))]; exact ⟨by simp, h⟩
    · rw [made_none h]; exact ⟨Nat.le_refl _, hi⟩
  | succ d ih =>
    intro i hi
    rcases Nat.lt_or_ge i ch.length with h | h
    · by_cases hc : chz ch[i] % 7 ≠ 4 ∨ d + 1 ≤ 1
      · rw [made_leaf (List.getElem?_eq_getElem h) hc]; exact ⟨by simp, h⟩
      · rw [made_tree (List.getElem?_eq_getElem h) (by omega) (by omega)]
        have := kids_le ih (chz ch[i] / 14 % 4) (i + 1) h
        simp only [tree]
        omega
    · rw [made_none h]; exact ⟨Nat.le_refl _, hi⟩

/-! right, and small -/
theorem leaf_right (c e : Nat) : rightF (e + 1) (leaf c) = true ∧ vsz (leaf c) := by
  have f0 : ∀ a : Nat, a % 2 < 2 := fun a => Nat.mod_lt _ (by omega)
  have f1 : ∀ a : Nat, a % 5 < 5 := fun a => Nat.mod_lt _ (by omega)
  have f2 : ∀ a : Nat, a % 4 < 4 := fun a => Nat.mod_lt _ (by omega)
  have nil : ∀ (k : Int) (s : Str), s.length < 1000000000000 → vsz (.mk k s [] []) := fun k s hs => ⟨hs, by simp, fun n hn => (by cases hn), by simp, trivial⟩
  unfold leaf
  split
  · match c / 7 % 2, f0 (c / 7) with
    | 0, _ => exact ⟨by kernel_rfl, nil _ _ (by decide)⟩
    | 1, _ => exact ⟨by kernel_rfl, nil _ _ (by decide)⟩
  split
  · match c / 7 % 5, f1 (c / 7) with
    | 0, _ => exact ⟨by kernel_rfl, nil _ _ (by decide)⟩
    | 1, _ => exact ⟨by kernel_rfl, nil _ _ (by decide)⟩
    | 2, _ => exact ⟨by kernel_rfl, nil _ _ (by decide)⟩
    | 3, _ => exact ⟨by kernel_rfl, nil _ _ (by decide)⟩
    | 4, _ => exact ⟨by kernel_rfl, nil _ _ (by decide)⟩
  split
  · match c / 7 % 4, f2 (c / 7) with
    | 0, _ => exact ⟨by kernel_rfl, nil _ _ (by decide)⟩
    | 1, _ => exact ⟨by kernel_rfl, nil _ _ (by decide)⟩
    | 2, _ => exact ⟨by kernel_rfl, nil _ _ (by decide)⟩
    | 3, _ => exact ⟨by kernel_rfl, nil _ _ (by decide)⟩
  split
  · match c / 7 % 5, f1 (c / 7) with
    | 0, _ => exact ⟨by kernel_rfl, nil _ _ (by decide)⟩
    | 1, _ => exact ⟨by kernel_rfl, nil _ _ (by decide)⟩
    | 2, _ => exact ⟨by kernel_rfl, nil _ _ (by decide)⟩
    | 3, _ => exact ⟨by kernel_rfl, nil _ _ (by decide)⟩
    | 4, _ => exact ⟨by kernel_rfl, nil _ _ (by decide)⟩
  · exact ⟨by kernel_rfl, nil _ _ (by decide)⟩
theorem nms_len : ∀ m, (nms m).length = m
  | 0 => rfl
  | m + 1 => by simp [nms, nms_len m]
theorem nms_ok (m : Nat) (h : m < 4) : nmF [] (nms m) = true ∧ ∀ n ∈ nms m, n.length < 1000000000000 := by
  have : ∀ m, m < 4 → ((nms m).all fun n => decide (n.length < 1000000000000)) = true := by
    intro m h
    match m, h with
    | 0, _ => rfl
    | 1, _ => rfl
    | 2, _ => rfl
    | 3, _ => rfl
  refine ⟨?_, fun n hn => of_decide_eq_true (List.all_eq_true.1 (this m h) n hn)⟩
  match m, h with
  | 0, _ => rfl
  | 1, _ => show nmF [] (nms 1) = true; kernel_rfl
  | 2, _ => show nmF [] (nms 2) = true; kernel_rfl
  | 3, _ => show nmF [] (nms 3) = true; kernel_rfl
theorem kids_len (f : Nat → Val × Nat) : ∀ m i, (kids f m i).1.length = m
  | 0, i => rfl
  | m + 1, i => by simp [kids, kids_len f m]
theorem kids_all {f : Nat → Val × Nat} {p : Val → Prop} (hf : ∀ i, p (f i).1) : ∀ m i, ∀ v ∈ (kids f m i).1, p v
  | 0, i, v, hv => by cases hv
  | m + 1, i, v, hv => by
    rcases List.mem_cons.1 hv with rfl | hv
    · exact hf i
    · exact kids_all hf m _ v hv
theorem vszs_of : ∀ {l : List Val}, (∀ v ∈ l, vsz v) → vszs l
  | [], _ => trivial
  | a :: l, h => ⟨h a (by simp), vszs_of fun v hv => h v (by simp [hv])⟩
theorem made_right (ch : List Int) : ∀ D e i, D ≤ e → rightF (e + 1) (made D ch i).1 = true ∧ vsz (made D ch i).1 := by
  intro D
  induction D with
  | zero =>
    intro e i _
    rcases Nat.lt_or_ge i ch.length with h | h
    · rw [made_leaf (List.getElem?_eq_getElem h) (.inr (by omega))]; exact leaf_right _ _
    · rw [made_none h]; exact leaf_right 4 _
  | succ d ih =>
    intro e i he
    rcases Nat.lt_or_ge i ch.length with h | h
    · by_cases hc : chz ch[i] % 7 ≠ 4 ∨ d + 1 ≤ 1
      · rw [made_leaf (List.getElem?_eq_getElem h) hc]; exact leaf_right _ _
      · rw [made_tree (List.getElem?_eq_getElem h) (by omega) (by omega)]
        obtain ⟨e, rfl⟩ : ∃ e', e = e' + 1 := ⟨e - 1, by omega⟩
        have hm : chz ch[i] / 14 % 4 < 4 := Nat.mod_lt _ (by omega)
        have hk := kids_all (f := made d ch) (p := fun v => rightF (e + 1) v = true ∧ vsz v) (fun j => ih e j (by omega)) (chz ch[i] / 14 % 4) (i + 1)
        have hl := kids_len (made d ch) (chz ch[i] / 14 % 4) (i + 1)
        have hal : (kids (made d ch) (chz ch[i] / 14 % 4) (i + 1)).1.all (rightF (e + 1)) = true := List.all_eq_true.2 fun v hv => (hk v hv).1
        have hvs : vszs (kids (made d ch) (chz ch[i] / 14 % 4) (i + 1)).1 := vszs_of fun v hv => (hk v hv).2
        obtain ⟨n1, n2⟩ := nms_ok _ hm
        simp only [tree]
        rcases (by omega : chz ch[i] / 7 % 2 = 0 ∨ chz ch[i] / 7 % 2 = 1) with hb | hb
        · rw [hb]
          refine ⟨?_, by simp, by simp [nmsB], by simp [nmsB], by rw [hl]; omega, hvs⟩
          have : rightF (e + 1 + 1) (.mk 7 [] [] (kids (made d ch) (chz ch[i] / 14 % 4) (i + 1)).1) = (true && true && (kids (made d ch) (chz ch[i] / 14 % 4) (i + 1)).1.all (rightF (e + 1))) := rfl
          rw [hal] at this
          exact this
        · rw [hb]
          refine ⟨?_, by simp, ?_, ?_, by rw [hl]; omega, hvs⟩
          · have : rightF (e + 1 + 1) (.mk 8 [] (nms (chz ch[i] / 14 % 4)) (kids (made d ch) (chz ch[i] / 14 % 4) (i + 1)).1) = (true && decide ((nms (chz ch[i] / 14 % 4)).length = (kids (made d ch) (chz ch[i] / 14 % 4) (i + 1)).1.length) && nmF [] (nms (chz ch[i] / 14 % 4)) && (kids (made d ch) (chz ch[i] / 14 % 4) (i + 1)).1.all (rightF (e + 1))) := rfl
            rw [hal, n1, hl, nms_len, decide_eq_true rfl] at this
            exact this
          · show (nms _).length < _
            rw [nms_len]; omega
          · exact n2
    · rw [made_none h]; exact leaf_right 4 _
end T
set_option linter.unusedVariables false
set_option linter.unusedSimpArgs false
set_option maxRecDepth 10000
namespace T
open Go Go.Aes Go.Proofs

def strs (l : List Str) : AV := .agg (l.map .str)
theorem idx66 (e : Nat) (h : e < 2) : indexOf X 66 (.agg [.str [116,114,117,101], .str [102,97,108,115,101]]) (.int .i64 (e : Int)) = some (.str (bools.getD e [])) := by
  match e, h with
  | 0, _ => show indexOf X 66 (.agg [.str [116,114,117,101], .str [102,97,108,115,101]]) (.int .i64 0) = some (.str (bools.getD 0 [])); kernel_rfl
  | 1, _ => show indexOf X 66 (.agg [.str [116,114,117,101], .str [102,97,108,115,101]]) (.int .i64 1) = some (.str (bools.getD 1 [])); kernel_rfl
theorem idx67a (e : Nat) (h : e < 5) : indexOf X 67 (.agg [.str [48], .str [45,53], .str [49,50], .str [50,49,52,55,52,56,51,54,52,55], .str [57,57,57,57,57,57,57,57,57,57,57]]) (.int .i64 (e : Int)) = some (.str (whole.getD e [])) := by
  match e, h with
  | 0, _ => show indexOf X 67 (strs whole) (.int .i64 0) = some (.str (whole.getD 0 [])); kernel_rfl
  | 1, _ => show indexOf X 67 (strs whole) (.int .i64 1) = some (.str (whole.getD 1 [])); kernel_rfl
  | 2, _ => show indexOf X 67 (strs whole) (.int .i64 2) = some (.str (whole.getD 2 [])); kernel_rfl
  | 3, _ => show indexOf X 67 (strs whole) (.int .i64 3) = some (.str (whole.getD 3 [])); kernel_rfl
  | 4, _ => show indexOf X 67 (strs whole) (.int .i64 4) = some (.str (whole.getD 4 [])); kernel_rfl
theorem idx67b (e : Nat) (h : e < 5) : indexOf X 67 (.agg [.str [], .str [97], .str [34], .str [195,169,10], .str [120,32,121]]) (.int .i64 (e : Int)) = some (.str (texts.getD e [])) := by
  match e, h with
  | 0, _ => show indexOf X 67 (strs texts) (.int .i64 0) = some (.str (texts.getD 0 [])); kernel_rfl
  | 1, _ => show indexOf X 67 (strs texts) (.int .i64 1) = some (.str (texts.getD 1 [])); kernel_rfl
  | 2, _ => show indexOf X 67 (strs texts) (.int .i64 2) = some (.str (texts.getD 2 [])); kernel_rfl
  | 3, _ => show indexOf X 67 (strs texts) (.int .i64 3) = some (.str (texts.getD 3 [])); kernel_rfl
  | 4, _ => show indexOf X 67 (strs texts) (.int .i64 4) = some (.str (texts.getD 4 [])); kernel_rfl
theorem idx68 (e : Nat) (h : e < 4) : indexOf X 68 (.agg [.str [49,46,53], .str [48,101,49], .str [45,48,46,50,53,69,45,51], .str [49,101,43,57]]) (.int .i64 (e : Int)) = some (.str (broken.getD e [])) := by
  match e, h with
  | 0, _ => show indexOf X 68 (strs broken) (.int .i64 0) = some (.str (broken.getD 0 [])); kernel_rfl
  | 1, _ => show indexOf X 68 (strs broken) (.int .i64 1) = some (.str (broken.getD 1 [])); kernel_rfl
  | 2, _ => show indexOf X 68 (strs broken) (.int .i64 2) = some (.str (broken.getD 2 [])); kernel_rfl
  | 3, _ => show indexOf X 68 (strs broken) (.int .i64 3) = some (.str (broken.getD 3 [])); kernel_rfl

theorem bld1 (n : Int) (k : AV → Prop) : qBld z25 [(0, 1, .int .i64 n)] k = k (.agg [.int .i64 n, .str [], .sl [] .nil, .sl [] .nil]) := rfl
theorem bld2 (n : Int) (s : Str) (k : AV → Prop) : qBld z25 [(0, 1, .int .i64 n), (1, 1, .str s)] k = k (.agg [.int .i64 n, .str s, .sl [] .nil, .sl [] .nil]) := rfl
theorem bld66 (k : AV → Prop) : qBld z66 [(0, 1, .str [116,114,117,101]), (1, 1, .str [102,97,108,115,101])] k = k (.agg [.str [116,114,117,101], .str [102,97,108,115,101]]) := rfl
theorem bld67 (a b c d e : Str) (k : AV → Prop) : qBld z67 [(0, 1, .str a), (1, 1, .str b), (2, 1, .str c), (3, 1, .str d), (4, 1, .str e)] k = k (.agg [.str a, .str b, .str c, .str d, .str e]) := rfl
theorem bld68 (a b c d : Str) (k : AV → Prop) : qBld z68 [(0, 1, .str a), (1, 1, .str b), (2, 1, .str c), (3, 1, .str d)] k = k (.agg [.str a, .str b, .str c, .str d]) := rfl

theorem chz_eq (z : Int) : z % 1048576 = ((chz z : Nat) : Int) := by
  unfold chz
  have := Int.emod_nonneg z (by decide : (1048576 : Int) ≠ 0)
  omega
theorem rem_nat (c n : Nat) (hn : 0 < n) (k : AV → Prop) : qRem X 3 (.int .i64 (c : Int)) (.int .i64 (n : Int)) k = k (.int .i64 ((c % n : Nat) : Int)) := by
  rw [qRem_int _ _ _ _ _ _ (by omega), Int.tmod_eq_emod_of_nonneg (by omega)]
  rfl
theorem quo_nat (c n : Nat) (hn : 0 < n) (hc : c < 9000000000000000000) (k : AV → Prop) : qQuo X 3 (.int .i64 (c : Int)) (.int .i64 (n : Int)) k = k (.int .i64 ((c / n : Nat) : Int)) := by
  rw [qQuo_int _ _ _ _ _ _ (by omega), Int.tdiv_eq_ediv_of_nonneg (by omega)]
  have : ((c : Int) / (n : Int)) = ((c / n : Nat) : Int) := rfl
  rw [this, i64_in']
  have := Nat.div_le_self c n
  generalize c / n = e at *
  omega

def MadeAt (ch : List Int) (tk : Tk) (D : Nat) : Prop := ∀ j, j ≤ ch.length → ∃ r, EV (made D ch j).1 r ∧ ∀ H, EP 25 [.sl (iRows ch) tk, .int .i64 (j : Int), .int .i64 (D : Int)] H = some (.val (.tup [.agg r, .int .i64 ((made D ch j).2 : Int)]) H)

/-- one that is no branch -/
theorem made_leaf_walk {ch : List Int} (hl : ch.length < 1000000) {D i : Nat} (hD : D < 100) (tk : Tk) (Q : AV → AH → Prop) (hQ : ∀ row H, EV (made D ch i).1 row → Q (.tup [.agg row, .int .i64 ((made D ch i).2 : Int)]) H)
    (hi : i < ch.length → chz ch[i]! % 7 ≠ 4 ∨ D ≤ 1) : c25 EP [.sl (iRows ch) tk, .int .i64 (i : Int), .int .i64 (D : Int)] H0 Q := by
  have g0 : (H0.push (.cells z25)).get 0 = some (.cells z25) := get_push_at (H := H0) _
  simp -implicitDefEqProofs only [c25, r25_0, opn_z, opn_s, sel_z, sel_s, qCd_eq, qIf_true, qIf_false, qFn_eq, qBl_eq, qO_some, qRes_val, qHp_some, qPick_true, qPick_false, qG_tt, qG_ff, qG_tf, qG_ft, cellsK_some, qLd_ptr, qLd_vptr, qLdA_ptr, qLdA_vptr, qFa_ptr, qFa_vptr, qNc_ptr, qNc_vptr, qNc_fn, qNot_bool, qExt_tup, qCallV_fn, qLss_int, qLeq_int, qGtr_int, qGeq_int, qEql_int, qNeq_int, qAdd_int, qSub_int, qMul_int, qConvI_int, qLenL_sl, qLenL_hsl, qLenS_str, foldO, min2_int, max2_int, qSame_refl, Nat.zero_add, List.getElem?_cons_zero, List.getElem?_cons_succ, List.nil_append, List.cons_append, List.append_nil, one_bool, one_int, one_str, one_nilp, one_ptr, one_sl, one_hsl, one_map, one_fn, List.length_cons, List.length_nil, List.set_cons_zero, List.set_cons_succ, Nat.reduceLT, Nat.reduceAdd, qG_un, qNew_i, wr_ptr, H0_nx]
  have st : ∀ (row : List AV), row.length = 4 → allOne row = true → ∀ k : AV → AH → Prop, qSt 4 (.ptr 0 0) (.agg row) (H0.push (.cells z25)) k = k Aes.undef ((H0.push (.cells z25)).set 0 (some (.cells row))) := fun row h1 h2 k => qSt_whole (R := Prop) g0 rfl h1 h2 k
  have lt0 : 0 < (H0.push (.cells z25)).nx := lt_i g0
  have ld : ∀ (row : List AV), row.length = 4 → ∀ k : AV → Prop, qLdA 4 (.ptr 0 0) ((H0.push (.cells z25)).set 0 (some (.cells row))) k = k (.agg row) := fun row h1 k => qLdA_whole (R := Prop) (by rw [get_set_i lt0, if_pos rfl]) h1 k
  have st1 := fun n s => st [.int .i64 n, .str s, .sl [] .nil, .sl [] .nil] rfl rfl
  have ld1' := fun n s => ld [.int .i64 n, .str s, .sl [] .nil, .sl [] .nil] rfl
  have ev : ∀ (n : Int) (s : Str), EV (.mk n s [] []) [.int .i64 n, .str s, .sl [] .nil, .sl [] .nil] := fun n s => ⟨.nil, .nil, [], rfl, rfl⟩
  generalize H0.push (.cells z25) = H1 at *
  have rl := iRows_len ch
  rcases Nat.lt_or_ge i ch.length with h | h
  · have h' : ¬ ((i : Int) ≥ (ch.length : Int)) := by omega
    have hgi : ch[i]? = some ch[i] := List.getElem?_eq_getElem h
    have hb : ch[i]! = ch[i] := by simp [h]
    have hget : (iRows ch)[i]? = some [.int .i64 ch[i]] := by simp [iRows, h]
    have ia := fun k => qIa_rows (tk := tk) (R := Prop) hget (n := 1) rfl k
    have e26 := fun H => ep26 ch[i] 1048576 (by decide) (by decide) H
    have hml := made_leaf hgi (hb ▸ hi h)
    rw [hml] at hQ
    have hi' := hb ▸ hi h
    have hcz : chz ch[i] < 1048576 := by unfold chz; omega
    rw [chz_eq] at e26
    generalize chz ch[i] = c at *
    have hw := wrap_up i (by omega)
    have r7 : ∀ k : AV → Prop, qRem X 3 (.int .i64 (c : Int)) (.int .i64 7) k = k (.int .i64 ((c % 7 : Nat) : Int)) := fun k => rem_nat c 7 (by omega) k
    have q7 : ∀ k : AV → Prop, qQuo X 3 (.int .i64 (c : Int)) (.int .i64 7) k = k (.int .i64 ((c / 7 : Nat) : Int)) := fun k => quo_nat c 7 (by omega) (by omega) k
    have r2 : ∀ (c : Nat) (k : AV → Prop), qRem X 3 (.int .i64 (c : Int)) (.int .i64 2) k = k (.int .i64 ((c % 2 : Nat) : Int)) := fun c k => rem_nat c 2 (by omega) k
    have r5 : ∀ (c : Nat) (k : AV → Prop), qRem X 3 (.int .i64 (c : Int)) (.int .i64 5) k = k (.int .i64 ((c % 5 : Nat) : Int)) := fun c k => rem_nat c 5 (by omega) k
    have r4 : ∀ (c : Nat) (k : AV → Prop), qRem X 3 (.int .i64 (c : Int)) (.int .i64 4) k = k (.int .i64 ((c % 4 : Nat) : Int)) := fun c k => rem_nat c 4 (by omega) k
    have i66 := idx66 (c / 7 % 2) (Nat.mod_lt _ (by omega))
    have i67a := idx67a (c / 7 % 5) (Nat.mod_lt _ (by omega))
    have i67b := idx67b (c / 7 % 5) (Nat.mod_lt _ (by omega))
    have i68 := idx68 (c / 7 % 4) (Nat.mod_lt _ (by omega))
    simp -implicitDefEqProofs only [r25_1, r25_3, r25_4, r25_5, opn_z, opn_s, sel_z, sel_s, qCd_eq, qIf_true, qIf_false, qFn_eq, qBl_eq, qO_some, qRes_val, qHp_some, qPick_true, qPick_false, qG_tt, qG_ff, qG_tf, qG_ft, cellsK_some, qLd_vptr, qLdA_vptr, qFa_ptr, qFa_vptr, qNc_ptr, qNc_vptr, qNc_fn, qNot_bool, qExt_tup, qCallV_fn, qLss_int, qLeq_int, qGtr_int, qGeq_int, qEql_int, qNeq_int, qAdd_int, qSub_int, qMul_int, qConvI_int, qLenL_sl, qLenL_hsl, qLenS_str, foldO, min2_int, max2_int, qSame_refl, Nat.zero_add, List.getElem?_cons_zero, List.getElem?_cons_succ, List.nil_append, List.cons_append, List.append_nil, one_bool, one_int, one_str, one_nilp, one_ptr, one_sl, one_hsl, one_map, one_fn, List.length_cons, List.length_nil, List.set_cons_zero, List.set_cons_succ, Nat.reduceLT, Nat.reduceAdd, qG_un, rl, h', decide_false, ia, e26, hw, r7]
    by_cases c0 : c % 7 = 0
    · have hlf : leaf c = .mk 2 (bools.getD (c / 7 % 2) []) [] [] := by simp [leaf, c0]
      rw [hlf] at hQ
      rw [c0]
      simp -implicitDefEqProofs only [r25_6, r25_7, opn_z, opn_s, sel_z, sel_s, qCd_eq, qIf_true, qIf_false, qFn_eq, qBl_eq, qO_some, qRes_val, qHp_some, qPick_true, qPick_false, qG_tt, qG_ff, qG_tf, qG_ft, cellsK_some, qLd_vptr, qLdA_vptr, qFa_ptr, qFa_vptr, qNc_ptr, qNc_vptr, qNc_fn, qNot_bool, qExt_tup, qCallV_fn, qLss_int, qLeq_int, qGtr_int, qGeq_int, qEql_int, qNeq_int, qAdd_int, qSub_int, qMul_int, qConvI_int, qLenL_sl, qLenL_hsl, qLenS_str, foldO, min2_int, max2_int, qSame_refl, Nat.zero_add, List.getElem?_cons_zero, List.getElem?_cons_succ, List.nil_append, List.cons_append, List.append_nil, one_bool, one_int, one_str, one_nilp, one_ptr, one_sl, one_hsl, one_map, one_fn, List.length_cons, List.length_nil, List.set_cons_zero, List.set_cons_succ, Nat.reduceLT, Nat.reduceAdd, qG_un, q7, r2, i66, bld66, bld2, st1, qPtr_ptr, ld1']
      exact hQ _ _ (ev _ _)
    have d0 : (((c % 7 : Nat) : Int) == 0) = false := by simp; omega
    by_cases c1 : c % 7 = 1
    · have hlf : leaf c = .mk 3 (whole.getD (c / 7 % 5) []) [] [] := by simp [leaf, c1]
      rw [hlf] at hQ
      have d1 : (((c % 7 : Nat) : Int) == 1) = true := by simp; omega
      simp -implicitDefEqProofs only [r25_6, r25_8, r25_9, opn_z, opn_s, sel_z, sel_s, qCd_eq, qIf_true, qIf_false, qFn_eq, qBl_eq, qO_some, qRes_val, qHp_some, qPick_true, qPick_false, qG_tt, qG_ff, qG_tf, qG_ft, cellsK_some, qLd_vptr, qLdA_vptr, qFa_ptr, qFa_vptr, qNc_ptr, qNc_vptr, qNc_fn, qNot_bool, qExt_tup, qCallV_fn, qLss_int, qLeq_int, qGtr_int, qGeq_int, qEql_int, qNeq_int, qAdd_int, qSub_int, qMul_int, qConvI_int, qLenL_sl, qLenL_hsl, qLenS_str, foldO, min2_int, max2_int, qSame_refl, Nat.zero_add, List.getElem?_cons_zero, List.getElem?_cons_succ, List.nil_append, List.cons_append, List.append_nil, one_bool, one_int, one_str, one_nilp, one_ptr, one_sl, one_hsl, one_map, one_fn, List.length_cons, List.length_nil, List.set_cons_zero, List.set_cons_succ, Nat.reduceLT, Nat.reduceAdd, qG_un, d0, d1, q7, r5, i67a, bld67, bld2, st1, qPtr_ptr, ld1']
      exact hQ _ _ (ev _ _)
    have d1 : (((c % 7 : Nat) : Int) == 1) = false := by simp; omega
    by_cases c2 : c % 7 = 2
    · have hlf : leaf c = .mk 4 (broken.getD (c / 7 % 4) []) [] [] := by simp [leaf, c2]
      rw [hlf] at hQ
      have d2 : (((c % 7 : Nat) : Int) == 2) = true := by simp; omega
      simp -implicitDefEqProofs only [r25_6, r25_8, r25_10, r25_11, opn_z, opn_s, sel_z, sel_s, qCd_eq, qIf_true, qIf_false, qFn_eq, qBl_eq, qO_some, qRes_val, qHp_some, qPick_true, qPick_false, qG_tt, qG_ff, qG_tf, qG_ft, cellsK_some, qLd_vptr, qLdA_vptr, qFa_ptr, qFa_vptr, qNc_ptr, qNc_vptr, qNc_fn, qNot_bool, qExt_tup, qCallV_fn, qLss_int, qLeq_int, qGtr_int, qGeq_int, qEql_int, qNeq_int, qAdd_int, qSub_int, qMul_int, qConvI_int, qLenL_sl, qLenL_hsl, qLenS_str, foldO, min2_int, max2_int, qSame_refl, Nat.zero_add, List.getElem?_cons_zero, List.getElem?_cons_succ, List.nil_append, List.cons_append, List.append_nil, one_bool, one_int, one_str, one_nilp, one_ptr, one_sl, one_hsl, one_map, one_fn, List.length_cons, List.length_nil, List.set_cons_zero, List.set_cons_succ, Nat.reduceLT, Nat.reduceAdd, qG_un, d0, d1, d2, q7, r4, i68, bld68, bld2, st1, qPtr_ptr, ld1']
      exact hQ _ _ (ev _ _)
    have d2 : (((c % 7 : Nat) : Int) == 2) = false := by simp; omega
    by_cases c3 : c % 7 = 3
    · have hlf : leaf c = .mk 5 (texts.getD (c / 7 % 5) []) [] [] := by simp [leaf, c3]
      rw [hlf] at hQ
      have d3 : (((c % 7 : Nat) : Int) == 3) = true := by simp; omega
      simp -implicitDefEqProofs only [r25_6, r25_8, r25_10, r25_12, r25_13, opn_z, opn_s, sel_z, sel_s, qCd_eq, qIf_true, qIf_false, qFn_eq, qBl_eq, qO_some, qRes_val, qHp_some, qPick_true, qPick_false, qG_tt, qG_ff, qG_tf, qG_ft, cellsK_some, qLd_vptr, qLdA_vptr, qFa_ptr, qFa_vptr, qNc_ptr, qNc_vptr, qNc_fn, qNot_bool, qExt_tup, qCallV_fn, qLss_int, qLeq_int, qGtr_int, qGeq_int, qEql_int, qNeq_int, qAdd_int, qSub_int, qMul_int, qConvI_int, qLenL_sl, qLenL_hsl, qLenS_str, foldO, min2_int, max2_int, qSame_refl, Nat.zero_add, List.getElem?_cons_zero, List.getElem?_cons_succ, List.nil_append, List.cons_append, List.append_nil, one_bool, one_int, one_str, one_nilp, one_ptr, one_sl, one_hsl, one_map, one_fn, List.length_cons, List.length_nil, List.set_cons_zero, List.set_cons_succ, Nat.reduceLT, Nat.reduceAdd, qG_un, d0, d1, d2, d3, q7, r5, i67b, bld67, bld2, st1, qPtr_ptr, ld1']
      exact hQ _ _ (ev _ _)
    have d3 : (((c % 7 : Nat) : Int) == 3) = false := by simp; omega
    have hlf : leaf c = .mk 1 [] [] [] := by simp [leaf, c0, c1, c2, c3, null]
    rw [hlf] at hQ
    by_cases c4 : c % 7 = 4
    · have d4 : ¬ (((c % 7 : Nat) : Int) > 4) := by omega
      have d5 : ((D : Int) ≤ 1) := by omega
      simp -implicitDefEqProofs only [r25_6, r25_8, r25_10, r25_12, r25_14, r25_15, opn_z, opn_s, sel_z, sel_s, qCd_eq, qIf_true, qIf_false, qFn_eq, qBl_eq, qO_some, qRes_val, qHp_some, qPick_true, qPick_false, qG_tt, qG_ff, qG_tf, qG_ft, cellsK_some, qLd_vptr, qLdA_vptr, qFa_ptr, qFa_vptr, qNc_ptr, qNc_vptr, qNc_fn, qNot_bool, qExt_tup, qCallV_fn, qLss_int, qLeq_int, qGtr_int, qGeq_int, qEql_int, qNeq_int, qAdd_int, qSub_int, qMul_int, qConvI_int, qLenL_sl, qLenL_hsl, qLenS_str, foldO, min2_int, max2_int, qSame_refl, Nat.zero_add, List.getElem?_cons_zero, List.getElem?_cons_succ, List.nil_append, List.cons_append, List.append_nil, one_bool, one_int, one_str, one_nilp, one_ptr, one_sl, one_hsl, one_map, one_fn, List.length_cons, List.length_nil, List.set_cons_zero, List.set_cons_succ, Nat.reduceLT, Nat.reduceAdd, qG_un, d0, d1, d2, d3, d4, d5, decide_true, decide_false, bld1, st1, qPtr_ptr, ld1']
      exact hQ _ _ (ev _ _)
    · have d4 : (((c % 7 : Nat) : Int) > 4) := by omega
      simp -implicitDefEqProofs only [r25_6, r25_8, r25_10, r25_12, r25_14, r25_15, opn_z, opn_s, sel_z, sel_s, qCd_eq, qIf_true, qIf_false, qFn_eq, qBl_eq, qO_some, qRes_val, qHp_some, qPick_true, qPick_false, qG_tt, qG_ff, qG_tf, qG_ft, cellsK_some, qLd_vptr, qLdA_vptr, qFa_ptr, qFa_vptr, qNc_ptr, qNc_vptr, qNc_fn, qNot_bool, qExt_tup, qCallV_fn, qLss_int, qLeq_int, qGtr_int, qGeq_int, qEql_int, qNeq_int, qAdd_int, qSub_int, qMul_int, qConvI_int, qLenL_sl, qLenL_hsl, qLenS_str, foldO, min2_int, max2_int, qSame_refl, Nat.zero_add, List.getElem?_cons_zero, List.getElem?_cons_succ, List.nil_append, List.cons_append, List.append_nil, one_bool, one_int, one_str, one_nilp, one_ptr, one_sl, one_hsl, one_map, one_fn, List.length_cons, List.length_nil, List.set_cons_zero, List.set_cons_succ, Nat.reduceLT, Nat.reduceAdd, qG_un, d0, d1, d2, d3, d4, decide_true, decide_false, bld1, st1, qPtr_ptr, ld1']
      exact hQ _ _ (ev _ _)
  · have h' : ((i : Int) ≥ (ch.length : Int)) := by omega
    rw [made_none h] at hQ
    simp -implicitDefEqProofs only [r25_1, r25_2, opn_z, opn_s, sel_z, sel_s, qCd_eq, qIf_true, qIf_false, qFn_eq, qBl_eq, qO_some, qRes_val, qHp_some, qPick_true, qPick_false, qG_tt, qG_ff, qG_tf, qG_ft, cellsK_some, qLd_vptr, qLdA_vptr, qFa_ptr, qFa_vptr, qNc_ptr, qNc_vptr, qNc_fn, qNot_bool, qExt_tup, qCallV_fn, qLss_int, qLeq_int, qGtr_int, qGeq_int, qEql_int, qNeq_int, qAdd_int, qSub_int, qMul_int, qConvI_int, qLenL_sl, qLenL_hsl, qLenS_str, foldO, min2_int, max2_int, qSame_refl, Nat.zero_add, List.getElem?_cons_zero, List.getElem?_cons_succ, List.nil_append, List.cons_append, List.append_nil, one_bool, one_int, one_str, one_nilp, one_ptr, one_sl, one_hsl, one_map, one_fn, List.length_cons, List.length_nil, List.set_cons_zero, List.set_cons_succ, Nat.reduceLT, Nat.reduceAdd, qG_un, rl, h', decide_true, bld1, st1, qPtr_ptr, ld1']
    exact hQ _ _ (ev _ _)
end T
set_option linter.unusedVariables false
set_option linter.unusedSimpArgs false
set_option maxRecDepth 10000
namespace T
open Go Go.Aes Go.Proofs

/-- a value under way: its two lists are still being appended to -/
structure Mk (H : AH) (b : Nat) (kd : Int) (ns : List Str) (rows : List (List AV)) (nv lv : AV) : Prop where
  get : H.get b = some (.cells [.int .i64 kd, .str [], nv, lv])
  n : Ow H nv (strRows ns)
  l : Ow H lv rows
  ap : ∀ t, tkOf nv t → ¬ tkOf lv t

/-- the other blocks of cells stay -/
def Ck (H H' : AH) (b : Nat) : Prop := ∀ j cs, j ≠ b → H.get j = some (.cells cs) → H'.get j = some (.cells cs)

theorem _root_.Go.Aes.Ow.lt {H : AH} [IsFn H] {v : AV} {rows : List (List AV)} (h : Ow H v rows) {t : Nat} (ht : tkOf v t) : t < H.nx := lt_i (h.tok ht)
theorem Mk.kp {H H' : AH} [IsFn H] {b : Nat} {kd : Int} {ns : List Str} {rows : List (List AV)} {nv lv : AV} (h : Mk H b kd ns rows nv lv) (k : Kp H H' (fun _ => False)) : Mk H' b kd ns rows nv lv :=
  ⟨(k.keep b (lt_i h.get) (fun h => h)).trans h.get, h.n.keep fun j hj => k.keep j (h.n.lt hj) (fun h => h), h.l.keep fun j hj => k.keep j (h.l.lt hj) (fun h => h), h.ap⟩

theorem Mk.addL {H : AH} [IsFn H] {b : Nat} {kd : Int} {ns : List Str} {rows : List (List AV)} {nv lv : AV} (h : Mk H b kd ns rows nv lv) {r : List AV} (hr : r.length = 4) (ha : allOne r = true) (hrs : ∀ x ∈ rows, x.length = 4) (hl : rows.length < 1000) :
    ∃ lv' H2 H3, (∀ k : AV → AH → Prop, qApp 4 72 lv (.sl [r] .full) false none H k = k lv' H2) ∧ (∀ k : AV → AH → Prop, qSt 1 (.ptr b 3) lv' H2 k = k Aes.undef H3) ∧ Mk H3 b kd ns (rows ++ [r]) nv lv' ∧ IsFn H3 ∧ Ck H H3 b := by
  obtain ⟨lv', H2, a1, a2, a3, a4⟩ := h.l.app (n := 4) (b := 72) (tk' := .full) hr (by decide) (by decide) (by unfold most; omega) hrs ha
  haveI := a3.fn
  have bt : ∀ t, H.get t = some .tok → t ≠ b := fun t ht e => by rw [e, h.get] at ht; cases ht
  have gb : H2.get b = some (.cells [.int .i64 kd, .str [], nv, lv]) := (a3.keep b (lt_i h.get) (fun hb => bt b (h.l.tok hb) rfl)).trans h.get
  have hb2 := lt_i gb
  have hn2 : Ow H2 nv (strRows ns) := h.n.keep fun j hj => a3.keep j (h.n.lt hj) (h.ap j hj)
  have st := fun k => qSt_1 (R := Prop) (o := 3) gb (by simp) a2.one k
  refine ⟨lv', H2, _, a1, st, ⟨by rw [get_set_i hb2, if_pos rfl]; rfl, hn2.keep fun j hj => ?_, a2.keep fun j hj => ?_, fun t ht hl => ?_⟩, inferInstance, fun j cs hj hg => ?_⟩
  · rw [get_set_i hb2, if_neg (bt j (h.n.tok hj))]
  · have := a4 j hj
    have hlt := lt_i h.get
    rw [get_set_i hb2, if_neg (by omega)]
  · have := a4 t hl
    have := h.n.lt ht
    omega
  · rw [get_set_i hb2, if_neg hj, a3.keep j (lt_i hg) (fun hb => by have := h.l.tok hb; rw [hg] at this; cases this)]
    exact hg

theorem Mk.addN {H : AH} [IsFn H] {b : Nat} {kd : Int} {ns : List Str} {rows : List (List AV)} {nv lv : AV} (h : Mk H b kd ns rows nv lv) (s : Str) (hl : ns.length < 1000) :
    ∃ nv' H2 H3, (∀ k : AV → AH → Prop, qApp 1 16 nv (.sl [[.str s]] .full) false none H k = k nv' H2) ∧ (∀ k : AV → AH → Prop, qSt 1 (.ptr b 2) nv' H2 k = k Aes.undef H3) ∧ Mk H3 b kd (ns ++ [s]) rows nv' lv ∧ IsFn H3 ∧ Ck H H3 b := by
  obtain ⟨nv', H2, a1, a2, a3, a4⟩ := h.n.app (n := 1) (b := 16) (tk' := .full) (r := [.str s]) rfl (by decide) (by decide) (by rw [strRows_len]; unfold most; omega) (by intro r hr; obtain ⟨y, _, rfl⟩ := List.mem_map.1 hr; rfl) rfl
  haveI := a3.fn
  have bt : ∀ t, H.get t = some .tok → t ≠ b := fun t ht e => by rw [e, h.get] at ht; cases ht
  have gb : H2.get b = some (.cells [.int .i64 kd, .str [], nv, lv]) := (a3.keep b (lt_i h.get) (fun hb => bt b (h.n.tok hb) rfl)).trans h.get
  have hb2 := lt_i gb
  have hn2 : Ow H2 lv rows := h.l.keep fun j hj => a3.keep j (h.l.lt hj) (fun hn => h.ap j hn hj)
  have st := fun k => qSt_1 (R := Prop) (o := 2) gb (by simp) a2.one k
  have hrw : strRows ns ++ [[.str s]] = strRows (ns ++ [s]) := by simp [strRows]
  rw [hrw] at a2
  refine ⟨nv', H2, _, a1, st, ⟨by rw [get_set_i hb2, if_pos rfl]; rfl, a2.keep fun j hj => ?_, hn2.keep fun j hj => ?_, fun t ht hl => ?_⟩, inferInstance, fun j cs hj hg => ?_⟩
  · have := a4 j hj
    have hlt := lt_i h.get
    rw [get_set_i hb2, if_neg (by omega)]
  · rw [get_set_i hb2, if_neg (bt j (h.l.tok hj))]
  · have := a4 t ht
    have := h.l.lt hl
    omega
  · rw [get_set_i hb2, if_neg hj, a3.keep j (lt_i hg) (fun hb => by have := h.n.tok hb; rw [hg] at this; cases this)]
    exact hg
end T
set_option linter.unusedVariables false
set_option linter.unusedSimpArgs false
set_option maxRecDepth 10000
namespace T
open Go Go.Aes Go.Proofs

theorem rows25 (r : List AV) (h : r.length = 4) (ha : allOne r = true) (k : AV → Prop) : qRows z25 1 [(0, .agg r)] k = k (.sl [r] .full) := by
  have hn : (r.length).beq z25.length = true := by rw [h]; rfl
  rw [qRows_eq, rep_succ, rep_zero, putRow_one, cells_agg, hn, ha]
  rfl
theorem rows9 (s : Str) (k : AV → Prop) : qRows z9 1 [(0, .str s)] k = k (.sl [[.str s]] .full) := rfl
theorem decs_small (m : Nat) (h : m ≤ 3) : (decs m).length = 1 := by
  match m, h with
  | 0, _ => rfl
  | 1, _ => rfl
  | 2, _ => rfl
  | 3, _ => rfl

set_option maxHeartbeats 2000000 in
/-- one that is a branch -/
theorem made_tree_walk {ch : List Int} (hl : ch.length < 1000000) {d i : Nat} (hd : d < 100) (hd0 : d ≠ 0) (tk : Tk) (ih : MadeAt ch tk d) (hi : i < ch.length) (hc : chz ch[i] % 7 = 4) (Q : AV → AH → Prop)
    (hQ : ∀ row H, EV (made (d + 1) ch i).1 row → Q (.tup [.agg row, .int .i64 ((made (d + 1) ch i).2 : Int)]) H) : c25 EP [.sl (iRows ch) tk, .int .i64 (i : Int), .int .i64 ((d + 1 : Nat) : Int)] H0 Q := by
  have g0 : (H0.push (.cells z25)).get 0 = some (.cells z25) := get_push_at (H := H0) _
  haveI : IsFn (H0.push (.cells z25)) := inferInstance
  simp -implicitDefEqProofs only [c25, r25_0, opn_z, opn_s, sel_z, sel_s, qCd_eq, qIf_true, qIf_false, qFn_eq, qBl_eq, qO_some, qRes_val, qHp_some, qPick_true, qPick_false, qG_tt, qG_ff, qG_tf, qG_ft, cellsK_some, qLd_ptr, qLd_vptr, qLdA_ptr, qLdA_vptr, qFa_ptr, qFa_vptr, qNc_ptr, qNc_vptr, qNc_fn, qNot_bool, qExt_tup, qCallV_fn, qLss_int, qLeq_int, qGtr_int, qGeq_int, qEql_int, qNeq_int, qAdd_int, qSub_int, qMul_int, qConvI_int, qLenL_sl, qLenL_hsl, qLenS_str, foldO, min2_int, max2_int, qSame_refl, Nat.zero_add, List.getElem?_cons_zero, List.getElem?_cons_succ, List.nil_append, List.cons_append, List.append_nil, one_bool, one_int, one_str, one_nilp, one_ptr, one_sl, one_hsl, one_map, one_fn, List.length_cons, List.length_nil, List.set_cons_zero, List.set_cons_succ, Nat.reduceLT, Nat.reduceAdd, qG_un, qNew_i, wr_ptr, H0_nx]
  have lt0 : 0 < (H0.push (.cells z25)).nx := lt_i g0
  generalize H0.push (.cells z25) = H1 at *
  have rl := iRows_len ch
  have h' : ¬ ((i : Int) ≥ (ch.length : Int)) := by omega
  have hgi : ch[i]? = some ch[i] := List.getElem?_eq_getElem hi
  have hget : (iRows ch)[i]? = some [.int .i64 ch[i]] := by simp [iRows, hi]
  have ia := fun k => qIa_rows (tk := tk) (R := Prop) hget (n := 1) rfl k
  have e26 := fun H => ep26 ch[i] 1048576 (by decide) (by decide) H
  rw [made_tree hgi hc hd0] at hQ
  have hcz : chz ch[i] < 1048576 := by unfold chz; omega
  rw [chz_eq] at e26
  generalize chz ch[i] = c at *
  have hw := wrap_up i (by omega)
  have r7 : ∀ k : AV → Prop, qRem X 3 (.int .i64 (c : Int)) (.int .i64 7) k = k (.int .i64 ((c % 7 : Nat) : Int)) := fun k => rem_nat c 7 (by omega) k
  have q7 : ∀ k : AV → Prop, qQuo X 3 (.int .i64 (c : Int)) (.int .i64 7) k = k (.int .i64 ((c / 7 : Nat) : Int)) := fun k => quo_nat c 7 (by omega) (by omega) k
  have q14 : ∀ k : AV → Prop, qQuo X 3 (.int .i64 (c : Int)) (.int .i64 14) k = k (.int .i64 ((c / 14 : Nat) : Int)) := fun k => quo_nat c 14 (by omega) (by omega) k
  have r2 : ∀ (c : Nat) (k : AV → Prop), qRem X 3 (.int .i64 (c : Int)) (.int .i64 2) k = k (.int .i64 ((c % 2 : Nat) : Int)) := fun c k => rem_nat c 2 (by omega) k
  have r4 : ∀ (c : Nat) (k : AV → Prop), qRem X 3 (.int .i64 (c : Int)) (.int .i64 4) k = k (.int .i64 ((c % 4 : Nat) : Int)) := fun c k => rem_nat c 4 (by omega) k
  have w7 : IntKind.i64.wrap (7 + ((c / 7 % 2 : Nat) : Int)) = 7 + ((c / 7 % 2 : Nat) : Int) := i64_in' (by have := Nat.mod_lt (c / 7) (by decide : 0 < 2); generalize c / 7 % 2 = e at *; omega)
  have d0 : (((c % 7 : Nat) : Int) == 0) = false := by rw [hc]; rfl
  have d1 : (((c % 7 : Nat) : Int) == 1) = false := by rw [hc]; rfl
  have d2 : (((c % 7 : Nat) : Int) == 2) = false := by rw [hc]; rfl
  have d3 : (((c % 7 : Nat) : Int) == 3) = false := by rw [hc]; rfl
  have d4 : ¬ (((c % 7 : Nat) : Int) > 4) := by rw [hc]; decide
  have d5 : ¬ (((d + 1 : Nat) : Int) ≤ 1) := by omega
  obtain ⟨b, Ha, Hb, x1, x2, x3, x4, x5, x6⟩ := boxK (R := Prop) (Hs := H1) (H := H1) (.refl _) z25 [.int .i64 (7 + ((c / 7 % 2 : Nat) : Int)), .str [], .sl [] .nil, .sl [] .nil] (n := 4) rfl rfl rfl
  have hb0 : b ≠ 0 := by omega
  haveI := x5.fn
  simp -implicitDefEqProofs only [r25_1, r25_3, r25_4, r25_5, r25_6, r25_8, r25_10, r25_12, r25_14, r25_16, r25_17, opn_z, opn_s, sel_z, sel_s, qCd_eq, qIf_true, qIf_false, qFn_eq, qBl_eq, qO_some, qRes_val, qHp_some, qPick_true, qPick_false, qG_tt, qG_ff, qG_tf, qG_ft, cellsK_some, qLd_vptr, qLdA_vptr, qFa_ptr, qFa_vptr, qNc_ptr, qNc_vptr, qNc_fn, qNot_bool, qExt_tup, qCallV_fn, qLss_int, qLeq_int, qGtr_int, qGeq_int, qEql_int, qNeq_int, qAdd_int, qSub_int, qMul_int, qConvI_int, qLenL_sl, qLenL_hsl, qLenS_str, foldO, min2_int, max2_int, qSame_refl, Nat.zero_add, List.getElem?_cons_zero, List.getElem?_cons_succ, List.nil_append, List.cons_append, List.append_nil, one_bool, one_int, one_str, one_nilp, one_ptr, one_sl, one_hsl, one_map, one_fn, List.length_cons, List.length_nil, List.set_cons_zero, List.set_cons_succ, Nat.reduceLT, Nat.reduceAdd, qG_un, rl, h', decide_false, ia, e26, hw, r7, q7, q14, r2, r4, w7, d0, d1, d2, d3, d4, d5, bld1, x1, x2]
  have hm3 : c / 14 % 4 ≤ 3 := by have := Nat.mod_lt (c / 14) (by decide : 0 < 4); omega
  have hk01 : c / 7 % 2 = 0 ∨ c / 7 % 2 = 1 := by have := Nat.mod_lt (c / 7) (by decide : 0 < 2); omega
  refine loop_inv (fun m fr H' => ∃ (j : Nat) (done : List Val) (nsd : List Str) (rows : List (List AV)) (nv lv : AV) (x7 x8 x9 x12 x13 x17 x29 x39 x49 x59 x69 x87 x107 : AV), m ≤ 3 ∧ j ≤ ch.length ∧ kids (made d ch) (c / 14 % 4) (i + 1) = (done ++ (kids (made d ch) m j).1, (kids (made d ch) m j).2) ∧
      nmsB (c / 7 % 2 == 1) (c / 14 % 4) = nsd ++ nmsB (c / 7 % 2 == 1) m ∧ EVs done rows ∧ done.length + m = c / 14 % 4 ∧ nsd.length ≤ done.length ∧
      fr = [.sl (iRows ch) tk, .int .i64 (j : Int), .int .i64 ((d + 1 : Nat) : Int), .ptr 0 0, x7, x8, x9, .ptr b 0, .int .i64 (m : Int), x12, x13, x17, x29, x39, x49, x59, x69, x87, x107] ∧ IsFn H' ∧ Mk H' b (7 + ((c / 7 % 2 : Nat) : Int)) nsd rows nv lv ∧ H'.get 0 = some (.cells z25)) ?_ (m := c / 14 % 4) ?_
  · rintro m fr H' k ⟨j, done, nsd, rows, nv, lv, x7, x8, x9, x12, x13, x17, x29, x39, x49, x59, x69, x87, x107, hm, hj, hk, hn, hev, hdm, hnd, rfl, hfn, mk, h0⟩ hcont
    cases m with
    | succ m =>
      have hp : ((m + 1 : Nat) : Int) > 0 := by omega
      obtain ⟨r, ev, e25⟩ := ih j hj
      have hj2 := made_le (ch := ch) d j hj
      have hd1 : IntKind.i64.wrap (((d + 1 : Nat) : Int) - 1) = (d : Int) := wrap_dn d (by omega)
      obtain ⟨p, Hc, Hd, y1, y2, y3, y4, y5, y6⟩ := boxK (R := Prop) (Hs := H') (H := H') (.refl _) z25 r (n := 4) rfl ev.four ev.ones
      haveI := y5.fn
      have mk1 := mk.kp y5
      have h01 := (y6 0 _ h0).1
      have ldl := fun k => ld1 (R := Prop) mk1.get 3 _ rfl k
      have ldr := fun k => qLdA_whole (R := Prop) y3 ev.four k
      have hrw := fun k => rows25 r ev.four ev.ones k
      obtain ⟨lv', H2, H3, z1, z2, mk2, hfn3, ck⟩ := mk1.addL ev.four ev.ones hev.four (by rw [hev.len]; omega)
      have h02 := ck 0 _ (Ne.symm hb0) h01
      have ldk := fun k => ld1 (R := Prop) mk2.get 0 _ rfl k
      have hwd : IntKind.i64.wrap (((m + 1 : Nat) : Int) - 1) = (m : Int) := wrap_dn m (by omega)
      have hev2 : EVs (done ++ [(made d ch j).1]) (rows ++ [r]) := hev.append (.one ev)
      have hk2 : kids (made d ch) (c / 14 % 4) (i + 1) = (done ++ [(made d ch j).1] ++ (kids (made d ch) m (made d ch j).2).1, (kids (made d ch) m (made d ch j).2).2) := by
        rw [hk]; simp [kids]
      rcases hk01 with hb | hb
      · have kk : ((7 + ((c / 7 % 2 : Nat) : Int)) == 8) = false := by rw [hb]; rfl
        simp -implicitDefEqProofs only [l25_5, r25_18, r25_20, r25_21, r25_22, r25_23, r25_19, opn_z, opn_s, sel_z, sel_s, qCd_eq, qIf_true, qIf_false, qFn_eq, qBl_eq, qO_some, qRes_val, qHp_some, qPick_true, qPick_false, qG_tt, qG_ff, qG_tf, qG_ft, cellsK_some, qLd_vptr, qLdA_vptr, qFa_ptr, qFa_vptr, qNc_ptr, qNc_vptr, qNc_fn, qNot_bool, qExt_tup, qCallV_fn, qLss_int, qLeq_int, qGtr_int, qGeq_int, qEql_int, qNeq_int, qAdd_int, qSub_int, qMul_int, qConvI_int, qLenL_sl, qLenL_hsl, qLenS_str, foldO, min2_int, max2_int, qSame_refl, Nat.zero_add, List.getElem?_cons_zero, List.getElem?_cons_succ, List.nil_append, List.cons_append, List.append_nil, one_bool, one_int, one_str, one_nilp, one_ptr, one_sl, one_hsl, one_map, one_fn, List.length_cons, List.length_nil, List.set_cons_zero, List.set_cons_succ, Nat.reduceLT, Nat.reduceAdd, qG_un, hp, decide_true, hd1, e25, y1, y2, ldl, ldr, hrw, z1, z2, ldk, kk, hwd]
        refine hcont m _ _ (by omega) ⟨_, _, nsd, _, _, _, _, _, _, _, _, _, _, _, _, _, _, _, _, by omega, hj2.2, hk2, ?_, hev2, by simp; omega, by simp; omega, rfl, hfn3, mk2, h02⟩
        rw [hn, hb]; rfl
      · have kk : ((7 + ((c / 7 % 2 : Nat) : Int)) == 8) = true := by rw [hb]; rfl
        have ldn := fun k => ld1 (R := Prop) mk2.get 2 _ rfl k
        have e27 := fun H => ep27 (m + 1) (by omega) H
        have qa := fun k => qAdd_str (R := Prop) X 9 [110] (decs (m + 1)) (by rw [decs_small (m + 1) (by omega)]; decide) k
        obtain ⟨nv', H4, H5, w1, w2, mk3, hfn5, ck2⟩ := mk2.addN ([110] ++ decs (m + 1)) (by omega)
        simp -implicitDefEqProofs only [l25_5, r25_18, r25_20, r25_21, r25_22, r25_23, r25_24, r25_19, opn_z, opn_s, sel_z, sel_s, qCd_eq, qIf_true, qIf_false, qFn_eq, qBl_eq, qO_some, qRes_val, qHp_some, qPick_true, qPick_false, qG_tt, qG_ff, qG_tf, qG_ft, cellsK_some, qLd_vptr, qLdA_vptr, qFa_ptr, qFa_vptr, qNc_ptr, qNc_vptr, qNc_fn, qNot_bool, qExt_tup, qCallV_fn, qLss_int, qLeq_int, qGtr_int, qGeq_int, qEql_int, qNeq_int, qAdd_int, qSub_int, qMul_int, qConvI_int, qLenL_sl, qLenL_hsl, qLenS_str, foldO, min2_int, max2_int, qSame_refl, Nat.zero_add, List.getElem?_cons_zero, List.getElem?_cons_succ, List.nil_append, List.cons_append, List.append_nil, one_bool, one_int, one_str, one_nilp, one_ptr, one_sl, one_hsl, one_map, one_fn, List.length_cons, List.length_nil, List.set_cons_zero, List.set_cons_succ, Nat.reduceLT, Nat.reduceAdd, qG_un, hp, decide_true, hd1, e25, y1, y2, ldl, ldr, hrw, z1, z2, ldk, kk, hwd, ldn, e27, qa, rows9]
        simp only [List.cons_append, List.nil_append] at w1
        simp -implicitDefEqProofs only [opn_z, opn_s, sel_z, sel_s, qCd_eq, qIf_true, qIf_false, qFn_eq, qBl_eq, qO_some, qRes_val, qHp_some, qPick_true, qPick_false, qG_tt, qG_ff, qG_tf, qG_ft, cellsK_some, qLd_vptr, qLdA_vptr, qFa_ptr, qFa_vptr, qNc_ptr, qNc_vptr, qNc_fn, qNot_bool, qExt_tup, qCallV_fn, qLss_int, qLeq_int, qGtr_int, qGeq_int, qEql_int, qNeq_int, qAdd_int, qSub_int, qMul_int, qConvI_int, qLenL_sl, qLenL_hsl, qLenS_str, foldO, min2_int, max2_int, qSame_refl, Nat.zero_add, List.getElem?_cons_zero, List.getElem?_cons_succ, List.nil_append, List.cons_append, List.append_nil, one_bool, one_int, one_str, one_nilp, one_ptr, one_sl, one_hsl, one_map, one_fn, List.length_cons, List.length_nil, List.set_cons_zero, List.set_cons_succ, Nat.reduceLT, Nat.reduceAdd, qG_un, w1, w2, hwd]
        refine hcont m _ _ (by omega) ⟨_, _, _, _, _, _, _, _, _, _, _, _, _, _, _, _, _, _, _, by omega, hj2.2, hk2, ?_, hev2, by simp; omega, by simp; omega, rfl, hfn5, mk3, ck2 0 _ (Ne.symm hb0) h02⟩
        rw [hn, hb]
        simp [nmsB, nms]
    | zero =>
      have hp : ¬ (((0 : Nat) : Int) > 0) := by omega
      have ldw := fun k => qLdA_whole (R := Prop) (n := 4) mk.get rfl k
      have al : allOne [.int .i64 (7 + ((c / 7 % 2 : Nat) : Int)), .str [], nv, lv] = true := by
        simp only [allOne_cons, allOne_nil, one_int, one_str, mk.n.one, mk.l.one, Bool.and_true]
      have st := fun k => qSt_whole (R := Prop) (n := 4) h0 rfl rfl al k
      have ldf := fun k => qLdA_whole (R := Prop) (H := H'.set 0 (some (.cells [.int .i64 (7 + ((c / 7 % 2 : Nat) : Int)), .str [], nv, lv]))) (i := 0) (n := 4) (by rw [get_set_i (lt_i h0), if_pos rfl]) rfl k
      simp -implicitDefEqProofs only [l25_5, r25_18, r25_25, opn_z, opn_s, sel_z, sel_s, qCd_eq, qIf_true, qIf_false, qFn_eq, qBl_eq, qO_some, qRes_val, qHp_some, qPick_true, qPick_false, qG_tt, qG_ff, qG_tf, qG_ft, cellsK_some, qLd_vptr, qLdA_vptr, qFa_ptr, qFa_vptr, qNc_ptr, qNc_vptr, qNc_fn, qNot_bool, qExt_tup, qCallV_fn, qLss_int, qLeq_int, qGtr_int, qGeq_int, qEql_int, qNeq_int, qAdd_int, qSub_int, qMul_int, qConvI_int, qLenL_sl, qLenL_hsl, qLenS_str, foldO, min2_int, max2_int, qSame_refl, Nat.zero_add, List.getElem?_cons_zero, List.getElem?_cons_succ, List.nil_append, List.cons_append, List.append_nil, one_bool, one_int, one_str, one_nilp, one_ptr, one_sl, one_hsl, one_map, one_fn, List.length_cons, List.length_nil, List.set_cons_zero, List.set_cons_succ, Nat.reduceLT, Nat.reduceAdd, qG_un, hp, decide_false, ldw, st, qPtr_ptr, ldf]
      simp only [kids, nmsB, nms, List.append_nil] at hk hn
      have hn' : nmsB (c / 7 % 2 == 1) (c / 14 % 4) = nsd := by
        rw [nmsB, hn]; cases (c / 7 % 2 == 1) <;> simp
      obtain ⟨t1, e1⟩ := mk.n.sl
      obtain ⟨t2, e2⟩ := mk.l.sl
      have q := hQ [.int .i64 (7 + ((c / 7 % 2 : Nat) : Int)), .str [], nv, lv] (H'.set 0 (some (.cells [.int .i64 (7 + ((c / 7 % 2 : Nat) : Int)), .str [], nv, lv])))
      simp only [tree, hk, hn'] at q
      exact q ⟨t1, t2, rows, by rw [e1, e2], hev⟩
  · exact ⟨i + 1, [], [], [], .sl [] .nil, .sl [] .nil, _, _, _, _, _, _, _, _, _, _, _, _, _, hm3, hi, rfl, rfl, rfl, by simp, by simp, rfl, x5.fn, ⟨x3, .nil, .nil, fun t ht => by obtain ⟨r, hr⟩ := ht; injection hr with _ hr; cases hr⟩, (x6 0 _ g0).1⟩

theorem ep25 {ch : List Int} (hl : ch.length < 1000000) : ∀ D, D < 100 → ∀ tk, MadeAt ch tk D := by
  intro D
  induction D with
  | zero =>
    intro _ tk i hi
    obtain ⟨v, ⟨r, rfl, h2⟩, h3⟩ := uo_form_ex (X := X) (D := OD2) (O := OF2) (S := PS) (al := [.sl (iRows ch) tk, .int .i64 (i : Int), .int .i64 ((0 : Nat) : Int)]) e25 xf25 rfl rfl
      (by simp only [AV.kills, AV.kill, AV.frees, Tk.kill_free, iRows_kill, iRows_free]; rfl)
      (Q := fun v => ∃ r, v = .tup [.agg r, .int .i64 ((made 0 ch i).2 : Int)] ∧ EV (made 0 ch i).1 r) (by
        simp only [AV.kills, AV.kill, iRows_kill]
        refine made_leaf_walk hl (D := 0) (by omega) _ _ (fun row H ev => ?_) (fun _ => .inr (by omega))
        obtain ⟨a1, a2⟩ := EV.kill _ _ ev
        refine ⟨?_, _, rfl, a1⟩
        simp only [AV.kill, AV.kills, AV.free, AV.frees, a2]; rfl)
    exact ⟨r, h2, h3⟩
  | succ d ih =>
    intro hd tk i hi
    obtain ⟨v, ⟨r, rfl, h2⟩, h3⟩ := uo_form_ex (X := X) (D := OD2) (O := OF2) (S := PS) (al := [.sl (iRows ch) tk, .int .i64 (i : Int), .int .i64 ((d + 1 : Nat) : Int)]) e25 xf25 rfl rfl
      (by simp only [AV.kills, AV.kill, AV.frees, Tk.kill_free, iRows_kill, iRows_free]; rfl)
      (Q := fun v => ∃ r, v = .tup [.agg r, .int .i64 ((made (d + 1) ch i).2 : Int)] ∧ EV (made (d + 1) ch i).1 r) (by
        simp only [AV.kills, AV.kill, iRows_kill]
        have hq : ∀ row (H : AH), EV (made (d + 1) ch i).1 row → (AV.tup [.agg row, .int .i64 ((made (d + 1) ch i).2 : Int)]).kill.free = true ∧ ∃ r, (AV.tup [.agg row, .int .i64 ((made (d + 1) ch i).2 : Int)]).kill = .tup [.agg r, .int .i64 ((made (d + 1) ch i).2 : Int)] ∧ EV (made (d + 1) ch i).1 r := by
          intro row H ev
          obtain ⟨a1, a2⟩ := EV.kill _ _ ev
          refine ⟨?_, _, rfl, a1⟩
          simp only [AV.kill, AV.kills, AV.free, AV.frees, a2]; rfl
        by_cases hx : ∃ h : i < ch.length, chz ch[i] % 7 = 4 ∧ d ≠ 0
        · obtain ⟨h, hc, h0⟩ := hx
          exact made_tree_walk hl (by omega) h0 _ (ih (by omega) _) h hc _ hq
        · refine made_leaf_walk hl (D := d + 1) (by omega) _ _ hq (fun h => ?_)
          have hb : ch[i]! = ch[i] := by simp [h]
          rw [hb]
          by_cases hc : chz ch[i] % 7 = 4
          · by_cases h0 : d = 0
            · exact .inr (by omega)
            · exact absurd ⟨h, hc, h0⟩ hx
          · exact .inl hc)
    exact ⟨r, h2, h3⟩
end T
set_option linter.unusedVariables false
set_option linter.unusedSimpArgs false
set_option maxRecDepth 10000
namespace T
open Go Go.Aes Go.Proofs

/-! ### Check, and Text of what is not right -/
theorem bxV {H : AH} [IsFn H] {r : List AV} (ha : allOne r = true) (k : AV → AH → Prop) : qBox (.agg r) H k = k (.ptr H.nx 0) (H.push (.cells r)) := by
  rw [qBox_i, cells_agg, ha]; rfl
theorem ep19 {v : Val} {r : List AV} (ev : EV v r) (hsz : vsz v) (H : AH) : EP 19 [.agg r] H = some (.val (.bool (rightF 12 v)) H) := by
  obtain ⟨a1, a2⟩ := EV.kill _ _ ev
  refine uo_form e19 xf19 rfl rfl (by simp only [AV.kills, AV.kill, AV.frees, AV.free, a2]; rfl) rfl ?_ H
  simp only [AV.kills, AV.kill]
  have bx := fun k => bxV (H := H0) a1.ones k
  have ld := fun k => qLdA_whole (R := Prop) (n := 4) (H := H0.push (.cells (AV.kills r))) (i := H0.nx) (get_push_at _) a1.four k
  have hc := fun H => ep45 12 (by omega) v _ a1 hsz H
  have hc' : ∀ H, EP 45 [.agg (AV.kills r), .int .i64 12] H = some (.val (.bool (rightF 12 v)) H) := hc
  simp -implicitDefEqProofs only [c19, r19_0, r19_1, opn_z, opn_s, sel_z, sel_s, qCd_eq, qIf_true, qIf_false, qFn_eq, qBl_eq, qO_some, qRes_val, qHp_some, qPick_true, qPick_false, qG_tt, qG_ff, qG_tf, qG_ft, cellsK_some, qLd_vptr, qLdA_vptr, qFa_ptr, qFa_vptr, qNc_ptr, qNc_vptr, qNc_fn, qNot_bool, qExt_tup, qCallV_fn, qLss_int, qLeq_int, qGtr_int, qGeq_int, qEql_int, qNeq_int, qAdd_int, qSub_int, qMul_int, qConvI_int, qLenL_sl, qLenL_hsl, qLenS_str, foldO, min2_int, max2_int, qSame_refl, Nat.zero_add, List.getElem?_cons_zero, List.getElem?_cons_succ, List.nil_append, List.cons_append, List.append_nil, one_bool, one_int, one_str, one_nilp, one_ptr, one_sl, one_hsl, one_map, one_fn, List.length_cons, List.length_nil, List.set_cons_zero, List.set_cons_succ, Nat.reduceLT, Nat.reduceAdd, qG_un, bx, ld, hc', AV.kill]

theorem check_walk {H : AH} [IsFn H] {kind : Int} {s : Str} {ns : List Str} {l : List Val} {nv : AV} {i len cap : Nat} {g : Bool} {rows : List (List AV)} (hN : Rd H 1 (strRows ns) nv) (hL : Rd H 4 rows (.hsl i 0 len cap 4 g)) (hE : EVs l rows)
    (hsz : vsz (.mk kind s ns l)) : ∃ H', EP 19 [.agg [.int .i64 kind, .str s, nv, .hsl i 0 len cap 4 g]] H = some (.val (.bool (rightF 12 (.mk kind s ns l))) H') ∧ Kp H H' (fun _ => False) := by
  have hfr : (PS 19 && AV.frees (AV.kills [.agg [.int .i64 kind, .str s, nv, .hsl i 0 len cap 4 g]])) = false := by
    simp only [AV.kills, AV.kill, AV.frees, AV.free, Bool.and_false, Bool.false_and]
  obtain ⟨v, H', h1, h2, h3⟩ := ao_form (X := X) (D := OD2) (O := OF2) (S := PS) (al := [.agg [.int .i64 kind, .str s, nv, .hsl i 0 len cap 4 g]]) (H := H) e19 xf19 rfl hfr (Q := fun v H' => v = .bool (rightF 12 (.mk kind s ns l)) ∧ Kp H H' (fun _ => False)) (by
    have al : allOne [.int .i64 kind, .str s, nv, .hsl i 0 len cap 4 g] = true := by
      simp only [allOne_cons, allOne_nil, one_int, one_str, one_hsl, hN.one, Bool.and_true]
    have bx := fun k => bxV (H := H) al k
    have ld := fun k => qLdA_whole (R := Prop) (n := 4) (H := H.push (.cells [.int .i64 kind, .str s, nv, .hsl i 0 len cap 4 g])) (i := H.nx) (get_push_at _) rfl k
    have kp : Kp H (H.push (.cells [.int .i64 kind, .str s, nv, .hsl i 0 len cap 4 g])) (fun _ => False) := Kp.push _ _
    obtain ⟨H', e, kp'⟩ := ep45h 11 (by omega) (hN.kp kp) (hL.kp kp) hE hsz
    have e' : EP 45 [.agg [.int .i64 kind, .str s, nv, .hsl i 0 len cap 4 g], .int .i64 12] (H.push (.cells [.int .i64 kind, .str s, nv, .hsl i 0 len cap 4 g])) = some (.val (.bool (rightF 12 (.mk kind s ns l))) H') := e
    simp -implicitDefEqProofs only [c19, r19_0, r19_1, opn_z, opn_s, sel_z, sel_s, qCd_eq, qIf_true, qIf_false, qFn_eq, qBl_eq, qO_some, qRes_val, qHp_some, qPick_true, qPick_false, qG_tt, qG_ff, qG_tf, qG_ft, cellsK_some, qLd_vptr, qLdA_vptr, qFa_ptr, qFa_vptr, qNc_ptr, qNc_vptr, qNc_fn, qNot_bool, qExt_tup, qCallV_fn, qLss_int, qLeq_int, qGtr_int, qGeq_int, qEql_int, qNeq_int, qAdd_int, qSub_int, qMul_int, qConvI_int, qLenL_sl, qLenL_hsl, qLenS_str, foldO, min2_int, max2_int, qSame_refl, Nat.zero_add, List.getElem?_cons_zero, List.getElem?_cons_succ, List.nil_append, List.cons_append, List.append_nil, one_bool, one_int, one_str, one_nilp, one_ptr, one_sl, one_hsl, one_map, one_fn, List.length_cons, List.length_nil, List.set_cons_zero, List.set_cons_succ, Nat.reduceLT, Nat.reduceAdd, qG_un, bx, ld, e']
    exact ⟨trivial, kp.trans kp' (fun _ _ h => h)⟩)
  exact ⟨H', h1.trans (by rw [h2]), h3⟩

theorem text_wrong {H : AH} [IsFn H] {kind : Int} {s : Str} {ns : List Str} {l : List Val} {nv : AV} {i len cap : Nat} {g : Bool} {rows : List (List AV)} (hN : Rd H 1 (strRows ns) nv) (hL : Rd H 4 rows (.hsl i 0 len cap 4 g)) (hE : EVs l rows)
    (hsz : vsz (.mk kind s ns l)) (hw : rightF 12 (.mk kind s ns l) = false) : ∃ H', EP 21 [.agg [.int .i64 kind, .str s, nv, .hsl i 0 len cap 4 g]] H = some (.val (.str []) H') ∧ Kp H H' (fun _ => False) := by
  have hfr : (PS 21 && AV.frees (AV.kills [.agg [.int .i64 kind, .str s, nv, .hsl i 0 len cap 4 g]])) = false := by
    simp only [AV.kills, AV.kill, AV.frees, AV.free, Bool.and_false, Bool.false_and]
  obtain ⟨v, H', h1, h2, h3⟩ := ao_form (X := X) (D := OD2) (O := OF2) (S := PS) (al := [.agg [.int .i64 kind, .str s, nv, .hsl i 0 len cap 4 g]]) (H := H) e21 xf21 rfl hfr (Q := fun v H' => v = .str [] ∧ Kp H H' (fun _ => False)) (by
    have al : allOne [.int .i64 kind, .str s, nv, .hsl i 0 len cap 4 g] = true := by
      simp only [allOne_cons, allOne_nil, one_int, one_str, one_hsl, hN.one, Bool.and_true]
    have bx := fun k => bxV (H := H) al k
    have ld := fun k => qLdA_whole (R := Prop) (n := 4) (H := H.push (.cells [.int .i64 kind, .str s, nv, .hsl i 0 len cap 4 g])) (i := H.nx) (get_push_at _) rfl k
    have kp : Kp H (H.push (.cells [.int .i64 kind, .str s, nv, .hsl i 0 len cap 4 g])) (fun _ => False) := Kp.push _ _
    obtain ⟨H', e, kp'⟩ := check_walk (hN.kp kp) (hL.kp kp) hE hsz
    rw [hw] at e
    simp -implicitDefEqProofs only [c21, r21_0, r21_1, r21_2, opn_z, opn_s, sel_z, sel_s, qCd_eq, qIf_true, qIf_false, qFn_eq, qBl_eq, qO_some, qRes_val, qHp_some, qPick_true, qPick_false, qG_tt, qG_ff, qG_tf, qG_ft, cellsK_some, qLd_vptr, qLdA_vptr, qFa_ptr, qFa_vptr, qNc_ptr, qNc_vptr, qNc_fn, qNot_bool, qExt_tup, qCallV_fn, qLss_int, qLeq_int, qGtr_int, qGeq_int, qEql_int, qNeq_int, qAdd_int, qSub_int, qMul_int, qConvI_int, qLenL_sl, qLenL_hsl, qLenS_str, foldO, min2_int, max2_int, qSame_refl, Nat.zero_add, List.getElem?_cons_zero, List.getElem?_cons_succ, List.nil_append, List.cons_append, List.append_nil, one_bool, one_int, one_str, one_nilp, one_ptr, one_sl, one_hsl, one_map, one_fn, List.length_cons, List.length_nil, List.set_cons_zero, List.set_cons_succ, Nat.reduceLT, Nat.reduceAdd, qG_un, bx, ld, e, Bool.not_false]
    exact ⟨trivial, kp.trans kp' (fun _ _ h => h)⟩)
  exact ⟨H', h1.trans (by rw [h2]), h3⟩
end T
