import Derived.Test.YtphgikpdbaeeoaaDoorRvE
import Derived.Test.YtphgikpdbaeeoaaDoorRdY
set_option linter.all false
set_option linter.unusedVariables false
set_option linter.unusedSimpArgs false
set_option maxRecDepth 10000
namespace T
open Go Go.Aes Go.Proofs

/-! ### the document's names of an object -/
theorem nmF_at {ns : List Str} {i : Nat} {n : Str} (h : ns[i]? = some n) : nmF (ns.take i) (ns.drop i) = if (ns.take i).contains n || !Lib.validD n then false else nmF (ns.take (i + 1)) (ns.drop (i + 1)) := by
  have hl := (List.getElem?_eq_some_iff.1 h).1
  have hd : ns.drop i = n :: ns.drop (i + 1) := by
    rw [List.drop_eq_getElem_cons hl]
    congr 1
    have := List.getElem?_eq_getElem hl
    rw [h] at this
    injection this with this
    exact this.symm
  rw [hd]
  simp only [nmF]
  rw [take_succ' h]

theorem strAt {ns : List Str} {i : Nat} {n : Str} (h : ns[i]? = some n) (tk : Tk) (H : AH) (k : AV → Prop) : (qIa 1 (.sl (strRows ns) tk) (.int .i64 (i : Int)) fun v => qLd v H k) = k (.str n) := by
  rw [qIa_strs h]
  rfl

set_option maxHeartbeats 1000000 in
theorem ep74 (ns : List Str) (tk : Tk) (hl : ns.length < 1000000000) (hs : ∀ n ∈ ns, n.length < 1000000000000) (H : AH) : EP 74 [.sl (strRows ns) tk] H = some (.val (.bool (nmF [] ns)) H) := by
  refine uo_form (X := X) (D := OD2) (O := OF2) (S := PS) (al := [.sl (strRows ns) tk]) e74 xf74 rfl rfl (by simp only [AV.kills, AV.kill, AV.frees, Tk.kill_free, strRows_kill, strRows_free]; rfl) rfl ?_ H
  simp only [AV.kills, AV.kill, strRows_kill]
  generalize tk.kill = tk
  have ln := fun k => (qLenL_sl (R := Prop) k (strRows ns) tk)
  rw [strRows_len] at ln
  simp -implicitDefEqProofs only [c74, r74_0, r74_1, opn_z, opn_s, qFn_eq, qBl_eq]
  refine loop_inv (fun m fr H' => ∃ (i : Nat) (x2 x4 x8 x16 x19 x30 : AV), m = ns.length - i ∧ i ≤ ns.length ∧ fr = [.sl (strRows ns) tk, x2, .int .i64 (i : Int), x4, x8, x16, x19, x30] ∧ nmF [] ns = nmF (ns.take i) (ns.drop i)) ?_ (m := ns.length) ?_
  case refine_2 => exact ⟨0, _, _, _, _, _, _, rfl, by omega, rfl, by simp⟩
  rintro m fr H' k ⟨i, x2, x4, x8, x16, x19, x30, rfl, hi, rfl, hX⟩ hk
  rcases Nat.lt_or_ge i ns.length with h | h
  case inr =>
    have c1 : ¬ (i : Int) < (ns.length : Int) := by omega
    rw [List.drop_of_length_le h] at hX
    simp -implicitDefEqProofs only [l74_10, r74_2, r74_11, opn_z, opn_s, sel_z, sel_s, qCd_eq, qIf_false, qBl_eq, qLss_int, ln, c1, decide_false, AV.kill]
    rw [hX]
    rfl
  have c1 : (i : Int) < (ns.length : Int) := by omega
  obtain ⟨n, hn⟩ : ∃ n, ns[i]? = some n := ⟨_, List.getElem?_eq_getElem h⟩
  rw [nmF_at hn] at hX
  have sa := fun H k => strAt hn tk H k
  have hnl := hs n (List.mem_of_getElem? hn)
  have e35 := fun H => ep35 n (by omega) H
  cases hv : Lib.validD n with
  | false =>
    rw [hv] at e35 hX
    simp -implicitDefEqProofs only [l74_10, r74_2, r74_4, r74_5, opn_z, opn_s, sel_z, sel_s, qCd_eq, qIf_true, qBl_eq, qRes_val, qNot_bool, qLss_int, ln, c1, decide_true, sa, e35, Bool.not_false, AV.kill]
    rw [hX, if_pos (by simp)]
  | true =>
  rw [hv] at e35 hX
  simp only [Bool.not_true, Bool.or_false] at hX
  have hwi := wrap_up i (by omega)
  simp -implicitDefEqProofs only [l74_10, r74_2, r74_4, r74_6, opn_z, opn_s, sel_z, sel_s, qCd_eq, qIf_true, qIf_false, qBl_eq, qRes_val, qNot_bool, qLss_int, ln, c1, decide_true, sa, e35, Bool.not_true]
  refine loop_inv (fun m fr H'' => ∃ (j : Nat) (x2 x8 x16 x19 x30 : AV), m = i - j ∧ j ≤ i ∧ fr = [.sl (strRows ns) tk, x2, .int .i64 (i : Int), .int .i64 (j : Int), x8, x16, x19, x30] ∧ ∀ x ∈ ns.take j, x ≠ n) ?_ (m := i) ?_
  case refine_2 => exact ⟨0, _, _, _, _, _, rfl, by omega, rfl, by simp⟩
  rintro m fr H'' k2 ⟨j, x2, x8, x16, x19, x30, rfl, hj, rfl, hA⟩ hk2
  rcases Nat.lt_or_ge j i with h2 | h2
  · have c2 : (j : Int) < (i : Int) := by omega
    obtain ⟨x, hx⟩ : ∃ n, ns[j]? = some n := ⟨_, List.getElem?_eq_getElem (show j < ns.length by omega)⟩
    have sx := fun H k => strAt hx tk H k
    have hwj := wrap_up j (by omega)
    by_cases hq : x = n
    · have hq' := decide_eq_true hq
      simp -implicitDefEqProofs only [l74_8, r74_7, r74_9, r74_10, opn_z, opn_s, sel_z, sel_s, qCd_eq, qIf_true, qBl_eq, qLss_int, c2, decide_true, sx, sa, qEql_str, hq', AV.kill]
      rw [hX, if_pos]
      rw [List.contains_iff_mem, ← hq]
      exact List.mem_of_getElem? (i := j) (by rw [List.getElem?_take, if_pos h2]; exact hx)
    · have hq' := decide_eq_false hq
      simp -implicitDefEqProofs only [l74_8, r74_7, r74_9, r74_8, opn_z, opn_s, sel_z, sel_s, qCd_eq, qIf_true, qIf_false, qBl_eq, qLss_int, qAdd_int, c2, decide_true, sx, sa, qEql_str, hq', hwj]
      refine hk2 (i - (j + 1)) _ _ (by omega) ⟨j + 1, _, _, _, _, _, rfl, h2, rfl, ?_⟩
      rw [take_succ' hx]
      intro y hy
      rcases List.mem_append.1 hy with hy | hy
      · exact hA y hy
      · obtain rfl := List.mem_singleton.1 hy
        exact hq
  · have c2 : ¬ (j : Int) < (i : Int) := by omega
    obtain rfl : j = i := by omega
    simp -implicitDefEqProofs only [l74_8, r74_7, r74_3, opn_z, opn_s, sel_z, sel_s, qCd_eq, qIf_false, qBl_eq, qLss_int, qAdd_int, c2, decide_false, hwi]
    refine hk (ns.length - (j + 1)) _ _ (by omega) ⟨j + 1, _, _, _, _, _, _, rfl, h, rfl, ?_⟩
    rw [hX, if_neg]
    rw [List.contains_iff_mem]
    exact fun hm => hA n hm rfl

/-! ### the document's right values -/
def Right2Ok (d : Nat) : Prop := ∀ (v : Val) (r : List AV), EV v r → vsz v → ∀ H, EP 46 [.agg r, .int .i64 (d : Int)] H = some (.val (.bool (rightF d v)) H)

theorem gt_len {α : Type} (l : List α) : decide ((l.length : Int) > 0) = !l.isEmpty := by
  cases l with
  | nil => rfl
  | cons a l => simp
theorem right_few {d : Nat} {kind : Int} {s : Str} {ns : List Str} {l : List Val} (hk : kind < 7) (h : ns ≠ [] ∨ l ≠ []) : rightF (d + 1) (.mk kind s ns l) = false := by
  have hb : (decide (ns = []) && decide (l = [])) = false := by
    rcases h with h | h
    · simp [h]
    · simp [h]
  simp only [rightF]
  by_cases h1 : kind = 1
  · rw [if_pos h1, hb]; rfl
  rw [if_neg h1]
  by_cases h2 : kind = 2
  · rw [if_pos h2, hb]; rfl
  rw [if_neg h2]
  by_cases h3 : kind = 3 ∨ kind = 4
  · rw [if_pos h3, hb]; rfl
  rw [if_neg h3]
  by_cases h5 : kind = 5
  · rw [if_pos h5, hb]; rfl
  rw [if_neg h5, if_neg (by omega), if_neg (by omega)]

set_option maxHeartbeats 1000000 in
theorem right2_loop (d : Nat) (hd : d < 1000) (ih : Right2Ok d) {H1 : AH} [IsFn H1] {p : Nat} {kind : Int} {s : Str} {ns : List Str} {l : List Val} {rows : List (List AV)} {t1 t2 : Tk} (hE : EVs l rows) (hsz : vszs l) (hl : l.length < 1000000000)
    (g : H1.get p = some (.cells [.int .i64 kind, .str s, .sl (strRows ns) t1, .sl rows t2])) (V : Bool) (hV : V = (l.all (rightF d) && decide (s = []))) (x0 x4 x5 x6 x7 x32 x34 x35 x40 x50 x56 x63 x68 x73 x74 x88 x93 x104 : AV) :
    (r46_22 (qBl (fun k1 => (qLoop (l46_5 EP k1 (fun fr (_ : AH) => (sel 3 fr).kill = .bool V)))) (r46_27 (fun fr (_ : AH) => (sel 3 fr).kill = .bool V)))) [x0, .int .i64 ((d + 1 : Nat) : Int), .ptr p 0, x4, x5, x6, x7, x32, x34, x35, x40, x50, x56, x63, x68, x73, x74, x88, x93, x104] H1 := by
  have P1 := fun k => ld1 (R := Prop) g 1 _ rfl k
  have P3 := fun k => ld1 (R := Prop) g 3 _ rfl k
  have lr := hE.len
  simp -implicitDefEqProofs only [r46_22, opn_z, opn_s, qBl_eq]
  refine loop_inv (fun m fr H' => ∃ (i : Nat) (x0 x4 x5 x6 x32 x34 x35 x40 x50 x56 x63 x68 x73 x74 x88 x93 x104 : AV), m = l.length - i ∧ i ≤ l.length ∧ (∀ v ∈ l.take i, rightF d v = true) ∧ fr = [x0, .int .i64 ((d + 1 : Nat) : Int), .ptr p 0, x4, x5, x6, .int .i64 (i : Int), x32, x34, x35, x40, x50, x56, x63, x68, x73, x74, x88, x93, x104] ∧ H' = H1) ?_ (m := l.length) ?_
  case refine_2 => exact ⟨0, _, _, _, _, _, _, _, _, _, _, _, _, _, _, _, _, _, rfl, by omega, by simp, rfl, rfl⟩
  rintro m fr H' k ⟨i, x0, x4, x5, x6, x32, x34, x35, x40, x50, x56, x63, x68, x73, x74, x88, x93, x104, rfl, hi, hall, rfl, rfl⟩ hk
  rcases Nat.lt_or_ge i l.length with h | h
  · have c1 : (i : Int) < (l.length : Int) := by omega
    obtain ⟨r, e1, e2⟩ := hE.get (List.getElem?_eq_getElem h)
    have ia := fun k => qIa_rows (R := Prop) (tk := t2) e1 e2.four k
    have la := fun (H : AH) k => (show qLdA (R := Prop) 4 (.vptr r 0) H k = k (.agg r) by rw [qLdA_vptr, slice_whole r 4 e2.four, qO_some])
    have hd1 : IntKind.i64.wrap (((d + 1 : Nat) : Int) - 1) = (d : Int) := wrap_dn d (by omega)
    have hc := fun H => ih l[i] r e2 (vszs_mem hsz _ (List.getElem_mem h)) H
    have hw := wrap_up i (by omega)
    cases hs : rightF d l[i] with
    | true =>
      rw [hs] at hc
      simp -implicitDefEqProofs only [l46_5, r46_23, r46_25, r46_24, opn_z, opn_s, sel_z, sel_s, qCd_eq, qIf_true, qIf_false, qBl_eq, qRes_val, qFa_ptr, qNot_bool, qLss_int, qAdd_int, qSub_int, qLenL_sl, Nat.zero_add, P3, lr, c1, decide_true, ia, la, hd1, hc, Bool.not_true, hw]
      refine hk (l.length - (i + 1)) _ _ (by omega) ⟨i + 1, _, _, _, _, _, _, _, _, _, _, _, _, _, _, _, _, _, rfl, h, ?_, rfl, rfl⟩
      rw [take_succ' (List.getElem?_eq_getElem h)]
      intro v hv
      rcases List.mem_append.1 hv with hv | hv
      · exact hall v hv
      · obtain rfl := List.mem_singleton.1 hv
        exact hs
    | false =>
      rw [hs] at hc
      simp -implicitDefEqProofs only [l46_5, r46_23, r46_25, r46_26, opn_z, opn_s, sel_z, sel_s, qCd_eq, qIf_true, qBl_eq, qRes_val, qFa_ptr, qNot_bool, qLss_int, qSub_int, qLenL_sl, Nat.zero_add, P3, lr, c1, decide_true, ia, la, hd1, hc, Bool.not_false, AV.kill]
      have : l.all (rightF d) = false := by
        rw [← Bool.not_eq_true]
        intro e
        have := List.all_eq_true.1 e _ (List.getElem_mem h)
        rw [hs] at this; cases this
      rw [hV, this]; rfl
  · have c1 : ¬ (i : Int) < (l.length : Int) := by omega
    rw [List.take_of_length_le h] at hall
    have : l.all (rightF d) = true := List.all_eq_true.2 hall
    simp -implicitDefEqProofs only [l46_5, r46_23, r46_27, opn_z, opn_s, sel_z, sel_s, qCd_eq, qIf_false, qBl_eq, qFa_ptr, qLss_int, qLenL_sl, Nat.zero_add, P3, P1, lr, c1, decide_false, qEql_str, AV.kill]
    rw [hV, this]; rfl

theorem beqI_eq (a b : Int) : (a == b) = decide (a = b) := by rw [Bool.eq_iff_iff]; simp

set_option maxHeartbeats 4000000 in
theorem right2_step (d : Nat) (hd : d < 1000) (ih : Right2Ok d) : Right2Ok (d + 1) := by
  intro v r0 hv hz H
  obtain ⟨a1, a2⟩ := EV.kill _ _ hv
  refine uo_form e46 xf46 rfl rfl (by simp only [AV.kills, AV.kill, AV.frees, AV.free, a2]; rfl) rfl ?_ H
  simp only [AV.kills, AV.kill]
  obtain ⟨kind, s, ns, l⟩ := v
  obtain ⟨t1, t2, rows, h1, hE⟩ := a1
  rw [h1]
  obtain ⟨z1, z2, z3, z4, z5⟩ := hz
  clear hv a2 h1
  have bx := fun k => bxV (H := H0) (r := [.int .i64 kind, .str s, .sl (strRows ns) t1, .sl rows t2]) rfl k
  have g := get_push_at (H := H0) (.cells [.int .i64 kind, .str s, .sl (strRows ns) t1, .sl rows t2])
  have e16 := fun H => ep16 s z1 H
  have hif : IsFn (H0.push (.cells [.int .i64 kind, .str s, .sl (strRows ns) t1, .sl rows t2])) := inferInstance
  simp -implicitDefEqProofs only [c46, r46_0, opn_z, opn_s, qFn_eq, qBl_eq, bx]
  generalize H0.push (.cells [.int .i64 kind, .str s, .sl (strRows ns) t1, .sl rows t2]) = H1 at *
  generalize H0.nx = p at *
  have P0 := fun k => ld1 (R := Prop) g 0 _ rfl k
  have P1 := fun k => ld1 (R := Prop) g 1 _ rfl k
  have P2 := fun k => ld1 (R := Prop) g 2 _ rfl k
  have P3 := fun k => ld1 (R := Prop) g 3 _ rfl k
  obtain ⟨nn, hnn⟩ : ∃ n, n = ns.length := ⟨_, rfl⟩
  obtain ⟨nl, hnl⟩ : ∃ n, n = l.length := ⟨_, rfl⟩
  have ln : (strRows ns).length = nn := (strRows_len ns).trans hnn.symm
  have lr : rows.length = nl := hE.len.trans hnl.symm
  have d1 : ¬ (((d + 1 : Nat) : Int) < 1) := by omega
  have q1 := beqI_eq kind 1
  have q2 := beqI_eq kind 2
  have q3 := beqI_eq kind 3
  have q4 := beqI_eq kind 4
  have q5 := beqI_eq kind 5
  have q7 := beqI_eq kind 7
  have q8 := beqI_eq kind 8
  by_cases hk7 : kind < 7
  · by_cases hl0 : l = []
    case neg =>
      have g1 : 0 < (nl : Int) := by
        have := List.length_pos_iff.2 hl0
        omega
      rw [right_few hk7 (.inr hl0)]
      simp -implicitDefEqProofs only [r46_1, r46_2, r46_3, opn_z, opn_s, sel_z, sel_s, qCd_eq, qIf_true, qO_some, qRes_val, qPick_true, qPick_false, qG_tt, qG_ff, qG_tf, qFa_ptr, qExt_tup, qLss_int, qGtr_int, qLenL_sl, Nat.zero_add, List.getElem?_cons_zero, List.getElem?_cons_succ, P0, P1, P3, e16, d1, hk7, lr, g1, decide_true, decide_false, AV.kill]
    have g1 : ¬ 0 < (nl : Int) := by
      rw [hl0] at hnl
      have : nl = 0 := hnl
      omega
    by_cases hn0 : ns = []
    case neg =>
      have g2 : 0 < (nn : Int) := by
        have := List.length_pos_iff.2 hn0
        omega
      rw [right_few hk7 (.inl hn0)]
      simp -implicitDefEqProofs only [r46_1, r46_2, r46_3, opn_z, opn_s, sel_z, sel_s, qCd_eq, qIf_true, qO_some, qRes_val, qPick_true, qPick_false, qG_tt, qG_ff, qFa_ptr, qExt_tup, qLss_int, qGtr_int, qLenL_sl, Nat.zero_add, List.getElem?_cons_zero, List.getElem?_cons_succ, P0, P1, P2, P3, e16, d1, hk7, lr, ln, g1, g2, decide_true, decide_false, AV.kill]
    have g2 : ¬ 0 < (nn : Int) := by
      rw [hn0] at hnn
      have : nn = 0 := hnn
      omega
    simp -implicitDefEqProofs only [r46_1, r46_2, r46_4, opn_z, opn_s, sel_z, sel_s, qCd_eq, qIf_false, qO_some, qRes_val, qPick_true, qPick_false, qG_tt, qG_ff, qFa_ptr, qExt_tup, qLss_int, qGtr_int, qLenL_sl, Nat.zero_add, List.getElem?_cons_zero, List.getElem?_cons_succ, P0, P1, P2, P3, e16, d1, hk7, lr, ln, g1, g2, decide_true, decide_false]
    simp only [rightF]
    have b1 := decide_eq_true hn0
    have b2 := decide_eq_true hl0
    have n7 : ¬ kind = 7 := by omega
    have n8 : ¬ kind = 8 := by omega
    rw [decide_eq_false n7] at q7
    rw [decide_eq_false n8] at q8
    by_cases h1 : kind = 1
    · rw [decide_eq_true h1] at q1
      simp -implicitDefEqProofs only [r46_6, r46_7, opn_z, opn_s, sel_z, sel_s, qCd_eq, qIf_true, qFa_ptr, qEql_int, Nat.zero_add, P1, q1, qEql_str, AV.kill]
      rw [if_pos h1, b1, b2]; simp
    rw [decide_eq_false h1] at q1
    rw [if_neg h1]
    by_cases h2 : kind = 2
    · rw [decide_eq_true h2] at q2
      rw [if_pos h2]
      by_cases hT : s = sT
      · have hT' := decide_eq_true hT
        unfold sT at hT'
        simp -implicitDefEqProofs only [r46_6, r46_8, r46_9, opn_z, opn_s, sel_z, sel_s, qCd_eq, qIf_true, qIf_false, qPick_true, qG_tf, qFa_ptr, qEql_int, Nat.zero_add, P1, q1, q2, qEql_str, hT', AV.kill]
        rw [b1, b2]; simp [hT]
      · have hT' := decide_eq_false hT
        unfold sT at hT'
        simp -implicitDefEqProofs only [r46_6, r46_8, r46_9, opn_z, opn_s, sel_z, sel_s, qCd_eq, qIf_true, qIf_false, qPick_false, qG_ff, qFa_ptr, qEql_int, Nat.zero_add, P1, q1, q2, qEql_str, hT', AV.kill]
        rw [b1, b2]; simp [hT, sF]; try rfl
    rw [decide_eq_false h2] at q2
    rw [if_neg h2]
    by_cases h3 : kind = 3
    · rw [decide_eq_true h3] at q3
      rw [if_pos (.inl h3), decide_eq_true h3]
      cases hn : (num s).2 with
      | true =>
        simp -implicitDefEqProofs only [r46_6, r46_8, r46_10, r46_11, opn_z, opn_s, sel_z, sel_s, qCd_eq, qIf_true, qIf_false, qPick_true, qG_tt, qEql_int, q1, q2, q3, AV.kill]
        rw [b1, b2]; simp
      | false =>
        simp -implicitDefEqProofs only [r46_6, r46_8, r46_10, r46_11, opn_z, opn_s, sel_z, sel_s, qCd_eq, qIf_true, qIf_false, qPick_false, qG_ft, qEql_int, q1, q2, q3, AV.kill]
        rw [b1, b2]; simp
    rw [decide_eq_false h3] at q3
    by_cases h4 : kind = 4
    · rw [decide_eq_true h4] at q4
      rw [if_pos (.inr h4), decide_eq_false h3]
      cases hn : (num s).2 with
      | true =>
        simp -implicitDefEqProofs only [r46_6, r46_8, r46_10, r46_12, r46_13, opn_z, opn_s, sel_z, sel_s, qCd_eq, qIf_true, qIf_false, qPick_true, qG_tt, qNot_bool, qEql_int, q1, q2, q3, q4, AV.kill]
        rw [b1, b2]; cases (num s).1 <;> simp
      | false =>
        simp -implicitDefEqProofs only [r46_6, r46_8, r46_10, r46_12, r46_13, opn_z, opn_s, sel_z, sel_s, qCd_eq, qIf_true, qIf_false, qPick_false, qG_ft, qEql_int, q1, q2, q3, q4, AV.kill]
        rw [b1, b2]; simp
    rw [decide_eq_false h4] at q4
    rw [if_neg (by rintro (h | h) <;> contradiction)]
    by_cases h5 : kind = 5
    · rw [decide_eq_true h5] at q5
      have e35 := fun H => ep35 s (by omega) H
      rw [if_pos h5]
      simp -implicitDefEqProofs only [r46_6, r46_8, r46_10, r46_12, r46_14, r46_15, opn_z, opn_s, sel_z, sel_s, qCd_eq, qIf_true, qIf_false, qRes_val, qFa_ptr, qEql_int, Nat.zero_add, P1, q1, q2, q3, q4, q5, e35, AV.kill]
      rw [b1, b2]; simp
    rw [decide_eq_false h5] at q5
    rw [if_neg h5, if_neg n7, if_neg n8]
    simp -implicitDefEqProofs only [r46_6, r46_8, r46_10, r46_12, r46_14, r46_16, r46_19, r46_5, opn_z, opn_s, sel_z, sel_s, qCd_eq, qIf_false, qEql_int, q1, q2, q3, q4, q5, q7, q8, AV.kill]
  · have n1 : ¬ kind = 1 := by omega
    have n2 : ¬ kind = 2 := by omega
    have n3 : ¬ kind = 3 := by omega
    have n4 : ¬ kind = 4 := by omega
    have n5 : ¬ kind = 5 := by omega
    rw [decide_eq_false n1] at q1
    rw [decide_eq_false n2] at q2
    rw [decide_eq_false n3] at q3
    rw [decide_eq_false n4] at q4
    rw [decide_eq_false n5] at q5
    simp only [rightF]
    rw [if_neg n1, if_neg n2, if_neg (by rintro (h | h) <;> contradiction), if_neg n5]
    simp -implicitDefEqProofs only [r46_1, r46_2, r46_4, opn_z, opn_s, sel_z, sel_s, qCd_eq, qIf_false, qO_some, qRes_val, qPick_false, qG_ff, qG_ft, qFa_ptr, qExt_tup, qLss_int, Nat.zero_add, List.getElem?_cons_zero, List.getElem?_cons_succ, qG_un, P0, P1, e16, d1, hk7, decide_false]
    by_cases h7 : kind = 7
    · rw [decide_eq_true h7] at q7
      rw [if_pos h7]
      by_cases hn0 : ns = []
      case neg =>
        have g2 : 0 < (nn : Int) := by
          have := List.length_pos_iff.2 hn0
          omega
        simp -implicitDefEqProofs only [r46_6, r46_8, r46_10, r46_12, r46_14, r46_16, r46_17, r46_18, opn_z, opn_s, sel_z, sel_s, qCd_eq, qIf_true, qIf_false, qFa_ptr, qGtr_int, qEql_int, qLenL_sl, Nat.zero_add, P2, q1, q2, q3, q4, q5, q7, ln, g2, decide_true, AV.kill]
        rw [decide_eq_false hn0]
        simp
      case pos =>
        have g2 : ¬ 0 < (nn : Int) := by
          rw [hn0] at hnn
          have : nn = 0 := hnn
          omega
        simp -implicitDefEqProofs only [r46_6, r46_8, r46_10, r46_12, r46_14, r46_16, r46_17, opn_z, opn_s, sel_z, sel_s, qCd_eq, qIf_true, qIf_false, qFa_ptr, qGtr_int, qEql_int, qLenL_sl, Nat.zero_add, P2, q1, q2, q3, q4, q5, q7, ln, g2, decide_false]
        refine right2_loop d hd ih hE z5 z4 g _ ?_ _ _ _ _ _ _ _ _ _ _ _ _ _ _ _ _ _ _
        rw [decide_eq_true hn0]
        cases hb : l.all (rightF d) <;> simp
    rw [decide_eq_false h7] at q7
    rw [if_neg h7]
    by_cases h8 : kind = 8
    case neg =>
      rw [decide_eq_false h8] at q8
      rw [if_neg h8]
      simp -implicitDefEqProofs only [r46_6, r46_8, r46_10, r46_12, r46_14, r46_16, r46_19, r46_5, opn_z, opn_s, sel_z, sel_s, qCd_eq, qIf_false, qEql_int, q1, q2, q3, q4, q5, q7, q8, AV.kill]
    rw [decide_eq_true h8] at q8
    rw [if_pos h8]
    have hq := beq_nat nn nl
    have hnl' : (nn = nl) = (ns.length = l.length) := by rw [hnn, hnl]
    by_cases hln : nn = nl
    · rw [decide_eq_true hln] at hq
      have e74 := fun H => ep74 ns t1 z2 z3 H
      rw [decide_eq_true (hnl'.mp hln)]
      cases hn : nmF [] ns with
      | false =>
        rw [hn] at e74
        simp -implicitDefEqProofs only [r46_6, r46_8, r46_10, r46_12, r46_14, r46_16, r46_19, r46_20, r46_21, opn_z, opn_s, sel_z, sel_s, qCd_eq, qIf_true, qIf_false, qRes_val, qPick_false, qG_ff, qFa_ptr, qNot_bool, qEql_int, qNeq_int, qLenL_sl, Nat.zero_add, P2, P3, ln, lr, q1, q2, q3, q4, q5, q7, q8, hq, Bool.not_true, e74, Bool.not_false, AV.kill]
        simp
      | true =>
        rw [hn] at e74
        simp -implicitDefEqProofs only [r46_6, r46_8, r46_10, r46_12, r46_14, r46_16, r46_19, r46_20, opn_z, opn_s, sel_z, sel_s, qCd_eq, qIf_true, qIf_false, qRes_val, qPick_false, qG_ff, qFa_ptr, qNot_bool, qEql_int, qNeq_int, qLenL_sl, Nat.zero_add, P2, P3, ln, lr, q1, q2, q3, q4, q5, q7, q8, hq, Bool.not_true, e74]
        refine right2_loop d hd ih hE z5 z4 g _ ?_ _ _ _ _ _ _ _ _ _ _ _ _ _ _ _ _ _ _
        cases hb : l.all (rightF d) <;> simp
    · rw [decide_eq_false hln] at hq
      rw [decide_eq_false (fun h => hln (hnl'.mpr h))]
      simp -implicitDefEqProofs only [r46_6, r46_8, r46_10, r46_12, r46_14, r46_16, r46_19, r46_20, r46_21, opn_z, opn_s, sel_z, sel_s, qCd_eq, qIf_true, qIf_false, qPick_true, qG_tf, qFa_ptr, qEql_int, qNeq_int, qLenL_sl, Nat.zero_add, P2, P3, ln, lr, q1, q2, q3, q4, q5, q7, q8, hq, Bool.not_false, AV.kill]
      simp
theorem right2_zero : Right2Ok 0 := by
  intro v r0 hv hz H
  obtain ⟨a1, a2⟩ := EV.kill _ _ hv
  refine uo_form e46 xf46 rfl rfl (by simp only [AV.kills, AV.kill, AV.frees, AV.free, a2]; rfl) rfl ?_ H
  simp only [AV.kills, AV.kill]
  obtain ⟨kind, s, ns, l⟩ := v
  obtain ⟨t1, t2, rows, h1, hE⟩ := a1
  rw [h1]
  obtain ⟨z1, z2, z3, z4, z5⟩ := hz
  have bx := fun k => bxV (H := H0) (r := [.int .i64 kind, .str s, .sl (strRows ns) t1, .sl rows t2]) rfl k
  have g := get_push_at (H := H0) (.cells [.int .i64 kind, .str s, .sl (strRows ns) t1, .sl rows t2])
  have P1 := fun k => ld1 (R := Prop) g 1 _ rfl k
  have e16 := fun H => ep16 s z1 H
  have d1 : (((0 : Nat) : Int) < 1) := by omega
  simp -implicitDefEqProofs only [c46, r46_0, r46_1, r46_2, r46_3, opn_z, opn_s, sel_z, sel_s, qCd_eq, qIf_true, qFn_eq, qBl_eq, qO_some, qRes_val, qPick_true, qG_tf, qFa_ptr, qExt_tup, qLss_int, Nat.zero_add, List.getElem?_cons_zero, List.getElem?_cons_succ, qG_un, bx, P1, e16, d1, decide_true, AV.kill]
  rfl
theorem ep46 : ∀ d, d < 1000 → Right2Ok d
  | 0, _ => right2_zero
  | d + 1, h => right2_step d (by omega) (ep46 d (by omega))
theorem ep20 {v : Val} {r : List AV} (ev : EV v r) (hsz : vsz v) (H : AH) : EP 20 [.agg r] H = some (.val (.bool (rightF 12 v)) H) := by
  obtain ⟨a1, a2⟩ := EV.kill _ _ ev
  refine uo_form e20 xf20 rfl rfl (by simp only [AV.kills, AV.kill, AV.frees, AV.free, a2]; rfl) rfl ?_ H
  simp only [AV.kills, AV.kill]
  have bx := fun k => bxV (H := H0) a1.ones k
  have ld := fun k => qLdA_whole (R := Prop) (n := 4) (H := H0.push (.cells (AV.kills r))) (i := H0.nx) (get_push_at _) a1.four k
  have hc := fun H => ep46 12 (by omega) v _ a1 hsz H
  have hc' : ∀ H, EP 46 [.agg (AV.kills r), .int .i64 12] H = some (.val (.bool (rightF 12 v)) H) := hc
  simp -implicitDefEqProofs only [c20, r20_0, r20_1, opn_z, opn_s, sel_z, sel_s, qFn_eq, qRes_val, bx, ld, hc', AV.kill]
end T
