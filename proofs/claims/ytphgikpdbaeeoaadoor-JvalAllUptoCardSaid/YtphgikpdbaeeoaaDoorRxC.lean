import Derived.Test.YtphgikpdbaeeoaaDoorRxB
import Derived.Test.YtphgikpdbaeeoaaDoorRdZ
set_option linter.all false
set_option linter.unusedVariables false
set_option linter.unusedSimpArgs false
set_option maxRecDepth 10000
namespace T
open Go Go.Aes Go.Proofs

/-! ### the document's Same -/
def Same2Ok (v : Val) : Prop := ∀ (w : Val) (r q : List AV), EV v r → EV w q → vsz v → vsz w → ∀ H, EP 24 [.agg r, .agg q] H = some (.val (.bool (sameF v w)) H)

set_option maxHeartbeats 2000000 in
theorem same2_node {kind : Int} {s : Str} {ns : List Str} {l : List Val} (ih : ∀ v ∈ l, Same2Ok v) : Same2Ok (.mk kind s ns l) := by
  intro w r0 q0 hv hw hzv hzw H
  obtain ⟨a1, a2⟩ := EV.kill _ _ hv
  obtain ⟨b1, b2⟩ := EV.kill _ _ hw
  refine uo_form e24 xf24 rfl rfl (by simp only [AV.kills, AV.kill, AV.frees, AV.free, a2, b2]; rfl) rfl ?_ H
  simp only [AV.kills, AV.kill]
  cases w with
  | mk kind' s' ns' l' =>
  obtain ⟨t1, t2, rows, h1, hE⟩ := a1
  obtain ⟨u1, u2, rows', h2, hE'⟩ := b1
  rw [h1, h2]
  obtain ⟨z1, z2, z3, z4, z5⟩ := hzv
  obtain ⟨y1, y2, y3, y4, y5⟩ := hzw
  clear hv hw a2 b2 h1 h2
  have bx1 := fun k => bxV (H := H0) (r := [.int .i64 kind, .str s, .sl (strRows ns) t1, .sl rows t2]) rfl k
  have g1' := get_push_at (H := H0) (.cells [.int .i64 kind, .str s, .sl (strRows ns) t1, .sl rows t2])
  have bx2 := fun k => bxV (H := H0.push (.cells [.int .i64 kind, .str s, .sl (strRows ns) t1, .sl rows t2])) (r := [.int .i64 kind', .str s', .sl (strRows ns') u1, .sl rows' u2]) rfl k
  have g2 := get_push_at (H := H0.push (.cells [.int .i64 kind, .str s, .sl (strRows ns) t1, .sl rows t2])) (.cells [.int .i64 kind', .str s', .sl (strRows ns') u1, .sl rows' u2])
  have g1 : ((H0.push (.cells [.int .i64 kind, .str s, .sl (strRows ns) t1, .sl rows t2])).push (.cells [.int .i64 kind', .str s', .sl (strRows ns') u1, .sl rows' u2])).get H0.nx = _ := (get_push_lt _ (lt_i g1')).trans g1'
  have hif : IsFn ((H0.push (.cells [.int .i64 kind, .str s, .sl (strRows ns) t1, .sl rows t2])).push (.cells [.int .i64 kind', .str s', .sl (strRows ns') u1, .sl rows' u2])) := inferInstance
  simp -implicitDefEqProofs only [c24, r24_0, opn_z, opn_s, qFn_eq, qBl_eq, bx1, bx2]
  generalize (H0.push (.cells [.int .i64 kind, .str s, .sl (strRows ns) t1, .sl rows t2])).nx = p2 at *
  generalize (H0.push (.cells [.int .i64 kind, .str s, .sl (strRows ns) t1, .sl rows t2])).push (.cells [.int .i64 kind', .str s', .sl (strRows ns') u1, .sl rows' u2]) = H1 at *
  generalize H0.nx = p1 at *
  clear g1' bx1 bx2
  have A0 := fun k => ld1 (R := Prop) g1 0 _ rfl k
  have A1 := fun k => ld1 (R := Prop) g1 1 _ rfl k
  have A2 := fun k => ld1 (R := Prop) g1 2 _ rfl k
  have A3 := fun k => ld1 (R := Prop) g1 3 _ rfl k
  have B0 := fun k => ld1 (R := Prop) g2 0 _ rfl k
  have B1 := fun k => ld1 (R := Prop) g2 1 _ rfl k
  have B2 := fun k => ld1 (R := Prop) g2 2 _ rfl k
  have B3 := fun k => ld1 (R := Prop) g2 3 _ rfl k
  have ln := strRows_len ns
  have ln' := strRows_len ns'
  have lr := hE.len
  have lr' := hE'.len
  have hd : ∀ a b : Nat, (((a : Nat) : Int) == ((b : Nat) : Int)) = decide (a = b) := fun a b => by rw [Bool.eq_iff_iff]; simp; omega
  have hk : (kind == kind') = decide (kind = kind') := by rw [Bool.eq_iff_iff]; simp
  by_cases k1 : kind = kind'
  case neg =>
    rw [decide_eq_false k1] at hk
    simp -implicitDefEqProofs only [r24_1, r24_2, opn_z, opn_s, sel_z, sel_s, qCd_eq, qIf_true, qPick_true, qG_tf, qFa_ptr, qNeq_int, Nat.zero_add, A0, B0, hk, Bool.not_false, AV.kill]
    simp [sameF, k1]
  rw [decide_eq_true k1] at hk
  by_cases k2 : s = s'
  case neg =>
    have hs := decide_eq_false k2
    simp -implicitDefEqProofs only [r24_1, r24_2, opn_z, opn_s, sel_z, sel_s, qCd_eq, qIf_true, qPick_true, qPick_false, qG_ff, qG_tf, qFa_ptr, qNeq_int, Nat.zero_add, A0, B0, A1, B1, hk, Bool.not_true, Bool.not_false, qNeq_str, hs, AV.kill]
    simp [sameF, k2]
  have hs := decide_eq_true k2
  by_cases k3 : ns.length = ns'.length
  case neg =>
    have hn : ((ns.length : Int) == (ns'.length : Int)) = false := by rw [hd, decide_eq_false k3]
    simp -implicitDefEqProofs only [r24_1, r24_2, opn_z, opn_s, sel_z, sel_s, qCd_eq, qIf_true, qPick_true, qPick_false, qG_ff, qG_tf, qFa_ptr, qNeq_int, qLenL_sl, Nat.zero_add, A0, B0, A1, B1, A2, B2, hk, Bool.not_true, Bool.not_false, qNeq_str, hs, ln, ln', hn, AV.kill]
    have : ns ≠ ns' := fun e => k3 (by rw [e])
    simp [sameF, this]
  have hn : ((ns.length : Int) == (ns'.length : Int)) = true := by rw [hd, decide_eq_true k3]
  by_cases k4 : l.length = l'.length
  case neg =>
    have hll : (((rows.length : Nat) : Int) == ((rows'.length : Nat) : Int)) = false := by rw [lr, lr', hd, decide_eq_false k4]
    simp -implicitDefEqProofs only [r24_1, r24_2, opn_z, opn_s, sel_z, sel_s, qCd_eq, qIf_true, qPick_false, qG_ff, qFa_ptr, qNeq_int, qLenL_sl, Nat.zero_add, A0, B0, A1, B1, A2, B2, A3, B3, hk, Bool.not_true, Bool.not_false, qNeq_str, hs, ln, ln', hn, hll, AV.kill]
    simp [sameF, samesF_len k4]
  have hll : (((rows.length : Nat) : Int) == ((rows'.length : Nat) : Int)) = true := by rw [lr, lr', hd, decide_eq_true k4]
  simp -implicitDefEqProofs only [r24_1, r24_3, opn_z, opn_s, sel_z, sel_s, qCd_eq, qIf_false, qPick_false, qG_ff, qFa_ptr, qNeq_int, qLenL_sl, Nat.zero_add, A0, B0, A1, B1, A2, B2, A3, B3, hk, Bool.not_true, qNeq_str, hs, hn, hll, ln, ln']
  refine loop_inv (fun m fr H' => ∃ (i : Nat) (x0 x1 x4 x6 x36 x41 x54 x59 x73 : AV), m = ns.length - i ∧ i ≤ ns.length ∧ fr = [x0, x1, .ptr p1 0, .ptr p2 0, x4, .int .i64 (i : Int), x6, x36, x41, x54, x59, x73] ∧ H1 = H' ∧ ns.take i = ns'.take i) ?_ (m := ns.length) ?_
  case refine_2 => exact ⟨0, _, _, _, _, _, _, _, _, _, rfl, by omega, rfl, rfl, rfl⟩
  rintro m fr H' k ⟨i, x0, x1, x4, x6, x36, x41, x54, x59, x73, rfl, hi, rfl, rfl, htk⟩ hcont
  rcases Nat.lt_or_ge i ns.length with h | h
  · have h' : (i : Int) < (ns.length : Int) := by omega
    have hi2 : i < ns'.length := by omega
    have ia := fun k => qIa_strs (tk := t1) (show ns[i]? = some ns[i] from List.getElem?_eq_getElem h) k
    have ib := fun k => qIa_strs (tk := u1) (show ns'[i]? = some ns'[i] from List.getElem?_eq_getElem hi2) k
    have l1 := fun (s : Str) (H : AH) (k : AV → Prop) => (show qLd (.vptr [.str s] 0) H k = k (.str s) from rfl)
    have hw := wrap_up i (by omega)
    by_cases hq : ns[i] = ns'[i]
    · have hq' := decide_eq_true hq
      simp -implicitDefEqProofs only [l24_10, r24_4, r24_5, r24_6, opn_z, opn_s, sel_z, sel_s, qCd_eq, qIf_true, qIf_false, qBl_eq, qFa_ptr, qLss_int, qAdd_int, qLenL_sl, Nat.zero_add, h', decide_true, ia, ib, l1, A2, B2, ln, qNeq_str, hq', Bool.not_true, hw]
      refine hcont (ns.length - (i + 1)) _ _ (by omega) ⟨i + 1, _, _, _, _, _, _, _, _, _, rfl, h, rfl, rfl, ?_⟩
      rw [take_succ' (List.getElem?_eq_getElem h), take_succ' (List.getElem?_eq_getElem hi2), htk, hq]
    · have hq' := decide_eq_false hq
      simp -implicitDefEqProofs only [l24_10, r24_4, r24_6, r24_7, opn_z, opn_s, sel_z, sel_s, qCd_eq, qIf_true, qBl_eq, qFa_ptr, qLss_int, qLenL_sl, Nat.zero_add, h', decide_true, ia, ib, l1, A2, B2, ln, qNeq_str, hq', Bool.not_false, AV.kill]
      have : ns ≠ ns' := by
        intro e
        subst e
        exact hq rfl
      simp [sameF, this]
  have h' : ¬ (i : Int) < (ns.length : Int) := by omega
  have hnn : ns = ns' := by
    rw [List.take_of_length_le h, List.take_of_length_le (by omega)] at htk
    exact htk
  simp -implicitDefEqProofs only [l24_10, r24_4, r24_8, opn_z, opn_s, sel_z, sel_s, qCd_eq, qIf_false, qBl_eq, qFa_ptr, qLss_int, qLenL_sl, Nat.zero_add, h', decide_false, A2, ln]
  clear hcont
  refine loop_inv (fun m fr H' => ∃ (i : Nat) (x0 x1 x4 x5 x36 x41 x54 x59 x73 : AV), m = l.length - i ∧ i ≤ l.length ∧ fr = [x0, x1, .ptr p1 0, .ptr p2 0, x4, x5, .int .i64 (i : Int), x36, x41, x54, x59, x73] ∧ H1 = H' ∧ (∀ (j : Nat) (h : j < l.length) (h' : j < l'.length), j < i → sameF l[j] l'[j] = true)) ?_ (m := l.length) ?_
  case refine_2 => exact ⟨0, _, _, _, _, _, _, _, _, _, rfl, by omega, rfl, rfl, fun j _ _ h => by omega⟩
  rintro m fr H' k ⟨j, x0, x1, x4, x5, x36, x41, x54, x59, x73, rfl, hj, rfl, rfl, hall⟩ hcont
  rcases Nat.lt_or_ge j l.length with hlt | hge
  · have h2' : (j : Int) < (l.length : Int) := by omega
    have hj2 : j < l'.length := by omega
    obtain ⟨r, e1, e2⟩ := hE.get (List.getElem?_eq_getElem hlt)
    obtain ⟨q, f1, f2⟩ := hE'.get (List.getElem?_eq_getElem hj2)
    have ia := fun k => qIa_rows (R := Prop) (tk := t2) e1 e2.four k
    have ib := fun k => qIa_rows (R := Prop) (tk := u2) f1 f2.four k
    have la := fun (H : AH) k => (show qLdA (R := Prop) 4 (.vptr r 0) H k = k (.agg r) by rw [qLdA_vptr, slice_whole r 4 e2.four, qO_some])
    have lb := fun (H : AH) k => (show qLdA (R := Prop) 4 (.vptr q 0) H k = k (.agg q) by rw [qLdA_vptr, slice_whole q 4 f2.four, qO_some])
    have hw := wrap_up j (by omega)
    have hc := fun H => ih l[j] (List.getElem_mem hlt) l'[j] r q e2 f2 (vszs_mem z5 _ (List.getElem_mem hlt)) (vszs_mem y5 _ (List.getElem_mem hj2)) H
    cases hs2 : sameF l[j] l'[j] with
    | true =>
      rw [hs2] at hc
      simp -implicitDefEqProofs only [l24_5, r24_9, r24_10, r24_11, opn_z, opn_s, sel_z, sel_s, qCd_eq, qIf_true, qIf_false, qBl_eq, qRes_val, qFa_ptr, qNot_bool, qLss_int, qAdd_int, qLenL_sl, Nat.zero_add, h2', decide_true, ia, la, A3, B3, lr, ib, lb, hc, Bool.not_true, hw]
      refine hcont (l.length - (j + 1)) _ _ (by omega) ⟨j + 1, _, _, _, _, _, _, _, _, _, rfl, hlt, rfl, rfl, fun i hi hi' hij => ?_⟩
      rcases Nat.lt_or_ge i j with h | h
      · exact hall i hi hi' h
      · obtain rfl : i = j := by omega
        exact hs2
    | false =>
      rw [hs2] at hc
      simp -implicitDefEqProofs only [l24_5, r24_9, r24_11, r24_12, opn_z, opn_s, sel_z, sel_s, qCd_eq, qIf_true, qBl_eq, qRes_val, qFa_ptr, qNot_bool, qLss_int, qLenL_sl, Nat.zero_add, h2', decide_true, ia, la, A3, B3, lr, ib, lb, hc, Bool.not_false, AV.kill]
      simp [sameF, samesF_no k4 hlt hj2 hs2]
  · have h2' : ¬ (j : Int) < (l.length : Int) := by omega
    simp -implicitDefEqProofs only [l24_5, r24_9, r24_13, opn_z, opn_s, sel_z, sel_s, qCd_eq, qIf_false, qBl_eq, qFa_ptr, qLss_int, qLenL_sl, Nat.zero_add, A3, lr, h2', decide_false, AV.kill]
    have : l = l' := by
      apply List.ext_getElem k4
      intro i hi hi'
      exact (sameF_eq _ _).1 (hall i hi hi' (by omega))
    have h3 := (sameF_eq (.mk kind s ns l) (.mk kind' s' ns' l')).2 (by rw [k1, k2, hnn, this])
    rw [h3]

mutual
theorem same2_all : ∀ v, Same2Ok v
  | .mk k s ns l => same2_node (sames2_all l)
theorem sames2_all : ∀ (l : List Val), ∀ v ∈ l, Same2Ok v
  | [], v, hv => by cases hv
  | a :: l, v, hv => by
    rcases List.mem_cons.1 hv with h | hv
    · rw [h]; exact same2_all a
    · exact sames2_all l v hv
end
theorem ep24 {v w : Val} {r q : List AV} (hv : EV v r) (hw : EV w q) (h1 : vsz v) (h2 : vsz w) (H : AH) : EP 24 [.agg r, .agg q] H = some (.val (.bool (sameF v w)) H) := same2_all v w r q hv hw h1 h2 H

/-! ### not too much -/
def FewV (v : Val) : Prop := ∀ (r : List AV) (d : Nat), EV v r → vsz v → d ≤ 1000 → ∃ w, (∃ b, w = .bool b) ∧ ∀ H, EP 13 [.agg r, .int .i64 (d : Int)] H = some (.val w H)

theorem few_step (kk : Int) (s : Str) (ns : List Str) (l : List Val) (ih : ∀ v ∈ l, FewV v) : FewV (.mk kk s ns l) := by
  intro r d hr hv hd
  obtain ⟨a1, a2⟩ := EV.kill _ _ hr
  refine uo_form_ex e13 xf13 rfl rfl (by simp only [AV.kills, AV.kill, AV.frees, AV.free, a2]; rfl) ?_
  simp only [AV.kills, AV.kill]
  obtain ⟨t1, t2, rows, h1, h2⟩ := a1
  rw [h1]
  obtain ⟨v1, v2, v3, v4, v5⟩ := hv
  have l1 := h2.len
  have bx1 := fun k => bxV (H := H0) (r := [.int .i64 kk, .str s, .sl (strRows ns) t1, .sl rows t2]) rfl k
  have g0 := get_push_at (H := H0) (.cells [.int .i64 kk, .str s, .sl (strRows ns) t1, .sl rows t2])
  have hif : IsFn (H0.push (.cells [.int .i64 kk, .str s, .sl (strRows ns) t1, .sl rows t2])) := inferInstance
  simp -implicitDefEqProofs only [c13, r13_0, opn_z, opn_s, qFn_eq, qBl_eq, bx1]
  generalize H0.push (.cells [.int .i64 kk, .str s, .sl (strRows ns) t1, .sl rows t2]) = Ha at *
  generalize H0.nx = p at *
  have p1 := fun k => ld1 (R := Prop) g0 1 _ rfl k
  have p2 := fun k => ld1 (R := Prop) g0 2 _ rfl k
  have p3 := fun k => ld1 (R := Prop) g0 3 _ rfl k
  have hls := strRows_len ns
  by_cases c0 : (d : Int) = 0
  · have b0 : ((d : Int) == 0) = true := by simp [c0]
    simp -implicitDefEqProofs only [r13_1, r13_2, opn_z, opn_s, sel_z, sel_s, qCd_eq, qIf_true, qPick_true, qG_tf, qEql_int, b0]
    exact ⟨rfl, _, rfl⟩
  have b0 : ((d : Int) == 0) = false := by
    simp only [beq_eq_false_iff_ne, ne_eq]
    exact c0
  by_cases c1 : (12 : Int) < (l.length : Int)
  · simp -implicitDefEqProofs only [r13_1, r13_2, opn_z, opn_s, sel_z, sel_s, qCd_eq, qIf_true, qPick_true, qPick_false, qG_ff, qG_tf, qFa_ptr, qGtr_int, qEql_int, qLenL_sl, Nat.zero_add, b0, p3, l1, c1, decide_true]
    exact ⟨rfl, _, rfl⟩
  by_cases c2 : (12 : Int) < (ns.length : Int)
  · simp -implicitDefEqProofs only [r13_1, r13_2, opn_z, opn_s, sel_z, sel_s, qCd_eq, qIf_true, qPick_true, qPick_false, qG_ff, qG_tf, qFa_ptr, qGtr_int, qEql_int, qLenL_sl, Nat.zero_add, b0, p2, p3, hls, l1, c1, c2, decide_true, decide_false]
    exact ⟨rfl, _, rfl⟩
  by_cases c3 : (100 : Int) < (s.length : Int)
  · simp -implicitDefEqProofs only [r13_1, r13_2, opn_z, opn_s, sel_z, sel_s, qCd_eq, qIf_true, qPick_false, qG_ff, qFa_ptr, qGtr_int, qEql_int, qLenL_sl, qLenS_str, Nat.zero_add, b0, p1, p2, p3, hls, l1, c1, c2, c3, decide_true, decide_false]
    exact ⟨rfl, _, rfl⟩
  simp -implicitDefEqProofs only [r13_1, r13_3, opn_z, opn_s, sel_z, sel_s, qCd_eq, qIf_false, qPick_false, qG_ff, qFa_ptr, qGtr_int, qEql_int, qLenL_sl, qLenS_str, Nat.zero_add, b0, p1, p2, p3, hls, l1, c1, c2, c3, decide_false]
  refine loop_inv (fun m fr H => ∃ (i : Nat) (x0 x4 x6 x26 x31 x40 x45 x56 : AV), m = ns.length - i ∧ i ≤ ns.length ∧
    fr = [x0, .int .i64 (d : Int), .ptr p 0, x4, .int .i64 (i : Int), x6, x26, x31, x40, x45, x56] ∧ H = Ha) ?_ (m := ns.length) ?_
  · rintro m fr Hh k ⟨i, x0, x4, x6, x26, x31, x40, x45, x56, rfl, hi, rfl, rfl⟩ hk
    rcases Nat.lt_or_ge i ns.length with h | h
    · have h' : (i : Int) < (ns.length : Int) := by omega
      have ix := fun t H k => strAt (List.getElem?_eq_getElem h) t H k
      have hw := wrap_up i (by omega)
      by_cases c4 : (100 : Int) < (ns[i].length : Int)
      · simp -implicitDefEqProofs only [l13_10, r13_4, r13_6, r13_7, opn_z, opn_s, sel_z, sel_s, qCd_eq, qIf_true, qBl_eq, qFa_ptr, qLss_int, qGtr_int, qLenL_sl, qLenS_str, Nat.zero_add, p2, hls, h', decide_true, ix, c4]
        exact ⟨rfl, _, rfl⟩
      · simp -implicitDefEqProofs only [l13_10, r13_4, r13_5, r13_6, opn_z, opn_s, sel_z, sel_s, qCd_eq, qIf_true, qIf_false, qBl_eq, qFa_ptr, qLss_int, qGtr_int, qAdd_int, qLenL_sl, qLenS_str, Nat.zero_add, p2, hls, h', decide_true, ix, c4, decide_false, hw]
        exact hk (ns.length - (i + 1)) _ _ (by omega) ⟨i + 1, _, _, _, _, _, _, _, _, rfl, h, rfl, rfl⟩
    · have h' : ¬ (i : Int) < (ns.length : Int) := by omega
      simp -implicitDefEqProofs only [l13_10, r13_4, r13_8, opn_z, opn_s, sel_z, sel_s, qCd_eq, qIf_false, qBl_eq, qFa_ptr, qLss_int, qLenL_sl, Nat.zero_add, p2, hls, h', decide_false]
      refine loop_inv (fun m fr H => ∃ (i : Nat) (x0 x4 x5 x26 x31 x40 x45 x56 : AV), m = l.length - i ∧ i ≤ l.length ∧
        fr = [x0, .int .i64 (d : Int), .ptr p 0, x4, x5, .int .i64 (i : Int), x26, x31, x40, x45, x56] ∧ H = Hh) ?_ (m := l.length) ?_
      · rintro m fr H k ⟨i, x0, x4, x5, x26, x31, x40, x45, x56, rfl, hi, rfl, rfl⟩ hk
        rcases Nat.lt_or_ge i l.length with h | h
        · have h' : (i : Int) < (l.length : Int) := by omega
          obtain ⟨ra, e1, e2⟩ := h2.get (List.getElem?_eq_getElem h)
          have ix1 := fun k => qIa_rows (R := Prop) (tk := t2) e1 e2.four k
          have la : ∀ (H : AH) (k : AV → Prop), qLdA 4 (.vptr ra 0) H k = k (.agg ra) := fun H k => by rw [qLdA_vptr, slice_whole ra 4 e2.four, qO_some]
          obtain ⟨w, ⟨b, rfl⟩, hc⟩ := ih _ (List.getElem_mem h) ra (d - 1) e2 (vszs_mem v5 _ (List.getElem_mem h)) (by omega)
          have hc' := hc H
          have hd1 : IntKind.i64.wrap ((d : Int) - 1) = ((d - 1 : Nat) : Int) := by
            obtain ⟨e, rfl⟩ : ∃ e, d = e + 1 := ⟨d - 1, by omega⟩
            exact wrap_dn e (by omega)
          have hw := wrap_up i (by omega)
          cases b with
          | false =>
            simp -implicitDefEqProofs only [l13_5, r13_9, r13_11, r13_12, opn_z, opn_s, sel_z, sel_s, qCd_eq, qIf_true, qBl_eq, qRes_val, qFa_ptr, qNot_bool, qLss_int, qSub_int, qLenL_sl, Nat.zero_add, p3, l1, h', decide_true, ix1, la, hd1, hc', Bool.not_false]
            exact ⟨rfl, _, rfl⟩
          | true =>
            simp -implicitDefEqProofs only [l13_5, r13_9, r13_10, r13_11, opn_z, opn_s, sel_z, sel_s, qCd_eq, qIf_true, qIf_false, qBl_eq, qRes_val, qFa_ptr, qNot_bool, qLss_int, qAdd_int, qSub_int, qLenL_sl, Nat.zero_add, p3, l1, h', decide_true, ix1, la, hd1, hc', Bool.not_true, hw]
            exact hk (l.length - (i + 1)) _ _ (by omega) ⟨i + 1, _, _, _, _, _, _, _, _, rfl, h, rfl, rfl⟩
        · have h' : ¬ (i : Int) < (l.length : Int) := by omega
          simp -implicitDefEqProofs only [l13_5, r13_9, r13_13, opn_z, opn_s, sel_z, sel_s, qCd_eq, qIf_false, qBl_eq, qFa_ptr, qLss_int, qLenL_sl, Nat.zero_add, p3, l1, h', decide_false]
          exact ⟨rfl, _, rfl⟩
      · exact ⟨0, _, _, _, _, _, _, _, _, rfl, by omega, rfl, rfl⟩
  · exact ⟨0, _, _, _, _, _, _, _, _, rfl, by omega, rfl, rfl⟩

mutual
theorem ep13 : ∀ v, FewV v
  | .mk k s ns l => few_step k s ns l (ep13s l)
theorem ep13s : ∀ (l : List Val), ∀ v ∈ l, FewV v
  | [], v, hv => by cases hv
  | a :: l, v, hv => by
    rcases List.mem_cons.1 hv with h | hv
    · rw [h]; exact ep13 a
    · exact ep13s l v hv
end

/-! ### Get -/
def zV : Val := .mk 0 [] [] []
def gF (n : Str) : List Str → List Val → Val × Bool
  | a :: ns, v :: l => if a = n then (v, true) else gF n ns l
  | _, _ => (zV, false)
def getV (n : Str) : Val → Val × Bool
  | .mk k _ ns l => if k = 8 then gF n ns l else (zV, false)
theorem zV_ev : EV zV z25 := ⟨.nil, .nil, [], rfl, rfl⟩
theorem gF_end {n : Str} {ns : List Str} {l : List Val} {i : Nat} (h : ns.length ≤ i ∨ l.length ≤ i) : gF n (ns.drop i) (l.drop i) = (zV, false) := by
  rcases h with h | h
  · rw [List.drop_of_length_le h]; rfl
  · rw [List.drop_of_length_le h]
    cases ns.drop i <;> rfl
theorem gF_at {n : Str} {ns : List Str} {l : List Val} {i : Nat} (h : i < ns.length) (h' : i < l.length) : gF n (ns.drop i) (l.drop i) = if ns[i] = n then (l[i], true) else gF n (ns.drop (i + 1)) (l.drop (i + 1)) := by
  rw [List.drop_eq_getElem_cons h, List.drop_eq_getElem_cons h']
  rfl
theorem gF_small {n : Str} : ∀ {ns : List Str} {l : List Val}, vszs l → vsz (gF n ns l).1
  | [], l, _ => by simp [gF, zV, vsz, vszs]
  | a :: ns, [], _ => by simp [gF, zV, vsz, vszs]
  | a :: ns, v :: l, h => by
    simp only [gF]
    split
    · exact h.1
    · exact gF_small h.2
theorem getV_small {n : Str} {v : Val} (h : vsz v) : vsz (getV n v).1 := by
  cases v
  simp only [getV]
  split
  · exact gF_small h.2.2.2.2
  · simp [zV, vsz, vszs]

def GetOk (f : Nat) : Prop := ∀ (v : Val) (r : List AV) (n : Str), EV v r → vsz v → ∃ w, (∃ q, EV (getV n v).1 q ∧ w = .tup [.agg q, .bool (getV n v).2]) ∧ ∀ H, EP f [.agg r, .str n] H = some (.val w H)

theorem got {v : Val} {q : List AV} {b : Bool} (h : EV v q) : (AV.kill (.tup [.agg q, .bool b])).free = true ∧ ∃ q', EV v q' ∧ AV.kill (.tup [.agg q, .bool b]) = .tup [.agg q', .bool b] := by
  obtain ⟨h1, h2⟩ := EV.kill _ _ h
  exact ⟨by simp only [AV.kill, AV.kills, AV.free, AV.frees, h2]; rfl, _, h1, by simp only [AV.kill, AV.kills]⟩

set_option maxHeartbeats 2000000 in
theorem ep18 : GetOk 18 := by
  intro v r0 n hv hz
  obtain ⟨a1, a2⟩ := EV.kill _ _ hv
  refine uo_form_ex e18 xf18 rfl rfl (by simp only [AV.kills, AV.kill, AV.frees, AV.free, a2]; rfl) ?_
  simp only [AV.kills, AV.kill]
  obtain ⟨kind, s, ns, l⟩ := v
  obtain ⟨t1, t2, rows, h1, hE⟩ := a1
  rw [h1]
  obtain ⟨z1, z2, z3, z4, z5⟩ := hz
  clear hv a2 h1
  have bx := fun k => bxV (H := H0) (r := [.int .i64 kind, .str s, .sl (strRows ns) t1, .sl rows t2]) rfl k
  have g' := get_push_at (H := H0) (.cells [.int .i64 kind, .str s, .sl (strRows ns) t1, .sl rows t2])
  have g := (get_push_lt (.cells z25) (lt_i g')).trans g'
  have gz := get_push_at (H := H0.push (.cells [.int .i64 kind, .str s, .sl (strRows ns) t1, .sl rows t2])) (.cells z25)
  have hif : IsFn ((H0.push (.cells [.int .i64 kind, .str s, .sl (strRows ns) t1, .sl rows t2])).push (.cells z25)) := inferInstance
  simp -implicitDefEqProofs only [c18, r18_0, r18_1, opn_z, opn_s, qFn_eq, qBl_eq, bx, qNew_i, wr_ptr]
  generalize (H0.push (.cells [.int .i64 kind, .str s, .sl (strRows ns) t1, .sl rows t2])).push (.cells z25) = H1 at *
  generalize (H0.push (.cells [.int .i64 kind, .str s, .sl (strRows ns) t1, .sl rows t2])).nx = z at *
  generalize H0.nx = p at *
  have P0 := fun k => ld1 (R := Prop) g 0 _ rfl k
  have P2 := fun k => ld1 (R := Prop) g 2 _ rfl k
  have P3 := fun k => ld1 (R := Prop) g 3 _ rfl k
  have ln := strRows_len ns
  have lr := hE.len
  have q8 := beqI_eq kind 8
  have st : ∀ (row : List AV), row.length = 4 → allOne row = true → ∀ k : AV → AH → Prop, qSt 4 (.ptr z 0) (.agg row) H1 k = k Aes.undef (H1.set z (some (.cells row))) := fun row h1 h2 k => qSt_whole (R := Prop) gz rfl h1 h2 k
  have ld : ∀ (row : List AV), row.length = 4 → ∀ k : AV → Prop, qLdA 4 (.ptr z 0) (H1.set z (some (.cells row))) k = k (.agg row) := fun row h1 k => qLdA_whole (R := Prop) (by rw [get_set_i (lt_i gz), if_pos rfl]) h1 k
  have stz := fun k => st z25 rfl rfl k
  have ldz := fun k => ld z25 rfl k
  have bz : ∀ k : AV → Prop, qBld z25 [] k = k (.agg z25) := fun k => rfl
  have hX0 : getV n (.mk kind s ns l) = if kind = 8 then gF n (ns.drop 0) (l.drop 0) else (zV, false) := rfl
  refine loop_inv (fun m fr H' => ∃ (i : Nat) (x0 x5 x23 x32 : AV), m = ns.length - i ∧ i ≤ ns.length ∧ fr = [x0, .str n, .ptr p 0, .ptr z 0, x5, .int .i64 (i : Int), x23, x32] ∧ H' = H1 ∧ getV n (.mk kind s ns l) = if kind = 8 then gF n (ns.drop i) (l.drop i) else (zV, false)) ?_ (m := ns.length) ?_
  case refine_2 => exact ⟨0, _, _, _, _, rfl, by omega, rfl, rfl, hX0⟩
  rintro m fr H' k ⟨i, x0, x5, x23, x32, rfl, hi, rfl, rfl, hX⟩ hk
  by_cases h8 : kind = 8
  case neg =>
    rw [decide_eq_false h8] at q8
    rw [if_neg h8] at hX
    simp -implicitDefEqProofs only [l18_5, r18_2, r18_6, opn_z, opn_s, sel_z, sel_s, qCd_eq, qIf_false, qBl_eq, qPick_false, qG_ft, qFa_ptr, qEql_int, Nat.zero_add, P0, q8, bz, stz, ldz]
    rw [hX]
    exact got zV_ev
  rw [decide_eq_true h8] at q8
  rw [if_pos h8] at hX
  rcases Nat.lt_or_ge i ns.length with h | h
  case inr =>
    have c1 : ¬ (i : Int) < (ns.length : Int) := by omega
    rw [gF_end (.inl h)] at hX
    simp -implicitDefEqProofs only [l18_5, r18_2, r18_6, opn_z, opn_s, sel_z, sel_s, qCd_eq, qIf_false, qBl_eq, qPick_true, qPick_false, qG_tt, qG_ft, qFa_ptr, qLss_int, qEql_int, qLenL_sl, Nat.zero_add, P0, P2, q8, ln, c1, decide_false, bz, stz, ldz]
    rw [hX]
    exact got zV_ev
  have c1 : (i : Int) < (ns.length : Int) := by omega
  rcases Nat.lt_or_ge i l.length with h2 | h2
  case inr =>
    have c2 : ¬ (i : Int) < (l.length : Int) := by omega
    rw [gF_end (.inr h2)] at hX
    simp -implicitDefEqProofs only [l18_5, r18_2, r18_6, opn_z, opn_s, sel_z, sel_s, qCd_eq, qIf_false, qBl_eq, qPick_true, qG_tt, qFa_ptr, qLss_int, qEql_int, qLenL_sl, Nat.zero_add, P0, P2, P3, q8, ln, lr, c1, c2, decide_true, decide_false, bz, stz, ldz]
    rw [hX]
    exact got zV_ev
  have c2 : (i : Int) < (l.length : Int) := by omega
  rw [gF_at h h2] at hX
  have sa := fun H k => strAt (List.getElem?_eq_getElem h) t1 H k
  have hw := wrap_up i (by omega)
  by_cases hq : ns[i] = n
  · have hq' := decide_eq_true hq
    rw [if_pos hq] at hX
    obtain ⟨r, e1, e2⟩ := hE.get (List.getElem?_eq_getElem h2)
    have ia := fun k => qIa_rows (R := Prop) (tk := t2) e1 e2.four k
    have la := fun (H : AH) k => (show qLdA (R := Prop) 4 (.vptr r 0) H k = k (.agg r) by rw [qLdA_vptr, slice_whole r 4 e2.four, qO_some])
    have str := fun k => st r e2.four e2.ones k
    have ldr := fun k => ld r e2.four k
    simp -implicitDefEqProofs only [l18_5, r18_2, r18_4, r18_5, opn_z, opn_s, sel_z, sel_s, qCd_eq, qIf_true, qBl_eq, qPick_true, qG_tt, qFa_ptr, qLss_int, qEql_int, qLenL_sl, Nat.zero_add, P0, P2, P3, q8, ln, lr, c1, c2, decide_true, sa, qEql_str, hq', ia, la, str, ldr]
    rw [hX]
    exact got e2
  · have hq' := decide_eq_false hq
    rw [if_neg hq] at hX
    simp -implicitDefEqProofs only [l18_5, r18_2, r18_4, r18_3, opn_z, opn_s, sel_z, sel_s, qCd_eq, qIf_true, qIf_false, qBl_eq, qPick_true, qG_tt, qFa_ptr, qLss_int, qEql_int, qAdd_int, qLenL_sl, Nat.zero_add, P0, P2, P3, q8, ln, lr, c1, c2, decide_true, sa, qEql_str, hq', hw]
    refine hk (ns.length - (i + 1)) _ _ (by omega) ⟨i + 1, _, _, _, _, rfl, h, rfl, rfl, ?_⟩
    rw [if_pos h8, hX]

set_option maxHeartbeats 2000000 in
theorem ep17 : GetOk 17 := by
  intro v r0 n hv hz
  obtain ⟨a1, a2⟩ := EV.kill _ _ hv
  refine uo_form_ex e17 xf17 rfl rfl (by simp only [AV.kills, AV.kill, AV.frees, AV.free, a2]; rfl) ?_
  simp only [AV.kills, AV.kill]
  obtain ⟨kind, s, ns, l⟩ := v
  obtain ⟨t1, t2, rows, h1, hE⟩ := a1
  rw [h1]
  obtain ⟨z1, z2, z3, z4, z5⟩ := hz
  clear hv a2 h1
  have bx := fun k => bxV (H := H0) (r := [.int .i64 kind, .str s, .sl (strRows ns) t1, .sl rows t2]) rfl k
  have g' := get_push_at (H := H0) (.cells [.int .i64 kind, .str s, .sl (strRows ns) t1, .sl rows t2])
  have g := (get_push_lt (.cells z25) (lt_i g')).trans g'
  have gz := get_push_at (H := H0.push (.cells [.int .i64 kind, .str s, .sl (strRows ns) t1, .sl rows t2])) (.cells z25)
  have hif : IsFn ((H0.push (.cells [.int .i64 kind, .str s, .sl (strRows ns) t1, .sl rows t2])).push (.cells z25)) := inferInstance
  have ln := strRows_len ns
  have lr := hE.len
  simp -implicitDefEqProofs only [c17, r17_0, opn_z, opn_s, qFn_eq, qBl_eq, bx, qNew_i, wr_ptr]
  generalize (H0.push (.cells [.int .i64 kind, .str s, .sl (strRows ns) t1, .sl rows t2])).push (.cells z25) = H1 at *
  generalize (H0.push (.cells [.int .i64 kind, .str s, .sl (strRows ns) t1, .sl rows t2])).nx = z at *
  generalize H0.nx = p at *
  have P0 := fun k => ld1 (R := Prop) g 0 _ rfl k
  have P2 := fun k => ld1 (R := Prop) g 2 _ rfl k
  have P3 := fun k => ld1 (R := Prop) g 3 _ rfl k
  have q8 := beqI_eq kind 8
  have st : ∀ (row : List AV), row.length = 4 → allOne row = true → ∀ k : AV → AH → Prop, qSt 4 (.ptr z 0) (.agg row) H1 k = k Aes.undef (H1.set z (some (.cells row))) := fun row h1 h2 k => qSt_whole (R := Prop) gz rfl h1 h2 k
  have ld : ∀ (row : List AV), row.length = 4 → ∀ k : AV → Prop, qLdA 4 (.ptr z 0) (H1.set z (some (.cells row))) k = k (.agg row) := fun row h1 k => qLdA_whole (R := Prop) (by rw [get_set_i (lt_i gz), if_pos rfl]) h1 k
  have stz := fun k => st z25 rfl rfl k
  have ldz := fun k => ld z25 rfl k
  have bz : ∀ k : AV → Prop, qBld z25 [] k = k (.agg z25) := fun k => rfl
  simp -implicitDefEqProofs only [r17_1, opn_z, opn_s, qFa_ptr, qLenL_sl, Nat.zero_add, P2, ln]
  have hX0 : getV n (.mk kind s ns l) = if kind = 8 then gF n (ns.drop 0) (l.drop 0) else (zV, false) := rfl
  refine loop_inv (fun m fr H' => ∃ (i : Nat) (x0 x5 x6 x7 x12 x30 : AV), m = ns.length - i ∧ i ≤ ns.length ∧ fr = [x0, .str n, .ptr p 0, .ptr z 0, x5, x6, x7, .sl (strRows ns) t1, .int .i64 (ns.length : Int), .int .i64 (i : Int), x12, x30] ∧ H' = H1 ∧ getV n (.mk kind s ns l) = if kind = 8 then gF n (ns.drop i) (l.drop i) else (zV, false)) ?_ (m := ns.length) ?_
  case refine_2 => exact ⟨0, _, _, _, _, _, _, rfl, by omega, rfl, rfl, hX0⟩
  rintro m fr H' k ⟨i, x0, x5, x6, x7, x12, x30, rfl, hi, rfl, rfl, hX⟩ hk
  rcases Nat.lt_or_ge i ns.length with h | h
  case inr =>
    have c1 : ¬ (i : Int) < (ns.length : Int) := by omega
    rw [gF_end (.inl h), ite_self] at hX
    simp -implicitDefEqProofs only [l17_5, r17_2, r17_7, opn_z, opn_s, sel_z, sel_s, qCd_eq, qIf_false, qBl_eq, qLss_int, c1, decide_false, bz, stz, ldz]
    rw [hX]
    exact got zV_ev
  have c1 : (i : Int) < (ns.length : Int) := by omega
  have sa := fun H k => strAt (List.getElem?_eq_getElem h) t1 H k
  have hw := wrap_up i (by omega)
  by_cases h8 : kind = 8
  case neg =>
    rw [decide_eq_false h8] at q8
    rw [if_neg h8] at hX
    simp -implicitDefEqProofs only [l17_5, r17_2, r17_3, r17_4, r17_6, opn_z, opn_s, sel_z, sel_s, qCd_eq, qIf_true, qIf_false, qBl_eq, qPick_false, qG_ft, qFa_ptr, qLss_int, qEql_int, qAdd_int, Nat.zero_add, P0, q8, sa, c1, decide_true, hw]
    refine hk (ns.length - (i + 1)) _ _ (by omega) ⟨i + 1, _, _, _, _, _, _, rfl, h, rfl, rfl, ?_⟩
    rw [if_neg h8, hX]
  rw [decide_eq_true h8] at q8
  rw [if_pos h8] at hX
  by_cases hq : ns[i] = n
  case neg =>
    have hq' := decide_eq_false hq
    have hX' : getV n (.mk kind s ns l) = gF n (ns.drop (i + 1)) (l.drop (i + 1)) := by
      rcases Nat.lt_or_ge i l.length with h2 | h2
      · rw [hX, gF_at h h2, if_neg hq]
      · rw [hX, gF_end (.inr h2), gF_end (.inr (by omega))]
    simp -implicitDefEqProofs only [l17_5, r17_2, r17_3, r17_4, r17_6, opn_z, opn_s, sel_z, sel_s, qCd_eq, qIf_true, qIf_false, qBl_eq, qPick_true, qPick_false, qG_tt, qG_ft, qFa_ptr, qLss_int, qEql_int, qAdd_int, Nat.zero_add, P0, q8, sa, c1, decide_true, qEql_str, hq', hw]
    refine hk (ns.length - (i + 1)) _ _ (by omega) ⟨i + 1, _, _, _, _, _, _, rfl, h, rfl, rfl, ?_⟩
    rw [if_pos h8, hX']
  have hq' := decide_eq_true hq
  rcases Nat.lt_or_ge i l.length with h2 | h2
  case inr =>
    have c2 : ¬ (i : Int) < (l.length : Int) := by omega
    have hX' : getV n (.mk kind s ns l) = gF n (ns.drop (i + 1)) (l.drop (i + 1)) := by
      rw [hX, gF_end (.inr h2), gF_end (.inr (by omega))]
    simp -implicitDefEqProofs only [l17_5, r17_2, r17_3, r17_4, r17_6, opn_z, opn_s, sel_z, sel_s, qCd_eq, qIf_true, qIf_false, qBl_eq, qPick_true, qG_tt, qFa_ptr, qLss_int, qEql_int, qAdd_int, qLenL_sl, Nat.zero_add, P0, P3, lr, q8, sa, c1, c2, decide_true, decide_false, qEql_str, hq', hw]
    refine hk (ns.length - (i + 1)) _ _ (by omega) ⟨i + 1, _, _, _, _, _, _, rfl, h, rfl, rfl, ?_⟩
    rw [if_pos h8, hX']
  have c2 : (i : Int) < (l.length : Int) := by omega
  rw [gF_at h h2, if_pos hq] at hX
  obtain ⟨r, e1, e2⟩ := hE.get (List.getElem?_eq_getElem h2)
  have ia := fun k => qIa_rows (R := Prop) (tk := t2) e1 e2.four k
  have la := fun (H : AH) k => (show qLdA (R := Prop) 4 (.vptr r 0) H k = k (.agg r) by rw [qLdA_vptr, slice_whole r 4 e2.four, qO_some])
  have str := fun k => st r e2.four e2.ones k
  have ldr := fun k => ld r e2.four k
  simp -implicitDefEqProofs only [l17_5, r17_2, r17_3, r17_4, r17_5, opn_z, opn_s, sel_z, sel_s, qCd_eq, qIf_true, qBl_eq, qPick_true, qG_tt, qFa_ptr, qLss_int, qEql_int, qLenL_sl, Nat.zero_add, P0, P3, lr, q8, sa, c1, c2, decide_true, qEql_str, hq', ia, la, str, ldr]
  rw [hX]
  exact got e2
end T
