import Derived.Test.YtphgikpdbaeeoaaDoorRxA
import Derived.Test.YtphgikpdbaeeoaaDoorRvD
import Derived.Test.YtphgikpdbaeeoaaDoorRdZ
set_option linter.all false
set_option linter.unusedVariables false
set_option linter.unusedSimpArgs false
set_option maxRecDepth 10000
namespace T
open Go Go.Aes Go.Proofs

/-! ### how much a value holds -/
def nsb : List Str → Nat
  | [] => 0
  | s :: l => s.length + 1 + nsb l
mutual
def bv : Val → Nat
  | .mk _ s ns l => s.length + nsb ns + bvs l + 1
def bvs : List Val → Nat
  | [] => 0
  | v :: l => bv v + bvs l
end
theorem nsb_len : ∀ ns : List Str, ns.length ≤ nsb ns
  | [] => by simp
  | a :: r => by
    have := nsb_len r
    simp only [nsb, List.length_cons]; omega
theorem nsb_mem : ∀ {ns : List Str}, ∀ n ∈ ns, n.length + 1 ≤ nsb ns
  | [], n, h => by cases h
  | m :: l, n, h => by
    simp only [nsb]
    rcases List.mem_cons.1 h with rfl | h
    · omega
    · have := nsb_mem n h; omega
theorem bv_pos (v : Val) : 1 ≤ bv v := by cases v; simp only [bv]; omega
theorem bvs_len : ∀ l : List Val, l.length ≤ bvs l
  | [] => by simp
  | v :: l => by
    have h1 := bvs_len l
    have h2 := bv_pos v
    simp only [bvs, List.length_cons]; omega
mutual
theorem bv_vsz : ∀ v : Val, bv v < 1000000000 → vsz v
  | .mk _ s ns l, h => by
    have h2 := nsb_len ns
    have h3 := bvs_len l
    have h4 := fun n hn => nsb_mem (ns := ns) n hn
    simp only [bv] at h
    exact ⟨by omega, by omega, fun n hn => by have := h4 n hn; omega, by omega, bvs_vsz l (by omega)⟩
theorem bvs_vsz : ∀ l : List Val, bvs l < 1000000000 → vszs l
  | [], h => trivial
  | v :: l, h => by
    simp only [bvs] at h
    exact ⟨bv_vsz v (by omega), bvs_vsz l (by omega)⟩
end
theorem bvs_mem : ∀ {l : List Val}, ∀ v ∈ l, bv v ≤ bvs l
  | [], n, h => by cases h
  | m :: l, n, h => by
    simp only [bvs]
    rcases List.mem_cons.1 h with rfl | h
    · omega
    · have := bvs_mem n h; omega
theorem okTs_all : ∀ {l : List Val}, (∀ v ∈ l, okT v) → okTs l
  | [], _ => trivial
  | a :: l, h => ⟨h a (by simp), okTs_all fun v hv => h v (by simp [hv])⟩
theorem okT_of : ∀ (d : Nat) (v : Val), rightF d v = true → bv v < 1000000000 → okT v
  | 0, _, h, _ => by cases h
  | d + 1, .mk k s ns l, h, hb => by
    have h2 := nsb_len ns
    have h3 := bvs_len l
    have h4 := fun n hn => nsb_mem (ns := ns) n hn
    simp only [bv] at hb
    have hk : (k = 8 → ns.length = l.length) ∧ (l = [] ∨ l.all (rightF d) = true) := by
      simp only [rightF] at h
      by_cases h1 : k = 1
      · rw [if_pos h1] at h
        simp only [Bool.and_eq_true, decide_eq_true_eq] at h
        exact ⟨fun e => by omega, .inl h.1.2⟩
      rw [if_neg h1] at h
      by_cases h2 : k = 2
      · rw [if_pos h2] at h
        simp only [Bool.and_eq_true, decide_eq_true_eq] at h
        exact ⟨fun e => by omega, .inl h.1.2⟩
      rw [if_neg h2] at h
      by_cases h3 : k = 3 ∨ k = 4
      · rw [if_pos h3] at h
        simp only [Bool.and_eq_true, decide_eq_true_eq] at h
        exact ⟨fun e => by omega, .inl h.1.1.2⟩
      rw [if_neg h3] at h
      by_cases h5 : k = 5
      · rw [if_pos h5] at h
        simp only [Bool.and_eq_true, decide_eq_true_eq] at h
        exact ⟨fun e => by omega, .inl h.1.2⟩
      rw [if_neg h5] at h
      by_cases h7 : k = 7
      · rw [if_pos h7] at h
        simp only [Bool.and_eq_true, decide_eq_true_eq] at h
        exact ⟨fun e => by omega, .inr h.2⟩
      rw [if_neg h7] at h
      by_cases h8 : k = 8
      · rw [if_pos h8] at h
        simp only [Bool.and_eq_true, decide_eq_true_eq] at h
        exact ⟨fun e => h.1.1.2, .inr h.2⟩
      rw [if_neg h8] at h
      cases h
    refine ⟨by omega, fun n hn => by have := h4 n hn; omega, hk.1, by omega, okTs_all fun v hv => ?_⟩
    rcases hk.2 with e | e
    · rw [e] at hv; cases hv
    · have hm := bvs_mem v hv
      exact okT_of d v (List.all_eq_true.1 e v hv) (by omega)

theorem flat6 : ∀ s : Str, (s.flatMap escB).length ≤ 6 * s.length
  | [] => by simp
  | c :: s => by
    have h1 := flat6 s
    have h2 := escB_len c
    simp only [List.flatMap_cons, List.length_append, List.length_cons]; omega
theorem quoteF_len (s : Str) : (quoteF s).length ≤ 6 * s.length + 2 := by
  have := flat6 s
  unfold quoteF
  split
  · simp only [List.length_append, List.length_cons, List.length_nil]; omega
  · simp
mutual
theorem txt_len : ∀ v : Val, (txt v).length + 8 ≤ 12 * bv v
  | .mk k s ns l => by
    have h1 := txtK_len2 false l true ns
    have h2 := txtK_len2 true l true ns
    have h3 := quoteF_len s
    simp only [txt, bv]
    split
    · show sNull.length + 8 ≤ _
      have : sNull.length = 4 := rfl
      omega
    split
    · omega
    split
    · simp only [List.length_append, List.length_cons, List.length_nil]; omega
    split
    · simp only [List.length_append, List.length_cons, List.length_nil]; omega
    · omega
theorem txtK_len2 (ob : Bool) : ∀ (l : List Val) (f : Bool) (ns : List Str), (txtK ob f ns l).length ≤ 12 * bvs l + 12 * nsb ns
  | [], f, ns => by simp [txtK]
  | v :: l, f, ns => by
    have h1 := txt_len v
    have h2 := txtK_len2 ob l false ns.tail
    have hq : (quoteF (ns.headD [])).length + 12 * nsb ns.tail ≤ 12 * nsb ns + 2 := by
      cases ns with
      | nil =>
        have := quoteF_len []
        simp only [List.headD_nil, List.tail_nil, List.length_nil] at this ⊢; omega
      | cons n ns =>
        have := quoteF_len n
        simp only [List.headD_cons, List.tail_cons, nsb]; omega
    have h3 : (bif f then ([] : Str) else [44]).length ≤ 1 := by cases f <;> simp
    have h4 : (bif ob then quoteF (ns.headD []) ++ [58] else ([] : Str)).length + 12 * nsb ns.tail ≤ 12 * nsb ns + 3 := by
      cases ob with
      | false =>
        have : nsb ns.tail ≤ nsb ns := by cases ns <;> simp [nsb]
        simp only [cond_false, List.length_nil]; omega
      | true =>
        simp only [cond_true, List.length_append, List.length_cons, List.length_nil]; omega
    simp only [txtK, bvs, List.length_append]; omega
end

/-! ### the document's text of a value -/
def Text2Ok (v : Val) : Prop := ∀ r, EV v r → okT v → (txt v).length < 100000000000 → ∀ H, EP 49 [.agg r] H = some (.val (.str (txt v)) H)

set_option maxHeartbeats 2000000 in
theorem text2_loop (ob : Bool) (l : List Val) (hl : l.length < 1000000000) (ih : ∀ v ∈ l, Text2Ok v) (hok : okTs l) {rows : List (List AV)} (hE : EVs l rows) {ns : List Str} (hns : ob = true → ns.length = l.length) (hn : ∀ n ∈ ns, n.length < 1000000000)
    {H1 : AH} [IsFn H1] {p : Nat} {kind : Int} {s : Str} (hkd : (kind == 8) = ob) {t1 tk : Tk} (htot : (txtK ob true ns l).length < 100000000000) (g : H1.get p = some (.cells [.int .i64 kind, .str s, .sl (strRows ns) t1, .sl rows tk])) (x0 x2 x3 x4 x6 x7 x9 x14 x21 x25 x30 x50 : AV) :
    (r49_8 (r49_9 (qBl (fun k6 => (qLoop (l49_11 EP k6))) (r49_17 (qCd (sel 12) (fun _ => (r49_18 (fun fr (_ : AH) => (sel 2 fr).kill = .str ((if ob then [123] else [91]) ++ txtK ob true ns l ++ (if ob then [125] else [93]))))) (fun k5 => k5) (r49_19 (fun fr (_ : AH) => (sel 2 fr).kill = .str ((if ob then [123] else [91]) ++ txtK ob true ns l ++ (if ob then [125] else [93]))))))))) [x0, .ptr p 0, x2, x3, x4, x6, x7, x9, x14, x21, x25, x30, x50] H1 := by
  have P0 := fun k => ld1 (R := Prop) g 0 _ rfl k
  have P2 := fun k => ld1 (R := Prop) g 2 _ rfl k
  have P3 := fun k => ld1 (R := Prop) g 3 _ rfl k
  have lr := hE.len
  simp -implicitDefEqProofs only [r49_8, r49_9, opn_z, opn_s, qBl_eq]
  refine loop_inv (fun m fr H' => ∃ (i : Nat) (t' : Str) (x0 x2 x6 x7 x9 x14 x21 x25 x30 x50 : AV), m = l.length - i ∧ i ≤ l.length ∧ fr = [x0, .ptr p 0, x2, .str t', .int .i64 (i : Int), x6, x7, x9, x14, x21, x25, x30, x50] ∧ t' ++ txtK ob (i == 0) (ns.drop i) (l.drop i) = txtK ob true ns l ∧ H' = H1) ?_ (m := l.length) ?_
  case refine_2 => exact ⟨0, [], _, _, _, _, _, _, _, _, _, _, rfl, by omega, rfl, by simp, rfl⟩
  rintro m fr H' k ⟨i, t', x0, x2, x6, x7, x9, x14, x21, x25, x30, x50, rfl, hi, rfl, heq, rfl⟩ hk
  rcases Nat.lt_or_ge i l.length with h | h
  · have h' : (i : Int) < (l.length : Int) := by omega
    obtain ⟨r, g1, g2⟩ := hE.get (List.getElem?_eq_getElem h)
    have ia := fun k => qIa_rows (R := Prop) (tk := tk) g1 g2.four k
    have la := fun (H : AH) k => (show qLdA (R := Prop) 4 (.vptr r 0) H k = k (.agg r) by rw [qLdA_vptr, slice_whole r 4 g2.four, qO_some])
    have hw := wrap_up i (by omega)
    rw [List.drop_eq_getElem_cons h] at heq
    simp only [txtK] at heq
    have htail : (ns.drop i).tail = ns.drop (i + 1) := by simp
    rw [htail] at heq
    have hlen := congrArg List.length heq
    simp only [List.length_append] at hlen
    have hc := fun H => ih l[i] (List.getElem_mem h) r g2 (okTs_mem hok _ (List.getElem_mem h)) (by omega) H
    have hgo : ∀ (fst : Str), fst = (bif (i == 0) then [] else [44]) → ∀ nm : Str, nm = (bif ob then quoteF ((ns.drop i).headD []) ++ [58] else []) →
        ((t' ++ fst) ++ nm ++ txt l[i]) ++ txtK ob (i + 1 == 0) (ns.drop (i + 1)) (l.drop (i + 1)) = txtK ob true ns l := by
      intro fst hf nm hnm
      rw [show ((i + 1 == 0) : Bool) = false from rfl, ← heq, hf, hnm]
      simp only [List.append_assoc]
    have hqt := fun (a b : Str) (hab : a.length + b.length < most) (k : AV → Prop) => qAdd_str (R := Prop) X 9 a b hab k
    cases ob with
    | false =>
      rcases Nat.eq_zero_or_pos i with h0 | h0
      · have c0 : ¬ (0 : Int) < (i : Int) := by omega
        have q1 := fun k => qAdd_str (R := Prop) X 9 t' (txt l[i]) (by unfold most; omega) k
        have hi0 : (i == 0) = true := by simp [h0]
        have hg2 := hgo [] (by rw [hi0]; rfl) [] rfl
        simp only [List.append_nil] at hg2
        simp -implicitDefEqProofs only [l49_11, r49_10, r49_12, r49_14, r49_16, r49_11, opn_z, opn_s, sel_z, sel_s, qCd_eq, qIf_true, qIf_false, qBl_eq, qRes_val, qFa_ptr, qLss_int, qGtr_int, qEql_int, qAdd_int, qLenL_sl, Nat.zero_add, P0, P3, lr, h', decide_true, ia, la, c0, decide_false, hkd, hc, q1, hw]
        exact hk (l.length - (i + 1)) _ _ (by omega) ⟨i + 1, _, _, _, _, _, _, _, _, _, _, _, rfl, h, rfl, hg2, rfl⟩
      · have c0 : (0 : Int) < (i : Int) := by omega
        have hi0 : (i == 0) = false := by simp; omega
        rw [hi0] at hlen
        simp only [cond_false, List.length_cons, List.length_nil] at hlen
        have q0 := fun k => qAdd_str (R := Prop) X 9 t' [44] (by unfold most; simp only [List.length_cons, List.length_nil]; omega) k
        have q1 := fun k => qAdd_str (R := Prop) X 9 (t' ++ [44]) (txt l[i]) (by unfold most; simp only [List.length_append, List.length_cons, List.length_nil]; omega) k
        have hg2 := hgo [44] (by rw [hi0]; rfl) [] rfl
        simp only [List.append_nil] at hg2
        simp -implicitDefEqProofs only [l49_11, r49_10, r49_12, r49_13, r49_14, r49_16, r49_11, opn_z, opn_s, sel_z, sel_s, qCd_eq, qIf_true, qIf_false, qBl_eq, qRes_val, qFa_ptr, qLss_int, qGtr_int, qEql_int, qAdd_int, qLenL_sl, Nat.zero_add, P0, P3, lr, h', decide_true, ia, la, c0, hkd, hc, q0, q1, hw]
        exact hk (l.length - (i + 1)) _ _ (by omega) ⟨i + 1, _, _, _, _, _, _, _, _, _, _, _, rfl, h, rfl, hg2, rfl⟩
    | true =>
      have hnl := hns rfl
      have hni : i < ns.length := by omega
      have hhd : (ns.drop i).headD [] = ns[i] := by rw [List.drop_eq_getElem_cons hni]; rfl
      rw [hhd] at hgo hlen
      simp only [cond_true, List.length_append, List.length_cons, List.length_nil] at hlen
      have e37 := fun H => ep37 ns[i] (hn _ (List.getElem_mem hni)) H
      have sa := fun H k => strAt (show ns[i]? = some ns[i] from List.getElem?_eq_getElem hni) t1 H k
      rcases Nat.eq_zero_or_pos i with h0 | h0
      · have c0 : ¬ (0 : Int) < (i : Int) := by omega
        have hi0 : (i == 0) = true := by simp [h0]
        have q1 := fun k => qAdd_str (R := Prop) X 9 t' (quoteF ns[i]) (by unfold most; omega) k
        have q2 := fun k => qAdd_str (R := Prop) X 9 (t' ++ quoteF ns[i]) [58] (by unfold most; simp only [List.length_append, List.length_cons, List.length_nil]; omega) k
        have q3 := fun k => qAdd_str (R := Prop) X 9 (t' ++ quoteF ns[i] ++ [58]) (txt l[i]) (by unfold most; simp only [List.length_append, List.length_cons, List.length_nil]; omega) k
        have hg2 := hgo [] (by rw [hi0]; rfl) _ rfl
        simp only [List.append_nil, cond_true, ← List.append_assoc] at hg2
        simp -implicitDefEqProofs only [l49_11, r49_10, r49_12, r49_14, r49_15, r49_16, r49_11, opn_z, opn_s, sel_z, sel_s, qCd_eq, qIf_true, qIf_false, qBl_eq, qRes_val, qFa_ptr, qLss_int, qGtr_int, qEql_int, qAdd_int, qLenL_sl, Nat.zero_add, P0, P2, P3, lr, h', decide_true, ia, la, sa, e37, c0, decide_false, hkd, hc, q1, q2, q3, hw]
        exact hk (l.length - (i + 1)) _ _ (by omega) ⟨i + 1, _, _, _, _, _, _, _, _, _, _, _, rfl, h, rfl, hg2, rfl⟩
      · have c0 : (0 : Int) < (i : Int) := by omega
        have hi0 : (i == 0) = false := by simp; omega
        rw [hi0] at hlen
        simp only [cond_false, List.length_cons, List.length_nil] at hlen
        have q0 := fun k => qAdd_str (R := Prop) X 9 t' [44] (by unfold most; simp only [List.length_cons, List.length_nil]; omega) k
        have q1 := fun k => qAdd_str (R := Prop) X 9 (t' ++ [44]) (quoteF ns[i]) (by unfold most; simp only [List.length_append, List.length_cons, List.length_nil]; omega) k
        have q2 := fun k => qAdd_str (R := Prop) X 9 (t' ++ [44] ++ quoteF ns[i]) [58] (by unfold most; simp only [List.length_append, List.length_cons, List.length_nil]; omega) k
        have q3 := fun k => qAdd_str (R := Prop) X 9 (t' ++ [44] ++ quoteF ns[i] ++ [58]) (txt l[i]) (by unfold most; simp only [List.length_append, List.length_cons, List.length_nil]; omega) k
        have hg2 := hgo [44] (by rw [hi0]; rfl) _ rfl
        simp only [cond_true, ← List.append_assoc] at hg2
        simp -implicitDefEqProofs only [l49_11, r49_10, r49_12, r49_13, r49_14, r49_15, r49_16, r49_11, opn_z, opn_s, sel_z, sel_s, qCd_eq, qIf_true, qBl_eq, qRes_val, qFa_ptr, qLss_int, qGtr_int, qEql_int, qAdd_int, qLenL_sl, Nat.zero_add, P0, P2, P3, lr, h', decide_true, ia, la, sa, e37, c0, hkd, hc, q0, q1, q2, q3, hw]
        exact hk (l.length - (i + 1)) _ _ (by omega) ⟨i + 1, _, _, _, _, _, _, _, _, _, _, _, rfl, h, rfl, hg2, rfl⟩
  · have h' : ¬ (i : Int) < (l.length : Int) := by omega
    have hi' : i = l.length := by omega
    rw [List.drop_of_length_le h] at heq
    simp only [txtK, List.append_nil] at heq
    cases ob with
    | false =>
      have q1 := fun k => qAdd_str (R := Prop) X 9 [91] t' (by rw [heq]; unfold most; simp only [List.length_cons, List.length_nil]; omega) k
      have q2 := fun k => qAdd_str (R := Prop) X 9 ([91] ++ t') [93] (by unfold most; simp only [List.length_append, List.length_cons, List.length_nil]; rw [heq]; omega) k
      simp only [List.cons_append, List.nil_append] at q1 q2
      simp -implicitDefEqProofs only [l49_11, r49_10, r49_17, r49_19, opn_z, opn_s, sel_z, sel_s, qCd_eq, qIf_false, qBl_eq, qFa_ptr, qLss_int, qEql_int, qLenL_sl, Nat.zero_add, P0, P3, lr, h', decide_false, hkd, q1, q2, AV.kill]
      rw [← heq]; rfl
    | true =>
      have q1 := fun k => qAdd_str (R := Prop) X 9 [123] t' (by rw [heq]; unfold most; simp only [List.length_cons, List.length_nil]; omega) k
      have q2 := fun k => qAdd_str (R := Prop) X 9 ([123] ++ t') [125] (by unfold most; simp only [List.length_append, List.length_cons, List.length_nil]; rw [heq]; omega) k
      simp only [List.cons_append, List.nil_append] at q1 q2
      simp -implicitDefEqProofs only [l49_11, r49_10, r49_17, r49_18, opn_z, opn_s, sel_z, sel_s, qCd_eq, qIf_true, qIf_false, qBl_eq, qFa_ptr, qLss_int, qEql_int, qLenL_sl, Nat.zero_add, P0, P3, lr, h', decide_false, hkd, q1, q2, AV.kill]
      rw [← heq]; rfl

set_option maxHeartbeats 2000000 in
theorem text2_node {kind : Int} {s : Str} {ns : List Str} {l : List Val} (ih : ∀ v ∈ l, Text2Ok v) : Text2Ok (.mk kind s ns l) := by
  intro r0 hv hz htl H
  obtain ⟨a1, a2⟩ := EV.kill _ _ hv
  refine uo_form e49 xf49 rfl rfl (by simp only [AV.kills, AV.kill, AV.frees, AV.free, a2]; rfl) rfl ?_ H
  simp only [AV.kills, AV.kill]
  obtain ⟨t1, t2, rows, h1, hE⟩ := a1
  rw [h1]
  obtain ⟨z1, z2, z3, z4, z5⟩ := hz
  clear hv a2 h1
  have bx := fun k => bxV (H := H0) (r := [.int .i64 kind, .str s, .sl (strRows ns) t1, .sl rows t2]) rfl k
  have g := get_push_at (H := H0) (.cells [.int .i64 kind, .str s, .sl (strRows ns) t1, .sl rows t2])
  have hif : IsFn (H0.push (.cells [.int .i64 kind, .str s, .sl (strRows ns) t1, .sl rows t2])) := inferInstance
  simp -implicitDefEqProofs only [c49, r49_0, opn_z, opn_s, qFn_eq, qBl_eq, bx]
  generalize H0.push (.cells [.int .i64 kind, .str s, .sl (strRows ns) t1, .sl rows t2]) = H1 at *
  generalize H0.nx = p at *
  have P0 := fun k => ld1 (R := Prop) g 0 _ rfl k
  have P1 := fun k => ld1 (R := Prop) g 1 _ rfl k
  have q1 := beqI_eq kind 1
  have q5 := beqI_eq kind 5
  have q7 := beqI_eq kind 7
  have q8 := beqI_eq kind 8
  by_cases h1 : kind = 1
  · rw [decide_eq_true h1] at q1
    simp -implicitDefEqProofs only [r49_1, r49_2, r49_3, opn_z, opn_s, sel_z, sel_s, qCd_eq, qIf_true, qFa_ptr, qEql_int, Nat.zero_add, P0, q1, AV.kill]
    simp only [txt]
    rw [if_pos h1]; rfl
  rw [decide_eq_false h1] at q1
  by_cases h5 : kind = 5
  · rw [decide_eq_true h5] at q5
    have e37 := fun H => ep37 s z1 H
    simp -implicitDefEqProofs only [r49_1, r49_2, r49_4, r49_5, opn_z, opn_s, sel_z, sel_s, qCd_eq, qIf_true, qIf_false, qRes_val, qFa_ptr, qEql_int, Nat.zero_add, P0, P1, q1, q5, e37, AV.kill]
    simp only [txt]
    rw [if_neg h1, if_pos h5]
  rw [decide_eq_false h5] at q5
  by_cases h7 : kind = 7
  · rw [decide_eq_true h7] at q7
    have ht : txt (.mk kind s ns l) = (if false = true then [123] else [91]) ++ txtK false true ns l ++ (if false = true then [125] else [93]) := by
      simp only [txt]
      rw [if_neg h1, if_neg h5, if_pos h7]; rfl
    rw [ht] at htl ⊢
    simp only [List.length_append] at htl
    simp -implicitDefEqProofs only [r49_1, r49_2, r49_4, r49_6, opn_z, opn_s, sel_z, sel_s, qCd_eq, qIf_true, qIf_false, qFa_ptr, qEql_int, Nat.zero_add, P0, q1, q5, q7]
    exact text2_loop false l z4 ih z5 hE (fun h => by cases h) z2 (by rw [q8, decide_eq_false (by omega)]) (by omega) g _ _ _ _ _ _ _ _ _ _ _ _
  rw [decide_eq_false h7] at q7
  by_cases h8 : kind = 8
  · rw [decide_eq_true h8] at q8
    have ht : txt (.mk kind s ns l) = (if true = true then [123] else [91]) ++ txtK true true ns l ++ (if true = true then [125] else [93]) := by
      simp only [txt]
      rw [if_neg h1, if_neg h5, if_neg h7, if_pos h8]; rfl
    rw [ht] at htl ⊢
    simp only [List.length_append] at htl
    simp -implicitDefEqProofs only [r49_1, r49_2, r49_4, r49_6, r49_7, opn_z, opn_s, sel_z, sel_s, qCd_eq, qIf_true, qIf_false, qFa_ptr, qEql_int, Nat.zero_add, P0, q1, q5, q7, q8]
    exact text2_loop true l z4 ih z5 hE (fun _ => z3 h8) z2 q8 (by omega) g _ _ _ _ _ _ _ _ _ _ _ _
  rw [decide_eq_false h8] at q8
  simp -implicitDefEqProofs only [r49_1, r49_2, r49_4, r49_6, r49_7, r49_20, opn_z, opn_s, sel_z, sel_s, qCd_eq, qIf_false, qFa_ptr, qEql_int, Nat.zero_add, P0, P1, q1, q5, q7, q8, AV.kill]
  simp only [txt]
  rw [if_neg h1, if_neg h5, if_neg h7, if_neg h8]

mutual
theorem text2_all : ∀ v, Text2Ok v
  | .mk k s ns l => text2_node (texts2_all l)
theorem texts2_all : ∀ (l : List Val), ∀ v ∈ l, Text2Ok v
  | [], v, hv => by cases hv
  | a :: l, v, hv => by
    rcases List.mem_cons.1 hv with h | hv
    · rw [h]; exact text2_all a
    · exact texts2_all l v hv
end

theorem ep22 {v : Val} {r : List AV} (ev : EV v r) (hb : bv v ≤ 2000000) (H : AH) : EP 22 [.agg r] H = some (.val (.str (textF v)) H) := by
  obtain ⟨a1, a2⟩ := EV.kill _ _ ev
  refine uo_form e22 xf22 rfl rfl (by simp only [AV.kills, AV.kill, AV.frees, AV.free, a2]; rfl) rfl ?_ H
  simp only [AV.kills, AV.kill]
  have bx := fun k => bxV (H := H0) a1.ones k
  have ld := fun k => qLdA_whole (R := Prop) (n := 4) (H := H0.push (.cells (AV.kills r))) (i := H0.nx) (get_push_at _) a1.four k
  have hsz := bv_vsz v (by omega)
  have htl := txt_len v
  have e20 := fun H => ep20 a1 hsz H
  cases hr : rightF 12 v with
  | false =>
    rw [hr] at e20
    simp -implicitDefEqProofs only [c22, r22_0, r22_1, r22_2, opn_z, opn_s, sel_z, sel_s, qCd_eq, qIf_true, qFn_eq, qRes_val, qNot_bool, bx, ld, e20, Bool.not_false, AV.kill]
    simp [textF, hr]
  | true =>
    rw [hr] at e20
    have e49 := fun H => text2_all v _ a1 (okT_of 12 v hr (by omega)) (by omega) H
    simp -implicitDefEqProofs only [c22, r22_0, r22_1, r22_3, opn_z, opn_s, sel_z, sel_s, qCd_eq, qIf_false, qFn_eq, qRes_val, qNot_bool, bx, ld, e20, Bool.not_true, e49, AV.kill]
    simp [textF, hr]

theorem ep21u {v : Val} {r : List AV} (ev : EV v r) (hb : bv v ≤ 2000000) (H : AH) : EP 21 [.agg r] H = some (.val (.str (textF v)) H) := by
  have hsz := bv_vsz v (by omega)
  have htl := txt_len v
  cases hr : rightF 12 v with
  | true => exact ep21 ev hsz (okT_of 12 v hr (by omega)) (by omega) H
  | false =>
    obtain ⟨a1, a2⟩ := EV.kill _ _ ev
    refine uo_form e21 xf21 rfl rfl (by simp only [AV.kills, AV.kill, AV.frees, AV.free, a2]; rfl) rfl ?_ H
    simp only [AV.kills, AV.kill]
    have bx := fun k => bxV (H := H0) a1.ones k
    have hg := get_push_at (H := H0) (.cells (AV.kills r))
    have ld := fun k => qLdA_whole (R := Prop) (n := 4) hg a1.four k
    have e19 := fun H => ep19 a1 hsz H
    rw [hr] at e19
    simp -implicitDefEqProofs only [c21, r21_0, r21_1, r21_2, opn_z, opn_s, sel_z, sel_s, qCd_eq, qIf_true, qFn_eq, qRes_val, qNot_bool, bx, ld, e19, Bool.not_false, AV.kill]
    simp [textF, hr]
end T
