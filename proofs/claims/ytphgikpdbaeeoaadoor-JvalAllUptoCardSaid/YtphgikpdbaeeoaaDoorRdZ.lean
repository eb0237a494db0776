import Derived.Test.YtphgikpdbaeeoaaDoorRdBX
import Derived.Test.YtphgikpdbaeeoaaDoorRdY
set_option linter.all false
set_option linter.unusedVariables false
set_option linter.unusedSimpArgs false
set_option maxRecDepth 10000
namespace T
open Go Go.Aes Go.Proofs

/-! ### a value's text -/
def sNull : Str := [110,117,108,108]
mutual
def txt : Val → Str
  | .mk k s ns l => if k = 1 then sNull else if k = 5 then quoteF s else if k = 7 then [91] ++ txtK false true ns l ++ [93] else if k = 8 then [123] ++ txtK true true ns l ++ [125] else s
def txtK : Bool → Bool → List Str → List Val → Str
  | _, _, _, [] => []
  | ob, first, ns, v :: l => (bif first then [] else [44]) ++ (bif ob then quoteF (ns.headD []) ++ [58] else []) ++ txt v ++ txtK ob false ns.tail l
end
mutual
def okT : Val → Prop
  | .mk k s ns l => s.length < 1000000000 ∧ (∀ n ∈ ns, n.length < 1000000000) ∧ (k = 8 → ns.length = l.length) ∧ l.length < 1000000000 ∧ okTs l
def okTs : List Val → Prop
  | [] => True
  | v :: l => okT v ∧ okTs l
end
theorem okTs_mem : ∀ {l : List Val}, okTs l → ∀ v ∈ l, okT v
  | [], _, v, hv => by cases hv
  | a :: l, ⟨h1, h2⟩, v, hv => by
    rcases List.mem_cons.1 hv with rfl | hv
    · exact h1
    · exact okTs_mem h2 v hv

/-- a write to the builder, whatever the heap -/
def Put (g : Nat) (al : List AV) (b : Nat) (s : Str) : Prop := ∀ (H : AH) [IsFn H] (t : Str) (a v : AV), Bd H b t a v → t.length + s.length < 10000000000 →
  ∃ H' w a' v', EP g al H = some (.val w H') ∧ Bd H' b (t ++ s) a' v' ∧ IsFn H' ∧ Bk H H' b
theorem Wrote.put {g : Nat} {al : List AV} {b : Nat} {s : Str} (h : Wrote g al b s) : Put g al b s := fun H _ t a v hb hl => by
  obtain ⟨H', w, a', v', e, h1, h2, h3, h4⟩ := h H t a v hb (by omega)
  exact ⟨H', w, a', v', e, h1, h2, h4⟩

theorem Bd.push {H : AH} [IsFn H] {b : Nat} {s : Str} {a v : AV} (h : Bd H b s a v) (o : AO) : Bd (H.push o) b s a v :=
  ⟨by rw [get_push_lt _ (lt_i h.get)]; exact h.get, h.own, h.row.keep fun j cs hj => by rw [get_push_lt _ (lt_i hj)]; exact hj⟩
theorem Bd.kp {H H' : AH} [IsFn H] {b : Nat} {s : Str} {a v : AV} (h : Bd H b s a v) (k : Kp H H' (fun _ => False)) : Bd H' b s a v :=
  ⟨(k.keep b (lt_i h.get) (fun h => h)).trans h.get, h.own, h.row.keep fun j cs hj => (k.keep j (lt_i hj) (fun h => h)).trans hj⟩
theorem Bk.cells {H H' : AH} {b i : Nat} {cs : List AV} (h : Bk H H' b) (hi : i ≠ b) (hg : H.get i = some (.cells cs)) : H'.get i = some (.cells cs) := h i _ hi hg (fun k cs e => by cases e)

def TextOk (v : Val) : Prop := ∀ row, EV v row → okT v → ∀ b, Put 47 [.ptr b 0, .agg row] b (txt v)

set_option maxHeartbeats 1000000 in
theorem txt_list (ob : Bool) (l : List Val) (hl : l.length < 1000000000) (ih : ∀ v ∈ l, TextOk v) (hok : okTs l) {rows : List (List AV)} (hE : EVs l rows) {ns : List Str} (hns : ob = true → ns.length = l.length) (hn : ∀ n ∈ ns, n.length < 1000000000)
    {p b : Nat} (hpb : p ≠ b) {kind : Int} {s : Str} (hkd : (kind == 8) = ob) {t1 tk : Tk} (kb : KT Prop) (t : Str) (htot : t.length + (txtK ob true ns l).length < 10000000000) (e4 : AV)
    {Hs : AH} (hyes : ∀ (H' : AH) [IsFn H'] (a v : AV), Bd H' b (t ++ txtK ob true ns l) a v → Bk Hs H' b → ∀ (x1 x3 x5 x6 x8 x13 x17 x24 x29 x35 x36 x37 x38 x43 x48 : AV), kb [.ptr b 0, x1, x3, e4, x5, x6, x8, x13, x17, x24, x29, x35, x36, x37, x38, x43, x48] H')
    {H : AH} [IsFn H] {a v : AV} (hb : Bd H b t a v) (hg : H.get p = some (.cells [.int .i64 kind, .str s, .sl (strRows ns) t1, .sl rows tk])) (hk0 : Bk Hs H b) (x1 x5 x6 x8 x13 x17 x24 x29 x38 x43 x48 : AV) :
    qLoop (l47_10 EP kb) [.ptr b 0, x1, .ptr p 0, e4, x5, x6, x8, x13, x17, x24, x29, .sl rows tk, .int .i64 (l.length : Int), .int .i64 0, x38, x43, x48] H := by
  refine loop_inv (fun m fr H' => ∃ (i : Nat) (t' : Str) (a v : AV) (x1 x5 x6 x8 x13 x17 x24 x29 x38 x43 x48 : AV), m = l.length - i ∧ i ≤ l.length ∧ fr = [.ptr b 0, x1, .ptr p 0, e4, x5, x6, x8, x13, x17, x24, x29, .sl rows tk, .int .i64 (l.length : Int), .int .i64 (i : Int), x38, x43, x48] ∧ IsFn H' ∧ Bd H' b t' a v ∧
      H'.get p = some (.cells [.int .i64 kind, .str s, .sl (strRows ns) t1, .sl rows tk]) ∧ t' ++ txtK ob (i == 0) (ns.drop i) (l.drop i) = t ++ txtK ob true ns l ∧ Bk Hs H' b) ?_ (m := l.length) ?_
  · rintro m fr H' k ⟨i, t', a, v, x1, x5, x6, x8, x13, x17, x24, x29, x38, x43, x48, rfl, hi, rfl, hf, hb, hg, heq, hbk⟩ hk
    rcases Nat.lt_or_ge i l.length with h | h
    · have h' : (i : Int) < (l.length : Int) := by omega
      obtain ⟨r, g1, g2⟩ := hE.get (List.getElem?_eq_getElem h)
      have ia := fun k => qIa_rows (R := Prop) (tk := tk) g1 g2.four k
      have la := fun (H : AH) k => (show qLdA (R := Prop) 4 (.vptr r 0) H k = k (.agg r) by rw [qLdA_vptr, slice_whole r 4 g2.four, qO_some])
      obtain ⟨q, Ha, Hb, x1, x2, x3, x4, x5, x6⟩ := boxK (R := Prop) (Hs := H') (H := H') (.refl _) z25 r (n := 4) rfl g2.four g2.ones
      haveI := x5.fn
      have hgb := (x6 p _ hg).1
      have hbb := hb.kp x5
      have hw := wrap_up i (by omega)
      have ld0 : ∀ {H : AH}, H.get p = some (.cells [.int .i64 kind, .str s, .sl (strRows ns) t1, .sl rows tk]) → ∀ k : AV → Prop, qLd (.ptr p 0) H k = k (.int .i64 kind) := fun hg k => ld1 (R := Prop) hg 0 _ rfl k
      have ld2 : ∀ {H : AH}, H.get p = some (.cells [.int .i64 kind, .str s, .sl (strRows ns) t1, .sl rows tk]) → ∀ k : AV → Prop, qLd (.ptr p 2) H k = k (.sl (strRows ns) t1) := fun hg k => ld1 (R := Prop) hg 2 _ rfl k
      rw [List.drop_eq_getElem_cons h] at heq
      simp only [txtK] at heq
      have htot' := congrArg List.length heq
      simp only [List.length_append] at htot'
      have hih := ih l[i] (List.getElem_mem h) r g2 (okTs_mem hok _ (List.getElem_mem h)) b
      have hbk1 : Bk H' Hb b := fun j o hj hgj hno => (x5.keep j (lt_i hgj) (fun h => h)).trans hgj
      have ldq : ∀ {H : AH}, H.get q = some (.cells r) → ∀ k : AV → Prop, qLdA 4 (.ptr q 0) H k = k (.agg r) := fun hg k => qLdA_whole (R := Prop) hg g2.four k
      have hqb : q ≠ b := by have := lt_i hb.get; omega
      have htail : (ns.drop i).tail = ns.drop (i + 1) := by simp
      rw [htail] at heq htot'
      have fin : ∀ (H1 : AH) [IsFn H1] (a1 v1 : AV) (tA : Str), Bd H1 b tA a1 v1 → H1.get p = some (.cells [.int .i64 kind, .str s, .sl (strRows ns) t1, .sl rows tk]) → Bk H' H1 b → tA ++ (txt l[i] ++ txtK ob false (ns.drop (i + 1)) (l.drop (i + 1))) = t ++ txtK ob true ns l →
          ∃ H2 w, EP 47 [.ptr b 0, .agg r] H1 = some (.val w H2) ∧ ∀ (x1 x5 x6 x8 x13 x17 x24 x29 x38 x43 x48 : AV), k [.ptr b 0, x1, .ptr p 0, e4, x5, x6, x8, x13, x17, x24, x29, .sl rows tk, .int .i64 (l.length : Int), .int .i64 ((i + 1 : Nat) : Int), x38, x43, x48] H2 := by
        intro H1 _ a1 v1 tA hb1 hp1 hbk2 he1
        have hlen := congrArg List.length he1
        simp only [List.length_append] at hlen
        obtain ⟨H2, w, a2, v2, e, hb2, hf2, hk2⟩ := hih H1 tA a1 v1 hb1 (by omega)
        refine ⟨H2, w, e, fun x1 x5 x6 x8 x13 x17 x24 x29 x38 x43 x48 => hk (l.length - (i + 1)) _ _ (by omega) ⟨i + 1, _, _, _, _, _, _, _, _, _, _, _, _, _, _, rfl, h, rfl, hf2, hb2, hk2.cells hpb hp1, ?_, (hbk.trans hbk2).trans hk2⟩⟩
        rw [show ((i + 1 == 0) : Bool) = false from rfl]
        rw [← he1]
        simp
      cases ob with
      | false =>
        simp only [cond_false] at heq
        rcases Nat.eq_zero_or_pos i with h0 | h0
        · subst h0
          obtain ⟨H2, w, e, hc⟩ := fin Hb a v t' hbb hgb hbk1 (by simpa using heq)
          have c0 : ¬ (((0 : Nat) : Int) > 0) := by omega
          simp -implicitDefEqProofs only [l47_10, r47_14, r47_15, r47_16, r47_18, r47_20, r47_21, opn_z, opn_s, sel_z, sel_s, qCd_eq, qIf_true, qIf_false, qBl_eq, qRes_val, qFa_ptr, qLss_int, qGtr_int, qEql_int, qAdd_int, Nat.zero_add, h', decide_true, ia, la, x1, x2, c0, decide_false, ld0 hgb, hkd, ldq x3, e, hw]
          (first | exact hc _ _ _ _ _ _ _ _ _ _ _ | (apply hc <;> exact Aes.undef))
        · have c0 : ((i : Int) > 0) := by omega
          have hi0 : (i == 0) = false := by simp; omega
          rw [hi0] at heq htot'
          simp only [cond_false] at heq htot'
          obtain ⟨Hc, w1, a1, v1, e1, hb1, hf1, hk1⟩ := (wr51 b 44).put Hb t' a v hbb (by simp at htot' ⊢; omega)
          have e1' : EP 51 [.ptr b 0, .int .u8 44] Hb = some (.val w1 Hc) := e1
          have hgc := hk1.cells hpb hgb
          obtain ⟨H2, w, e, hc⟩ := fin Hc a1 v1 _ hb1 hgc (hbk1.trans hk1) (by simpa using heq)
          simp -implicitDefEqProofs only [l47_10, r47_14, r47_15, r47_16, r47_17, r47_18, r47_20, r47_21, opn_z, opn_s, sel_z, sel_s, qCd_eq, qIf_true, qIf_false, qBl_eq, qRes_val, qFa_ptr, qLss_int, qGtr_int, qEql_int, qAdd_int, Nat.zero_add, h', decide_true, ia, la, x1, x2, c0, e1', ld0 hgc, hkd, ldq (hk1.cells hqb x3), e, hw]
          (first | exact hc _ _ _ _ _ _ _ _ _ _ _ | (apply hc <;> exact Aes.undef))
      | true =>
        simp only [cond_true] at heq htot'
        have hnl := hns rfl
        have hni : i < ns.length := by omega
        have hhd : (ns.drop i).headD [] = ns[i] := by rw [List.drop_eq_getElem_cons hni]; rfl
        rw [hhd] at heq htot'
        have e29 := fun H => ep29 ns[i] (hn _ (List.getElem_mem hni)) H
        have ib := fun k => qIa_strs (tk := t1) (show ns[i]? = some ns[i] from List.getElem?_eq_getElem hni) k
        have l1 := fun (H : AH) (k : AV → Prop) => (show qLd (.vptr [.str ns[i]] 0) H k = k (.str ns[i]) from rfl)
        have qa := fun k => qAdd_str (R := Prop) X 9 (quoteF ns[i]) [58] (by unfold most; simp at htot' ⊢; omega) k
        rcases Nat.eq_zero_or_pos i with h0 | h0
        · subst h0
          have c0 : ¬ (((0 : Nat) : Int) > 0) := by omega
          obtain ⟨Hd, w2, a2, v2, e2, hb2, hf2, hk2⟩ := (wr53 b (quoteF ns[0] ++ [58])).put Hb t' a v hbb (by simp at htot' ⊢; omega)
          have hgd := hk2.cells hpb hgb
          obtain ⟨H2, w, e, hc⟩ := fin Hd a2 v2 _ hb2 hgd (hbk1.trans hk2) (by simpa using heq)
          simp -implicitDefEqProofs only [l47_10, r47_14, r47_15, r47_16, r47_18, r47_19, r47_20, r47_21, opn_z, opn_s, sel_z, sel_s, qCd_eq, qIf_true, qIf_false, qBl_eq, qRes_val, qFa_ptr, qLss_int, qGtr_int, qEql_int, qAdd_int, Nat.zero_add, h', decide_true, ia, la, x1, x2, c0, decide_false, ld0 hgb, hkd, ld2 hgb, ib, l1, e29, qa, e2, ldq (hk2.cells hqb x3), e, hw]
          (first | exact hc _ _ _ _ _ _ _ _ _ _ _ | (apply hc <;> exact Aes.undef))
        · have c0 : ((i : Int) > 0) := by omega
          have hi0 : (i == 0) = false := by simp; omega
          rw [hi0] at heq htot'
          simp only [cond_false] at heq htot'
          obtain ⟨Hc, w1, a1, v1, e1, hb1, hf1, hk1⟩ := (wr51 b 44).put Hb t' a v hbb (by simp at htot' ⊢; omega)
          have e1' : EP 51 [.ptr b 0, .int .u8 44] Hb = some (.val w1 Hc) := e1
          have hgc := hk1.cells hpb hgb
          obtain ⟨Hd, w2, a2, v2, e2, hb2, hf2, hk2⟩ := (wr53 b (quoteF ns[i] ++ [58])).put Hc _ a1 v1 hb1 (by simp at htot' ⊢; omega)
          have hgd := hk2.cells hpb hgc
          obtain ⟨H2, w, e, hc⟩ := fin Hd a2 v2 _ hb2 hgd ((hbk1.trans hk1).trans hk2) (by simpa using heq)
          simp -implicitDefEqProofs only [l47_10, r47_14, r47_15, r47_16, r47_17, r47_18, r47_19, r47_20, r47_21, opn_z, opn_s, sel_z, sel_s, qCd_eq, qIf_true, qBl_eq, qRes_val, qFa_ptr, qLss_int, qGtr_int, qEql_int, qAdd_int, Nat.zero_add, h', decide_true, ia, la, x1, x2, c0, e1', ld0 hgc, hkd, ld2 hgc, ib, l1, e29, qa, e2, ldq (hk2.cells hqb (hk1.cells hqb x3)), e, hw]
          (first | exact hc _ _ _ _ _ _ _ _ _ _ _ | (apply hc <;> exact Aes.undef))
    · have h' : ¬ (i : Int) < (l.length : Int) := by omega
      have hi' : i = l.length := by omega
      subst hi'
      simp only [List.drop_length, txtK, List.append_nil] at heq
      subst heq
      simp -implicitDefEqProofs only [l47_10, r47_14, opn_z, opn_s, sel_z, sel_s, qCd_eq, qIf_false, qBl_eq, qLss_int, h', decide_false]
      (first | exact hyes H' a v hb hbk _ _ _ _ _ _ _ _ _ _ _ _ _ _ _ | (apply hyes H' a v hb hbk <;> exact Aes.undef))
  · exact ⟨0, t, a, v, _, _, _, _, _, _, _, _, _, _, _, rfl, by omega, rfl, inferInstance, hb, hg, by simp, hk0⟩
end T
set_option linter.unusedVariables false
set_option linter.unusedSimpArgs false
set_option maxRecDepth 10000
namespace T
open Go Go.Aes Go.Proofs

theorem brack (kind : Int) (o c : UInt8) (k : AV → Prop) : qIx (.str [o, c]) (.int .i64 0) k = k (.int .u8 o.toNat) := rfl
theorem brack1 (o c : UInt8) (k : AV → Prop) : qIx (.str [o, c]) (.int .i64 1) k = k (.int .u8 c.toNat) := rfl

set_option maxHeartbeats 1000000 in
theorem text_node {kind : Int} {s : Str} {ns : List Str} {l : List Val} (ih : ∀ v ∈ l, TextOk v) : TextOk (.mk kind s ns l) := by
  rintro row ⟨t1, t2, rows, rfl, hE⟩ ⟨z1, z2, z3, z4, z5⟩ b H _ t a v hb hl
  have hfr : (PS 47 && AV.frees (AV.kills [.ptr b 0, .agg [.int .i64 kind, .str s, .sl (strRows ns) t1, .sl rows t2]])) = false := rfl
  obtain ⟨w, H', e, hq⟩ := ao_form (X := X) (D := OD2) (O := OF2) (S := PS) (al := [.ptr b 0, .agg [.int .i64 kind, .str s, .sl (strRows ns) t1, .sl rows t2]]) (H := H) e47 xf47 rfl hfr
    (Q := fun w H' => ∃ a' v', Bd H' b (t ++ txt (.mk kind s ns l)) a' v' ∧ IsFn H' ∧ Bk H H' b) (by
    have bx := fun k => bxV (H := H) (r := [.int .i64 kind, .str s, .sl (strRows ns) t1, .sl rows t2]) rfl k
    have hg0 := get_push_at (H := H) (.cells [.int .i64 kind, .str s, .sl (strRows ns) t1, .sl rows t2])
    have hb0 := hb.push (.cells [.int .i64 kind, .str s, .sl (strRows ns) t1, .sl rows t2])
    have hpb : H.nx ≠ b := by have := lt_i hb.get; omega
    have hbk0 : Bk H (H.push (.cells [.int .i64 kind, .str s, .sl (strRows ns) t1, .sl rows t2])) b := fun j o _ hgj _ => by rw [get_push_lt _ (lt_i hgj)]; exact hgj
    have hif : IsFn (H.push (.cells [.int .i64 kind, .str s, .sl (strRows ns) t1, .sl rows t2])) := inferInstance
    simp -implicitDefEqProofs only [c47, r47_0, opn_z, opn_s, qFn_eq, qBl_eq, bx]
    generalize H.nx = p at *
    generalize H.push (.cells [.int .i64 kind, .str s, .sl (strRows ns) t1, .sl rows t2]) = H0' at *
    have p0 := fun k => ld1 (R := Prop) hg0 0 _ rfl k
    have p1 := fun k => ld1 (R := Prop) hg0 1 _ rfl k
    by_cases k1 : kind = 1
    · subst k1
      have ht : txt (.mk 1 s ns l) = sNull := by simp [txt]
      rw [ht] at hl ⊢
      obtain ⟨H1, w1, a1, v1, e1, h1, h2, h3⟩ := (wr53 b sNull).put H0' t a v hb0 hl
      have e1' : EP 53 [.ptr b 0, .str [110,117,108,108]] H0' = some (.val w1 H1) := e1
      simp -implicitDefEqProofs only [r47_1, r47_3, r47_4, opn_z, opn_s, sel_z, sel_s, qCd_eq, qIf_true, qRes_val, qFa_ptr, qEql_int, Nat.zero_add, p0, beq_self_eq_true, e1']
      exact ⟨_, _, h1, h2, hbk0.trans h3⟩
    have n1 : (kind == 1) = false := by simpa using k1
    by_cases k5 : kind = 5
    · subst k5
      have ht : txt (.mk 5 s ns l) = quoteF s := by simp [txt]
      rw [ht] at hl ⊢
      have e29 := fun H => ep29 s z1 H
      obtain ⟨H1, w1, a1, v1, e1, h1, h2, h3⟩ := (wr53 b (quoteF s)).put H0' t a v hb0 hl
      simp -implicitDefEqProofs only [r47_1, r47_3, r47_5, r47_6, opn_z, opn_s, sel_z, sel_s, qCd_eq, qIf_true, qIf_false, qRes_val, qFa_ptr, qEql_int, Nat.zero_add, p0, n1, beq_self_eq_true, p1, e29, e1]
      exact ⟨_, _, h1, h2, hbk0.trans h3⟩
    have n5 : (kind == 5) = false := by simpa using k5
    have p3 := fun k => ld1 (R := Prop) hg0 3 _ rfl k
    by_cases k7 : kind = 7
    · subst k7
      have ht : txt (.mk 7 s ns l) = [91] ++ txtK false true ns l ++ [93] := by simp [txt]
      rw [ht] at hl ⊢
      simp only [List.length_append, List.length_cons, List.length_nil] at hl
      obtain ⟨H1, w1, a1, v1, e1, h1, hif1, h3⟩ := (wr51 b 91).put H0' t a v hb0 (by simp; omega)
      have hg1 := h3.cells hpb hg0
      have p3' := fun k => ld1 (R := Prop) hg1 3 _ rfl k
      have b0 := fun k => brack 7 91 93 k
      simp -implicitDefEqProofs only [r47_1, r47_3, r47_5, r47_7, r47_9, r47_10, r47_12, r47_13, opn_z, opn_s, sel_z, sel_s, qCd_eq, qIf_true, qIf_false, qRes_val, qFa_ptr, qEql_int, qLenL_sl, Nat.zero_add, List.nil_append, List.cons_append, p0, n1, n5, beq_self_eq_true, show ((7 : Int) == 8) = false from rfl, b0, e1, p3', hE.len]
      refine txt_list false l z4 ih z5 hE (fun h => by cases h) z2 hpb (kind := 7) (s := s) rfl _ (t ++ [91]) (by simp; omega) (.str [91, 93]) (Hs := H) (fun H2 _ a2 v2 hb2 hk2 x1 x3 x5 x6 x8 x13 x17 x24 x29 x35 x36 x37 x38 x43 x48 => ?_) h1 hg1 (hbk0.trans h3) _ _ _ _ _ _ _ _ _ _ _
      obtain ⟨H3, w3, a3, v3, e3, h31, h32, h33⟩ := (wr51 b 93).put H2 _ a2 v2 hb2 (by simp; omega)
      have b1 := fun k => brack1 91 93 k
      simp -implicitDefEqProofs only [r47_22, opn_z, opn_s, qRes_val, b1, e3]
      refine ⟨a3, v3, ?_, h32, hk2.trans h33⟩
      simpa using h31
    have n7 : (kind == 7) = false := by simpa using k7
    by_cases k8 : kind = 8
    · subst k8
      have ht : txt (.mk 8 s ns l) = [123] ++ txtK true true ns l ++ [125] := by simp [txt]
      rw [ht] at hl ⊢
      simp only [List.length_append, List.length_cons, List.length_nil] at hl
      obtain ⟨H1, w1, a1, v1, e1, h1, hif1, h3⟩ := (wr51 b 123).put H0' t a v hb0 (by simp; omega)
      have hg1 := h3.cells hpb hg0
      have p3' := fun k => ld1 (R := Prop) hg1 3 _ rfl k
      have b0 := fun k => brack 8 123 125 k
      simp -implicitDefEqProofs only [r47_1, r47_3, r47_5, r47_7, r47_8, r47_9, r47_10, r47_11, r47_12, r47_13, opn_z, opn_s, sel_z, sel_s, qCd_eq, qIf_true, qIf_false, qRes_val, qFa_ptr, qEql_int, qLenL_sl, Nat.zero_add, List.nil_append, List.cons_append, p0, n1, n5, n7, beq_self_eq_true, b0, e1, p3', hE.len]
      refine txt_list true l z4 ih z5 hE (fun _ => z3 rfl) z2 hpb (kind := 8) (s := s) rfl _ (t ++ [123]) (by simp; omega) (.str [123, 125]) (Hs := H) (fun H2 _ a2 v2 hb2 hk2 x1 x3 x5 x6 x8 x13 x17 x24 x29 x35 x36 x37 x38 x43 x48 => ?_) h1 hg1 (hbk0.trans h3) _ _ _ _ _ _ _ _ _ _ _
      obtain ⟨H3, w3, a3, v3, e3, h31, h32, h33⟩ := (wr51 b 125).put H2 _ a2 v2 hb2 (by simp; omega)
      have b1 := fun k => brack1 123 125 k
      simp -implicitDefEqProofs only [r47_22, opn_z, opn_s, qRes_val, b1, e3]
      refine ⟨a3, v3, ?_, h32, hk2.trans h33⟩
      simpa using h31
    have n8 : (kind == 8) = false := by simpa using k8
    have ht : txt (.mk kind s ns l) = s := by simp [txt, k1, k5, k7, k8]
    rw [ht] at hl ⊢
    obtain ⟨H1, w1, a1, v1, e1, h1, h2, h3⟩ := (wr53 b s).put H0' t a v hb0 hl
    simp -implicitDefEqProofs only [r47_1, r47_2, r47_3, r47_5, r47_7, r47_8, opn_z, opn_s, sel_z, sel_s, qCd_eq, qIf_false, qRes_val, qFa_ptr, qEql_int, Nat.zero_add, p0, n1, n5, n7, n8, p1, e1]
    exact ⟨_, _, h1, h2, hbk0.trans h3⟩)
  obtain ⟨a', v', h1, h2, h3⟩ := hq
  exact ⟨H', w, a', v', e, h1, h2, h3⟩

mutual
theorem text_all : ∀ v, TextOk v
  | .mk k s ns l => text_node (texts_all l)
theorem texts_all : ∀ (l : List Val), ∀ v ∈ l, TextOk v
  | [], v, hv => by cases hv
  | a :: l, v, hv => by
    rcases List.mem_cons.1 hv with h | hv
    · rw [h]; exact text_all a
    · exact texts_all l v hv
end

/-- Text: of what is right its text -/
def textF (v : Val) : Str := if rightF 12 v then txt v else []
theorem ep21 {v : Val} {r : List AV} (ev : EV v r) (hsz : vsz v) (hok : okT v) (hl : (txt v).length < 1000000000) (H : AH) : EP 21 [.agg r] H = some (.val (.str (textF v)) H) := by
  obtain ⟨a1, a2⟩ := EV.kill _ _ ev
  refine uo_form e21 xf21 rfl rfl (by simp only [AV.kills, AV.kill, AV.frees, AV.free, a2]; rfl) rfl ?_ H
  simp only [AV.kills, AV.kill]
  have bx := fun k => bxV (H := H0) a1.ones k
  have hg := get_push_at (H := H0) (.cells (AV.kills r))
  have ld := fun k => qLdA_whole (R := Prop) (n := 4) hg a1.four k
  have e19 := fun H => ep19 a1 hsz H
  cases hr : rightF 12 v with
  | false =>
    rw [hr] at e19
    simp -implicitDefEqProofs only [c21, r21_0, r21_1, r21_2, opn_z, opn_s, sel_z, sel_s, qCd_eq, qIf_true, qFn_eq, qRes_val, qNot_bool, bx, ld, e19, Bool.not_false, AV.kill]
    simp [textF, hr]
  | true =>
    rw [hr] at e19
    have hif : IsFn (H0.push (.cells (AV.kills r))) := inferInstance
    simp -implicitDefEqProofs only [c21, r21_0, r21_1, opn_z, opn_s, sel_z, sel_s, qCd_eq, qIf_false, qFn_eq, qRes_val, qNot_bool, bx, ld, e19, Bool.not_true]
    generalize H0.push (.cells (AV.kills r)) = H1 at *
    have nb : ∀ k : AV → AH → Prop, qNew (.obj 63 0 z63) .ptr H1 k = k (.ptr H1.nx 0) (H1.push (.obj 63 0 [.nilp, .sl [] .nil])) := fun k => by rw [qNew_i]; rfl
    have hb0 : Bd (H1.push (.obj 63 0 [.nilp, .sl [] .nil])) H1.nx [] .nilp (.sl [] .nil) := ⟨get_push_at _, .inl rfl, .inl ⟨rfl, rfl⟩⟩
    have hg1 : (H1.push (.obj 63 0 [.nilp, .sl [] .nil])).get H0.nx = some (.cells (AV.kills r)) := by rw [get_push_lt _ (lt_i hg)]; exact hg
    have ld1' := fun k => qLdA_whole (R := Prop) (n := 4) hg1 a1.four k
    obtain ⟨H2, w, a', v', e47, hb2, hf2, _⟩ := text_all v _ a1 hok H1.nx (H1.push (.obj 63 0 [.nilp, .sl [] .nil])) [] _ _ hb0 (by simp; omega)
    obtain ⟨H3, e48, _, _, _⟩ := ep48 hb2 (by simp; omega)
    simp -implicitDefEqProofs only [r21_3, r21_4, r21_5, opn_z, opn_s, sel_z, sel_s, qRes_val, List.nil_append, nb, ld1', e47, e48, AV.kill]
    simp [textF, hr]
end T
set_option linter.unusedVariables false
set_option linter.unusedSimpArgs false
set_option maxRecDepth 10000
namespace T
open Go Go.Aes Go.Proofs

/-! ### Same -/
mutual
def sameF : Val → Val → Bool
  | .mk k s ns l, .mk k' s' ns' l' => decide (k = k') && decide (s = s') && decide (ns = ns') && samesF l l'
def samesF : List Val → List Val → Bool
  | [], [] => true
  | a :: l, b :: l' => sameF a b && samesF l l'
  | _, _ => false
end
mutual
theorem sameF_eq : ∀ v w, sameF v w = true ↔ v = w
  | .mk k s ns l, .mk k' s' ns' l' => by
    simp only [sameF, Bool.and_eq_true, decide_eq_true_eq, Val.mk.injEq, samesF_eq l l', and_assoc]
theorem samesF_eq : ∀ l l', samesF l l' = true ↔ l = l'
  | [], [] => by simp [samesF]
  | [], b :: l' => by simp [samesF]
  | a :: l, [] => by simp [samesF]
  | a :: l, b :: l' => by simp only [samesF, Bool.and_eq_true, List.cons.injEq, sameF_eq a b, samesF_eq l l']
end
theorem samesF_len : ∀ {l l' : List Val}, l.length ≠ l'.length → samesF l l' = false
  | [], [], h => absurd rfl h
  | [], b :: l', _ => rfl
  | a :: l, [], _ => rfl
  | a :: l, b :: l', h => by
    simp only [samesF]
    rw [samesF_len (by simpa using h), Bool.and_false]
theorem samesF_no {l l' : List Val} (hl : l.length = l'.length) {i : Nat} (h : i < l.length) (h' : i < l'.length) (hn : sameF l[i] l'[i] = false) : samesF l l' = false := by
  cases hs : samesF l l' with
  | false => rfl
  | true =>
    obtain rfl := (samesF_eq l l').1 hs
    have := (sameF_eq l[i] l[i]).2 rfl
    rw [this] at hn; cases hn

def SameOk (v : Val) : Prop := ∀ (w : Val) (r q : List AV), EV v r → EV w q → vsz v → vsz w → ∀ H, EP 23 [.agg r, .agg q] H = some (.val (.bool (sameF v w)) H)

set_option maxHeartbeats 2000000 in
theorem same_node {kind : Int} {s : Str} {ns : List Str} {l : List Val} (ih : ∀ v ∈ l, SameOk v) : SameOk (.mk kind s ns l) := by
  intro w r0 q0 hv hw hzv hzw H
  obtain ⟨a1, a2⟩ := EV.kill _ _ hv
  obtain ⟨b1, b2⟩ := EV.kill _ _ hw
  refine uo_form e23 xf23 rfl rfl (by simp only [AV.kills, AV.kill, AV.frees, AV.free, a2, b2]; rfl) rfl ?_ H
  simp only [AV.kills, AV.kill]
  cases w with
  | mk kind' s' ns' l' =>
  obtain ⟨t1, t2, rows, h1, hE⟩ := a1
  obtain ⟨u1, u2, rows', h2, hE'⟩ := b1
  rw [h1, h2]
  obtain ⟨z1, z2, z3, z4, z5⟩ := hzv
  obtain ⟨y1, y2, y3, y4, y5⟩ := hzw
  clear hv hw a2 b2 h1 h2
  have bx1 := fun k => bxV (H := H0) (r := [.int .i64 kind, .str s, .sl (strRows ns) t1, .sl rows t2]) rfl k
  have g1' := get_push_at (H := H0) (.cells [.int .i64 kind, .str s, .sl (strRows ns) t1, .sl rows t2])
  have bx2 := fun k => bxV (H := H0.push (.cells [.int .i64 kind, .str s, .sl (strRows ns) t1, .sl rows t2])) (r := [.int .i64 kind', .str s', .sl (strRows ns') u1, .sl rows' u2]) rfl k
  have g2 := get_push_at (H := H0.push (.cells [.int .i64 kind, .str s, .sl (strRows ns) t1, .sl rows t2])) (.cells [.int .i64 kind', .str s', .sl (strRows ns') u1, .sl rows' u2])
  have g1 : ((H0.push (.cells [.int .i64 kind, .str s, .sl (strRows ns) t1, .sl rows t2])).push (.cells [.int .i64 kind', .str s', .sl (strRows ns') u1, .sl rows' u2])).get H0.nx = _ := (get_push_lt _ (lt_i g1')).trans g1'
  have hif : IsFn ((H0.push (.cells [.int .i64 kind, .str s, .sl (strRows ns) t1, .sl rows t2])).push (.cells [.int .i64 kind', .str s', .sl (strRows ns') u1, .sl rows' u2])) := inferInstance
  simp -implicitDefEqProofs only [c23, r23_0, opn_z, opn_s, qFn_eq, qBl_eq, bx1, bx2]
  generalize (H0.push (.cells [.int .i64 kind, .str s, .sl (strRows ns) t1, .sl rows t2])).nx = p2 at *
  generalize (H0.push (.cells [.int .i64 kind, .str s, .sl (strRows ns) t1, .sl rows t2])).push (.cells [.int .i64 kind', .str s', .sl (strRows ns') u1, .sl rows' u2]) = H1 at *
  generalize H0.nx = p1 at *
  clear g1' bx1 bx2
  have A0 := fun k => ld1 (R := Prop) g1 0 _ rfl k
  have A1 := fun k => ld1 (R := Prop) g1 1 _ rfl k
  have A2 := fun k => ld1 (R := Prop) g1 2 _ rfl k
  have A3 := fun k => ld1 (R := Prop) g1 3 _ rfl k
  have B0 := fun k => ld1 (R := Prop) g2 0 _ rfl k
  have B1 := fun k => ld1 (R := Prop) g2 1 _ rfl k
  have B2 := fun k => ld1 (R := Prop) g2 2 _ rfl k
  have B3 := fun k => ld1 (R := Prop) g2 3 _ rfl k
  have ln := strRows_len ns
  have ln' := strRows_len ns'
  have lr := hE.len
  have lr' := hE'.len
  have hd : ∀ a b : Nat, (((a : Nat) : Int) == ((b : Nat) : Int)) = decide (a = b) := fun a b => by rw [Bool.eq_iff_iff]; simp; omega
  have hk : (kind == kind') = decide (kind = kind') := by rw [Bool.eq_iff_iff]; simp
  by_cases k1 : kind = kind'
  case neg =>
    rw [decide_eq_false k1] at hk
    simp -implicitDefEqProofs only [r23_1, r23_2, opn_z, opn_s, sel_z, sel_s, qCd_eq, qIf_true, qPick_true, qG_tf, qFa_ptr, qNeq_int, Nat.zero_add, A0, B0, hk, Bool.not_false, AV.kill]
    simp [sameF, k1]
  rw [decide_eq_true k1] at hk
  by_cases k2 : s = s'
  case neg =>
    have hs := decide_eq_false k2
    simp -implicitDefEqProofs only [r23_1, r23_2, opn_z, opn_s, sel_z, sel_s, qCd_eq, qIf_true, qPick_true, qPick_false, qG_ff, qG_tf, qFa_ptr, qNeq_int, Nat.zero_add, A0, B0, A1, B1, hk, Bool.not_true, Bool.not_false, qNeq_str, hs, AV.kill]
    simp [sameF, k2]
  have hs := decide_eq_true k2
  by_cases k3 : ns.length = ns'.length
  case neg =>
    have hn : ((ns.length : Int) == (ns'.length : Int)) = false := by rw [hd, decide_eq_false k3]
    simp -implicitDefEqProofs only [r23_1, r23_2, opn_z, opn_s, sel_z, sel_s, qCd_eq, qIf_true, qPick_true, qPick_false, qG_ff, qG_tf, qFa_ptr, qNeq_int, qLenL_sl, Nat.zero_add, A0, B0, A1, B1, A2, B2, hk, Bool.not_true, Bool.not_false, qNeq_str, hs, ln, ln', hn, AV.kill]
    have : ns ≠ ns' := fun e => k3 (by rw [e])
    simp [sameF, this]
  have hn : ((ns.length : Int) == (ns'.length : Int)) = true := by rw [hd, decide_eq_true k3]
  by_cases k4 : l.length = l'.length
  case neg =>
    have hll : (((rows.length : Nat) : Int) == ((rows'.length : Nat) : Int)) = false := by rw [lr, lr', hd, decide_eq_false k4]
    simp -implicitDefEqProofs only [r23_1, r23_2, opn_z, opn_s, sel_z, sel_s, qCd_eq, qIf_true, qPick_false, qG_ff, qFa_ptr, qNeq_int, qLenL_sl, Nat.zero_add, A0, B0, A1, B1, A2, B2, A3, B3, hk, Bool.not_true, Bool.not_false, qNeq_str, hs, ln, ln', hn, hll, AV.kill]
    simp [sameF, samesF_len k4]
  have hll : (((rows.length : Nat) : Int) == ((rows'.length : Nat) : Int)) = true := by rw [lr, lr', hd, decide_eq_true k4]
  simp -implicitDefEqProofs only [r23_1, r23_3, opn_z, opn_s, sel_z, sel_s, qCd_eq, qIf_false, qPick_false, qG_ff, qFa_ptr, qNeq_int, qLenL_sl, Nat.zero_add, A0, B0, A1, B1, A2, B2, A3, B3, hk, Bool.not_true, qNeq_str, hs, hn, hll, ln, ln']
  refine loop_inv (fun m fr H' => ∃ (i : Nat) (x0 x1 x4 x5 x6 x7 x8 x38 x43 x53 x56 x57 x58 x59 x70 : AV), m = ns.length - i ∧ i ≤ ns.length ∧ fr = [x0, x1, .ptr p1 0, .ptr p2 0, x4, x5, x6, x7, x8, x38, .sl (strRows ns) t1, .int .i64 (ns.length : Int), .int .i64 (i : Int), x43, x53, x56, x57, x58, x59, x70] ∧ H1 = H' ∧ ns.take i = ns'.take i) ?_ (m := ns.length) ?_
  case refine_2 => exact ⟨0, _, _, _, _, _, _, _, _, _, _, _, _, _, _, _, rfl, by omega, rfl, rfl, rfl⟩
  rintro m fr H' k ⟨i, x0, x1, x4, x5, x6, x7, x8, x38, x43, x53, x56, x57, x58, x59, x70, rfl, hi, rfl, rfl, htk⟩ hcont
  rcases Nat.lt_or_ge i ns.length with h | h
  · have h' : (i : Int) < (ns.length : Int) := by omega
    have hi2 : i < ns'.length := by omega
    have ia := fun k => qIa_strs (tk := t1) (show ns[i]? = some ns[i] from List.getElem?_eq_getElem h) k
    have ib := fun k => qIa_strs (tk := u1) (show ns'[i]? = some ns'[i] from List.getElem?_eq_getElem hi2) k
    have l1 := fun (s : Str) (H : AH) (k : AV → Prop) => (show qLd (.vptr [.str s] 0) H k = k (.str s) from rfl)
    have hw := wrap_up i (by omega)
    by_cases hq : ns[i] = ns'[i]
    · have hq' := decide_eq_true hq
      simp -implicitDefEqProofs only [l23_10, r23_4, r23_5, r23_6, r23_8, opn_z, opn_s, sel_z, sel_s, qCd_eq, qIf_true, qIf_false, qBl_eq, qFa_ptr, qLss_int, qAdd_int, Nat.zero_add, h', decide_true, ia, ib, l1, B2, qNeq_str, hq', Bool.not_true, hw]
      refine hcont (ns.length - (i + 1)) _ _ (by omega) ⟨i + 1, _, _, _, _, _, _, _, _, _, _, _, _, _, _, _, rfl, h, rfl, rfl, ?_⟩
      rw [take_succ' (List.getElem?_eq_getElem h), take_succ' (List.getElem?_eq_getElem hi2), htk, hq]
    · have hq' := decide_eq_false hq
      simp -implicitDefEqProofs only [l23_10, r23_4, r23_5, r23_6, r23_7, opn_z, opn_s, sel_z, sel_s, qCd_eq, qIf_true, qBl_eq, qFa_ptr, qLss_int, Nat.zero_add, h', decide_true, ia, ib, l1, B2, qNeq_str, hq', Bool.not_false, AV.kill]
      have : ns ≠ ns' := by
        intro e
        subst e
        exact hq rfl
      simp [sameF, this]
  have h' : ¬ (i : Int) < (ns.length : Int) := by omega
  have hnn : ns = ns' := by
    rw [List.take_of_length_le h, List.take_of_length_le (by omega)] at htk
    exact htk
  simp -implicitDefEqProofs only [l23_10, r23_4, r23_9, opn_z, opn_s, sel_z, sel_s, qCd_eq, qIf_false, qBl_eq, qFa_ptr, qLss_int, qLenL_sl, Nat.zero_add, h', decide_false, A3, lr]
  clear hcont
  refine loop_inv (fun m fr H' => ∃ (i : Nat) (x0 x1 x4 x5 x6 x7 x8 x38 x40 x41 x42 x43 x53 x59 x70 : AV), m = l.length - i ∧ i ≤ l.length ∧ fr = [x0, x1, .ptr p1 0, .ptr p2 0, x4, x5, x6, x7, x8, x38, x40, x41, x42, x43, x53, .sl rows t2, .int .i64 (l.length : Int), .int .i64 (i : Int), x59, x70] ∧ Kp H1 H' (fun _ => False) ∧ (∀ (j : Nat) (h : j < l.length) (h' : j < l'.length), j < i → sameF l[j] l'[j] = true)) ?_ (m := l.length) ?_
  case refine_2 => exact ⟨0, _, _, _, _, _, _, _, _, _, _, _, _, _, _, _, rfl, by omega, rfl, .refl _, fun j _ _ h => by omega⟩
  rintro m fr H' k ⟨j, x0, x1, x4, x5, x6, x7, x8, x38, x40, x41, x42, x43, x53, x59, x70, rfl, hj, rfl, kp, hall⟩ hcont
  haveI := kp.fn
  rcases Nat.lt_or_ge j l.length with hlt | hge
  · have h2' : (j : Int) < (l.length : Int) := by omega
    have hj2 : j < l'.length := by omega
    obtain ⟨r, e1, e2⟩ := hE.get (List.getElem?_eq_getElem hlt)
    obtain ⟨q, f1, f2⟩ := hE'.get (List.getElem?_eq_getElem hj2)
    have ia := fun k => qIa_rows (R := Prop) (tk := t2) e1 e2.four k
    have ib := fun k => qIa_rows (R := Prop) (tk := u2) f1 f2.four k
    have la := fun (H : AH) k => (show qLdA (R := Prop) 4 (.vptr r 0) H k = k (.agg r) by rw [qLdA_vptr, slice_whole r 4 e2.four, qO_some])
    have lb := fun (H : AH) k => (show qLdA (R := Prop) 4 (.vptr q 0) H k = k (.agg q) by rw [qLdA_vptr, slice_whole q 4 f2.four, qO_some])
    obtain ⟨bb, Ha, Hb, x1, x2, x3, x4, x5, x6⟩ := boxK (R := Prop) (Hs := H1) (H := H') kp z25 r (n := 4) rfl e2.four e2.ones
    haveI := x5.fn
    have gb := (x5.keep p2 (lt_i g2) (fun h => h)).trans g2
    have Bb := fun k => ld1 (R := Prop) gb 3 _ rfl k
    have ldq := fun k => qLdA_whole (R := Prop) x3 e2.four k
    have hw := wrap_up j (by omega)
    have hc := fun H => ih l[j] (List.getElem_mem hlt) l'[j] r q e2 f2 (vszs_mem z5 _ (List.getElem_mem hlt)) (vszs_mem y5 _ (List.getElem_mem hj2)) H
    cases hs2 : sameF l[j] l'[j] with
    | true =>
      rw [hs2] at hc
      simp -implicitDefEqProofs only [l23_5, r23_10, r23_11, r23_12, r23_14, opn_z, opn_s, sel_z, sel_s, qCd_eq, qIf_true, qIf_false, qBl_eq, qRes_val, qFa_ptr, qNot_bool, qLss_int, qAdd_int, Nat.zero_add, h2', decide_true, ia, la, x1, x2, ldq, Bb, ib, lb, hc, Bool.not_true, hw]
      refine hcont (l.length - (j + 1)) _ _ (by omega) ⟨j + 1, _, _, _, _, _, _, _, _, _, _, _, _, _, _, _, rfl, hlt, rfl, x5, fun i hi hi' hij => ?_⟩
      rcases Nat.lt_or_ge i j with h | h
      · exact hall i hi hi' h
      · obtain rfl : i = j := by omega
        exact hs2
    | false =>
      rw [hs2] at hc
      simp -implicitDefEqProofs only [l23_5, r23_10, r23_11, r23_12, r23_13, opn_z, opn_s, sel_z, sel_s, qCd_eq, qIf_true, qBl_eq, qRes_val, qFa_ptr, qNot_bool, qLss_int, Nat.zero_add, h2', decide_true, ia, la, x1, x2, ldq, Bb, ib, lb, hc, Bool.not_false, AV.kill]
      simp [sameF, samesF_no k4 hlt hj2 hs2]
  · have h2' : ¬ (j : Int) < (l.length : Int) := by omega
    simp -implicitDefEqProofs only [l23_5, r23_10, r23_15, opn_z, opn_s, sel_z, sel_s, qCd_eq, qIf_false, qBl_eq, qLss_int, h2', decide_false, AV.kill]
    have : l = l' := by
      apply List.ext_getElem k4
      intro i hi hi'
      exact (sameF_eq _ _).1 (hall i hi hi' (by omega))
    have h3 := (sameF_eq (.mk kind s ns l) (.mk kind' s' ns' l')).2 (by rw [k1, k2, hnn, this])
    rw [h3]

mutual
theorem same_all : ∀ v, SameOk v
  | .mk k s ns l => same_node (sames_all l)
theorem sames_all : ∀ (l : List Val), ∀ v ∈ l, SameOk v
  | [], v, hv => by cases hv
  | a :: l, v, hv => by
    rcases List.mem_cons.1 hv with h | hv
    · rw [h]; exact same_all a
    · exact sames_all l v hv
end
theorem ep23 {v w : Val} {r q : List AV} (hv : EV v r) (hw : EV w q) (h1 : vsz v) (h2 : vsz w) (H : AH) : EP 23 [.agg r, .agg q] H = some (.val (.bool (sameF v w)) H) := same_all v w r q hv hw h1 h2 H
end T
