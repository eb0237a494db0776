import Derived.Test.YtnmljkjdflfdoaaDoorJrX3
import Derived.Test.YtnmljkjdflfdoaaDoorO20
import Derived.Tactics2
set_option linter.all false
set_option linter.unusedVariables false
set_option linter.unusedSimpArgs false
set_option maxRecDepth 10000
namespace T
open Go Go.Aes Go.Proofs

/-! ### a reading that may be broken off -/
def sq1 : Code → Code
  | .seq a _ => a
  | c => c
def sq2 : Code → Code
  | .seq _ b => b
  | c => c
noncomputable def b21 : Code := Tryd.f21.body.getD .skip
noncomputable def b21b : Code := sq2 b21
noncomputable def b15 : Code := Tryd.f15.body.getD .skip
noncomputable def b15a : Code := sq1 b15
noncomputable def b15c : Code := sq2 (sq2 b15)
theorem b15c_ok : okU b15c = true := by kernel_rfl
theorem b15a_ok : okU b15a = true := by kernel_rfl
theorem b21b_ok : okU b21b = true := by kernel_rfl
theorem b15c_2 : noW 2 b15c = true := by kernel_rfl
theorem b15c_3 : noW 3 b15c = true := by kernel_rfl

theorem ta_nil (w : World) : (Instr.typeAssert .nilIface 20 57 true).run Tryd.prog w = .ok (.tuple #[.agg #[], .bool false]) w := by kernel_rfl
theorem ta_yes (pv : Value) (w : World) : (Instr.typeAssert (.iface 57 pv) 20 57 true).run Tryd.prog w = .ok (.tuple #[pv, .bool true]) w := by kernel_rfl
theorem catch_idle (va ea : Value) (w : World) : CallsD Tryd.prog 21 #[va, ea] .returning w fun e u' w' => e = .returned (.tuple #[]) ∧ u' = .returning ∧ ∃ o, w' = w.alloc o := by
  refine callsD_of_wpS Tryd.func21 rfl fun c₀ cs hu => ?_
  apply wpS_seq
  apply wpS_region
  simp [wpOpsS, go_sem, recoverD, hu, Tryd.ntmps21, Exit.thenS, ta_nil]
  apply wpS_seq
  apply wpS_region
  simp [wpOpsS, go_sem, Exit.thenS]
  refine wpS_cond (t := false) (by simp [Act.eval, Array.replicate]) ?_
  simp only [Bool.false_eq_true, if_false]
  refine wpS_of_wp (wp_skip ?_)
  cases c₀
  simp_all [bodyPostS, Go.results, Tryd.results21]
  exact ⟨_, rfl⟩

def z27 : List AV := [.int .i64 0]
section
variable {R : Type} [Mon R]
noncomputable def r21_2 (k : KT R) : KT R := fun fr H => opn 4 fr (fun s0 s1 s3 s9 =>
(qBld z26 [] fun v10 =>
qSt 4 s0 v10 H fun _ H =>
qSt 1 s1 (.int .i64 2) H fun _ H =>
k [s0, s1, s3, s9] H : R))
noncomputable def r21_1 (k : KT R) : KT R := fun fr H => opn 4 fr (fun s0 s1 s3 s9 => (k [s0, s1, s3, s3] H : R))
theorem h21 (C : CallF) (kr k : KT R) (l : List AV) (H : AH) : hC X C 21 11 [0, 1, 3, 9] kr b21b [] k l H = r21_1 (qCd (sel 3) (fun k1 => r21_2 k1) (fun k1 => k1) k) l H := by kernel_rfl
noncomputable def r15_6 (k : KT R) : KT R := fun fr H => opn 4 fr (fun s0 s2 s3 s13 => 
(qLdA 4 s2 H fun v16 =>
qSt 4 s2 v16 H fun _ H =>
qSt 1 s3 (.int .i64 0) H fun _ H =>
k [s0, s2, s3, s13] H : R))
noncomputable def r15_5 (C : CallF) (k : KT R) : KT R := fun fr H => opn 4 fr (fun s0 s2 s3 s13 => 
(qRes (C 24 [s0] H) fun v15 H =>
k [s0, s2, s3, s13] H : R))
noncomputable def r15_4 (k : KT R) : KT R := fun fr H => opn 4 fr (fun s0 s2 s3 s13 => 
(qNc s0 fun v10 =>
qFa 0 v10 fun v11 =>
qLd v11 H fun v12 =>
qNeq X 9 v12 (.str []) fun v13 =>
k [s0, s2, s3, v13] H : R))
noncomputable def r15_3 (C : CallF) (k : KT R) : KT R := fun fr H => opn 4 fr (fun s0 s2 s3 s13 => 
(qRes (C 23 [s0] H) fun v8 H =>
k [s0, s2, s3, s13] H : R))
noncomputable def r15_2 (C : CallF) (k : KT R) : KT R := fun fr H => opn 4 fr (fun s0 s2 s3 s13 => 
(qRes (C 22 [s0, (.int .i64 1)] H) fun v6 H =>
qSt 4 s2 v6 H fun _ H =>
k [s0, s2, s3, s13] H : R))
noncomputable def r15_0 (k : KT R) : KT R := fun fr H => opn 4 fr (fun s0 s2 s3 s13 => 
(qNew (.cells z26) .ptr H fun v2 H =>
qNew (.cells z27) .ptr H fun v3 H =>
k [s0, v2, v3, s13] H : R))
theorem h15a (C : CallF) (kr k : KT R) (l : List AV) (H : AH) : hC X C 15 17 [0, 2, 3, 13] kr b15a [] k l H = r15_0 k l H := by kernel_rfl
theorem h15c (C : CallF) (kr k : KT R) (l : List AV) (H : AH) : hC X C 15 17 [0, 2, 3, 13] kr b15c [] k l H = r15_2 C (r15_3 C (r15_4 (qCd (sel 3) (fun k1 => r15_5 C k1) (fun k1 => k1) (r15_6 kr)))) l H := by kernel_rfl
end

theorem fr4 {a b c d e f g h i : AV} : FR [0, 1, 3, 9] [a, b, d, Aes.undef] (frame [a, b, c, d, e, f, g, h, i] 0 .leaf) := by
  refine ⟨rfl, fun j t hj => ?_⟩
  match j, hj with
  | 0, hj => injection hj with hj; subst hj; rfl
  | 1, hj => injection hj with hj; subst hj; rfl
  | 2, hj => injection hj with hj; subst hj; rfl
  | 3, hj => injection hj with hj; subst hj; rfl
  | n + 4, hj => simp at hj
theorem catch_yes {B : Nat} {W w : World} {K : KC} {H : AH} [i0 : IsFn H] {C : CallF} (hc : CallOk Tryd.prog B W C) (hw : RW B W K H w) {va ea : Nat} {vv ev pv : Value} {cs es : List AV} (hv : RV K (.ptr va 0) vv) (he : RV K (.ptr ea 0) ev) (hne : va ≠ ea) (gv : H.get va = some (.cells cs)) (hcs : cs.length = 4) (ge : H.get ea = some (.cells es)) (hes : es.length = 1) (hpv : RV K (.agg []) pv) :
    CallsD Tryd.prog 21 #[vv, ev] (.panicking [{ v := .iface 57 pv, recovered := false }]) w fun e u' w' => e = .returned (.tuple #[]) ∧ u' = .panicking [{ v := .iface 57 pv, recovered := true }] ∧
      ∃ K', Fits K H K' ((H.set va (some (.cells z26))).set ea (some (.cells [.int .i64 2]))) ∧ RW B W K' ((H.set va (some (.cells z26))).set ea (some (.cells [.int .i64 2]))) w' := by
  obtain rfl : pv = .agg #[] := by
    cases hpv with
    | agg cs cs' h1 h2 =>
      have : cs' = #[] := Array.eq_empty_of_size_eq_zero h1
      rw [this]
  -- what the rest does
  have gv1 : (H.set va (some (.cells z26))).get ea = some (.cells es) := by rw [get_set_i (lt_i gv), if_neg (Ne.symm hne)]; exact ge
  have st1 := fun (k : AV → AH → Prop) => qSt_whole (n := 4) (l := z26) gv hcs rfl rfl k
  have st2 := fun (k : AV → AH → Prop) => qSt_1 (o := 0) (v := .int .i64 2) gv1 (by omega) rfl k
  have bl : ∀ k : AV → Prop, qBld z26 [] k = k (.agg z26) := fun k => rfl
  have hes' : es.set 0 (.int .i64 2) = [.int .i64 2] := by
    match es, hes with
    | [a], _ => rfl
  rw [hes'] at st2
  generalize hH2 : (H.set va (some (.cells z26))).set ea (some (.cells [.int .i64 2])) = H2 at st2 ⊢
  obtain ⟨lf, e, s', h1, h2⟩ := hC_sat (X := X) (C := C) (f := 21) (nt := 11) (kr := fun _ _ => False) monP_ok (by decide) b21b [] (fun _ H' => H' = H2) [.ptr va 0, .ptr ea 0, .bool true, Aes.undef] (frame [.ptr va 0, .ptr ea 0, .vptr [] 0, .bool true, .tup [.agg [], .bool true], .iface 57 (.agg []), .tup [.agg [], .bool true], .agg [], .bool true] 0 .leaf) H fr4 (by
    rw [h21]
    simp -implicitDefEqProofs only [r21_1, r21_2, opn_z, opn_s, sel_z, sel_s, qCd_eq, qIf_true, qIf_false, qFn_eq, qBl_eq, qO_some, qRes_val, qHp_some, qPick_true, qPick_false, qG_tt, qG_ff, qG_tf, qG_ft, cellsK_some, qLd_vptr, qLdA_vptr, qFa_ptr, qFa_vptr, qNc_ptr, qNc_vptr, qNc_fn, qNot_bool, qExt_tup, qCallV_fn, qLss_int, qLeq_int, qGtr_int, qGeq_int, qEql_int, qNeq_int, qAdd_int, qSub_int, qMul_int, qConvI_int, qLenL_sl, qLenL_hsl, qLenS_str, foldO, min2_int, max2_int, qSame_refl, Nat.zero_add, List.getElem?_cons_zero, List.getElem?_cons_succ, List.nil_append, List.cons_append, List.append_nil, one_bool, one_int, one_str, one_nilp, one_ptr, one_sl, one_hsl, one_map, one_fn, List.length_cons, List.length_nil, List.set_cons_zero, List.set_cons_succ, Nat.reduceLT, Nat.reduceAdd, qG_un, qResN_val, qCallVN_fn, bl, st1, st2])
  refine callsD_of_wpS Tryd.func21 rfl fun c₀ fcs hu => ?_
  apply wpS_seq
  apply wpS_region
  simp [wpOpsS, go_sem, recoverD, hu, Tryd.ntmps21, Exit.thenS, ta_yes]
  refine wpS_of_wp ?_
  have hl : RL K [.ptr va 0, .ptr ea 0, .vptr [] 0, .bool true, .tup [.agg [], .bool true], .iface 57 (.agg []), .tup [.agg [], .bool true], .agg [], .bool true] [vv, ev, .pointer (some ⟨w.heap.size, 0, none⟩), .bool true, .tuple #[.agg #[], .bool true], .iface 57 (.agg #[]), .tuple #[.agg #[], .bool true], .agg #[], .bool true] := by
    have hb : RV K (.bool true) (.bool true) := .bool true
    have ha : RV K (.agg []) (.agg #[]) := RL.nil.agg
    have ht : RV K (.tup [.agg [], .bool true]) (.tuple #[.agg #[], .bool true]) := (RL.cons ha (RL.cons hb .nil)).tup
    have hp' : RV K (.vptr [] 0) (.pointer (some ⟨w.heap.size, 0, none⟩)) := RV.vptr [] 0 w.heap.size 0 (fun _ => Go.undef) (by simp) (by simp)
    exact .cons hv (.cons he (.cons hp' (.cons hb (.cons ht (.cons (.iface 57 _ _ ha) (.cons ht (.cons ha (.cons hb .nil))))))))
  have rf := rf_frame hl 11 (by simp) (by decide)
  have key := acodeU_wp prOk.ok hc (by decide) b21b b21b_ok _ _ _ _ _ _ (fun e a' w' => bodyPostS Tryd.prog Tryd.f21 c₀ fcs (fun e u' w' => e = .returned (.tuple #[]) ∧ u' = .panicking [{ v := .iface 57 (.agg #[]), recovered := true }] ∧
      ∃ K', Fits K H K' H2 ∧ RW B W K' H2 w') e a' ({ c₀ with mode := .panicking [{ v := .iface 57 (.agg #[]), recovered := true }] } :: fcs) w') h1 rf (hw.junk (.cells #[] 57)) ?_
  · exact key
  · intro K' a' w' v' f1 rf1 rw1 _
    cases e with
    | normal =>
      obtain ⟨l, _, rfl⟩ := h2
      refine ⟨rf1.defers, _, rfl, .tuple #[], ?_, rfl, rfl, K', f1, rw1⟩
      simp [Go.results, Tryd.results21]
    | ret =>
      obtain ⟨l, _, h⟩ := h2
      exact h.elim
    | exit id =>
      obtain ⟨l, _, h⟩ := h2
      exact h.elim
    | panic v => exact h2.elim

/-! #### what a reading says -/
def rdF (s : Str) (d t : Bool) : Option (Val × Bool × Bool) := (valF (4 * s.length + 4) 1 s d t).bind fun q => if skF q.2.1 = [] then some (q.1, q.2.2.1, q.2.2.2) else none

theorem run15 {H : AH} [i0 : IsFn H] {r : Nat} {s : Str} {d t : Bool} (hg : H.get r = some (rs s d t)) (hl : s.length < 10000000) {fr : Fr} {va ea : Nat} (hf : FR [0, 2, 3, 13] [.ptr r 0, .ptr va 0, .ptr ea 0, Aes.undef] fr)
    (gv : H.get va = some (.cells z26)) (ge : H.get ea = some (.cells z27)) (hne : va ≠ ea) (hva : va ≠ r) (hea : ea ≠ r) :
    ∃ lf e s', acode X EJ 15 17 lf b15c { fr := fr, H := H } = some (e, s') ∧ Kp H s'.H (fun i => i = r ∨ i = va ∨ i = ea) ∧
      ((∃ q row, rdF s d t = some q ∧ e = .ret ∧ s'.H.get va = some (.cells row) ∧ EV q.1 row ∧ s'.H.get ea = some (.cells [.int .i64 0]) ∧ s'.H.get r = some (rs [] q.2.1 q.2.2)) ∨
        ∃ cs es, rdF s d t = none ∧ e = .panic Wr ∧ s'.H.get va = some (.cells cs) ∧ cs.length = 4 ∧ s'.H.get ea = some (.cells es) ∧ es.length = 1) := by
  have key := hC_sat (X := X) (C := EJ) (f := 15) (nt := 17) (kr := fun _ H' _ => Kp H H' (fun i => i = r ∨ i = va ∨ i = ea) ∧ ∃ q row, rdF s d t = some q ∧ H'.get va = some (.cells row) ∧ EV q.1 row ∧ H'.get ea = some (.cells [.int .i64 0]) ∧ H'.get r = some (rs [] q.2.1 q.2.2))
    (monRP_ok (fun v H' => v = Wr ∧ Kp H H' (fun i => i = r ∨ i = va ∨ i = ea) ∧ ∃ cs es, rdF s d t = none ∧ H'.get va = some (.cells cs) ∧ cs.length = 4 ∧ H'.get ea = some (.cells es) ∧ es.length = 1)) (by decide) b15c [] (fun _ _ _ => False) [.ptr r 0, .ptr va 0, .ptr ea 0, Aes.undef] fr H hf ?_
  · obtain ⟨lf, e, s', h1, h2⟩ := key
    refine ⟨lf, e, s', h1, ?_⟩
    cases e with
    | normal => obtain ⟨l, _, h⟩ := h2; exact h.elim
    | ret => obtain ⟨l, _, hk, q, row, a1, a2, a3, a4, a5⟩ := h2; exact ⟨hk, .inl ⟨q, row, a1, rfl, a2, a3, a4, a5⟩⟩
    | exit id => obtain ⟨l, _, h⟩ := h2; exact h.elim
    | panic v => obtain ⟨rfl, hk, cs, es, a1, a2, a3, a4, a5⟩ := h2; exact ⟨hk, .inr ⟨cs, es, a1, rfl, a2, a3, a4, a5⟩⟩
  rw [h15c]
  have h22 := vok_all (4 * s.length + 4) 1 s d t r H i0 hg (Nat.le_refl _) (by omega)
  unfold rdF
  cases hq : valF (4 * s.length + 4) 1 s d t with
  | none =>
    rw [hq] at h22
    simp only [] at h22
    obtain ⟨H2, hc, kp⟩ := h22
    have hc' : EJ 22 [.ptr r 0, .int .i64 1] H = some (.panic Wr H2) := hc
    simp only [Option.bind_none]
    simp -implicitDefEqProofs only [r15_2, opn_z, opn_s, sel_z, sel_s, qCd_eq, qIf_true, qIf_false, qFn_eq, qBl_eq, qO_some, qRes_val, qHp_some, qPick_true, qPick_false, qG_tt, qG_ff, qG_tf, qG_ft, cellsK_some, qLd_vptr, qLdA_vptr, qFa_ptr, qFa_vptr, qNc_ptr, qNc_vptr, qNc_fn, qNot_bool, qExt_tup, qCallV_fn, qLss_int, qLeq_int, qGtr_int, qGeq_int, qEql_int, qNeq_int, qAdd_int, qSub_int, qMul_int, qConvI_int, qLenL_sl, qLenL_hsl, qLenS_str, foldO, min2_int, max2_int, qSame_refl, Nat.zero_add, List.getElem?_cons_zero, List.getElem?_cons_succ, List.nil_append, List.cons_append, List.append_nil, one_bool, one_int, one_str, one_nilp, one_ptr, one_sl, one_hsl, one_map, one_fn, List.length_cons, List.length_nil, List.set_cons_zero, List.set_cons_succ, Nat.reduceLT, Nat.reduceAdd, qG_un, qResN_val, qCallVN_fn, hc', qRes_pan, rp_pan]
    exact ⟨trivial, kp.mono (fun _ _ h => .inl h), _, _, trivial, (kp.keep va (lt_i gv) hva).trans gv, rfl, (kp.keep ea (lt_i ge) hea).trans ge, rfl⟩
  | some q =>
    rw [hq] at h22
    simp only [] at h22
    obtain ⟨H2, row, hc, ev, s2⟩ := h22
    have hc' : EJ 22 [.ptr r 0, .int .i64 1] H = some (.val (.agg row) H2) := hc
    simp only [Option.bind_some]
    have i2 := s2.fn
    have gv2 := s2.other gv hva
    have ge2 := s2.other ge hea
    have st1 := fun (k : AV → AH → RP) => qSt_whole (n := 4) (l := row) gv2 rfl ev.four ev.ones k
    have get3 := fun i => get_set_i (H := H2) (j := i) (o := some (AO.cells row)) (lt_i gv2)
    have k3 := (s2.kp.mono (Q := fun i => i = r ∨ i = va ∨ i = ea) (fun _ _ h => .inl h)).trans (Kp.set (some (AO.cells row)) (lt_i gv2)) (fun _ _ h => .inr (.inl h))
    generalize H2.set va (some (.cells row)) = H3 at st1 get3 k3
    have i3 := k3.fn
    have gv3 : H3.get va = some (.cells row) := by rw [get3, if_pos rfl]
    have ge3 : H3.get ea = some (.cells z27) := by rw [get3, if_neg (Ne.symm hne)]; exact ge2
    have gr3 : H3.get r = some (rs q.2.1 q.2.2.1 q.2.2.2) := by rw [get3, if_neg (Ne.symm hva)]; exact s2.at_
    have h23 := j23 gr3
    have get4 := fun i => get_set_i (H := H3) (j := i) (o := some (rs (skF q.2.1) q.2.2.1 q.2.2.2)) (lt_i gr3)
    have k4 := k3.trans (Kp.set (some (rs (skF q.2.1) q.2.2.1 q.2.2.2)) (lt_i gr3)) (fun _ _ h => .inl h)
    generalize H3.set r (some (rs (skF q.2.1) q.2.2.1 q.2.2.2)) = H4 at h23 get4 k4
    have i4 := k4.fn
    have gv4 : H4.get va = some (.cells row) := by rw [get4, if_neg hva]; exact gv3
    have ge4 : H4.get ea = some (.cells z27) := by rw [get4, if_neg hea]; exact ge3
    have gr4 : H4.get r = some (rs (skF q.2.1) q.2.2.1 q.2.2.2) := by rw [get4, if_pos rfl]
    have l1 := fun (k' : AV → RP) => ldR gr4 0 (.str (skF q.2.1)) rfl k'
    by_cases hz : skF q.2.1 = []
    · rw [if_pos hz]
      rw [hz] at l1 gr4
      have l2 := fun (k' : AV → RP) => qLdA_whole (n := 4) gv4 ev.four k'
      have st2 := fun (k : AV → AH → RP) => qSt_whole (n := 4) (l := row) gv4 ev.four ev.four ev.ones k
      have get5 := fun i => get_set_i (H := H4) (j := i) (o := some (AO.cells row)) (lt_i gv4)
      have k5 := k4.trans (Kp.set (some (AO.cells row)) (lt_i gv4)) (fun _ _ h => .inr (.inl h))
      generalize H4.set va (some (.cells row)) = H5 at st2 get5 k5
      have i5 := k5.fn
      have gv5 : H5.get va = some (.cells row) := by rw [get5, if_pos rfl]
      have ge5 : H5.get ea = some (.cells z27) := by rw [get5, if_neg (Ne.symm hne)]; exact ge4
      have gr5 : H5.get r = some (rs [] q.2.2.1 q.2.2.2) := by rw [get5, if_neg (Ne.symm hva)]; exact gr4
      have st3 := fun (k : AV → AH → RP) => qSt_1 (o := 0) (v := .int .i64 0) ge5 (by simp [z27]) rfl k
      simp only [show z27.set 0 (.int .i64 0) = [.int .i64 0] from rfl] at st3
      have get6 := fun i => get_set_i (H := H5) (j := i) (o := some (AO.cells [.int .i64 0])) (lt_i ge5)
      have k6 := k5.trans (Kp.set (some (AO.cells [.int .i64 0])) (lt_i ge5)) (fun _ _ h => .inr (.inr h))
      generalize H5.set ea (some (.cells [.int .i64 0])) = H6 at st3 get6 k6
      have hn : ∀ k : AV → RP, qNeq X 9 (.str []) (.str []) k = k (.bool false) := fun k => rfl
      simp -implicitDefEqProofs only [r15_2, r15_3, r15_4, r15_6, opn_z, opn_s, sel_z, sel_s, qCd_eq, qIf_true, qIf_false, qFn_eq, qBl_eq, qO_some, qRes_val, qHp_some, qPick_true, qPick_false, qG_tt, qG_ff, qG_tf, qG_ft, cellsK_some, qLd_vptr, qLdA_vptr, qFa_ptr, qFa_vptr, qNc_ptr, qNc_vptr, qNc_fn, qNot_bool, qExt_tup, qCallV_fn, qLss_int, qLeq_int, qGtr_int, qGeq_int, qEql_int, qNeq_int, qAdd_int, qSub_int, qMul_int, qConvI_int, qLenL_sl, qLenL_hsl, qLenS_str, foldO, min2_int, max2_int, qSame_refl, Nat.zero_add, List.getElem?_cons_zero, List.getElem?_cons_succ, List.nil_append, List.cons_append, List.append_nil, one_bool, one_int, one_str, one_nilp, one_ptr, one_sl, one_hsl, one_map, one_fn, List.length_cons, List.length_nil, List.set_cons_zero, List.set_cons_succ, Nat.reduceLT, Nat.reduceAdd, qG_un, qResN_val, qCallVN_fn, hc', st1, h23, l1, hn, l2, st2, st3]
      exact ⟨k6, _, _, rfl, by rw [get6, if_neg hne]; exact gv5, ev, by rw [get6, if_pos rfl], by rw [get6, if_neg (Ne.symm hea)]; exact gr5⟩
    · rw [if_neg hz]
      have h24 := j24 (.ptr r 0) H4
      have hn : ∀ k : AV → RP, qNeq X 9 (.str (skF q.2.1)) (.str []) k = k (.bool true) := fun k => by
        cases hs : skF q.2.1 with
        | nil => exact absurd hs hz
        | cons a l => rfl
      simp -implicitDefEqProofs only [r15_2, r15_3, r15_4, r15_5, opn_z, opn_s, sel_z, sel_s, qCd_eq, qIf_true, qIf_false, qFn_eq, qBl_eq, qO_some, qRes_val, qHp_some, qPick_true, qPick_false, qG_tt, qG_ff, qG_tf, qG_ft, cellsK_some, qLd_vptr, qLdA_vptr, qFa_ptr, qFa_vptr, qNc_ptr, qNc_vptr, qNc_fn, qNot_bool, qExt_tup, qCallV_fn, qLss_int, qLeq_int, qGtr_int, qGeq_int, qEql_int, qNeq_int, qAdd_int, qSub_int, qMul_int, qConvI_int, qLenL_sl, qLenL_hsl, qLenS_str, foldO, min2_int, max2_int, qSame_refl, Nat.zero_add, List.getElem?_cons_zero, List.getElem?_cons_succ, List.nil_append, List.cons_append, List.append_nil, one_bool, one_int, one_str, one_nilp, one_ptr, one_sl, one_hsl, one_map, one_fn, List.length_cons, List.length_nil, List.set_cons_zero, List.set_cons_succ, Nat.reduceLT, Nat.reduceAdd, qG_un, qResN_val, qCallVN_fn, hc', st1, h23, l1, hn, h24, qRes_pan, rp_pan]
      exact ⟨trivial, k4, _, _, trivial, gv4, ev.four, ge4, rfl⟩
end T
set_option linter.unusedVariables false
set_option linter.unusedSimpArgs false
set_option maxRecDepth 10000
namespace T
open Go Go.Aes Go.Proofs

theorem EP3_ok (B : Nat) (W : World) (ht : Tb3 B W) : CallOk Tryd.prog B W EP3 := evZ_ok tbOk3 (fun B W h => OF3_ok B W h) prOk B W ht
theorem EJ_ok (B : Nat) (W : World) (ht : Tb3 B W) : CallOk Tryd.prog B W EJ := evZ_ok tbOk3 (fun B W h => EP3_ok B W h) prOk B W ht

theorem fr1 {a : AV} : FR [0, 2, 3, 13] [a, Aes.undef, Aes.undef, Aes.undef] (frame [a] 0 .leaf) := by
  refine ⟨rfl, fun j t hj => ?_⟩
  match j, hj with
  | 0, hj => injection hj with hj; subst hj; rfl
  | 1, hj => injection hj with hj; subst hj; rfl
  | 2, hj => injection hj with hj; subst hj; rfl
  | 3, hj => injection hj with hj; subst hj; rfl
  | n + 4, hj => simp at hj
theorem fr_put4 {l : List AV} {fr : Fr} (h : FR [0, 2, 3, 13] l fr) (v : AV) : FR [0, 2, 3, 13] l (putD fr (some 4) v) := by
  refine ⟨h.len, fun j t hj => ?_⟩
  rw [putD_ne (nt := 17) (t := t) (by decide) rfl ?_]
  · exact h.at_ j t hj
  · intro e
    injection e with e
    subst e
    match j, hj with
    | 0, hj => injection hj with hj; cases hj
    | 1, hj => injection hj with hj; cases hj
    | 2, hj => injection hj with hj; cases hj
    | 3, hj => injection hj with hj; cases hj
    | n + 4, hj => simp at hj
theorem fr_some {fr : Fr} {t i o : Nat} (h : (fr.get t).getD Aes.undef = .ptr i o) : fr.get t = some (.ptr i o) := by
  cases hg : fr.get t with
  | none => rw [hg] at h; cases h
  | some v => rw [hg] at h; simp at h; rw [h]
/-- the results, out of their cells -/
theorem res_cells {K : KC} {fr : Fr} {H : AH} {w : World} {B : Nat} {W : World} {a : Act} {ds : List Deferred} (rf : RF ds K 17 fr a) (hw : RW B W K H w) {va ea : Nat} {row : List AV} {n : Int} (g2 : fr.get 2 = some (.ptr va 0)) (g3 : fr.get 3 = some (.ptr ea 0)) (hv : H.get va = some (.cells row)) (hl : row.length = 4) (he : H.get ea = some (.cells [.int .i64 n])) :
    ∃ v, (Go.results Tryd.f15 a.tmps).run Tryd.prog w = .ok v w ∧ RV K (.tup [.agg row, .int .i64 n]) v := by
  have hs : slice? row 0 4 = some row := slice_whole row 4 hl
  have lv : loadAt X 26 (.ptr va 0) H = some (.agg row) := by
    have : loadAt X 26 (.ptr va 0) H = (match H.get va with
      | some (.cells cs) => loadFrom true 4 cs 0
      | some (.obj _ _ cs) => loadFrom true 4 cs 0
      | _ => none) := by kernel_rfl
    rw [this, hv]
    simp [loadFrom, hs]
  have le : loadAt X 27 (.ptr ea 0) H = some (.int .i64 n) := by
    have : loadAt X 27 (.ptr ea 0) H = (match H.get ea with
      | some (.cells cs) => loadFrom false 1 cs 0
      | some (.obj _ _ cs) => loadFrom false 1 cs 0
      | _ => none) := by kernel_rfl
    rw [this, he]
    rfl
  have hr : Aes.results X fr H Tryd.f15.results.toList = some [.agg row, .int .i64 n] := by
    have e : Tryd.f15.results.toList = [.cell 2 26, .cell 3 27] := by kernel_rfl
    rw [e]
    simp [Aes.results, g2, g3, lv, le]
  obtain ⟨rs, q1, q2⟩ := results_ok prOk.ok rf hw (fun x => match x with
    | .tmp t => pure (a.tmps.getD t Go.undef)
    | .cell p t => do loadVar t (← asAddr (a.tmps.getD p Go.undef))) (fun t => rfl) (fun p t => rfl) _ _ hr
  obtain ⟨r1, rs1, rfl, k1, k2⟩ := q1.cons_inv
  obtain ⟨r2, rs2, rfl, k3, k4⟩ := k2.cons_inv
  obtain rfl := k4.nil_inv
  refine ⟨.tuple #[r1, r2], ?_, q1.tup⟩
  unfold Go.results
  rw [Sem.run_bind, Array.mapM_eq_mapM_toList, Sem.run_map]
  erw [q2]
  rfl

def Spec15 (s : Str) (d t : Bool) (r : Nat) (H : AH) (res : Res) : Prop :=
  match rdF s d t with
  | some q => ∃ row H', res = .val (.tup [.agg row, .int .i64 0]) H' ∧ EV q.1 row ∧ Sr H H' r [] q.2.1 q.2.2
  | none => ∃ H', res = .val (.tup [.agg z26, .int .i64 2]) H' ∧ Kp H H' (· = r)

noncomputable def b15b : Code := sq1 (sq2 b15)
theorem b15b_eq : b15b = .region 1 #[{ dst := some 4, op := Op.makeFunc (Fn.func 21) #[] #[Operand.tmp 2, Operand.tmp 3], type := 1, pos := "jread.go:142", after := #[], guard := none }, { dst := none, op := Op.defer { callee := Callee.value (Operand.tmp 4), args := #[], argTypes := #[] }, type := 0, pos := "jread.go:142", after := #[{ on := 0, ground := Ground.data }], guard := none }] false := by kernel_rfl
theorem defer_wp {Q : Exit → Act → World → Prop} {t1 : Array Value} (hsz : t1.size = 17) (w : World)
    (h : Q .normal { tmps := t1.setIfInBounds 4 (.func (.func 21) #[] #[t1.getD 2 Go.undef, t1.getD 3 Go.undef]), defers := [{ target := .fn (.func 21) #[t1.getD 2 Go.undef, t1.getD 3 Go.undef], args := #[] }] } w) : b15b.wp Tryd.prog Q { tmps := t1, defers := [] } w := by
  rw [b15b_eq]
  apply wp_region
  simp [wpOps, go_sem, hsz]
  have e2 : t1.getD 2 Go.undef = t1[2]'(by omega) := by simp [Array.getD, hsz]
  have e3 : t1.getD 3 Go.undef = t1[3]'(by omega) := by simp [Array.getD, hsz]
  rw [e2, e3] at h
  exact .inl (.inl h)
theorem ok15 {H : AH} [i0 : IsFn H] {r : Nat} {s : Str} {d t : Bool} (hg : H.get r = some (rs s d t)) (hl : s.length < 10000000) :
    ∃ res, Spec15 s d t r H res ∧ ∀ B W, Tb3 B W → ∀ K w vs, RW B W K H w → RL K [.ptr r 0] vs → Calls Tryd.prog 15 vs.toArray w (CPost B W K H res) := by
  have hr := lt_i hg
  -- the first part
  have n1 := nx_push_i (H := H) (o := .cells z26)
  have n2 := nx_push_i (H := H.push (.cells z26)) (o := .cells z27)
  have a1 := get_push_at (H := H) (.cells z26)
  have a2 := get_push_at (H := H.push (.cells z26)) (.cells z27)
  have b1 : ∀ k : AV → AH → Prop, qNew (.cells z26) .ptr H k = k (.ptr H.nx 0) (H.push (.cells z26)) := fun k => by rw [qNew_i]; rfl
  have b2 : ∀ k : AV → AH → Prop, qNew (.cells z27) .ptr (H.push (.cells z26)) k = k (.ptr (H.push (.cells z26)).nx 0) ((H.push (.cells z26)).push (.cells z27)) := fun k => by rw [qNew_i]; rfl
  rw [n1] at b2 a2
  have gv : ((H.push (.cells z26)).push (.cells z27)).get H.nx = some (.cells z26) := by rw [get_push_lt _ (by omega)]; exact a1
  have gr : ((H.push (.cells z26)).push (.cells z27)).get r = some (rs s d t) := by rw [get_push_lt _ (by omega), get_push_lt _ (by omega)]; exact hg
  have ka : Kp H ((H.push (.cells z26)).push (.cells z27)) (· = r) := (Kp.push _ _).trans (Kp.push _ (· = r)) (fun _ _ h => h)
  obtain ⟨lf1, e1, s1, run1, out1⟩ := hC_sat (X := X) (C := EJ) (f := 15) (nt := 17) (kr := fun _ _ => False) monP_ok (by decide) b15a [] (fun l H' => l = [.ptr r 0, .ptr H.nx 0, .ptr (H.nx + 1) 0, Aes.undef] ∧ H' = (H.push (.cells z26)).push (.cells z27)) [.ptr r 0, Aes.undef, Aes.undef, Aes.undef] (frame [.ptr r 0] 0 .leaf) H fr1 (by
    rw [h15a]
    simp -implicitDefEqProofs only [r15_0, opn_z, opn_s, sel_z, sel_s, qCd_eq, qIf_true, qIf_false, qFn_eq, qBl_eq, qO_some, qRes_val, qHp_some, qPick_true, qPick_false, qG_tt, qG_ff, qG_tf, qG_ft, cellsK_some, qLd_vptr, qLdA_vptr, qFa_ptr, qFa_vptr, qNc_ptr, qNc_vptr, qNc_fn, qNot_bool, qExt_tup, qCallV_fn, qLss_int, qLeq_int, qGtr_int, qGeq_int, qEql_int, qNeq_int, qAdd_int, qSub_int, qMul_int, qConvI_int, qLenL_sl, qLenL_hsl, qLenS_str, foldO, min2_int, max2_int, qSame_refl, Nat.zero_add, List.getElem?_cons_zero, List.getElem?_cons_succ, List.nil_append, List.cons_append, List.append_nil, one_bool, one_int, one_str, one_nilp, one_ptr, one_sl, one_hsl, one_map, one_fn, List.length_cons, List.length_nil, List.set_cons_zero, List.set_cons_succ, Nat.reduceLT, Nat.reduceAdd, qG_un, qResN_val, qCallVN_fn, b1, b2]
    exact ⟨trivial, trivial⟩)
  generalize (H.push (.cells z26)).push (.cells z27) = Ha at *
  have ia := ka.fn
  cases e1 with
  | ret => obtain ⟨l, _, h⟩ := out1; exact h.elim
  | exit id => obtain ⟨l, _, h⟩ := out1; exact h.elim
  | panic v => exact out1.elim
  | normal =>
    obtain ⟨l, hf1, rfl, hH1⟩ := out1
    obtain ⟨fr1', H1'⟩ := s1
    simp only at hf1 hH1
    subst hH1
    have hf2 := fr_put4 hf1 (.fn (.func 21) [] [.ptr H.nx 0, .ptr (H.nx + 1) 0])
    obtain ⟨lf2, e2, s2, run2, kp2, out2⟩ := run15 gr hl hf2 gv a2 (by omega) (by omega) (by omega)
    have k2 := acode_keep (t := 2) (by decide) b15c b15c_2 _ _ _ run2
    have k3 := acode_keep (t := 3) (by decide) b15c b15c_3 _ _ _ run2
    have g2 : s2.fr.get 2 = some (.ptr H.nx 0) := by rw [k2]; exact fr_some (hf2.at_ 1 2 rfl)
    have g3 : s2.fr.get 3 = some (.ptr (H.nx + 1) 0) := by rw [k3]; exact fr_some (hf2.at_ 2 3 rfl)
    have i2 := kp2.fn
    have kall : Kp H s2.H (· = r) := ⟨i2, Nat.le_trans ka.nx kp2.nx, fun j hj hp => (kp2.keep j (Nat.lt_of_lt_of_le hj ka.nx) (by rintro (h | h | h) <;> first | exact hp h | omega)).trans (ka.keep j hj hp)⟩
    -- the whole, whatever the answer
    have whole : ∀ res, (∀ (B : Nat) (W : World), Tb3 B W → ∀ (K0 K : KC) (w : World) (a : Act) (v' vv ev : Value), Fits K0 H K s2.H → RV K (.ptr H.nx 0) vv → RV K (.ptr (H.nx + 1) 0) ev →
        RF [{ target := .fn (.func 21) #[vv, ev], args := #[] }] K 17 s2.fr a → RW B W K s2.H w → (∀ v, e2 = .panic v → RV K v v') →
        bodyPostD Tryd.prog Tryd.f15 (CPost B W K0 H res) (exOf e2 v') a w) → ∀ B W, Tb3 B W → ∀ K w vs, RW B W K H w → RL K [.ptr r 0] vs → Calls Tryd.prog 15 vs.toArray w (CPost B W K H res) := by
      intro res hfin B W ht K w vs hw hvs
      refine calls_of_wp_defers Tryd.func15 rfl ?_
      refine wp_seq ?_
      have rf0 := rf_frame hvs 17 (by simp) (by decide)
      refine acodeU_wp prOk.ok (EJ_ok B W ht) (by decide) b15a b15a_ok _ _ _ _ _ _ _ run1 rf0 hw ?_
      intro K1 a1 w1 v1 f1 rf1 rw1 _
      refine wp_seq ?_
      have hsz := rf1.size
      have hdf := rf1.defers
      obtain ⟨t1, d1⟩ := a1
      simp only at hsz hdf
      subst hdf
      refine defer_wp hsz w1 ?_
      have v2 : RV K1 (.ptr H.nx 0) (t1.getD 2 Go.undef) := by
        have := rf1.at_ 2
        rw [hf1.at_ 1 2 rfl] at this
        exact this
      have v3 : RV K1 (.ptr (H.nx + 1) 0) (t1.getD 3 Go.undef) := by
        have := rf1.at_ 3
        rw [hf1.at_ 2 3 rfl] at this
        exact this
      have hfn : RV K1 (.fn (.func 21) [] [.ptr H.nx 0, .ptr (H.nx + 1) 0]) (.func (.func 21) #[] #[t1.getD 2 Go.undef, t1.getD 3 Go.undef]) := by
        refine .fn _ _ _ _ _ rfl rfl (fun j x v h1 h2 => by simp at h1) (fun j x v h1 h2 => ?_)
        match j, h1, h2 with
        | 0, h1, h2 => injection h1 with h1; injection h2 with h2; subst h1; subst h2; exact v2
        | 1, h1, h2 => injection h1 with h1; injection h2 with h2; subst h1; subst h2; exact v3
        | n + 2, h1, h2 => simp at h1
      have rf2' := rf1.put (d := some 4) (by decide) rfl hfn
      have rf2 : RF [{ target := .fn (.func 21) #[t1.getD 2 Go.undef, t1.getD 3 Go.undef], args := #[] }] K1 17 (putD fr1' (some 4) (.fn (.func 21) [] [.ptr H.nx 0, .ptr (H.nx + 1) 0]))
        { tmps := t1.setIfInBounds 4 (.func (.func 21) #[] #[t1.getD 2 Go.undef, t1.getD 3 Go.undef]), defers := [{ target := .fn (.func 21) #[t1.getD 2 Go.undef, t1.getD 3 Go.undef], args := #[] }] } := ⟨rf2'.size, rf2'.at_, rfl⟩
      refine acodeU_wp prOk.ok (EJ_ok B W ht) (by decide) b15c b15c_ok _ _ _ _ _ _ _ run2 rf2 rw1 ?_
      intro K2 a2 w2 v2' f2 rf3 rw2 hv2
      exact hfin B W ht K K2 w2 a2 v2' _ _ (f1.trans f2) (v2.mono f2.le) (v3.mono f2.le) rf3 rw2 hv2
    have hinv : ∀ (vv ev : Value) (w : World), (invoke (.fn (.func 21) #[vv, ev]) #[]).run Tryd.prog w = .ok (.enter 21 #[vv, ev]) w := fun vv ev w => by simp [go_sem]
    rcases out2 with ⟨q, row, hq, rfl, gv2, ev, ge2, gr2⟩ | ⟨cs, es, hq, rfl, gv2, hcs, ge2, hes⟩
    · refine ⟨.val (.tup [.agg row, .int .i64 0]) s2.H, ?_, whole _ ?_⟩
      · unfold Spec15
        rw [hq]
        exact ⟨row, s2.H, rfl, ev, kall, gr2⟩
      · intro B W ht K0 K w a v' vv evl f v2 v3 rf rw' hv
        have hd := rf.defers
        obtain ⟨tm, dd'⟩ := a
        simp only at hd
        subst hd
        refine leaves_cons (f := 21) (args := #[vv, evl]) (by simp) (hinv vv evl w) ?_
        refine (catch_idle vv evl w).mono ?_
        rintro e u' w'' ⟨rfl, rfl, o, rfl⟩
        have rwj := rw'.junk o
        obtain ⟨v, h1, h2⟩ := res_cells rf rwj g2 g3 gv2 ev.four ge2
        exact ⟨v, h1, K, h2, rwj, f⟩
    · have hg2' : (s2.H.set H.nx (some (.cells z26))).get (H.nx + 1) = some (.cells es) := by rw [get_set_i (lt_i gv2), if_neg (by omega)]; exact ge2
      refine ⟨.val (.tup [.agg z26, .int .i64 2]) ((s2.H.set H.nx (some (.cells z26))).set (H.nx + 1) (some (.cells [.int .i64 2]))), ?_, whole _ ?_⟩
      · unfold Spec15
        rw [hq]
        refine ⟨_, rfl, inferInstance, by rw [AH.nx_set, AH.nx_set]; exact kall.nx, fun j hj hp => ?_⟩
        rw [get_set_i (lt_i hg2'), if_neg (by omega), get_set_i (lt_i gv2), if_neg (by omega)]
        exact kall.keep j hj hp
      · intro B W ht K0 K w a v' vv evl f v2 v3 rf rw' hv
        have hd := rf.defers
        obtain ⟨tm, dd'⟩ := a
        simp only at hd
        subst hd
        have hw := hv _ rfl
        obtain ⟨pv, rfl, hpv⟩ : ∃ pv, v' = .iface 57 pv ∧ RV K (.agg []) pv := by
          cases hw with
          | iface t v v'' h => exact ⟨v'', rfl, h⟩
        refine leaves_cons (f := 21) (args := #[vv, evl]) (by simp [exOf]) (hinv vv evl w) ?_
        refine (catch_yes (EJ_ok B W ht) rw' v2 v3 (by omega) gv2 hcs ge2 hes hpv).mono ?_
        rintro e u' w'' ⟨rfl, rfl, K', f', rw''⟩
        obtain ⟨v, h1, h2⟩ := res_cells (rf.mono f'.le) rw'' g2 g3 (row := z26) (n := 2) (by rw [get_set_i (lt_i hg2'), if_neg (by omega), get_set_i (lt_i gv2), if_pos rfl]) rfl (by rw [get_set_i (lt_i hg2'), if_pos rfl])
        exact ⟨v, h1, K', h2, rw'', f.trans f'⟩
end T
set_option linter.unusedVariables false
set_option linter.unusedSimpArgs false
set_option maxRecDepth 10000
namespace T
open Go Go.Aes Go.Proofs

/-! ### what may be broken off, asked as an oracle -/
def Snd15 (al : List AV) (H : AH) (res : Res) : Prop := ∀ B W, Tb3 B W → ∀ K w vs, RW B W K H w → RL K al vs → Calls Tryd.prog 15 vs.toArray w (CPost B W K H res)
def Rel15 (al : List AV) (H : AH) (res : Res) : Prop := ∃ r s d t, al = [.ptr r 0] ∧ IsFn H ∧ H.get r = some (rs s d t) ∧ s.length < 10000000 ∧ Spec15 s d t r H res ∧ Snd15 al H res
open Classical in
noncomputable def o15 (al : List AV) (H : AH) : Option Res := if h : ∃ res, Rel15 al H res then some h.choose else none
theorem o15_spec {H : AH} [i0 : IsFn H] {r : Nat} {s : Str} {d t : Bool} (hg : H.get r = some (rs s d t)) (hl : s.length < 10000000) : ∃ res, o15 [.ptr r 0] H = some res ∧ Spec15 s d t r H res := by
  obtain ⟨res, h1, h2⟩ := ok15 hg hl
  have hex : ∃ res, Rel15 [.ptr r 0] H res := ⟨res, r, s, d, t, rfl, i0, hg, hl, h1, h2⟩
  refine ⟨hex.choose, ?_, ?_⟩
  · unfold o15; rw [dif_pos hex]
  · obtain ⟨r', s', d', t', e1, _, e2, _, e3, _⟩ := hex.choose_spec
    injection e1 with e1 _
    injection e1 with e1 _
    subst e1
    have hh := hg.symm.trans e2
    unfold rs at hh
    injection hh with hh
    injection hh with hh
    injection hh with a1 hh
    injection hh with a2 hh
    injection hh with a3 hh
    injection a1 with a1
    injection a2 with a2
    injection a3 with a3
    subst a1; subst a2; subst a3
    exact e3
noncomputable def O15f : CallF := fun g al H => bif g.beq 15 then o15 al H else none
theorem O15f_ok (B : Nat) (W : World) (ht : Tb3 B W) : CallOk Tryd.prog B W O15f := by
  refine ⟨fun g al H r h => ?_, fun g al H r h K w vs hw hl => ?_⟩
  all_goals
    unfold O15f at h
    cases hg : g.beq 15 with
    | false => rw [hg] at h; cases h
    | true =>
      rw [hg] at h
      obtain rfl : g = 15 := by simpa using hg
      first
        | exact ⟨_, Tryd.func15, by kernel_rfl, by kernel_rfl⟩
        | (have h' : o15 al H = some r := h
           unfold o15 at h'
           split at h'
           · rename_i hex
             injection h' with h'
             subst h'
             obtain ⟨_, _, _, _, _, _, _, _, _, hs⟩ := hex.choose_spec
             exact hs B W ht K w vs hw hl
           · cases h')
def D15 (g : Nat) : Bool := g.beq 15
noncomputable def OK15 : CallF := orO D15 O15f EP3
theorem OK15_ok (B : Nat) (W : World) (ht : Tb3 B W) : CallOk Tryd.prog B W OK15 := orO_ok (O15f_ok B W ht) (EP3_ok B W ht)
def DK (g : Nat) : Bool := [13, 14, 15].contains g
def PK (g : Nat) : Bool := [7, 8].contains g
def ZK (g : Nat) : Bool := false
noncomputable abbrev EK : CallF := evZ X DK OK15 PK ZK
theorem EK_ok (B : Nat) (W : World) (ht : Tb3 B W) : CallOk Tryd.prog B W EK := evZ_ok tbOk3 (fun B W h => OK15_ok B W h) prOk B W ht
theorem k13 (v n : Int) (hn : 0 < n) (hn2 : n ≤ 4611686018427387904) (H : AH) : EK 13 [.int .i64 v, .int .i64 n] H = some (.val (.int .i64 (v % n)) H) := evZ_O rfl (up (ep26 v n hn hn2 H))
theorem k14 (n : Nat) (h : n < 10 ^ 18) (H : AH) : EK 14 [.int .i64 (n : Int)] H = some (.val (.str (decs n)) H) := evZ_O rfl (up (ep27 n h H))
theorem k15 {H : AH} [i0 : IsFn H] {r : Nat} {s : Str} {d t : Bool} (hg : H.get r = some (rs s d t)) (hl : s.length < 10000000) : ∃ res, EK 15 [.ptr r 0] H = some res ∧ Spec15 s d t r H res := by
  obtain ⟨res, h1, h2⟩ := o15_spec hg hl
  exact ⟨res, evZ_O rfl h1, h2⟩

/-! ### Read -/
def zV : Val := .mk 0 [] [] []
theorem zV_EV : EV zV z26 := ⟨.nil, .nil, [], rfl, rfl⟩
def readF (s : Str) : Val × Int :=
  if 4000 < s.length then (zV, 3) else match rdF s false false with
    | none => (zV, 2)
    | some (v, d, t) => if d then (zV, 4) else if t then (zV, 5) else (v, 0)
theorem len_gt (n : Nat) : (decide ((4000 : Int) < (n : Int))) = decide (4000 < n) := by
  by_cases h : 4000 < n
  · rw [decide_eq_true h, decide_eq_true (by omega)]
  · rw [decide_eq_false h, decide_eq_false (by omega)]
theorem k8 (s : Str) : ∃ row, EV (readF s).1 row ∧ AV.frees row = true ∧ ∀ H, EK 8 [.str s] H = some (.val (.tup [.agg row, .int .i64 (readF s).2]) H) := by
  have key := uz_form_ex (X := X) (D := DK) (O := OK15) (S := PK) (Z := ZK) (al := [.str s]) e8 xf8 rfl rfl rfl (Q := fun v => ∃ row, v = .tup [.agg row, .int .i64 (readF s).2] ∧ EV (readF s).1 row ∧ AV.frees row = true) ?_
  · obtain ⟨v, ⟨row, rfl, h1, h2⟩, h3⟩ := key
    exact ⟨row, h1, h2, h3⟩
  simp only [AV.kills, AV.kill]
  have fin : ∀ {row : List AV} (e : Int), EV (readF s).1 row → e = (readF s).2 → (AV.tup [.agg row, .int .i64 e]).kill.free = true ∧ ∃ row', (AV.tup [.agg row, .int .i64 e]).kill = .tup [.agg row', .int .i64 (readF s).2] ∧ EV (readF s).1 row' ∧ AV.frees row' = true := by
    intro row e he rfl
    obtain ⟨a1, a2⟩ := EV.kill _ _ he
    refine ⟨?_, _, rfl, a1, a2⟩
    simp only [AV.kill, AV.kills, AV.free, AV.frees, a2]
    rfl
  have bl : ∀ k : AV → Prop, qBld z26 [] k = k (.agg z26) := fun k => rfl
  have b2 : ∀ k : AV → Prop, qBld z47 [(0, 1, .str s)] k = k (.agg [.str s, .bool false, .bool false]) := fun k => by kernel_rfl
  obtain ⟨vi, H1, i1, n1, g1⟩ : ∃ vi H1, IsFn H1 ∧ (∀ k : AV → AH → Prop, qNew (.cells z26) .ptr H0 k = k (.ptr vi 0) H1) ∧ H1.get vi = some (.cells z26) :=
    ⟨0, H0.push (.cells z26), inferInstance, fun k => by rw [qNew_i]; rfl, get_push_at (H := H0) (.cells z26)⟩
  have gt := len_gt s.length
  -- a row written to the result's cell
  have wr : ∀ {H : AH} [IsFn H], H.get vi = some (.cells z26) → ∀ row : List AV, row.length = 4 → allOne row = true → ∃ Hs, (∀ kk : AV → AH → Prop, qSt 4 (.ptr vi 0) (.agg row) H kk = kk Aes.undef Hs) ∧ ∀ kk : AV → Prop, qLdA 4 (.ptr vi 0) Hs kk = kk (.agg row) := by
    intro H _ hg row hl ho
    exact ⟨_, fun kk => qSt_whole (n := 4) (l := row) hg rfl hl ho kk, fun kk => qLdA_whole (n := 4) (by rw [get_set_i (lt_i hg), if_pos rfl]) hl kk⟩
  by_cases hlen : 4000 < s.length
  · have hr : readF s = (zV, 3) := by unfold readF; rw [if_pos hlen]
    rw [decide_eq_true hlen] at gt
    obtain ⟨Hs, w1, w2⟩ := wr g1 z26 rfl rfl
    simp -implicitDefEqProofs only [c8, r8_0, r8_1, r8_2, opn_z, opn_s, sel_z, sel_s, qCd_eq, qIf_true, qIf_false, qFn_eq, qBl_eq, qO_some, qRes_val, qHp_some, qPick_true, qPick_false, qG_tt, qG_ff, qG_tf, qG_ft, cellsK_some, qLd_vptr, qLdA_vptr, qFa_ptr, qFa_vptr, qNc_ptr, qNc_vptr, qNc_fn, qNot_bool, qExt_tup, qCallV_fn, qLss_int, qLeq_int, qGtr_int, qGeq_int, qEql_int, qNeq_int, qAdd_int, qSub_int, qMul_int, qConvI_int, qLenL_sl, qLenL_hsl, qLenS_str, foldO, min2_int, max2_int, qSame_refl, Nat.zero_add, List.getElem?_cons_zero, List.getElem?_cons_succ, List.nil_append, List.cons_append, List.append_nil, one_bool, one_int, one_str, one_nilp, one_ptr, one_sl, one_hsl, one_map, one_fn, List.length_cons, List.length_nil, List.set_cons_zero, List.set_cons_succ, Nat.reduceLT, Nat.reduceAdd, qG_un, qResN_val, qCallVN_fn, n1, gt, bl, w1, w2, qPtr_ptr]
    exact fin 3 (by rw [hr]; exact zV_EV) (by rw [hr])
  · have hr : readF s = match rdF s false false with
      | none => (zV, 2)
      | some (v, d, t) => if d then (zV, 4) else if t then (zV, 5) else (v, 0) := by unfold readF; rw [if_neg hlen]
    rw [decide_eq_false hlen] at gt
    have gr := get_push_at (H := H1) (rs s false false)
    have gv2 : (H1.push (rs s false false)).get vi = some (.cells z26) := by rw [get_push_lt _ (lt_i g1)]; exact g1
    have hne : vi ≠ H1.nx := by have := lt_i g1; omega
    have bx : ∀ k : AV → AH → Prop, qBox (.agg [.str s, .bool false, .bool false]) H1 k = k (.ptr H1.nx 0) (H1.push (rs s false false)) := fun k => qBox_i ..
    have bx_fn : IsFn (H1.push (rs s false false)) := inferInstance
    generalize H1.nx = r at gr hne bx
    generalize H1.push (rs s false false) = H2 at gr gv2 bx bx_fn
    have i2 : IsFn H2 := bx_fn
    -- the value put into a cell of its own
    have cell : ∀ {H : AH} [IsFn H] {row : List AV}, row.length = 4 → allOne row = true → H.get vi = some (.cells z26) → ∃ ci Ha Hb, (∀ k : AV → AH → Prop, qNew (.cells z26) .ptr H k = k (.ptr ci 0) Ha) ∧ (∀ k : AV → AH → Prop, qSt 4 (.ptr ci 0) (.agg row) Ha k = k Aes.undef Hb) ∧ IsFn Hb ∧ (∀ k : AV → Prop, qLdA 4 (.ptr ci 0) Hb k = k (.agg row)) ∧ (∀ i ob, H.get i = some ob → Hb.get i = some ob) := by
      intro H _ row hl ho hv
      have ha := get_push_at (H := H) (.cells z26)
      refine ⟨H.nx, H.push (.cells z26), _, fun k => by rw [qNew_i]; rfl, fun k => qSt_whole (n := 4) (l := row) ha rfl hl ho k, inferInstance, fun k => qLdA_whole (n := 4) (by rw [get_set_i (lt_i ha), if_pos rfl]) hl k, fun i ob hi => ?_⟩
      have := lt_i hi
      rw [get_set_i (lt_i ha), if_neg (by omega), get_push_lt _ this]; exact hi
    obtain ⟨res, h15, sp⟩ := k15 gr (by omega)
    unfold Spec15 at sp
    cases hq : rdF s false false with
    | none =>
      rw [hq] at sp hr
      simp only [] at sp hr
      obtain ⟨H3, rfl, kp⟩ := sp
      have i3 := kp.fn
      have gv3 := (kp.keep vi (lt_i gv2) hne).trans gv2
      obtain ⟨ci, Ha, Hb, c1, c2, ib, c3, c4⟩ := cell (row := z26) rfl rfl gv3
      obtain ⟨Hs, w1, w2⟩ := wr (c4 _ _ gv3) z26 rfl rfl
      have hn : (!((2 : Int) == 0)) = true := rfl
      simp -implicitDefEqProofs only [c8, r8_0, r8_1, r8_3, r8_4, r8_5, r8_6, opn_z, opn_s, sel_z, sel_s, qCd_eq, qIf_true, qIf_false, qFn_eq, qBl_eq, qO_some, qRes_val, qHp_some, qPick_true, qPick_false, qG_tt, qG_ff, qG_tf, qG_ft, cellsK_some, qLd_vptr, qLdA_vptr, qFa_ptr, qFa_vptr, qNc_ptr, qNc_vptr, qNc_fn, qNot_bool, qExt_tup, qCallV_fn, qLss_int, qLeq_int, qGtr_int, qGeq_int, qEql_int, qNeq_int, qAdd_int, qSub_int, qMul_int, qConvI_int, qLenL_sl, qLenL_hsl, qLenS_str, foldO, min2_int, max2_int, qSame_refl, Nat.zero_add, List.getElem?_cons_zero, List.getElem?_cons_succ, List.nil_append, List.cons_append, List.append_nil, one_bool, one_int, one_str, one_nilp, one_ptr, one_sl, one_hsl, one_map, one_fn, List.length_cons, List.length_nil, List.set_cons_zero, List.set_cons_succ, Nat.reduceLT, Nat.reduceAdd, qG_un, qResN_val, qCallVN_fn, n1, gt, b2, bx, h15, c1, c2, hn, bl, w1, w2, qPtr_ptr]
      exact fin 2 (by rw [hr]; exact zV_EV) (by rw [hr])
    | some q =>
      rw [hq] at sp hr
      simp only [] at sp hr
      obtain ⟨row, H3, rfl, ev, sr⟩ := sp
      have i3 := sr.fn
      have gv3 := sr.other gv2 hne
      obtain ⟨ci, Ha, Hb, c1, c2, ib, c3, c4⟩ := cell ev.four ev.ones gv3
      have gvb := c4 _ _ gv3
      have grb := c4 _ _ sr.at_
      have l1 := fun (k : AV → Prop) => ld1 grb 1 (.bool q.2.1) rfl k
      have l2 := fun (k : AV → Prop) => ld1 grb 2 (.bool q.2.2) rfl k
      have hn : (!((0 : Int) == 0)) = false := rfl
      cases hd : q.2.1 with
      | true =>
        rw [hd] at l1 hr
        obtain ⟨Hs, w1, w2⟩ := wr gvb z26 rfl rfl
        simp only [if_true] at hr
        simp -implicitDefEqProofs only [c8, r8_0, r8_1, r8_3, r8_4, r8_5, r8_7, r8_8, opn_z, opn_s, sel_z, sel_s, qCd_eq, qIf_true, qIf_false, qFn_eq, qBl_eq, qO_some, qRes_val, qHp_some, qPick_true, qPick_false, qG_tt, qG_ff, qG_tf, qG_ft, cellsK_some, qLd_vptr, qLdA_vptr, qFa_ptr, qFa_vptr, qNc_ptr, qNc_vptr, qNc_fn, qNot_bool, qExt_tup, qCallV_fn, qLss_int, qLeq_int, qGtr_int, qGeq_int, qEql_int, qNeq_int, qAdd_int, qSub_int, qMul_int, qConvI_int, qLenL_sl, qLenL_hsl, qLenS_str, foldO, min2_int, max2_int, qSame_refl, Nat.zero_add, List.getElem?_cons_zero, List.getElem?_cons_succ, List.nil_append, List.cons_append, List.append_nil, one_bool, one_int, one_str, one_nilp, one_ptr, one_sl, one_hsl, one_map, one_fn, List.length_cons, List.length_nil, List.set_cons_zero, List.set_cons_succ, Nat.reduceLT, Nat.reduceAdd, qG_un, qResN_val, qCallVN_fn, n1, gt, b2, bx, h15, c1, c2, hn, l1, bl, w1, w2, qPtr_ptr]
        exact fin 4 (by rw [hr]; exact zV_EV) (by rw [hr])
      | false =>
        rw [hd] at l1 hr
        simp only [Bool.false_eq_true, if_false] at hr
        cases ht : q.2.2 with
        | true =>
          rw [ht] at l2 hr
          obtain ⟨Hs, w1, w2⟩ := wr gvb z26 rfl rfl
          simp only [if_true] at hr
          simp -implicitDefEqProofs only [c8, r8_0, r8_1, r8_3, r8_4, r8_5, r8_7, r8_9, r8_10, opn_z, opn_s, sel_z, sel_s, qCd_eq, qIf_true, qIf_false, qFn_eq, qBl_eq, qO_some, qRes_val, qHp_some, qPick_true, qPick_false, qG_tt, qG_ff, qG_tf, qG_ft, cellsK_some, qLd_vptr, qLdA_vptr, qFa_ptr, qFa_vptr, qNc_ptr, qNc_vptr, qNc_fn, qNot_bool, qExt_tup, qCallV_fn, qLss_int, qLeq_int, qGtr_int, qGeq_int, qEql_int, qNeq_int, qAdd_int, qSub_int, qMul_int, qConvI_int, qLenL_sl, qLenL_hsl, qLenS_str, foldO, min2_int, max2_int, qSame_refl, Nat.zero_add, List.getElem?_cons_zero, List.getElem?_cons_succ, List.nil_append, List.cons_append, List.append_nil, one_bool, one_int, one_str, one_nilp, one_ptr, one_sl, one_hsl, one_map, one_fn, List.length_cons, List.length_nil, List.set_cons_zero, List.set_cons_succ, Nat.reduceLT, Nat.reduceAdd, qG_un, qResN_val, qCallVN_fn, n1, gt, b2, bx, h15, c1, c2, hn, l1, l2, bl, w1, w2, qPtr_ptr]
          exact fin 5 (by rw [hr]; exact zV_EV) (by rw [hr])
        | false =>
          rw [ht] at l2 hr
          obtain ⟨Hs, w1, w2⟩ := wr gvb row ev.four ev.ones
          simp only [Bool.false_eq_true, if_false] at hr
          simp -implicitDefEqProofs only [c8, r8_0, r8_1, r8_3, r8_4, r8_5, r8_7, r8_9, r8_11, opn_z, opn_s, sel_z, sel_s, qCd_eq, qIf_true, qIf_false, qFn_eq, qBl_eq, qO_some, qRes_val, qHp_some, qPick_true, qPick_false, qG_tt, qG_ff, qG_tf, qG_ft, cellsK_some, qLd_vptr, qLdA_vptr, qFa_ptr, qFa_vptr, qNc_ptr, qNc_vptr, qNc_fn, qNot_bool, qExt_tup, qCallV_fn, qLss_int, qLeq_int, qGtr_int, qGeq_int, qEql_int, qNeq_int, qAdd_int, qSub_int, qMul_int, qConvI_int, qLenL_sl, qLenL_hsl, qLenS_str, foldO, min2_int, max2_int, qSame_refl, Nat.zero_add, List.getElem?_cons_zero, List.getElem?_cons_succ, List.nil_append, List.cons_append, List.append_nil, one_bool, one_int, one_str, one_nilp, one_ptr, one_sl, one_hsl, one_map, one_fn, List.length_cons, List.length_nil, List.set_cons_zero, List.set_cons_succ, Nat.reduceLT, Nat.reduceAdd, qG_un, qResN_val, qCallVN_fn, n1, gt, b2, bx, h15, c1, c2, hn, l1, l2, c3, w1, w2, qPtr_ptr]
          exact fin 0 (by rw [hr]; exact ev) (by rw [hr])
end T
