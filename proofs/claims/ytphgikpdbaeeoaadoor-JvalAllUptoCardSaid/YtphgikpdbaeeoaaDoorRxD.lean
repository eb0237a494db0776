import Derived.Test.YtphgikpdbaeeoaaDoorRxC
set_option linter.all false
set_option linter.unusedVariables false
set_option linter.unusedSimpArgs false
set_option maxRecDepth 10000
namespace T
open Go Go.Aes Go.Proofs

/-! ### the law of all values -/
set_option maxHeartbeats 2000000 in
theorem jall_walk {a b : Val} {ra rb : List AV} {n : Str} (ea : EV a ra) (eb : EV b rb) (ha : bv a ≤ 2000000) (hb : bv b ≤ 2000000) (hn : n.length ≤ 2000000) : c3 EP [.agg ra, .agg rb, .str n] H0 (fun v _ => v = .bool true) := by
  have za := bv_vsz a (by omega)
  have zb := bv_vsz b (by omega)
  have e14 := ep14
  obtain ⟨_, ⟨b1, rfl⟩, f1⟩ := ep13 a ra 14 ea za (by omega)
  obtain ⟨_, ⟨b2, rfl⟩, f2⟩ := ep13 b rb 14 eb zb (by omega)
  have f1' : ∀ H, EP 13 [.agg ra, .int .i64 14] H = some (.val (.bool b1) H) := f1
  have f2' : ∀ H, EP 13 [.agg rb, .int .i64 14] H = some (.val (.bool b2) H) := f2
  clear f1 f2
  have bx1 := fun k => bxV (H := H0) ea.ones k
  have ga' := get_push_at (H := H0) (.cells ra)
  have bx2 := fun k => bxV (H := H0.push (.cells ra)) eb.ones k
  have gb := get_push_at (H := H0.push (.cells ra)) (.cells rb)
  have ga := (get_push_lt (.cells rb) (lt_i ga')).trans ga'
  have hif : IsFn ((H0.push (.cells ra)).push (.cells rb)) := inferInstance
  simp -implicitDefEqProofs only [c3, r3_0, opn_z, opn_s, qFn_eq, bx1, bx2]
  generalize (H0.push (.cells ra)).push (.cells rb) = H1 at *
  generalize (H0.push (.cells ra)).nx = p2 at *
  generalize H0.nx = p1 at *
  have la := fun k => qLdA_whole (R := Prop) ga ea.four k
  have lb := fun k => qLdA_whole (R := Prop) gb eb.four k
  cases b1 with
  | false => simp -implicitDefEqProofs only [r3_1, r3_2, opn_z, opn_s, sel_z, sel_s, qCd_eq, qIf_true, qRes_val, qPick_true, qG_tf, qNot_bool, la, f1', Bool.not_false, e14]
  | true =>
  cases b2 with
  | false => simp -implicitDefEqProofs only [r3_1, r3_2, opn_z, opn_s, sel_z, sel_s, qCd_eq, qIf_true, qRes_val, qPick_true, qPick_false, qG_ff, qG_tf, qNot_bool, la, lb, f1', f2', Bool.not_true, Bool.not_false, e14]
  | true =>
  by_cases h2 : (200 : Int) < (n.length : Int)
  · simp -implicitDefEqProofs only [r3_1, r3_2, opn_z, opn_s, sel_z, sel_s, qCd_eq, qIf_true, qRes_val, qPick_false, qG_ff, qNot_bool, qGtr_int, qLenS_str, la, lb, f1', f2', Bool.not_true, h2, decide_true, e14]
  have e15 := fun H => ep15 n (by omega) H
  have e16 := fun H => ep16 n (by omega) H
  obtain ⟨_, ⟨q1, v1, rfl⟩, e17⟩ := ep17 a ra n ea za
  obtain ⟨_, ⟨q2, v2, rfl⟩, e18⟩ := ep18 a ra n ea za
  have gs := getV_small (n := n) za
  obtain ⟨b5, Ha, Hb, x1, x2, x3, x4, x5, x6⟩ := boxK (R := Prop) (Hs := H1) (H := H1) (.refl _) z25 q1 (n := 4) rfl v1.four v1.ones
  haveI := x5.fn
  obtain ⟨b7, Hc, Hd, y1, y2, y3, y4, y5, y6⟩ := boxK (R := Prop) (Hs := Hb) (H := Hb) (.refl _) z25 q2 (n := 4) rfl v2.four v2.ones
  haveI := y5.fn
  have ga1 := (x6 p1 _ ga).1
  have ga2 := (y6 p1 _ ga1).1
  have gb2 := (y6 p2 _ (x6 p2 _ gb).1).1
  have g52 := (y6 b5 _ x3).1
  have la1 := fun k => qLdA_whole (R := Prop) ga1 ea.four k
  have la2 := fun k => qLdA_whole (R := Prop) ga2 ea.four k
  have lb2 := fun k => qLdA_whole (R := Prop) gb2 eb.four k
  have l5 := fun k => qLdA_whole (R := Prop) g52 v1.four k
  have l7 := fun k => qLdA_whole (R := Prop) y3 v2.four k
  have e19 := fun H => ep19 ea za H
  have e20 := fun H => ep20 ea za H
  have e21 := fun H => ep21u ea ha H
  have e22 := fun H => ep22 ea ha H
  have e23 := fun H => ep23 ea eb za zb H
  have e24 := fun H => ep24 ea eb za zb H
  have e24b := fun H => ep24 v1 v2 gs gs H
  rw [(sameF_eq (getV n a).1 (getV n a).1).2 rfl] at e24b
  have qe : ∀ (a : Bool) (k : AV → Prop), qEql X 4 (.bool a) (.bool a) k = k (.bool true) := fun a k => by rw [qEql_bool]; simp
  have qs : ∀ (a : Str) (k : AV → Prop), qEql X 9 (.str a) (.str a) k = k (.bool true) := fun a k => by rw [qEql_str]; simp
  generalize (num n).1 = n1 at *
  generalize (num n).2 = n2 at *
  generalize rightF 12 a = r12 at *
  generalize textF a = ta at *
  generalize sameF a b = sab at *
  generalize (getV n a).2 = gt at *
  simp -implicitDefEqProofs only [r3_1, r3_3, r3_4, r3_5, r3_6, r3_7, opn_z, opn_s, sel_z, sel_s, qCd_eq, qIf_false, qO_some, qRes_val, qPick_true, qPick_false, qG_tt, qG_ff, qNot_bool, qExt_tup, qGtr_int, qLenS_str, qSame_refl, List.getElem?_cons_zero, List.getElem?_cons_succ, la, lb, f1', f2', Bool.not_true, h2, decide_false, e15, e16, e17, e18, x1, x2, la1, y1, y2, la2, lb2, l5, l7, e19, e20, e21, e22, e23, e24, e24b, qe, qs, e14]

theorem ev_jall {a b : Val} {ra rb : List AV} {n : Str} (ea : EV a ra) (eb : EV b rb) (ha : bv a ≤ 2000000) (hb : bv b ≤ 2000000) (hn : n.length ≤ 2000000) : ∃ H', EP 3 [.agg ra, .agg rb, .str n] H0 = some (.val (.bool true) H') := by
  obtain ⟨v, H', h1, rfl⟩ := ao_form (X := X) (D := OD2) (O := OF2) (S := PS) (al := [.agg ra, .agg rb, .str n]) (H := H0) e3 xf3 rfl rfl (Q := fun v _ => v = .bool true) (jall_walk ea eb ha hb hn)
  exact ⟨H', h1⟩
end T
