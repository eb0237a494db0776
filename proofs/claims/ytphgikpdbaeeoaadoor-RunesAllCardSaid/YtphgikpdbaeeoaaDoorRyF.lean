import Derived.Test.YtphgikpdbaeeoaaDoorRyE
import Derived.Test.YtphgikpdbaeeoaaDoorRwC
set_option linter.all false
set_option linter.unusedVariables false
set_option linter.unusedSimpArgs false
set_option maxRecDepth 10000
namespace T
open Go Go.Aes Go.Proofs

/-! ### the law of all texts -/
theorem up34 {g : Nat} {al : List AV} {H : AH} {r : Res} (h : EP3 g al H = some r) : EP4 g al H = some r := evO_sub OF3_4 _ _ _ _ h
theorem all_law (s : Str) : c11 EP4 [.str s] H0 (fun v _ => v = .bool true) := by
  have e28 := fun H => up4 (ep28 H)
  by_cases h : (1500 : Int) < (s.length : Int)
  · simp -implicitDefEqProofs only [c11, r11_0, r11_1, r11_2, opn_z, opn_s, sel_z, sel_s, qCd_eq, qIf_true, qFn_eq, qRes_val, qGtr_int, qLenS_str, h, decide_true, e28]
  have e31 := fun H => up34 (ep31 s (by omega) H)
  have e34 := fun H => up4 (ep34 s (by omega) H)
  have e30 := fun H => up4 (ep30 s (by omega) H)
  have e35 := fun H => up4 (ep35 s (by omega) H)
  have e33 := fun H => up4 (ep33 s H)
  have e36 := fun H => up4 (ep36 s (by omega) H)
  have e29 := fun H => up4 (ep29 s (by omega) H)
  have e37 := fun H => up4 (ep37 s (by omega) H)
  have e38 := fun H => ep38s s (by omega) H
  have e39 := fun H => up4 (ep39 s (by omega) H)
  obtain ⟨t, b, ht⟩ : ∃ t b, uqR (uqF s) = .tup [.str t, .bool b] := by
    cases uqF s with
    | none => exact ⟨_, _, rfl⟩
    | some t => exact ⟨_, _, rfl⟩
  rw [ht] at e31 e34
  have qe : ∀ (a : Bool) (k : AV → Prop), qEql X 4 (.bool a) (.bool a) k = k (.bool true) := fun a k => by
    unfold qEql intsK
    simp only [binop, und4, refEq, Option.map_some, qO_some, beq_self_eq_true]
  have qs : ∀ (a : Str) (k : AV → Prop), qEql X 9 (.str a) (.str a) k = k (.bool true) := fun a k => by rw [qEql_str]; simp
  generalize Lib.validD s = vs at *
  generalize nameF s = nf at *
  generalize quoteF s = qf at *
  generalize blockF s = bf at *
  simp -implicitDefEqProofs only [c11, r11_0, r11_1, r11_3, r11_4, r11_5, opn_z, opn_s, sel_z, sel_s, qCd_eq, qIf_false, qFn_eq, qO_some, qRes_val, qPick_true, qG_tt, qExt_tup, qGtr_int, qLenS_str, List.getElem?_cons_zero, List.getElem?_cons_succ, h, decide_false, e31, e34, e30, e35, e33, e36, e29, e37, e38, e39, qe, qs, e28]
theorem ev_all (s : Str) : ∃ H', EP4 11 [.str s] H0 = some (.val (.bool true) H') := by
  obtain ⟨w, H', h1, h2⟩ := ao_form (X := X) (D := OD2) (O := OF4) (S := PS) (al := [.str s]) (H := H0) e11 xf11 rfl rfl (Q := fun v _ => v = .bool true) (all_law s)
  subst h2
  exact ⟨H', h1⟩
end T
