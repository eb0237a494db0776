import Derived.Test.YtocngckbmjfddaaRbA
set_option linter.all false
set_option linter.unusedVariables false
set_option linter.unusedSimpArgs false
set_option maxRecDepth 100000
namespace T
open Go Go.Aes Go.Proofs

theorem aw21 : PEnt Try.prog 21 [] (.bool true) := PEnt.comp (n := 100) prOk cTabs tb0_ok (by kernel_rfl) (by kernel_rfl) (by kernel_rfl)
noncomputable def tbF : List Ent := ⟨21, [], .bool true⟩ :: tb0
theorem tbF_ok : ∀ e ∈ tbF, PEnt Try.prog e.g e.as e.v := by
  intro e h
  rcases List.mem_cons.1 h with rfl | h
  · exact aw21
  · exact tb0_ok e h

theorem five (C : CallF) (H : AH) (how : Int) (l : List Ent) (n : Nat) : True := trivial

theorem ev_fw (how : Int) : ∃ H', CE tbF 101 5 [.int .i64 how] HT = some (.val (.bool true) H') := by
  apply okT_inv
  have h1 : CE tbF 101 5 [.int .i64 how] HT = c5 (CE tbF 100) [.int .i64 how] HT (fun v H => some (.val v H)) := by kernel_rfl
  rw [h1]
  obtain ⟨x, hx, hx2⟩ : ∃ x : Nat, how % 10 = (x : Int) ∧ x < 10 := ⟨(how % 10).toNat, by omega, by omega⟩
  have hp := ce_place (l := tbF) (by kernel_rfl) 99 how 10 (by decide) (by decide) HT
  rw [hx] at hp
  simp -implicitDefEqProofs only [c5, r5_0, r5_1, opn_z, opn_s, sel_z, sel_s, qCd_eq, qIf_true, qIf_false, qFn_eq, qBl_eq, qO_some, qRes_val, qHp_some, qPick_true, qPick_false, qG_tt, qG_ff, qG_tf, qG_ft, cellsK_some, qLd_ptr, qLd_vptr, qLdA_ptr, qLdA_vptr, qFa_ptr, qFa_vptr, qNc_ptr, qNc_vptr, qNc_fn, qNot_bool, qExt_tup, qCallV_fn, qLss_int, qLeq_int, qGtr_int, qGeq_int, qEql_int, qNeq_int, qAdd_int, qSub_int, qMul_int, qConvI_int, qLenL_sl, qLenL_hsl, qLenS_str, foldO, min2_int, max2_int, qSame_refl, Nat.zero_add, List.getElem?_cons_zero, List.getElem?_cons_succ, List.nil_append, List.cons_append, List.append_nil, one_bool, one_int, one_str, one_nilp, one_ptr, one_sl, one_hsl, one_map, one_fn, List.length_cons, List.length_nil, List.set_cons_zero, List.set_cons_succ, Nat.reduceLT, Nat.reduceAdd, hp]
  have : x = 0 ∨ x = 1 ∨ x = 2 ∨ x = 3 ∨ x = 4 ∨ x = 5 ∨ x = 6 ∨ x = 7 ∨ x = 8 ∨ x = 9 := by omega
  clear hx hx2 hp h1
  rcases this with rfl | rfl | rfl | rfl | rfl | rfl | rfl | rfl | rfl | rfl <;> (refine (?_ : okT _ = true); kernel_rfl)

end T
