/- For all lists of nodes the law refectorylaw19.FillAll returns true, and what came in reads afterwards as before. No condition beyond the given statement. -/
import Derived.Test.YtgmifbbimcblcaaRows
import Derived.Test.YtgmifbbimcblcaaFewX
import Derived.Test.YtgmifbbimcblcaaSeatA
set_option linter.all false
namespace Go.Proofs.Ytgmifbbimcblcaa.fillAll
open Go.ChangeShapes Go.WideShapes Go.ChangeAt Go.RowKit Go.Aes
set_option linter.unusedVariables false

theorem rr59 : Try.prog.readableRec 59 = true ∧ 59 < Try.prog.types.size := ⟨by kernel_rfl, by decide +kernel⟩

set_option maxRecDepth 100000 in
theorem lifted (os : Os) (started : os.Started) (H : Type) (enc : TypeId × Value → H) :
    ReturnsInHanded {} Try.checked os 13 .any (Rows.fillAllSpec.pre6 enc Try.prog Try.f13 Rows.fillAllRow.domain false) (Rows.fillAllSpec.post enc Try.prog Try.f13 false true false false) := by
  refine returnsInHanded_of_change (C := Try.checked) T.own started (by kernel_rfl) Try.func13
    (ChangeSpec.witness6 (enc := enc) (C := Try.checked) false ⟨#[], #[.slice none 0 0], []⟩ 8 (by kernel_rfl) (by kernel_rfl) (by kernel_rfl) (by kernel_rfl)) ?_
  intro W base args ds gs before hval0 hW hcnd _
  have hval : ∀ (j : Nat) t v, Try.f13.params[j]? = some t → args[j]? = some v → Value.okWide Try.prog W .any base t v := hval0
  have hW' := hW
  obtain ⟨p, q, hA0, hV, rfl, hfz, hnd⟩ := hW
  have hA : DataW.TrodAll enc Try.prog W 0 (fun _ => true) true Try.f13.params.toList args.toList ds p := hA0
  rw [Try.params13] at hA hval
  obtain ⟨v0, vs0, d0, ds0, p0, q0, hargs, rfl, rfl, h0, r0⟩ := trodAll_cons hA
  obtain ⟨rfl, rfl, rfl⟩ := trodAll_nil r0
  obtain rfl : args = #[v0] := by cases args; simp_all
  obtain ⟨l, rows, tk, hE, hb, z0⟩ := T.arg_nodes (fun _ => rfl) (hval 0 59 v0 rfl rfl) h0
  obtain ⟨H', hev⟩ := T.ev_all tk hE hb
  refine (law_callsP T.prOk (fun _ => rfl) (.cons z0 .nil) hev).mono fun e W' ⟨he, hbl⟩ => ?_
  subst he
  exact ⟨_, rfl, law_post (tb := 4) hW' rfl ⟨rfl, rfl, rfl⟩ (by kernel_rfl) Try.underlying4 T.laid (by rw [Try.params13]; exact (List.forall_mem_cons.2 ⟨rr59, (fun _ h => nomatch h)⟩)) hbl⟩

theorem over : Rows.fillAllRow.holds Try.pinned (OpenSpec.ofChange Rows.fillAllSpec) :=
  OpenClaim.holds_of_wide 13 Try.f13 rfl rfl rfl rfl rfl rfl rfl ⟨rfl, rfl, rfl, rfl, rfl⟩ rfl rfl rfl rfl rfl (by kernel_rfl) Try.func13 (by kernel_rfl)
    (of_decide_eq_true (by kernel_rfl)) (by unfold Func.isWrapper; first | (rw [if_pos (by decide +kernel)]; kernel_rfl) | (rw [if_neg (by decide +kernel)]; exact ⟨rfl, rfl⟩))
    (fun os started H enc _ => lifted os started H enc)

theorem proved : Rows.FillAllSaid :=
  over
#print axioms proved
end Go.Proofs.Ytgmifbbimcblcaa.fillAll
