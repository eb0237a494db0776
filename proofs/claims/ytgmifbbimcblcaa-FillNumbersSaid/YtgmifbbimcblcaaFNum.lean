/- For all lists of numbers the law refectorylaw19.FillNumbers returns true, and what came in reads afterwards as before. No condition beyond the given statement. -/
import Derived.Test.YtgmifbbimcblcaaRows
import Derived.Test.YtgmifbbimcblcaaFillV1
import Derived.Test.YtgmifbbimcblcaaSeatA
set_option linter.all false
namespace Go.Proofs.Ytgmifbbimcblcaa.fillNumbers
open Go.ChangeShapes Go.WideShapes Go.ChangeAt Go.RowKit Go.Aes
set_option linter.unusedVariables false

set_option maxRecDepth 100000 in
theorem lifted (os : Os) (started : os.Started) (H : Type) (enc : TypeId × Value → H) :
    ReturnsInHanded {} Try.checked os 14 .any (Rows.fillNumbersSpec.pre6 enc Try.prog Try.f14 Rows.fillNumbersRow.domain false) (Rows.fillNumbersSpec.post enc Try.prog Try.f14 false true false false) := by
  refine returnsInHanded_of_change (C := Try.checked) T.own started (by kernel_rfl) Try.func14
    (ChangeSpec.witness6 (enc := enc) (C := Try.checked) false ⟨#[], #[.slice none 0 0], []⟩ 8 (by kernel_rfl) (by kernel_rfl) (by kernel_rfl) (by kernel_rfl)) ?_
  intro W base args ds gs before hval0 hW hcnd _
  have hval : ∀ (j : Nat) t v, Try.f14.params[j]? = some t → args[j]? = some v → Value.okWide Try.prog W .any base t v := hval0
  have hW' := hW
  obtain ⟨p, q, hA0, hV, rfl, hfz, hnd⟩ := hW
  have hA : DataW.TrodAll enc Try.prog W 0 (fun _ => true) true Try.f14.params.toList args.toList ds p := hA0
  rw [Try.params14] at hA hval
  obtain ⟨v0, vs0, d0, ds0, p0, q0, hargs, rfl, rfl, h0, r0⟩ := trodAll_cons hA
  obtain ⟨rfl, rfl, rfl⟩ := trodAll_nil r0
  obtain rfl : args = #[v0] := by cases args; simp_all
  obtain ⟨zs0, n0, k0, w0, m0, z0⟩ := arg_ints Try.underlying22 Try.underlying3 (by kernel_rfl) (hval 0 22 v0 rfl rfl) h0
  obtain ⟨H', hev⟩ := T.ev_numbers zs0 (bif n0 then .nil else .dead) 
  refine (law_callsP T.prOk (fun _ => rfl) (.cons z0 .nil) hev).mono fun e W' ⟨he, hb⟩ => ?_
  subst he
  exact ⟨_, rfl, law_post (tb := 4) hW' rfl ⟨rfl, rfl, rfl⟩ (by kernel_rfl) Try.underlying4 T.laid (by rw [Try.params14]; exact (List.forall_mem_cons.2 ⟨T.rr22, (fun _ h => nomatch h)⟩)) hb⟩

theorem over : Rows.fillNumbersRow.holds Try.pinned (OpenSpec.ofChange Rows.fillNumbersSpec) :=
  OpenClaim.holds_of_wide 14 Try.f14 rfl rfl rfl rfl rfl rfl rfl ⟨rfl, rfl, rfl, rfl, rfl⟩ rfl rfl rfl rfl rfl (by kernel_rfl) Try.func14 (by kernel_rfl)
    (of_decide_eq_true (by kernel_rfl)) (by unfold Func.isWrapper; first | (rw [if_pos (by decide +kernel)]; kernel_rfl) | (rw [if_neg (by decide +kernel)]; exact ⟨rfl, rfl⟩))
    (fun os started H enc _ => lifted os started H enc)

theorem proved : Rows.FillNumbersSaid :=
  over
#print axioms proved
end Go.Proofs.Ytgmifbbimcblcaa.fillNumbers
