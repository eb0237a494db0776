/- For all lists of bools, must and deep the law refectorylaw19.FillPaths returns true, and what came in reads afterwards as before. No condition beyond the given statement. -/
import Derived.Test.YtgmifbbimcblcaaRows
import Derived.Test.YtgmifbbimcblcaaFillY
import Derived.Test.YtgmifbbimcblcaaSeatA
set_option linter.all false
namespace Go.Proofs.Ytgmifbbimcblcaa.fillPaths
open Go.ChangeShapes Go.WideShapes Go.ChangeAt Go.RowKit Go.Aes
set_option linter.unusedVariables false

set_option maxRecDepth 100000 in
theorem lifted (os : Os) (started : os.Started) (H : Type) (enc : TypeId × Value → H) :
    ReturnsInHanded {} Try.checked os 12 .any (Rows.fillPathsSpec.pre6 enc Try.prog Try.f12 Rows.fillPathsRow.domain false) (Rows.fillPathsSpec.post enc Try.prog Try.f12 false true false false) := by
  refine returnsInHanded_of_change (C := Try.checked) T.own started (by kernel_rfl) Try.func12
    (ChangeSpec.witness6 (enc := enc) (C := Try.checked) false ⟨#[], #[.slice none 0 0, .bool false, .bool false], []⟩ 8 (by kernel_rfl) (by kernel_rfl) (by kernel_rfl) (by kernel_rfl)) ?_
  intro W base args ds gs before hval0 hW hcnd _
  have hval : ∀ (j : Nat) t v, Try.f12.params[j]? = some t → args[j]? = some v → Value.okWide Try.prog W .any base t v := hval0
  have hW' := hW
  obtain ⟨p, q, hA0, hV, rfl, hfz, hnd⟩ := hW
  have hA : DataW.TrodAll enc Try.prog W 0 (fun _ => true) true Try.f12.params.toList args.toList ds p := hA0
  rw [Try.params12] at hA hval
  obtain ⟨v0, vs0, d0, ds0, p0, q0, hargs, rfl, rfl, h0, r0⟩ := trodAll_cons hA
  obtain ⟨v1, vs1, d1, ds1, p1, q1, rfl, rfl, rfl, h1, r1⟩ := trodAll_cons r0
  obtain ⟨v2, vs2, d2, ds2, p2, q2, rfl, rfl, rfl, h2, r2⟩ := trodAll_cons r1
  obtain ⟨rfl, rfl, rfl⟩ := trodAll_nil r2
  obtain rfl : args = #[v0, v1, v2] := by cases args; simp_all
  obtain ⟨zs0, n0, k0, m0, z0⟩ := arg_bools Try.underlying51 Try.underlying4 (by kernel_rfl) (hval 0 51 v0 rfl rfl) h0
  obtain ⟨a1, rfl, rfl, rfl⟩ := open_bool Try.underlying4 (hval 1 4 v1 rfl rfl) h1
  obtain ⟨a2, rfl, rfl, rfl⟩ := open_bool Try.underlying4 (hval 2 4 v2 rfl rfl) h2
  obtain ⟨H', hev⟩ := T.ev_paths zs0 (bif n0 then .nil else .dead) a1 a2 
  refine (law_callsP T.prOk (fun _ => rfl) (.cons z0 (.cons (.bool _) (.cons (.bool _) .nil))) hev).mono fun e W' ⟨he, hb⟩ => ?_
  subst he
  exact ⟨_, rfl, law_post (tb := 4) hW' rfl ⟨rfl, rfl, rfl⟩ (by kernel_rfl) Try.underlying4 T.laid (by rw [Try.params12]; exact (List.forall_mem_cons.2 ⟨T.rr51, (List.forall_mem_cons.2 ⟨T.rr4, (List.forall_mem_cons.2 ⟨T.rr4, (fun _ h => nomatch h)⟩)⟩)⟩)) hb⟩

theorem over : Rows.fillPathsRow.holds Try.pinned (OpenSpec.ofChange Rows.fillPathsSpec) :=
  OpenClaim.holds_of_wide 12 Try.f12 rfl rfl rfl rfl rfl rfl rfl ⟨rfl, rfl, rfl, rfl, rfl⟩ rfl rfl rfl rfl rfl (by kernel_rfl) Try.func12 (by kernel_rfl)
    (of_decide_eq_true (by kernel_rfl)) (by unfold Func.isWrapper; first | (rw [if_pos (by decide +kernel)]; kernel_rfl) | (rw [if_neg (by decide +kernel)]; exact ⟨rfl, rfl⟩))
    (fun os started H enc _ => lifted os started H enc)

theorem proved : Rows.FillPathsSaid :=
  over
#print axioms proved
end Go.Proofs.Ytgmifbbimcblcaa.fillPaths
