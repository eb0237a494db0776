/- For all two numbers and a bool the law refectorylaw12.FragsChains returns true, and what came in reads afterwards as before. No condition beyond the given statement. -/
import Derived.Test.YtocngckbmjfddaaRows
import Derived.Test.YtocngckbmjfddaaRbHE
import Derived.Test.YtocngckbmjfddaaSeatB
set_option linter.all false
namespace Go.Proofs.Ytocngckbmjfddaa.fragsChains
open Go.ChangeShapes Go.WideShapes Go.ChangeAt Go.RowKit Go.Aes
set_option linter.unusedVariables false

set_option maxRecDepth 100000 in
theorem lifted (os : Os) (started : os.Started) (H : Type) (enc : TypeId × Value → H) :
    ReturnsInHanded {} Try.checked os 6 .any (Rows.fragsChainsSpec.pre6 enc Try.prog Try.f6 Rows.fragsChainsRow.domain false) (Rows.fragsChainsSpec.post enc Try.prog Try.f6 false true false false) := by
  refine returnsInHanded_of_change (C := Try.checked) T.own started (by kernel_rfl) Try.func6
    (ChangeSpec.witness6 (enc := enc) (C := Try.checked) false ⟨#[], #[.int .i64 0, .int .i64 0, .bool false], []⟩ 8 (by kernel_rfl) (by kernel_rfl) (by kernel_rfl) (by kernel_rfl)) ?_
  intro W base args ds gs before hval0 hW hcnd _
  have hval : ∀ (j : Nat) t v, Try.f6.params[j]? = some t → args[j]? = some v → Value.okWide Try.prog W .any base t v := hval0
  have hW' := hW
  obtain ⟨p, q, hA0, hV, rfl, hfz, hnd⟩ := hW
  have hA : DataW.TrodAll enc Try.prog W 0 (fun _ => true) true Try.f6.params.toList args.toList ds p := hA0
  rw [Try.params6] at hA hval
  obtain ⟨v0, vs0, d0, ds0, p0, q0, hargs, rfl, rfl, h0, r0⟩ := trodAll_cons hA
  obtain ⟨v1, vs1, d1, ds1, p1, q1, rfl, rfl, rfl, h1, r1⟩ := trodAll_cons r0
  obtain ⟨v2, vs2, d2, ds2, p2, q2, rfl, rfl, rfl, h2, r2⟩ := trodAll_cons r1
  obtain ⟨rfl, rfl, rfl⟩ := trodAll_nil r2
  obtain rfl : args = #[v0, v1, v2] := by cases args; simp_all
  obtain ⟨a0, rfl, rfl, rfl, w0⟩ := open_int Try.underlying3 (hval 0 3 v0 rfl rfl) h0
  obtain ⟨a1, rfl, rfl, rfl, w1⟩ := open_int Try.underlying3 (hval 1 3 v1 rfl rfl) h1
  obtain ⟨a2, rfl, rfl, rfl⟩ := open_bool Try.underlying4 (hval 2 4 v2 rfl rfl) h2
  obtain ⟨l, hl, H', hev⟩ := T.ev_ch a0 a1 a2 
  refine (law_callsC (T.ce_ok _ hl _) HT_get (.cons (.int _ _) (.cons (.int _ _) (.cons (.bool _) .nil))) hev).mono fun e W' ⟨he, hb⟩ => ?_
  subst he
  exact ⟨_, rfl, law_post (tb := 4) hW' rfl ⟨rfl, rfl, rfl⟩ (by kernel_rfl) Try.underlying4 T.laid (by rw [Try.params6]; exact (List.forall_mem_cons.2 ⟨T.rr3, (List.forall_mem_cons.2 ⟨T.rr3, (List.forall_mem_cons.2 ⟨T.rr4, (fun _ h => nomatch h)⟩)⟩)⟩)) hb⟩

theorem over : Rows.fragsChainsRow.holds Try.pinned (OpenSpec.ofChange Rows.fragsChainsSpec) :=
  OpenClaim.holds_of_wide 6 Try.f6 rfl rfl rfl rfl rfl rfl rfl ⟨rfl, rfl, rfl, rfl, rfl⟩ rfl rfl rfl rfl rfl (by kernel_rfl) Try.func6 (by kernel_rfl)
    (of_decide_eq_true (by kernel_rfl)) (by unfold Func.isWrapper; first | (rw [if_pos (by decide +kernel)]; kernel_rfl) | (rw [if_neg (by decide +kernel)]; exact ⟨rfl, rfl⟩))
    (fun os started H enc _ => lifted os started H enc)

theorem proved : Rows.FragsChainsSaid :=
  over
#print axioms proved
end Go.Proofs.Ytocngckbmjfddaa.fragsChains
