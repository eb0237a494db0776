/- For all numbers and all texts that are of bulk at most 1048576 the law refectorylaw01.RunesWrong returns true, and what came in reads afterwards as before; taking that unicode/utf8.first, unicode/utf8.acceptRanges and unicode.CaseRanges read as the row lists them, which the given tie shows of the program's text. No condition beyond the given statement (its second form). -/
import Derived.Test.YtphgikpdbaeeoaaDoorCards
import Derived.Test.YtphgikpdbaeeoaaDoorTie
import Derived.Test.YtphgikpdbaeeoaaDoorRdVx
import Derived.Test.YtphgikpdbaeeoaaDoorSeatE
import Derived.ChangeMaps5
set_option linter.all false
namespace Go.Proofs.YtphgikpdbaeeoaaDoor.runesWrong
open Go.ChangeShapes Go.WideShapes Go.ChangeAt Go.RowKit Go.Aes
set_option linter.unusedVariables false

theorem witness_row (os : Os) {H : Type} (enc : TypeId × Value → H) :
    (Rows.OpenSpec.upto Rows.runesWrongSpec).preRow enc Tryd.prog Tryd.f10 Rows.runesWrongUptoRow.domain false Rows.runesWrongUptoRow.laid ((T.laidWorld3 os).forCall (fun _ _ => 0) ⟨#[], #[.int .i64 0, .string .empty, .string .empty], []⟩).memory #[.int .i64 0, .string .empty, .string .empty] := by
  have hw : (DataW.whole enc Tryd.prog ((T.laidWorld3 os).forCall (fun _ _ => 0) ⟨#[], #[.int .i64 0, .string .empty, .string .empty], []⟩).memory Tryd.f10.params.toList Rows.runesWrongSpec.vars false #[Value.int .i64 0, Value.string .empty, Value.string .empty].toList 8).map (fun x => (x.1, x.2.1)) =
      some ([.lit (.int .i64 0), .lit (.string []), .lit (.string [])], []) := by kernel_rfl
  obtain ⟨⟨x1, x2, x3⟩, hx, hx1⟩ := Option.map_eq_some_iff.1 hw
  simp only [Prod.mk.injEq] at hx1
  obtain ⟨rfl, rfl⟩ := hx1
  exact OpenSpec.preRow_of_cond 8 hx (by kernel_rfl) (fun k hk => by cases hk; kernel_rfl) (by kernel_rfl) (T.laid_met3 os _)

set_option maxRecDepth 100000 in
theorem lifted (os : Os) (started : os.Started) (H : Type) (enc : TypeId × Value → H) (F : Stop.Interp) :
    ReturnsInHanded {} Tryd.checked os 10 .any ((Rows.OpenSpec.upto Rows.runesWrongSpec).preRow enc Tryd.prog Tryd.f10 Rows.runesWrongUptoRow.domain false Rows.runesWrongUptoRow.laid) (((Rows.OpenSpec.upto Rows.runesWrongSpec).at F).post enc Tryd.prog Tryd.f10 false true false false) := by
  refine returnsInHanded_of_row (C := Tryd.checked) (s := Rows.OpenSpec.upto Rows.runesWrongSpec) T.own started (by kernel_rfl) Tryd.func10
    (witness_row_atRef (enc := enc) (C := Tryd.checked) false (T.laidWorld3 os) #[.int .i64 0, .string .empty, .string .empty] rfl (by kernel_rfl) (by kernel_rfl) (by kernel_rfl) (witness_row os enc)) ?_
  intro W base args ds gs before hval0 hW _ hcond _ hL _ _
  have hk := hcond _ rfl
  have hval : ∀ (j : Nat) t v, Tryd.f10.params[j]? = some t → args[j]? = some v → Value.okWide Tryd.prog W .any base t v := hval0
  have hW' := hW
  obtain ⟨p, q, hA0, hV, rfl, hfz, hnd⟩ := hW
  have hA : DataW.TrodAll enc Tryd.prog W 0 (fun _ => true) true Tryd.f10.params.toList args.toList ds p := hA0
  rw [Tryd.params10] at hA hval
  obtain ⟨v0, vs0, d0, ds0, p0, q0, hargs, rfl, rfl, h0, r0⟩ := trodAll_cons hA
  obtain ⟨v1, vs1, d1, ds1, p1, q1, rfl, rfl, rfl, h1, r1⟩ := trodAll_cons r0
  obtain ⟨v2, vs2, d2, ds2, p2, q2, rfl, rfl, rfl, h2, r2⟩ := trodAll_cons r1
  obtain ⟨rfl, rfl, rfl⟩ := trodAll_nil r2
  obtain rfl : args = #[v0, v1, v2] := by cases args; simp_all
  obtain ⟨a0, rfl, rfl, rfl, w0⟩ := open_int Tryd.underlying3 (hval 0 3 v0 rfl rfl) h0
  obtain ⟨s1, rfl, rfl, rfl, w1⟩ := Go.ChangeMaps.open_string Tryd.underlying9 (hval 1 9 v1 rfl rfl) h1
  obtain ⟨s2, rfl, rfl, rfl, w2⟩ := Go.ChangeMaps.open_string Tryd.underlying9 (hval 2 9 v2 rfl rfl) h2
  obtain ⟨l1, rfl⟩ : ∃ l : List UInt8, s1 = ⟨l.toArray⟩ := ⟨s1.data.toList, by simp⟩
  obtain ⟨l2, rfl⟩ : ∃ l : List UInt8, s2 = ⟨l.toArray⟩ := ⟨s2.data.toList, by simp⟩
  have hbd : l1.length ≤ 1048576 ∧ l2.length ≤ 1048576 := by
    have h1 := of_decide_eq_true hk
    simp [Rows.uptoBulkAll, Rows.uptoBulk] at h1 ⊢
    omega
  have hT : T.Tb W.heap.size W := T.tb_of hL (.tail _ (.tail _ (.head _))) (.head _)
  obtain ⟨H', hev⟩ := T.ev_wrongs a0 l1 l2 (by omega) (by omega)
  refine (law_callsO T.tbOk T.OF2_ok T.prOk hT (fun _ => rfl) (.cons (.int _ _) (.cons (.str _) (.cons (.str _) .nil))) hev).mono fun e W' ⟨he, hb⟩ => ?_
  subst he
  exact ⟨_, rfl, law_post (tb := 4) hW' rfl ⟨rfl, rfl, rfl⟩ (by kernel_rfl) Tryd.underlying4 T.laid (by rw [Tryd.params10]; exact (List.forall_mem_cons.2 ⟨T.rr3, List.forall_mem_cons.2 ⟨T.rr9, List.forall_mem_cons.2 ⟨T.rr9, (fun _ h => nomatch h)⟩⟩⟩)) hb⟩

theorem said : Rows.RunesWrongUptoSaid :=
  OpenClaim.holds_of_cond 10 Tryd.f10 rfl rfl rfl rfl rfl rfl rfl ⟨rfl, rfl, rfl, rfl, rfl⟩ rfl rfl rfl rfl rfl (by kernel_rfl) Tryd.func10 (by kernel_rfl)
    (of_decide_eq_true (by kernel_rfl)) (by unfold Func.isWrapper; first | (rw [if_pos (by decide +kernel)]; kernel_rfl) | (rw [if_neg (by decide +kernel)]; exact ⟨rfl, rfl⟩))
    (fun os started H enc _ F => by rw [OpenClaim.pre_eq_preRow]; exact lifted os started H enc F)

theorem plain (f : FuncId) (fn : Func) (hf : Tryd.pinned.checked.prog.funcNamed "refectory/refectorylaw01.RunesWrong" = some f) (hfn : Tryd.pinned.checked.prog.funcs[f]? = some fn) :
    false = Tryd.pinned.checked.prog.looks [] ∧ ∀ (j : Nat) t, fn.params[j]? = some t → Tryd.pinned.checked.prog.wantsStandIn t = false := by
  obtain rfl : f = 10 := Option.some.inj ((show Tryd.prog.funcNamed "refectory/refectorylaw01.RunesWrong" = some 10 by kernel_rfl).symm.trans hf) |>.symm
  obtain rfl : fn = Tryd.f10 := (Option.some.inj (Tryd.func10.symm.trans hfn)).symm
  refine ⟨by kernel_rfl, fun j t ht => ?_⟩
  rw [Tryd.params10] at ht
  have hm := Array.mem_of_getElem? ht
  have h3 : Tryd.prog.wantsStandIn 3 = false := by kernel_rfl
  have h9 : Tryd.prog.wantsStandIn 9 = false := by kernel_rfl
  have ht' : t = 3 ∨ t = 9 ∨ t = 9 := by simpa using hm
  rcases ht' with rfl | rfl | rfl
  · exact h3
  · exact h9
  · exact h9

theorem proved : Rows.RunesWrongUptoCardSaid :=
  Claim7.holds_tied_plain_at .later [] _ _ _ _ said (fun _ h => by cases h) (by kernel_rfl) (fun _ h => by cases h) runesWrongUpto_row_tie rfl ⟨rfl, rfl⟩ (by kernel_rfl) rfl plain (by kernel_rfl)
#print axioms proved
end Go.Proofs.YtphgikpdbaeeoaaDoor.runesWrong
