/- For all two values and all texts that are of bulk at most 1048576 the law refectorylaw02.JvalAll returns true, and what came in reads afterwards as before; taking that unicode/utf8.first and unicode/utf8.acceptRanges read as the row lists them, which the given tie shows of the program's text. No condition beyond the given statement (its second form). -/
import Derived.Test.YtphgikpdbaeeoaaDoorCards
import Derived.Test.YtphgikpdbaeeoaaDoorTie
import Derived.Test.YtphgikpdbaeeoaaDoorRxE
import Derived.Test.YtphgikpdbaeeoaaDoorSeatD
import Derived.ChangeMaps5
set_option linter.all false
namespace Go.Proofs.YtphgikpdbaeeoaaDoor.jvalAll
open Go.ChangeShapes Go.WideShapes Go.ChangeAt Go.RowKit Go.Aes
set_option linter.unusedVariables false

theorem witness_row (os : Os) {H : Type} (enc : TypeId × Value → H) :
    (Rows.OpenSpec.upto Rows.jvalAllSpec).preRow enc Tryd.prog Tryd.f3 Rows.jvalAllUptoRow.domain false Rows.jvalAllUptoRow.laid ((T.laidWorld os).forCall (fun _ _ => 0) ⟨#[], #[.agg #[.int .i64 0, .string .empty, .slice none 0 0, .slice none 0 0], .agg #[.int .i64 0, .string .empty, .slice none 0 0, .slice none 0 0], .string .empty], []⟩).memory #[.agg #[.int .i64 0, .string .empty, .slice none 0 0, .slice none 0 0], .agg #[.int .i64 0, .string .empty, .slice none 0 0, .slice none 0 0], .string .empty] := by
  have hw : (DataW.whole enc Tryd.prog ((T.laidWorld os).forCall (fun _ _ => 0) ⟨#[], #[.agg #[.int .i64 0, .string .empty, .slice none 0 0, .slice none 0 0], .agg #[.int .i64 0, .string .empty, .slice none 0 0, .slice none 0 0], .string .empty], []⟩).memory Tryd.f3.params.toList Rows.jvalAllSpec.vars false #[.agg #[.int .i64 0, .string .empty, .slice none 0 0, .slice none 0 0], .agg #[.int .i64 0, .string .empty, .slice none 0 0, .slice none 0 0], Value.string .empty].toList 8).map (fun x => (x.1, x.2.1)) =
      some ([.agg [.lit (.int .i64 0), .lit (.string []), .nil, .nil], .agg [.lit (.int .i64 0), .lit (.string []), .nil, .nil], .lit (.string [])], []) := by kernel_rfl
  obtain ⟨⟨x1, x2, x3⟩, hx, hx1⟩ := Option.map_eq_some_iff.1 hw
  simp only [Prod.mk.injEq] at hx1
  obtain ⟨rfl, rfl⟩ := hx1
  exact OpenSpec.preRow_of_cond 8 hx (by kernel_rfl) (fun k hk => by cases hk; kernel_rfl) (by kernel_rfl) (T.laid_met2 os _)

set_option maxRecDepth 100000 in
theorem lifted (os : Os) (started : os.Started) (H : Type) (enc : TypeId × Value → H) (F : Stop.Interp) :
    ReturnsInHanded {} Tryd.checked os 3 .any ((Rows.OpenSpec.upto Rows.jvalAllSpec).preRow enc Tryd.prog Tryd.f3 Rows.jvalAllUptoRow.domain false Rows.jvalAllUptoRow.laid) (((Rows.OpenSpec.upto Rows.jvalAllSpec).at F).post enc Tryd.prog Tryd.f3 false true false false) := by
  refine returnsInHanded_of_row (C := Tryd.checked) (s := Rows.OpenSpec.upto Rows.jvalAllSpec) T.own started (by kernel_rfl) Tryd.func3
    (witness_row_atRef (enc := enc) (C := Tryd.checked) false (T.laidWorld os) #[.agg #[.int .i64 0, .string .empty, .slice none 0 0, .slice none 0 0], .agg #[.int .i64 0, .string .empty, .slice none 0 0, .slice none 0 0], .string .empty] rfl (by kernel_rfl) (by kernel_rfl) (by kernel_rfl) (witness_row os enc)) ?_
  intro W base args ds gs before hval0 hW _ hcond _ hL _ _
  have hk := hcond _ rfl
  have hval : ∀ (j : Nat) t v, Tryd.f3.params[j]? = some t → args[j]? = some v → Value.okWide Tryd.prog W .any base t v := hval0
  have hW' := hW
  obtain ⟨p, q, hA0, hV, rfl, hfz, hnd⟩ := hW
  have hA : DataW.TrodAll enc Tryd.prog W 0 (fun _ => true) true Tryd.f3.params.toList args.toList ds p := hA0
  rw [Tryd.params3] at hA hval
  obtain ⟨v0, vs0, d0, ds0, p0, q0, hargs, rfl, rfl, h0, r0⟩ := trodAll_cons hA
  obtain ⟨v1, vs1, d1, ds1, p1, q1, rfl, rfl, rfl, h1, r1⟩ := trodAll_cons r0
  obtain ⟨v2, vs2, d2, ds2, p2, q2, rfl, rfl, rfl, h2, r2⟩ := trodAll_cons r1
  obtain ⟨rfl, rfl, rfl⟩ := trodAll_nil r2
  obtain rfl : args = #[v0, v1, v2] := by cases args; simp_all
  have hu : ∃ fs, Tryd.prog.underlying 25 = some (.struct fs) := ⟨_, Tryd.underlying25⟩
  obtain ⟨fs, hu⟩ := hu
  have op : ∀ v d ps, Value.okWide Tryd.prog W .any base 25 v → DataW.Trod enc Tryd.prog W 0 (fun _ => true) true 25 v d ps →
      ∃ (x : T.Val) (r : List AV), T.EV x r ∧ T.bv x ≤ Rows.uptoBulk d ∧ RV (K0 W) (.agg r) v := by
    intro v d ps hv hd
    unfold Value.okWide at hv
    rw [hu] at hv
    obtain ⟨cs, rfl, _, _⟩ := hv
    obtain ⟨fuel, hd⟩ := hd
    obtain ⟨x, r, h1, h2, h3⟩ := T.arg_value (v := .agg cs) (d := d) (ps := ps) (fun _ => rfl) hd
    refine ⟨x, r, h1, h2, ?_⟩
    simpa [Value.cells] using RL.agg h3
  obtain ⟨xa, ra, ea, ba, z0⟩ := op _ _ _ (hval 0 25 v0 rfl rfl) h0
  obtain ⟨xb, rb, eb, bb, z1⟩ := op _ _ _ (hval 1 25 v1 rfl rfl) h1
  obtain ⟨s2, rfl, rfl, rfl, w2⟩ := Go.ChangeMaps.open_string Tryd.underlying9 (hval 2 9 v2 rfl rfl) h2
  obtain ⟨l2, rfl⟩ : ∃ l : List UInt8, s2 = ⟨l.toArray⟩ := ⟨s2.data.toList, by simp⟩
  have hbd : T.bv xa ≤ 1048576 ∧ T.bv xb ≤ 1048576 ∧ l2.length ≤ 1048576 := by
    have h1 := of_decide_eq_true hk
    simp [Rows.uptoBulkAll, Rows.uptoBulk] at h1 ⊢
    omega
  obtain ⟨hb1, hb2, hb3⟩ := hbd
  have hT : T.Tb W.heap.size W := T.tb_of hL (.tail _ (.head _)) (.head _)
  obtain ⟨H', hev⟩ := T.ev_jall (n := l2) ea eb (by omega) (by omega) (by omega)
  refine (law_callsO T.tbOk T.OF2_ok T.prOk hT (fun _ => rfl) (.cons z0 (.cons z1 (.cons (.str _) .nil))) hev).mono fun e W' ⟨he, hb⟩ => ?_
  subst he
  exact ⟨_, rfl, law_post (tb := 4) hW' rfl ⟨rfl, rfl, rfl⟩ (by kernel_rfl) Tryd.underlying4 T.laid (by rw [Tryd.params3]; exact (List.forall_mem_cons.2 ⟨T.rr25, List.forall_mem_cons.2 ⟨T.rr25, List.forall_mem_cons.2 ⟨T.rr9, (fun _ h => nomatch h)⟩⟩⟩)) hb⟩

theorem said : Rows.JvalAllUptoSaid :=
  OpenClaim.holds_of_cond 3 Tryd.f3 rfl rfl rfl rfl rfl rfl rfl ⟨rfl, rfl, rfl, rfl, rfl⟩ rfl rfl rfl rfl rfl (by kernel_rfl) Tryd.func3 (by kernel_rfl)
    (of_decide_eq_true (by kernel_rfl)) (by unfold Func.isWrapper; first | (rw [if_pos (by decide +kernel)]; kernel_rfl) | (rw [if_neg (by decide +kernel)]; exact ⟨rfl, rfl⟩))
    (fun os started H enc _ F => by rw [OpenClaim.pre_eq_preRow]; exact lifted os started H enc F)

theorem plain (f : FuncId) (fn : Func) (hf : Tryd.pinned.checked.prog.funcNamed "refectory/refectorylaw02.JvalAll" = some f) (hfn : Tryd.pinned.checked.prog.funcs[f]? = some fn) :
    false = Tryd.pinned.checked.prog.looks [] ∧ ∀ (j : Nat) t, fn.params[j]? = some t → Tryd.pinned.checked.prog.wantsStandIn t = false := by
  obtain rfl : f = 3 := Option.some.inj ((show Tryd.prog.funcNamed "refectory/refectorylaw02.JvalAll" = some 3 by kernel_rfl).symm.trans hf) |>.symm
  obtain rfl : fn = Tryd.f3 := (Option.some.inj (Tryd.func3.symm.trans hfn)).symm
  refine ⟨by kernel_rfl, fun j t ht => ?_⟩
  rw [Tryd.params3] at ht
  have hm := Array.mem_of_getElem? ht
  have h25 : Tryd.prog.wantsStandIn 25 = false := by kernel_rfl
  have h9 : Tryd.prog.wantsStandIn 9 = false := by kernel_rfl
  have ht' : t = 25 ∨ t = 9 := by simpa using hm
  rcases ht' with rfl | rfl
  · exact h25
  · exact h9

theorem proved : Rows.JvalAllUptoCardSaid :=
  Claim7.holds_tied_plain_at .later [] _ _ _ _ said (fun _ h => by cases h) (by kernel_rfl) (fun _ h => by cases h) jvalAllUpto_row_tie rfl ⟨rfl, rfl⟩ (by kernel_rfl) rfl plain (by kernel_rfl)
#print axioms proved
end Go.Proofs.YtphgikpdbaeeoaaDoor.jvalAll
