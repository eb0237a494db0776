import Derived.Test.YtocngckbmjfddaaRbA
import Derived.Test.YtocngckbmjfddaaRbCnt
set_option linter.all false
set_option linter.unusedVariables false
set_option linter.unusedSimpArgs false
set_option maxRecDepth 100000
namespace T
open Go Go.Aes Go.Proofs

theorem cnt_ent (w : List UInt8) : PEnt Try.prog 118 [.str w, .str [93]] (.int .i64 (Lib.countByte w 93 : Nat)) := by
  refine ⟨⟨Try.f118, Try.func118, by kernel_rfl, by kernel_rfl⟩, fun B W K H w0 vs hw hl => ?_⟩
  obtain ⟨v1, vs1, rfl, h1, hl1⟩ := hl.cons_inv
  obtain ⟨v2, vs2, rfl, h2, hl2⟩ := hl1.cons_inv
  have := hl2.nil_inv
  subst this
  cases h1
  cases h2
  refine (Try.strings_Count_one ⟨w.toArray⟩ 93 w0).mono fun e w' he => ?_
  obtain ⟨rfl, rfl⟩ := he
  have : Lib.countByte (w.toArray).toList 93 = Lib.countByte w 93 := by simp
  show ∃ K', RV K' _ _ ∧ RW B W K' H w' ∧ Fits K H K' H
  refine ⟨K, ?_, hw, .refl K H⟩
  rw [show (⟨w.toArray⟩ : ByteArray).data.toList = w by simp]
  exact .int _ _

noncomputable def tbN : List Ent := [⟨118, [.str [], .str [93]], .int .i64 0⟩, ⟨118, [.str [33], .str [93]], .int .i64 0⟩, ⟨118, [.str [93], .str [93]], .int .i64 1⟩, ⟨118, [.str [33, 93], .str [93]], .int .i64 1⟩, ⟨118, [.str [33, 93, 33], .str [93]], .int .i64 1⟩, ⟨118, [.str [93, 33], .str [93]], .int .i64 1⟩, ⟨118, [.str [93, 93], .str [93]], .int .i64 2⟩, ⟨118, [.str [33, 93, 33, 93], .str [93]], .int .i64 2⟩]
theorem tbN_ok : ∀ e ∈ tbN, PEnt Try.prog e.g e.as e.v := by
  intro e h
  simp only [tbN, List.mem_cons, List.not_mem_nil, or_false] at h
  rcases h with rfl | rfl | rfl | rfl | rfl | rfl | rfl | rfl <;> exact cnt_ent _
noncomputable def tbC0 : List Ent := tb0 ++ tbN
theorem tbC0_ok : ∀ e ∈ tbC0, PEnt Try.prog e.g e.as e.v := by
  intro e h
  rcases List.mem_append.1 h with h | h
  · exact tb0_ok e h
  · exact tbN_ok e h
theorem aw28 : PEnt Try.prog 28 [] (.bool true) := PEnt.comp (n := 100) prOk cTabs tbC0_ok (by kernel_rfl) (by kernel_rfl) (by kernel_rfl)
noncomputable def tbC : List Ent := ⟨28, [], .bool true⟩ :: tbC0
theorem tbC_ok : ∀ e ∈ tbC, PEnt Try.prog e.g e.as e.v := by
  intro e h
  rcases List.mem_cons.1 h with rfl | h
  · exact aw28
  · exact tbC0_ok e h

/-- one thing more, in a heap to compute with -/
def pTc (H : AH) (o : AO) : AH :=
  match H with
  | .tr h nx => .tr (h.put (some o) 40 nx) (nx + 1)
  | H => H
noncomputable def cH1 : AH := (pTc HT (.cells z24)).set 0 (some (.cells schV.cells))

/-- what is left to be worked out of CostGreat -/
noncomputable def cgR (a b : Int) (x y : Nat) : Option Res :=
  r11_3 (r11_4 (r11_5 (qLoop (l11_9 (CE tbC 100) (r11_20 (CE tbC 100) fun fr H => some (Res.val (sel 2 fr) H))))))
    [.int .i64 a, .int .i64 b, .bool false, .ptr 0 0, .int .i64 (IntKind.i64.wrap (1 + (x : Int))), .int .i64 (IntKind.i64.wrap (1 + (y : Int))), Aes.undef, Aes.undef, Aes.undef, Aes.undef, Aes.undef, Aes.undef, Aes.undef, Aes.undef, Aes.undef] cH1
end T
