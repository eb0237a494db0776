import Derived.Test.YtjbdnbnfjnahlaaGreatDoorSrS
set_option linter.all false
set_option linter.unusedVariables false
set_option linter.unusedSimpArgs false
set_option maxRecDepth 100000
namespace T
open Go Go.Aes Go.Proofs

/-! ### names and types by numbers -/
def N12 : List Str := [[73, 110, 116], [83, 116, 114, 105, 110, 103], [78, 111, 100, 101], [65], [66], [84, 104, 105, 110, 103], [75, 105, 110, 100], [73, 110], [81, 117, 101, 114, 121], [65, 110, 121], [78, 111, 110, 101], [76, 101, 97, 102]]
def W8 : List Str := [[], [33], [93], [93, 33], [33, 93], [33, 93, 33], [93, 93], [33, 33]]
def ty (n w : Str) : AV := .agg [.str n, .str w]
def okW (w : Str) : Bool := !decide (w = [33, 33])

theorem compB {O : CallF} (hO : ∀ B W, Tb B W → CallOk Tryz.prog B W O) {n g : Nat} {al : List AV} {v : AV} (hfn : ∃ fn, Tryz.prog.funcs[g]? = some fn ∧ (fn.name == "runtime.NumGoroutine") = false ∧ fn.body.isSome = true)
    (h : (AV.frees (AV.kills al) && (v.free && givesB (cev O (runT cT) n g (AV.kills al) HT) v)) = true) : PEntT Tryz.prog Tb g al v := by
  simp only [Bool.and_eq_true] at h
  exact PEntT.comp prOk tbOk hO cTabs hfn h.1 h.2.1 h.2.2
noncomputable def chkB (O : CallF) (n g : Nat) (al : List AV) (v : AV) : Bool := AV.frees (AV.kills al) && (v.free && givesB (cev O (runT cT) n g (AV.kills al) HT) v)

/-! ### may a type be? -/
theorem ct_chk : (N12.all fun n => W8.all fun w => chkB OF1 100 16 [ty n w] (.bool (okW w))) = true := by kernel_rfl
theorem rt_chk : (N12.all fun n => W8.all fun w => chkB OF1 100 9 [ty n w] (.bool (okW w))) = true := by kernel_rfl
theorem ct_ent {n w : Str} (hn : n ∈ N12) (hw : w ∈ W8) : PEntT Tryz.prog Tb 16 [ty n w] (.bool (okW w)) :=
  compB OF1_ok ⟨_, Tryz.func16, by kernel_rfl, by kernel_rfl⟩ (List.all_eq_true.1 (List.all_eq_true.1 ct_chk n hn) w hw)
theorem rt_ent {n w : Str} (hn : n ∈ N12) (hw : w ∈ W8) : PEntT Tryz.prog Tb 9 [ty n w] (.bool (okW w)) :=
  compB OF1_ok ⟨_, Tryz.func9, by kernel_rfl, by kernel_rfl⟩ (List.all_eq_true.1 (List.all_eq_true.1 rt_chk n hn) w hw)

/-! ### may a name's type stand for another's? -/
def belB (a b : Str) : Bool := decide (a = b) || ((decide (a = [65]) || decide (a = [66])) && (decide (b = [78, 111, 100, 101]) || decide (b = [84, 104, 105, 110, 103])))
def bel (o : Bool) (a b : Str) : Bool := if o then decide (a = b) else belB a b
noncomputable def sch (o : Bool) : AV := if o then schO else schB
theorem be_chk : ([true, false].all fun o => N12.all fun a => N12.all fun b => chkB OF1 100 19 [sch o, .str a, .str b] (.bool (bel o a b))) = true := by kernel_rfl
theorem be_ent (o : Bool) {a b : Str} (ha : a ∈ N12) (hb : b ∈ N12) : PEntT Tryz.prog Tb 19 [sch o, .str a, .str b] (.bool (bel o a b)) :=
  compB OF1_ok ⟨_, Tryz.func19, by kernel_rfl, by kernel_rfl⟩ (List.all_eq_true.1 (List.all_eq_true.1 (List.all_eq_true.1 be_chk o (by cases o <;> simp)) a ha) b hb)
end T
