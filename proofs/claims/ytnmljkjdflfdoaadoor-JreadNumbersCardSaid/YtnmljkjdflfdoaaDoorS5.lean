import Derived.Test.YtnmljkjdflfdoaaDoorS4
set_option linter.all false
set_option linter.unusedVariables false
set_option linter.unusedSimpArgs false
namespace Go.Aes
open Go.RowKit

section
variable {R : Type} [Mon R] {Sat : R → Prop} {PP : AV → AH → Prop} {X : Cx} {C : CallF}

/-- whatever instruction comes of it is such -/
def OkI (p : In → Prop) (x : Option In) : Prop := ∀ n, x = some n → p n
theorem OkI.none {p : In → Prop} : OkI p none := fun n h => by cases h
theorem OkI.some {p : In → Prop} {n : In} (h : p n) : OkI p (some n) := fun m e => by injection e with e; subst e; exact h
theorem OkI.pv {p : In → Prop} {x : Option AV} (h : ∀ v, p (.val v)) : OkI p (pv x) := fun m e => by
  unfold Aes.pv at e
  obtain ⟨v, _, rfl⟩ := Option.map_eq_some_iff.1 e
  exact h v
theorem OkI.map {p : In → Prop} {α : Type} {x : Option α} {g : α → In} (h : ∀ v, p (g v)) : OkI p (x.map g) := fun m e => by
  obtain ⟨v, _, rfl⟩ := Option.map_eq_some_iff.1 e
  exact h v
theorem OkI.bif {p : In → Prop} {b : Bool} {x y : Option In} (h : OkI p x) (k : OkI p y) : OkI p (bif b then x else y) := by
  cases b
  · exact k
  · exact h

/-- an instruction that is as the operation's sort says -/
def Sort' (X : Cx) (f : Nat) (o : Oper) (n : In) : Prop := (n.eff = true → opEff o = true) ∧ (logged n = true → opLog X f o = true)

theorem buildSlice_sort {t k : Nat} {l : List (Nat × AV)} {hm : Bool} {p : In → Prop} (h1 : hm = true → ∀ o w, p (.new o w)) (h2 : ∀ r s, p (.row r s)) : OkI p (buildSlice X t k l hm) := by
  unfold buildSlice
  repeat' split
  all_goals first | exact .none | skip
  · exact .bif (fun n e => by
      cases hm <;> simp only [cond_true, cond_false, Option.some.injEq] at e <;> subst e
      · exact h2 _ _
      · exact h1 rfl _ _) .none
  · exact .bif .none .none

theorem inst_sort {f : Nat} {fr : Fr} {o : Oper} : OkI (Sort' X f o) (inst X f fr o) := by
  cases o
  rename_i d op ty pos af gd
  unfold inst
  cases op <;> simp only []
  case call c =>
    cases hc : c.callee with
    | builtin b =>
      simp only []
      split
      · unfold callB
        repeat' split
        all_goals first
          | exact .none
          | (refine .some ⟨?_, ?_⟩ <;> intro h <;> first | (simp [In.eff] at h; done) | (simp [logged] at h; done) | (simp [opEff, hc]; done) | (simp [opLog, hc]; done) | (simp_all [opLog]; done))
          | (refine .pv (fun v => ⟨?_, ?_⟩) <;> intro h <;> first | (simp [In.eff] at h; done) | (simp [logged] at h; done) | (simp [opEff, hc]; done) | (simp [opLog, hc]; done))
          | (refine .bif (.some ⟨?_, ?_⟩) .none <;> intro h <;> first | (simp [In.eff] at h; done) | (simp [logged] at h; done) | (simp [opEff, hc]; done) | (simp [opLog, hc]; done))
      · exact .none
    | value g =>
      simp only []
      repeat' split
      all_goals first | exact .none | (refine .some ⟨?_, ?_⟩ <;> intro h <;> first | (simp [In.eff] at h; done) | (simp [logged] at h; done) | (simp [opEff, hc]; done) | (simp [opLog, hc]; done))
    | _ => exact .none
  case buildSlice t k ps =>
    split
    · exact buildSlice_sort (fun hh o w => ⟨fun h => by simp [In.eff] at h, fun h => by simpa [opLog] using hh⟩) (fun o w => ⟨fun h => by simp [In.eff] at h, fun h => by simp [logged] at h⟩)
    · exact .none
  all_goals
    repeat' split
    all_goals first
      | contradiction
      | exact .none
      | (refine .some ⟨?_, ?_⟩ <;> intro h <;> first | (simp [In.eff] at h; done) | (simp [logged] at h; done) | (simp [opEff]; done) | (simp [opLog]; done))
      | (refine .pv (fun v => ⟨?_, ?_⟩) <;> intro h <;> first | (simp [In.eff] at h; done) | (simp [logged] at h; done) | (simp [opEff]; done) | (simp [opLog]; done))
      | (refine .map (fun v => ⟨?_, ?_⟩) <;> intro h <;> first | (simp [In.eff] at h; done) | (simp [logged] at h; done) | (simp [opEff]; done) | (simp [opLog]; done))
      | (refine .bif (.some ⟨?_, ?_⟩) .none <;> intro h <;> first | (simp [In.eff] at h; done) | (simp [logged] at h; done) | (simp [opEff]; done) | (simp [opLog]; done))

end
end Go.Aes
