import Derived.Test.YtgmifbbimcblcaaS9
set_option linter.all false
set_option linter.unusedVariables false
set_option linter.unusedSimpArgs false
namespace Go.Aes
open Go.RowKit Go.WideShapes Go.ChangeShapes Go.Deep

section
variable {H : Type} {enc : TypeId × Value → H} {P : Program} {w : World} {base : Nat} {spare : Nat → Bool} {held : Bool}

theorem arg_bools {r : Reach} {b0 : Nat} {t e : TypeId} {v : Value} {d : DataW H} {ps : List MemPlace} (ht : P.underlying t = some (.slice e)) (he : P.underlying e = some .bool) (hc : P.cellsOf e = 1)
    (hval : Value.okWide P w r b0 t v) (hd : DataW.Trod enc P w base (fun _ => true) held t v d ps) :
    ∃ (zs : List Bool) (isn : Bool), (isn = true → zs = []) ∧ zs.length ≤ maxLen ∧ RV (K0 w) (inSl (boolRows zs) isn) v := by
  obtain ⟨fuel, hd⟩ := hd
  rcases open_bools ht he hc hd with ⟨hcs, _⟩ | ⟨a, len, cap, B, hcs, hb, hl, hm, _, hcell⟩
  · refine ⟨[], true, fun _ => rfl, by simp, ?_⟩
    have : v = .slice none 0 0 := by cases v <;> simp [Value.cells] at hcs <;> simp_all [Value.okWide, Cell.okWide, Cell.ok]
    subst this
    exact .slNil
  · have : v = .slice (some a) len cap := by cases v <;> simp [Value.cells] at hcs <;> simp_all [Value.okWide, Cell.okWide, Cell.ok]
    subst this
    have hsp := spot_none ht hval
    obtain ⟨b, o, sp⟩ := a
    simp only at hsp
    subst hsp
    refine ⟨(List.range len).map B, false, (fun h => by cases h), (by simp; omega), ?_⟩
    refine rv_rows1 (vs := []) (by simp [boolRows]) hl (fun i r hi => ?_)
    simp only [boolRows, List.getElem?_map, Option.map_eq_some_iff] at hi
    obtain ⟨n, h1, rfl⟩ := hi
    obtain ⟨j, h2, rfl⟩ := h1
    have hj := (List.getElem?_eq_some_iff.1 h2).1
    have hj2 := (List.getElem?_eq_some_iff.1 h2).2
    simp at hj hj2
    subst hj2
    have h3 := hcell i (by omega)
    exact ⟨_, _, rfl, by rw [add_plain] at h3; exact h3, .bool _⟩

end
end Go.Aes
