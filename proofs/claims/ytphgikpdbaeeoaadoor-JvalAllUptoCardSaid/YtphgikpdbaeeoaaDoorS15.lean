import Derived.Test.YtphgikpdbaeeoaaDoorS9
set_option linter.all false
set_option linter.unusedVariables false
set_option linter.unusedSimpArgs false
namespace Go.Aes
open Go.RowKit Go.WideShapes Go.ChangeShapes

/-- a slice that came in, of rows of any length -/
theorem rv_rows {w : World} {base : Nat} {a : Addr} {len cap sz : Nat} {rows : List (List AV)} (h0 : 0 < sz) (hl : rows.length = len) (hc : len ≤ cap)
    (hcell : ∀ i, i < cap → ∃ cs' : List Value, w.cells? base (a.add (i * sz)) sz = some cs' ∧ ∀ r, rows[i]? = some r → RL (K0 w) r cs') :
    RV (K0 w) (.sl rows .dead) (.slice (some a) len cap) := by
  subst hl
  rcases Nat.eq_zero_or_pos cap with h | h
  · subst h
    have : rows = [] := List.eq_nil_of_length_eq_zero (by omega)
    subst this
    exact .slE a .dead (.inl rfl)
  · have hsp : a.spot = none := by
      obtain ⟨cs0, h1, _⟩ := hcell 0 h
      obtain ⟨_, h2, h3⟩ := World.cells?_some h1
      have h4 := h3 0 h0
      rw [List.getElem?_eq_getElem (by omega)] at h4
      simpa [Addr.add] using World.cell?_spot h4
    obtain ⟨b, d, sp⟩ := a
    simp only at hsp
    subst hsp
    have key : ∀ (i : Nat) (r : List AV) (j : Nat) (x : AV), rows[i]? = some r → r[j]? = some x → r.length = sz ∧ ∃ v, w.cell? ⟨b, d + i * sz + j, none⟩ = some v ∧ RV (K0 w) x v := by
      intro i r j x h1 h2
      have hi : i < rows.length := (List.getElem?_eq_some_iff.1 h1).1
      obtain ⟨cs', g1, g2⟩ := hcell i (by omega)
      obtain ⟨_, g3, g4⟩ := World.cells?_some g1
      have g5 := g2 r h1
      have hj : j < r.length := (List.getElem?_eq_some_iff.1 h2).1
      have hlen : r.length = sz := by rw [← g5.len]; exact g3
      obtain ⟨v, g6, g7⟩ := g5.get h2
      have g8 := g4 j (by omega)
      rw [g6, add_plain, add_plain] at g8
      exact ⟨hlen, v, g8, g7⟩
    have hr : ∀ r, r ∈ rows → r.length = sz := by
      intro r hm
      obtain ⟨i, hi, rfl⟩ := List.mem_iff_getElem.1 hm
      obtain ⟨cs', g1, g2⟩ := hcell i (by omega)
      obtain ⟨_, g3, _⟩ := World.cells?_some g1
      rw [← (g2 _ (List.getElem?_eq_getElem hi)).len]
      exact g3
    refine .sl rows .dead b d cap sz (fun k => (w.cell? ⟨b, d + k, none⟩).getD Go.undef) h0 hr (fun i r j x h1 h2 => ?_) (fun i r j x h1 h2 => ?_) hc trivial
    · obtain ⟨_, v, h3, h4⟩ := key i r j x h1 h2
      simp only [← Nat.add_assoc]
      rw [h3]
      exact K0_F h3
    · obtain ⟨_, v, h3, h4⟩ := key i r j x h1 h2
      simp only [← Nat.add_assoc]
      rw [h3]
      exact h4

section
variable {H : Type} {enc : TypeId × Value → H} {P : Program} {w : World} {base : Nat} {spare : Nat → Bool} {held : Bool}

/-- a slice among the arguments, or within them: if each element reads as a row (with Q), so does the slice -/
theorem arg_slice {t e : TypeId} {fuel : Nat} {cs : List Value} {x : DataW H × List MemPlace} (Q : DataW H → List AV → Prop) (ht : P.underlying t = some (.slice e)) (h0 : 0 < P.cellsOf e) (hs : ∀ b, spare b = true)
    (h : DataW.trod enc P w base spare held fuel t cs = some x)
    (he : ∀ n cs' y, SizeOf.sizeOf y.1 < SizeOf.sizeOf x.1 → DataW.trod enc P w base spare held n e cs' = some y → ∃ r, Q y.1 r ∧ RL (K0 w) r cs') :
    ∃ (rows : List (List AV)) (tk : Tk) (v : Value) (ds : List (DataW H)), cs = [v] ∧ (x.1 = .nil ∧ ds = [] ∨ ∃ l2, x.1 = .slice ds l2) ∧ rows.length = ds.length ∧
      (∀ (i : Nat) (d : DataW H) (r : List AV), ds[i]? = some d → rows[i]? = some r → Q d r) ∧ RV (K0 w) (.sl rows tk) v := by
  rcases Go.Deep.open_slice ht h with ⟨rfl, rfl⟩ | ⟨a, len, cap, m, n, D, Pl, rfl, hb, hl, hm, hmm, rfl, hx⟩
  · exact ⟨[], .nil, _, [], rfl, .inl ⟨rfl, rfl⟩, rfl, by simp, .slNil⟩
  · have hm' : m = cap := by rw [hmm, hs]; rfl
    subst hm'
    have hrow : ∀ i, ∃ r, i < m → Q (D i) r ∧ ∃ cs', w.cells? base (a.add (i * P.cellsOf e)) (P.cellsOf e) = some cs' ∧ RL (K0 w) r cs' := by
      intro i
      rcases Nat.lt_or_ge i m with hi | hi
      · obtain ⟨cs', h1, h2⟩ := hx i hi
        have hsz : SizeOf.sizeOf (D i) < SizeOf.sizeOf (DataW.slice ((List.range len).map D) ((List.range (m - len)).map fun j => D (len + j))) := by
          have hmem : D i ∈ (List.range len).map D ∨ D i ∈ (List.range (m - len)).map fun j => D (len + j) := by
            rcases Nat.lt_or_ge i len with hi2 | hi2
            · exact .inl (List.mem_map.2 ⟨i, List.mem_range.2 hi2, rfl⟩)
            · exact .inr (List.mem_map.2 ⟨i - len, List.mem_range.2 (by omega), by rw [show len + (i - len) = i by omega]⟩)
          rcases hmem with hmem | hmem
          · have := List.sizeOf_lt_of_mem hmem
            simp only [DataW.slice.sizeOf_spec]
            omega
          · have := List.sizeOf_lt_of_mem hmem
            simp only [DataW.slice.sizeOf_spec]
            omega
        obtain ⟨r, h3, h4⟩ := he n cs' _ hsz h2
        exact ⟨r, fun _ => ⟨h3, cs', h1, h4⟩⟩
      · exact ⟨[], fun h => by omega⟩
    refine ⟨(List.range len).map fun i => (hrow i).choose, .dead, _, (List.range len).map D, rfl, .inr ⟨_, rfl⟩, by simp, fun i d r h1 h2 => ?_, rv_rows (base := base) h0 (by simp) hl (fun i hi => ?_)⟩
    · rw [List.getElem?_map, Option.map_eq_some_iff] at h1 h2
      obtain ⟨k, h3, rfl⟩ := h1
      obtain ⟨k', h4, rfl⟩ := h2
      rw [h3] at h4
      injection h4 with h4
      subst h4
      have hk : k < len := List.mem_range.1 (List.mem_of_getElem? h3)
      exact ((hrow k).choose_spec (by omega)).1
    · obtain ⟨_, cs', h1, h2⟩ := (hrow i).choose_spec hi
      refine ⟨cs', h1, fun r hr => ?_⟩
      rw [List.getElem?_map, Option.map_eq_some_iff] at hr
      obtain ⟨k, h3, rfl⟩ := hr
      have h5 : k = i := by
        rw [List.getElem?_eq_some_iff] at h3
        obtain ⟨g1, g2⟩ := h3
        simpa using g2.symm
      subst h5
      exact h2
end
end Go.Aes
