import Derived.Test.YtnmljkjdflfdoaaDoorR
set_option linter.all false
set_option linter.unusedVariables false
set_option linter.unusedSimpArgs false
namespace Go.Aes
open Go.RowKit

theorem add_plain (g o j : Nat) : (⟨g, o, none⟩ : Addr).add j = ⟨g, o + j, none⟩ := by
  unfold Addr.add
  split
  · simp_all
  · rfl

/-! ### what an abstract object's block holds -/
structure EntOk (K : KC) (es : List (AV × AV)) (ents : Array MapEntry) : Prop where
  len : ents.size = es.length
  at_ : ∀ (j : Nat) (x : AV × AV) (e : MapEntry), es[j]? = some x → ents[j]? = some e → RV K x.1 e.key ∧ RV K x.2 e.val

def RO (K : KC) (w : World) (i : Nat) : AO → Prop
  | .cells cs => ∀ b z, K.μ i = some (b, z) → ∃ arr ty, w.heap[b]? = some (.cells arr ty (0, 0)) ∧ arr.size = z ∧ cs.length ≤ z ∧
      (∀ (j : Nat) (a : AV) (v : Value), cs[j]? = some a → arr[j]? = some v → RV K a v) ∧ (∀ o, K.F b o = none)
  | .obj t k cs => ∀ b z, K.μ i = some (b, z) → ∃ arr fz, w.heap[b]? = some (.cells arr t fz) ∧ arr.size = z ∧ cs.length ≤ z ∧
      (∀ (j : Nat) (a : AV) (v : Value), cs[j]? = some a → arr[j]? = some v → RV K a v) ∧ (∀ o, K.F b o = none) ∧ (k ≤ 1 → fz = (0, 0)) ∧ (k = 0 → cs.length = z)
  | .map es => ∀ b z, K.μ i = some (b, z) → ∃ ents clock, w.heap[b]? = some (.map ents clock) ∧ EntOk K es ents
  | .iter rest pos => ∀ b z, K.μ i = some (b, z) → ∃ s, w.heap[b]? = some (.stringIter s pos) ∧ s.data.toList.drop pos = rest
  | .tok => ∀ b e z n, K.τ i = some (b, e, z, n) → ∃ arr ty fz, w.heap[b]? = some (.cells arr ty fz) ∧ z ≤ arr.size ∧ e ≤ z ∧ 0 < n ∧
      (∀ o, e ≤ o → o < z → (fz.1 ≤ o && o < fz.2) = false) ∧ (∀ o, e ≤ o → K.F b o = none)

theorem RO_mkT {K : KC} {w : World} {i : Nat} {te : Option Nat} {cs : List AV} : RO K w i (.mkT te cs) ↔ ∀ b z, K.μ i = some (b, z) → ∃ arr ty, w.heap[b]? = some (.cells arr ty (0, 0)) ∧ arr.size = z ∧ cs.length ≤ z ∧
      (∀ (j : Nat) (a : AV) (v : Value), cs[j]? = some a → arr[j]? = some v → RV K a v) ∧ (∀ o, K.F b o = none) ∧ (∀ e, te = some e → ty = e) := by
  cases te with
  | none =>
    constructor
    · intro h b z hm
      obtain ⟨arr, ty, h1, h2, h3, h4, h5⟩ := h b z hm
      exact ⟨arr, ty, h1, h2, h3, h4, h5, fun e he => by cases he⟩
    · intro h b z hm
      obtain ⟨arr, ty, h1, h2, h3, h4, h5, _⟩ := h b z hm
      exact ⟨arr, ty, h1, h2, h3, h4, h5⟩
  | some e =>
    constructor
    · intro h b z hm
      obtain ⟨arr, fz, h1, h2, h3, h4, h5, h6, _⟩ := h b z hm
      have := h6 (Nat.le_refl 1)
      subst this
      exact ⟨arr, e, h1, h2, h3, h4, h5, fun e' he => by injection he⟩
    · intro h b z hm
      obtain ⟨arr, ty, h1, h2, h3, h4, h5, h6⟩ := h b z hm
      have := h6 e rfl
      subst this
      exact ⟨arr, (0, 0), h1, h2, h3, h4, h5, fun _ => rfl, fun h => by cases h⟩

theorem unT_spec {te : Option Nat} {o : AO} {cs : List AV} (h : o.unT te = some cs) : o = .mkT te cs := by
  cases te with
  | none => cases o <;> simp [AO.unT] at h <;> simp [AO.mkT, h]
  | some e =>
    cases o <;> simp only [AO.unT] at h <;> first | (cases h; done) | skip
    rename_i t k cs'
    cases hb : (t.beq e && k.beq 1) with
    | false => rw [hb] at h; cases h
    | true =>
      rw [hb] at h
      simp only [cond_true, Option.some.injEq] at h
      simp only [Bool.and_eq_true, Nat.beq_eq] at hb
      obtain ⟨rfl, rfl⟩ := hb
      subst h
      rfl
theorem mkT_tok {te : Option Nat} {cs : List AV} : AO.mkT te cs ≠ .tok := by cases te <;> simp [AO.mkT]

/-- where an object of this kind lies -/
def plc (K : KC) (i : Nat) (o : AO) : Option Nat :=
  match o with
  | .tok => (K.τ i).map (·.1)
  | _ => (K.μ i).map (·.1)

theorem plc_mkT {K : KC} {i : Nat} {te : Option Nat} {cs : List AV} : plc K i (.mkT te cs) = (K.μ i).map (·.1) := by cases te <;> rfl

def own (K : KC) (H : AH) (i : Nat) : Option Nat :=
  match H.get i with
  | some .tok => (K.τ i).map (·.1)
  | some _ => (K.μ i).map (·.1)
  | none => none

structure RW (B : Nat) (W : World) (K : KC) (H : AH) (w : World) : Prop where
  below : Below B W w
  le : B ≤ W.heap.size
  fr : ∀ b o v, K.F b o = some v → w.cell? ⟨b, o, none⟩ = some v
  obj : ∀ i o, H.get i = some o → RO K w i o
  low : ∀ i b, own K H i = some b → B ≤ b ∧ b < w.heap.size
  sep : ∀ i j b, own K H i = some b → own K H j = some b → i = j
  fresh : ∀ i, H.nx ≤ i → K.μ i = none ∧ K.τ i = none
  zz : ∀ b o v, K.F b o = some v → B ≤ b ∨ K.Z b o

/-- one step on: what was known stays, and of the numbers that there were none is placed anew -/
structure Fits (K : KC) (H : AH) (K' : KC) (H' : AH) : Prop where
  le : K.le K'
  nx : H.nx ≤ H'.nx
  old : ∀ i, i < H.nx → K'.μ i = K.μ i ∧ K'.τ i = K.τ i

theorem Fits.refl (K : KC) (H : AH) : Fits K H K H := ⟨.refl K, Nat.le_refl _, fun _ _ => ⟨rfl, rfl⟩⟩
theorem Fits.trans {K K1 K2 : KC} {H H1 H2 : AH} (h : Fits K H K1 H1) (k : Fits K1 H1 K2 H2) : Fits K H K2 H2 :=
  ⟨h.le.trans k.le, Nat.le_trans h.nx k.nx, fun i hi =>
    ⟨(k.old i (Nat.lt_of_lt_of_le hi h.nx)).1.trans (h.old i hi).1, (k.old i (Nat.lt_of_lt_of_le hi h.nx)).2.trans (h.old i hi).2⟩⟩

section
variable {B : Nat} {W w w' : World} {K K' : KC} {H H' : AH}

theorem RW.F_lt (h : RW B W K H w) {b o : Nat} {v : Value} (hf : K.F b o = some v) : b < w.heap.size :=
  World.block_lt_of_cell? w _ (h.fr b o v hf)

/-- an object that nobody has touched -/
theorem RO.keep {i : Nat} {o : AO} (h : RO K w i o) (le : K.le K') (hμ : K'.μ i = K.μ i) (hτ : K'.τ i = K.τ i)
    (hb : ∀ b, plc K i o = some b → w'.heap[b]? = w.heap[b]? ∧ ∀ o, K'.F b o = K.F b o) : RO K' w' i o := by
  cases o with
  | cells cs =>
    intro b z hm
    rw [hμ] at hm
    obtain ⟨arr, ty, h1, h2, h3, h4, h5⟩ := h b z hm
    obtain ⟨k1, k2⟩ := hb b (by simp [plc, hm])
    exact ⟨arr, ty, k1.trans h1, h2, h3, fun j a v e e' => (h4 j a v e e').mono le, fun o => (k2 o).trans (h5 o)⟩
  | obj t k cs =>
    intro b z hm
    rw [hμ] at hm
    obtain ⟨arr, fz, h1, h2, h3, h4, h5, h6⟩ := h b z hm
    obtain ⟨k1, k2⟩ := hb b (by simp [plc, hm])
    exact ⟨arr, fz, k1.trans h1, h2, h3, fun j a v e e' => (h4 j a v e e').mono le, fun o => (k2 o).trans (h5 o), h6⟩
  | map es =>
    intro b z hm
    rw [hμ] at hm
    obtain ⟨ents, clock, h1, h2⟩ := h b z hm
    obtain ⟨k1, k2⟩ := hb b (by simp [plc, hm])
    exact ⟨ents, clock, k1.trans h1, h2.len, fun j x e e1 e2 => ⟨(h2.at_ j x e e1 e2).1.mono le, (h2.at_ j x e e1 e2).2.mono le⟩⟩
  | iter rest pos =>
    intro b z hm
    rw [hμ] at hm
    obtain ⟨s, h1, h2⟩ := h b z hm
    obtain ⟨k1, k2⟩ := hb b (by simp [plc, hm])
    exact ⟨s, k1.trans h1, h2⟩
  | tok =>
    intro b e z n hm
    rw [hτ] at hm
    obtain ⟨arr, ty, fz, h1, h2, h3, h4, h5, h6⟩ := h b e z n hm
    obtain ⟨k1, k2⟩ := hb b (by simp [plc, hm])
    exact ⟨arr, ty, fz, k1.trans h1, h2, h3, h4, h5, fun o ho => (k2 o).trans (h6 o ho)⟩

theorem own_some {i b : Nat} (h : own K H i = some b) : ∃ o, H.get i = some o ∧ plc K i o = some b := by
  unfold own at h
  cases hg : H.get i with
  | none => simp [hg] at h
  | some o => rw [hg] at h; cases o <;> exact ⟨_, rfl, h⟩

theorem own_of {i b : Nat} {o : AO} (hg : H.get i = some o) (h : plc K i o = some b) : own K H i = some b := by
  unfold own
  rw [hg]
  cases o <;> exact h

/-- a draw -/
theorem RW.drew (h : RW B W K H w) : RW B W K H w.drew :=
  ⟨h.below.drew, h.le, h.fr, fun i o hg => (h.obj i o hg).keep (.refl K) rfl rfl (fun b _ => ⟨rfl, fun _ => rfl⟩), h.low, h.sep, h.fresh, h.zz⟩

/-- a new abstract object that lies nowhere yet -/
theorem RW.vnew (h : RW B W K H w) {o : AO} {i : Nat} (hn : H.new o = some (i, H')) : RW B W K H' w ∧ Fits K H K H' ∧ H'.get i = some o ∧ K.μ i = none ∧ K.τ i = none ∧ i < H'.nx := by
  obtain ⟨rfl, hnx, hlt, hget⟩ := AH.new_spec hn
  obtain ⟨fm, ft⟩ := h.fresh H.nx (Nat.le_refl _)
  have hown : ∀ j, own K H' j = if j = H.nx then none else own K H j := by
    intro j
    unfold own
    rw [hget]
    by_cases e : j = H.nx
    · subst e
      rw [if_pos rfl, if_pos rfl]
      cases o <;> simp [fm, ft]
    · rw [if_neg e, if_neg e]
  refine ⟨⟨h.below, h.le, h.fr, ?_, ?_, ?_, fun j hj => h.fresh j (by omega), h.zz⟩, ⟨.refl K, by omega, fun _ _ => ⟨rfl, rfl⟩⟩, by rw [hget, if_pos rfl], fm, ft, by omega⟩
  · intro j o' hg
    rw [hget] at hg
    by_cases e : j = H.nx
    · subst e
      rw [if_pos rfl] at hg
      injection hg with hg
      subst hg
      cases o with
      | tok => intro b e z n hm; rw [ft] at hm; cases hm
      | cells cs => intro b z hm; rw [fm] at hm; cases hm
      | map cs => intro b z hm; rw [fm] at hm; cases hm
      | obj t k cs => intro b z hm; rw [fm] at hm; cases hm
      | iter a c => intro b z hm; rw [fm] at hm; cases hm
    · rw [if_neg e] at hg
      exact h.obj j o' hg
  · intro j b hb
    rw [hown] at hb
    split at hb
    · cases hb
    · exact h.low j b hb
  · intro j k b hj hk
    rw [hown] at hj hk
    split at hj
    · cases hj
    · split at hk
      · cases hk
      · exact h.sep j k b hj hk

def KC.setμ (K : KC) (i : Nat) (x : Nat × Nat) : KC := { K with μ := fun j => if j = i then some x else K.μ j }

theorem KC.le_setμ {i : Nat} {x : Nat × Nat} (h : K.μ i = none) : K.le (K.setμ i x) :=
  ⟨fun _ _ _ h => h, fun j y hj => by
    show (if j = i then some x else K.μ j) = some y
    rw [if_neg (fun e => by subst e; rw [h] at hj; cases hj)]; exact hj, fun _ _ h => h, rfl⟩

theorem heap_alloc (w : World) (o : Obj) (k : Nat) (h : k < w.heap.size) : (w.alloc o).heap[k]? = w.heap[k]? := Below.heap_alloc w o k h

theorem cell_alloc {w : World} {o : Obj} {a : Addr} {v : Value} (h : w.cell? a = some v) : (w.alloc o).cell? a = some v := by
  rw [World.cell?_alloc_lt (h := World.block_lt_of_cell? w a h)]; exact h

/-- an abstract object that lay nowhere gets its block, a new one -/
theorem RW.place (h : RW B W K H w) {i : Nat} {o : AO} (hg : H.get i = some o) (ho : o ≠ .tok) (hm : K.μ i = none) (hi : i < H.nx) (ob : Obj) (z : Nat)
    (hr : ∀ K', K' = K.setμ i (w.heap.size, z) → RO K' (w.alloc ob) i o) :
    RW B W (K.setμ i (w.heap.size, z)) H (w.alloc ob) := by
  have le := KC.le_setμ (K := K) (x := (w.heap.size, z)) hm
  have hB : B ≤ w.heap.size := Nat.le_trans h.le h.below.size
  have μne : ∀ j, j ≠ i → (K.setμ i (w.heap.size, z)).μ j = K.μ j := fun j hj => by simp [KC.setμ, hj]
  have ownne : ∀ j, j ≠ i → own (K.setμ i (w.heap.size, z)) H j = own K H j := by
    intro j hj
    unfold own
    rw [μne j hj]
    rfl
  have owni : own (K.setμ i (w.heap.size, z)) H i = some w.heap.size := by
    refine own_of hg ?_
    cases o <;> first | exact absurd rfl ho | simp [plc, KC.setμ]
  refine ⟨h.below.alloc hB ob, h.le, fun b o' v hf => cell_alloc (h.fr b o' v hf), ?_, ?_, ?_, ?_, h.zz⟩
  · intro j o' hg'
    by_cases e : j = i
    · subst e
      rw [hg] at hg'
      injection hg' with hg'
      subst hg'
      exact hr _ rfl
    · refine (h.obj j o' hg').keep le (μne j e) rfl (fun b hb => ⟨heap_alloc w ob b (h.low j b (own_of hg' hb)).2, fun _ => rfl⟩)
  · intro j b hb
    rw [World.size_alloc]
    by_cases e : j = i
    · subst e; rw [owni] at hb; injection hb with hb; subst hb; exact ⟨hB, by omega⟩
    · rw [ownne j e] at hb
      exact ⟨(h.low j b hb).1, by have := (h.low j b hb).2; omega⟩
  · intro j k b hj hk
    by_cases e : j = i
    · by_cases e' : k = i
      · rw [e, e']
      · exfalso
        subst e
        rw [owni] at hj; injection hj with hj
        rw [ownne k e'] at hk
        have := (h.low k b hk).2; omega
    · by_cases e' : k = i
      · exfalso
        subst e'
        rw [owni] at hk; injection hk with hk
        rw [ownne j e] at hj
        have := (h.low j b hj).2; omega
      · rw [ownne j e] at hj; rw [ownne k e'] at hk
        exact h.sep j k b hj hk
  · intro j hj
    rw [μne j (by omega)]
    exact h.fresh j hj

/-- an owned block is written: other objects, other cells stay -/
theorem RW.write (h : RW B W K H w) {i b : Nat} {o o' : AO} (hg : H.get i = some o) (ho : own K H i = some b) (ob : Obj)
    (hH : ∀ j, H'.get j = if j = i then some o' else H.get j) (hnx : H'.nx = H.nx) (hk : (o = .tok ↔ o' = .tok))
    (hF : ∀ o, K.F b o = none)
    (hr : RO K { w with heap := w.heap.setIfInBounds b ob } i o') :
    RW B W K H' { w with heap := w.heap.setIfInBounds b ob } := by
  obtain ⟨hlo, hhi⟩ := h.low i b ho
  have hblk : ∀ k, k ≠ b → (w.heap.setIfInBounds b ob)[k]? = w.heap[k]? := fun k hk => by
    rw [Array.getElem?_setIfInBounds_ne (Ne.symm hk)]
  have hcell : ∀ (a : Addr), a.block ≠ b → World.cell? { w with heap := w.heap.setIfInBounds b ob } a = w.cell? a := by
    intro a ha
    exact World.cell?_of_block (hblk _ ha)
  have hown : ∀ j, own K H' j = own K H j := by
    intro j
    unfold own
    rw [hH]
    by_cases e : j = i
    · subst e
      rw [if_pos rfl, hg]
      cases o <;> cases o' <;> simp_all
    · rw [if_neg e]
  refine ⟨h.below.trans ⟨rfl, rfl, rfl, by simp, fun k hk => hblk k (by omega)⟩, h.le, ?_, ?_, ?_, ?_, fun j hj => h.fresh j (by omega), h.zz⟩
  · intro b' o1 v hf
    have : b' ≠ b := fun e => by subst e; rw [hF] at hf; cases hf
    rw [hcell _ this]
    exact h.fr b' o1 v hf
  · intro j o1 hg1
    rw [hH] at hg1
    by_cases e : j = i
    · subst e
      rw [if_pos rfl] at hg1
      injection hg1 with hg1
      subst hg1
      exact hr
    · rw [if_neg e] at hg1
      refine (h.obj j o1 hg1).keep (.refl K) rfl rfl (fun b1 hb1 => ⟨hblk b1 fun e1 => ?_, fun _ => rfl⟩)
      subst e1
      exact e (h.sep j i b1 (own_of hg1 hb1) ho)
  · intro j b1 hb1
    rw [hown] at hb1
    have := h.low j b1 hb1
    simpa using this
  · intro j k b1 hj hk
    rw [hown] at hj hk
    exact h.sep j k b1 hj hk

end
end Go.Aes
