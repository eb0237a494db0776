import Derived.Test.YtgmifbbimcblcaaO8
set_option linter.all false
set_option linter.unusedVariables false
set_option linter.unusedSimpArgs false
namespace Go.Aes
open Go.RowKit

section
variable {X : Cx} {P : Program} {K : KC} {B : Nat} {W w : World} {H : AH}

/-- cells that read as these -/
def Reads (K : KC) (w : World) (b d : Nat) (cs : List AV) : Prop := ∀ (j : Nat) (a : AV), cs[j]? = some a → ∃ v, w.cell? ⟨b, d + j, none⟩ = some v ∧ RV K a v

theorem run_load1 {b o : Nat} {v : Value} (h : w.cell? ⟨b, o, none⟩ = some v) : (load ⟨b, o, none⟩).run P w = .ok v w := by
  rw [run_load, h]

theorem Reads.cells {b d : Nat} : ∀ {cs : List AV}, Reads K w b d cs → ∃ vs : List Value, RL K cs vs ∧ ∀ (j : Nat) (v : Value), vs[j]? = some v → w.cell? ⟨b, d + j, none⟩ = some v
  | [], h => ⟨[], .nil, fun j v e => by simp at e⟩
  | a :: cs, h => by
    obtain ⟨v, h1, h2⟩ := h 0 a (by simp)
    have hr : Reads K w b (d + 1) cs := fun j x e => by
      obtain ⟨v, g1, g2⟩ := h (j + 1) x (by simpa using e)
      exact ⟨v, by rw [show d + 1 + j = d + (j + 1) by omega]; exact g1, g2⟩
    obtain ⟨vs, g1, g2⟩ := hr.cells
    refine ⟨v :: vs, .cons h2 g1, fun j x e => ?_⟩
    cases j with
    | zero => simp at e; subst e; exact h1
    | succ j => rw [show d + (j + 1) = d + 1 + j by omega]; exact g2 j x (by simpa using e)

theorem Reads.slice {b d o n : Nat} {cs r : List AV} (h : Reads K w b d cs) (hs : slice? cs o n = some r) : Reads K w b (d + o) r := by
  intro j a e
  have hj : j < n := by
    have := (List.getElem?_eq_some_iff.1 e).1
    rw [(slice?_spec hs).2.1] at this
    exact this
  rw [slice?_get hs hj] at e
  obtain ⟨v, h1, h2⟩ := h _ a e
  exact ⟨v, by rw [Nat.add_assoc]; exact h1, h2⟩

theorem run_loadCells' {b d : Nat} {cs : List AV} (h : Reads K w b d cs) : ∃ vs : List Value, RL K cs vs ∧ (loadCells ⟨b, d, none⟩ cs.length).run P w = .ok vs.toArray w := by
  obtain ⟨vs, h1, h2⟩ := h.cells
  refine ⟨vs, h1, ?_⟩
  rw [← h1.len]
  exact run_loadCells_list (P := P) w ⟨b, d, none⟩ vs (fun j v e => by rw [add_plain]; exact h2 j v e)

theorem loadFrom_ok (ok : CxOk X P) {t n b d o : Nat} {ag : Bool} {cs : List AV} {r : AV} (ha : X.isAgg t = some ag) (hs : X.size t = some n) (h : loadFrom ag n cs o = some r) (hr : Reads K w b d cs) :
    ∃ v, (Instr.loadAt t (.pointer (some ⟨b, d + o, none⟩))).run P w = .ok v w ∧ RV K r v := by
  cases ag with
  | true =>
    simp only [loadFrom, cond_true] at h
    obtain ⟨l, hl, rfl⟩ := Option.map_eq_some_iff.1 h
    obtain ⟨vs, h1, h2⟩ := run_loadCells' (P := P) (hr.slice hl)
    rw [(slice?_spec hl).2.1] at h2
    refine ⟨.agg vs.toArray, ?_, h1.agg⟩
    simp only [Instr.loadAt, Instr.sureAddr, loadVar, Sem.run_bind, Sem.run_pure, Result.andThen_ok, ok.run_isAgg ha, ok.run_size hs, if_true, h2]
  | false =>
    simp only [loadFrom, cond_false] at h
    obtain ⟨v, h1, h2⟩ := hr o r h
    refine ⟨v, ?_, h2⟩
    simp only [Instr.loadAt, Instr.sureAddr, loadVar, Sem.run_bind, Sem.run_pure, Result.andThen_ok, ok.run_isAgg ha, Bool.false_eq_true, if_false, run_load1 h1]

theorem RW.reads (h : RW B W K H w) {i b z : Nat} {cs : List AV} (hg : H.get i = some (.cells cs)) (hm : K.μ i = some (b, z)) : Reads K w b 0 cs := by
  intro j a e
  obtain ⟨arr, ty, h1, h2, h3, h4, h5⟩ := h.obj i _ hg b z hm
  have hj : j < arr.size := by have := (List.getElem?_eq_some_iff.1 e).1; omega
  refine ⟨arr[j], ?_, h4 j a _ e (Array.getElem?_eq_getElem hj)⟩
  rw [Nat.zero_add, cell_of_row w b j arr ty (0, 0) h1]
  exact Array.getElem?_eq_getElem hj

theorem loadAt_ok (ok : CxOk X P) {t : Nat} {a r : AV} {v : Value} (h : loadAt X t a H = some r) (hv : RV K a v) (hw : RW B W K H w) :
    ∃ v', (Instr.loadAt t v).run P w = .ok v' w ∧ RV K r v' := by
  unfold loadAt at h
  cases ha : X.isAgg t with
  | none => simp [ha] at h
  | some ag =>
    cases hs : X.size t with
    | none => simp [ha, hs] at h
    | some n =>
      simp only [ha, hs] at h
      cases a <;> (try simp only [] at h) <;> (try (cases h; done))
      case ptr i o =>
        cases hg : H.get i with
        | none => simp [hg] at h
        | some ob =>
          cases ob <;> (try simp only [hg] at h) <;> (try (cases h; done))
          rename_i cs
          cases hv with
          | ptr i o b z hm =>
            have := loadFrom_ok ok (d := 0) ha hs h (hw.reads hg hm)
            simpa using this
      case vptr row o =>
        cases hv with
        | vptr row o b d cv hF hV =>
          exact loadFrom_ok ok ha hs h (fun j a e => ⟨cv j, hw.fr _ _ _ (hF j a e), hV j a e⟩)

/-! ### stores -/
theorem run_storeCells : ∀ (vs : List Value) (i : Nat) (w : World) (b o ty : Nat) (arr : Array Value) (fz : Nat × Nat), w.heap[b]? = some (.cells arr ty fz) → (∀ v, v ∈ vs → v.oneCell' = true) →
    o + i + vs.length ≤ arr.size → (∀ j, o + i ≤ j → j < o + i + vs.length → (fz.1 ≤ j && j < fz.2) = false) →
    ∃ arr', (storeCells ⟨b, o, none⟩ vs i).run P w = .ok () { w with heap := w.heap.setIfInBounds b (.cells arr' ty fz) } ∧ arr'.size = arr.size ∧
      ∀ j, arr'[j]? = if o + i ≤ j ∧ j < o + i + vs.length then vs[j - (o + i)]? else arr[j]?
  | [], i, w, b, o, ty, arr, fz, hb, h1, h2, h3 => by
    refine ⟨arr, ?_, rfl, fun j => by rw [if_neg (by simp only [List.length_nil]; omega)]⟩
    have hlt : b < w.heap.size := (Array.getElem?_eq_some_iff.1 hb).1
    have e : w.heap.setIfInBounds b (.cells arr ty fz) = w.heap := by
      apply Array.ext_getElem?
      intro k
      rw [Array.getElem?_setIfInBounds]
      by_cases hk : b = k
      · subst hk; rw [if_pos rfl, if_pos hlt, hb]
      · rw [if_neg hk]
    rw [e]
    rfl
  | v :: vs, i, w, b, o, ty, arr, fz, hb, h1, h2, h3 => by
    simp only [List.length_cons] at h2 h3
    have hlt : b < w.heap.size := (Array.getElem?_eq_some_iff.1 hb).1
    have hoi : o + i < arr.size := by omega
    have hcell : w.cell? ⟨b, o + i, none⟩ = some arr[o + i] := by
      rw [cell_of_row w b (o + i) arr ty fz hb]; exact Array.getElem?_eq_getElem hoi
    have hfz : w.frozen? ⟨b, o + i, none⟩ = false := by
      simp only [World.frozen?, hb]
      exact h3 (o + i) (Nat.le_refl _) (by omega)
    have hset : w.setCell ⟨b, o + i, none⟩ v = { w with heap := w.heap.setIfInBounds b (.cells (arr.setIfInBounds (o + i) v) ty fz) } := by
      unfold World.setCell
      congr 1
      apply Array.ext_getElem?
      intro k
      rw [Array.getElem?_modify, Array.getElem?_setIfInBounds]
      by_cases hk : b = k
      · subst hk; rw [if_pos rfl, if_pos rfl, if_pos hlt, hb]; rfl
      · rw [if_neg hk, if_neg hk]
    have hst : (store ⟨b, o + i, none⟩ v).run P w = .ok () (w.setCell ⟨b, o + i, none⟩ v) := by
      rw [run_store P w _ v _ (h1 v (List.mem_cons_self ..)), hcell]
      simp [hfz]
    obtain ⟨arr', g1, g2, g3⟩ := run_storeCells vs (i + 1) { w with heap := w.heap.setIfInBounds b (.cells (arr.setIfInBounds (o + i) v) ty fz) } b o ty (arr.setIfInBounds (o + i) v) fz
      (by show (w.heap.setIfInBounds b _)[b]? = _; rw [Array.getElem?_setIfInBounds_self_of_lt hlt]) (fun x hx => h1 x (List.mem_cons_of_mem _ hx)) (by simp; omega) (fun j hj hj' => h3 j (by omega) (by omega))
    refine ⟨arr', ?_, by rw [g2]; simp, fun j => ?_⟩
    · simp only [storeCells, Sem.run_bind, add_plain, hst, Result.andThen_ok, hset]
      rw [g1]
      congr 2
      apply Array.ext_getElem?
      intro k
      rw [Array.getElem?_setIfInBounds, Array.getElem?_setIfInBounds, Array.getElem?_setIfInBounds]
      by_cases hk : b = k
      · subst hk; simp
      · rw [if_neg hk, if_neg hk, if_neg hk]
    · rw [g3]
      simp only [List.length_cons]
      by_cases e : j = o + i
      · subst e
        rw [if_neg (by omega), if_pos ⟨by omega, by omega⟩]
        simp [hoi]
      · by_cases e1 : o + (i + 1) ≤ j ∧ j < o + (i + 1) + vs.length
        · rw [if_pos e1, if_pos (by omega)]
          have : j - (o + i) = (j - (o + (i + 1))) + 1 := by omega
          rw [this, List.getElem?_cons_succ]
        · rw [if_neg e1, if_neg (by omega), Array.getElem?_setIfInBounds_ne (by omega)]

theorem storeAt_ok (ok : CxOk X P) {t : Nat} {a x : AV} {va vx : Value} {H' : AH} (h : storeAt X t a x H = some H') (ha : RV K a va) (hx : RV K x vx) (hw : RW B W K H w) :
    ∃ w', (Instr.storeAt t va vx).run P w = .ok () w' ∧ RW B W K H' w' ∧ Fits K H K H' := by
  unfold storeAt at h
  cases hs : X.size t with
  | none => simp [hs] at h
  | some n =>
    cases a <;> (try simp only [hs] at h) <;> (try (cases h; done))
    rename_i i o
    cases hb : (x.cells.length.beq n && allOne x.cells) with
    | false => simp [hb] at h
    | true =>
      simp only [hb, cond_true] at h
      cases hg : H.get i with
      | none => simp [hg] at h
      | some ob =>
        cases ob <;> (try simp only [hg] at h) <;> (try (cases h; done))
        rename_i cs
        cases hr : setRange cs o x.cells with
        | none => simp [hr] at h
        | some cs' =>
          simp only [hr] at h
          cases hi : H.okI i with
          | false => simp [hi] at h
          | true =>
            simp [hi] at h
            subst h
            cases ha with
            | ptr i o b z hm =>
              obtain ⟨arr, ty, k1, k2, k3, k4, k5⟩ := hw.obj i _ hg b z hm
              have hl := hx.cells
              have hb' := Bool.and_eq_true_iff.1 hb
              have hn := beq_of hb'.1
              obtain ⟨g1, g2, g3⟩ := setRange_spec hr
              have hlen := hl.len
              obtain ⟨arr', s1, s2, s3⟩ := run_storeCells (P := P) vx.cells.toList 0 w b o ty arr (0, 0) k1 (hl.one_ hb'.2) (by omega) (fun j _ _ => by simp)
              have hPW := PW.setRange (arr' := arr') hr (K := K) ⟨by omega, k4⟩ hl s2 (fun j => by simpa using s3 j)
              refine ⟨_, ?_, hw.write (i := i) (b := b) (o := .cells cs) (o' := .cells cs') (H' := H.set i (some (.cells cs'))) hg (own_of hg (by simp [plc, hm])) (.cells arr' ty (0, 0))
                (fun j => AH.get_set H i j _ hi) (AH.nx_set _ _ _) (by simp) k5 ?_, ⟨.refl K, AH.le_set _ _ _, fun _ _ => ⟨rfl, rfl⟩⟩⟩
              · have hsz : vx.cells.size = n := by simp at hlen; omega
                simp only [Instr.storeAt, Instr.sureAddr, storeVar, Sem.run_bind, Sem.run_pure, Result.andThen_ok, ok.run_size hs]
                rw [if_neg (by omega)]
                exact s1
              · intro b1 z1 hm1
                rw [hm] at hm1
                injection hm1 with hm1
                injection hm1 with e1 e2
                subst e1; subst e2
                have hlt : b < w.heap.size := (Array.getElem?_eq_some_iff.1 k1).1
                exact ⟨arr', ty, by show (w.heap.setIfInBounds b _)[b]? = _; rw [Array.getElem?_setIfInBounds_self_of_lt hlt], by omega, by omega, hPW.2, k5⟩

/-! ### new objects -/
theorem new_ok {s : Sem Next} {o : AO} {wr : Wr} {i : Nat} {H' : AH} (hs : InSim X P K s (.new o wr)) (hn : H.new o = some (i, H')) (hw : RW B W K H w) :
    ∃ v w' K', s.run P w = .ok (.value v) w' ∧ RV K' (wr.mk i) v ∧ RW B W K' H' w' ∧ Fits K H K' H' := by
  obtain ⟨hw1, fit1, hg, hm, hτ, hi⟩ := hw.vnew hn
  have hnx := (AH.new_spec hn).1
  have fit : ∀ z, Fits K H (K.setμ i (w.heap.size, z)) H' := fun z => ⟨KC.le_setμ hm, fit1.nx, fun j hj => ⟨by simp [KC.setμ]; omega, rfl⟩⟩
  cases o with
  | tok => exact hs.elim
  | cells cs =>
    obtain ⟨vs, ty, hl, hr⟩ := hs
    obtain ⟨v, h1, h2⟩ := hr w
    refine ⟨v, _, K.setμ i (w.heap.size, vs.length), h1, h2 _ _ (by simp [KC.setμ]), ?_, fit _⟩
    refine hw1.place hg (by simp) hm hi _ _ (fun K' hK b z hb => ?_)
    subst hK
    simp [KC.setμ] at hb
    obtain ⟨rfl, rfl⟩ := hb
    refine ⟨vs.toArray, ty, by show (w.heap.push _)[w.heap.size]? = _; simp, by simp, by rw [hl.len]; exact Nat.le_refl _, fun j a x e e' => ?_, fun o => hw.noF o⟩
    exact (hl.at_ j a x e (by simpa using e')).mono (KC.le_setμ hm)
  | map es =>
    obtain ⟨rfl, hr⟩ := hs
    obtain ⟨v, h1, h2⟩ := hr w
    refine ⟨v, _, K.setμ i (w.heap.size, 0), h1, h2 _ _ 0 (by simp [KC.setμ]), ?_, fit _⟩
    refine hw1.place hg (by simp) hm hi _ _ (fun K' hK b z hb => ?_)
    subst hK
    simp [KC.setμ] at hb
    obtain ⟨rfl, rfl⟩ := hb
    exact ⟨#[], 0, by show (w.heap.push _)[w.heap.size]? = _; simp, ⟨rfl, fun j x e h => by simp at h⟩⟩
  | iter rest pos =>
    obtain ⟨sb, hd, hr⟩ := hs
    obtain ⟨v, h1, h2⟩ := hr w
    refine ⟨v, _, K.setμ i (w.heap.size, 0), h1, h2 _ _ 0 (by simp [KC.setμ]), ?_, fit _⟩
    refine hw1.place hg (by simp) hm hi _ _ (fun K' hK b z hb => ?_)
    subst hK
    simp [KC.setμ] at hb
    obtain ⟨rfl, rfl⟩ := hb
    exact ⟨sb, by show (w.heap.push _)[w.heap.size]? = _; simp, hd⟩

theorem row_ok {s : Sem Next} {rows : List (List AV)} {sz : Nat} (hs : InSim X P K s (.row rows sz)) (hw : RW B W K H w) :
    ∃ v w' K', s.run P w = .ok (.value v) w' ∧ RV K' (.sl rows .full) v ∧ RW B W K' H w' ∧ Fits K H K' H := by
  obtain ⟨vs, ty, h0, hr, hl, hrun⟩ := hs
  have le := KC.le_putF (K := K) (b := w.heap.size) (e := 0) (vs := vs) (fun o _ => hw.noF o)
  refine ⟨_, _, K.putF w.heap.size 0 vs, hrun w, ?_, hw.frozen vs.toArray ty (0, 0) vs (fun j v e => by simpa using e), ⟨le, Nat.le_refl _, fun _ _ => ⟨rfl, rfl⟩⟩⟩
  have hv : ∀ (i : Nat) (r : List AV) (j : Nat) (a : AV), rows[i]? = some r → r[j]? = some a → ∃ v, vs[i * sz + j]? = some v ∧ RV K a v := by
    intro i r j a e e'
    exact hl.get (flatten_get hr e e')
  refine .sl rows .full w.heap.size 0 rows.length sz (fun k => vs.getD k Go.undef) h0 hr (fun i r j a e e' => ?_) (fun i r j a e e' => ?_) (Nat.le_refl _) rfl
  · obtain ⟨v, h1, h2⟩ := hv i r j a e e'
    have := KC.putF_at (K := K) (b := w.heap.size) (e := 0) h1
    rw [List.getD_eq_getElem?_getD, h1]
    rw [show 0 + i * sz + j = 0 + (i * sz + j) by omega]
    exact this
  · obtain ⟨v, h1, h2⟩ := hv i r j a e e'
    rw [List.getD_eq_getElem?_getD, h1]
    exact h2.mono le

end
end Go.Aes
