import Derived.Test.YtgmifbbimcblcaaO2
set_option linter.all false
set_option linter.unusedVariables false
set_option linter.unusedSimpArgs false
namespace Go.Aes
open Go.RowKit

section
variable {X : Cx} {P : Program} {K : KC}

theorem slice?_spec {α : Type} {cs r : List α} {o n : Nat} (h : slice? cs o n = some r) : r = (cs.drop o).take n ∧ r.length = n ∧ (0 < n → o + n ≤ cs.length) := by
  unfold slice? at h
  simp only [] at h
  cases hb : ((cs.drop o).take n).length.beq n with
  | false => rw [hb] at h; cases h
  | true =>
    rw [hb] at h
    have := beq_of hb
    simp only [cond_true, Option.some.injEq] at h
    subst h
    refine ⟨rfl, this, fun h0 => ?_⟩
    simp at this
    omega

theorem slice?_get {α : Type} {cs r : List α} {o n : Nat} (h : slice? cs o n = some r) {j : Nat} (hj : j < n) : r[j]? = cs[o + j]? := by
  obtain ⟨rfl, _, _⟩ := slice?_spec h
  rw [List.getElem?_take, if_pos hj, List.getElem?_drop]

theorem setRange_spec {cs cs' vs : List AV} {o : Nat} (h : setRange cs o vs = some cs') :
    o + vs.length ≤ cs.length ∧ cs'.length = cs.length ∧ ∀ j, cs'[j]? = if o ≤ j ∧ j < o + vs.length then vs[j - o]? else cs[j]? := by
  unfold setRange at h
  cases hb : (o + vs.length).ble cs.length with
  | false => simp [hb] at h
  | true =>
    have hle := ble_of hb
    simp only [hb, cond_true, Option.some.injEq] at h
    subst h
    refine ⟨hle, by simp; omega, fun j => ?_⟩
    have hl1 : (cs.take o).length = o := by simp; omega
    by_cases h1 : j < o
    · rw [if_neg (by omega), List.append_assoc, List.getElem?_append_left (by omega), List.getElem?_take, if_pos h1]
    · by_cases h2 : j < o + vs.length
      · rw [if_pos ⟨by omega, h2⟩, List.append_assoc, List.getElem?_append_right (by omega), hl1, List.getElem?_append_left (by omega)]
      · rw [if_neg (by omega), List.getElem?_append_right (by simp; omega)]
        simp only [List.length_append, hl1, List.getElem?_drop]
        congr 1
        omega

/-- pointwise, as far as the abstract one goes -/
def PW (K : KC) (cs : List AV) (arr : Array Value) : Prop := cs.length ≤ arr.size ∧ ∀ (j : Nat) (a : AV) (v : Value), cs[j]? = some a → arr[j]? = some v → RV K a v

theorem PW.setRange {cs cs' vs : List AV} {o : Nat} (h : setRange cs o vs = some cs') {arr arr' : Array Value} {lv : List Value} (hp : PW K cs arr) (hl : RL K vs lv) (hs : arr'.size = arr.size)
    (ha : ∀ j, arr'[j]? = if o ≤ j ∧ j < o + lv.length then lv[j - o]? else arr[j]?) : PW K cs' arr' := by
  obtain ⟨h1, h2, h3⟩ := setRange_spec h
  refine ⟨by rw [h2, hs]; exact hp.1, fun j a v e e' => ?_⟩
  rw [h3] at e
  rw [ha, hl.len] at e'
  split at e
  · rename_i hc; rw [if_pos hc] at e'; exact hl.at_ _ a v e e'
  · rename_i hc; rw [if_neg hc] at e'; exact hp.2 j a v e e'

theorem fold_set (o : Nat) : ∀ (l : List Value) (k : Nat) (cs : Array Value), o + k + l.length ≤ cs.size →
    ((l.zipIdx k).foldl (fun cs p => cs.setIfInBounds (o + p.2) p.1) cs).size = cs.size ∧
    ∀ j, ((l.zipIdx k).foldl (fun cs p => cs.setIfInBounds (o + p.2) p.1) cs)[j]? = if o + k ≤ j ∧ j < o + k + l.length then l[j - (o + k)]? else cs[j]?
  | [], k, cs, h => ⟨rfl, fun j => by simp; intro h1 h2; omega⟩
  | x :: l, k, cs, h => by
    simp only [List.zipIdx_cons, List.foldl_cons]
    simp only [List.length_cons] at h
    obtain ⟨h1, h2⟩ := fold_set o l (k + 1) (cs.setIfInBounds (o + k) x) (by rw [Array.size_setIfInBounds]; omega)
    refine ⟨by rw [h1]; simp, fun j => ?_⟩
    rw [h2]
    by_cases e : j = o + k
    · subst e
      rw [if_neg (by omega), if_pos ⟨by omega, by simp⟩]
      have hlt : o + k < cs.size := by omega
      simp [hlt]
    · by_cases e1 : o + (k + 1) ≤ j ∧ j < o + (k + 1) + l.length
      · rw [if_pos e1, if_pos (by simp; omega)]
        have : j - (o + k) = (j - (o + (k + 1))) + 1 := by omega
        rw [this, List.getElem?_cons_succ]
      · rw [if_neg e1, if_neg (by simp; omega), Array.getElem?_setIfInBounds_ne (by omega)]

theorem fill_ok (place place' : Nat → Option (Nat × Nat)) (hp : ∀ i x, place i = some x → place' i = some x) : ∀ (parts : List (Nat × AV)) (parts' : List (Nat × Value)) (cs cs' : List AV) (arr : Array Value),
    fill place cs parts = some cs' → parts'.map (·.1) = parts.map (·.1) → RL K (parts.map (·.2)) (parts'.map (·.2)) → PW K cs arr → cs.length = arr.size →
    ∃ arr', Instr.fill place' arr parts' = some arr' ∧ PW K cs' arr' ∧ cs'.length = arr'.size
  | [], parts', cs, cs', arr, h, h1, h2, h3, h4 => by
    have : parts' = [] := by simpa using h1
    subst this
    simp [fill] at h
    subst h
    exact ⟨arr, rfl, h3, h4⟩
  | (i, v) :: rest, parts', cs, cs', arr, h, h1, h2, h3, h4 => by
    cases parts' with
    | nil => simp at h1
    | cons p parts' =>
      obtain ⟨i', v'⟩ := p
      simp only [List.map_cons, List.cons.injEq] at h1
      obtain ⟨rfl, h1⟩ := h1
      obtain ⟨v1, vs1, e1, hv, hvs⟩ := RL.cons_inv h2
      simp only [List.map_cons, List.cons.injEq] at e1
      obtain ⟨rfl, rfl⟩ := e1
      simp only [fill] at h
      cases hpl : place i' with
      | none => simp [hpl] at h
      | some x =>
        obtain ⟨o, n⟩ := x
        simp only [hpl] at h
        cases hb : (v.cells.length.beq n && allOne v.cells) with
        | false => simp [hb] at h
        | true =>
          simp only [hb, cond_true] at h
          cases hs : setRange cs o v.cells with
          | none => simp [hs] at h
          | some cs1 =>
            simp only [hs] at h
            obtain ⟨g1, g2, g3⟩ := setRange_spec hs
            have hl := hv.cells
            have hn := beq_of (Bool.and_eq_true_iff.1 hb).1
            have hsz : v'.cells.size = n := by have := hl.len; simp at this; omega
            obtain ⟨f1, f2⟩ := fold_set o v'.cells.toList 0 arr (by simp; omega)
            have hPW := PW.setRange (arr' := (v'.cells.toList.zipIdx 0).foldl (fun cs p => cs.setIfInBounds (o + p.2) p.1) arr) hs h3 hl f1 (fun j => by simpa using f2 j)
            obtain ⟨arr', k1, k2, k3⟩ := fill_ok place place' hp rest parts' cs1 cs' _ h h1 hvs hPW (by rw [g2, h4]; exact f1.symm)
            refine ⟨arr', ?_, k2, k3⟩
            rw [← k1]
            simp only [Instr.fill, hp _ _ hpl]
            have g4 : v'.cells.toList.length = v.cells.length := hl.len
            simp only [Array.length_toList] at g4
            have g5 := h4
            rw [if_neg (by simp only [Bool.or_eq_true, decide_eq_true_eq]; omega)]
            congr 1
            rw [← Array.foldl_toList]
            simp [Array.toList_zipIdx]

theorem PW.toRL {cs : List AV} {arr : Array Value} (h : PW K cs arr) (hl : cs.length = arr.size) : RL K cs arr.toList :=
  ⟨by simp [hl], fun j a v e e' => h.2 j a v e (by simpa using e')⟩
theorem RL.toPW {cs : List AV} {arr : Array Value} (h : RL K cs arr.toList) : PW K cs arr ∧ cs.length = arr.size := by
  have := h.len
  simp at this
  exact ⟨⟨by omega, fun j a v e e' => h.at_ j a v e (by simpa using e')⟩, this.symm⟩

theorem CxOk.zcells (ok : CxOk X P) {t : Nat} {z : List AV} (h : X.zero t = some z) (K : KC) : ∃ i v, P.info? t = some i ∧ i.zero = some v ∧ RL K z v.cells.toList := by
  obtain ⟨i, v, a, h1, h2, h3, h4, _⟩ := ok.zero t z h
  refine ⟨i, v, h1, h2, ?_⟩
  rw [← h4]
  exact (ofV_spec h3).cells

theorem build_ok (ok : CxOk X P) {t : Nat} {parts : List (Nat × AV)} {b : AV} {parts' : Array (Nat × Value)} (h : build X t parts = some b)
    (h1 : parts'.toList.map (·.1) = parts.map (·.1)) (h2 : RL K (parts.map (·.2)) (parts'.toList.map (·.2))) : PureOk P K (Instr.build t parts') b := by
  unfold build at h
  cases hz : X.zero t with
  | none => simp [hz] at h
  | some z =>
    obtain ⟨i, zv, hi, hzi, hzl⟩ := ok.zcells hz K
    obtain ⟨hz1, hz2⟩ := hzl.toPW
    simp only [hz] at h
    cases hu : X.und t with
    | none => simp [hu] at h
    | some d =>
      cases d <;> simp only [hu] at h <;> try (cases h; done)
      case array len e =>
        cases hs : X.size e with
        | none => simp [hs] at h
        | some n =>
          simp only [hs] at h
          obtain ⟨cs, hf, rfl⟩ := Option.map_eq_some_iff.1 h
          obtain ⟨ie, hie, hn⟩ := ok.size e n hs
          obtain ⟨arr', g1, g2, g3⟩ := fill_ok (K := K) _ (fun i => some (i * n, n)) (fun _ _ h => h) parts parts'.toList z cs zv.cells hf h1 h2 hz1 hz2
          refine ⟨.agg arr', fun w => run_build w t parts' arr' ?_, ?_⟩
          · simp [Program.built, hi, ok.und _ _ hu, hzi, hie, hn, g1]
          · simpa using (g2.toRL g3).agg
      case struct fs =>
        obtain ⟨cs, hf, rfl⟩ := Option.map_eq_some_iff.1 h
        have hall : ∃ places : List (Nat × Nat), fs.toList.mapM (fun f => (P.info? f.type).map fun i => (f.offset, i.size)) = some places ∧
            ∀ (i : Nat) (x : Nat × Nat), (match fs.toList[i]? with | some (f : Field) => (match X.size f.type with | some n => some (f.offset, n) | none => none) | none => none) = some x → places[i]? = some x := by
          have hfs := ok.fields t fs hu
          generalize fs.toList = l at hfs
          induction l with
          | nil => exact ⟨[], rfl, fun i x h => by simp at h⟩
          | cons f l ih =>
            obtain ⟨places, p1, p2⟩ := ih (fun f' hf' => hfs f' (List.mem_cons_of_mem _ hf'))
            obtain ⟨n, hn⟩ := hfs f (List.mem_cons_self ..)
            obtain ⟨ie, hie, hne⟩ := ok.size _ _ hn
            refine ⟨(f.offset, n) :: places, by simp [List.mapM_cons, hie, hne, p1], fun i x h => ?_⟩
            cases i with
            | zero => simp [hn] at h; subst h; rfl
            | succ i => simp only [List.getElem?_cons_succ] at h ⊢; exact p2 i x h
        obtain ⟨places, p1, p2⟩ := hall
        obtain ⟨arr', g1, g2, g3⟩ := fill_ok (K := K) _ (places.toArray[·]?) (fun i x hx => by simpa using p2 i x hx) parts parts'.toList z cs zv.cells hf h1 h2 hz1 hz2
        refine ⟨.agg arr', fun w => run_build w t parts' arr' ?_, ?_⟩
        · simp only [Program.built, hi, ok.und _ _ hu, hzi, p1, g1]
        · simpa using (g2.toRL g3).agg

end
end Go.Aes
