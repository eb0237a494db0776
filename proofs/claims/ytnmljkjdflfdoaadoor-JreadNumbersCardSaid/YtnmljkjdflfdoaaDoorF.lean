import Derived.Test.YtnmljkjdflfdoaaDoorW
set_option linter.all false
set_option linter.unusedVariables false
set_option linter.unusedSimpArgs false
namespace Go.Aes
open Go.RowKit

def KC.putF (K : KC) (b e : Nat) (vs : List Value) : KC :=
  { K with F := fun b' o => if b' = b ∧ e ≤ o ∧ o < e + vs.length then vs[o - e]? else K.F b' o }
def KC.setτ (K : KC) (t : Nat) (x : Nat × Nat × Nat × Nat) : KC := { K with τ := fun j => if j = t then some x else K.τ j }

section
variable {B : Nat} {W w w' : World} {K K' : KC} {H H' : AH}

theorem KC.le_putF {b e : Nat} {vs : List Value} (h : ∀ o, e ≤ o → K.F b o = none) : K.le (K.putF b e vs) := by
  refine ⟨fun b' o v hf => ?_, fun _ _ h => h, fun _ _ h => h, rfl⟩
  show (if b' = b ∧ e ≤ o ∧ o < e + vs.length then vs[o - e]? else K.F b' o) = some v
  rw [if_neg]
  · exact hf
  · rintro ⟨rfl, h1, _⟩
    rw [h o h1] at hf
    cases hf

theorem KC.le_setτ {t : Nat} {x : Nat × Nat × Nat × Nat} (h : K.τ t = none) : K.le (K.setτ t x) := by
  refine ⟨fun _ _ _ h => h, fun _ _ h => h, fun j y hj => ?_, rfl⟩
  show (if j = t then some x else K.τ j) = some y
  rw [if_neg (fun e => by subst e; rw [h] at hj; cases hj)]; exact hj

theorem KC.putF_at {b e j : Nat} {vs : List Value} {v : Value} (h : vs[j]? = some v) : (K.putF b e vs).F b (e + j) = some v := by
  have hj : j < vs.length := by
    rcases Nat.lt_or_ge j vs.length with h' | h'
    · exact h'
    · simp [List.getElem?_eq_none h'] at h
  show (if b = b ∧ e ≤ e + j ∧ e + j < e + vs.length then vs[e + j - e]? else K.F b (e + j)) = some v
  rw [if_pos ⟨rfl, by omega, by omega⟩, show e + j - e = j by omega]
  exact h

/-- what is put lies in a new block -/
theorem KC.putF_zz {b e : Nat} {vs : List Value} (hb : B ≤ b) (h : ∀ b o v, K.F b o = some v → B ≤ b ∨ K.Z b o) : ∀ b' o v, (K.putF b e vs).F b' o = some v → B ≤ b' ∨ K.Z b' o := by
  intro b' o v hf
  have hf' : (if b' = b ∧ e ≤ o ∧ o < e + vs.length then vs[o - e]? else K.F b' o) = some v := hf
  split at hf'
  · rename_i hc; left; rw [hc.1]; exact hb
  · exact h b' o v hf'

theorem RW.noF (h : RW B W K H w) (o : Nat) : K.F w.heap.size o = none := by
  cases hf : K.F w.heap.size o with
  | none => rfl
  | some v => have := h.F_lt hf; omega

/-- a new block whose first cells nobody writes any more -/
theorem RW.frozen (h : RW B W K H w) (arr : Array Value) (ty : Nat) (fz : Nat × Nat) (vs : List Value) (hv : ∀ (j : Nat) (v : Value), vs[j]? = some v → arr[j]? = some v) :
    RW B W (K.putF w.heap.size 0 vs) H (w.alloc (.cells arr ty fz)) := by
  have le := KC.le_putF (K := K) (b := w.heap.size) (e := 0) (vs := vs) (fun o _ => h.noF o)
  have hB : B ≤ w.heap.size := Nat.le_trans h.le h.below.size
  have hown : ∀ j, own (K.putF w.heap.size 0 vs) H j = own K H j := fun j => rfl
  refine ⟨h.below.alloc hB _, h.le, ?_, ?_, ?_, ?_, h.fresh, KC.putF_zz hB h.zz⟩
  · intro b o v hf
    by_cases hc : b = w.heap.size ∧ 0 ≤ o ∧ o < 0 + vs.length
    · have e : (K.putF w.heap.size 0 vs).F b o = vs[o - 0]? := if_pos hc
      rw [e] at hf
      rw [hc.1]
      have := hv _ _ hf
      simp only [Nat.sub_zero] at this
      show (match (w.heap.push (.cells arr ty fz))[w.heap.size]? with | some (.cells c _ _) => if (none : Option Nat).isSome then none else c[o]? | _ => none) = some v
      simpa using this
    · have e : (K.putF w.heap.size 0 vs).F b o = K.F b o := if_neg hc
      rw [e] at hf
      exact cell_alloc (h.fr b o v hf)
  · intro j o hg
    refine (h.obj j o hg).keep le rfl rfl (fun b hb => ?_)
    have hlt := (h.low j b (own_of hg hb)).2
    refine ⟨heap_alloc w _ b hlt, fun o' => if_neg (fun hc => by have := hc.1; omega)⟩
  · intro j b hb
    rw [hown] at hb
    rw [World.size_alloc]
    exact ⟨(h.low j b hb).1, by have := (h.low j b hb).2; omega⟩
  · intro j k b hj hk
    rw [hown] at hj hk
    exact h.sep j k b hj hk

/-- the same, and what lies behind is a token's -/
theorem RW.tokNew (h : RW B W K H w) {t : Nat} (hn : H.new .tok = some (t, H')) (arr : Array Value) (ty : Nat) (fz : Nat × Nat) (vs : List Value) (z sz : Nat)
    (hv : ∀ (j : Nat) (v : Value), vs[j]? = some v → arr[j]? = some v) (h1 : z ≤ arr.size) (h2 : vs.length ≤ z) (h3 : 0 < sz)
    (hz : ∀ o, vs.length ≤ o → o < z → (fz.1 ≤ o && o < fz.2) = false) :
    RW B W ((K.putF w.heap.size 0 vs).setτ t (w.heap.size, vs.length, z, sz)) H' (w.alloc (.cells arr ty fz)) ∧
      Fits K H ((K.putF w.heap.size 0 vs).setτ t (w.heap.size, vs.length, z, sz)) H' := by
  obtain ⟨hw1, fit1, hgt, hm, hτ, htlt⟩ := h.vnew hn
  have hw2 := hw1.frozen arr ty fz vs hv
  have hnt : t = H.nx := (AH.new_spec hn).1
  have le1 := KC.le_putF (K := K) (b := w.heap.size) (e := 0) (vs := vs) (fun o _ => h.noF o)
  have le2 := KC.le_setτ (K := K.putF w.heap.size 0 vs) (t := t) (x := (w.heap.size, vs.length, z, sz)) hτ
  have hB : B ≤ w.heap.size := Nat.le_trans h.le h.below.size
  have ownne : ∀ j, j ≠ t → own ((K.putF w.heap.size 0 vs).setτ t (w.heap.size, vs.length, z, sz)) H' j = own K H' j := by
    intro j hj
    unfold own
    simp [KC.setτ, KC.putF, hj]
  have ownt : own ((K.putF w.heap.size 0 vs).setτ t (w.heap.size, vs.length, z, sz)) H' t = some w.heap.size := own_of hgt (by simp [plc, KC.setτ])
  refine ⟨⟨hw2.below, h.le, hw2.fr, ?_, ?_, ?_, ?_, hw2.zz⟩, ⟨le1.trans le2, fit1.nx, fun i hi => ⟨rfl, ?_⟩⟩⟩
  · intro j o hg
    by_cases e : j = t
    · subst e
      rw [hgt] at hg
      injection hg with hg
      subst hg
      intro b e' z' n' hx
      simp [KC.setτ] at hx
      obtain ⟨rfl, rfl, rfl, rfl⟩ := hx
      refine ⟨arr, ty, fz, by show (w.heap.push _)[w.heap.size]? = _; simp, h1, h2, h3, hz, fun o ho => ?_⟩
      have : ((K.putF w.heap.size 0 vs).setτ j (w.heap.size, vs.length, z, sz)).F w.heap.size o = K.F w.heap.size o := if_neg (by omega)
      rw [this]; exact h.noF o
    · refine (hw2.obj j o hg).keep le2 rfl (by simp [KC.setτ, e]) (fun b hb => ⟨rfl, fun _ => rfl⟩)
  · intro j b hb
    by_cases e : j = t
    · subst e; rw [ownt] at hb; injection hb with hb; subst hb; rw [World.size_alloc]; exact ⟨hB, by omega⟩
    · rw [ownne j e] at hb; exact hw2.low j b hb
  · intro j k b hj hk
    by_cases e : j = t
    · by_cases e' : k = t
      · rw [e, e']
      · exfalso
        subst e; rw [ownt] at hj; injection hj with hj
        rw [ownne k e'] at hk
        have := (hw1.low k b hk).2; omega
    · by_cases e' : k = t
      · exfalso
        subst e'; rw [ownt] at hk; injection hk with hk
        rw [ownne j e] at hj
        have := (hw1.low j b hj).2; omega
      · rw [ownne j e] at hj; rw [ownne k e'] at hk
        exact hw1.sep j k b hj hk
  · intro i hi
    have := hw2.fresh i hi
    refine ⟨this.1, ?_⟩
    show (if i = t then _ else _) = none
    rw [if_neg (by omega)]; exact this.2
  · show (if i = t then _ else _) = _
    rw [if_neg (by omega)]; rfl

/-- a token spent, its block's next cells written, a token for what is left -/
theorem RW.tokIn (h : RW B W K H w) {t t' : Nat} {b e z n : Nat} (hg : H.get t = some .tok) (hτ : K.τ t = some (b, e, z, n)) (htl : H.okI t = true)
    (hn : (H.set t none).new .tok = some (t', H')) (arr arr' : Array Value) (ty : Nat) (fz : Nat × Nat) (vs : List Value) (hb : w.heap[b]? = some (.cells arr ty fz))
    (hlen : e + vs.length ≤ z) (hs : arr'.size = arr.size)
    (ha : ∀ (j : Nat), arr'[j]? = if e ≤ j ∧ j < e + vs.length then vs[j - e]? else arr[j]?) :
    RW B W ((K.putF b e vs).setτ t' (b, e + vs.length, z, n)) H' { w with heap := w.heap.setIfInBounds b (.cells arr' ty fz) } ∧
      Fits K H ((K.putF b e vs).setτ t' (b, e + vs.length, z, n)) H' := by
  obtain ⟨arr0, ty0, fz0, g1, g2, g3, g4, g5, g6⟩ := h.obj t .tok hg b e z n hτ
  rw [hb] at g1
  injection g1 with g1; injection g1 with g1a g1b g1c
  subst g1a; subst g1b; subst g1c
  obtain ⟨hnt, hnx', hlt', hget'⟩ := AH.new_spec hn
  have hnx0 : (H.set t none).nx = H.nx := AH.nx_set H t none
  rw [hnx0] at hnt hnx'
  have hget : ∀ j, H'.get j = if j = t' then some .tok else if j = t then none else H.get j := fun j => by
    rw [hget', AH.get_set H t j none htl]
  have ft := h.fresh t' (by omega)
  have htt : t ≠ t' := fun e1 => by rw [e1] at hτ; rw [ft.2] at hτ; cases hτ
  have hownt : own K H t = some b := own_of hg (by simp [plc, hτ])
  obtain ⟨hlo, hhi⟩ := h.low t b hownt
  have le1 := KC.le_putF (K := K) (b := b) (e := e) (vs := vs) g6
  have le2 := KC.le_setτ (K := K.putF b e vs) (t := t') (x := (b, e + vs.length, z, n)) ft.2
  have hblk : ∀ k, k ≠ b → (w.heap.setIfInBounds b (.cells arr' ty fz))[k]? = w.heap[k]? := fun k hk => by
    rw [Array.getElem?_setIfInBounds_ne (Ne.symm hk)]
  have hblkb : (w.heap.setIfInBounds b (.cells arr' ty fz))[b]? = some (.cells arr' ty fz) := by
    rw [Array.getElem?_setIfInBounds_self_of_lt hhi]
  have ownne : ∀ j, j ≠ t' → j ≠ t → own ((K.putF b e vs).setτ t' (b, e + vs.length, z, n)) H' j = own K H j := by
    intro j hj hj'
    unfold own
    rw [hget, if_neg hj, if_neg hj']
    simp [KC.setτ, KC.putF, hj]
  have ownt' : own ((K.putF b e vs).setτ t' (b, e + vs.length, z, n)) H' t' = some b := own_of (o := .tok) (by rw [hget, if_pos rfl]) (by simp [plc, KC.setτ])
  have ownt0 : own ((K.putF b e vs).setτ t' (b, e + vs.length, z, n)) H' t = none := by
    unfold own; rw [hget, if_neg htt, if_pos rfl]
  refine ⟨⟨h.below.trans ⟨rfl, rfl, rfl, by simp, fun k hk => hblk k (by omega)⟩, h.le, ?_, ?_, ?_, ?_, ?_, KC.putF_zz hlo h.zz⟩, ⟨le1.trans le2, by omega, fun i hi => ⟨rfl, ?_⟩⟩⟩
  · intro b' o v hf
    have hf' : (if b' = b ∧ e ≤ o ∧ o < e + vs.length then vs[o - e]? else K.F b' o) = some v := hf
    by_cases hbb : b' = b
    · subst hbb
      have hcell : World.cell? { w with heap := w.heap.setIfInBounds b' (.cells arr' ty fz) } ⟨b', o, none⟩ = arr'[o]? := by
        show (match (w.heap.setIfInBounds b' (.cells arr' ty fz))[b']? with | some (.cells c _ _) => if (none : Option Nat).isSome then none else c[o]? | _ => none) = _
        rw [hblkb]; rfl
      rw [hcell, ha]
      by_cases hc : e ≤ o ∧ o < e + vs.length
      · rw [if_pos ⟨rfl, hc⟩] at hf'; rw [if_pos hc]; exact hf'
      · rw [if_neg (fun x => hc x.2)] at hf'
        rw [if_neg hc]
        have := h.fr b' o v hf'
        rw [cell_of_row w b' o arr ty fz hb] at this
        exact this
    · rw [if_neg (fun x => hbb x.1)] at hf'
      have := h.fr b' o v hf'
      rw [← this]
      exact World.cell?_of_block (hblk b' hbb)
  · intro j o hg'
    rw [hget] at hg'
    by_cases e1 : j = t'
    · subst e1
      rw [if_pos rfl] at hg'
      injection hg' with hg'
      subst hg'
      intro b2 e2 z2 n2 hx
      simp [KC.setτ] at hx
      obtain ⟨rfl, rfl, rfl, rfl⟩ := hx
      refine ⟨arr', ty, fz, hblkb, by omega, hlen, g4, fun o ho ho' => g5 o (by omega) ho', fun o ho => ?_⟩
      have : ((K.putF b e vs).setτ j (b, e + vs.length, z, n)).F b o = K.F b o := if_neg (by omega)
      rw [this]; exact g6 o (by omega)
    · rw [if_neg e1] at hg'
      by_cases e2 : j = t
      · rw [if_pos e2] at hg'; cases hg'
      · rw [if_neg e2] at hg'
        refine (h.obj j o hg').keep (le1.trans le2) rfl (by simp [KC.setτ, KC.putF, e1]) (fun b2 hb2 => ?_)
        have hne : b2 ≠ b := fun e3 => by subst e3; exact e2 (h.sep j t b2 (own_of hg' hb2) hownt)
        exact ⟨hblk b2 hne, fun o' => if_neg (fun hc => hne hc.1)⟩
  · intro j b2 hb2
    show B ≤ b2 ∧ b2 < (w.heap.setIfInBounds b _).size
    rw [Array.size_setIfInBounds]
    by_cases e1 : j = t'
    · subst e1; rw [ownt'] at hb2; injection hb2 with hb2; subst hb2; exact ⟨hlo, hhi⟩
    · by_cases e2 : j = t
      · subst e2; rw [ownt0] at hb2; cases hb2
      · rw [ownne j e1 e2] at hb2; exact h.low j b2 hb2
  · intro j k b2 hj hk
    by_cases e1 : j = t'
    · by_cases e2 : k = t'
      · rw [e1, e2]
      · exfalso
        subst e1; rw [ownt'] at hj; injection hj with hj; subst hj
        by_cases e3 : k = t
        · subst e3; rw [ownt0] at hk; cases hk
        · rw [ownne k e2 e3] at hk; exact e3 (h.sep k t b hk hownt)
    · by_cases e2 : k = t'
      · exfalso
        subst e2; rw [ownt'] at hk; injection hk with hk; subst hk
        by_cases e3 : j = t
        · subst e3; rw [ownt0] at hj; cases hj
        · rw [ownne j e1 e3] at hj; exact e3 (h.sep j t b hj hownt)
      · by_cases e3 : j = t
        · subst e3; rw [ownt0] at hj; cases hj
        · by_cases e4 : k = t
          · subst e4; rw [ownt0] at hk; cases hk
          · rw [ownne j e1 e3] at hj; rw [ownne k e2 e4] at hk; exact h.sep j k b2 hj hk
  · intro i hi
    have := h.fresh i (by omega)
    refine ⟨this.1, ?_⟩
    show (if i = t' then _ else _) = none
    rw [if_neg (by omega)]; exact this.2
  · show (if i = t' then _ else _) = _
    rw [if_neg (by omega)]; rfl

/-- a token spent for nothing: its slice lies anew -/
theorem RW.kill (h : RW B W K H w) {t : Nat} (htl : H.okI t = true) : RW B W K (H.set t none) w := by
  have hget : ∀ j, (H.set t none).get j = if j = t then none else H.get j := fun j => AH.get_set H t j none htl
  have hown : ∀ j, own K (H.set t none) j = if j = t then none else own K H j := by
    intro j; unfold own; rw [hget]; by_cases e : j = t
    · rw [if_pos e, if_pos e]
    · rw [if_neg e, if_neg e]
  refine ⟨h.below, h.le, h.fr, ?_, ?_, ?_, by rw [AH.nx_set]; exact h.fresh, h.zz⟩
  · intro j o hg
    rw [hget] at hg
    split at hg
    · cases hg
    · exact h.obj j o hg
  · intro j b hb
    rw [hown] at hb
    split at hb
    · cases hb
    · exact h.low j b hb
  · intro j k b hj hk
    rw [hown] at hj hk
    split at hj
    · cases hj
    · split at hk
      · cases hk
      · exact h.sep j k b hj hk

end
end Go.Aes
