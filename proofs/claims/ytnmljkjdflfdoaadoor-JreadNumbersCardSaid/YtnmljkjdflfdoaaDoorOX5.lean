import Derived.Test.YtnmljkjdflfdoaaDoorOX4
set_option linter.all false
set_option linter.unusedVariables false
set_option linter.unusedSimpArgs false
namespace Go.Aes
open Go.RowKit

/-! ### a list in the heap that nobody will write any more: held in the hand from now on -/
def frz1 (v : AV) (H : AH) : AV × AH :=
  match v with
  | .hsl i o n c sz g => bif g && o.beq 0 && !sz.beq 0 then (match H.get i with
      | some ob => (match ob with
        | .cells cs => bif (n * sz).ble cs.length && H.okI i then (.sl (rowsOf sz n cs) .dead, H.set i none) else (.hsl i o n c sz g, H)
        | _ => (.hsl i o n c sz g, H))
      | none => (.hsl i o n c sz g, H)) else (.hsl i o n c sz g, H)
  | v => (v, H)
def frzL : List AV → AH → List AV × AH
  | [], H => ([], H)
  | v :: r, H => ((frz1 v H).1 :: (frzL r (frz1 v H).2).1, (frzL r (frz1 v H).2).2)
def frzR : Res → Res
  | .val v H => (match v with
    | .agg cs => .val (.agg (frzL cs H).1) (frzL cs H).2
    | v => .val v H)
  | r => r

theorem rowsOf_spec (sz : Nat) : ∀ (k : Nat) (cs : List AV), k * sz ≤ cs.length → (∀ x, x ∈ rowsOf sz k cs → x.length = sz) ∧ (rowsOf sz k cs).length = k ∧
    ∀ (i : Nat) (r : List AV) (j : Nat) (a : AV), (rowsOf sz k cs)[i]? = some r → r[j]? = some a → cs[i * sz + j]? = some a
  | 0, cs, h => ⟨fun x hx => by simp [rowsOf] at hx, rfl, fun i r j a e => by simp [rowsOf] at e⟩
  | k + 1, cs, h => by
    rw [Nat.add_mul] at h
    obtain ⟨h1, h2, h3⟩ := rowsOf_spec sz k (cs.drop sz) (by simp; omega)
    refine ⟨fun x hx => ?_, by simp [rowsOf, h2], fun i r j a e e' => ?_⟩
    · simp only [rowsOf, List.mem_cons] at hx
      rcases hx with rfl | hx
      · simp; omega
      · exact h1 x hx
    · cases i with
      | zero =>
        simp only [rowsOf, List.getElem?_cons_zero, Option.some.injEq] at e
        subst e
        rw [List.getElem?_take] at e'
        split at e'
        · simpa using e'
        · cases e'
      | succ i =>
        simp only [rowsOf, List.getElem?_cons_succ] at e
        have := h3 i r j a e e'
        rw [List.getElem?_drop] at this
        rw [← this]
        congr 1
        rw [Nat.add_mul]
        omega

theorem KC.putF_ne {K : KC} {b e b' o : Nat} {vs : List Value} (h : b' ≠ b) : (K.putF b e vs).F b' o = K.F b' o := by
  simp [KC.putF, h]
theorem KC.putF_inv {K : KC} {b o : Nat} {vs : List Value} {v : Value} (h : (K.putF b 0 vs).F b o = some v) : K.F b o = some v ∨ ∃ m, (⟨b, o, none⟩ : Addr) = ⟨b, 0 + m, none⟩ ∧ vs[m]? = some v := by
  simp only [KC.putF, true_and] at h
  split at h
  · exact .inr ⟨o, by rw [Nat.zero_add], by simpa using h⟩
  · exact .inl h

section
variable {B : Nat} {W w : World} {K : KC} {H : AH}

theorem frz1_ok (hw : RW B W K H w) {v : AV} {v' : Value} (hv : RV K v v') : ∃ K', RV K' (frz1 v H).1 v' ∧ RW B W K' (frz1 v H).2 w ∧ Fits K H K' (frz1 v H).2 := by
  have same : ∃ K', RV K' v v' ∧ RW B W K' H w ∧ Fits K H K' H := ⟨K, hv, hw, .refl K H⟩
  cases v with
  | hsl i o n c sz g =>
    unfold frz1
    simp only []
    cases hb : (g && o.beq 0 && !sz.beq 0) with
    | false => exact same
    | true =>
    simp only [cond_true]
    cases hg : H.get i with
    | none => exact same
    | some ob =>
    cases ob with
    | cells cs =>
      simp only []
      cases hc : ((n * sz).ble cs.length && H.okI i) with
      | false => exact same
      | true =>
        simp only [cond_true]
        simp only [Bool.and_eq_true, Nat.beq_eq, Bool.not_eq_true', Nat.ble_eq] at hb hc
        obtain ⟨⟨rfl, rfl⟩, hsz⟩ := hb
        have hsz0 : 0 < sz := by
          cases sz with
          | zero => simp at hsz
          | succ k => omega
        obtain ⟨hle, hok⟩ := hc
        cases hv with
        | hsl i o o' n c c' b z sz g hm hn hc' hz ho =>
          have hrd := hw.reads hg hm
          obtain ⟨vs, hl, hcell⟩ := hrd.cells
          obtain ⟨arr, ty, k1, k2, k3, k4, k5⟩ := hw.obj i _ hg b z hm
          have le := KC.le_putF (K := K) (b := b) (e := 0) (vs := vs) (fun o _ => k5 o)
          have hown : own K H i = some b := own_of hg (by simp [plc, hm])
          have hget : ∀ j, (H.set i none).get j = if j = i then none else H.get j := fun j => AH.get_set H i j none hok
          obtain ⟨r1, r2, r3⟩ := rowsOf_spec sz n cs hle
          have hFb : ∀ b' o', b' ≠ b → (K.putF b 0 vs).F b' o' = K.F b' o' := by
            intro b' o' hne
            cases hk : (K.putF b 0 vs).F b' o' with
            | none =>
              cases hk2 : K.F b' o' with
              | none => rfl
              | some x => rw [le.F _ _ _ hk2] at hk; cases hk
            | some x =>
              have := KC.putF_ne (K := K) (e := 0) (vs := vs) (o := o') hne
              rw [← hk, this]
          have ownset : ∀ j, j ≠ i → own (K.putF b 0 vs) (H.set i none) j = own K H j := by
            intro j hj
            unfold own
            rw [hget, if_neg hj]
            rfl
          have owni : own (K.putF b 0 vs) (H.set i none) i = none := by
            unfold own
            rw [hget, if_pos rfl]
          refine ⟨K.putF b 0 vs, ?_, ?_, ⟨le, by rw [AH.nx_set]; exact Nat.le_refl _, fun _ _ => ⟨rfl, rfl⟩⟩⟩
          · rcases Nat.eq_zero_or_pos c' with h0 | h0
            · subst h0
              have hn0 : n = 0 := by omega
              subst hn0
              exact .slE _ _ (.inl rfl)
            · have ho' : o' = 0 := ho.resolve_right (by omega)
              subst ho'
              have := RV.sl (K := K.putF b 0 vs) (rowsOf sz n cs) .dead b 0 c' sz (fun k => vs.getD k Go.undef) hsz0 r1 (fun i' r j a e e' => ?_) (fun i' r j a e e' => ?_) (by rw [r2]; omega) trivial
              · rw [r2] at this; exact this
              · obtain ⟨x, x1, x2⟩ := hl.get (r3 i' r j a e e')
                have y := KC.putF_at (K := K) (b := b) (e := 0) x1
                rw [List.getD_eq_getElem?_getD, x1]
                rw [show 0 + i' * sz + j = 0 + (i' * sz + j) by omega]
                exact y
              · obtain ⟨x, x1, x2⟩ := hl.get (r3 i' r j a e e')
                rw [List.getD_eq_getElem?_getD, x1]
                exact x2.mono le
          · refine { below := hw.below, le := hw.le, fr := fun b' o'' x hf => ?_, obj := fun j oj hj => ?_, low := fun j b' hb' => ?_, sep := fun j k b' hj hk => ?_, fresh := fun j hj => hw.fresh j (by rw [AH.nx_set] at hj; exact hj), zz := fun b' o'' x hf => ?_ }
            · by_cases hbb : b' = b
              · subst hbb
                rcases KC.putF_inv hf with h1 | ⟨m, h1, h2⟩
                · exact hw.fr _ _ _ h1
                · have := hcell m x h2
                  rw [h1]
                  exact this
              · rw [hFb _ _ hbb] at hf
                exact hw.fr _ _ _ hf
            · rw [hget] at hj
              by_cases e : j = i
              · rw [if_pos e] at hj; cases hj
              · rw [if_neg e] at hj
                refine (hw.obj j oj hj).keep le rfl rfl (fun b' hb' => ⟨rfl, fun o'' => hFb b' o'' (fun hbb => ?_)⟩)
                subst hbb
                exact e (hw.sep j i b' (own_of hj hb') hown)
            · by_cases e : j = i
              · subst e; rw [owni] at hb'; cases hb'
              · rw [ownset j e] at hb'; exact hw.low j b' hb'
            · by_cases e : j = i
              · subst e; rw [owni] at hj; cases hj
              · by_cases e' : k = i
                · subst e'; rw [owni] at hk; cases hk
                · rw [ownset j e] at hj; rw [ownset k e'] at hk
                  exact hw.sep j k b' hj hk
            · by_cases hbb : b' = b
              · subst hbb
                exact .inl (hw.low i b' hown).1
              · rw [hFb _ _ hbb] at hf
                exact hw.zz b' o'' x hf
    | _ => exact same
  | _ => exact same

theorem frzL_ok : ∀ {l : List AV} {H : AH} {K : KC} {vs : List Value}, RW B W K H w → RL K l vs → ∃ K', RL K' (frzL l H).1 vs ∧ RW B W K' (frzL l H).2 w ∧ Fits K H K' (frzL l H).2
  | [], H, K, vs, hw, hl => ⟨K, hl, hw, .refl K H⟩
  | v :: r, H, K, vs, hw, hl => by
    obtain ⟨v', vs', rfl, h1, h2⟩ := hl.cons_inv
    obtain ⟨K1, g1, g2, g3⟩ := frz1_ok hw h1
    obtain ⟨K2, k1, k2, k3⟩ := frzL_ok g2 (h2.mono g3.le)
    exact ⟨K2, .cons (g1.mono k3.le) k1, k2, g3.trans k3⟩

theorem CPost_frz {r : Res} {e : Ending} (h : CPost B W K H r e w) : CPost B W K H (frzR r) e w := by
  cases r with
  | panic v H' => exact h
  | val v H' =>
    cases v with
    | agg cs =>
      cases e with
      | returned v' =>
        obtain ⟨K', h1, h2, h3⟩ := h
        obtain ⟨vs, rfl, hl⟩ := h1.agg_inv
        obtain ⟨K2, g1, g2, g3⟩ := frzL_ok h2 hl
        exact ⟨K2, g1.agg, g2, h3.trans g3⟩
      | panicked ch => exact h
      | outgrown => exact h
    | _ => exact h
end

/-- .. at what a function answers -/
def frzC (Z : Nat → Bool) (C : CallF) : CallF := fun g as H => bif Z g then (C g as H).map frzR else C g as H
theorem frzC_ok {P : Program} {B : Nat} {W : World} {Z : Nat → Bool} {C : CallF} (h : CallOk P B W C) : CallOk P B W (frzC Z C) := by
  refine ⟨fun g as H r hr => ?_, fun g as H r hr => ?_⟩
  all_goals
    unfold frzC at hr
    cases hz : Z g with
    | false =>
      rw [hz] at hr
      first
        | exact h.fn g as H r hr
        | exact h.call g as H r hr
    | true =>
      rw [hz] at hr
      obtain ⟨q, hq, rfl⟩ := Option.map_eq_some_iff.1 hr
      first
        | exact h.fn g as H q hq
        | exact fun K w vs hw hl => (h.call g as H q hq K w vs hw hl).mono fun e w' hp => CPost_frz hp
end Go.Aes
