import Derived.Test.YtgmifbbimcblcaaO15b
set_option linter.all false
set_option linter.unusedVariables false
set_option linter.unusedSimpArgs false
namespace Go.Aes
open Go.RowKit

def isNew : In → Bool
  | .new _ _ => true
  | _ => false

section
variable {X : Cx} {C : CallF} {f nt : Nat} {all : List Oper} {P : Program} {B : Nat} {W : World}

theorem exec_nonEff {n : In} {H H' : AH} {v : AV} (he : n.eff = false) (h : exec X C n H = some (.val v H')) :
    (∃ o wr id, n = .new o wr ∧ H.new o = some (id, H') ∧ v = wr.mk id) ∨
    (isNew n = false ∧ H' = H ∧ (rd X n H = some v ∨ ∀ H2, exec X C n H2 = some (.val v H2))) := by
  cases n <;> simp [In.eff] at he
  case val x =>
    simp [exec] at h
    obtain ⟨rfl, rfl⟩ := h
    exact .inr ⟨rfl, rfl, .inr fun H2 => rfl⟩
  case row rows sz =>
    simp [exec] at h
    obtain ⟨rfl, rfl⟩ := h
    exact .inr ⟨rfl, rfl, .inr fun H2 => rfl⟩
  case new o wr =>
    simp only [exec, v2] at h
    cases hn : H.new o with
    | none => simp [hn] at h
    | some p =>
      obtain ⟨id, H2⟩ := p
      simp [hn] at h
      obtain ⟨rfl, rfl⟩ := h
      exact .inl ⟨o, wr, id, rfl, hn, rfl⟩
  case load t a =>
    simp only [exec, v1] at h
    obtain ⟨x, h1, h2⟩ := Option.map_eq_some_iff.1 h
    simp at h2
    obtain ⟨rfl, rfl⟩ := h2
    exact .inr ⟨rfl, rfl, .inl h1⟩
  case look t m k c =>
    simp only [exec, v1] at h
    obtain ⟨x, h1, h2⟩ := Option.map_eq_some_iff.1 h
    simp at h2
    obtain ⟨rfl, rfl⟩ := h2
    exact .inr ⟨rfl, rfl, .inl h1⟩
  case mlen r =>
    simp only [exec] at h
    cases hg : H.get r with
    | none => simp [hg] at h
    | some ob =>
      cases ob <;> (try simp only [hg] at h) <;> (try (cases h; done))
      rename_i es
      simp at h
      obtain ⟨rfl, rfl⟩ := h
      exact .inr ⟨rfl, rfl, .inl (by simp [rd, hg])⟩
  case bstr x =>
    simp only [exec, v1] at h
    cases hs : isSl x with
    | false => simp [hs] at h
    | true =>
      simp only [hs, cond_true] at h
      obtain ⟨y, h1, h2⟩ := Option.map_eq_some_iff.1 h
      simp at h2
      obtain ⟨rfl, rfl⟩ := h2
      exact .inr ⟨rfl, rfl, .inl (by simp only [rd, hs, cond_true]; exact h1)⟩

theorem exec_rd {n : In} {H : AH} {v : AV} (h : rd X n H = some v) : exec X C n H = some (.val v H) := by
  cases n <;> simp only [rd] at h <;> (try (cases h; done)) <;> simp only [exec, v1]
  · rw [h]; rfl
  · rw [h]; rfl
  · rename_i r
    cases hg : H.get r with
    | none => simp [hg] at h
    | some ob =>
      cases ob <;> (try simp only [hg] at h) <;> (try (cases h; done))
      injection h with h
      subst h
      rfl
  · rename_i x
    cases hs : isSl x with
    | false => simp [hs] at h
    | true =>
      simp only [hs, cond_true] at h ⊢
      rw [h]; rfl

theorem rd_mono {n : In} {H H2 : AH} {v : AV} (hm : ∀ i o, H.get i = some o → H2.get i = some o) (h : rd X n H = some v) : rd X n H2 = some v := by
  have hload : ∀ {t a v}, loadAt X t a H = some v → loadAt X t a H2 = some v := by
    intro t a v h
    unfold loadAt at h ⊢
    cases ha : X.isAgg t with
    | none => simp [ha] at h
    | some ag =>
      cases hs : X.size t with
      | none => simp [ha, hs] at h
      | some n =>
        simp only [ha, hs] at h ⊢
        cases a <;> (try simp only [] at h ⊢) <;> (try (cases h; done)) <;> (try exact h)
        rename_i i o
        cases hg : H.get i with
        | none => simp [hg] at h
        | some ob => rw [hm i ob hg]; rw [hg] at h; exact h
  cases n <;> simp only [rd] at h <;> (try (cases h; done)) <;> simp only [rd]
  · exact hload h
  · rename_i t m k c
    unfold lookup at h ⊢
    cases hu : X.und t with
    | none => simp [hu] at h
    | some d =>
      cases d <;> (try simp only [hu] at h) <;> (try (cases h; done))
      rename_i kt e
      cases hk : X.und kt with
      | none => simp [hk] at h
      | some kd =>
        simp only [hu, hk] at h ⊢
        cases ht : keyTy kd k with
        | false => simp [ht] at h
        | true =>
          simp only [ht, Bool.not_true, cond_false] at h ⊢
          cases m <;> (try simp only [] at h) <;> (try (cases h; done))
          rename_i mr
          cases mr with
          | none => exact h
          | some r =>
            simp only [] at h ⊢
            cases hg : H.get r with
            | none => simp [hg] at h
            | some ob => rw [hm r ob hg]; rw [hg] at h; exact h
  · rename_i r
    cases hg : H.get r with
    | none => simp [hg] at h
    | some ob => rw [hm r ob hg]; rw [hg] at h; exact h
  · rename_i x
    cases hs : isSl x with
    | false => simp [hs] at h
    | true =>
      simp only [hs, cond_true] at h ⊢
      cases x <;> simp [isSl] at hs
      · exact h
      · rename_i i o k c sz g
        simp only [readRows] at h ⊢
        cases hb : sz.beq 1 with
        | false => simp [hb] at h
        | true =>
          simp only [hb, cond_true] at h ⊢
          cases hg : H.get i with
          | none => simp [hg] at h
          | some ob => rw [hm i ob hg]; rw [hg] at h; exact h

theorem rd_unlogged {n : In} {H H2 : AH} {v : AV} (hl : logged n = false) (h : rd X n H = some v) : rd X n H2 = some v := by
  cases n <;> simp only [rd] at h <;> (try (cases h; done)) <;> simp only [rd]
  · rename_i t a
    unfold loadAt at h ⊢
    cases ha : X.isAgg t with
    | none => simp [ha] at h
    | some ag =>
      cases hs : X.size t with
      | none => simp [ha, hs] at h
      | some n =>
        simp only [ha, hs] at h ⊢
        cases a <;> (try simp only [] at h ⊢) <;> (try (cases h; done)) <;> (try exact h)
        simp [logged] at hl
  · simp [logged] at hl
  · simp [logged] at hl
  · rename_i x
    cases x <;> first | (simp [logged] at hl; done) | (simp [isSl] at h; done) | exact h

/-! ### chains -/
theorem Chain.split {T1 T2 : List Evt} {s s' : St} (h : Chain (T1 ++ T2) s s') : ∃ m, Chain T1 s m ∧ Chain T2 m s' := by
  induction T1 generalizing s with
  | nil => exact ⟨s, rfl, h⟩
  | cons e r ih =>
    obtain ⟨h1, h2⟩ := h
    obtain ⟨m, g1, g2⟩ := ih h2
    exact ⟨m, ⟨h1, g1⟩, g2⟩

def hdH (T : List Evt) (s' : St) : AH :=
  match T with
  | [] => s'.H
  | e :: _ => e.s.H

theorem Chain.hd {T : List Evt} {s s' : St} (h : Chain T s s') : hdH T s' = s.H := by
  cases T with
  | nil => have h' : s = s' := h; subst h'; rfl
  | cons e r => rw [← h.1]; rfl

/-- a stretch that changes no memory but by what is new -/
theorem seg_mono : ∀ {T : List Evt} {s m : St}, Chain T s m → (∀ e, e ∈ T → Good X C f nt all e) → (∀ e, e ∈ T → e.eff = false) →
    (∀ i o, s.H.get i = some o → m.H.get i = some o) ∧ s.H.nx ≤ m.H.nx ∧ (∀ e n, e ∈ T → e.ran = some n → isNew n = true → s.H.nx ≤ e.s.H.nx ∧ e.s.H.nx < m.H.nx) ∧
    (∀ K w, RW B W K s.H w → RW B W K m.H w ∧ Fits K s.H K m.H) ∧ (∀ e, e ∈ T → s.H.nx ≤ e.s.H.nx ∧ (∀ i o, e.s.H.get i = some o → m.H.get i = some o) ∧ (∀ i o, e.H'.get i = some o → m.H.get i = some o))
  | [], s, m, h, hg, he => by
    have h' : s = m := h
    subst h'
    exact ⟨fun _ _ h => h, Nat.le_refl _, fun e n he => by simp at he, fun K w hw => ⟨hw, .refl K s.H⟩, fun e he => by simp at he⟩
  | e :: r, s, m, h, hg, he => by
    obtain ⟨h1, h2⟩ := h
    obtain ⟨i1, i2, i3, i4, i5⟩ := seg_mono h2 (fun x hx => hg x (List.mem_cons_of_mem _ hx)) (fun x hx => he x (List.mem_cons_of_mem _ hx))
    obtain ⟨_, hgood⟩ := hg e (by simp)
    have hef := he e (by simp)
    have one : (∀ i o, s.H.get i = some o → e.H'.get i = some o) ∧ s.H.nx ≤ e.H'.nx ∧ (∀ n, e.ran = some n → isNew n = true → s.H.nx < e.H'.nx) ∧ (∀ K w, RW B W K s.H w → RW B W K e.H' w ∧ Fits K s.H K e.H') := by
      rw [← h1]
      rcases hgood with ⟨g1, g2, g3, g4⟩ | ⟨n, g1, g2, g3, g4⟩
      · rw [g4]
        exact ⟨fun _ _ h => h, Nat.le_refl _, fun n hn _ => (by rw [g1] at hn; cases hn), fun K w hw => ⟨hw, .refl K _⟩⟩
      · have hne : n.eff = false := by simpa [Evt.eff, g1] using hef
        rcases exec_nonEff hne g4 with ⟨o, wr, id, rfl, hn, hv⟩ | ⟨q1, q2, _⟩
        · obtain ⟨a1, a2, a3, a4⟩ := AH.new_spec hn
          refine ⟨fun i o' hi => ?_, by omega, fun n' _ _ => by omega, fun K w hw => ?_⟩
          · rw [a4]
            by_cases e1 : i = id
            · rw [e1, AH.new_none hn] at hi; cases hi
            · rw [if_neg e1]; exact hi
          · obtain ⟨b1, b2, _⟩ := hw.vnew hn
            exact ⟨b1, b2⟩
        · rw [q2]
          exact ⟨fun _ _ h => h, Nat.le_refl _, fun n' hn' hnew => (by rw [g1] at hn'; injection hn' with hn'; subst hn'; rw [q1] at hnew; cases hnew), fun K w hw => ⟨hw, .refl K _⟩⟩
    obtain ⟨o1, o2, o3, o4⟩ := one
    have hpost : e.post.H = e.H' := rfl
    rw [hpost] at i1 i2 i3 i4 i5
    refine ⟨fun i o hi => i1 i o (o1 i o hi), by omega, fun x n hx hr hn => ?_, fun K w hw => ?_, fun x hx => ?_⟩
    · rcases List.mem_cons.1 hx with rfl | hx
      · have := o3 n hr hn
        rw [h1]
        exact ⟨Nat.le_refl _, by omega⟩
      · have := i3 x n hx hr hn
        exact ⟨by omega, this.2⟩
    · obtain ⟨b1, b2⟩ := o4 K w hw
      obtain ⟨c1, c2⟩ := i4 K w b1
      exact ⟨c1, b2.trans c2⟩
    · rcases List.mem_cons.1 hx with rfl | hx
      · rw [h1]
        exact ⟨Nat.le_refl _, fun i o hi => i1 i o (o1 i o hi), i1⟩
      · have := i5 x hx
        exact ⟨by omega, this.2.1, this.2.2⟩

end
end Go.Aes
