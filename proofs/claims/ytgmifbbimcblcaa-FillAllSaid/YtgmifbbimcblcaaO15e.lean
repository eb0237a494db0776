import Derived.Test.YtgmifbbimcblcaaO15d
set_option linter.all false
set_option linter.unusedVariables false
set_option linter.unusedSimpArgs false
namespace Go.Aes
open Go.RowKit

section
variable {X : Cx} {P : Program} {K : KC} {B : Nat} {W w : World} {H : AH}

theorem new_late {s : Sem Next} {o : AO} {wr : Wr} {i : Nat} (hs : InSim X P K s (.new o wr)) (hg : H.get i = some o) (hm : K.μ i = none) (hi : i < H.nx) (hw1 : RW B W K H w) :
    ∃ v w' x, s.run P w = .ok (.value v) w' ∧ RV (K.setμ i x) (wr.mk i) v ∧ RW B W (K.setμ i x) H w' := by
  cases o with
  | tok => exact hs.elim
  | cells cs =>
    obtain ⟨vs, ty, hl, hr⟩ := hs
    obtain ⟨v, h1, h2⟩ := hr w
    refine ⟨v, _, (w.heap.size, vs.length), h1, h2 _ _ (by simp [KC.setμ]), ?_⟩
    refine hw1.place hg (by simp) hm hi _ _ (fun K' hK b z hb => ?_)
    subst hK
    simp [KC.setμ] at hb
    obtain ⟨rfl, rfl⟩ := hb
    refine ⟨vs.toArray, ty, by show (w.heap.push _)[w.heap.size]? = _; simp, by simp, by rw [hl.len]; exact Nat.le_refl _, fun j a x e e' => ?_, fun o => hw1.noF o⟩
    exact (hl.at_ j a x e (by simpa using e')).mono (KC.le_setμ hm)
  | map es =>
    obtain ⟨rfl, hr⟩ := hs
    obtain ⟨v, h1, h2⟩ := hr w
    refine ⟨v, _, (w.heap.size, 0), h1, h2 _ _ 0 (by simp [KC.setμ]), ?_⟩
    refine hw1.place hg (by simp) hm hi _ _ (fun K' hK b z hb => ?_)
    subst hK
    simp [KC.setμ] at hb
    obtain ⟨rfl, rfl⟩ := hb
    exact ⟨#[], 0, by show (w.heap.push _)[w.heap.size]? = _; simp, ⟨rfl, fun j x e h => by simp at h⟩⟩
  | iter rest pos =>
    obtain ⟨sb, hd, hr⟩ := hs
    obtain ⟨v, h1, h2⟩ := hr w
    refine ⟨v, _, (w.heap.size, 0), h1, h2 _ _ 0 (by simp [KC.setμ]), ?_⟩
    refine hw1.place hg (by simp) hm hi _ _ (fun K' hK b z hb => ?_)
    subst hK
    simp [KC.setμ] at hb
    obtain ⟨rfl, rfl⟩ := hb
    exact ⟨sb, by show (w.heap.push _)[w.heap.size]? = _; simp, hd⟩

end

/-- the first that changes memory -/
theorem spanEff : ∀ T : List Evt, ∃ T1 T2, T = T1 ++ T2 ∧ (∀ e, e ∈ T1 → e.eff = false) ∧ (T2 = [] ∨ ∃ e r, T2 = e :: r ∧ e.eff = true)
  | [] => ⟨[], [], rfl, fun e he => by simp at he, .inl rfl⟩
  | e :: r => by
    cases he : e.eff with
    | true => exact ⟨[], e :: r, rfl, fun e he => by simp at he, .inr ⟨e, r, rfl, he⟩⟩
    | false =>
      obtain ⟨T1, T2, h1, h2, h3⟩ := spanEff r
      exact ⟨e :: T1, T2, by rw [h1]; rfl, fun x hx => by rcases List.mem_cons.1 hx with rfl | hx; · exact he
                                                          · exact h2 x hx, h3⟩

/-- the last that changes memory -/
theorem lastEff : ∀ T : List Evt, (∀ e, e ∈ T → e.eff = false) ∨ ∃ T1 e T2, T = T1 ++ e :: T2 ∧ e.eff = true ∧ ∀ x, x ∈ T2 → x.eff = false
  | [] => .inl fun e he => by simp at he
  | e :: r => by
    rcases lastEff r with h | ⟨T1, x, T2, h1, h2, h3⟩
    · cases he : e.eff with
      | true => exact .inr ⟨[], e, r, rfl, he, h⟩
      | false => exact .inl fun x hx => by rcases List.mem_cons.1 hx with rfl | hx; · exact he
                                           · exact h x hx
    · exact .inr ⟨e :: T1, x, T2, by rw [h1]; rfl, h2, h3⟩

section
variable {X : Cx} {P : Program} {B : Nat} {W : World} {C : CallF} {f nt : Nat} {ops : Array Oper} {A : Nat → Nat → Bool} {T : List Evt} {s s' : St} {K0 : KC}

structure Inv0 (X : Cx) (P : Program) (B : Nat) (W : World) (nt : Nat) (ops : Array Oper) (A : Nat → Nat → Bool) (T : List Evt) (s s' : St) (K0 : KC) (S : Nat → Bool) (a : Act) (w : World) (K : KC) (T0 T2 : List Evt) : Prop where
  split : T = T0 ++ T2
  closed : ∀ i j, j < ops.size → S i = true → A i j = true → S j = true
  done : ∀ e, e ∈ T0 → e.eff = true → S e.i = true
  later : ∀ e, e ∈ T2 → e.eff = true → S e.i = false
  head : T2 = [] ∨ ∃ e r, T2 = e :: r ∧ e.eff = true
  rf : RF K nt (foldS S T s.fr) a
  rw : RW B W K (hdH T2 s') w
  fits : Fits K0 s.H K (hdH T2 s')
  apart : ∀ e e2 o wr o2 wr2, e ∈ T0 → e2 ∈ T0 → S e.i = false → S e2.i = false → e.ran = some (.new o wr) → e2.ran = some (.new o2 wr2) → e2.i ≠ e.i → e2.s.H.nx ≠ e.s.H.nx
  news : ∀ e o wr, e ∈ T0 → S e.i = false → e.ran = some (.new o wr) → K.μ e.s.H.nx = none ∧ s.H.nx ≤ e.s.H.nx ∧ e.s.H.nx < (hdH T2 s').nx ∧ (hdH T2 s').get e.s.H.nx = some o

def addS (S : Nat → Bool) (i : Nat) : Nat → Bool := fun j => S j || decide (j = i)

theorem Cn.lt (h : Cn X C f nt ops A T s s') {e : Evt} (he : e ∈ T) : e.i < ops.size := by
  have := h.op e he
  rcases Nat.lt_or_ge e.i ops.size with h1 | h1
  · exact h1
  · rw [Array.getElem?_eq_none h1] at this; cases this

theorem Cn.dst (h : Cn X C f nt ops A T s s') {e : Evt} (he : e ∈ T) : dstOk nt e.o.dst = true := (h.good e he).1

theorem Cn.inj (h : Cn X C f nt ops A T s s') {p q : Evt} (hp : p ∈ T) (hq : q ∈ T) (hi : p.i = q.i) : p = q := by
  have key : ∀ T : List Evt, T.Pairwise (fun e1 e2 => A e1.i e2.i = false ∧ e1.i ≠ e2.i) → p ∈ T → q ∈ T → p = q := by
    intro T
    induction T with
    | nil => intro _ hp; simp at hp
    | cons e r ih =>
      intro hpw hp hq
      obtain ⟨h1, h2⟩ := List.pairwise_cons.1 hpw
      rcases List.mem_cons.1 hp with hp1 | hp1
      · rcases List.mem_cons.1 hq with hq1 | hq1
        · rw [hp1, hq1]
        · rw [hp1] at hi; exact absurd hi (h1 q hq1).2
      · rcases List.mem_cons.1 hq with hq1 | hq1
        · rw [hq1] at hi; exact absurd hi.symm (h1 p hp1).2
        · exact ih h2 hp1 hq1
  exact key T h.ord hp hq

/-- an operation that may come up finds what it looks at as in the canonical order -/
theorem look_same (h : Cn X C f nt ops A T s s') (hnt : nt < 2 ^ 39) {S : Nat → Bool} (hcl : ∀ i j, j < ops.size → S i = true → A i j = true → S j = true)
    {e : Evt} (he : e ∈ T) (hS : S e.i = false) (hr : ∀ j, j < ops.size → A e.i j = true → S j = true) :
    (∀ t, t ∈ looks ops.toList e.o → e.s.fr.get t = (foldS S T s.fr).get t) ∧
    (∀ t, (foldS (addS S e.i) T s.fr).get t = if e.o.dst = some t then some e.v else (foldS S T s.fr).get t) := by
  obtain ⟨Ta, Tb, hT⟩ := List.append_of_mem he
  have hch := h.chain
  rw [hT] at hch
  obtain ⟨m, c1, c2⟩ := hch.split
  obtain ⟨c3, c4⟩ := c2
  have hord := h.ord
  rw [hT] at hord
  obtain ⟨ob, oa⟩ := pairwise_mid hord
  have ma : ∀ p, p ∈ Ta → p ∈ T := fun p hp => by rw [hT]; simp [hp]
  have mb : ∀ p, p ∈ Tb → p ∈ T := fun p hp => by rw [hT]; simp [hp]
  -- of two that touch the same slot
  have before : ∀ p, p ∈ Ta → ∀ t, p.o.dst = some t → (t ∈ looks ops.toList e.o ∨ e.o.dst = some t) → S p.i = true := by
    intro p hp t hd hl
    rcases h.tmp p (ma p hp) e he (ob p hp).2 t hd hl with h1 | h1
    · exact hr _ (h.lt (ma p hp)) h1
    · rw [(ob p hp).1] at h1; cases h1
  have after_ : ∀ p, p ∈ Tb → ∀ t, p.o.dst = some t → (t ∈ looks ops.toList e.o ∨ e.o.dst = some t) → S p.i = false := by
    intro p hp t hd hl
    rcases h.tmp p (mb p hp) e he (Ne.symm (oa p hp).2) t hd hl with h1 | h1
    · rw [(oa p hp).1] at h1; cases h1
    · cases hs : S p.i with
      | false => rfl
      | true => rw [hcl p.i e.i (h.lt he) hs h1] at hS; cases hS
  have da : ∀ p, p ∈ Ta → dstOk nt p.o.dst = true := fun p hp => h.dst (ma p hp)
  have db : ∀ p, p ∈ Tb → dstOk nt p.o.dst = true := fun p hp => h.dst (mb p hp)
  refine ⟨fun t ht => ?_, fun t => ?_⟩
  · rw [c3, ← c1.fold, hT, foldS_append]
    simp only [foldS, hS, cond_false]
    rw [foldS_skip (S := S) hnt db (fun p hp hs hd => by rw [after_ p hp t hd (.inl ht)] at hs; cases hs)]
    exact foldS_congr hnt da (fun p hp hd => (before p hp t hd (.inl ht)).symm) rfl
  · rw [hT, foldS_append, foldS_append]
    have hSe : addS S e.i e.i = true := by simp [addS]
    have sa : ∀ p, p ∈ Ta → addS S e.i p.i = S p.i := fun p hp => by simp [addS]; intro h1; exact absurd h1 (ob p hp).2
    have sb : ∀ p, p ∈ Tb → addS S e.i p.i = S p.i := fun p hp => by simp [addS]; intro h1; exact absurd h1.symm (oa p hp).2
    simp only [foldS, hS, hSe, cond_true, cond_false]
    by_cases hd : e.o.dst = some t
    · rw [if_pos hd]
      rw [foldS_skip hnt db (fun p hp hs hdp => by rw [sb p hp, after_ p hp t hdp (.inr hd)] at hs; cases hs)]
      rw [putD_get hnt (h.dst he), if_pos hd]
    · rw [if_neg hd]
      refine foldS_congr hnt db (fun p hp _ => sb p hp) ?_
      rw [putD_get hnt (h.dst he), if_neg hd]
      exact foldS_congr hnt da (fun p hp _ => sa p hp) rfl

theorem Inv0.put (h : Cn X C f nt ops A T s s') (hnt : nt < 2 ^ 39) {S : Nat → Bool} {K' : KC} {a : Act} (hcl : ∀ i j, j < ops.size → S i = true → A i j = true → S j = true)
    {e : Evt} (he : e ∈ T) (hS : S e.i = false) (hr : ∀ j, j < ops.size → A e.i j = true → S j = true) (rf : RF K' nt (foldS S T s.fr) a) {v' : Value} (hv : RV K' e.v v') :
    RF K' nt (foldS (addS S e.i) T s.fr) (a.put e.o.dst v') := by
  refine (rf.put hnt (h.dst he) hv).congr fun t => ?_
  rw [(look_same h hnt hcl he hS hr).2 t, putD_get hnt (h.dst he)]

theorem addS_closed {S : Nat → Bool} (hcl : ∀ i j, j < ops.size → S i = true → A i j = true → S j = true) {k : Nat} (hr : ∀ j, j < ops.size → A k j = true → S j = true) :
    ∀ i j, j < ops.size → addS S k i = true → A i j = true → addS S k j = true := by
  intro i j hj hi ha
  simp only [addS, Bool.or_eq_true, decide_eq_true_eq] at hi ⊢
  left
  rcases hi with hi | hi
  · exact hcl i j hj hi ha
  · subst hi; exact hr j hj ha

end
end Go.Aes
