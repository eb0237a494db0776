import Derived.Test.YtgmifbbimcblcaaO15f
set_option linter.all false
set_option linter.unusedVariables false
set_option linter.unusedSimpArgs false
namespace Go.Aes
open Go.RowKit

theorem filter_lt {α : Type} {p q : α → Bool} : ∀ {l : List α}, (∀ x, x ∈ l → p x = true → q x = true) → ∀ {e : α}, e ∈ l → q e = true → p e = false → (l.filter p).length < (l.filter q).length
  | [], _, e, he, _, _ => by simp at he
  | x :: r, h, e, he, hq, hp => by
    have hle : (r.filter p).length ≤ (r.filter q).length := by
      have : ∀ r : List α, (∀ x, x ∈ r → p x = true → q x = true) → (r.filter p).length ≤ (r.filter q).length := by
        intro r
        induction r with
        | nil => intro _; simp
        | cons y r ih =>
          intro h
          have := ih (fun x hx => h x (List.mem_cons_of_mem _ hx))
          cases hpy : p y with
          | false => rw [List.filter_cons_of_neg (by simp [hpy])]; cases hqy : q y with
            | false => rw [List.filter_cons_of_neg (by simp [hqy])]; exact this
            | true => rw [List.filter_cons_of_pos hqy]; simp; omega
          | true => rw [List.filter_cons_of_pos hpy, List.filter_cons_of_pos (h y (by simp) hpy)]; simp; omega
      exact this r (fun x hx => h x (List.mem_cons_of_mem _ hx))
    rcases List.mem_cons.1 he with he | he
    · subst he
      rw [List.filter_cons_of_neg (by simp [hp]), List.filter_cons_of_pos hq]
      simp; omega
    · have ih := filter_lt (fun x hx => h x (List.mem_cons_of_mem _ hx)) he hq hp
      cases hpx : p x with
      | false => rw [List.filter_cons_of_neg (by simp [hpx])]; cases hqx : q x with
        | false => rw [List.filter_cons_of_neg (by simp [hqx])]; exact ih
        | true => rw [List.filter_cons_of_pos hqx]; simp; omega
      | true => rw [List.filter_cons_of_pos hpx, List.filter_cons_of_pos (h x (by simp) hpx)]; simp; omega

theorem first_not {α : Type} (p : α → Bool) : ∀ l : List α, (∀ x, x ∈ l → p x = true) ∨ ∃ l1 x l2, l = l1 ++ x :: l2 ∧ (∀ y, y ∈ l1 → p y = true) ∧ p x = false
  | [] => .inl fun x hx => by simp at hx
  | x :: r => by
    cases hp : p x with
    | false => exact .inr ⟨[], x, r, rfl, fun y hy => by simp at hy, hp⟩
    | true =>
      rcases first_not p r with h | ⟨l1, y, l2, h1, h2, h3⟩
      · exact .inl fun y hy => by rcases List.mem_cons.1 hy with rfl | hy; · exact hp
                                  · exact h y hy
      · exact .inr ⟨x :: l1, y, l2, by rw [h1]; rfl, fun z hz => by rcases List.mem_cons.1 hz with rfl | hz; · exact hp
                                                                    · exact h2 z hz, h3⟩

theorem plan_len {all : List Oper} {ancs : List Nat} : ∀ {n done : Nat}, (plan all ancs n done).length ≤ n
  | 0, _ => by simp [plan]
  | n + 1, done => by
    simp only [plan]
    split
    · have := plan_len (all := all) (ancs := ancs) (n := n) (done := done ||| (1 <<< ‹Nat × Nat × Oper›.1)); simp; exact this
    · split
      · have := plan_len (all := all) (ancs := ancs) (n := n) (done := done ||| (1 <<< ‹Nat × Nat × Oper›.1)); simp; exact this
      · simp

section
variable {X : Cx} {P : Program} {B : Nat} {W : World} {C : CallF} {f nt : Nat} {ops : Array Oper} {A : Nat → Nat → Bool} {T : List Evt} {s s' : St} {K0 : KC}

theorem all_listed (h : Cn X C f nt ops A T s s') {listed : Array Bool} (hsz : listed.size = ops.size) (hr : Region.ready .any ops listed = []) : ∀ e, e ∈ T → listed.getD e.i false = true := by
  rcases first_not (fun e : Evt => listed.getD e.i false) T with h0 | ⟨Ta, e, Tb, h1, h2, h3⟩
  · exact h0
  · exfalso
    have he : e ∈ T := by rw [h1]; simp
    have hlt := h.lt he
    have hrd : e.i ∈ Region.ready .any ops listed := by
      rw [mem_ready]
      refine ⟨?_, e.o, h.op e he, fun d hd hb => ?_⟩
      · rw [Array.getD_eq_getD_getElem?] at h3 ⊢
        have : e.i < listed.size := by omega
        simp [this] at h3 ⊢
        exact h3
      · obtain ⟨d1, d2, d3⟩ := h.dir e he d hd hb
        obtain ⟨p, p1, p2⟩ := h.full d.on d2
        have hord := h.ord
        rw [h1] at hord
        obtain ⟨o1, o2⟩ := pairwise_mid hord
        rw [h1] at p1
        rcases List.mem_append.1 p1 with p1 | p1
        · rw [← p2]; exact h2 p p1
        · rcases List.mem_cons.1 p1 with p1 | p1
          · rw [p1] at p2; exact absurd p2.symm d3
          · have := (o2 p p1).1
            rw [p2, d1] at this; cases this
    rw [hr] at hrd
    cases hrd

theorem dops_any (ok : CxOk X P) (hc : CallOk P B W C) (h : Cn X C f nt ops A T s s') (hnt : nt < 2 ^ 39) {Q : Exit → Act → World → Prop} (sat : Sat B W nt K0 s.H .normal s' Q) :
    ∀ (fuel : Nat) (listed : Array Bool) (a : Act) (w : World) (K : KC) (T0 T2 : List Evt), listed.size = ops.size → (T.filter fun e => !listed.getD e.i false).length ≤ fuel →
      Inv0 X P B W nt ops A T s s' K0 (fun i => listed.getD i false) a w K T0 T2 → wpAny P .any ops Q fuel listed a w := by
  have fin : ∀ (listed : Array Bool) (a : Act) (w : World) (K : KC) (T0 T2 : List Evt), listed.size = ops.size → (∀ e, e ∈ T → listed.getD e.i false = true) →
      Inv0 X P B W nt ops A T s s' K0 (fun i => listed.getD i false) a w K T0 T2 → Q .normal a w := by
    intro listed a w K T0 T2 hsz hall inv
    have h2 : T2 = [] := by
      rcases inv.head with h1 | ⟨e, r, h1, h3⟩
      · exact h1
      · have := inv.later e (by rw [h1]; simp) h3
        rw [hall e (by rw [inv.split, h1]; simp)] at this
        cases this
    have hh : hdH T2 s' = s'.H := by rw [h2]; rfl
    have hf := inv.fits
    have hw := inv.rw
    rw [hh] at hf hw
    refine sat K a w Go.undef hf (inv.rf.congr fun t => ?_) hw (fun v hv => by cases hv)
    rw [← h.chain.fold]
    exact foldS_congr hnt (fun e he => h.dst he) (fun e he _ => hall e he) rfl
  intro fuel
  induction fuel with
  | zero =>
    intro listed a w K T0 T2 hsz hfu inv
    have hall : ∀ e, e ∈ T → listed.getD e.i false = true := by
      intro e he
      cases hl : listed.getD e.i false with
      | true => rfl
      | false =>
        have : e ∈ T.filter fun e => !listed.getD e.i false := List.mem_filter.2 ⟨he, by simp only [hl, Bool.not_false]⟩
        have := List.length_pos_of_mem this
        omega
    refine ⟨?_, fin listed a w K T0 T2 hsz hall inv⟩
    cases hr : Region.ready .any ops listed with
    | nil => rfl
    | cons j r =>
      exfalso
      have hj : j ∈ Region.ready .any ops listed := by rw [hr]; simp
      obtain ⟨h1, o, h2, _⟩ := mem_ready.1 hj
      obtain ⟨e, he, hei⟩ := h.full j (Array.getElem?_eq_some_iff.1 h2).1
      have h3 := hall e he
      rw [hei, Array.getD_eq_getD_getElem?] at h3
      rw [Array.getD_eq_getD_getElem?] at h1
      have : j < listed.size := by rw [hsz]; exact (Array.getElem?_eq_some_iff.1 h2).1
      simp [this] at h1 h3
      rw [h1] at h3; cases h3
  | succ fuel ih =>
    intro listed a w K T0 T2 hsz hfu inv
    refine ⟨fun hr => fin listed a w K T0 T2 hsz (all_listed h hsz hr) inv, fun j hj => ?_⟩
    obtain ⟨h1, o, h2, h3⟩ := mem_ready.1 hj
    have hjlt := (Array.getElem?_eq_some_iff.1 h2).1
    have hjl : j < listed.size := by omega
    obtain ⟨e, he, hei⟩ := h.full j hjlt
    have heo : e.o = o := by
      have := h.op e he
      rw [hei, h2] at this
      exact (Option.some.inj this).symm
    subst hei
    have hS : listed.getD e.i false = false := by
      rw [Array.getD_eq_getD_getElem?] at h1 ⊢
      simp [hjl] at h1 ⊢
      exact h1
    have hnx : ∀ j, (listed.setIfInBounds e.i true).getD j false = addS (fun i => listed.getD i false) e.i j := by
      intro j
      simp only [addS]
      by_cases hj : j = e.i
      · subst hj; simp [hjl]
      · simp [Array.getElem?_setIfInBounds_ne (Ne.symm hj), hj]
    refine step_wp ok hc h hnt inv he hS ?_ ?_
    · intro k hk ha
      obtain ⟨d, d1, d2, d3⟩ := h.up e he k hk ha
      have d4 := h3 d (by rw [← heo]; exact d1) d2
      rcases d3 with d3 | d3
      · rw [← d3]; exact d4
      · exact inv.closed d.on k hk d4 d3
    · intro a' w' K' T0' T2' inv'
      refine ih _ a' w' K' T0' T2' (by rw [Array.size_setIfInBounds]; exact hsz) ?_ ?_
      · have : (T.filter fun e_1 => !(listed.setIfInBounds e.i true).getD e_1.i false).length < (T.filter fun e => !listed.getD e.i false).length := by
          refine filter_lt (fun x hx hp => ?_) he (by simp only [hS, Bool.not_false]) (by simp only [hnx]; simp [addS])
          simp only [hnx] at hp
          simp only [addS, Bool.not_eq_true', Bool.or_eq_false_iff] at hp
          simp only [hp.1, Bool.not_false]
        omega
      · have : (fun i => (listed.setIfInBounds e.i true).getD i false) = addS (fun i => listed.getD i false) e.i := funext hnx
        rw [this]
        exact inv'

theorem dops_wp (ok : CxOk X P) (hc : CallOk P B W C) {f nt id : Nat} (hnt : nt < 2 ^ 39) {ops : Array Oper} (hrg : rgOk ops.toList = true) {s s' : St} {e : Ex} {K : KC} {a : Act} {w : World} {Q : Exit → Act → World → Prop}
    (h : dops X C f nt ops.toList (plan ops.toList (ancestors ops.toList []) ops.toList.length 0) 0 [] s = some (e, s')) (rf : RF K nt s.fr a) (hw : RW B W K s.H w) (sat : Sat B W nt K s.H e s' Q) : (Code.region id ops true).wp P Q a w := by
  obtain ⟨he, T, t1, t2, t3, t4, _⟩ := trace (X := X) (C := C) (f := f) (nt := nt) (all := ops.toList) [] _ 0 [] s s' e [] h (fun e he => by simp at he) (fun e n he => by simp at he)
  subst he
  have cn := rgOk_spec hrg t1 t2 t3 t4
  refine wp_region_any ok.mixed ?_
  obtain ⟨T1, T2, h1, h2, h3⟩ := spanEff T
  have hch := t2
  rw [h1] at hch
  obtain ⟨m, c1, c2⟩ := hch.split
  have hg1 : ∀ x, x ∈ T1 → Good X C f nt ops.toList x := fun x hx => t3 x (by rw [h1]; simp [hx])
  obtain ⟨i1, i2, i3, i4, i5⟩ := seg_mono (B := B) (W := W) c1 hg1 h2
  obtain ⟨j1, j2⟩ := i4 K _ hw.drew
  have hS0 : ∀ j, (Array.replicate ops.size false).getD j false = false := by
    intro j
    rw [Array.getD_eq_getD_getElem?, Array.getElem?_replicate]
    split <;> rfl
  have hfold : ∀ (T : List Evt) (fr : Fr), foldS (fun i => (Array.replicate ops.size false).getD i false) T fr = fr := by
    intro T
    induction T with
    | nil => intro fr; rfl
    | cons e r ih =>
      intro fr
      simp only [foldS]
      have := hS0 e.i
      rw [this]
      exact ih fr
  refine dops_any ok hc cn hnt sat ops.size _ a _ K T1 T2 (by simp) ?_ ⟨h1, ?_, ?_, ?_, h3, by rw [hfold]; exact rf, by rw [c2.hd]; exact j1, by rw [c2.hd]; exact j2, fun x y o wr o2 wr2 hx hy _ _ hxr hyr hxy => seg_apart B W c1 hg1 h2 hx hy hxr hyr hxy, ?_⟩
  · refine Nat.le_trans (List.length_filter_le _ _) ?_
    have := congrArg List.length t1
    rw [List.length_map] at this
    rw [this]
    exact Nat.le_trans plan_len (by simp)
  · intro i j _ hi
    simp only [hS0] at hi
    cases hi
  · intro e he hee
    rw [h2 e he] at hee; cases hee
  · intro e he hee
    exact hS0 _
  · intro e o wr he _ hr
    have k1 := i3 e _ he hr rfl
    rw [c2.hd]
    exact ⟨(hw.fresh _ k1.1).1, k1.1, k1.2, (i5 e he).2.2 _ _ (good_new (hg1 e he) hr).2.2⟩

end
end Go.Aes
