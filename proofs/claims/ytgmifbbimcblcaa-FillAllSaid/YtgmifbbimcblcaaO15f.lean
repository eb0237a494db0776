import Derived.Test.YtgmifbbimcblcaaO15e
set_option linter.all false
set_option linter.unusedVariables false
set_option linter.unusedSimpArgs false
namespace Go.Aes
open Go.RowKit

section
variable {X : Cx} {P : Program} {B : Nat} {W : World} {C : CallF} {f nt : Nat} {ops : Array Oper} {A : Nat → Nat → Bool} {T : List Evt} {s s' : St} {K0 K : KC} {S : Nat → Bool} {a : Act} {w : World} {T0 T2 : List Evt}

theorem good_new {all : List Oper} {e : Evt} {o : AO} {wr : Wr} (hg : Good X C f nt all e) (hr : e.ran = some (.new o wr)) :
    e.v = wr.mk e.s.H.nx ∧ e.H'.nx = e.s.H.nx + 1 ∧ e.H'.get e.s.H.nx = some o := by
  rcases hg.2 with ⟨h1, _⟩ | ⟨n, h1, h2, h3, h4⟩
  · rw [hr] at h1; cases h1
  · rw [hr] at h1
    injection h1 with h1
    subst h1
    simp only [exec, v2] at h4
    cases hn : e.s.H.new o with
    | none => simp [hn] at h4
    | some p =>
      obtain ⟨id, H2⟩ := p
      simp [hn] at h4
      obtain ⟨h5, h6⟩ := h4
      obtain ⟨a1, a2, a3, a4⟩ := AH.new_spec hn
      refine ⟨by rw [← h5, a1], by rw [← h6, a2], ?_⟩
      rw [← h6, a4, if_pos a1.symm]

theorem chain_at (h : Cn X C f nt ops A T s s') (inv : Inv0 X P B W nt ops A T s s' K0 S a w K T0 T2) {e : Evt} {Ta Tb : List Evt} (hT : T0 = Ta ++ e :: Tb) : ∃ m, Chain Tb e.post m ∧ hdH T2 s' = m.H ∧ (∀ x, x ∈ Tb → Good X C f nt ops.toList x) ∧ Chain Ta s e.s := by
  have hch := h.chain
  rw [inv.split, hT] at hch
  obtain ⟨m, c1, c2⟩ := hch.split
  obtain ⟨m1, c3, c4⟩ := c1.split
  refine ⟨m, c4.2, c2.hd, fun x hx => h.good x (by rw [inv.split, hT]; simp [hx]), ?_⟩
  rw [c4.1]; exact c3

/-- ids of what is new in a calm stretch are apart -/
theorem seg_apart (B : Nat) (W : World) {all : List Oper} {T : List Evt} {s m : St} (hc : Chain T s m) (hg : ∀ e, e ∈ T → Good X C f nt all e) (hn : ∀ e, e ∈ T → e.eff = false) {e e2 : Evt} {o o2 : AO} {wr wr2 : Wr} (he : e ∈ T) (he2 : e2 ∈ T)
    (hr : e.ran = some (.new o wr)) (hr2 : e2.ran = some (.new o2 wr2)) (hne : e2.i ≠ e.i) : e2.s.H.nx ≠ e.s.H.nx := by
  have key : ∀ {p q : Evt} {o : AO} {wr : Wr} {Ta Tb : List Evt}, T = Ta ++ p :: Tb → q ∈ Tb → p.ran = some (.new o wr) → p.s.H.nx < q.s.H.nx := by
    intro p q o wr Ta Tb hT hq hrp
    rw [hT] at hc
    obtain ⟨m1, c1, c2⟩ := hc.split
    obtain ⟨c3, c4⟩ := c2
    obtain ⟨i1, i2, i3, i4, i5⟩ := seg_mono (B := B) (W := W) c4 (fun x hx => hg x (by rw [hT]; simp [hx])) (fun x hx => hn x (by rw [hT]; simp [hx]))
    have h1 := (i5 q hq).1
    have h2 := (good_new (hg p (by rw [hT]; simp)) hrp).2.1
    have : p.post.H = p.H' := rfl
    rw [this] at h1
    omega
  obtain ⟨Ta, Tb, hT⟩ := List.append_of_mem he
  have hm : e2 ∈ Ta ++ e :: Tb := hT ▸ he2
  rcases List.mem_append.1 hm with hm | hm
  · obtain ⟨Ta1, Ta2, hT2⟩ := List.append_of_mem hm
    have := key (p := e2) (q := e) (Ta := Ta1) (Tb := Ta2 ++ e :: Tb) (by rw [hT, hT2]; simp) (by simp) hr2
    omega
  · rcases List.mem_cons.1 hm with hm | hm
    · rw [hm] at hne; exact absurd rfl hne
    · have := key (p := e) (q := e2) hT hm hr
      omega

theorem kept_spec {o : AO} {wr : Wr} {id : Nat} {H : AH} (h : kept (.new o wr) (wr.mk id) H = true) : H.get id = some o := by
  cases o <;> cases wr <;> simp only [kept, Wr.mk] at h <;> first | (cases h; done) | skip
  rename_i cs
  cases hg : H.get id with
  | none => simp [hg] at h
  | some ob =>
    cases ob <;> simp only [hg] at h <;> first | (cases h; done) | skip
    rw [beqVs_sound _ _ h]

theorem step_wp (ok : CxOk X P) (hc : CallOk P B W C) (h : Cn X C f nt ops A T s s') (hnt : nt < 2 ^ 39) (inv : Inv0 X P B W nt ops A T s s' K0 S a w K T0 T2)
    {e : Evt} (he : e ∈ T) (hS : S e.i = false) (hr : ∀ j, j < ops.size → A e.i j = true → S j = true) {Q : Exit → Act → World → Prop} {next : Act → World → Prop}
    (hn : ∀ a' w' K' T0' T2', Inv0 X P B W nt ops A T s s' K0 (addS S e.i) a' w' K' T0' T2' → next a' w') : wpOp P ops Q e.i next a w := by
  obtain ⟨ls1, ls2⟩ := look_same h hnt inv.closed he hS hr
  have hclosed := addS_closed (A := A) (ops := ops) inv.closed hr
  have hSe : addS S e.i e.i = true := by simp [addS]
  have hmono : ∀ j, S j = true → addS S e.i j = true := fun j hj => by simp [addS, hj]
  have hback : ∀ j, addS S e.i j = false → S j = false ∧ j ≠ e.i := fun j hj => by simpa [addS] using hj
  have hnot : ∀ j, S j = false → j ≠ e.i → addS S e.i j = false := fun j h1 h2 => by simp [addS, h1, h2]
  unfold wpOp
  rw [h.op e he]
  simp only []
  rw [inv.rf.wanted ops e.o, ← looks_wanted ls1]
  rcases (h.good e he).2 with ⟨g1, g2, g3, g4⟩ | ⟨n, g1, g2, g3, g4⟩
  · rw [g2]
    simp only [Bool.false_eq_true, if_false]
    refine hn _ _ K T0 T2 ⟨inv.split, hclosed, fun x hx hxe => hmono _ (inv.done x hx hxe), fun x hx hxe => hnot _ (inv.later x hx hxe) ?_, inv.head, ?_, inv.rw, inv.fits, fun x y o wr o2 wr2 hx hy hxs hys => inv.apart x y o wr o2 wr2 hx hy (hback _ hxs).1 (hback _ hys).1, fun x o wr hx hxs hxr => inv.news x o wr hx (hback _ hxs).1 hxr⟩
    · intro hxi
      have := h.inj (p := x) (q := e) (by rw [inv.split]; simp [hx]) he hxi
      subst this
      simp [Evt.eff, g1] at hxe
    · exact Inv0.put h hnt inv.closed he hS hr inv.rf (by rw [g3]; exact .undef)
  · rw [g2]
    simp only [if_true]
    rw [looks_inst ls1] at g3
    have sim := inst_sim ok g3 inv.rf
    have hput : ∀ {K' : KC} {v' : Value}, K.le K' → RV K' e.v v' → RF K' nt (foldS (addS S e.i) T s.fr) (a.put e.o.dst v') :=
      fun hle hv => Inv0.put h hnt inv.closed he hS hr (inv.rf.mono hle) hv
    left
    have hmem : e ∈ T0 ∨ e ∈ T2 := by rw [inv.split] at he; simpa using he
    rcases hmem with hm | hm
    · have hne : n.eff = false := by
        cases hne : n.eff with
        | false => rfl
        | true => rw [inv.done e hm (by simp [Evt.eff, g1, hne])] at hS; cases hS
      have hlater : ∀ x, x ∈ T2 → x.eff = true → addS S e.i x.i = false := by
        intro x hx hxe
        refine hnot _ (inv.later x hx hxe) fun hxi => ?_
        have := h.inj (p := x) (q := e) (by rw [inv.split]; simp [hx]) he hxi
        subst this
        simp [Evt.eff, g1, hne] at hxe
      obtain ⟨Ta, Tb, hT⟩ := List.append_of_mem hm
      obtain ⟨m, c1, c2, c3, c4⟩ := chain_at h inv hT
      rcases exec_nonEff hne g4 with ⟨o, wr, id, rfl, hnw, hv⟩ | ⟨q1, q2, q3⟩
      · obtain ⟨n1, n2, n3, n4⟩ := inv.news e o wr hm hS g1
        obtain ⟨v', w', x, k1, k2, k3⟩ := new_late sim n4 n1 n3 inv.rw
        refine wp_of_value k1 (hn _ _ (K.setμ e.s.H.nx x) T0 T2 ⟨inv.split, hclosed, fun y hy hye => hmono _ (inv.done y hy hye), hlater, inv.head, ?_, k3, ?_, fun x y o wr o2 wr2 hx hy hxs hys => inv.apart x y o wr o2 wr2 hx hy (hback _ hxs).1 (hback _ hys).1, ?_⟩)
        · exact hput (KC.le_setμ n1) (by rw [(good_new (h.good e he) g1).1]; exact k2)
        · refine ⟨inv.fits.le.trans (KC.le_setμ n1), inv.fits.nx, fun i hi => ⟨?_, (inv.fits.old i hi).2⟩⟩
          rw [← (inv.fits.old i hi).1]
          show (if i = e.s.H.nx then some x else K.μ i) = K.μ i
          rw [if_neg (by omega)]
        · intro y o2 wr2 hy hys hyr
          obtain ⟨y1, y2⟩ := hback _ hys
          obtain ⟨m1, m2, m3, m4⟩ := inv.news y o2 wr2 hy y1 hyr
          refine ⟨?_, m2, m3, m4⟩
          show (if y.s.H.nx = e.s.H.nx then some x else K.μ y.s.H.nx) = none
          rw [if_neg (inv.apart e y _ _ _ _ hm hy hS y1 g1 hyr y2)]
          exact m1
      · have hex : exec X C n (hdH T2 s') = some (.val e.v (hdH T2 s')) := by
          rcases q3 with q3 | q3
          · refine exec_rd ?_
            cases hl : logged n with
            | false => exact rd_unlogged hl q3
            | true =>
              rw [c2]
              rcases lastEff Tb with hq | ⟨T1, x, T3, h1, h2, h3⟩
              · refine rd_mono (seg_mono (B := B) (W := W) c1 c3 hq).1 ?_
                show rd X n e.H' = some e.v
                rw [q2]; exact q3
              · have hxT0 : x ∈ T0 := by rw [hT, h1]; simp
                have hrel := h.rel
                rw [inv.split, hT, List.append_assoc, List.cons_append] at hrel
                have h4 := (pairwise_mid hrel).2 x (by rw [h1]; simp)
                rcases h4.2 h2 n g1 hne hl with h5 | h5 | h5
                · rw [h.anc x (by rw [inv.split]; simp [hxT0])] at h5
                  rw [inv.closed x.i e.i (h.lt he) (inv.done x hxT0 h2) h5] at hS
                  cases hS
                · rw [h1] at c1
                  obtain ⟨m1, d1, d2⟩ := c1.split
                  exact rd_mono (seg_mono (B := B) (W := W) d2.2 (fun y hy => c3 y (by rw [h1]; simp [hy])) h3).1 h5
                · exfalso
                  cases n <;> simp [isNew] at q1 <;> simp [kept] at h5
          · exact q3 _
        refine exec_wp ok hc hex sim inv.rw ?_ ?_
        · intro v H2 v' K' w' hres f1 hv hw'
          injection hres with hr1 hr2
          subst hr2
          refine hn _ _ K' T0 T2 ⟨inv.split, hclosed, fun y hy hye => hmono _ (inv.done y hy hye), hlater, inv.head, hput f1.le (by rw [hr1]; exact hv), hw', inv.fits.trans f1, fun x y o wr o2 wr2 hx hy hxs hys => inv.apart x y o wr o2 wr2 hx hy (hback _ hxs).1 (hback _ hys).1, ?_⟩
          intro y o2 wr2 hy hys hyr
          obtain ⟨y1, y2⟩ := hback _ hys
          obtain ⟨m1, m2, m3, m4⟩ := inv.news y o2 wr2 hy y1 hyr
          exact ⟨(f1.old _ m3).1.trans m1, m2, m3, m4⟩
        · intro v H2 v' K' w' hres; cases hres
    · rcases inv.head with hh | ⟨x, T3, hh, hxe⟩
      · rw [hh] at hm; simp at hm
      have hxT : x ∈ T := by rw [inv.split, hh]; simp
      have hrel := h.rel
      rw [inv.split, hh] at hrel
      obtain ⟨r1, r2⟩ := pairwise_mid hrel
      have hord := h.ord
      rw [inv.split, hh] at hord
      obtain ⟨o1, o2⟩ := pairwise_mid hord
      rw [hh] at hm
      rcases List.mem_cons.1 hm with hm | hm
      case inr =>
        have h1 := (r2 e hm).1 hxe (by rw [g1]; simp)
        rw [h.anc e he] at h1
        have h2 := hr _ (h.lt hxT) h1
        rw [inv.later x (by rw [hh]; simp) hxe] at h2
        cases h2
      case inl =>
      subst hm
      have hhd : hdH T2 s' = e.s.H := by rw [hh]; rfl
      have hch := h.chain
      rw [inv.split, hh] at hch
      obtain ⟨m0, c1, c2⟩ := hch.split
      obtain ⟨c3, c4⟩ := c2
      have hrw := inv.rw
      have hfits := inv.fits
      rw [hhd] at hrw hfits
      refine exec_wp ok hc g4 sim hrw ?_ ?_
      · intro v H2 v' K' w' hres f1 hv hw'
        injection hres with hr1 hr2
        subst hr2
        obtain ⟨T31, T32, t1, t2, t3⟩ := spanEff T3
        rw [t1] at c4
        obtain ⟨m, d1, d2⟩ := c4.split
        have hg3 : ∀ y, y ∈ T31 → Good X C f nt ops.toList y := fun y hy => h.good y (by rw [inv.split, hh, t1]; simp [hy])
        obtain ⟨i1, i2, i3, i4, i5⟩ := seg_mono (B := B) (W := W) d1 hg3 t2
        have hpost : e.post.H = e.H' := rfl
        rw [hpost] at i1 i2 i3 i4 i5
        obtain ⟨j1, j2⟩ := i4 K' w' hw'
        have hd32 := d2.hd
        refine hn _ _ K' (T0 ++ e :: T31) T32 ⟨by rw [inv.split, hh, t1]; simp, hclosed, ?_, ?_, t3, hput f1.le (by rw [hr1]; exact hv), by rw [hd32]; exact j1, by rw [hd32]; exact (hfits.trans f1).trans j2, ?_, ?_⟩
        · intro y hy hye
          rcases List.mem_append.1 hy with hy | hy
          · exact hmono _ (inv.done y hy hye)
          · rcases List.mem_cons.1 hy with hy | hy
            · rw [hy]; exact hSe
            · rw [t2 y hy] at hye; cases hye
        · intro y hy hye
          exact hnot _ (inv.later y (by rw [hh, t1]; simp [hy]) hye) (Ne.symm (o2 y (by rw [t1]; simp [hy])).2)
        · intro x y o3 wr3 o4 wr4 hx hy hxs hys hxr hyr hxy
          obtain ⟨x1, x2⟩ := hback _ hxs
          obtain ⟨y1, y2⟩ := hback _ hys
          have old : ∀ z o wr, z ∈ T0 → S z.i = false → z.ran = some (.new o wr) → z.s.H.nx < e.s.H.nx := fun z o wr hz hzs hzr => by
            have := (inv.news z o wr hz hzs hzr).2.2.1
            rw [hhd] at this
            exact this
          have new : ∀ z o wr, z ∈ T31 → z.ran = some (.new o wr) → e.s.H.nx ≤ z.s.H.nx := fun z o wr hz hzr => by
            have := (i3 z _ hz hzr rfl).1
            have := f1.nx
            omega
          rcases List.mem_append.1 hx with hx | hx
          · rcases List.mem_append.1 hy with hy | hy
            · exact inv.apart x y _ _ _ _ hx hy x1 y1 hxr hyr hxy
            · rcases List.mem_cons.1 hy with hy | hy
              · rw [hy] at y2; exact absurd rfl y2
              · have := old x _ _ hx x1 hxr
                have := new y _ _ hy hyr
                omega
          · rcases List.mem_cons.1 hx with hx | hx
            · rw [hx] at x2; exact absurd rfl x2
            · rcases List.mem_append.1 hy with hy | hy
              · have := old y _ _ hy y1 hyr
                have := new x _ _ hx hxr
                omega
              · rcases List.mem_cons.1 hy with hy | hy
                · rw [hy] at y2; exact absurd rfl y2
                · exact seg_apart B W d1 hg3 t2 hx hy hxr hyr hxy
        · intro y o3 wr3 hy hys hyr
          obtain ⟨y1, y2⟩ := hback _ hys
          rcases List.mem_append.1 hy with hy | hy
          · rcases (r1 y hy).2 hxe _ hyr rfl rfl with h3 | h3 | h3
            · exfalso
              rw [h.anc e he] at h3
              rw [hr _ (h.lt (by rw [inv.split]; simp [hy])) h3] at y1
              cases y1
            · exfalso
              simp [rd] at h3
            · obtain ⟨m1, m2, m3, m4⟩ := inv.news y o3 wr3 hy y1 hyr
              rw [hhd] at m3
              have k1 := (good_new (h.good y (by rw [inv.split]; simp [hy])) hyr).1
              rw [k1] at h3
              have k2 := kept_spec h3
              have k3 := f1.nx
              rw [hd32]
              exact ⟨(f1.old _ m3).1.trans m1, m2, by omega, i1 _ _ k2⟩
          · rcases List.mem_cons.1 hy with hy | hy
            · rw [hy] at y2; exact absurd rfl y2
            · have k1 := i3 y _ hy hyr rfl
              have k2 := (i5 y hy).2.2
              have k3 := (good_new (hg3 y hy) hyr).2.2
              have k4 := hfits.nx
              have k5 := f1.nx
              rw [hd32]
              exact ⟨(hw'.fresh _ k1.1).1, by omega, k1.2, k2 _ _ k3⟩
      · intro v H2 v' K' w' hres; cases hres

end
end Go.Aes
