import Derived.Test.YtnmljkjdflfdoaaDoorOX3
set_option linter.all false
set_option linter.unusedVariables false
set_option linter.unusedSimpArgs false
namespace Go.Aes
open Go.RowKit

theorem RO_ext {K : KC} {w : World} {i : Nat} {o : AO} (h : RO K w i o) : RO K w i o := h
theorem RW.ext {B : Nat} {W w : World} {K : KC} {H H' : AH} (h : RW B W K H w) (hg : ∀ i, H'.get i = H.get i) (hn : H'.nx = H.nx) : RW B W K H' w := by
  have ho : ∀ i, own K H' i = own K H i := fun i => by unfold own; rw [hg]
  exact {
    below := h.below
    le := h.le
    fr := h.fr
    obj := fun i o hi => h.obj i o (by rw [← hg]; exact hi)
    low := fun i b hb => h.low i b (by rw [← ho]; exact hb)
    sep := fun i j b hi hj => h.sep i j b (by rw [← ho]; exact hi) (by rw [← ho]; exact hj)
    fresh := fun i hi => h.fresh i (by rw [← hn]; exact hi)
    zz := h.zz }

/-- a store looks at its own object alone -/
theorem storeAt_at {X : Cx} {t i o : Nat} {x : AV} {H H' : AH} (h : storeAt X t (.ptr i o) x H = some H') : ∃ ob, H' = H.set i (some ob) ∧ H.okI i = true ∧
    ∀ G : AH, G.get i = H.get i → G.okI i = true → storeAt X t (.ptr i o) x G = some (G.set i (some ob)) := by
  unfold storeAt at h ⊢
  cases hs : X.size t with
  | none => simp [hs] at h
  | some n =>
    simp only [hs] at h ⊢
    cases hb : (x.cells.length.beq n && allOne x.cells) with
    | false => simp [hb] at h
    | true =>
      simp only [hb, cond_true] at h ⊢
      cases hg : H.get i with
      | none => simp [hg] at h
      | some ob =>
        cases ob <;> (try simp only [hg] at h) <;> (try (cases h; done))
        · rename_i cs
          cases hr : setRange cs o x.cells with
          | none => simp [hr] at h
          | some cs' =>
            simp only [hr] at h
            cases hi : H.okI i with
            | false => simp [hi] at h
            | true =>
              simp only [hi, cond_true, Option.some.injEq] at h
              refine ⟨_, h.symm, rfl, fun G hG hk => ?_⟩
              simp only [hG, hr, hk, cond_true]
        · rename_i t' k' cs
          cases hr : setRange cs o x.cells with
          | none => simp [hr] at h
          | some cs' =>
            simp only [hr] at h
            cases hi : (H.okI i && k'.ble 1) with
            | false => simp [hi] at h
            | true =>
              simp only [hi, cond_true, Option.some.injEq] at h
              simp only [Bool.and_eq_true] at hi
              refine ⟨_, h.symm, hi.1, fun G hG hk => ?_⟩
              simp only [hG, hr, hk, hi.2, Bool.and_self, cond_true]

theorem okI_set (H : AH) (i j : Nat) (o : Option AO) : (H.set i o).okI j = H.okI j := by
  cases H with
  | tr t nx => rfl
  | fn f nx p =>
    unfold AH.set
    simp only []
    split <;> rfl

theorem opTmps_looks {all : List Oper} {o : Oper} (h : noG o = true) {t : Nat} (ht : t ∈ looks all o) : t ∈ opTmps o := by
  unfold noG at h
  unfold looks at ht
  cases hg : o.guard with
  | none =>
    rw [hg] at ht
    simp only [List.append_nil, List.mem_filterMap] at ht
    obtain ⟨a, h1, h2⟩ := ht
    unfold opTmps
    refine List.mem_filterMap.2 ⟨a, h1, ?_⟩
    cases a <;> simp_all
  | some g => rw [hg] at h; cases h

theorem addr_val {X : Cx} {f : Nat} {fr : Fr} {o : Oper} {n : In} (h : addrOp o = true) (hi : inst X f fr o = some n) : ∃ v, n = .val v := by
  unfold addrOp at h
  unfold inst at hi
  cases hop : o.op <;> rw [hop] at h hi <;> simp only [] at h hi <;> first | (cases h; done) | skip
  · cases hx : ev fr (by assumption) <;> first | (simp [hx] at hi; done) | skip
    all_goals
      simp only [hx] at hi
      obtain ⟨r, _, rfl⟩ := pv_some hi
      exact ⟨r, rfl⟩
  · rename_i t x y
    cases hx : ev fr x with
    | none => simp [hx] at hi
    | some vx =>
      cases hy : ev fr y with
      | none => simp [hx, hy] at hi
      | some vy =>
        simp only [hx, hy] at hi
        obtain ⟨r, _, rfl⟩ := pv_some hi
        exact ⟨r, rfl⟩

section
variable {ds : List Deferred}
variable {X : Cx} {P : Program} {B : Nat} {W : World} {C : CallF} {f nt : Nat} {ops : Array Oper} {A : Nat → Nat → Bool} {T : List Evt} {s : St} {K0 : KC}

theorem putD_c {nt : Nat} (hnt : nt < 2 ^ 39) {fr : Fr} {d e : Option Nat} {u v : AV} (hd : dstOk nt d = true) (he : dstOk nt e = true) (hne : ∀ x, d = some x → e ≠ some x) (t : Nat) :
    (putD (putD fr d u) e v).get t = (putD (putD fr e v) d u).get t := by
  rw [putD_get hnt he, putD_get hnt hd, putD_get hnt hd, putD_get hnt he]
  by_cases h1 : d = some t
  · have h2 := hne t h1
    simp [h1, h2]
  · simp [h1]

/-- the end: two places reckoned, two stores -/
structure TwE (X : Cx) (f nt : Nat) (ops : Array Oper) (A : Nat → Nat → Bool) (a1 a2 s1 s2 : PO') (sm s' : St) where
  v1 : AV
  v2 : AV
  t1 : Nat
  t2 : Nat
  j1 : Nat
  j2 : Nat
  p1 : Nat
  p2 : Nat
  x1 : AV
  x2 : AV
  H1 : AH
  H2 : AH
  d1 : dstOk nt a1.2.2.dst = true
  d2 : dstOk nt a2.2.2.dst = true
  i1 : inst X f sm.fr a1.2.2 = some (.val v1)
  i2 : inst X f sm.fr a2.2.2 = some (.val v2)
  k1 : inst X f (putD (putD sm.fr a1.2.2.dst v1) a2.2.2.dst v2) s1.2.2 = some (.store t1 (.ptr j1 p1) x1)
  k2 : inst X f (putD (putD sm.fr a1.2.2.dst v1) a2.2.2.dst v2) s2.2.2 = some (.store t2 (.ptr j2 p2) x2)
  ne : j1 ≠ j2
  e1 : storeAt X t1 (.ptr j1 p1) x1 sm.H = some H1
  e2 : storeAt X t2 (.ptr j2 p2) x2 H1 = some H2
  fin : s' = { fr := putD (putD sm.fr a1.2.2.dst v1) a2.2.2.dst v2, H := H2 }
  o1 : ops[a1.1]? = some a1.2.2
  o2 : ops[a2.1]? = some a2.2.2
  o3 : ops[s1.1]? = some s1.2.2
  o4 : ops[s2.1]? = some s2.2.2
  g1 : noG a1.2.2 = true
  g2 : noG a2.2.2 = true
  g3 : noG s1.2.2 = true
  g4 : noG s2.2.2 = true
  c1 : apartB a1.2.2.dst a2.2.2 = true
  c2 : apartB a1.2.2.dst s2.2.2 = true
  c3 : apartB a2.2.2.dst a1.2.2 = true
  c4 : apartB a2.2.2.dst s1.2.2 = true
  n1 : s1.2.2.dst = none
  n2 : s2.2.2.dst = none
  u1 : A s1.1 a1.1 = true
  u2 : A s2.1 a2.1 = true

/-- slots and memory when so much is done -/
def TwE.fr {sm s' : St} {a1 a2 s1 s2 : PO'} (h : TwE X f nt ops A a1 a2 s1 s2 sm s') (b1 b2 : Bool) : Fr :=
  bif b2 then putD (bif b1 then putD sm.fr a1.2.2.dst h.v1 else sm.fr) a2.2.2.dst h.v2 else bif b1 then putD sm.fr a1.2.2.dst h.v1 else sm.fr

theorem noG_wanted {fr : Fr} {all : List Oper} {o : Oper} (h : noG o = true) : wantedB fr all o = true := by
  unfold noG at h
  unfold wantedB
  cases hg : o.guard with
  | none => rfl
  | some g => rw [hg] at h; cases h

theorem inst_apart {fr : Fr} {d : Option Nat} {v : AV} {o : Oper} (hnt : nt < 2 ^ 39) (hd : dstOk nt d = true) (hg : noG o = true) (h : apartB d o = true) : inst X f (putD fr d v) o = inst X f fr o := by
  refine looks_inst (all := []) fun t ht => ?_
  have ht' := opTmps_looks hg ht
  unfold apartB at h
  cases d with
  | none => cases h
  | some d =>
    simp only [Bool.and_eq_true, Bool.not_eq_true', List.contains_eq_mem, decide_eq_false_iff_not] at h
    rw [putD_get hnt hd, if_neg]
    intro e
    injection e with e
    subst e
    exact h.1 ht'

/-- the heap when so much is stored; the other way round it is the same one -/
theorem TwE.heaps {sm s' : St} {a1 a2 s1 s2 : PO'} (h : TwE X f nt ops A a1 a2 s1 s2 sm s') : ∃ G2 G21, storeAt X h.t2 (.ptr h.j2 h.p2) h.x2 sm.H = some G2 ∧ storeAt X h.t1 (.ptr h.j1 h.p1) h.x1 G2 = some G21 ∧ (∀ i, h.H2.get i = G21.get i) ∧ h.H2.nx = G21.nx := by
  obtain ⟨ob1, q1, q2, q3⟩ := storeAt_at h.e1
  obtain ⟨ob2, r1, r2, r3⟩ := storeAt_at h.e2
  have hk1 : ∀ j o, (sm.H.set j o).okI h.j1 = true := fun j o => by rw [okI_set]; exact q2
  have hk2 : sm.H.okI h.j2 = true := by rw [q1, okI_set] at r2; exact r2
  have hg2 : sm.H.get h.j2 = h.H1.get h.j2 := by rw [q1, AH.get_set _ _ _ _ q2, if_neg (Ne.symm h.ne)]
  refine ⟨_, _, r3 sm.H hg2 hk2, q3 _ (by rw [AH.get_set _ _ _ _ hk2, if_neg h.ne]) (hk1 _ _), fun i => ?_, ?_⟩
  · rw [r1, q1, AH.get_set _ _ _ _ (by rw [okI_set]; exact hk2), AH.get_set _ _ _ _ q2, AH.get_set _ _ _ _ (hk1 _ _), AH.get_set _ _ _ _ hk2]
    by_cases e1 : i = h.j1
    · by_cases e2 : i = h.j2
      · exact absurd (e1.symm.trans e2) h.ne
      · rw [if_neg e2, if_pos e1, if_pos e1]
    · rw [if_neg e1, if_neg e1]
  · rw [r1, q1, AH.nx_set, AH.nx_set, AH.nx_set, AH.nx_set]

theorem tail_any (ok : CxOk X P) (hc : CallOk P B W C) {sm s' : St} {a1 a2 s1 s2 : PO'} {L : List PO'} (pl : Pl ops A (L ++ [a1, a2, s1, s2])) (hnt : nt < 2 ^ 39) (h : TwE X f nt ops A a1 a2 s1 s2 sm s')
    {Q : Exit → Act → World → Prop} {G2 : AH} (hG : storeAt X h.t2 (.ptr h.j2 h.p2) h.x2 sm.H = some G2) {G21 : AH} (hG2 : storeAt X h.t1 (.ptr h.j1 h.p1) h.x1 G2 = some G21) (hge : ∀ i, h.H2.get i = G21.get i) (hgn : h.H2.nx = G21.nx) {H0 : AH} {K0 : KC} (sat : Sat ds B W nt K0 H0 .normal s' Q) :
    ∀ (fuel : Nat) (listed : Array Bool) (a : Act) (w : World) (K : KC), listed.size = ops.size → (∀ q, q ∈ L → listed.getD q.1 false = true) → (∀ i j, j < ops.size → listed.getD i false = true → A i j = true → listed.getD j false = true) →
      ([a1, a2, s1, s2].filter fun q => !listed.getD q.1 false).length ≤ fuel → RF ds K nt (h.fr (listed.getD a1.1 false) (listed.getD a2.1 false)) a →
      RW B W K (bif listed.getD s2.1 false then (bif listed.getD s1.1 false then h.H2 else G2) else (bif listed.getD s1.1 false then h.H1 else sm.H)) w →
      Fits K0 H0 K (bif listed.getD s2.1 false then (bif listed.getD s1.1 false then h.H2 else G2) else (bif listed.getD s1.1 false then h.H1 else sm.H)) → wpAny P .any ops Q fuel listed a w := by
  have hord := pl.ord
  have ho4 : [a1, a2, s1, s2].Pairwise (fun p q => A p.1 q.1 = false ∧ p.1 ≠ q.1) := (List.pairwise_append.1 hord).2.1
  simp only [List.pairwise_cons, List.mem_cons, List.not_mem_nil, or_false, forall_eq_or_imp, forall_eq] at ho4
  obtain ⟨⟨n12, n13, n14⟩, ⟨n23, n24⟩, n34, _⟩ := ho4
  intro fuel
  -- all done
  have fin : ∀ (listed : Array Bool) (a : Act) (w : World) (K : KC), (∀ q, q ∈ [a1, a2, s1, s2] → listed.getD q.1 false = true) → RF ds K nt (h.fr (listed.getD a1.1 false) (listed.getD a2.1 false)) a →
      RW B W K (bif listed.getD s2.1 false then (bif listed.getD s1.1 false then h.H2 else G2) else (bif listed.getD s1.1 false then h.H1 else sm.H)) w →
      Fits K0 H0 K (bif listed.getD s2.1 false then (bif listed.getD s1.1 false then h.H2 else G2) else (bif listed.getD s1.1 false then h.H1 else sm.H)) → Q .normal a w := by
    intro listed a w K hall rf rw' fits
    have b1 := hall a1 (by simp)
    have b2 := hall a2 (by simp)
    have b3 := hall s1 (by simp)
    have b4 := hall s2 (by simp)
    simp only [b1, b2, b3, b4, cond_true] at rf rw' fits
    have hf : s'.fr = h.fr true true := congrArg St.fr h.fin
    have hh : s'.H = h.H2 := congrArg St.H h.fin
    exact sat K a w Go.undef (by rw [hh]; exact fits) (show RF ds K nt s'.fr a by rw [hf]; exact rf) (by rw [hh]; exact rw') (fun v hv => by cases hv)
  induction fuel with
  | zero =>
    intro listed a w K hsz hL hcl hfu rf rw' fits
    have hall : ∀ q, q ∈ [a1, a2, s1, s2] → listed.getD q.1 false = true := by
      intro q hq
      cases hl : listed.getD q.1 false with
      | true => rfl
      | false =>
        have : q ∈ [a1, a2, s1, s2].filter fun q => !listed.getD q.1 false := List.mem_filter.2 ⟨hq, by simp only [hl, Bool.not_false]⟩
        have := List.length_pos_of_mem this
        omega
    refine ⟨?_, fin listed a w K hall rf rw' fits⟩
    cases hr : Region.ready .any ops listed with
    | nil => rfl
    | cons j r =>
      exfalso
      have hj : j ∈ Region.ready .any ops listed := by rw [hr]; simp
      obtain ⟨h1, o, h2, _⟩ := mem_ready.1 hj
      have hjlt := (Array.getElem?_eq_some_iff.1 h2).1
      obtain ⟨q, q1, q2⟩ := pl.full j hjlt
      have h3 : listed.getD j false = true := by
        rw [← q2]
        rcases List.mem_append.1 q1 with q1 | q1
        · exact hL q q1
        · exact hall q q1
      rw [Array.getD_eq_getD_getElem?] at h1 h3
      have : j < listed.size := by rw [hsz]; exact hjlt
      simp [this] at h1 h3
      rw [h1] at h3; cases h3
  | succ fuel ih =>
    intro listed a w K hsz hL hcl hfu rf rw' fits
    refine ⟨fun hr => ?_, fun j hj => ?_⟩
    · rcases first_not (fun p : PO' => listed.getD p.1 false) (L ++ [a1, a2, s1, s2]) with h0 | ⟨L1, x, L2, h1, h2, h3⟩
      · exact fin listed a w K (fun q hq => h0 q (List.mem_append_right _ hq)) rf rw' fits
      · have := ready_first pl hsz h1 h2 h3
        rw [hr] at this
        cases this
    · obtain ⟨h1, o, h2, h3⟩ := mem_ready.1 hj
      have hjlt := (Array.getElem?_eq_some_iff.1 h2).1
      have hjl : j < listed.size := by omega
      have hS : listed.getD j false = false := by
        rw [Array.getD_eq_getD_getElem?] at h1 ⊢
        simp [hjl] at h1 ⊢
        exact h1
      have hup : ∀ k, k < ops.size → A j k = true → listed.getD k false = true := by
        intro k hk ha
        obtain ⟨d, d1, d2, d3⟩ := pl.up j o h2 k hk ha
        have d4 := h3 d d1 d2
        rcases d3 with d3 | d3
        · rw [← d3]; exact d4
        · exact hcl d.on k hk d4 d3
      have hnx : ∀ k, (listed.setIfInBounds j true).getD k false = if k = j then true else listed.getD k false := by
        intro k
        by_cases hk : k = j
        · subst hk; simp [hjl]
        · simp [Array.getElem?_setIfInBounds_ne (Ne.symm hk), hk]
      have hsz' : (listed.setIfInBounds j true).size = ops.size := by rw [Array.size_setIfInBounds]; exact hsz
      have hL' : ∀ q, q ∈ L → (listed.setIfInBounds j true).getD q.1 false = true := by
        intro q hq
        rw [hnx]
        by_cases hk : q.1 = j
        · rw [if_pos hk]
        · rw [if_neg hk]; exact hL q hq
      have hcl' : ∀ i k, k < ops.size → (listed.setIfInBounds j true).getD i false = true → A i k = true → (listed.setIfInBounds j true).getD k false = true := by
        intro i k hk hi ha
        rw [hnx] at hi ⊢
        by_cases e1 : k = j
        · rw [if_pos e1]
        · rw [if_neg e1]
          by_cases e2 : i = j
          · rw [e2] at ha; exact hup k hk ha
          · rw [if_neg e2] at hi; exact hcl i k hk hi ha
      have hfu' : ∀ q, q ∈ [a1, a2, s1, s2] → q.1 = j → ([a1, a2, s1, s2].filter fun q => !(listed.setIfInBounds j true).getD q.1 false).length ≤ fuel := by
        intro q hq hqj
        have : ([a1, a2, s1, s2].filter fun q => !(listed.setIfInBounds j true).getD q.1 false).length < ([a1, a2, s1, s2].filter fun q => !listed.getD q.1 false).length := by
          refine filter_lt (fun x hx hp => ?_) hq (by rw [hqj, hS]; rfl) (by rw [hnx, if_pos hqj]; rfl)
          rw [hnx] at hp
          split at hp
          · cases hp
          · exact hp
        omega
      obtain ⟨q, q1, q2⟩ := pl.full j hjlt
      rcases List.mem_append.1 q1 with q1 | q1
      · have := hL q q1
        rw [q2, hS] at this; cases this
      have hm := q1
      simp only [List.mem_cons, List.not_mem_nil, or_false] at q1
      have go := ih (listed.setIfInBounds j true)
      have lt1 := (Array.getElem?_eq_some_iff.1 h.o1).1
      have lt2 := (Array.getElem?_eq_some_iff.1 h.o2).1
      unfold wpOp
      rcases q1 with rfl | rfl | rfl | rfl
      · -- the first place
        subst q2
        rw [h.o1]
        simp only []
        rw [rf.wanted ops q.2.2, noG_wanted h.g1]
        simp only [if_true]
        left
        have hin : inst X f (h.fr (listed.getD q.1 false) (listed.getD a2.1 false)) q.2.2 = some (.val h.v1) := by
          rw [hS]
          unfold TwE.fr
          cases listed.getD a2.1 false with
          | false => exact h.i1
          | true => simp only [cond_true, cond_false]; rw [inst_apart hnt h.d2 h.g1 h.c3]; exact h.i1
        refine exec_wp (C := C) ok hc (r := .val h.v1 _) rfl (inst_sim ok hin rf) rw' ?_ (fun v2 H2 v' K' w' hres => by cases hres)
        intro v2 H2 v' K' w' hres f1 hv hw'
        injection hres with hr1 hr2
        subst hr1
        subst hr2
        have e1 : (if a2.1 = q.1 then true else listed.getD a2.1 false) = listed.getD a2.1 false := if_neg (Ne.symm n12.2)
        have e2 : (if s1.1 = q.1 then true else listed.getD s1.1 false) = listed.getD s1.1 false := if_neg (Ne.symm n13.2)
        have e3 : (if s2.1 = q.1 then true else listed.getD s2.1 false) = listed.getD s2.1 false := if_neg (Ne.symm n14.2)
        refine go _ w' K' hsz' hL' hcl' (hfu' q hm rfl) ?_ ?_ ?_
        · rw [hnx, hnx, if_pos rfl, e1]
          refine ((rf.mono f1.le).put hnt h.d1 hv).congr fun t => ?_
          rw [hS]
          unfold TwE.fr
          cases listed.getD a2.1 false with
          | false => rfl
          | true =>
            simp only [cond_true, cond_false]
            refine putD_c hnt h.d2 h.d1 (fun x hx => ?_) t
            have := h.c3
            rw [hx] at this
            simp only [apartB, Bool.and_eq_true, Bool.not_eq_true', beq_eq_false_iff_ne] at this
            exact this.2
        · rw [hnx, hnx, e2, e3]; exact hw'
        · rw [hnx, hnx, e2, e3]; exact fits.trans f1
      · -- the second place
        subst q2
        rw [h.o2]
        simp only []
        rw [rf.wanted ops q.2.2, noG_wanted h.g2]
        simp only [if_true]
        left
        have hin : inst X f (h.fr (listed.getD a1.1 false) (listed.getD q.1 false)) q.2.2 = some (.val h.v2) := by
          rw [hS]
          unfold TwE.fr
          cases listed.getD a1.1 false with
          | false => exact h.i2
          | true => simp only [cond_true, cond_false]; rw [inst_apart hnt h.d1 h.g2 h.c1]; exact h.i2
        refine exec_wp (C := C) ok hc (r := .val h.v2 _) rfl (inst_sim ok hin rf) rw' ?_ (fun v2 H2 v' K' w' hres => by cases hres)
        intro v2 H2 v' K' w' hres f1 hv hw'
        injection hres with hr1 hr2
        subst hr1
        subst hr2
        have e1 : (if a1.1 = q.1 then true else listed.getD a1.1 false) = listed.getD a1.1 false := if_neg n12.2
        have e2 : (if s1.1 = q.1 then true else listed.getD s1.1 false) = listed.getD s1.1 false := if_neg (Ne.symm n23.2)
        have e3 : (if s2.1 = q.1 then true else listed.getD s2.1 false) = listed.getD s2.1 false := if_neg (Ne.symm n24.2)
        refine go _ w' K' hsz' hL' hcl' (hfu' q hm rfl) ?_ ?_ ?_
        · rw [hnx, hnx, if_pos rfl, e1]
          refine ((rf.mono f1.le).put hnt h.d2 hv).congr fun t => ?_
          rw [hS]
          unfold TwE.fr
          simp only [cond_true, cond_false]
        · rw [hnx, hnx, e2, e3]; exact hw'
        · rw [hnx, hnx, e2, e3]; exact fits.trans f1
      · -- the first store
        subst q2
        have b1 := hup a1.1 lt1 h.u1
        rw [h.o3]
        simp only []
        rw [rf.wanted ops q.2.2, noG_wanted h.g3]
        simp only [if_true]
        left
        have hin : inst X f (h.fr (listed.getD a1.1 false) (listed.getD a2.1 false)) q.2.2 = some (.store h.t1 (.ptr h.j1 h.p1) h.x1) := by
          rw [b1]
          have := h.k1
          rw [inst_apart hnt h.d2 h.g3 h.c4] at this
          unfold TwE.fr
          cases listed.getD a2.1 false with
          | false => exact this
          | true => simp only [cond_true]; rw [inst_apart hnt h.d2 h.g3 h.c4]; exact this
        have e1 : (if a1.1 = q.1 then true else listed.getD a1.1 false) = listed.getD a1.1 false := if_neg n13.2
        have e2 : (if a2.1 = q.1 then true else listed.getD a2.1 false) = listed.getD a2.1 false := if_neg n23.2
        have e3 : (if s2.1 = q.1 then true else listed.getD s2.1 false) = listed.getD s2.1 false := if_neg (Ne.symm n34.2)
        have hpa : ∀ v', a.put q.2.2.dst v' = a := fun v' => by rw [h.n1]; rfl
        rw [hS] at rw' fits
        cases b4 : listed.getD s2.1 false with
        | false =>
          rw [b4] at rw' fits
          simp only [cond_false] at rw' fits
          have hex : exec X C (.store h.t1 (.ptr h.j1 h.p1) h.x1) sm.H = some (.val Aes.undef h.H1) := by
            show u1 (storeAt X h.t1 (.ptr h.j1 h.p1) h.x1 sm.H) = _
            rw [h.e1]; rfl
          refine exec_wp (C := C) ok hc hex (inst_sim ok hin rf) rw' ?_ (fun v2 H2 v' K' w' hres => by cases hres)
          intro v2 H2 v' K' w' hres f1 hv hw'
          injection hres with hr1 hr2
          subst hr1
          subst hr2
          rw [hpa]
          refine go _ w' K' hsz' hL' hcl' (hfu' q hm rfl) ?_ ?_ ?_
          · rw [hnx, hnx, e1, e2]; exact rf.mono f1.le
          · rw [hnx, hnx, e3, if_pos rfl, b4]; exact hw'
          · rw [hnx, hnx, e3, if_pos rfl, b4]; exact fits.trans f1
        | true =>
          rw [b4] at rw' fits
          simp only [cond_false, cond_true] at rw' fits
          have hex : exec X C (.store h.t1 (.ptr h.j1 h.p1) h.x1) G2 = some (.val Aes.undef G21) := by
            show u1 (storeAt X h.t1 (.ptr h.j1 h.p1) h.x1 G2) = _
            rw [hG2]; rfl
          refine exec_wp (C := C) ok hc hex (inst_sim ok hin rf) rw' ?_ (fun v2 H2 v' K' w' hres => by cases hres)
          intro v2 H2 v' K' w' hres f1 hv hw'
          injection hres with hr1 hr2
          subst hr1
          subst hr2
          rw [hpa]
          have ff := fits.trans f1
          refine go _ w' K' hsz' hL' hcl' (hfu' q hm rfl) ?_ ?_ ?_
          · rw [hnx, hnx, e1, e2]; exact rf.mono f1.le
          · rw [hnx, hnx, e3, if_pos rfl, b4]; exact hw'.ext hge hgn
          · rw [hnx, hnx, e3, if_pos rfl, b4]; exact ⟨ff.le, by simp only [cond_true]; rw [hgn]; exact ff.nx, ff.old⟩
      · -- the second store
        subst q2
        have b2 := hup a2.1 lt2 h.u2
        rw [h.o4]
        simp only []
        rw [rf.wanted ops q.2.2, noG_wanted h.g4]
        simp only [if_true]
        left
        have hin : inst X f (h.fr (listed.getD a1.1 false) (listed.getD a2.1 false)) q.2.2 = some (.store h.t2 (.ptr h.j2 h.p2) h.x2) := by
          rw [b2]
          have := h.k2
          have hc' : inst X f (putD (putD sm.fr a1.2.2.dst h.v1) a2.2.2.dst h.v2) q.2.2 = inst X f (putD (putD sm.fr a2.2.2.dst h.v2) a1.2.2.dst h.v1) q.2.2 := by
            refine looks_inst (all := []) fun t ht => putD_c hnt h.d1 h.d2 (fun x hx => ?_) t
            have := h.c1
            rw [hx] at this
            simp only [apartB, Bool.and_eq_true, Bool.not_eq_true', beq_eq_false_iff_ne] at this
            exact this.2
          unfold TwE.fr
          cases listed.getD a1.1 false with
          | true => exact this
          | false =>
            simp only [cond_true, cond_false]
            rw [hc', inst_apart hnt h.d1 h.g4 h.c2] at this
            exact this
        have e1 : (if a1.1 = q.1 then true else listed.getD a1.1 false) = listed.getD a1.1 false := if_neg n14.2
        have e2 : (if a2.1 = q.1 then true else listed.getD a2.1 false) = listed.getD a2.1 false := if_neg n24.2
        have e3 : (if s1.1 = q.1 then true else listed.getD s1.1 false) = listed.getD s1.1 false := if_neg n34.2
        have hpa : ∀ v', a.put q.2.2.dst v' = a := fun v' => by rw [h.n2]; rfl
        rw [hS] at rw' fits
        simp only [cond_false] at rw' fits
        cases b3 : listed.getD s1.1 false with
        | false =>
          rw [b3] at rw' fits
          simp only [cond_false] at rw' fits
          have hex : exec X C (.store h.t2 (.ptr h.j2 h.p2) h.x2) sm.H = some (.val Aes.undef G2) := by
            show u1 (storeAt X h.t2 (.ptr h.j2 h.p2) h.x2 sm.H) = _
            rw [hG]; rfl
          refine exec_wp (C := C) ok hc hex (inst_sim ok hin rf) rw' ?_ (fun v2 H2 v' K' w' hres => by cases hres)
          intro v2 H2 v' K' w' hres f1 hv hw'
          injection hres with hr1 hr2
          subst hr1
          subst hr2
          rw [hpa]
          refine go _ w' K' hsz' hL' hcl' (hfu' q hm rfl) ?_ ?_ ?_
          · rw [hnx, hnx, e1, e2]; exact rf.mono f1.le
          · rw [hnx, hnx, e3, if_pos rfl, b3]; exact hw'
          · rw [hnx, hnx, e3, if_pos rfl, b3]; exact fits.trans f1
        | true =>
          rw [b3] at rw' fits
          simp only [cond_true] at rw' fits
          have hex : exec X C (.store h.t2 (.ptr h.j2 h.p2) h.x2) h.H1 = some (.val Aes.undef h.H2) := by
            show u1 (storeAt X h.t2 (.ptr h.j2 h.p2) h.x2 h.H1) = _
            rw [h.e2]; rfl
          refine exec_wp (C := C) ok hc hex (inst_sim ok hin rf) rw' ?_ (fun v2 H2 v' K' w' hres => by cases hres)
          intro v2 H2 v' K' w' hres f1 hv hw'
          injection hres with hr1 hr2
          subst hr1
          subst hr2
          rw [hpa]
          refine go _ w' K' hsz' hL' hcl' (hfu' q hm rfl) ?_ ?_ ?_
          · rw [hnx, hnx, e1, e2]; exact rf.mono f1.le
          · rw [hnx, hnx, e3, if_pos rfl, b3]; exact hw'
          · rw [hnx, hnx, e3, if_pos rfl, b3]; exact fits.trans f1

end
end Go.Aes
set_option linter.unusedVariables false
set_option linter.unusedSimpArgs false
namespace Go.Aes
open Go.RowKit

section
variable {ds : List Deferred}
variable {X : Cx} {P : Program} {B : Nat} {W : World} {C : CallF} {f nt : Nat} {ops : Array Oper} {A : Nat → Nat → Bool} {T : List Evt} {s : St} {K0 : KC}

theorem dops_any_t (ok : CxOk X P) (hc : CallOk P B W C) {sm s' : St} (h : Cn X C f nt ops A T s sm) {a1 a2 s1 s2 : PO'} (tw : TwE X f nt ops A a1 a2 s1 s2 sm s') (pl : Pl ops A (T.map Evt.key ++ [a1, a2, s1, s2])) (hnt : nt < 2 ^ 39)
    (hblk : ∀ q, q ∈ [a1, a2, s1, s2] → ∀ e, e ∈ T → A q.1 e.i = true) {Q : Exit → Act → World → Prop} (sat : Sat ds B W nt K0 s.H .normal s' Q) :
    ∀ (fuel : Nat) (listed : Array Bool) (a : Act) (w : World) (K : KC) (T0 T2 : List Evt), listed.size = ops.size → (T.filter fun e => !listed.getD e.i false).length + 4 ≤ fuel → (∀ q, q ∈ [a1, a2, s1, s2] → listed.getD q.1 false = false) →
      Inv0 X P ds B W nt ops A T s sm K0 (fun i => listed.getD i false) a w K T0 T2 → wpAny P .any ops Q fuel listed a w := by
  obtain ⟨G2, G21, hG, hG2, hge, hgn⟩ := tw.heaps
  intro fuel
  induction fuel with
  | zero => intro listed a w K T0 T2 hsz hfu; omega
  | succ fuel ih =>
    intro listed a w K T0 T2 hsz hfu hq4 inv
    rcases first_not (fun e : Evt => listed.getD e.i false) T with hall | ⟨Ta, e0, Tb, hT, _, he0⟩
    · have h2 : T2 = [] := by
        rcases inv.head with h1 | ⟨e, r, h1, h3⟩
        · exact h1
        · have := inv.later e (by rw [h1]; simp) h3
          rw [hall e (by rw [inv.split, h1]; simp)] at this
          cases this
      have hh : hdH T2 sm = sm.H := by rw [h2]; rfl
      have hf := inv.fits
      have hw := inv.rw
      rw [hh] at hf hw
      have rf : RF ds K nt sm.fr a := inv.rf.congr fun t => by
        rw [← h.chain.fold]
        exact foldS_congr hnt (fun e he => h.dst he) (fun e he _ => hall e he) rfl
      refine tail_any ok hc pl hnt tw hG hG2 hge hgn sat (fuel + 1) listed a w K hsz (fun q hq => ?_) inv.closed (Nat.le_trans (List.length_filter_le _ _) (by simp; omega)) ?_ ?_ ?_
      · obtain ⟨e, he, rfl⟩ := List.mem_map.1 hq
        exact hall e he
      · rw [hq4 a1 (by simp), hq4 a2 (by simp)]; exact rf
      · rw [hq4 s1 (by simp), hq4 s2 (by simp)]; exact hw
      · rw [hq4 s1 (by simp), hq4 s2 (by simp)]; exact hf
    · have he0T : e0 ∈ T := by rw [hT]; simp
      refine ⟨fun hr => ?_, fun j hj => ?_⟩
      · exfalso
        rcases first_not (fun p : Nat × Nat × Oper => listed.getD p.1 false) (T.map Evt.key ++ [a1, a2, s1, s2]) with h0 | ⟨L1, x, L2, h1, h2, h3⟩
        · have := h0 a1 (by simp)
          simp only [hq4 a1 (by simp)] at this
          cases this
        · have := ready_first pl hsz h1 h2 h3
          rw [hr] at this
          cases this
      · obtain ⟨h1, o, h2, h3⟩ := mem_ready.1 hj
        have hjlt := (Array.getElem?_eq_some_iff.1 h2).1
        have hjl : j < listed.size := by omega
        have hS : listed.getD j false = false := by
          rw [Array.getD_eq_getD_getElem?] at h1 ⊢
          simp [hjl] at h1 ⊢
          exact h1
        have hup : ∀ k, k < ops.size → A j k = true → listed.getD k false = true := by
          intro k hk ha
          obtain ⟨d, d1, d2, d3⟩ := pl.up j o h2 k hk ha
          have d4 := h3 d d1 d2
          rcases d3 with d3 | d3
          · rw [← d3]; exact d4
          · exact inv.closed d.on k hk d4 d3
        obtain ⟨q, q1, q2⟩ := pl.full j hjlt
        rcases List.mem_append.1 q1 with q1 | q1
        · obtain ⟨e, he, hk⟩ := List.mem_map.1 q1
          subst hk
          have hei : e.i = j := q2
          subst hei
          have hnx : ∀ j, (listed.setIfInBounds e.i true).getD j false = addS (fun i => listed.getD i false) e.i j := by
            intro j
            simp only [addS]
            by_cases hj : j = e.i
            · subst hj; simp [hjl]
            · simp [Array.getElem?_setIfInBounds_ne (Ne.symm hj), hj]
          refine step_wp ok hc h hnt inv he hS hup ?_
          intro a' w' K' T0' T2' inv'
          refine ih _ a' w' K' T0' T2' (by rw [Array.size_setIfInBounds]; exact hsz) ?_ ?_ ?_
          · have : (T.filter fun e_1 => !(listed.setIfInBounds e.i true).getD e_1.i false).length < (T.filter fun e => !listed.getD e.i false).length := by
              refine filter_lt (fun x hx hp => ?_) he (by simp only [hS, Bool.not_false]) (by simp only [hnx]; simp [addS])
              simp only [hnx] at hp
              simp only [addS, Bool.not_eq_true', Bool.or_eq_false_iff] at hp
              simp only [hp.1, Bool.not_false]
            omega
          · intro q hq
            rw [hnx]
            simp only [addS, hq4 q hq, Bool.false_or, decide_eq_false_iff_not]
            exact fun e1 => (((List.pairwise_append.1 pl.ord).2.2 e.key (List.mem_map_of_mem he) q hq).2 e1.symm)
          · have : (fun i => (listed.setIfInBounds e.i true).getD i false) = addS (fun i => listed.getD i false) e.i := funext hnx
            rw [this]
            exact inv'
        · exfalso
          have h4 := hup _ (h.lt he0T) (by rw [← q2]; exact hblk q q1 e0 he0T)
          rw [he0] at h4
          cases h4

theorem twSplit_spec {L L1 : List PO'} {a1 a2 s1 s2 : PO'} (h : twSplit L = some (L1, a1, a2, s1, s2)) : L = L1 ++ [a1, a2, s1, s2] ∧ twOk L1 a1 a2 s1 s2 = true := by
  unfold twSplit at h
  split at h
  · rename_i b1 b2 c1 c2 hd
    cases hk : twOk (L.take (L.length - 4)) b1 b2 c1 c2 with
    | false => rw [hk] at h; cases h
    | true =>
      rw [hk] at h
      simp only [cond_true, Option.some.injEq, Prod.mk.injEq] at h
      obtain ⟨rfl, rfl, rfl, rfl, rfl⟩ := h
      refine ⟨?_, hk⟩
      rw [← hd, List.take_append_drop]
  · cases h

theorem tops_wp (ok : CxOk X P) (hc : CallOk P B W C) {f nt id : Nat} (hnt : nt < 2 ^ 39) {ops : Array Oper} (hrg : rgOk ops.toList = true) {L1 : List PO'} {a1 a2 s1 s2 : PO'} (hsp : twSplit (plan ops.toList (ancestors ops.toList []) ops.toList.length 0) = some (L1, a1, a2, s1, s2))
    {s s' : St} {e : Ex} {K : KC} {a : Act} {w : World} {Q : Exit → Act → World → Prop}
    (h : tops X C f nt ops.toList L1 a1 a2 s1 s2 s = some (e, s')) (rf : RF ds K nt s.fr a) (hw : RW B W K s.H w) (sat : Sat ds B W nt K s.H e s' Q) : (Code.region id ops true).wp P Q a w := by
  obtain ⟨hplan, htw⟩ := twSplit_spec hsp
  unfold tops at h
  cases hd : dops X C f nt ops.toList L1 0 [] s with
  | none => rw [hd] at h; cases h
  | some p =>
  obtain ⟨e0, s0⟩ := p
  obtain ⟨T, R, sm, t1, t2, t3, t4, _, fin⟩ := trace (X := X) (C := C) (f := f) (nt := nt) (all := ops.toList) [] _ 0 [] s s0 e0 [] hd (fun e he => by simp at he) (fun e n he => by simp at he)
  have hk : plan ops.toList (ancestors ops.toList []) ops.toList.length 0 = T.map Evt.key ++ (R ++ [a1, a2, s1, s2]) := by rw [hplan, t1, List.append_assoc]
  obtain ⟨cn, pl⟩ := rgOk_spec hrg hk t2 t3 t4
  refine wp_region_any ok.mixed ?_
  obtain ⟨T1, T2, h1, h2, h3⟩ := spanEff T
  have hch := t2
  rw [h1] at hch
  obtain ⟨m, c1, c2⟩ := hch.split
  have hg1 : ∀ x, x ∈ T1 → Good X C f nt ops.toList x := fun x hx => t3 x (by rw [h1]; simp [hx])
  obtain ⟨i1, i2, i3, i4, i5⟩ := seg_mono (B := B) (W := W) c1 hg1 h2
  obtain ⟨j1, j2⟩ := i4 K _ hw.drew
  have hS0 : ∀ j, (Array.replicate ops.size false).getD j false = false := by
    intro j
    rw [Array.getD_eq_getD_getElem?, Array.getElem?_replicate]
    split <;> rfl
  have hfold : ∀ (T : List Evt) (fr : Fr), foldS (fun i => (Array.replicate ops.size false).getD i false) T fr = fr := by
    intro T
    induction T with
    | nil => intro fr; rfl
    | cons e r ih =>
      intro fr
      simp only [foldS]
      have := hS0 e.i
      rw [this]
      exact ih fr
  have hlen : T.length + (R.length + 4) ≤ ops.size := by
    have := congrArg List.length hk
    rw [List.length_append, List.length_map, List.length_append] at this
    simp only [List.length_cons, List.length_nil, Nat.zero_add, Nat.reduceAdd] at this
    have h9 := plan_len (all := ops.toList) (ancs := ancestors ops.toList []) (n := ops.toList.length) (done := 0)
    rw [this] at h9
    simpa using h9
  have inv : Inv0 X P ds B W nt ops (fun i j => bit ((ancestors ops.toList []).getD i 0) j) T s sm K (fun i => (Array.replicate ops.size false).getD i false) a _ K T1 T2 := ⟨h1, ?_, ?_, ?_, h3, by rw [hfold]; exact rf, by rw [c2.hd]; exact j1, by rw [c2.hd]; exact j2, fun x y o wr o2 wr2 hx hy _ _ hxr hyr hxy => seg_apart B W c1 hg1 h2 hx hy hxr hyr hxy, ?_⟩
  · unfold twOk at htw
    simp only [Bool.and_eq_true, List.all_cons, List.all_nil, Bool.and_true] at htw
    obtain ⟨⟨⟨⟨⟨⟨⟨⟨⟨⟨⟨⟨⟨⟨w1, w2⟩, w3⟩, w4⟩, w5⟩, w6⟩, w7⟩, w8⟩, w9⟩, w10⟩, w11⟩, w12⟩, w13⟩, w14⟩, w15⟩ := htw
    obtain ⟨⟨x1, y1⟩, ⟨x2, y2⟩, ⟨x3, y3⟩, x4, y4⟩ := w3
    have hblk : ∀ q, q ∈ [a1, a2, s1, s2] → ∀ p, p ∈ L1 → bit q.2.1 p.1 = true := by
      intro q hq p hp
      simp only [List.mem_cons, List.not_mem_nil, or_false] at hq
      rcases hq with rfl | rfl | rfl | rfl
      · exact List.all_eq_true.1 x1 p hp
      · exact List.all_eq_true.1 x2 p hp
      · exact List.all_eq_true.1 x3 p hp
      · exact List.all_eq_true.1 x4 p hp
    rcases fin with ⟨rfl, rfl, rfl⟩ | ⟨i, anc, o, r, n, v, H', rfl, rfl, rfl, f1, f2, f3, f4, f5, f6⟩
    · rw [hd] at h
      simp only [] at h
      rw [List.nil_append] at pl
      rw [List.append_nil] at t1
      have hop : ∀ q, q ∈ [a1, a2, s1, s2] → ops[q.1]? = some q.2.2 := fun q hq => pl.op q (List.mem_append_right _ hq)
      have hanc : ∀ q, q ∈ [a1, a2, s1, s2] → ∀ j, bit q.2.1 j = bit ((ancestors ops.toList []).getD q.1 0) j := fun q hq => pl.anc q (List.mem_append_right _ hq)
      unfold twTail at h
      split at h <;> first | (cases h; done) | skip
      rename_i v1 v2 hi1 hi2
      cases hdd : (dstOk nt a1.2.2.dst && dstOk nt a2.2.2.dst) with
      | false => rw [hdd] at h; cases h
      | true =>
      rw [hdd] at h
      simp only [Bool.not_true, cond_false] at h
      rw [Bool.and_eq_true] at hdd
      split at h <;> first | (cases h; done) | skip
      rename_i ta ja pa xa tb jb pb xb hk1 hk2
      cases hjj : ja.beq jb with
      | true => rw [hjj] at h; cases h
      | false =>
      rw [hjj] at h
      simp only [cond_false] at h
      cases hs1 : storeAt X ta (.ptr ja pa) xa sm.H with
      | none => rw [hs1] at h; cases h
      | some Ha =>
      rw [hs1] at h
      simp only [] at h
      cases hs2 : storeAt X tb (.ptr jb pb) xb Ha with
      | none => rw [hs2] at h; cases h
      | some Hb =>
      rw [hs2] at h
      simp only [Option.some.injEq, Prod.mk.injEq] at h
      obtain ⟨rfl, rfl⟩ := h
      have tw : TwE X f nt ops (fun i j => bit ((ancestors ops.toList []).getD i 0) j) a1 a2 s1 s2 sm _ :=
        ⟨v1, v2, ta, tb, ja, jb, pa, pb, xa, xb, Ha, Hb, hdd.1, hdd.2, hi1, hi2, hk1, hk2, fun e => by rw [e] at hjj; simp at hjj, hs1, hs2, rfl, hop a1 (by simp), hop a2 (by simp), hop s1 (by simp), hop s2 (by simp), y1, y2, y3, y4,
          w10, w11, w12, w13, by simpa using w14, by simpa using w15, by show bit _ _ = true; rw [← hanc s1 (by simp)]; exact w4, by show bit _ _ = true; rw [← hanc s2 (by simp)]; exact w5⟩
      refine dops_any_t ok hc cn tw pl hnt (fun q hq x hx => ?_) sat ops.size _ a _ K T1 T2 (by simp) ?_ (fun q hq => hS0 q.1) inv
      · rw [← hanc q hq]
        exact hblk q hq x.key (by rw [t1]; exact List.mem_map_of_mem hx)
      · have := List.length_filter_le (fun e : Evt => !(Array.replicate ops.size false).getD e.i false) T
        simp only [List.length_nil] at hlen
        omega
    · rw [hd] at h
      simp only [Option.some.injEq, Prod.mk.injEq] at h
      obtain ⟨rfl, rfl⟩ := h
      simp only [List.length_cons] at hlen
      refine dops_any_p ok hc cn (r := r ++ [a1, a2, s1, s2]) (by simpa using pl) hnt f2 f3 f4 (fun x hx => f5 x (by simpa using hx)) ?_ sat ops.size _ a _ K T1 T2 (by simp) (Nat.lt_of_le_of_lt (List.length_filter_le _ _) (by omega)) (hS0 i) inv
      rw [List.all_append, f6, Bool.true_and]
      exact List.all_eq_true.2 fun q hq => hblk q hq (i, anc, o) (by rw [t1]; simp)
  · intro i j _ hi
    simp only [hS0] at hi
    cases hi
  · intro e he hee
    rw [h2 e he] at hee; cases hee
  · intro e he hee
    exact hS0 _
  · intro e o wr he _ hr
    have k1 := i3 e _ he hr rfl
    rw [c2.hd]
    exact ⟨(hw.fresh _ k1.1).1, k1.1, k1.2, (i5 e he).2.2 _ _ (good_new (hg1 e he) hr).2.2⟩

end
end Go.Aes
