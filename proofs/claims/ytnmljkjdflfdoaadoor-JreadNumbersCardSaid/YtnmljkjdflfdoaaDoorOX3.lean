import Derived.Test.YtnmljkjdflfdoaaDoorOX2
set_option linter.all false
set_option linter.unusedVariables false
set_option linter.unusedSimpArgs false
namespace Go.Aes
open Go.RowKit

mutual
theorem beqV_sound : ∀ (a b : AV), beqV a b = true → a = b
  | .bool a, b, h => by cases b <;> simp [beqV] at h; rw [h]
  | .int k a, b, h => by cases b <;> simp [beqV, beqI] at h; rw [h.1, h.2]
  | .str a, b, h => by cases b <;> simp [beqV, eqL_spec] at h; rw [h]
  | .nilp, b, h => by cases b <;> simp [beqV] at h; rfl
  | .ptr i o, b, h => by cases b <;> simp [beqV] at h; rw [h.1, h.2]
  | .vptr r o, b, h => by
    cases b <;> simp [beqV] at h
    rw [beqVs_sound _ _ h.1, h.2]
  | .sl r t, b, h => by
    cases b <;> simp [beqV] at h
    rw [beqVss_sound _ _ h.1, h.2]
  | .hsl i o n c s g, b, h => by cases b <;> simp [beqV] at h; simp [h]
  | .map none, b, h => by
    cases b <;> (try (simp [beqV] at h; done))
    rename_i r
    cases r <;> simp [beqV] at h
    rfl
  | .map (some a), b, h => by
    cases b <;> (try (simp [beqV] at h; done))
    rename_i r
    cases r <;> simp [beqV] at h
    rw [h]
  | .it a, b, h => by cases b <;> simp [beqV] at h; rw [h]
  | .nilfn, b, h => by cases b <;> simp [beqV] at h; rfl
  | .fn f x y, b, h => by
    cases b <;> simp [beqV] at h
    rw [h.1.1, beqVs_sound _ _ h.1.2, beqVs_sound _ _ h.2]
  | .iface t v, b, h => by
    cases b <;> simp [beqV] at h
    rw [h.1, beqV_sound _ _ h.2]
  | .nilif, b, h => by cases b <;> simp [beqV] at h; rfl
  | .agg a, b, h => by
    cases b <;> simp [beqV] at h
    rw [beqVs_sound _ _ h]
  | .tup a, b, h => by
    cases b <;> simp [beqV] at h
    rw [beqVs_sound _ _ h]
theorem beqVs_sound : ∀ (a b : List AV), beqVs a b = true → a = b
  | [], b, h => by cases b <;> simp [beqVs] at h; rfl
  | x :: r, b, h => by
    cases b <;> simp [beqVs] at h
    rw [beqV_sound _ _ h.1, beqVs_sound _ _ h.2]
theorem beqVss_sound : ∀ (a b : List (List AV)), beqVss a b = true → a = b
  | [], b, h => by cases b <;> simp [beqVss] at h; rfl
  | x :: r, b, h => by
    cases b <;> simp [beqVss] at h
    rw [beqVs_sound _ _ h.1, beqVss_sound _ _ h.2]
end

/-! ### an operation looks at no other slots -/
theorem ev_congr {fr fr' : Fr} {x : Operand} (h : ∀ t, x = .tmp t → fr.get t = fr'.get t) : ev fr x = ev fr' x := by
  cases x <;> simp only [ev]
  rw [h _ rfl]
theorem evs_congr {fr fr' : Fr} : ∀ {l : List Operand}, (∀ x, x ∈ l → ev fr x = ev fr' x) → evs fr l = evs fr' l
  | [], _ => rfl
  | x :: r, h => by simp only [evs]; rw [h x (by simp), evs_congr (fun y hy => h y (by simp [hy]))]
theorem evps_congr {fr fr' : Fr} : ∀ {l : List (Nat × Operand)}, (∀ x, x ∈ l → ev fr x.2 = ev fr' x.2) → evps fr l = evps fr' l
  | [], _ => rfl
  | (i, x) :: r, h => by simp only [evps]; rw [h (i, x) (by simp), evps_congr (fun y hy => h y (by simp [hy]))]
theorem evo_congr {fr fr' : Fr} {x : Option Operand} (h : ∀ y, x = some y → ev fr y = ev fr' y) : evo fr x = evo fr' x := by
  cases x <;> simp only [evo]
  rw [h _ rfl]

/-- the slots that an operation looks at -/
def looks (all : List Oper) (o : Oper) : List Nat :=
  o.op.operands.toList.filterMap (fun | .tmp t => some t | _ => none) ++
  (match o.guard with
   | some (g, _) => match all[g]? with
     | some og => og.dst.toList
     | none => []
   | none => [])

theorem inst_congr {X : Cx} {f : Nat} {fr fr' : Fr} {o : Oper} (h : ∀ x, x ∈ o.op.operands.toList → ev fr x = ev fr' x) : inst X f fr o = inst X f fr' o := by
  obtain ⟨dst, op, ty, pos, after, guard⟩ := o
  cases op <;> (try simp only [inst]) <;> (try rfl)
  case move x => rw [h x (by simp [Op.operands])]
  case assign x => rw [h x (by simp [Op.operands])]
  case pick c x y => rw [h c (by simp [Op.operands]), h x (by simp [Op.operands]), h y (by simp [Op.operands])]
  case box t x => rw [h x (by simp [Op.operands])]
  case build t ps => rw [evps_congr (fun p hp => h p.2 (by simp [Op.operands]; exact ⟨p.1, by simpa using hp⟩))]
  case buildSlice t n ps => rw [evps_congr (fun p hp => h p.2 (by simp [Op.operands]; exact ⟨p.1, by simpa using hp⟩))]
  case load t x => rw [h x (by simp [Op.operands])]
  case store t x y => rw [h x (by simp [Op.operands]), h y (by simp [Op.operands])]
  case nilCheck x => rw [h x (by simp [Op.operands])]
  case binOp op t x y yt => rw [h x (by simp [Op.operands]), h y (by simp [Op.operands])]
  case unOp op t x => rw [h x (by simp [Op.operands])]
  case convert s d x => rw [h x (by simp [Op.operands])]
  case makeFunc g x y => rw [evs_congr (fun p hp => h p (by simp [Op.operands]; simp at hp; exact .inl hp)), evs_congr (l := y.toList) (fun p hp => h p (by simp [Op.operands]; simp at hp; exact .inr hp))]
  case makeInterface t x => rw [h x (by simp [Op.operands])]
  case makeMap t r => cases r <;> simp only [inst]
  case slice t x lo hi mx =>
    rw [h x (by simp [Op.operands]), evo_congr (x := lo) (fun y hy => h y (by simp [Op.operands, hy])), evo_congr (x := hi) (fun y hy => h y (by simp [Op.operands, hy])),
      evo_congr (x := mx) (fun y hy => h y (by simp [Op.operands, hy]))]
  case fieldAddr t x k => rw [h x (by simp [Op.operands])]
  case field t x k => rw [h x (by simp [Op.operands])]
  case indexAddr t x y => rw [h x (by simp [Op.operands]), h y (by simp [Op.operands])]
  case index t x y => rw [h x (by simp [Op.operands]), h y (by simp [Op.operands])]
  case lookup t x y c => rw [h x (by simp [Op.operands]), h y (by simp [Op.operands])]
  case mapUpdate t x y z => rw [h x (by simp [Op.operands]), h y (by simp [Op.operands]), h z (by simp [Op.operands])]
  case range t x => rw [h x (by simp [Op.operands])]
  case next it b => cases b <;> simp only [inst]; rw [h it (by simp [Op.operands])]
  case extract x k => rw [h x (by simp [Op.operands])]
  case makeSlice t n c => rw [h n (by simp [Op.operands]), h c (by simp [Op.operands])]
  case panic x => rw [h x (by simp [Op.operands])]
  case call c =>
    obtain ⟨callee, args, argTypes⟩ := c
    cases callee <;> simp only []
    case value g => rw [h g (by simp [Op.operands, Call.operands]), evs_congr (fun p hp => h p (by simp [Op.operands, Call.operands]; simp at hp; exact .inr hp))]
    case builtin b => rw [evs_congr (fun p hp => h p (by simp [Op.operands, Call.operands]; simpa using hp))]

theorem looks_inst {X : Cx} {f : Nat} {all : List Oper} {fr fr' : Fr} {o : Oper} (h : ∀ t, t ∈ looks all o → fr.get t = fr'.get t) : inst X f fr o = inst X f fr' o := by
  refine inst_congr fun x hx => ev_congr fun t ht => h t ?_
  subst ht
  exact List.mem_append_left _ (List.mem_filterMap.2 ⟨.tmp t, hx, rfl⟩)

theorem looks_wanted {all : List Oper} {fr fr' : Fr} {o : Oper} (h : ∀ t, t ∈ looks all o → fr.get t = fr'.get t) : wantedB fr all o = wantedB fr' all o := by
  unfold wantedB
  cases hg : o.guard with
  | none => rfl
  | some g =>
    obtain ⟨j, want⟩ := g
    simp only []
    cases hj : all[j]? with
    | none => rfl
    | some oj =>
      simp only []
      cases hd : oj.dst with
      | none => rfl
      | some d =>
        simp only []
        rw [h d (List.mem_append_right _ (by simp [hg, hj, hd]))]

end Go.Aes
set_option linter.unusedVariables false
set_option linter.unusedSimpArgs false
namespace Go.Aes
open Go.RowKit

/-! ### sets of numbers -/
theorem bit_test (m i : Nat) : bit m i = m.testBit i := by
  unfold bit
  rw [Nat.testBit_eq_decide_div_mod_eq, Nat.shiftRight_eq_div_pow, Bool.eq_iff_iff]
  simp

theorem bit_or (m i j : Nat) : bit (m ||| (1 <<< i)) j = (bit m j || decide (j = i)) := by
  rw [bit_test, bit_test, Nat.testBit_or, Nat.one_shiftLeft, Nat.testBit_two_pow]
  congr 1
  rw [Bool.eq_iff_iff]
  simp [eq_comm]

theorem bit_sub {e a : Nat} (h : (e &&& a).beq e = true) {i : Nat} (hi : bit e i = true) : bit a i = true := by
  have h1 : e &&& a = e := by simpa using h
  rw [bit_test] at *
  rw [← h1, Nat.testBit_and] at hi
  exact (Bool.and_eq_true_iff.1 hi).2

theorem bit_zero (i : Nat) : bit 0 i = false := by simp [bit_test]

/-! ### what is asked of a region that draws its order -/
def ordB : List (Nat × Nat × Oper) → Bool
  | [] => true
  | p :: r => r.all (fun q => !bit p.2.1 q.1 && !p.1.beq q.1) && ordB r

def rgOk (all : List Oper) : Bool :=
  let ancs := ancestors all []
  let L := plan all ancs all.length 0
  let A (i j : Nat) : Bool := bit (ancs.getD i 0) j
  let n := all.length
  ordB L && L.all (fun p => p.2.1.beq (ancs.getD p.1 0)) && (List.range n).all (fun j => L.any fun p => p.1.beq j) &&
  all.zipIdx.all (fun p => (List.range n).all fun j => !A p.2 j || p.1.after.toList.any fun e => Region.binds .any e && (e.on.beq j || A e.on j)) &&
  all.zipIdx.all (fun p => p.1.after.toList.all fun e => !Region.binds .any e || (A p.2 e.on && e.on.blt n && !e.on.beq p.2)) &&
  all.zipIdx.all (fun p => match p.1.dst with
    | none => true
    | some d => all.zipIdx.all fun q => q.2.beq p.2 || !((looks all q.1).contains d || q.1.dst == some d) || A q.2 p.2 || A p.2 q.2)

theorem pickNext_spec {eff : Bool} {done : Nat} : ∀ {l : List Oper} {ms : List Nat} {i0 i m : Nat} {o : Oper}, pickNext eff done l ms i0 = some (i, m, o) → i0 ≤ i ∧ l[i - i0]? = some o
  | [], ms, i0, i, m, o, h => by simp [pickNext] at h
  | x :: l, [], i0, i, m, o, h => by simp [pickNext] at h
  | x :: l, y :: ms, i0, i, m, o, h => by
    simp only [pickNext] at h
    cases hb : (!bit done i0 && (y &&& done).beq y && (opEff x == eff)) with
    | true =>
      simp [hb] at h
      obtain ⟨rfl, rfl, rfl⟩ := h
      exact ⟨Nat.le_refl _, by simp⟩
    | false =>
      simp only [hb, cond_false] at h
      obtain ⟨h1, h2⟩ := pickNext_spec h
      refine ⟨by omega, ?_⟩
      rw [show i - i0 = (i - (i0 + 1)) + 1 by omega, List.getElem?_cons_succ]
      exact h2

theorem plan_spec {all : List Oper} {ancs : List Nat} : ∀ {n done : Nat} {p : Nat × Nat × Oper}, p ∈ plan all ancs n done → all[p.1]? = some p.2.2
  | 0, done, p, h => by simp [plan] at h
  | n + 1, done, p, h => by
    simp only [plan] at h
    cases h1 : pickNext false done all ancs 0 with
    | some q =>
      simp only [h1, List.mem_cons] at h
      rcases h with rfl | h
      · obtain ⟨i, m, o⟩ := p
        have := pickNext_spec h1
        simpa using this.2
      · exact plan_spec h
    | none =>
      simp only [h1] at h
      cases h2 : pickNext true done all ancs 0 with
      | some q =>
        simp only [h2, List.mem_cons] at h
        rcases h with rfl | h
        · obtain ⟨i, m, o⟩ := p
          have := pickNext_spec h2
          simpa using this.2
        · exact plan_spec h
      | none => simp [h2] at h

/-! ### what came up, in the canonical order -/
structure Evt where
  i : Nat
  anc : Nat
  o : Oper
  s : St
  v : AV
  H' : AH
  ran : Option In

def Evt.key (e : Evt) : Nat × Nat × Oper := (e.i, e.anc, e.o)
def Evt.post (e : Evt) : St := { fr := putD e.s.fr e.o.dst e.v, H := e.H' }
def Evt.eff (e : Evt) : Bool := match e.ran with
  | some n => n.eff
  | none => false

def Chain : List Evt → St → St → Prop
  | [], s, s' => s = s'
  | e :: r, s, s' => e.s = s ∧ Chain r e.post s'

section
variable (X : Cx) (C : CallF) (f nt : Nat) (all : List Oper)

def Good (e : Evt) : Prop :=
  dstOk nt e.o.dst = true ∧
  ((e.ran = none ∧ wantedB e.s.fr all e.o = false ∧ e.v = undef ∧ e.H' = e.s.H) ∨
   (∃ n, e.ran = some n ∧ wantedB e.s.fr all e.o = true ∧ inst X f e.s.fr e.o = some n ∧ exec X C n e.s.H = some (.val e.v e.H')))

def Rel (e1 e : Evt) : Prop :=
  (e1.eff = true → e.ran ≠ none → bit e.anc e1.i = true) ∧
  (e.eff = true → ∀ n1, e1.ran = some n1 → n1.eff = false → logged n1 = true → bit e.anc e1.i = true ∨ rd X n1 e.H' = some e1.v ∨ kept n1 e1.v e.H' = true)

end

section
variable {X : Cx} {C : CallF} {f nt : Nat} {all : List Oper}

theorem recheck_spec {anc : Nat} {H : AH} : ∀ {log : List (Nat × In × AV)}, recheck X anc H log = true → ∀ p, p ∈ log → bit anc p.1 = true ∨ rd X p.2.1 H = some p.2.2 ∨ kept p.2.1 p.2.2 H = true
  | [], _, p, hp => by simp at hp
  | (i, n, v) :: r, h, p, hp => by
    simp only [recheck, Bool.and_eq_true, Bool.or_eq_true] at h
    rcases List.mem_cons.1 hp with rfl | hp
    · rcases h.1 with (h1 | h1) | h1
      · exact .inl h1
      · right; left
        cases hr : rd X n H with
        | none => simp [hr] at h1
        | some v' => simp only [hr] at h1; rw [beqV_sound _ _ h1]
      · exact .inr (.inr h1)
    · exact recheck_spec h.2 p hp

/-- how a list of operations came to its end: done, or one of them panicked, and all behind it wait for it -/
def Fin' (X : Cx) (C : CallF) (f nt : Nat) (all : List Oper) (effs : Nat) (T0 T : List Evt) (R : List (Nat × Nat × Oper)) (sm s' : St) (ex : Ex) : Prop :=
  (ex = .normal ∧ R = [] ∧ sm = s') ∨
  (∃ (i anc : Nat) (o : Oper) (r : List (Nat × Nat × Oper)) (n : In) (v : AV) (H' : AH), R = (i, anc, o) :: r ∧ ex = .panic v ∧ s' = { sm with H := H' } ∧ dstOk nt o.dst = true ∧ wantedB sm.fr all o = true ∧
    inst X f sm.fr o = some n ∧ exec X C n sm.H = some (.panic v H') ∧ (∀ e, e ∈ T0 ++ T → e.eff = true → bit anc e.i = true) ∧ r.all (fun q => bit q.2.1 i) = true)
theorem Fin'.cons {X : Cx} {C : CallF} {f nt : Nat} {all : List Oper} {effs effs' : Nat} {T0 T : List Evt} {R : List (Nat × Nat × Oper)} {sm s' : St} {ex : Ex} {e : Evt} (h : Fin' X C f nt all effs (e :: T0) T R sm s' ex) : Fin' X C f nt all effs' T0 (e :: T) R sm s' ex := by
  rcases h with h | ⟨i, anc, o, r, n, v, H', h1, h2, h3, h4, h5, h6, h7, h8, h9⟩
  · exact .inl h
  · refine .inr ⟨i, anc, o, r, n, v, H', h1, h2, h3, h4, h5, h6, h7, fun x hx => h8 x ?_, h9⟩
    simp only [List.mem_append, List.mem_cons, List.cons_append] at hx ⊢
    rcases hx with hx | hx | hx
    · exact .inr (.inl hx)
    · exact .inl hx
    · exact .inr (.inr hx)

theorem trace (T0 : List Evt) : ∀ (L : List (Nat × Nat × Oper)) (effs : Nat) (log : List (Nat × In × AV)) (s s' : St) (ex : Ex) (T0 : List Evt),
    dops X C f nt all L effs log s = some (ex, s') → (∀ e, e ∈ T0 → e.eff = true → bit effs e.i = true) → (∀ e n, e ∈ T0 → e.ran = some n → n.eff = false → logged n = true → (e.i, n, e.v) ∈ log) →
    ∃ (T : List Evt) (R : List (Nat × Nat × Oper)) (sm : St), L = T.map Evt.key ++ R ∧ Chain T s sm ∧ (∀ e, e ∈ T → Good X C f nt all e) ∧ T.Pairwise (Rel X) ∧ (∀ e1 e, e1 ∈ T0 → e ∈ T → Rel X e1 e) ∧ Fin' X C f nt all effs T0 T R sm s' ex
  | [], effs, log, s, s', ex, T0, h, h1, h2 => by
    simp [dops] at h
    obtain ⟨rfl, rfl⟩ := h
    exact ⟨[], [], s, rfl, rfl, fun e he => by simp at he, .nil, fun e1 e _ he => by simp at he, .inl ⟨rfl, rfl, rfl⟩⟩
  | (i, anc, o) :: r, effs, log, s, s', ex, T0, h, h1, h2 => by
    simp only [dops] at h
    cases hd : dstOk nt o.dst with
    | false => simp [hd] at h
    | true =>
      simp only [hd, Bool.not_true, cond_false] at h
      cases hw : wantedB s.fr all o with
      | false =>
        simp only [hw, cond_false] at h
        obtain ⟨T, R, sm, g2, g3, g4, g5, g6, g7⟩ := trace T0 r effs log _ s' ex (⟨i, anc, o, s, undef, s.H, none⟩ :: T0) h
          (fun e he hef => by rcases List.mem_cons.1 he with rfl | he; · simp [Evt.eff] at hef
                              · exact h1 e he hef)
          (fun e n he hr => by rcases List.mem_cons.1 he with rfl | he; · simp at hr
                               · exact h2 e n he hr)
        refine ⟨⟨i, anc, o, s, undef, s.H, none⟩ :: T, R, sm, by simp [Evt.key, g2], ⟨rfl, g3⟩, ?_, ?_, ?_, g7.cons⟩
        · intro e he
          rcases List.mem_cons.1 he with rfl | he
          · exact ⟨hd, .inl ⟨rfl, hw, rfl, rfl⟩⟩
          · exact g4 e he
        · exact List.pairwise_cons.2 ⟨fun e he => g6 _ e (by simp) he, g5⟩
        · intro e1 e he1 he
          rcases List.mem_cons.1 he with rfl | he
          · exact ⟨fun _ hn => absurd rfl hn, fun hef => by simp [Evt.eff] at hef⟩
          · exact g6 e1 e (List.mem_cons_of_mem _ he1) he
      | true =>
        simp only [hw, cond_true] at h
        cases hin : inst X f s.fr o with
        | none => simp [hin] at h
        | some n =>
          simp only [hin] at h
          cases hef : (effs &&& anc).beq effs with
          | false => simp [hef] at h
          | true =>
            simp only [hef, Bool.not_true, cond_false] at h
            cases hex : exec X C n s.H with
            | none => simp [hex] at h
            | some res =>
              cases res with
              | panic v H =>
                simp only [hex] at h
                cases hall : r.all (fun q => bit q.2.1 i) with
                | false => simp [hall] at h
                | true =>
                  simp only [hall, cond_true, Option.some.injEq, Prod.mk.injEq] at h
                  obtain ⟨rfl, rfl⟩ := h
                  exact ⟨[], (i, anc, o) :: r, s, rfl, rfl, fun e he => by simp at he, .nil, fun e1 e _ he => by simp at he,
                    .inr ⟨i, anc, o, r, n, v, H, rfl, rfl, rfl, hd, hw, hin, hex, fun e he hee => by
                      rcases List.mem_append.1 he with he | he
                      · exact bit_sub hef (h1 e he hee)
                      · simp at he, hall⟩⟩
              | val v H =>
                simp only [hex] at h
                have hgood : Good X C f nt all ⟨i, anc, o, s, v, H, some n⟩ := ⟨hd, .inr ⟨n, rfl, hw, hin, hex⟩⟩
                cases hne : n.eff with
                | true =>
                  simp only [hne, cond_true] at h
                  cases hrc : recheck X anc H log with
                  | false => simp [hrc] at h
                  | true =>
                    simp only [hrc, cond_true] at h
                    obtain ⟨T, R, sm, g2, g3, g4, g5, g6, g7⟩ := trace T0 r _ log _ s' ex (⟨i, anc, o, s, v, H, some n⟩ :: T0) h
                      (fun e he hef => by
                        rw [bit_or]
                        rcases List.mem_cons.1 he with rfl | he
                        · simp
                        · rw [h1 e he hef]; rfl)
                      (fun e n' he hr hnf => by
                        rcases List.mem_cons.1 he with rfl | he
                        · simp at hr; subst hr; rw [hne] at hnf; cases hnf
                        · exact h2 e n' he hr hnf)
                    refine ⟨⟨i, anc, o, s, v, H, some n⟩ :: T, R, sm, by simp [Evt.key, g2], ⟨rfl, g3⟩, ?_, ?_, ?_, g7.cons⟩
                    · intro e he
                      rcases List.mem_cons.1 he with rfl | he
                      · exact hgood
                      · exact g4 e he
                    · exact List.pairwise_cons.2 ⟨fun e he => g6 _ e (by simp) he, g5⟩
                    · intro e1 e he1 he
                      rcases List.mem_cons.1 he with rfl | he
                      · refine ⟨fun h3 _ => bit_sub hef (h1 e1 he1 h3), fun _ n1 hr1 hnf hlg => ?_⟩
                        exact recheck_spec hrc _ (h2 e1 n1 he1 hr1 hnf hlg)
                      · exact g6 e1 e (List.mem_cons_of_mem _ he1) he
                | false =>
                  simp only [hne, cond_false] at h
                  obtain ⟨T, R, sm, g2, g3, g4, g5, g6, g7⟩ := trace T0 r effs _ _ s' ex (⟨i, anc, o, s, v, H, some n⟩ :: T0) h
                    (fun e he hef => by
                      rcases List.mem_cons.1 he with rfl | he
                      · simp [Evt.eff, hne] at hef
                      · exact h1 e he hef)
                    (fun e n' he hr hnf hlg => by
                      rcases List.mem_cons.1 he with rfl | he
                      · simp at hr; subst hr; simp [hlg]
                      · cases hl : logged n
                        · simpa [hl] using h2 e n' he hr hnf hlg
                        · simp only [cond_true]; exact List.mem_cons_of_mem _ (h2 e n' he hr hnf hlg))
                  refine ⟨⟨i, anc, o, s, v, H, some n⟩ :: T, R, sm, by simp [Evt.key, g2], ⟨rfl, g3⟩, ?_, ?_, ?_, g7.cons⟩
                  · intro e he
                    rcases List.mem_cons.1 he with rfl | he
                    · exact hgood
                    · exact g4 e he
                  · exact List.pairwise_cons.2 ⟨fun e he => g6 _ e (by simp) he, g5⟩
                  · intro e1 e he1 he
                    rcases List.mem_cons.1 he with rfl | he
                    · exact ⟨fun h3 _ => bit_sub hef (h1 e1 he1 h3), fun h3 => by simp [Evt.eff, hne] at h3⟩
                    · exact g6 e1 e (List.mem_cons_of_mem _ he1) he

end
end Go.Aes
set_option linter.unusedVariables false
set_option linter.unusedSimpArgs false
namespace Go.Aes
open Go.RowKit

def isNew : In → Bool
  | .new _ _ => true
  | _ => false

section
variable {X : Cx} {C : CallF} {f nt : Nat} {all : List Oper} {P : Program} {B : Nat} {W : World}

theorem exec_nonEff {n : In} {H H' : AH} {v : AV} (he : n.eff = false) (h : exec X C n H = some (.val v H')) :
    (∃ o wr id, n = .new o wr ∧ H.new o = some (id, H') ∧ v = wr.mk id) ∨
    (isNew n = false ∧ H' = H ∧ (rd X n H = some v ∨ ∀ H2, exec X C n H2 = some (.val v H2))) := by
  cases n <;> simp [In.eff] at he
  case val x =>
    simp [exec] at h
    obtain ⟨rfl, rfl⟩ := h
    exact .inr ⟨rfl, rfl, .inr fun H2 => rfl⟩
  case row rows sz =>
    simp [exec] at h
    obtain ⟨rfl, rfl⟩ := h
    exact .inr ⟨rfl, rfl, .inr fun H2 => rfl⟩
  case new o wr =>
    simp only [exec, v2] at h
    cases hn : H.new o with
    | none => simp [hn] at h
    | some p =>
      obtain ⟨id, H2⟩ := p
      simp [hn] at h
      obtain ⟨rfl, rfl⟩ := h
      exact .inl ⟨o, wr, id, rfl, hn, rfl⟩
  case load t a =>
    simp only [exec, v1] at h
    obtain ⟨x, h1, h2⟩ := Option.map_eq_some_iff.1 h
    simp at h2
    obtain ⟨rfl, rfl⟩ := h2
    exact .inr ⟨rfl, rfl, .inl h1⟩
  case look t m k c =>
    simp only [exec, v1] at h
    obtain ⟨x, h1, h2⟩ := Option.map_eq_some_iff.1 h
    simp at h2
    obtain ⟨rfl, rfl⟩ := h2
    exact .inr ⟨rfl, rfl, .inl h1⟩
  case mlen r =>
    simp only [exec] at h
    cases hg : H.get r with
    | none => simp [hg] at h
    | some ob =>
      cases ob <;> (try simp only [hg] at h) <;> (try (cases h; done))
      rename_i es
      simp at h
      obtain ⟨rfl, rfl⟩ := h
      exact .inr ⟨rfl, rfl, .inl (by simp [rd, hg])⟩
  case bstr x =>
    simp only [exec, v1] at h
    cases hs : isSl x with
    | false => simp [hs] at h
    | true =>
      simp only [hs, cond_true] at h
      obtain ⟨y, h1, h2⟩ := Option.map_eq_some_iff.1 h
      simp at h2
      obtain ⟨rfl, rfl⟩ := h2
      exact .inr ⟨rfl, rfl, .inl (by simp only [rd, hs, cond_true]; exact h1)⟩

theorem exec_rd {n : In} {H : AH} {v : AV} (h : rd X n H = some v) : exec X C n H = some (.val v H) := by
  cases n <;> simp only [rd] at h <;> (try (cases h; done)) <;> simp only [exec, v1]
  · rw [h]; rfl
  · rw [h]; rfl
  · rename_i r
    cases hg : H.get r with
    | none => simp [hg] at h
    | some ob =>
      cases ob <;> (try simp only [hg] at h) <;> (try (cases h; done))
      injection h with h
      subst h
      rfl
  · rename_i x
    cases hs : isSl x with
    | false => simp [hs] at h
    | true =>
      simp only [hs, cond_true] at h ⊢
      rw [h]; rfl

theorem rd_mono {n : In} {H H2 : AH} {v : AV} (hm : ∀ i o, H.get i = some o → H2.get i = some o) (h : rd X n H = some v) : rd X n H2 = some v := by
  have hload : ∀ {t a v}, loadAt X t a H = some v → loadAt X t a H2 = some v := by
    intro t a v h
    unfold loadAt at h ⊢
    cases ha : X.isAgg t with
    | none => simp [ha] at h
    | some ag =>
      cases hs : X.size t with
      | none => simp [ha, hs] at h
      | some n =>
        simp only [ha, hs] at h ⊢
        cases a <;> (try simp only [] at h ⊢) <;> (try (cases h; done)) <;> (try exact h)
        rename_i i o
        cases hg : H.get i with
        | none => simp [hg] at h
        | some ob => rw [hm i ob hg]; rw [hg] at h; exact h
  cases n <;> simp only [rd] at h <;> (try (cases h; done)) <;> simp only [rd]
  · exact hload h
  · rename_i t m k c
    unfold lookup at h ⊢
    cases hu : X.und t with
    | none => simp [hu] at h
    | some d =>
      cases d <;> (try simp only [hu] at h) <;> (try (cases h; done))
      rename_i kt e
      cases hk : X.und kt with
      | none => simp [hk] at h
      | some kd =>
        simp only [hu, hk] at h ⊢
        cases ht : keyTy kd k with
        | false => simp [ht] at h
        | true =>
          simp only [ht, Bool.not_true, cond_false] at h ⊢
          cases m <;> (try simp only [] at h) <;> (try (cases h; done))
          rename_i mr
          cases mr with
          | none => exact h
          | some r =>
            simp only [] at h ⊢
            cases hg : H.get r with
            | none => simp [hg] at h
            | some ob => rw [hm r ob hg]; rw [hg] at h; exact h
  · rename_i r
    cases hg : H.get r with
    | none => simp [hg] at h
    | some ob => rw [hm r ob hg]; rw [hg] at h; exact h
  · rename_i x
    cases hs : isSl x with
    | false => simp [hs] at h
    | true =>
      simp only [hs, cond_true] at h ⊢
      cases x <;> simp [isSl] at hs
      · exact h
      · rename_i i o k c sz g
        simp only [readRows] at h ⊢
        cases hb : sz.beq 1 with
        | false => simp [hb] at h
        | true =>
          simp only [hb, cond_true] at h ⊢
          cases hg : H.get i with
          | none => simp [hg] at h
          | some ob => rw [hm i ob hg]; rw [hg] at h; exact h

theorem rd_unlogged {n : In} {H H2 : AH} {v : AV} (hl : logged n = false) (h : rd X n H = some v) : rd X n H2 = some v := by
  cases n <;> simp only [rd] at h <;> (try (cases h; done)) <;> simp only [rd]
  · rename_i t a
    unfold loadAt at h ⊢
    cases ha : X.isAgg t with
    | none => simp [ha] at h
    | some ag =>
      cases hs : X.size t with
      | none => simp [ha, hs] at h
      | some n =>
        simp only [ha, hs] at h ⊢
        cases a <;> (try simp only [] at h ⊢) <;> (try (cases h; done)) <;> (try exact h)
        simp [logged] at hl
  · simp [logged] at hl
  · simp [logged] at hl
  · rename_i x
    cases x <;> first | (simp [logged] at hl; done) | (simp [isSl] at h; done) | exact h

/-! ### chains -/
theorem Chain.split {T1 T2 : List Evt} {s s' : St} (h : Chain (T1 ++ T2) s s') : ∃ m, Chain T1 s m ∧ Chain T2 m s' := by
  induction T1 generalizing s with
  | nil => exact ⟨s, rfl, h⟩
  | cons e r ih =>
    obtain ⟨h1, h2⟩ := h
    obtain ⟨m, g1, g2⟩ := ih h2
    exact ⟨m, ⟨h1, g1⟩, g2⟩

def hdH (T : List Evt) (s' : St) : AH :=
  match T with
  | [] => s'.H
  | e :: _ => e.s.H

theorem Chain.hd {T : List Evt} {s s' : St} (h : Chain T s s') : hdH T s' = s.H := by
  cases T with
  | nil => have h' : s = s' := h; subst h'; rfl
  | cons e r => rw [← h.1]; rfl

/-- a stretch that changes no memory but by what is new -/
theorem seg_mono : ∀ {T : List Evt} {s m : St}, Chain T s m → (∀ e, e ∈ T → Good X C f nt all e) → (∀ e, e ∈ T → e.eff = false) →
    (∀ i o, s.H.get i = some o → m.H.get i = some o) ∧ s.H.nx ≤ m.H.nx ∧ (∀ e n, e ∈ T → e.ran = some n → isNew n = true → s.H.nx ≤ e.s.H.nx ∧ e.s.H.nx < m.H.nx) ∧
    (∀ K w, RW B W K s.H w → RW B W K m.H w ∧ Fits K s.H K m.H) ∧ (∀ e, e ∈ T → s.H.nx ≤ e.s.H.nx ∧ (∀ i o, e.s.H.get i = some o → m.H.get i = some o) ∧ (∀ i o, e.H'.get i = some o → m.H.get i = some o))
  | [], s, m, h, hg, he => by
    have h' : s = m := h
    subst h'
    exact ⟨fun _ _ h => h, Nat.le_refl _, fun e n he => by simp at he, fun K w hw => ⟨hw, .refl K s.H⟩, fun e he => by simp at he⟩
  | e :: r, s, m, h, hg, he => by
    obtain ⟨h1, h2⟩ := h
    obtain ⟨i1, i2, i3, i4, i5⟩ := seg_mono h2 (fun x hx => hg x (List.mem_cons_of_mem _ hx)) (fun x hx => he x (List.mem_cons_of_mem _ hx))
    obtain ⟨_, hgood⟩ := hg e (by simp)
    have hef := he e (by simp)
    have one : (∀ i o, s.H.get i = some o → e.H'.get i = some o) ∧ s.H.nx ≤ e.H'.nx ∧ (∀ n, e.ran = some n → isNew n = true → s.H.nx < e.H'.nx) ∧ (∀ K w, RW B W K s.H w → RW B W K e.H' w ∧ Fits K s.H K e.H') := by
      rw [← h1]
      rcases hgood with ⟨g1, g2, g3, g4⟩ | ⟨n, g1, g2, g3, g4⟩
      · rw [g4]
        exact ⟨fun _ _ h => h, Nat.le_refl _, fun n hn _ => (by rw [g1] at hn; cases hn), fun K w hw => ⟨hw, .refl K _⟩⟩
      · have hne : n.eff = false := by simpa [Evt.eff, g1] using hef
        rcases exec_nonEff hne g4 with ⟨o, wr, id, rfl, hn, hv⟩ | ⟨q1, q2, _⟩
        · obtain ⟨a1, a2, a3, a4⟩ := AH.new_spec hn
          refine ⟨fun i o' hi => ?_, by omega, fun n' _ _ => by omega, fun K w hw => ?_⟩
          · rw [a4]
            by_cases e1 : i = id
            · rw [e1, AH.new_none hn] at hi; cases hi
            · rw [if_neg e1]; exact hi
          · obtain ⟨b1, b2, _⟩ := hw.vnew hn
            exact ⟨b1, b2⟩
        · rw [q2]
          exact ⟨fun _ _ h => h, Nat.le_refl _, fun n' hn' hnew => (by rw [g1] at hn'; injection hn' with hn'; subst hn'; rw [q1] at hnew; cases hnew), fun K w hw => ⟨hw, .refl K _⟩⟩
    obtain ⟨o1, o2, o3, o4⟩ := one
    have hpost : e.post.H = e.H' := rfl
    rw [hpost] at i1 i2 i3 i4 i5
    refine ⟨fun i o hi => i1 i o (o1 i o hi), by omega, fun x n hx hr hn => ?_, fun K w hw => ?_, fun x hx => ?_⟩
    · rcases List.mem_cons.1 hx with rfl | hx
      · have := o3 n hr hn
        rw [h1]
        exact ⟨Nat.le_refl _, by omega⟩
      · have := i3 x n hx hr hn
        exact ⟨by omega, this.2⟩
    · obtain ⟨b1, b2⟩ := o4 K w hw
      obtain ⟨c1, c2⟩ := i4 K w b1
      exact ⟨c1, b2.trans c2⟩
    · rcases List.mem_cons.1 hx with rfl | hx
      · rw [h1]
        exact ⟨Nat.le_refl _, fun i o hi => i1 i o (o1 i o hi), i1⟩
      · have := i5 x hx
        exact ⟨by omega, this.2.1, this.2.2⟩

end
end Go.Aes
set_option linter.unusedVariables false
set_option linter.unusedSimpArgs false
namespace Go.Aes
open Go.RowKit

/-! ### the slots after those that are listed -/
def foldS (S : Nat → Bool) : List Evt → Fr → Fr
  | [], fr => fr
  | e :: r, fr => foldS S r (bif S e.i then putD fr e.o.dst e.v else fr)

theorem foldS_append (S : Nat → Bool) : ∀ (T1 T2 : List Evt) (fr : Fr), foldS S (T1 ++ T2) fr = foldS S T2 (foldS S T1 fr)
  | [], T2, fr => rfl
  | e :: r, T2, fr => by simp only [List.cons_append, foldS]; exact foldS_append S r T2 _

theorem putD_get {nt : Nat} (hnt : nt < 2 ^ 39) {fr : Fr} {d : Option Nat} {v : AV} (hd : dstOk nt d = true) (t : Nat) : (putD fr d v).get t = if d = some t then some v else fr.get t := by
  cases d with
  | none => simp [putD]
  | some d =>
    have hlt : d < nt := by simpa [dstOk, Nat.blt_eq] using hd
    simp only [putD, Option.some.injEq]
    rw [Tr.get_put (some v) 40 fr d t (by omega)]
    by_cases e : t = d
    · rw [if_pos e, if_pos e.symm]
    · rw [if_neg e, if_neg (Ne.symm e)]

theorem foldS_skip {S : Nat → Bool} {nt : Nat} (hnt : nt < 2 ^ 39) {t : Nat} : ∀ {T : List Evt} {fr : Fr}, (∀ e, e ∈ T → dstOk nt e.o.dst = true) → (∀ e, e ∈ T → S e.i = true → e.o.dst ≠ some t) → (foldS S T fr).get t = fr.get t
  | [], fr, _, _ => rfl
  | e :: r, fr, hd, h => by
    simp only [foldS]
    rw [foldS_skip hnt (fun x hx => hd x (List.mem_cons_of_mem _ hx)) (fun x hx => h x (List.mem_cons_of_mem _ hx))]
    cases hs : S e.i with
    | false => rfl
    | true =>
      simp only [cond_true]
      rw [putD_get hnt (hd e (by simp)) t, if_neg (h e (by simp) hs)]

theorem foldS_congr {S S' : Nat → Bool} {nt : Nat} (hnt : nt < 2 ^ 39) {t : Nat} : ∀ {T : List Evt} {fr fr' : Fr}, (∀ e, e ∈ T → dstOk nt e.o.dst = true) → (∀ e, e ∈ T → e.o.dst = some t → S e.i = S' e.i) → fr.get t = fr'.get t → (foldS S T fr).get t = (foldS S' T fr').get t
  | [], fr, fr', _, _, h => h
  | e :: r, fr, fr', hd, h, h0 => by
    simp only [foldS]
    refine foldS_congr hnt (fun x hx => hd x (List.mem_cons_of_mem _ hx)) (fun x hx => h x (List.mem_cons_of_mem _ hx)) ?_
    by_cases hdst : e.o.dst = some t
    · rw [h e (by simp) hdst]
      cases S' e.i with
      | false => exact h0
      | true => simp only [cond_true]; rw [putD_get hnt (hd e (by simp)), putD_get hnt (hd e (by simp)), if_pos hdst, if_pos hdst]
    · have key : ∀ b : Bool, ∀ f : Fr, (bif b then putD f e.o.dst e.v else f).get t = f.get t := by
        intro b f
        cases b with
        | false => rfl
        | true => simp only [cond_true]; rw [putD_get hnt (hd e (by simp)), if_neg hdst]
      rw [key, key]; exact h0

theorem Chain.fold : ∀ {T : List Evt} {s m : St}, Chain T s m → foldS (fun _ => true) T s.fr = m.fr
  | [], s, m, h => by have h' : s = m := h; subst h'; rfl
  | e :: r, s, m, h => by
    obtain ⟨h1, h2⟩ := h
    simp only [foldS, cond_true]
    have := h2.fold
    rw [← h1]
    exact this

theorem RF.congr {ds : List Deferred} {K : KC} {nt : Nat} {fr fr' : Fr} {a : Act} (h : RF ds K nt fr a) (he : ∀ t, fr.get t = fr'.get t) : RF ds K nt fr' a :=
  ⟨h.size, fun t => by rw [← he t]; exact h.at_ t, h.defers⟩

/-! ### what is known of the canonical order -/
structure Cn (X : Cx) (C : CallF) (f nt : Nat) (ops : Array Oper) (A : Nat → Nat → Bool) (T : List Evt) (s s' : St) : Prop where
  chain : Chain T s s'
  good : ∀ e, e ∈ T → Good X C f nt ops.toList e
  rel : T.Pairwise (Rel X)
  ord : T.Pairwise (fun e1 e2 => A e1.i e2.i = false ∧ e1.i ≠ e2.i)
  anc : ∀ e, e ∈ T → ∀ j, bit e.anc j = A e.i j
  op : ∀ e, e ∈ T → ops[e.i]? = some e.o
  up : ∀ e, e ∈ T → ∀ j, j < ops.size → A e.i j = true → ∃ d, d ∈ e.o.after ∧ Region.binds .any d = true ∧ (d.on = j ∨ A d.on j = true)
  dir : ∀ e, e ∈ T → ∀ d, d ∈ e.o.after → Region.binds .any d = true → A e.i d.on = true ∧ d.on < ops.size ∧ d.on ≠ e.i
  tmp : ∀ p, p ∈ T → ∀ q, q ∈ T → p.i ≠ q.i → ∀ t, p.o.dst = some t → (t ∈ looks ops.toList q.o ∨ q.o.dst = some t) → A q.i p.i = true ∨ A p.i q.i = true

/-- what is known of the plan -/
structure Pl (ops : Array Oper) (A : Nat → Nat → Bool) (L : List (Nat × Nat × Oper)) : Prop where
  op : ∀ p, p ∈ L → ops[p.1]? = some p.2.2
  anc : ∀ p, p ∈ L → ∀ j, bit p.2.1 j = A p.1 j
  ord : L.Pairwise (fun p q => A p.1 q.1 = false ∧ p.1 ≠ q.1)
  full : ∀ j, j < ops.size → ∃ p, p ∈ L ∧ p.1 = j
  up : ∀ i o, ops[i]? = some o → ∀ j, j < ops.size → A i j = true → ∃ d, d ∈ o.after ∧ Region.binds .any d = true ∧ (d.on = j ∨ A d.on j = true)
  dir : ∀ i o, ops[i]? = some o → ∀ d, d ∈ o.after → Region.binds .any d = true → A i d.on = true ∧ d.on < ops.size ∧ d.on ≠ i
  tmp : ∀ i o j q, ops[i]? = some o → ops[j]? = some q → i ≠ j → ∀ t, o.dst = some t → (t ∈ looks ops.toList q ∨ q.dst = some t) → A j i = true ∨ A i j = true

theorem pairwise_mid {α : Type} {R : α → α → Prop} {l1 l2 : List α} {x : α} (h : (l1 ++ x :: l2).Pairwise R) : (∀ y, y ∈ l1 → R y x) ∧ (∀ y, y ∈ l2 → R x y) := by
  rw [List.pairwise_append] at h
  exact ⟨fun y hy => h.2.2 y hy x (by simp), (List.pairwise_cons.1 h.2.1).1⟩

theorem rgOk_spec {X : Cx} {C : CallF} {f nt : Nat} {ops : Array Oper} (h : rgOk ops.toList = true) {T : List Evt} {s s' : St}
    {R : List (Nat × Nat × Oper)} (hk : plan ops.toList (ancestors ops.toList []) ops.toList.length 0 = T.map Evt.key ++ R) (hc : Chain T s s') (hg : ∀ e, e ∈ T → Good X C f nt ops.toList e) (hr : T.Pairwise (Rel X)) :
    Cn X C f nt ops (fun i j => bit ((ancestors ops.toList []).getD i 0) j) T s s' ∧ Pl ops (fun i j => bit ((ancestors ops.toList []).getD i 0) j) (T.map Evt.key ++ R) := by
  unfold rgOk at h
  simp only [Bool.and_eq_true] at h
  obtain ⟨⟨⟨⟨⟨h1, h2⟩, h3⟩, h4⟩, h5⟩, h6⟩ := h
  rw [hk] at h1 h2 h3
  have hpop : ∀ p, p ∈ T.map Evt.key ++ R → ops[p.1]? = some p.2.2 := fun p hp => by
    have := plan_spec (hk.symm ▸ hp)
    simpa using this
  have hpanc : ∀ p, p ∈ T.map Evt.key ++ R → p.2.1 = (ancestors ops.toList []).getD p.1 0 := fun p hp => by
    have := List.all_eq_true.1 h2 p hp
    simpa using this
  have hz' : ∀ i o, ops[i]? = some o → (o, i) ∈ ops.toList.zipIdx := by
    intro i o ho
    rw [List.mem_zipIdx_iff_getElem?]
    simpa using ho
  have hop : ∀ e, e ∈ T → ops[e.i]? = some e.o := by
    intro e he
    have : e.key ∈ plan ops.toList (ancestors ops.toList []) ops.toList.length 0 := by rw [hk]; exact List.mem_append_left _ (List.mem_map_of_mem he)
    have := plan_spec this
    simpa [Evt.key] using this
  have hz : ∀ e, e ∈ T → (e.o, e.i) ∈ ops.toList.zipIdx := by
    intro e he
    rw [List.mem_zipIdx_iff_getElem?]
    simpa using hop e he
  have hanc : ∀ e, e ∈ T → e.anc = (ancestors ops.toList []).getD e.i 0 := by
    intro e he
    have := List.all_eq_true.1 h2 e.key (List.mem_append_left _ (List.mem_map_of_mem he))
    simpa [Evt.key] using this
  refine ⟨⟨hc, hg, hr, ?_, fun e he j => by rw [hanc e he], hop, ?_, ?_, ?_⟩, ?_⟩
  · have : ∀ T : List Evt, (∀ e, e ∈ T → e.anc = (ancestors ops.toList []).getD e.i 0) → ordB (T.map Evt.key ++ R) = true → T.Pairwise (fun e1 e2 => bit ((ancestors ops.toList []).getD e1.i 0) e2.i = false ∧ e1.i ≠ e2.i) := by
      intro T
      induction T with
      | nil => intro _ _; exact .nil
      | cons e r ih =>
        intro ha hb
        simp only [List.map_cons, List.cons_append, ordB, Bool.and_eq_true] at hb
        refine List.pairwise_cons.2 ⟨fun x hx => ?_, ih (fun y hy => ha y (List.mem_cons_of_mem _ hy)) hb.2⟩
        have := List.all_eq_true.1 hb.1 x.key (List.mem_append_left _ (List.mem_map_of_mem hx))
        simp only [Evt.key, Bool.and_eq_true, Bool.not_eq_true'] at this
        rw [← ha e (by simp)]
        exact ⟨this.1, fun e1 => by rw [e1] at this; simp at this⟩
    exact this T hanc h1
  · intro e he j hj ha
    have := List.all_eq_true.1 (List.all_eq_true.1 h4 (e.o, e.i) (hz e he)) j (by simpa using hj)
    simp only [ha, Bool.not_true, Bool.false_or] at this
    obtain ⟨d, h7, h8⟩ := List.any_eq_true.1 this
    simp only [Bool.and_eq_true, Bool.or_eq_true] at h8
    exact ⟨d, by simpa using h7, h8.1, h8.2.imp (fun h => by simpa using h) id⟩
  · intro e he d hd hb
    have := List.all_eq_true.1 (List.all_eq_true.1 h5 (e.o, e.i) (hz e he)) d (by simpa using hd)
    simp only [hb, Bool.not_true, Bool.false_or, Bool.and_eq_true, Bool.not_eq_true', Nat.blt_eq] at this
    exact ⟨this.1.1, by simpa using this.1.2, fun e1 => by rw [e1] at this; simp at this⟩
  · intro p hp q hq hne t hd hl
    have := List.all_eq_true.1 h6 (p.o, p.i) (hz p hp)
    simp only [hd] at this
    have := List.all_eq_true.1 this (q.o, q.i) (hz q hq)
    simp only [Bool.or_eq_true] at this
    rcases this with ((h7 | h7) | h7) | h7
    · have h7' : q.i = p.i := by simpa using h7
      exact absurd h7'.symm hne
    · exfalso
      rcases hl with hl | hl
      · simp [hl] at h7
      · simp [hl] at h7
    · exact .inl h7
    · exact .inr h7
  · refine ⟨hpop, fun p hp j => by rw [hpanc p hp], ?_, ?_, ?_, ?_, ?_⟩
    · have : ∀ L : List (Nat × Nat × Oper), (∀ p, p ∈ L → p.2.1 = (ancestors ops.toList []).getD p.1 0) → ordB L = true → L.Pairwise (fun p q => bit ((ancestors ops.toList []).getD p.1 0) q.1 = false ∧ p.1 ≠ q.1) := by
        intro L
        induction L with
        | nil => intro _ _; exact .nil
        | cons p r ih =>
          intro ha hb
          simp only [ordB, Bool.and_eq_true] at hb
          refine List.pairwise_cons.2 ⟨fun x hx => ?_, ih (fun y hy => ha y (List.mem_cons_of_mem _ hy)) hb.2⟩
          have := List.all_eq_true.1 hb.1 x hx
          simp only [Bool.and_eq_true, Bool.not_eq_true'] at this
          rw [← ha p (by simp)]
          exact ⟨this.1, fun e1 => by rw [e1] at this; simp at this⟩
      exact this _ hpanc h1
    · intro j hj
      have := List.all_eq_true.1 h3 j (by simpa using hj)
      obtain ⟨p, hp, he⟩ := List.any_eq_true.1 this
      exact ⟨p, hp, by simpa using he⟩
    · intro i o ho j hj ha
      have := List.all_eq_true.1 (List.all_eq_true.1 h4 (o, i) (hz' i o ho)) j (by simpa using hj)
      simp only [ha, Bool.not_true, Bool.false_or] at this
      obtain ⟨d, h7, h8⟩ := List.any_eq_true.1 this
      simp only [Bool.and_eq_true, Bool.or_eq_true] at h8
      exact ⟨d, by simpa using h7, h8.1, h8.2.imp (fun h => by simpa using h) id⟩
    · intro i o ho d hd hb
      have := List.all_eq_true.1 (List.all_eq_true.1 h5 (o, i) (hz' i o ho)) d (by simpa using hd)
      simp only [hb, Bool.not_true, Bool.false_or, Bool.and_eq_true, Bool.not_eq_true', Nat.blt_eq] at this
      exact ⟨this.1.1, by simpa using this.1.2, fun e1 => by rw [e1] at this; simp at this⟩
    · intro i o j q ho hq hne t hd hl
      have := List.all_eq_true.1 h6 (o, i) (hz' i o ho)
      simp only [hd] at this
      have := List.all_eq_true.1 this (q, j) (hz' j q hq)
      simp only [Bool.or_eq_true] at this
      rcases this with ((h7 | h7) | h7) | h7
      · have h7' : j = i := by simpa using h7
        exact absurd h7'.symm hne
      · exfalso
        rcases hl with hl | hl
        · simp [hl] at h7
        · simp [hl] at h7
      · exact .inl h7
      · exact .inr h7

end Go.Aes
set_option linter.unusedVariables false
set_option linter.unusedSimpArgs false
namespace Go.Aes
open Go.RowKit

section
variable {X : Cx} {P : Program} {K : KC} {B : Nat} {W w : World} {H : AH}

theorem new_late {s : Sem Next} {o : AO} {wr : Wr} {i : Nat} (hs : InSim X P K s (.new o wr)) (hg : H.get i = some o) (hm : K.μ i = none) (hi : i < H.nx) (hw1 : RW B W K H w) :
    ∃ v w' x, s.run P w = .ok (.value v) w' ∧ RV (K.setμ i x) (wr.mk i) v ∧ RW B W (K.setμ i x) H w' := by
  cases o with
  | tok => exact hs.elim
  | cells cs =>
    obtain ⟨vs, ty, hl, hr⟩ := hs
    obtain ⟨v, h1, h2⟩ := hr w
    refine ⟨v, _, (w.heap.size, vs.length), h1, h2 _ _ (by simp [KC.setμ]), ?_⟩
    refine hw1.place hg (by simp) hm hi _ _ (fun K' hK b z hb => ?_)
    subst hK
    simp [KC.setμ] at hb
    obtain ⟨rfl, rfl⟩ := hb
    refine ⟨vs.toArray, ty, by show (w.heap.push _)[w.heap.size]? = _; simp, by simp, by rw [hl.len]; exact Nat.le_refl _, fun j a x e e' => ?_, fun o => hw1.noF o⟩
    exact (hl.at_ j a x e (by simpa using e')).mono (KC.le_setμ hm)
  | obj ty k cs =>
    obtain ⟨vs, hl, hr⟩ := hs
    obtain ⟨v, h1, h2⟩ := hr w
    refine ⟨v, _, (w.heap.size, vs.length), h1, h2 _ _ (by simp [KC.setμ]), ?_⟩
    refine hw1.place hg (by simp) hm hi _ _ (fun K' hK b z hb => ?_)
    subst hK
    simp [KC.setμ] at hb
    obtain ⟨rfl, rfl⟩ := hb
    refine ⟨vs.toArray, (0, 0), by show (w.heap.push _)[w.heap.size]? = _; simp, by simp, by rw [hl.len]; exact Nat.le_refl _, fun j a x e e' => ?_, fun o => hw1.noF o, fun _ => rfl, fun _ => hl.len.symm⟩
    exact (hl.at_ j a x e (by simpa using e')).mono (KC.le_setμ hm)
  | map es =>
    obtain ⟨rfl, hr⟩ := hs
    obtain ⟨v, h1, h2⟩ := hr w
    refine ⟨v, _, (w.heap.size, 0), h1, h2 _ _ 0 (by simp [KC.setμ]), ?_⟩
    refine hw1.place hg (by simp) hm hi _ _ (fun K' hK b z hb => ?_)
    subst hK
    simp [KC.setμ] at hb
    obtain ⟨rfl, rfl⟩ := hb
    exact ⟨#[], 0, by show (w.heap.push _)[w.heap.size]? = _; simp, ⟨rfl, fun j x e h => by simp at h⟩⟩
  | iter rest pos =>
    obtain ⟨sb, hd, hr⟩ := hs
    obtain ⟨v, h1, h2⟩ := hr w
    refine ⟨v, _, (w.heap.size, 0), h1, h2 _ _ 0 (by simp [KC.setμ]), ?_⟩
    refine hw1.place hg (by simp) hm hi _ _ (fun K' hK b z hb => ?_)
    subst hK
    simp [KC.setμ] at hb
    obtain ⟨rfl, rfl⟩ := hb
    exact ⟨sb, by show (w.heap.push _)[w.heap.size]? = _; simp, hd⟩

end

/-- the first that changes memory -/
theorem spanEff : ∀ T : List Evt, ∃ T1 T2, T = T1 ++ T2 ∧ (∀ e, e ∈ T1 → e.eff = false) ∧ (T2 = [] ∨ ∃ e r, T2 = e :: r ∧ e.eff = true)
  | [] => ⟨[], [], rfl, fun e he => by simp at he, .inl rfl⟩
  | e :: r => by
    cases he : e.eff with
    | true => exact ⟨[], e :: r, rfl, fun e he => by simp at he, .inr ⟨e, r, rfl, he⟩⟩
    | false =>
      obtain ⟨T1, T2, h1, h2, h3⟩ := spanEff r
      exact ⟨e :: T1, T2, by rw [h1]; rfl, fun x hx => by rcases List.mem_cons.1 hx with rfl | hx; · exact he
                                                          · exact h2 x hx, h3⟩

/-- the last that changes memory -/
theorem lastEff : ∀ T : List Evt, (∀ e, e ∈ T → e.eff = false) ∨ ∃ T1 e T2, T = T1 ++ e :: T2 ∧ e.eff = true ∧ ∀ x, x ∈ T2 → x.eff = false
  | [] => .inl fun e he => by simp at he
  | e :: r => by
    rcases lastEff r with h | ⟨T1, x, T2, h1, h2, h3⟩
    · cases he : e.eff with
      | true => exact .inr ⟨[], e, r, rfl, he, h⟩
      | false => exact .inl fun x hx => by rcases List.mem_cons.1 hx with rfl | hx; · exact he
                                           · exact h x hx
    · exact .inr ⟨e :: T1, x, T2, by rw [h1]; rfl, h2, h3⟩

section
variable {ds : List Deferred}
variable {X : Cx} {P : Program} {B : Nat} {W : World} {C : CallF} {f nt : Nat} {ops : Array Oper} {A : Nat → Nat → Bool} {T : List Evt} {s s' : St} {K0 : KC}

structure Inv0 (X : Cx) (P : Program) (ds : List Deferred) (B : Nat) (W : World) (nt : Nat) (ops : Array Oper) (A : Nat → Nat → Bool) (T : List Evt) (s s' : St) (K0 : KC) (S : Nat → Bool) (a : Act) (w : World) (K : KC) (T0 T2 : List Evt) : Prop where
  split : T = T0 ++ T2
  closed : ∀ i j, j < ops.size → S i = true → A i j = true → S j = true
  done : ∀ e, e ∈ T0 → e.eff = true → S e.i = true
  later : ∀ e, e ∈ T2 → e.eff = true → S e.i = false
  head : T2 = [] ∨ ∃ e r, T2 = e :: r ∧ e.eff = true
  rf : RF ds K nt (foldS S T s.fr) a
  rw : RW B W K (hdH T2 s') w
  fits : Fits K0 s.H K (hdH T2 s')
  apart : ∀ e e2 o wr o2 wr2, e ∈ T0 → e2 ∈ T0 → S e.i = false → S e2.i = false → e.ran = some (.new o wr) → e2.ran = some (.new o2 wr2) → e2.i ≠ e.i → e2.s.H.nx ≠ e.s.H.nx
  news : ∀ e o wr, e ∈ T0 → S e.i = false → e.ran = some (.new o wr) → K.μ e.s.H.nx = none ∧ s.H.nx ≤ e.s.H.nx ∧ e.s.H.nx < (hdH T2 s').nx ∧ (hdH T2 s').get e.s.H.nx = some o

def addS (S : Nat → Bool) (i : Nat) : Nat → Bool := fun j => S j || decide (j = i)

theorem Cn.lt (h : Cn X C f nt ops A T s s') {e : Evt} (he : e ∈ T) : e.i < ops.size := by
  have := h.op e he
  rcases Nat.lt_or_ge e.i ops.size with h1 | h1
  · exact h1
  · rw [Array.getElem?_eq_none h1] at this; cases this

theorem Cn.dst (h : Cn X C f nt ops A T s s') {e : Evt} (he : e ∈ T) : dstOk nt e.o.dst = true := (h.good e he).1

theorem Cn.inj (h : Cn X C f nt ops A T s s') {p q : Evt} (hp : p ∈ T) (hq : q ∈ T) (hi : p.i = q.i) : p = q := by
  have key : ∀ T : List Evt, T.Pairwise (fun e1 e2 => A e1.i e2.i = false ∧ e1.i ≠ e2.i) → p ∈ T → q ∈ T → p = q := by
    intro T
    induction T with
    | nil => intro _ hp; simp at hp
    | cons e r ih =>
      intro hpw hp hq
      obtain ⟨h1, h2⟩ := List.pairwise_cons.1 hpw
      rcases List.mem_cons.1 hp with hp1 | hp1
      · rcases List.mem_cons.1 hq with hq1 | hq1
        · rw [hp1, hq1]
        · rw [hp1] at hi; exact absurd hi (h1 q hq1).2
      · rcases List.mem_cons.1 hq with hq1 | hq1
        · rw [hq1] at hi; exact absurd hi.symm (h1 p hp1).2
        · exact ih h2 hp1 hq1
  exact key T h.ord hp hq

/-- an operation that may come up finds what it looks at as in the canonical order -/
theorem look_same (h : Cn X C f nt ops A T s s') (hnt : nt < 2 ^ 39) {S : Nat → Bool} (hcl : ∀ i j, j < ops.size → S i = true → A i j = true → S j = true)
    {e : Evt} (he : e ∈ T) (hS : S e.i = false) (hr : ∀ j, j < ops.size → A e.i j = true → S j = true) :
    (∀ t, t ∈ looks ops.toList e.o → e.s.fr.get t = (foldS S T s.fr).get t) ∧
    (∀ t, (foldS (addS S e.i) T s.fr).get t = if e.o.dst = some t then some e.v else (foldS S T s.fr).get t) := by
  obtain ⟨Ta, Tb, hT⟩ := List.append_of_mem he
  have hch := h.chain
  rw [hT] at hch
  obtain ⟨m, c1, c2⟩ := hch.split
  obtain ⟨c3, c4⟩ := c2
  have hord := h.ord
  rw [hT] at hord
  obtain ⟨ob, oa⟩ := pairwise_mid hord
  have ma : ∀ p, p ∈ Ta → p ∈ T := fun p hp => by rw [hT]; simp [hp]
  have mb : ∀ p, p ∈ Tb → p ∈ T := fun p hp => by rw [hT]; simp [hp]
  -- of two that touch the same slot
  have before : ∀ p, p ∈ Ta → ∀ t, p.o.dst = some t → (t ∈ looks ops.toList e.o ∨ e.o.dst = some t) → S p.i = true := by
    intro p hp t hd hl
    rcases h.tmp p (ma p hp) e he (ob p hp).2 t hd hl with h1 | h1
    · exact hr _ (h.lt (ma p hp)) h1
    · rw [(ob p hp).1] at h1; cases h1
  have after_ : ∀ p, p ∈ Tb → ∀ t, p.o.dst = some t → (t ∈ looks ops.toList e.o ∨ e.o.dst = some t) → S p.i = false := by
    intro p hp t hd hl
    rcases h.tmp p (mb p hp) e he (Ne.symm (oa p hp).2) t hd hl with h1 | h1
    · rw [(oa p hp).1] at h1; cases h1
    · cases hs : S p.i with
      | false => rfl
      | true => rw [hcl p.i e.i (h.lt he) hs h1] at hS; cases hS
  have da : ∀ p, p ∈ Ta → dstOk nt p.o.dst = true := fun p hp => h.dst (ma p hp)
  have db : ∀ p, p ∈ Tb → dstOk nt p.o.dst = true := fun p hp => h.dst (mb p hp)
  refine ⟨fun t ht => ?_, fun t => ?_⟩
  · rw [c3, ← c1.fold, hT, foldS_append]
    simp only [foldS, hS, cond_false]
    rw [foldS_skip (S := S) hnt db (fun p hp hs hd => by rw [after_ p hp t hd (.inl ht)] at hs; cases hs)]
    exact foldS_congr hnt da (fun p hp hd => (before p hp t hd (.inl ht)).symm) rfl
  · rw [hT, foldS_append, foldS_append]
    have hSe : addS S e.i e.i = true := by simp [addS]
    have sa : ∀ p, p ∈ Ta → addS S e.i p.i = S p.i := fun p hp => by simp [addS]; intro h1; exact absurd h1 (ob p hp).2
    have sb : ∀ p, p ∈ Tb → addS S e.i p.i = S p.i := fun p hp => by simp [addS]; intro h1; exact absurd h1.symm (oa p hp).2
    simp only [foldS, hS, hSe, cond_true, cond_false]
    by_cases hd : e.o.dst = some t
    · rw [if_pos hd]
      rw [foldS_skip hnt db (fun p hp hs hdp => by rw [sb p hp, after_ p hp t hdp (.inr hd)] at hs; cases hs)]
      rw [putD_get hnt (h.dst he), if_pos hd]
    · rw [if_neg hd]
      refine foldS_congr hnt db (fun p hp _ => sb p hp) ?_
      rw [putD_get hnt (h.dst he), if_neg hd]
      exact foldS_congr hnt da (fun p hp _ => sa p hp) rfl

theorem Inv0.put (h : Cn X C f nt ops A T s s') (hnt : nt < 2 ^ 39) {S : Nat → Bool} {K' : KC} {a : Act} (hcl : ∀ i j, j < ops.size → S i = true → A i j = true → S j = true)
    {e : Evt} (he : e ∈ T) (hS : S e.i = false) (hr : ∀ j, j < ops.size → A e.i j = true → S j = true) (rf : RF ds K' nt (foldS S T s.fr) a) {v' : Value} (hv : RV K' e.v v') :
    RF ds K' nt (foldS (addS S e.i) T s.fr) (a.put e.o.dst v') := by
  refine (rf.put hnt (h.dst he) hv).congr fun t => ?_
  rw [(look_same h hnt hcl he hS hr).2 t, putD_get hnt (h.dst he)]

theorem addS_closed {S : Nat → Bool} (hcl : ∀ i j, j < ops.size → S i = true → A i j = true → S j = true) {k : Nat} (hr : ∀ j, j < ops.size → A k j = true → S j = true) :
    ∀ i j, j < ops.size → addS S k i = true → A i j = true → addS S k j = true := by
  intro i j hj hi ha
  simp only [addS, Bool.or_eq_true, decide_eq_true_eq] at hi ⊢
  left
  rcases hi with hi | hi
  · exact hcl i j hj hi ha
  · subst hi; exact hr j hj ha

end
end Go.Aes
set_option linter.unusedVariables false
set_option linter.unusedSimpArgs false
namespace Go.Aes
open Go.RowKit

section
variable {ds : List Deferred}
variable {X : Cx} {P : Program} {B : Nat} {W : World} {C : CallF} {f nt : Nat} {ops : Array Oper} {A : Nat → Nat → Bool} {T : List Evt} {s s' : St} {K0 K : KC} {S : Nat → Bool} {a : Act} {w : World} {T0 T2 : List Evt}

theorem good_new {all : List Oper} {e : Evt} {o : AO} {wr : Wr} (hg : Good X C f nt all e) (hr : e.ran = some (.new o wr)) :
    e.v = wr.mk e.s.H.nx ∧ e.H'.nx = e.s.H.nx + 1 ∧ e.H'.get e.s.H.nx = some o := by
  rcases hg.2 with ⟨h1, _⟩ | ⟨n, h1, h2, h3, h4⟩
  · rw [hr] at h1; cases h1
  · rw [hr] at h1
    injection h1 with h1
    subst h1
    simp only [exec, v2] at h4
    cases hn : e.s.H.new o with
    | none => simp [hn] at h4
    | some p =>
      obtain ⟨id, H2⟩ := p
      simp [hn] at h4
      obtain ⟨h5, h6⟩ := h4
      obtain ⟨a1, a2, a3, a4⟩ := AH.new_spec hn
      refine ⟨by rw [← h5, a1], by rw [← h6, a2], ?_⟩
      rw [← h6, a4, if_pos a1.symm]

theorem chain_at (h : Cn X C f nt ops A T s s') (inv : Inv0 X P ds B W nt ops A T s s' K0 S a w K T0 T2) {e : Evt} {Ta Tb : List Evt} (hT : T0 = Ta ++ e :: Tb) : ∃ m, Chain Tb e.post m ∧ hdH T2 s' = m.H ∧ (∀ x, x ∈ Tb → Good X C f nt ops.toList x) ∧ Chain Ta s e.s := by
  have hch := h.chain
  rw [inv.split, hT] at hch
  obtain ⟨m, c1, c2⟩ := hch.split
  obtain ⟨m1, c3, c4⟩ := c1.split
  refine ⟨m, c4.2, c2.hd, fun x hx => h.good x (by rw [inv.split, hT]; simp [hx]), ?_⟩
  rw [c4.1]; exact c3

/-- ids of what is new in a calm stretch are apart -/
theorem seg_apart (B : Nat) (W : World) {all : List Oper} {T : List Evt} {s m : St} (hc : Chain T s m) (hg : ∀ e, e ∈ T → Good X C f nt all e) (hn : ∀ e, e ∈ T → e.eff = false) {e e2 : Evt} {o o2 : AO} {wr wr2 : Wr} (he : e ∈ T) (he2 : e2 ∈ T)
    (hr : e.ran = some (.new o wr)) (hr2 : e2.ran = some (.new o2 wr2)) (hne : e2.i ≠ e.i) : e2.s.H.nx ≠ e.s.H.nx := by
  have key : ∀ {p q : Evt} {o : AO} {wr : Wr} {Ta Tb : List Evt}, T = Ta ++ p :: Tb → q ∈ Tb → p.ran = some (.new o wr) → p.s.H.nx < q.s.H.nx := by
    intro p q o wr Ta Tb hT hq hrp
    rw [hT] at hc
    obtain ⟨m1, c1, c2⟩ := hc.split
    obtain ⟨c3, c4⟩ := c2
    obtain ⟨i1, i2, i3, i4, i5⟩ := seg_mono (B := B) (W := W) c4 (fun x hx => hg x (by rw [hT]; simp [hx])) (fun x hx => hn x (by rw [hT]; simp [hx]))
    have h1 := (i5 q hq).1
    have h2 := (good_new (hg p (by rw [hT]; simp)) hrp).2.1
    have : p.post.H = p.H' := rfl
    rw [this] at h1
    omega
  obtain ⟨Ta, Tb, hT⟩ := List.append_of_mem he
  have hm : e2 ∈ Ta ++ e :: Tb := hT ▸ he2
  rcases List.mem_append.1 hm with hm | hm
  · obtain ⟨Ta1, Ta2, hT2⟩ := List.append_of_mem hm
    have := key (p := e2) (q := e) (Ta := Ta1) (Tb := Ta2 ++ e :: Tb) (by rw [hT, hT2]; simp) (by simp) hr2
    omega
  · rcases List.mem_cons.1 hm with hm | hm
    · rw [hm] at hne; exact absurd rfl hne
    · have := key (p := e) (q := e2) hT hm hr
      omega

theorem kept_spec {o : AO} {wr : Wr} {id : Nat} {H : AH} (h : kept (.new o wr) (wr.mk id) H = true) : H.get id = some o := by
  cases o <;> cases wr <;> simp only [kept, Wr.mk] at h <;> first | (cases h; done) | skip
  rename_i cs
  cases hg : H.get id with
  | none => simp [hg] at h
  | some ob =>
    cases ob <;> simp only [hg] at h <;> first | (cases h; done) | skip
    rw [beqVs_sound _ _ h]

theorem step_wp (ok : CxOk X P) (hc : CallOk P B W C) (h : Cn X C f nt ops A T s s') (hnt : nt < 2 ^ 39) (inv : Inv0 X P ds B W nt ops A T s s' K0 S a w K T0 T2)
    {e : Evt} (he : e ∈ T) (hS : S e.i = false) (hr : ∀ j, j < ops.size → A e.i j = true → S j = true) {Q : Exit → Act → World → Prop} {next : Act → World → Prop}
    (hn : ∀ a' w' K' T0' T2', Inv0 X P ds B W nt ops A T s s' K0 (addS S e.i) a' w' K' T0' T2' → next a' w') : wpOp P ops Q e.i next a w := by
  obtain ⟨ls1, ls2⟩ := look_same h hnt inv.closed he hS hr
  have hclosed := addS_closed (A := A) (ops := ops) inv.closed hr
  have hSe : addS S e.i e.i = true := by simp [addS]
  have hmono : ∀ j, S j = true → addS S e.i j = true := fun j hj => by simp [addS, hj]
  have hback : ∀ j, addS S e.i j = false → S j = false ∧ j ≠ e.i := fun j hj => by simpa [addS] using hj
  have hnot : ∀ j, S j = false → j ≠ e.i → addS S e.i j = false := fun j h1 h2 => by simp [addS, h1, h2]
  unfold wpOp
  rw [h.op e he]
  simp only []
  rw [inv.rf.wanted ops e.o, ← looks_wanted ls1]
  rcases (h.good e he).2 with ⟨g1, g2, g3, g4⟩ | ⟨n, g1, g2, g3, g4⟩
  · rw [g2]
    simp only [Bool.false_eq_true, if_false]
    refine hn _ _ K T0 T2 ⟨inv.split, hclosed, fun x hx hxe => hmono _ (inv.done x hx hxe), fun x hx hxe => hnot _ (inv.later x hx hxe) ?_, inv.head, ?_, inv.rw, inv.fits, fun x y o wr o2 wr2 hx hy hxs hys => inv.apart x y o wr o2 wr2 hx hy (hback _ hxs).1 (hback _ hys).1, fun x o wr hx hxs hxr => inv.news x o wr hx (hback _ hxs).1 hxr⟩
    · intro hxi
      have := h.inj (p := x) (q := e) (by rw [inv.split]; simp [hx]) he hxi
      subst this
      simp [Evt.eff, g1] at hxe
    · exact Inv0.put h hnt inv.closed he hS hr inv.rf (by rw [g3]; exact .undef)
  · rw [g2]
    simp only [if_true]
    rw [looks_inst ls1] at g3
    have sim := inst_sim ok g3 inv.rf
    have hput : ∀ {K' : KC} {v' : Value}, K.le K' → RV K' e.v v' → RF ds K' nt (foldS (addS S e.i) T s.fr) (a.put e.o.dst v') :=
      fun hle hv => Inv0.put h hnt inv.closed he hS hr (inv.rf.mono hle) hv
    left
    have hmem : e ∈ T0 ∨ e ∈ T2 := by rw [inv.split] at he; simpa using he
    rcases hmem with hm | hm
    · have hne : n.eff = false := by
        cases hne : n.eff with
        | false => rfl
        | true => rw [inv.done e hm (by simp [Evt.eff, g1, hne])] at hS; cases hS
      have hlater : ∀ x, x ∈ T2 → x.eff = true → addS S e.i x.i = false := by
        intro x hx hxe
        refine hnot _ (inv.later x hx hxe) fun hxi => ?_
        have := h.inj (p := x) (q := e) (by rw [inv.split]; simp [hx]) he hxi
        subst this
        simp [Evt.eff, g1, hne] at hxe
      obtain ⟨Ta, Tb, hT⟩ := List.append_of_mem hm
      obtain ⟨m, c1, c2, c3, c4⟩ := chain_at h inv hT
      rcases exec_nonEff hne g4 with ⟨o, wr, id, rfl, hnw, hv⟩ | ⟨q1, q2, q3⟩
      · obtain ⟨n1, n2, n3, n4⟩ := inv.news e o wr hm hS g1
        obtain ⟨v', w', x, k1, k2, k3⟩ := new_late sim n4 n1 n3 inv.rw
        refine wp_of_value k1 (hn _ _ (K.setμ e.s.H.nx x) T0 T2 ⟨inv.split, hclosed, fun y hy hye => hmono _ (inv.done y hy hye), hlater, inv.head, ?_, k3, ?_, fun x y o wr o2 wr2 hx hy hxs hys => inv.apart x y o wr o2 wr2 hx hy (hback _ hxs).1 (hback _ hys).1, ?_⟩)
        · exact hput (KC.le_setμ n1) (by rw [(good_new (h.good e he) g1).1]; exact k2)
        · refine ⟨inv.fits.le.trans (KC.le_setμ n1), inv.fits.nx, fun i hi => ⟨?_, (inv.fits.old i hi).2⟩⟩
          rw [← (inv.fits.old i hi).1]
          show (if i = e.s.H.nx then some x else K.μ i) = K.μ i
          rw [if_neg (by omega)]
        · intro y o2 wr2 hy hys hyr
          obtain ⟨y1, y2⟩ := hback _ hys
          obtain ⟨m1, m2, m3, m4⟩ := inv.news y o2 wr2 hy y1 hyr
          refine ⟨?_, m2, m3, m4⟩
          show (if y.s.H.nx = e.s.H.nx then some x else K.μ y.s.H.nx) = none
          rw [if_neg (inv.apart e y _ _ _ _ hm hy hS y1 g1 hyr y2)]
          exact m1
      · have hex : exec X C n (hdH T2 s') = some (.val e.v (hdH T2 s')) := by
          rcases q3 with q3 | q3
          · refine exec_rd ?_
            cases hl : logged n with
            | false => exact rd_unlogged hl q3
            | true =>
              rw [c2]
              rcases lastEff Tb with hq | ⟨T1, x, T3, h1, h2, h3⟩
              · refine rd_mono (seg_mono (B := B) (W := W) c1 c3 hq).1 ?_
                show rd X n e.H' = some e.v
                rw [q2]; exact q3
              · have hxT0 : x ∈ T0 := by rw [hT, h1]; simp
                have hrel := h.rel
                rw [inv.split, hT, List.append_assoc, List.cons_append] at hrel
                have h4 := (pairwise_mid hrel).2 x (by rw [h1]; simp)
                rcases h4.2 h2 n g1 hne hl with h5 | h5 | h5
                · rw [h.anc x (by rw [inv.split]; simp [hxT0])] at h5
                  rw [inv.closed x.i e.i (h.lt he) (inv.done x hxT0 h2) h5] at hS
                  cases hS
                · rw [h1] at c1
                  obtain ⟨m1, d1, d2⟩ := c1.split
                  exact rd_mono (seg_mono (B := B) (W := W) d2.2 (fun y hy => c3 y (by rw [h1]; simp [hy])) h3).1 h5
                · exfalso
                  cases n <;> simp [isNew] at q1 <;> simp [kept] at h5
          · exact q3 _
        refine exec_wp ok hc hex sim inv.rw ?_ ?_
        · intro v H2 v' K' w' hres f1 hv hw'
          injection hres with hr1 hr2
          subst hr2
          refine hn _ _ K' T0 T2 ⟨inv.split, hclosed, fun y hy hye => hmono _ (inv.done y hy hye), hlater, inv.head, hput f1.le (by rw [hr1]; exact hv), hw', inv.fits.trans f1, fun x y o wr o2 wr2 hx hy hxs hys => inv.apart x y o wr o2 wr2 hx hy (hback _ hxs).1 (hback _ hys).1, ?_⟩
          intro y o2 wr2 hy hys hyr
          obtain ⟨y1, y2⟩ := hback _ hys
          obtain ⟨m1, m2, m3, m4⟩ := inv.news y o2 wr2 hy y1 hyr
          exact ⟨(f1.old _ m3).1.trans m1, m2, m3, m4⟩
        · intro v H2 v' K' w' hres; cases hres
    · rcases inv.head with hh | ⟨x, T3, hh, hxe⟩
      · rw [hh] at hm; simp at hm
      have hxT : x ∈ T := by rw [inv.split, hh]; simp
      have hrel := h.rel
      rw [inv.split, hh] at hrel
      obtain ⟨r1, r2⟩ := pairwise_mid hrel
      have hord := h.ord
      rw [inv.split, hh] at hord
      obtain ⟨o1, o2⟩ := pairwise_mid hord
      rw [hh] at hm
      rcases List.mem_cons.1 hm with hm | hm
      case inr =>
        have h1 := (r2 e hm).1 hxe (by rw [g1]; simp)
        rw [h.anc e he] at h1
        have h2 := hr _ (h.lt hxT) h1
        rw [inv.later x (by rw [hh]; simp) hxe] at h2
        cases h2
      case inl =>
      subst hm
      have hhd : hdH T2 s' = e.s.H := by rw [hh]; rfl
      have hch := h.chain
      rw [inv.split, hh] at hch
      obtain ⟨m0, c1, c2⟩ := hch.split
      obtain ⟨c3, c4⟩ := c2
      have hrw := inv.rw
      have hfits := inv.fits
      rw [hhd] at hrw hfits
      refine exec_wp ok hc g4 sim hrw ?_ ?_
      · intro v H2 v' K' w' hres f1 hv hw'
        injection hres with hr1 hr2
        subst hr2
        obtain ⟨T31, T32, t1, t2, t3⟩ := spanEff T3
        rw [t1] at c4
        obtain ⟨m, d1, d2⟩ := c4.split
        have hg3 : ∀ y, y ∈ T31 → Good X C f nt ops.toList y := fun y hy => h.good y (by rw [inv.split, hh, t1]; simp [hy])
        obtain ⟨i1, i2, i3, i4, i5⟩ := seg_mono (B := B) (W := W) d1 hg3 t2
        have hpost : e.post.H = e.H' := rfl
        rw [hpost] at i1 i2 i3 i4 i5
        obtain ⟨j1, j2⟩ := i4 K' w' hw'
        have hd32 := d2.hd
        refine hn _ _ K' (T0 ++ e :: T31) T32 ⟨by rw [inv.split, hh, t1]; simp, hclosed, ?_, ?_, t3, hput f1.le (by rw [hr1]; exact hv), by rw [hd32]; exact j1, by rw [hd32]; exact (hfits.trans f1).trans j2, ?_, ?_⟩
        · intro y hy hye
          rcases List.mem_append.1 hy with hy | hy
          · exact hmono _ (inv.done y hy hye)
          · rcases List.mem_cons.1 hy with hy | hy
            · rw [hy]; exact hSe
            · rw [t2 y hy] at hye; cases hye
        · intro y hy hye
          exact hnot _ (inv.later y (by rw [hh, t1]; simp [hy]) hye) (Ne.symm (o2 y (by rw [t1]; simp [hy])).2)
        · intro x y o3 wr3 o4 wr4 hx hy hxs hys hxr hyr hxy
          obtain ⟨x1, x2⟩ := hback _ hxs
          obtain ⟨y1, y2⟩ := hback _ hys
          have old : ∀ z o wr, z ∈ T0 → S z.i = false → z.ran = some (.new o wr) → z.s.H.nx < e.s.H.nx := fun z o wr hz hzs hzr => by
            have := (inv.news z o wr hz hzs hzr).2.2.1
            rw [hhd] at this
            exact this
          have new : ∀ z o wr, z ∈ T31 → z.ran = some (.new o wr) → e.s.H.nx ≤ z.s.H.nx := fun z o wr hz hzr => by
            have := (i3 z _ hz hzr rfl).1
            have := f1.nx
            omega
          rcases List.mem_append.1 hx with hx | hx
          · rcases List.mem_append.1 hy with hy | hy
            · exact inv.apart x y _ _ _ _ hx hy x1 y1 hxr hyr hxy
            · rcases List.mem_cons.1 hy with hy | hy
              · rw [hy] at y2; exact absurd rfl y2
              · have := old x _ _ hx x1 hxr
                have := new y _ _ hy hyr
                omega
          · rcases List.mem_cons.1 hx with hx | hx
            · rw [hx] at x2; exact absurd rfl x2
            · rcases List.mem_append.1 hy with hy | hy
              · have := old y _ _ hy y1 hyr
                have := new x _ _ hx hxr
                omega
              · rcases List.mem_cons.1 hy with hy | hy
                · rw [hy] at y2; exact absurd rfl y2
                · exact seg_apart B W d1 hg3 t2 hx hy hxr hyr hxy
        · intro y o3 wr3 hy hys hyr
          obtain ⟨y1, y2⟩ := hback _ hys
          rcases List.mem_append.1 hy with hy | hy
          · rcases (r1 y hy).2 hxe _ hyr rfl rfl with h3 | h3 | h3
            · exfalso
              rw [h.anc e he] at h3
              rw [hr _ (h.lt (by rw [inv.split]; simp [hy])) h3] at y1
              cases y1
            · exfalso
              simp [rd] at h3
            · obtain ⟨m1, m2, m3, m4⟩ := inv.news y o3 wr3 hy y1 hyr
              rw [hhd] at m3
              have k1 := (good_new (h.good y (by rw [inv.split]; simp [hy])) hyr).1
              rw [k1] at h3
              have k2 := kept_spec h3
              have k3 := f1.nx
              rw [hd32]
              exact ⟨(f1.old _ m3).1.trans m1, m2, by omega, i1 _ _ k2⟩
          · rcases List.mem_cons.1 hy with hy | hy
            · rw [hy] at y2; exact absurd rfl y2
            · have k1 := i3 y _ hy hyr rfl
              have k2 := (i5 y hy).2.2
              have k3 := (good_new (hg3 y hy) hyr).2.2
              have k4 := hfits.nx
              have k5 := f1.nx
              rw [hd32]
              exact ⟨(hw'.fresh _ k1.1).1, by omega, k1.2, k2 _ _ k3⟩
      · intro v H2 v' K' w' hres; cases hres

end
end Go.Aes
set_option linter.unusedVariables false
set_option linter.unusedSimpArgs false
namespace Go.Aes
open Go.RowKit

theorem filter_lt {α : Type} {p q : α → Bool} : ∀ {l : List α}, (∀ x, x ∈ l → p x = true → q x = true) → ∀ {e : α}, e ∈ l → q e = true → p e = false → (l.filter p).length < (l.filter q).length
  | [], _, e, he, _, _ => by simp at he
  | x :: r, h, e, he, hq, hp => by
    have hle : (r.filter p).length ≤ (r.filter q).length := by
      have : ∀ r : List α, (∀ x, x ∈ r → p x = true → q x = true) → (r.filter p).length ≤ (r.filter q).length := by
        intro r
        induction r with
        | nil => intro _; simp
        | cons y r ih =>
          intro h
          have := ih (fun x hx => h x (List.mem_cons_of_mem _ hx))
          cases hpy : p y with
          | false => rw [List.filter_cons_of_neg (by simp [hpy])]; cases hqy : q y with
            | false => rw [List.filter_cons_of_neg (by simp [hqy])]; exact this
            | true => rw [List.filter_cons_of_pos hqy]; simp; omega
          | true => rw [List.filter_cons_of_pos hpy, List.filter_cons_of_pos (h y (by simp) hpy)]; simp; omega
      exact this r (fun x hx => h x (List.mem_cons_of_mem _ hx))
    rcases List.mem_cons.1 he with he | he
    · subst he
      rw [List.filter_cons_of_neg (by simp [hp]), List.filter_cons_of_pos hq]
      simp; omega
    · have ih := filter_lt (fun x hx => h x (List.mem_cons_of_mem _ hx)) he hq hp
      cases hpx : p x with
      | false => rw [List.filter_cons_of_neg (by simp [hpx])]; cases hqx : q x with
        | false => rw [List.filter_cons_of_neg (by simp [hqx])]; exact ih
        | true => rw [List.filter_cons_of_pos hqx]; simp; omega
      | true => rw [List.filter_cons_of_pos hpx, List.filter_cons_of_pos (h x (by simp) hpx)]; simp; omega

theorem first_not {α : Type} (p : α → Bool) : ∀ l : List α, (∀ x, x ∈ l → p x = true) ∨ ∃ l1 x l2, l = l1 ++ x :: l2 ∧ (∀ y, y ∈ l1 → p y = true) ∧ p x = false
  | [] => .inl fun x hx => by simp at hx
  | x :: r => by
    cases hp : p x with
    | false => exact .inr ⟨[], x, r, rfl, fun y hy => by simp at hy, hp⟩
    | true =>
      rcases first_not p r with h | ⟨l1, y, l2, h1, h2, h3⟩
      · exact .inl fun y hy => by rcases List.mem_cons.1 hy with rfl | hy; · exact hp
                                  · exact h y hy
      · exact .inr ⟨x :: l1, y, l2, by rw [h1]; rfl, fun z hz => by rcases List.mem_cons.1 hz with rfl | hz; · exact hp
                                                                    · exact h2 z hz, h3⟩

theorem plan_len {all : List Oper} {ancs : List Nat} : ∀ {n done : Nat}, (plan all ancs n done).length ≤ n
  | 0, _ => by simp [plan]
  | n + 1, done => by
    simp only [plan]
    split
    · have := plan_len (all := all) (ancs := ancs) (n := n) (done := done ||| (1 <<< ‹Nat × Nat × Oper›.1)); simp; exact this
    · split
      · have := plan_len (all := all) (ancs := ancs) (n := n) (done := done ||| (1 <<< ‹Nat × Nat × Oper›.1)); simp; exact this
      · simp

section
variable {ds : List Deferred}
variable {X : Cx} {P : Program} {B : Nat} {W : World} {C : CallF} {f nt : Nat} {ops : Array Oper} {A : Nat → Nat → Bool} {T : List Evt} {s s' : St} {K0 : KC}

theorem all_listed (h : Cn X C f nt ops A T s s') (full : ∀ j, j < ops.size → ∃ e, e ∈ T ∧ e.i = j) {listed : Array Bool} (hsz : listed.size = ops.size) (hr : Region.ready .any ops listed = []) : ∀ e, e ∈ T → listed.getD e.i false = true := by
  rcases first_not (fun e : Evt => listed.getD e.i false) T with h0 | ⟨Ta, e, Tb, h1, h2, h3⟩
  · exact h0
  · exfalso
    have he : e ∈ T := by rw [h1]; simp
    have hlt := h.lt he
    have hrd : e.i ∈ Region.ready .any ops listed := by
      rw [mem_ready]
      refine ⟨?_, e.o, h.op e he, fun d hd hb => ?_⟩
      · rw [Array.getD_eq_getD_getElem?] at h3 ⊢
        have : e.i < listed.size := by omega
        simp [this] at h3 ⊢
        exact h3
      · obtain ⟨d1, d2, d3⟩ := h.dir e he d hd hb
        obtain ⟨p, p1, p2⟩ := full d.on d2
        have hord := h.ord
        rw [h1] at hord
        obtain ⟨o1, o2⟩ := pairwise_mid hord
        rw [h1] at p1
        rcases List.mem_append.1 p1 with p1 | p1
        · rw [← p2]; exact h2 p p1
        · rcases List.mem_cons.1 p1 with p1 | p1
          · rw [p1] at p2; exact absurd p2.symm d3
          · have := (o2 p p1).1
            rw [p2, d1] at this; cases this
    rw [hr] at hrd
    cases hrd

theorem dops_any (ok : CxOk X P) (hc : CallOk P B W C) (h : Cn X C f nt ops A T s s') (full : ∀ j, j < ops.size → ∃ e, e ∈ T ∧ e.i = j) (hnt : nt < 2 ^ 39) {Q : Exit → Act → World → Prop} (sat : Sat ds B W nt K0 s.H .normal s' Q) :
    ∀ (fuel : Nat) (listed : Array Bool) (a : Act) (w : World) (K : KC) (T0 T2 : List Evt), listed.size = ops.size → (T.filter fun e => !listed.getD e.i false).length ≤ fuel →
      Inv0 X P ds B W nt ops A T s s' K0 (fun i => listed.getD i false) a w K T0 T2 → wpAny P .any ops Q fuel listed a w := by
  have fin : ∀ (listed : Array Bool) (a : Act) (w : World) (K : KC) (T0 T2 : List Evt), listed.size = ops.size → (∀ e, e ∈ T → listed.getD e.i false = true) →
      Inv0 X P ds B W nt ops A T s s' K0 (fun i => listed.getD i false) a w K T0 T2 → Q .normal a w := by
    intro listed a w K T0 T2 hsz hall inv
    have h2 : T2 = [] := by
      rcases inv.head with h1 | ⟨e, r, h1, h3⟩
      · exact h1
      · have := inv.later e (by rw [h1]; simp) h3
        rw [hall e (by rw [inv.split, h1]; simp)] at this
        cases this
    have hh : hdH T2 s' = s'.H := by rw [h2]; rfl
    have hf := inv.fits
    have hw := inv.rw
    rw [hh] at hf hw
    refine sat K a w Go.undef hf (inv.rf.congr fun t => ?_) hw (fun v hv => by cases hv)
    rw [← h.chain.fold]
    exact foldS_congr hnt (fun e he => h.dst he) (fun e he _ => hall e he) rfl
  intro fuel
  induction fuel with
  | zero =>
    intro listed a w K T0 T2 hsz hfu inv
    have hall : ∀ e, e ∈ T → listed.getD e.i false = true := by
      intro e he
      cases hl : listed.getD e.i false with
      | true => rfl
      | false =>
        have : e ∈ T.filter fun e => !listed.getD e.i false := List.mem_filter.2 ⟨he, by simp only [hl, Bool.not_false]⟩
        have := List.length_pos_of_mem this
        omega
    refine ⟨?_, fin listed a w K T0 T2 hsz hall inv⟩
    cases hr : Region.ready .any ops listed with
    | nil => rfl
    | cons j r =>
      exfalso
      have hj : j ∈ Region.ready .any ops listed := by rw [hr]; simp
      obtain ⟨h1, o, h2, _⟩ := mem_ready.1 hj
      obtain ⟨e, he, hei⟩ := full j (Array.getElem?_eq_some_iff.1 h2).1
      have h3 := hall e he
      rw [hei, Array.getD_eq_getD_getElem?] at h3
      rw [Array.getD_eq_getD_getElem?] at h1
      have : j < listed.size := by rw [hsz]; exact (Array.getElem?_eq_some_iff.1 h2).1
      simp [this] at h1 h3
      rw [h1] at h3; cases h3
  | succ fuel ih =>
    intro listed a w K T0 T2 hsz hfu inv
    refine ⟨fun hr => fin listed a w K T0 T2 hsz (all_listed h full hsz hr) inv, fun j hj => ?_⟩
    obtain ⟨h1, o, h2, h3⟩ := mem_ready.1 hj
    have hjlt := (Array.getElem?_eq_some_iff.1 h2).1
    have hjl : j < listed.size := by omega
    obtain ⟨e, he, hei⟩ := full j hjlt
    have heo : e.o = o := by
      have := h.op e he
      rw [hei, h2] at this
      exact (Option.some.inj this).symm
    subst hei
    have hS : listed.getD e.i false = false := by
      rw [Array.getD_eq_getD_getElem?] at h1 ⊢
      simp [hjl] at h1 ⊢
      exact h1
    have hnx : ∀ j, (listed.setIfInBounds e.i true).getD j false = addS (fun i => listed.getD i false) e.i j := by
      intro j
      simp only [addS]
      by_cases hj : j = e.i
      · subst hj; simp [hjl]
      · simp [Array.getElem?_setIfInBounds_ne (Ne.symm hj), hj]
    refine step_wp ok hc h hnt inv he hS ?_ ?_
    · intro k hk ha
      obtain ⟨d, d1, d2, d3⟩ := h.up e he k hk ha
      have d4 := h3 d (by rw [← heo]; exact d1) d2
      rcases d3 with d3 | d3
      · rw [← d3]; exact d4
      · exact inv.closed d.on k hk d4 d3
    · intro a' w' K' T0' T2' inv'
      refine ih _ a' w' K' T0' T2' (by rw [Array.size_setIfInBounds]; exact hsz) ?_ ?_
      · have : (T.filter fun e_1 => !(listed.setIfInBounds e.i true).getD e_1.i false).length < (T.filter fun e => !listed.getD e.i false).length := by
          refine filter_lt (fun x hx hp => ?_) he (by simp only [hS, Bool.not_false]) (by simp only [hnx]; simp [addS])
          simp only [hnx] at hp
          simp only [addS, Bool.not_eq_true', Bool.or_eq_false_iff] at hp
          simp only [hp.1, Bool.not_false]
        omega
      · have : (fun i => (listed.setIfInBounds e.i true).getD i false) = addS (fun i => listed.getD i false) e.i := funext hnx
        rw [this]
        exact inv'

/-- the first of a plan that is not listed may come up -/
theorem ready_first {L : List (Nat × Nat × Oper)} (pl : Pl ops A L) {listed : Array Bool} (hsz : listed.size = ops.size) {L1 L2 : List (Nat × Nat × Oper)} {x : Nat × Nat × Oper} (hL : L = L1 ++ x :: L2)
    (h1 : ∀ y, y ∈ L1 → listed.getD y.1 false = true) (hx : listed.getD x.1 false = false) : x.1 ∈ Region.ready .any ops listed := by
  have hm : x ∈ L := by rw [hL]; simp
  have ho := pl.op x hm
  have hlt := (Array.getElem?_eq_some_iff.1 ho).1
  rw [mem_ready]
  refine ⟨?_, x.2.2, ho, fun d hd hb => ?_⟩
  · rw [Array.getD_eq_getD_getElem?] at hx ⊢
    have : x.1 < listed.size := by omega
    simp [this] at hx ⊢
    exact hx
  · obtain ⟨d1, d2, d3⟩ := pl.dir x.1 x.2.2 ho d hd hb
    obtain ⟨p, p1, p2⟩ := pl.full d.on d2
    have hord := pl.ord
    rw [hL] at hord
    obtain ⟨o1, o2⟩ := pairwise_mid hord
    rw [hL] at p1
    rcases List.mem_append.1 p1 with p1 | p1
    · rw [← p2]; exact h1 p p1
    · rcases List.mem_cons.1 p1 with p1 | p1
      · rw [p1] at p2; exact absurd p2.symm d3
      · have := (o2 p p1).1
        rw [p2, d1] at this; cases this

/-- one of them panics -/
theorem dops_any_p (ok : CxOk X P) (hc : CallOk P B W C) {sm : St} (h : Cn X C f nt ops A T s sm) {pi panc : Nat} {po : Oper} {r : List (Nat × Nat × Oper)} (pl : Pl ops A (T.map Evt.key ++ (pi, panc, po) :: r)) (hnt : nt < 2 ^ 39)
    {n : In} {v : AV} {H' : AH} (hw : wantedB sm.fr ops.toList po = true) (hin : inst X f sm.fr po = some n) (hex : exec X C n sm.H = some (.panic v H')) (heff : ∀ e, e ∈ T → e.eff = true → bit panc e.i = true)
    (hall : r.all (fun q => bit q.2.1 pi) = true) {Q : Exit → Act → World → Prop} (sat : Sat ds B W nt K0 s.H (.panic v) { sm with H := H' } Q) :
    ∀ (fuel : Nat) (listed : Array Bool) (a : Act) (w : World) (K : KC) (T0 T2 : List Evt), listed.size = ops.size → (T.filter fun e => !listed.getD e.i false).length < fuel → listed.getD pi false = false →
      Inv0 X P ds B W nt ops A T s sm K0 (fun i => listed.getD i false) a w K T0 T2 → wpAny P .any ops Q fuel listed a w := by
  have pm : (pi, panc, po) ∈ T.map Evt.key ++ (pi, panc, po) :: r := by simp
  have pop : ops[pi]? = some po := pl.op _ pm
  have panc' : ∀ j, bit panc j = A pi j := pl.anc _ pm
  obtain ⟨ob, oa⟩ := pairwise_mid pl.ord
  have before : ∀ e, e ∈ T → A e.i pi = false ∧ e.i ≠ pi := fun e he => ob e.key (List.mem_map_of_mem he)
  intro fuel
  induction fuel with
  | zero => intro listed a w K T0 T2 hsz hfu; omega
  | succ fuel ih =>
    intro listed a w K T0 T2 hsz hfu hpi inv
    refine ⟨fun hr => ?_, fun j hj => ?_⟩
    · exfalso
      rcases first_not (fun p : Nat × Nat × Oper => listed.getD p.1 false) (T.map Evt.key ++ (pi, panc, po) :: r) with h0 | ⟨L1, x, L2, h1, h2, h3⟩
      · have := h0 _ pm
        simp only [hpi] at this
        cases this
      · have := ready_first pl hsz h1 h2 h3
        rw [hr] at this
        cases this
    · obtain ⟨h1, o, h2, h3⟩ := mem_ready.1 hj
      have hjlt := (Array.getElem?_eq_some_iff.1 h2).1
      have hjl : j < listed.size := by omega
      have hS : listed.getD j false = false := by
        rw [Array.getD_eq_getD_getElem?] at h1 ⊢
        simp [hjl] at h1 ⊢
        exact h1
      have hup : ∀ k, k < ops.size → A j k = true → listed.getD k false = true := by
        intro k hk ha
        obtain ⟨d, d1, d2, d3⟩ := pl.up j o h2 k hk ha
        have d4 := h3 d d1 d2
        rcases d3 with d3 | d3
        · rw [← d3]; exact d4
        · exact inv.closed d.on k hk d4 d3
      obtain ⟨q, q1, q2⟩ := pl.full j hjlt
      rcases List.mem_append.1 q1 with q1 | q1
      · obtain ⟨e, he, hk⟩ := List.mem_map.1 q1
        subst hk
        have hei : e.i = j := q2
        subst hei
        have hnx : ∀ j, (listed.setIfInBounds e.i true).getD j false = addS (fun i => listed.getD i false) e.i j := by
          intro j
          simp only [addS]
          by_cases hj : j = e.i
          · subst hj; simp [hjl]
          · simp [Array.getElem?_setIfInBounds_ne (Ne.symm hj), hj]
        refine step_wp ok hc h hnt inv he hS hup ?_
        intro a' w' K' T0' T2' inv'
        refine ih _ a' w' K' T0' T2' (by rw [Array.size_setIfInBounds]; exact hsz) ?_ ?_ ?_
        · have : (T.filter fun e_1 => !(listed.setIfInBounds e.i true).getD e_1.i false).length < (T.filter fun e => !listed.getD e.i false).length := by
            refine filter_lt (fun x hx hp => ?_) he (by simp only [hS, Bool.not_false]) (by simp only [hnx]; simp [addS])
            simp only [hnx] at hp
            simp only [addS, Bool.not_eq_true', Bool.or_eq_false_iff] at hp
            simp only [hp.1, Bool.not_false]
          omega
        · rw [hnx]
          simp only [addS, hpi, Bool.false_or, decide_eq_false_iff_not]
          exact Ne.symm (before e he).2
        · have : (fun i => (listed.setIfInBounds e.i true).getD i false) = addS (fun i => listed.getD i false) e.i := funext hnx
          rw [this]
          exact inv'
      · rcases List.mem_cons.1 q1 with q1 | q1
        · have hj2 : j = pi := by rw [← q2, q1]
          subst hj2
          have ls : ∀ t, t ∈ looks ops.toList po → sm.fr.get t = (foldS (fun i => listed.getD i false) T s.fr).get t := by
            intro t ht
            rw [← h.chain.fold]
            refine foldS_congr hnt (fun e he => h.dst he) (fun e he hde => ?_) rfl
            rcases pl.tmp e.i e.o j po (h.op e he) pop (before e he).2 t hde (.inl ht) with h4 | h4
            · exact (hup _ (h.lt he) h4).symm
            · rw [(before e he).1] at h4; cases h4
          have h2n : T2 = [] := by
            rcases inv.head with h4 | ⟨e, r', h4, h5⟩
            · exact h4
            · have heT : e ∈ T := by rw [inv.split, h4]; simp
              have h6 := inv.later e (by rw [h4]; simp) h5
              have h7 := heff e heT h5
              rw [panc'] at h7
              rw [hup _ (h.lt heT) h7] at h6
              cases h6
          have hh : hdH T2 sm = sm.H := by rw [h2n]; rfl
          have hf := inv.fits
          have hrw := inv.rw
          rw [hh] at hf hrw
          have hin' := hin
          rw [looks_inst ls] at hin'
          have sim := inst_sim ok hin' inv.rf
          unfold wpOp
          rw [pop]
          simp only []
          rw [inv.rf.wanted ops po, ← looks_wanted ls, hw]
          simp only [if_true]
          left
          refine exec_wp ok hc hex sim hrw ?_ ?_
          · intro v2 H2 v' K' w' hres; cases hres
          · intro v2 H2 v' K' w' hres f1 hv hw'
            injection hres with hr1 hr2
            subst hr1
            subst hr2
            exact sat K' a w' v' (hf.trans f1) inv.rf.defers hw' (fun v0 h0 => by injection h0 with h0; subst h0; exact hv)
        · exfalso
          have h4 := List.all_eq_true.1 hall q q1
          have h5 := pl.anc q (by simp [q1]) pi
          rw [h5, q2] at h4
          have := hup pi (Array.getElem?_eq_some_iff.1 pop).1 h4
          rw [hpi] at this
          cases this

theorem dops_wp (ok : CxOk X P) (hc : CallOk P B W C) {f nt id : Nat} (hnt : nt < 2 ^ 39) {ops : Array Oper} (hrg : rgOk ops.toList = true) {s s' : St} {e : Ex} {K : KC} {a : Act} {w : World} {Q : Exit → Act → World → Prop}
    (h : dops X C f nt ops.toList (plan ops.toList (ancestors ops.toList []) ops.toList.length 0) 0 [] s = some (e, s')) (rf : RF ds K nt s.fr a) (hw : RW B W K s.H w) (sat : Sat ds B W nt K s.H e s' Q) : (Code.region id ops true).wp P Q a w := by
  obtain ⟨T, R, sm, t1, t2, t3, t4, _, fin⟩ := trace (X := X) (C := C) (f := f) (nt := nt) (all := ops.toList) [] _ 0 [] s s' e [] h (fun e he => by simp at he) (fun e n he => by simp at he)
  obtain ⟨cn, pl⟩ := rgOk_spec hrg t1 t2 t3 t4
  refine wp_region_any ok.mixed ?_
  obtain ⟨T1, T2, h1, h2, h3⟩ := spanEff T
  have hch := t2
  rw [h1] at hch
  obtain ⟨m, c1, c2⟩ := hch.split
  have hg1 : ∀ x, x ∈ T1 → Good X C f nt ops.toList x := fun x hx => t3 x (by rw [h1]; simp [hx])
  obtain ⟨i1, i2, i3, i4, i5⟩ := seg_mono (B := B) (W := W) c1 hg1 h2
  obtain ⟨j1, j2⟩ := i4 K _ hw.drew
  have hS0 : ∀ j, (Array.replicate ops.size false).getD j false = false := by
    intro j
    rw [Array.getD_eq_getD_getElem?, Array.getElem?_replicate]
    split <;> rfl
  have hfold : ∀ (T : List Evt) (fr : Fr), foldS (fun i => (Array.replicate ops.size false).getD i false) T fr = fr := by
    intro T
    induction T with
    | nil => intro fr; rfl
    | cons e r ih =>
      intro fr
      simp only [foldS]
      have := hS0 e.i
      rw [this]
      exact ih fr
  have hlen : T.length + R.length ≤ ops.size := by
    have := congrArg List.length t1
    rw [List.length_append, List.length_map] at this
    rw [← this]
    exact Nat.le_trans plan_len (by simp)
  have inv : Inv0 X P ds B W nt ops (fun i j => bit ((ancestors ops.toList []).getD i 0) j) T s sm K (fun i => (Array.replicate ops.size false).getD i false) a _ K T1 T2 := ⟨h1, ?_, ?_, ?_, h3, by rw [hfold]; exact rf, by rw [c2.hd]; exact j1, by rw [c2.hd]; exact j2, fun x y o wr o2 wr2 hx hy _ _ hxr hyr hxy => seg_apart B W c1 hg1 h2 hx hy hxr hyr hxy, ?_⟩
  · rcases fin with ⟨rfl, rfl, rfl⟩ | ⟨i, anc, o, r, n, v, H', rfl, rfl, rfl, f1, f2, f3, f4, f5, f6⟩
    · refine dops_any ok hc cn (fun j hj => ?_) hnt sat ops.size _ a _ K T1 T2 (by simp) (Nat.le_trans (List.length_filter_le _ _) (by omega)) inv
      obtain ⟨p, p1, p2⟩ := pl.full j hj
      rw [List.append_nil] at p1
      obtain ⟨x, x1, x2⟩ := List.mem_map.1 p1
      exact ⟨x, x1, by rw [← p2, ← x2]; rfl⟩
    · simp only [List.length_cons] at hlen
      exact dops_any_p ok hc cn pl hnt f2 f3 f4 (fun x hx => f5 x (by simpa using hx)) f6 sat ops.size _ a _ K T1 T2 (by simp) (Nat.lt_of_le_of_lt (List.length_filter_le _ _) (by omega)) (hS0 i) inv
  · intro i j _ hi
    simp only [hS0] at hi
    cases hi
  · intro e he hee
    rw [h2 e he] at hee; cases hee
  · intro e he hee
    exact hS0 _
  · intro e o wr he _ hr
    have k1 := i3 e _ he hr rfl
    rw [c2.hd]
    exact ⟨(hw.fresh _ k1.1).1, k1.1, k1.2, (i5 e he).2.2 _ _ (good_new (hg1 e he) hr).2.2⟩

end
end Go.Aes
