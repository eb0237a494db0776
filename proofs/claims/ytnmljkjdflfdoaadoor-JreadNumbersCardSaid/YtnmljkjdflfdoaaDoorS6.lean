import Derived.Test.YtnmljkjdflfdoaaDoorS5
set_option linter.all false
set_option linter.unusedVariables false
set_option linter.unusedSimpArgs false
namespace Go.Aes
open Go.RowKit

section
variable {R : Type} [Mon R] {Sat : R → Prop} {PP : AV → AH → Prop} {X : Cx} {C : CallF}

def SubL (a b : List Nat) : Prop := ∀ t, t ∈ a → t ∈ b

/-- what an operation looked at, as the names know it now -/
def ReOk (X : Cx) (env : Env) (o : Oper) (n : In) (v : AV) : Prop :=
  ∃ d, o.dst = some d ∧ lk d env = some v ∧
    ((∃ t a ad, o.op = .load t a ∧ ve env a = some ad ∧ n = .load t ad) ∨ (∃ t z, o.op = .alloc t ∧ X.zero t = some z ∧ n = .new (bif X.tyd t then .obj t 0 z else .cells z) .ptr) ∨
      (∃ t x c, o.op = .box t x ∧ ve env x = some c ∧ n = .new (.cells c.cells) .ptr))

/-- a logged operation -/
def LogOk (X : Cx) (env : Env) (w : List Nat) (p : Nat × Nat × Oper) (n : In) (v : AV) : Prop := ∀ w', SubL w w' → mayRe p.2.2 w' = true → ReOk X env p.2.2 n v

inductive LI (X : Cx) (f : Nat) (env : Env) : List (Nat × Nat × Oper) → List Nat → List (Nat × In × AV) → Prop where
  | nil (w) : LI X f env [] w []
  | skip {p r w log} (h : LI X f env r (p.2.2.dst.toList ++ w) log) : LI X f env (p :: r) w log
  | cons {p r w log n v} (hl : opLog X f p.2.2 = true) (ho : LogOk X env w p n v) (h : LI X f env r (p.2.2.dst.toList ++ w) log) : LI X f env (p :: r) w ((p.1, n, v) :: log)

theorem contains_mono {w w' : List Nat} (h : SubL w w') {t : Nat} (hc : w'.contains t = false) : w.contains t = false := by
  cases hb : w.contains t with
  | false => rfl
  | true =>
    have : t ∈ w := by simpa using hb
    have := h t this
    have h2 : w'.contains t = true := by simpa using this
    rw [h2] at hc; cases hc

theorem LogOk.mono {env : Env} {w w2 : List Nat} {p : Nat × Nat × Oper} {n : In} {v : AV} (h : LogOk X env w p n v) (s : SubL w w2) : LogOk X env w2 p n v :=
  fun w' h1 => h w' (fun t ht => h1 t (s t ht))

theorem LI.mono {f : Nat} {env : Env} {dn : List (Nat × Nat × Oper)} {w w2 : List Nat} {log : List (Nat × In × AV)} (h : LI X f env dn w log) (s : SubL w w2) : LI X f env dn w2 log := by
  induction h generalizing w2 with
  | nil w => exact .nil _
  | skip h ih => exact .skip (ih (fun t ht => by rcases List.mem_append.1 ht with h1 | h1 <;> simp [h1, s t]))
  | cons hl ho h ih => exact .cons hl (ho.mono s) (ih (fun t ht => by rcases List.mem_append.1 ht with h1 | h1 <;> simp [h1, s t]))

theorem lk_other {env : Env} {d : Option Nat} {v : AV} {t : Nat} (h : ∀ x, d = some x → t ≠ x) : lk t (putEnv env d v) = lk t env := by
  cases d with
  | none => rfl
  | some d =>
    have : t.beq d = false := by
      cases hb : t.beq d with
      | false => rfl
      | true => exact absurd (Nat.eq_of_beq_eq_true hb) (h d rfl)
    simp [putEnv, lk, this]

/-- what an operation that may be looked at again looks at -/
def reArg (o : Oper) : Operand :=
  match o.op with
  | .load _ a => a
  | .box _ x => x
  | _ => .const Go.undef

theorem mayRe1_spec {a : Operand} {d : Option Nat} {w : List Nat} (h : mayRe1 a d w = true) : ∃ d', d = some d' ∧ (∀ x, x ∈ looks1 a → x ≠ d' ∧ x ∉ w) ∧ d' ∉ w := by
  unfold mayRe1 at h
  cases d with
  | none => cases h
  | some d =>
    simp only [Bool.and_eq_true, List.all_eq_true, Bool.not_eq_true', List.contains_eq_mem, decide_eq_false_iff_not] at h
    obtain ⟨⟨h4, h5⟩, h6⟩ := h
    exact ⟨d, rfl, fun x hx => ⟨fun e => by subst e; exact h4 hx, h6 x hx⟩, h5⟩

theorem mayRe_spec {o : Oper} {w : List Nat} (h : mayRe o w = true) : (∃ d, o.dst = some d ∧ (∀ x, x ∈ looks1 (reArg o) → x ≠ d ∧ x ∉ w) ∧ d ∉ w) ∧ ((∃ t a, o.op = .load t a) ∨ (∃ t, o.op = .alloc t) ∨ (∃ t x, o.op = .box t x)) := by
  unfold mayRe at h
  unfold reArg
  cases hop : o.op <;> simp only [hop] at h ⊢ <;> first | (cases h; done) | skip
  · exact ⟨mayRe1_spec h, .inr (.inl ⟨_, rfl⟩)⟩
  · exact ⟨mayRe1_spec h, .inr (.inr ⟨_, _, rfl⟩)⟩
  · exact ⟨mayRe1_spec h, .inl ⟨_, _, rfl⟩⟩

theorem ve_other {env : Env} {d : Option Nat} {v : AV} {a : Operand} (h : ∀ x y, x ∈ looks1 a → d = some y → x ≠ y) : ve (putEnv env d v) a = ve env a := by
  cases a with
  | tmp t => exact lk_other (fun x hx => h t x (by simp [looks1]) hx)
  | _ => rfl

/-- another name written: what was looked at is the same -/
theorem ReOk.put {env : Env} {o : Oper} {n : In} {v u : AV} {d : Option Nat} (h : ReOk X env o n v) (h1 : ∀ x y, x ∈ looks1 (reArg o) → d = some y → x ≠ y) (h2 : ∀ x, o.dst = some x → d ≠ some x) : ReOk X (putEnv env d u) o n v := by
  obtain ⟨d', k1, k2, k3⟩ := h
  refine ⟨d', k1, ?_, ?_⟩
  · rw [lk_other (fun x hx e => h2 d' k1 (by rw [hx, e]))]; exact k2
  · rcases k3 with ⟨t, a, ad, q1, q2, q3⟩ | q | ⟨t, x, c, q1, q2, q3⟩
    · refine .inl ⟨t, a, ad, q1, ?_, q3⟩
      rw [ve_other (fun x y hx hy => h1 x y (by simpa [reArg, q1] using hx) hy)]; exact q2
    · exact .inr (.inl q)
    · refine .inr (.inr ⟨t, x, c, q1, ?_, q3⟩)
      rw [ve_other (fun x y hx hy => h1 x y (by simpa [reArg, q1] using hx) hy)]; exact q2

theorem LogOk.put {env : Env} {w : List Nat} {p : Nat × Nat × Oper} {n : In} {v u : AV} {d : Option Nat} (h : LogOk X env w p n v) : LogOk X (putEnv env d u) (d.toList ++ w) p n v := by
  intro w' h1 h4
  obtain ⟨⟨d', g1, g3, g4⟩, _⟩ := mayRe_spec h4
  refine (h w' (fun x hx => h1 x (by simp [hx])) h4).put (fun x y hx hy e => ?_) (fun x hx e => ?_)
  · subst e
    exact (g3 x hx).2 (h1 x (by simp [hy]))
  · rw [g1] at hx; injection hx with hx; subst hx
    exact g4 (h1 d' (by simp [e]))

theorem LI.put {f : Nat} {env : Env} {dn : List (Nat × Nat × Oper)} {w : List Nat} {log : List (Nat × In × AV)} {d : Option Nat} {u : AV} (h : LI X f env dn w log) : LI X f (putEnv env d u) dn (d.toList ++ w) log := by
  induction h with
  | nil w => exact .nil _
  | skip h ih => exact .skip (ih.mono (fun t ht => by simp only [List.mem_append] at *; rcases ht with h1 | h1 | h1 <;> simp [h1]))
  | cons hl ho h ih => exact .cons hl ho.put (ih.mono (fun t ht => by simp only [List.mem_append] at *; rcases ht with h1 | h1 | h1 <;> simp [h1]))

theorem qKeep_sat (ms : MonOk R Sat PP) {z : List AV} {v : AV} {H : AH} {k : R} (h : Sat (qKeep z v H k)) : kept (.new (.cells z) .ptr) v H = true ∧ Sat k := by
  unfold qKeep at h
  cases v <;> first | exact (ms.nf h).elim | skip
  obtain ⟨cs, h1, h2⟩ := cellsC_sat ms h
  obtain ⟨h3, h4⟩ := bif_sat ms h2
  exact ⟨by simp [kept, h1, h3], h4⟩

/-- looked at again: as it was -/
theorem hRe_sat (ms : MonOk R Sat PP) {o : Oper} {env : Env} {H : AH} {k : R} (h : Sat (hRe X o env H k)) :
    Sat k ∧ ∀ n v, ReOk X env o n v → ((match rd X n H with
      | some v' => beqV v' v
      | none => false) || kept n v H) = true := by
  unfold hRe at h
  cases hop : o.op <;> simp only [hop] at h <;> first | exact (ms.nf h).elim | skip
  case alloc t =>
    obtain ⟨d, e1, h⟩ := qO_sat ms h
    obtain ⟨v, e2, h⟩ := qO_sat ms h
    obtain ⟨z, e3, h⟩ := qO_sat ms h
    cases htd : X.tyd t with
    | true => simp only [htd, gB_true] at h; exact (ms.nf h).elim
    | false =>
    simp only [htd, gB_false] at h
    obtain ⟨e4, h⟩ := qKeep_sat ms h
    refine ⟨h, fun n v' ⟨d', k1, k2, k3⟩ => ?_⟩
    rw [e1] at k1; injection k1 with k1; subst k1
    rw [e2] at k2; injection k2 with k2; subst k2
    rcases k3 with ⟨t, a, ad, q1, q2, q3⟩ | ⟨t', z', q1, q2, q3⟩ | ⟨t, x, c, q1, q2, q3⟩
    · rw [hop] at q1; cases q1
    · rw [hop] at q1; injection q1 with q1; subst q1
      rw [e3] at q2; injection q2 with q2; subst q2
      subst q3
      simp [e4, htd]
    · rw [hop] at q1; cases q1
  case box t x =>
    obtain ⟨d, e1, h⟩ := qO_sat ms h
    obtain ⟨v, e2, h⟩ := qO_sat ms h
    obtain ⟨c, e3, h⟩ := qO_sat ms h
    obtain ⟨e4, h⟩ := qKeep_sat ms h
    refine ⟨h, fun n v' ⟨d', k1, k2, k3⟩ => ?_⟩
    rw [e1] at k1; injection k1 with k1; subst k1
    rw [e2] at k2; injection k2 with k2; subst k2
    rcases k3 with ⟨t, a, ad, q1, q2, q3⟩ | ⟨t', z', q1, q2, q3⟩ | ⟨t, x, c, q1, q2, q3⟩
    · rw [hop] at q1; cases q1
    · rw [hop] at q1; cases q1
    · rw [hop] at q1; injection q1 with q1a q1b; subst q1b
      rw [e3] at q2; injection q2 with q2; subst q2
      subst q3
      simp [e4]
  case load t a =>
    obtain ⟨d, e1, h⟩ := qO_sat ms h
    obtain ⟨ad, e2, h⟩ := qO_sat ms h
    obtain ⟨v, e3, h⟩ := qO_sat ms h
    obtain ⟨v', e4, h⟩ := hLoad_sat ms h
    obtain ⟨e5, h⟩ := bif_sat ms h
    refine ⟨h, fun n v2 ⟨d', k1, k2, k3⟩ => ?_⟩
    rw [e1] at k1; injection k1 with k1; subst k1
    rw [e3] at k2; injection k2 with k2; subst k2
    rcases k3 with ⟨t', a', ad', q1, q2, q3⟩ | ⟨t', z', q1, q2, q3⟩ | ⟨t, x, c, q1, q2, q3⟩
    · rw [hop] at q1; injection q1 with q1a q1b; subst q1a; subst q1b
      rw [e2] at q2; injection q2 with q2; subst q2
      subst q3
      simp [rd, e4, e5]
    · rw [hop] at q1; cases q1
    · rw [hop] at q1; cases q1

/-- what was looked at again is as it was -/
theorem scan_sat (ms : MonOk R Sat PP) {f : Nat} {q : Nat × Nat × Oper} (hq : opEff q.2.2 = true) {env : Env} {H : AH} {k : R} : ∀ (dn : List (Nat × Nat × Oper)) (w : List Nat) (log : List (Nat × In × AV)) (rs : List Oper),
    scan X f q dn w = some rs → LI X f env dn w log → Sat (hRes X env H k rs) → recheck X q.2.1 H log = true ∧ Sat k
  | [], w, log, rs, h, li, hs => by
    simp [scan] at h
    subst h
    cases li
    exact ⟨rfl, hs⟩
  | p :: r, w, log, rs, h, li, hs => by
    simp only [scan] at h
    cases hl : scan X f q r (p.2.2.dst.toList ++ w) with
    | none => simp [hl] at h
    | some l =>
      simp only [hl] at h
      cases hb : bit q.2.1 p.1 with
      | true =>
        simp only [hb, cond_true, Option.some.injEq] at h
        subst h
        cases li with
        | skip li => exact scan_sat ms hq r _ log l hl li hs
        | cons h1 h2 li =>
          obtain ⟨h3, h4⟩ := scan_sat ms hq r _ _ l hl li hs
          exact ⟨by simp [recheck, hb, h3], h4⟩
      | false =>
        simp only [hb, cond_false] at h
        cases he : opEff p.2.2 with
        | true => simp [he] at h
        | false =>
          simp only [he, cond_false, hq, Bool.true_and] at h
          cases ho : opLog X f p.2.2 with
          | true =>
            simp only [ho, cond_true] at h
            cases hm : (mayRe p.2.2 w && gSame p.2.2.guard q.2.2.guard) with
            | false => simp [hm] at h
            | true =>
              simp only [hm, cond_true, Option.some.injEq] at h
              subst h
              simp only [hRes] at hs
              obtain ⟨hs, hre⟩ := hRe_sat ms hs
              have hmr := (Bool.and_eq_true_iff.1 hm).1
              cases li with
              | skip li => exact scan_sat ms hq r _ log l hl li hs
              | cons h1 h2 li =>
                obtain ⟨h3, h4⟩ := scan_sat ms hq r _ _ l hl li hs
                refine ⟨?_, h4⟩
                simp only [recheck, h3, Bool.and_true, hb, Bool.false_or]
                exact hre _ _ (h2 w (fun _ h => h) hmr)
          | false =>
            simp only [ho, cond_false, Option.some.injEq] at h
            subst h
            cases li with
            | skip li => exact scan_sat ms hq r _ log l hl li hs
            | cons h1 h2 li => rw [ho] at h1; cases h1

theorem hRes_sat (ms : MonOk R Sat PP) {env : Env} {H : AH} {k : R} : ∀ {rs : List Oper}, Sat (hRes X env H k rs) → Sat k
  | [], h => h
  | p :: r, h => by
    simp only [hRes] at h
    exact hRes_sat ms (hRe_sat ms h).1

theorem scan_eff {f : Nat} {q : Nat × Nat × Oper} : ∀ {dn : List (Nat × Nat × Oper)} {w : List Nat} {rs : List Oper}, scan X f q dn w = some rs → ∀ p, p ∈ dn → opEff p.2.2 = true → bit q.2.1 p.1 = true
  | [], w, rs, h, p, hp, he => by cases hp
  | p0 :: r, w, rs, h, p, hp, he => by
    simp only [scan] at h
    cases hl : scan X f q r (p0.2.2.dst.toList ++ w) with
    | none => simp [hl] at h
    | some l =>
      simp only [hl] at h
      rcases List.mem_cons.1 hp with e | hp
      · subst e
        cases hb : bit q.2.1 p.1 with
        | true => rfl
        | false => simp [hb, he] at h
      · exact scan_eff hl p hp he

theorem sub_and {e a : Nat} (h : ∀ i, bit e i = true → bit a i = true) : (e &&& a).beq e = true := by
  have : e &&& a = e := by
    apply Nat.eq_of_testBit_eq
    intro i
    rw [Nat.testBit_and]
    have := h i
    rw [bit_test, bit_test] at this
    cases he : e.testBit i with
    | false => rfl
    | true => simp [this he]
  rw [this]
  simp

theorem hDops_sat (ms : MonOk R Sat PP) {f nt : Nat} (hnt : nt < 2 ^ 39) {all : List Oper} {k : Env → AH → R} {ss : List Nat} : ∀ (l dn : List (Nat × Nat × Oper)) (effs : Nat) (log : List (Nat × In × AV)) (env : Env) (fr : Fr) (H : AH),
    ER env fr → (∀ t, t ∈ ss → (lk t env).isSome = true) → (∀ i, bit effs i = true → ∃ p, p ∈ dn ∧ p.1 = i ∧ opEff p.2.2 = true) → LI X f env dn [] log →
    Sat (hDops X C f nt all l dn env H k) →
    (∃ fr' H' env', dops X C f nt all l effs log { fr := fr, H := H } = some (.normal, { fr := fr', H := H' }) ∧ ER env' fr' ∧ (∀ t, t ∈ ss → (lk t env').isSome = true) ∧ Sat (k env' H')) ∨
      ∃ v s', dops X C f nt all l effs log { fr := fr, H := H } = some (.panic v, s') ∧ PP v s'.H
  | [], dn, effs, log, env, fr, H, e, hs, he, li, h => .inl ⟨fr, H, env, rfl, e, hs, h⟩
  | q :: l, dn, effs, log, env, fr, H, e, hs, he, li, h => by
    obtain ⟨j, anc, o⟩ := q
    simp only [hDops] at h
    obtain ⟨hd, h⟩ := bif_sat ms h
    obtain ⟨rs, hsc, h⟩ := qO_sat ms h
    have go : wantedB fr all o = true → (hw : o.guard = none ∨ ∃ p, o.guard = some p) → Sat (hOp X C f (l.all fun x => bit x.2.1 j) o env H fun v H => hRes X env H (hDops X C f nt all l ((j, anc, o) :: dn) (putEnv env o.dst v) H k) rs) →
        (∃ fr' H' env', dops X C f nt all ((j, anc, o) :: l) effs log { fr := fr, H := H } = some (.normal, { fr := fr', H := H' }) ∧ ER env' fr' ∧ (∀ t, t ∈ ss → (lk t env').isSome = true) ∧ Sat (k env' H')) ∨
      ∃ v s', dops X C f nt all ((j, anc, o) :: l) effs log { fr := fr, H := H } = some (.panic v, s') ∧ PP v s'.H := by
      intro hw _ h
      have hsub : (effs &&& anc).beq effs = true := sub_and (fun i hi => by
        obtain ⟨p, p1, p2, p3⟩ := he i hi
        rw [← p2]
        exact scan_eff hsc p p1 p3)
      rcases hOp_sat ms e h with ⟨v, H1, ⟨n, h1, h2⟩, h3⟩ | ⟨hp, v, H1, ⟨n, h1, h2⟩, h3⟩
      case inr =>
        exact .inr ⟨v, { fr := fr, H := H1 }, by simp only [dops, hd, Bool.not_true, cond_false, hw, cond_true, h1, hsub, h2, hp], h3⟩
      obtain ⟨s1, s2⟩ := inst_sort n h1
      simp only [dops, hd, Bool.not_true, cond_false, hw, cond_true, h1, hsub, h2]
      cases hne : n.eff with
      | true =>
        have hq := s1 hne
        obtain ⟨r1, r2⟩ := scan_sat (q := (j, anc, o)) ms hq dn [] log rs hsc li h3
        simp only [r1, cond_true]
        refine hDops_sat ms hnt l ((j, anc, o) :: dn) _ _ (putEnv env o.dst v) (putD fr o.dst v) H1 (e.put hnt hd v) (fun t ht => lk_put (hs t ht)) (fun i hi => ?_) ?_ r2
        · rw [bit_or] at hi
          rcases Bool.or_eq_true_iff.1 hi with hi | hi
          · obtain ⟨p, p1, p2, p3⟩ := he i hi
            exact ⟨p, List.mem_cons_of_mem _ p1, p2, p3⟩
          · exact ⟨(j, anc, o), List.mem_cons_self, (of_decide_eq_true hi).symm, hq⟩
        · exact .skip li.put
      | false =>
        simp only [cond_false]
        have r2 := hRes_sat ms h3
        refine hDops_sat ms hnt l ((j, anc, o) :: dn) _ _ (putEnv env o.dst v) (putD fr o.dst v) H1 (e.put hnt hd v) (fun t ht => lk_put (hs t ht)) (fun i hi => ?_) ?_ r2
        · obtain ⟨p, p1, p2, p3⟩ := he i hi
          exact ⟨p, List.mem_cons_of_mem _ p1, p2, p3⟩
        · cases hlg : logged n with
          | false => exact .skip li.put
          | true =>
            refine .cons (s2 hlg) (fun w' g0 g3 => ?_) li.put
            obtain ⟨⟨d, k2, k3, k4⟩, k5⟩ := mayRe_spec g3
            simp only at k2 k5
            have hve : ∀ {a : Operand} {x : AV}, (∀ y, y ∈ looks1 a → y ∈ looks1 (reArg o)) → ve env a = some x → ve (putEnv env o.dst v) a = some x := by
              intro a x hy hx
              rw [ve_other (fun y z hy' hz => ?_)]
              · exact hx
              · rw [k2] at hz; injection hz with hz; subst hz
                exact (k3 y (hy y hy')).1
            refine ⟨d, k2, by simp [putEnv, k2, lk], ?_⟩
            rcases k5 with ⟨t, a, g1⟩ | ⟨t, g1⟩ | ⟨t, x, g1⟩
            · refine .inl ?_
              unfold hOp at h
              rw [g1] at h
              simp only at h
              obtain ⟨ad, m1, m2⟩ := qO_sat ms h
              refine ⟨t, a, ad, g1, hve (fun y hy => by simpa [reArg, g1] using hy) m1, ?_⟩
              unfold inst at h1
              rw [g1] at h1
              simp only [e.ve m1, Option.map_some, Option.some.injEq] at h1
              exact h1.symm
            · refine .inr (.inl ?_)
              unfold hOp at h
              rw [g1] at h
              simp only at h
              obtain ⟨z, m1, m2⟩ := qO_sat ms h
              refine ⟨t, z, g1, m1, ?_⟩
              unfold inst at h1
              rw [g1] at h1
              simp only [m1, Option.some.injEq] at h1
              exact h1.symm
            · refine .inr (.inr ?_)
              unfold hOp at h
              rw [g1] at h
              simp only at h
              obtain ⟨c, m1, m2⟩ := qO_sat ms h
              refine ⟨t, x, c, g1, hve (fun y hy => by simpa [reArg, g1] using hy) m1, ?_⟩
              unfold inst at h1
              rw [g1] at h1
              obtain ⟨m3, m4⟩ := bif_sat ms m2
              simp only [e.ve m1, m3, cond_true, Option.some.injEq] at h1
              exact h1.symm
    simp only [hStepD] at h
    cases hg : o.guard with
    | none =>
      simp only [hg] at h
      exact go (by simp [wantedB, hg]) (.inl hg) h
    | some p =>
      simp only [hg] at h
      rcases wanted_sat (A := fun k => hOp X C f (l.all fun x => bit x.2.1 j) o env H fun v H => hRes X env H (k v H) rs) ms e hg h with ⟨h1, h2⟩ | ⟨h1, h2⟩
      · exact go h1 (.inr ⟨p, hg⟩) h2
      · simp only [dops, hd, Bool.not_true, cond_false, h1]
        refine hDops_sat ms hnt l ((j, anc, o) :: dn) _ _ (putEnv env o.dst undef) (putD fr o.dst undef) H (e.put hnt hd undef) (fun t ht => lk_put (hs t ht)) (fun i hi => ?_) (.skip li.put) h2
        obtain ⟨p, p1, p2, p3⟩ := he i hi
        exact ⟨p, List.mem_cons_of_mem _ p1, p2, p3⟩

/-! ### the slots -/
structure FR (ss : List Nat) (l : List AV) (fr : Fr) : Prop where
  len : l.length = ss.length
  at_ : ∀ (j t : Nat), ss[j]? = some t → (fr.get t).getD undef = sel j l

theorem sel_nil (j : Nat) : sel j [] = undef := by cases j <;> rfl

theorem zipE_spec : ∀ {ss : List Nat} {l : List AV} {t : Nat} {v : AV}, lk t (zipE ss l) = some v → ∃ j : Nat, ss[j]? = some t ∧ sel j l = v
  | [], l, t, v, h => by simp [zipE, lk] at h
  | s :: ss, [], t, v, h => by simp [zipE, lk] at h
  | s :: ss, a :: l, t, v, h => by
    simp only [zipE, lk] at h
    cases hb : t.beq s with
    | true =>
      have := Nat.eq_of_beq_eq_true hb
      subst this
      simp at h
      exact ⟨0, by simp, by simp [sel, h]⟩
    | false =>
      simp only [hb, cond_false] at h
      obtain ⟨j, h1, h2⟩ := zipE_spec h
      exact ⟨j + 1, by simpa using h1, by simpa [sel] using h2⟩

theorem zipE_some : ∀ {ss : List Nat} {l : List AV}, l.length = ss.length → ∀ t, t ∈ ss → (lk t (zipE ss l)).isSome = true
  | [], l, h, t, ht => by cases ht
  | s :: ss, [], h, t, ht => by simp at h
  | s :: ss, a :: l, h, t, ht => by
    simp only [zipE, lk]
    cases hb : t.beq s with
    | true => rfl
    | false =>
      simp only [cond_false]
      rcases List.mem_cons.1 ht with e | ht
      · subst e; simp at hb
      · exact zipE_some (by simpa using h) t ht

theorem FR.er {ss : List Nat} {l : List AV} {fr : Fr} (h : FR ss l fr) : ER (zipE ss l) fr := by
  intro t v hv
  obtain ⟨j, h1, h2⟩ := zipE_spec hv
  rw [h.at_ j t h1, h2]

theorem mkF_len : ∀ (ss : List Nat) (env : Env), (mkF ss env).length = ss.length
  | [], env => rfl
  | s :: r, env => by simp [mkF, mkF_len r env]

theorem mkF_sel : ∀ (ss : List Nat) (env : Env) (j t : Nat), ss[j]? = some t → sel j (mkF ss env) = odef (lk t env)
  | [], env, j, t, h => by simp at h
  | s :: r, env, 0, t, h => by simp at h; subst h; rfl
  | s :: r, env, j + 1, t, h => by simp at h; exact mkF_sel r env j t h

theorem ER.fr {ss : List Nat} {env : Env} {fr : Fr} (e : ER env fr) (hs : ∀ t, t ∈ ss → (lk t env).isSome = true) : FR ss (mkF ss env) fr := by
  refine ⟨mkF_len ss env, fun j t h => ?_⟩
  rw [mkF_sel ss env j t h]
  have := hs t (List.mem_of_getElem? h)
  cases hv : lk t env with
  | none => rw [hv] at this; cases this
  | some v => exact e t v hv

theorem opn_cur (ms : MonOk R Sat PP) : ∀ (n : Nat) (l : List AV) (g : List AV → R), Sat (opn n l (cur n g)) → l.length = n ∧ Sat (g l)
  | 0, [], g, h => ⟨rfl, h⟩
  | 0, a :: l, g, h => (ms.nf h).elim
  | n + 1, [], g, h => (ms.nf h).elim
  | n + 1, a :: l, g, h => by
    obtain ⟨h1, h2⟩ := opn_cur ms n l (fun l => g (a :: l)) h
    exact ⟨by simp [h1], h2⟩

theorem qTwin_sat (ms : MonOk R Sat PP) {p q : AV} {k : R} (h : Sat (qTwin p q k)) : ∃ i o j o', p = .ptr i o ∧ q = .ptr j o' ∧ i.beq j = false ∧ Sat k := by
  unfold qTwin at h
  cases p <;> first | exact (ms.nf h).elim | skip
  cases q <;> first | exact (ms.nf h).elim | skip
  obtain ⟨h1, h2⟩ := nbif_sat ms h
  exact ⟨_, _, _, _, rfl, rfl, h1, h2⟩

theorem gives_addr {f : Nat} {fr : Fr} {o : Oper} {H H' : AH} {v : AV} (ha : addrOp o = true) (h : Gives X C (inst X f fr o) H v H') : inst X f fr o = some (.val v) := by
  obtain ⟨n, h1, h2⟩ := h
  obtain ⟨v', rfl⟩ := addr_val ha h1
  simp only [exec, Option.some.injEq, Res.val.injEq] at h2
  rw [h1, h2.1]

theorem hTail_sat (ms : MonOk R Sat PP) {f nt : Nat} (hnt : nt < 2 ^ 39) {a1 a2 s1 s2 : PO'} (ha1 : addrOp a1.2.2 = true) (ha2 : addrOp a2.2.2 = true) {k : Env → AH → R} {ss : List Nat} {env : Env} {fr : Fr} {H : AH} (e : ER env fr) (hs : ∀ t, t ∈ ss → (lk t env).isSome = true)
    (h : Sat (hTail X C f nt a1 a2 s1 s2 env H k)) :
    ∃ fr' H' env', twTail X f nt a1 a2 s1 s2 { fr := fr, H := H } = some (.normal, { fr := fr', H := H' }) ∧ ER env' fr' ∧ (∀ t, t ∈ ss → (lk t env').isSome = true) ∧ Sat (k env' H') := by
  unfold hTail at h
  obtain ⟨hd, h⟩ := bif_sat ms h
  rcases hOp_sat ms e h with ⟨v1, H1, g1, h⟩ | ⟨hp, _⟩
  case inr => cases hp
  rcases hOp_sat ms e h with ⟨v2, H2, g2, h⟩ | ⟨hp, _⟩
  case inr => cases hp
  have i1 := gives_addr ha1 g1
  have i2 := gives_addr ha2 g2
  rw [Bool.and_eq_true] at hd
  have e2 : ER (putEnv (putEnv env a1.2.2.dst v1) a2.2.2.dst v2) (putD (putD fr a1.2.2.dst v1) a2.2.2.dst v2) := (e.put hnt hd.1 v1).put hnt hd.2 v2
  split at h
  · rename_i t1 p1 x1 t2 p2 x2 o1 o2
    obtain ⟨p1', x1', b1, b2, h⟩ := w2_sat ms h
    obtain ⟨p2', x2', b3, b4, h⟩ := w2_sat ms h
    obtain ⟨ia, oa, ib, ob, rfl, rfl, hne, h⟩ := qTwin_sat ms h
    obtain ⟨u1', Ha, c1, h⟩ := hStore_sat (C := C) ms h
    obtain ⟨u2', Hb, c2, h⟩ := hStore_sat (C := C) ms h
    refine ⟨_, Hb, _, ?_, e2, fun t ht => lk_put (lk_put (hs t ht)), h⟩
    have s1' : storeAt X t1 (.ptr ia oa) x1' H = some Ha := by
      simp only [exec, u1] at c1
      obtain ⟨y, hy, hz⟩ := Option.map_eq_some_iff.1 c1
      simp only [Res.val.injEq] at hz
      rw [hy, hz.2]
    have s2' : storeAt X t2 (.ptr ib ob) x2' Ha = some Hb := by
      simp only [exec, u1] at c2
      obtain ⟨y, hy, hz⟩ := Option.map_eq_some_iff.1 c2
      simp only [Res.val.injEq] at hz
      rw [hy, hz.2]
    have k1 : inst X f (putD (putD fr a1.2.2.dst v1) a2.2.2.dst v2) s1.2.2 = some (.store t1 (.ptr ia oa) x1') := by
      unfold inst
      rw [o1]
      simp only [e2.ve b1, e2.ve b2]
    have k2 : inst X f (putD (putD fr a1.2.2.dst v1) a2.2.2.dst v2) s2.2.2 = some (.store t2 (.ptr ib ob) x2') := by
      unfold inst
      rw [o2]
      simp only [e2.ve b3, e2.ve b4]
    unfold twTail
    simp only [i1, i2, hd.1, hd.2, Bool.and_self, Bool.not_true, cond_false, k1, k2, hne, s1', s2']
  · exact (ms.nf h).elim

theorem hReg_sat (ms : MonOk R Sat PP) {f nt : Nat} (hnt : nt < 2 ^ 39) {ss : List Nat} {ops : Array Oper} {draw : Bool} {k : KT R} {l : List AV} {fr : Fr} {H : AH} (hf : FR ss l fr) (h : Sat (hReg X C f nt ss ops.toList draw k l H)) :
    (∃ fr' H' l', region X C f nt ops draw { fr := fr, H := H } = some (.normal, { fr := fr', H := H' }) ∧ FR ss l' fr' ∧ Sat (k l' H')) ∨ ∃ v s', region X C f nt ops draw { fr := fr, H := H } = some (.panic v, s') ∧ PP v s'.H := by
  unfold hReg at h
  obtain ⟨hl, h⟩ := opn_cur ms _ _ _ h
  cases draw with
  | true =>
    simp only [cond_true, gB_true] at h
    split at h
    · rename_i p hsp
      obtain ⟨L1, a1, a2, s1, s2⟩ := p
      obtain ⟨_, htw⟩ := twSplit_spec hsp
      unfold twOk at htw
      simp only [Bool.and_eq_true] at htw
      obtain ⟨⟨⟨⟨⟨⟨⟨⟨⟨⟨⟨⟨⟨⟨w1, w2⟩, w3⟩, w4⟩, w5⟩, w6⟩, w7⟩, w8⟩, w9⟩, w10⟩, w11⟩, w12⟩, w13⟩, w14⟩, w15⟩ := htw
      rcases hDops_sat (ss := ss) ms hnt _ [] 0 [] (zipE ss l) fr H hf.er (zipE_some hf.len) (fun i hi => by rw [bit_zero] at hi; cases hi) (.nil _) h with ⟨fr', H', env', h1, h2, h3, h4⟩ | ⟨v, s', h1, h2⟩
      · obtain ⟨fr2, H2, env2, g1, g2, g3, g4⟩ := hTail_sat (ss := ss) ms hnt w6 w7 h2 h3 h4
        exact .inl ⟨fr2, H2, mkF ss env2, by simp only [region, cond_true, hsp, tops, h1]; exact g1, g2.fr g3, g4⟩
      · exact .inr ⟨v, s', by simp only [region, cond_true, hsp, tops, h1], h2⟩
    · rename_i hsp
      rcases hDops_sat (ss := ss) ms hnt _ [] 0 [] (zipE ss l) fr H hf.er (zipE_some hf.len) (fun i hi => by rw [bit_zero] at hi; cases hi) (.nil _) h with ⟨fr', H', env', h1, h2, h3, h4⟩ | ⟨v, s', h1, h2⟩
      · exact .inl ⟨fr', H', mkF ss env', by simp only [region, cond_true, hsp]; exact h1, h2.fr h3, h4⟩
      · exact .inr ⟨v, s', by simp only [region, cond_true, hsp]; exact h1, h2⟩
  | false =>
    simp only [cond_false, gB_false] at h
    rcases hOps_sat (ss := ss) ms hnt _ (zipE ss l) fr H hf.er (zipE_some hf.len) h with ⟨fr', H', env', h1, h2, h3, h4⟩ | ⟨v, s', h1, h2⟩
    · exact .inl ⟨fr', H', mkF ss env', by simp only [region, cond_false]; exact h1, h2.fr h3, h4⟩
    · exact .inr ⟨v, s', by simp only [region, cond_false]; exact h1, h2⟩

end
end Go.Aes
