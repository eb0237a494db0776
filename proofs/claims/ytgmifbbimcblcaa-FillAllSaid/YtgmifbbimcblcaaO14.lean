import Derived.Test.YtgmifbbimcblcaaO13
set_option linter.all false
set_option linter.unusedVariables false
set_option linter.unusedSimpArgs false
namespace Go.Aes
open Go.RowKit

def CPost (B : Nat) (W : World) (K : KC) (H : AH) : Res → Ending → World → Prop
  | .val v H', .returned v', w' => ∃ K', RV K' v v' ∧ RW B W K' H' w' ∧ Fits K H K' H'
  | .panic v H', .panicked ch, w' => ∃ v' K', ch = [{ v := v', recovered := false }] ∧ RV K' v v' ∧ RW B W K' H' w' ∧ Fits K H K' H'
  | _, _, _ => False

structure CallOk (P : Program) (B : Nat) (W : World) (C : CallF) : Prop where
  fn : ∀ g as H r, C g as H = some r → ∃ fn, P.funcs[g]? = some fn ∧ (fn.name == "runtime.NumGoroutine") = false ∧ fn.body.isSome = true
  call : ∀ g as H r, C g as H = some r → ∀ K w vs, RW B W K H w → RL K as vs → Calls P g vs.toArray w (CPost B W K H r)

section
variable {X : Cx} {P : Program} {K : KC} {B : Nat} {W w : World} {H H' : AH} {C : CallF}

theorem wp_of_value {o : Oper} {a : Act} {v : Value} {w' : World} {next : Act → World → Prop} {Q : Exit → Act → World → Prop} (h : (execOp a.eval o).run P w = .ok (.value v) w') (hn : next (a.put o.dst v) w') : o.wp P a w next Q := by
  unfold Oper.wp
  rw [h]
  exact hn

theorem wp_of_skip {o : Oper} {a : Act} {w' : World} {next : Act → World → Prop} {Q : Exit → Act → World → Prop} (h : (execOp a.eval o).run P w = .ok .skip w') (hn : next (a.put o.dst Go.undef) w') : o.wp P a w next Q := by
  unfold Oper.wp
  rw [h]
  exact hn

theorem exec_wp (ok : CxOk X P) (hc : CallOk P B W C) {o : Oper} {a : Act} {i : In} {r : Res} (h : exec X C i H = some r) (hi : InSim X P K (execOp a.eval o) i) (hw : RW B W K H w)
    {next : Act → World → Prop} {Q : Exit → Act → World → Prop}
    (hv : ∀ v H' v' K' w', r = .val v H' → Fits K H K' H' → RV K' v v' → RW B W K' H' w' → next (a.put o.dst v') w')
    (hp : ∀ v H' v' K' w', r = .panic v H' → Fits K H K' H' → RV K' v v' → RW B W K' H' w' → Q (.panic [{ v := v', recovered := false }]) a w') : o.wp P a w next Q := by
  cases i with
  | val v =>
    simp only [exec, Option.some.injEq] at h
    subst h
    obtain ⟨v', h1, h2⟩ := hi
    exact wp_of_value (h1 w) (hv v H v' K w rfl (.refl K H) h2 hw)
  | row rows sz =>
    simp only [exec, Option.some.injEq] at h
    subst h
    obtain ⟨v', w', K', h1, h2, h3, h4⟩ := row_ok hi hw
    exact wp_of_value h1 (hv _ _ v' K' w' rfl h4 h2 h3)
  | new ob wr =>
    simp only [exec, v2] at h
    cases hn : H.new ob with
    | none => simp [hn] at h
    | some p =>
      obtain ⟨j, H2⟩ := p
      simp [hn] at h
      subst h
      obtain ⟨v', w', K', h1, h2, h3, h4⟩ := new_ok hi hn hw
      exact wp_of_value h1 (hv _ _ v' K' w' rfl h4 h2 h3)
  | load t x =>
    simp only [exec, v1] at h
    obtain ⟨v, h1, rfl⟩ := Option.map_eq_some_iff.1 h
    obtain ⟨vx, hx, hrun⟩ := hi
    obtain ⟨v', h2, h3⟩ := loadAt_ok ok h1 hx hw
    exact wp_of_value (by rw [hrun, runV, h2]; rfl) (hv _ _ v' K w rfl (.refl K H) h3 hw)
  | look t m k c =>
    simp only [exec, v1] at h
    obtain ⟨v, h1, rfl⟩ := Option.map_eq_some_iff.1 h
    obtain ⟨vm, vk, hm, hk, hrun⟩ := hi
    obtain ⟨v', h2, h3⟩ := lookup_ok ok h1 hm hk hw
    exact wp_of_value (by rw [hrun, runV, h2]; rfl) (hv _ _ v' K w rfl (.refl K H) h3 hw)
  | mlen q =>
    simp only [exec] at h
    cases hg : H.get q with
    | none => simp [hg] at h
    | some ob =>
      cases ob <;> (try simp only [hg] at h) <;> (try (cases h; done))
      rename_i es
      injection h with h
      subst h
      obtain ⟨b, z, hm, hrun⟩ := hi
      obtain ⟨ents, clock, k1, k2⟩ := hw.obj q _ hg b z hm
      refine wp_of_value (hrun w ents clock k1) (hv _ _ _ K w rfl (.refl K H) ?_ hw)
      rw [k2.len]
      exact .int _ _
  | bstr x =>
    simp only [exec, v1] at h
    cases hsl : isSl x with
    | false => simp [hsl] at h
    | true =>
    simp only [hsl, cond_true] at h
    obtain ⟨v, h1, rfl⟩ := Option.map_eq_some_iff.1 h
    obtain ⟨vx, hx, hrun⟩ := hi
    obtain ⟨v', h2, h3⟩ := bstr_ok h1 hx (fun s e => by subst e; simp [isSl] at hsl) hw
    exact wp_of_value (by rw [hrun, runV, h2]; rfl) (hv _ _ v' K w rfl (.refl K H) h3 hw)
  | store t x y =>
    simp only [exec, u1] at h
    obtain ⟨H2, h1, rfl⟩ := Option.map_eq_some_iff.1 h
    obtain ⟨vx, vy, hx, hy, hrun⟩ := hi
    obtain ⟨w', h2, h3, h4⟩ := storeAt_ok ok h1 hx hy hw
    exact wp_of_skip (by rw [hrun, runU, h2]; rfl) (hv _ _ _ K w' rfl h4 .undef h3)
  | mset t m k y =>
    simp only [exec, u1] at h
    obtain ⟨H2, h1, rfl⟩ := Option.map_eq_some_iff.1 h
    obtain ⟨vm, vk, vy, hm, hk, hy, hrun⟩ := hi
    obtain ⟨w', h2, h3, h4⟩ := mapSet_ok ok h1 hm hk hy hw
    exact wp_of_skip (by rw [hrun, runU, h2]; rfl) (hv _ _ _ K w' rfl h4 .undef h3)
  | next j =>
    simp only [exec, v2] at h
    obtain ⟨p, h1, rfl⟩ := Option.map_eq_some_iff.1 h
    obtain ⟨b, z, ty, hm, hrun⟩ := hi
    obtain ⟨v', w', h2, h3, h4, h5⟩ := next_ok (P := P) (ty := ty) h1 hm hw
    exact wp_of_value (by rw [hrun, runV, h2]; rfl) (hv _ _ v' K w' rfl h5 h3 h4)
  | app n b x y hm =>
    simp only [exec, v2] at h
    obtain ⟨p, h1, rfl⟩ := Option.map_eq_some_iff.1 h
    obtain ⟨v', w', K', h2, h3, h4, h5⟩ := app_ok ok hi h1 hw
    exact wp_of_value h2 (hv _ _ v' K' w' rfl h5 h3 h4)
  | call g as =>
    simp only [exec] at h
    obtain ⟨vs, hvs, hrun⟩ := hi
    obtain ⟨fn, h1, h2, h3⟩ := hc.fn g as H r h
    have hcf : (callFunc g vs.toArray).run P w = .ok (.enter g vs.toArray) w := by
      have h4 : fn.body.isNone = false := by cases hb : fn.body <;> simp [hb] at h3 ⊢
      simp only [callFunc, Sem.run_bind, run_program, Result.andThen_ok, h1, h2, h4, Bool.false_eq_true, if_false, Sem.run_pure]
    unfold Oper.wp
    rw [hrun, hcf]
    refine (hc.call g as H r h K w vs hw hvs).mono fun e w' he => ?_
    cases r with
    | val v H2 =>
      cases e with
      | returned v' => obtain ⟨K', g1, g2, g3⟩ := he; exact hv _ _ v' K' w' rfl g3 g1 g2
      | panicked ch => exact he.elim
      | outgrown => exact he.elim
    | panic v H2 =>
      cases e with
      | returned v' => exact he.elim
      | panicked ch => obtain ⟨v', K', rfl, g1, g2, g3⟩ := he; exact hp _ _ v' K' w' rfl g3 g1 g2
      | outgrown => exact he.elim
  | panic v =>
    simp only [exec, Option.some.injEq] at h
    subst h
    obtain ⟨v', h1, h2⟩ := hi
    unfold Oper.wp
    rw [h2]
    exact hp _ _ v' K w rfl (.refl K H) h1 hw

def exOf (e : Ex) (v : Value) : Exit :=
  match e with
  | .normal => .normal
  | .exit id => .exit id
  | .ret => .ret
  | .panic _ => .panic [{ v := v, recovered := false }]

/-- what is known where the code is left -/
def Sat (B : Nat) (W : World) (nt : Nat) (K : KC) (H : AH) (e : Ex) (s : St) (Q : Exit → Act → World → Prop) : Prop :=
  ∀ K' a' w' v', Fits K H K' s.H → RF K' nt s.fr a' → RW B W K' s.H w' → (∀ v, e = .panic v → RV K' v v') → Q (exOf e v') a' w'

theorem Sat.step {nt : Nat} {K' : KC} {e : Ex} {s : St} {Q : Exit → Act → World → Prop} (h : Sat B W nt K H e s Q) (f : Fits K H K' H') : Sat B W nt K' H' e s Q :=
  fun K2 a2 w2 v2 f2 rf rw hv => h K2 a2 w2 v2 (f.trans f2) rf rw hv

theorem aops_wp (ok : CxOk X P) (hc : CallOk P B W C) {f nt : Nat} (hnt : nt < 2 ^ 39) (ops : Array Oper) : ∀ (l : List Oper) (s s' : St) (e : Ex) (K : KC) (a : Act) (w : World) (Q : Exit → Act → World → Prop),
    aops X C f nt ops.toList l s = some (e, s') → RF K nt s.fr a → RW B W K s.H w → Sat B W nt K s.H e s' Q → wpList P ops Q l a w
  | [], s, s', e, K, a, w, Q, h, rf, hw, sat => by
    simp [aops] at h
    obtain ⟨rfl, rfl⟩ := h
    exact sat K a w Go.undef (.refl K s.H) rf hw (fun v hv => by cases hv)
  | o :: r, s, s', e, K, a, w, Q, h, rf, hw, sat => by
    simp only [aops] at h
    cases hd : dstOk nt o.dst with
    | false => simp [hd] at h
    | true =>
      simp only [hd, Bool.not_true, cond_false] at h
      have hwant := rf.wanted ops o
      unfold wpList
      rw [hwant]
      cases hwb : wantedB s.fr ops.toList o with
      | false =>
        simp only [hwb, cond_false] at h
        simp only [Bool.false_eq_true, if_false]
        exact aops_wp ok hc hnt ops r _ s' e K _ w Q h (rf.put hnt hd .undef) hw sat
      | true =>
        simp only [hwb, cond_true] at h
        simp only [if_true]
        cases hin : inst X f s.fr o with
        | none => simp [hin] at h
        | some i =>
          simp only [hin] at h
          cases hex : exec X C i s.H with
          | none => simp [hex] at h
          | some res =>
            refine .inl (exec_wp ok hc hex (inst_sim ok hin rf) hw ?_ ?_)
            · intro v H2 v' K' w' hr f1 hv hw'
              subst hr
              simp only [hex] at h
              exact aops_wp ok hc hnt ops r _ s' e K' _ w' Q h ((rf.mono f1.le).put hnt hd hv) hw' (sat.step f1)
            · intro v H2 v' K' w' hr f1 hv hw'
              subst hr
              simp only [hex, Option.some.injEq, Prod.mk.injEq] at h
              obtain ⟨rfl, rfl⟩ := h
              exact sat K' a w' v' f1 (rf.mono f1.le) hw' (fun v0 h0 => by injection h0 with h0; subst h0; exact hv)

end
end Go.Aes
