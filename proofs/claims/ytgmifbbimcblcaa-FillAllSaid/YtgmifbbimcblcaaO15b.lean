import Derived.Test.YtgmifbbimcblcaaO15a
set_option linter.all false
set_option linter.unusedVariables false
set_option linter.unusedSimpArgs false
namespace Go.Aes
open Go.RowKit

/-! ### sets of numbers -/
theorem bit_test (m i : Nat) : bit m i = m.testBit i := by
  unfold bit
  rw [Nat.testBit_eq_decide_div_mod_eq, Nat.shiftRight_eq_div_pow, Bool.eq_iff_iff]
  simp

theorem bit_or (m i j : Nat) : bit (m ||| (1 <<< i)) j = (bit m j || decide (j = i)) := by
  rw [bit_test, bit_test, Nat.testBit_or, Nat.one_shiftLeft, Nat.testBit_two_pow]
  congr 1
  rw [Bool.eq_iff_iff]
  simp [eq_comm]

theorem bit_sub {e a : Nat} (h : (e &&& a).beq e = true) {i : Nat} (hi : bit e i = true) : bit a i = true := by
  have h1 : e &&& a = e := by simpa using h
  rw [bit_test] at *
  rw [← h1, Nat.testBit_and] at hi
  exact (Bool.and_eq_true_iff.1 hi).2

theorem bit_zero (i : Nat) : bit 0 i = false := by simp [bit_test]

/-! ### what is asked of a region that draws its order -/
def ordB : List (Nat × Nat × Oper) → Bool
  | [] => true
  | p :: r => r.all (fun q => !bit p.2.1 q.1 && !p.1.beq q.1) && ordB r

def rgOk (all : List Oper) : Bool :=
  let ancs := ancestors all []
  let L := plan all ancs all.length 0
  let A (i j : Nat) : Bool := bit (ancs.getD i 0) j
  let n := all.length
  ordB L && L.all (fun p => p.2.1.beq (ancs.getD p.1 0)) && (List.range n).all (fun j => L.any fun p => p.1.beq j) &&
  all.zipIdx.all (fun p => (List.range n).all fun j => !A p.2 j || p.1.after.toList.any fun e => Region.binds .any e && (e.on.beq j || A e.on j)) &&
  all.zipIdx.all (fun p => p.1.after.toList.all fun e => !Region.binds .any e || (A p.2 e.on && e.on.blt n && !e.on.beq p.2)) &&
  all.zipIdx.all (fun p => match p.1.dst with
    | none => true
    | some d => all.zipIdx.all fun q => q.2.beq p.2 || !((looks all q.1).contains d || q.1.dst == some d) || A q.2 p.2 || A p.2 q.2)

theorem pickNext_spec {eff : Bool} {done : Nat} : ∀ {l : List Oper} {ms : List Nat} {i0 i m : Nat} {o : Oper}, pickNext eff done l ms i0 = some (i, m, o) → i0 ≤ i ∧ l[i - i0]? = some o
  | [], ms, i0, i, m, o, h => by simp [pickNext] at h
  | x :: l, [], i0, i, m, o, h => by simp [pickNext] at h
  | x :: l, y :: ms, i0, i, m, o, h => by
    simp only [pickNext] at h
    cases hb : (!bit done i0 && (y &&& done).beq y && (opEff x == eff)) with
    | true =>
      simp [hb] at h
      obtain ⟨rfl, rfl, rfl⟩ := h
      exact ⟨Nat.le_refl _, by simp⟩
    | false =>
      simp only [hb, cond_false] at h
      obtain ⟨h1, h2⟩ := pickNext_spec h
      refine ⟨by omega, ?_⟩
      rw [show i - i0 = (i - (i0 + 1)) + 1 by omega, List.getElem?_cons_succ]
      exact h2

theorem plan_spec {all : List Oper} {ancs : List Nat} : ∀ {n done : Nat} {p : Nat × Nat × Oper}, p ∈ plan all ancs n done → all[p.1]? = some p.2.2
  | 0, done, p, h => by simp [plan] at h
  | n + 1, done, p, h => by
    simp only [plan] at h
    cases h1 : pickNext false done all ancs 0 with
    | some q =>
      simp only [h1, List.mem_cons] at h
      rcases h with rfl | h
      · obtain ⟨i, m, o⟩ := p
        have := pickNext_spec h1
        simpa using this.2
      · exact plan_spec h
    | none =>
      simp only [h1] at h
      cases h2 : pickNext true done all ancs 0 with
      | some q =>
        simp only [h2, List.mem_cons] at h
        rcases h with rfl | h
        · obtain ⟨i, m, o⟩ := p
          have := pickNext_spec h2
          simpa using this.2
        · exact plan_spec h
      | none => simp [h2] at h

/-! ### what came up, in the canonical order -/
structure Evt where
  i : Nat
  anc : Nat
  o : Oper
  s : St
  v : AV
  H' : AH
  ran : Option In

def Evt.key (e : Evt) : Nat × Nat × Oper := (e.i, e.anc, e.o)
def Evt.post (e : Evt) : St := { fr := putD e.s.fr e.o.dst e.v, H := e.H' }
def Evt.eff (e : Evt) : Bool := match e.ran with
  | some n => n.eff
  | none => false

def Chain : List Evt → St → St → Prop
  | [], s, s' => s = s'
  | e :: r, s, s' => e.s = s ∧ Chain r e.post s'

section
variable (X : Cx) (C : CallF) (f nt : Nat) (all : List Oper)

def Good (e : Evt) : Prop :=
  dstOk nt e.o.dst = true ∧
  ((e.ran = none ∧ wantedB e.s.fr all e.o = false ∧ e.v = undef ∧ e.H' = e.s.H) ∨
   (∃ n, e.ran = some n ∧ wantedB e.s.fr all e.o = true ∧ inst X f e.s.fr e.o = some n ∧ exec X C n e.s.H = some (.val e.v e.H')))

def Rel (e1 e : Evt) : Prop :=
  (e1.eff = true → e.ran ≠ none → bit e.anc e1.i = true) ∧
  (e.eff = true → ∀ n1, e1.ran = some n1 → n1.eff = false → logged n1 = true → bit e.anc e1.i = true ∨ rd X n1 e.H' = some e1.v ∨ kept n1 e1.v e.H' = true)

end

section
variable {X : Cx} {C : CallF} {f nt : Nat} {all : List Oper}

theorem recheck_spec {anc : Nat} {H : AH} : ∀ {log : List (Nat × In × AV)}, recheck X anc H log = true → ∀ p, p ∈ log → bit anc p.1 = true ∨ rd X p.2.1 H = some p.2.2 ∨ kept p.2.1 p.2.2 H = true
  | [], _, p, hp => by simp at hp
  | (i, n, v) :: r, h, p, hp => by
    simp only [recheck, Bool.and_eq_true, Bool.or_eq_true] at h
    rcases List.mem_cons.1 hp with rfl | hp
    · rcases h.1 with (h1 | h1) | h1
      · exact .inl h1
      · right; left
        cases hr : rd X n H with
        | none => simp [hr] at h1
        | some v' => simp only [hr] at h1; rw [beqV_sound _ _ h1]
      · exact .inr (.inr h1)
    · exact recheck_spec h.2 p hp

theorem trace (T0 : List Evt) : ∀ (L : List (Nat × Nat × Oper)) (effs : Nat) (log : List (Nat × In × AV)) (s s' : St) (ex : Ex) (T0 : List Evt),
    dops X C f nt all L effs log s = some (ex, s') → (∀ e, e ∈ T0 → e.eff = true → bit effs e.i = true) → (∀ e n, e ∈ T0 → e.ran = some n → n.eff = false → logged n = true → (e.i, n, e.v) ∈ log) →
    ex = .normal ∧ ∃ T : List Evt, T.map Evt.key = L ∧ Chain T s s' ∧ (∀ e, e ∈ T → Good X C f nt all e) ∧ T.Pairwise (Rel X) ∧ (∀ e1 e, e1 ∈ T0 → e ∈ T → Rel X e1 e)
  | [], effs, log, s, s', ex, T0, h, h1, h2 => by
    simp [dops] at h
    obtain ⟨rfl, rfl⟩ := h
    exact ⟨rfl, [], rfl, rfl, fun e he => by simp at he, .nil, fun e1 e _ he => by simp at he⟩
  | (i, anc, o) :: r, effs, log, s, s', ex, T0, h, h1, h2 => by
    simp only [dops] at h
    cases hd : dstOk nt o.dst with
    | false => simp [hd] at h
    | true =>
      simp only [hd, Bool.not_true, cond_false] at h
      cases hw : wantedB s.fr all o with
      | false =>
        simp only [hw, cond_false] at h
        obtain ⟨g1, T, g2, g3, g4, g5, g6⟩ := trace T0 r effs log _ s' ex (⟨i, anc, o, s, undef, s.H, none⟩ :: T0) h
          (fun e he hef => by rcases List.mem_cons.1 he with rfl | he; · simp [Evt.eff] at hef
                              · exact h1 e he hef)
          (fun e n he hr => by rcases List.mem_cons.1 he with rfl | he; · simp at hr
                               · exact h2 e n he hr)
        refine ⟨g1, ⟨i, anc, o, s, undef, s.H, none⟩ :: T, by simp [Evt.key, g2], ⟨rfl, g3⟩, ?_, ?_, ?_⟩
        · intro e he
          rcases List.mem_cons.1 he with rfl | he
          · exact ⟨hd, .inl ⟨rfl, hw, rfl, rfl⟩⟩
          · exact g4 e he
        · exact List.pairwise_cons.2 ⟨fun e he => g6 _ e (by simp) he, g5⟩
        · intro e1 e he1 he
          rcases List.mem_cons.1 he with rfl | he
          · exact ⟨fun _ hn => absurd rfl hn, fun hef => by simp [Evt.eff] at hef⟩
          · exact g6 e1 e (List.mem_cons_of_mem _ he1) he
      | true =>
        simp only [hw, cond_true] at h
        cases hin : inst X f s.fr o with
        | none => simp [hin] at h
        | some n =>
          simp only [hin] at h
          cases hef : (effs &&& anc).beq effs with
          | false => simp [hef] at h
          | true =>
            simp only [hef, Bool.not_true, cond_false] at h
            cases hex : exec X C n s.H with
            | none => simp [hex] at h
            | some res =>
              cases res with
              | panic v H => simp [hex] at h
              | val v H =>
                simp only [hex] at h
                have hgood : Good X C f nt all ⟨i, anc, o, s, v, H, some n⟩ := ⟨hd, .inr ⟨n, rfl, hw, hin, hex⟩⟩
                cases hne : n.eff with
                | true =>
                  simp only [hne, cond_true] at h
                  cases hrc : recheck X anc H log with
                  | false => simp [hrc] at h
                  | true =>
                    simp only [hrc, cond_true] at h
                    obtain ⟨g1, T, g2, g3, g4, g5, g6⟩ := trace T0 r _ log _ s' ex (⟨i, anc, o, s, v, H, some n⟩ :: T0) h
                      (fun e he hef => by
                        rw [bit_or]
                        rcases List.mem_cons.1 he with rfl | he
                        · simp
                        · rw [h1 e he hef]; rfl)
                      (fun e n' he hr hnf => by
                        rcases List.mem_cons.1 he with rfl | he
                        · simp at hr; subst hr; rw [hne] at hnf; cases hnf
                        · exact h2 e n' he hr hnf)
                    refine ⟨g1, ⟨i, anc, o, s, v, H, some n⟩ :: T, by simp [Evt.key, g2], ⟨rfl, g3⟩, ?_, ?_, ?_⟩
                    · intro e he
                      rcases List.mem_cons.1 he with rfl | he
                      · exact hgood
                      · exact g4 e he
                    · exact List.pairwise_cons.2 ⟨fun e he => g6 _ e (by simp) he, g5⟩
                    · intro e1 e he1 he
                      rcases List.mem_cons.1 he with rfl | he
                      · refine ⟨fun h3 _ => bit_sub hef (h1 e1 he1 h3), fun _ n1 hr1 hnf hlg => ?_⟩
                        exact recheck_spec hrc _ (h2 e1 n1 he1 hr1 hnf hlg)
                      · exact g6 e1 e (List.mem_cons_of_mem _ he1) he
                | false =>
                  simp only [hne, cond_false] at h
                  obtain ⟨g1, T, g2, g3, g4, g5, g6⟩ := trace T0 r effs _ _ s' ex (⟨i, anc, o, s, v, H, some n⟩ :: T0) h
                    (fun e he hef => by
                      rcases List.mem_cons.1 he with rfl | he
                      · simp [Evt.eff, hne] at hef
                      · exact h1 e he hef)
                    (fun e n' he hr hnf hlg => by
                      rcases List.mem_cons.1 he with rfl | he
                      · simp at hr; subst hr; simp [hlg]
                      · cases hl : logged n
                        · simpa [hl] using h2 e n' he hr hnf hlg
                        · simp only [cond_true]; exact List.mem_cons_of_mem _ (h2 e n' he hr hnf hlg))
                  refine ⟨g1, ⟨i, anc, o, s, v, H, some n⟩ :: T, by simp [Evt.key, g2], ⟨rfl, g3⟩, ?_, ?_, ?_⟩
                  · intro e he
                    rcases List.mem_cons.1 he with rfl | he
                    · exact hgood
                    · exact g4 e he
                  · exact List.pairwise_cons.2 ⟨fun e he => g6 _ e (by simp) he, g5⟩
                  · intro e1 e he1 he
                    rcases List.mem_cons.1 he with rfl | he
                    · exact ⟨fun h3 _ => bit_sub hef (h1 e1 he1 h3), fun h3 => by simp [Evt.eff, hne] at h3⟩
                    · exact g6 e1 e (List.mem_cons_of_mem _ he1) he

end
end Go.Aes
