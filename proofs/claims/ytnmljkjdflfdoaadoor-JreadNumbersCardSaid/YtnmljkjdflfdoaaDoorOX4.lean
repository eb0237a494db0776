import Derived.Test.YtnmljkjdflfdoaaDoorOX3b
set_option linter.all false
set_option linter.unusedVariables false
set_option linter.unusedSimpArgs false
namespace Go.Aes
open Go.RowKit

section
variable {ds : List Deferred}
variable {X : Cx} {P : Program} {B : Nat} {W : World} {C : CallF}

theorem region_wp (ok : CxOk X P) (hc : CallOk P B W C) {f nt id : Nat} (hnt : nt < 2 ^ 39) {ops : Array Oper} {draw : Bool} (hrg : draw = true → rgOk ops.toList = true) {s s' : St} {e : Ex} {K : KC} {a : Act} {w : World} {Q : Exit → Act → World → Prop}
    (h : region X C f nt ops draw s = some (e, s')) (rf : RF ds K nt s.fr a) (hw : RW B W K s.H w) (sat : Sat ds B W nt K s.H e s' Q) : (Code.region id ops draw).wp P Q a w := by
  unfold region at h
  cases draw with
  | false =>
    simp only [cond_false] at h
    exact wp_region_list (aops_wp ok hc hnt ops ops.toList s s' e K a w Q h rf hw sat)
  | true =>
    simp only [cond_true] at h
    cases ht : twSplit (plan ops.toList (ancestors ops.toList []) ops.toList.length 0) with
    | none => rw [ht] at h; exact dops_wp ok hc hnt (hrg rfl) h rf hw sat
    | some p =>
      obtain ⟨L1, a1, a2, s1, s2⟩ := p
      rw [ht] at h
      exact tops_wp ok hc hnt (hrg rfl) ht h rf hw sat

/-- the regions of a piece of code are fit for it -/
def codeOk : Code → Bool
  | .region _ ops draw => !draw || rgOk ops.toList
  | .seq a b => codeOk a && codeOk b
  | .cond _ a b => codeOk a && codeOk b
  | .block _ a => codeOk a
  | .loop a => codeOk a
  | .scope a => codeOk a
  | _ => true

theorem iter_wp {c : Code} {nt : Nat} {step : St → Option (Ex × St)}
    (hs : ∀ s s' e K a w Q, step s = some (e, s') → RF ds K nt s.fr a → RW B W K s.H w → Sat ds B W nt K s.H e s' Q → c.wp P Q a w) :
    ∀ (n : Nat) (s s' : St) (e : Ex) (K : KC) (a : Act) (w : World) (Q : Exit → Act → World → Prop), iter step n s = some (e, s') → RF ds K nt s.fr a → RW B W K s.H w → Sat ds B W nt K s.H e s' Q → Code.rounds P c Q n a w
  | 0, s, s', e, K, a, w, Q, h, rf, hw, sat => by simp [iter] at h
  | n + 1, s, s', e, K, a, w, Q, h, rf, hw, sat => by
    simp only [iter] at h
    cases hst : step s with
    | none => simp [hst] at h
    | some p =>
      obtain ⟨e1, s1⟩ := p
      rw [rounds_succ]
      cases e1 with
      | normal =>
        simp only [hst] at h
        refine hs s s1 .normal K a w _ hst rf hw (fun K' a' w' v' f1 rf1 rw1 _ => ?_)
        exact iter_wp hs n s1 s' e K' a' w' Q h rf1 rw1 (sat.step f1)
      | exit id =>
        simp only [hst, Option.some.injEq, Prod.mk.injEq] at h
        obtain ⟨rfl, rfl⟩ := h
        exact hs s s1 _ K a w _ hst rf hw (fun K' a' w' v' f1 rf1 rw1 hv => sat K' a' w' v' f1 rf1 rw1 hv)
      | ret =>
        simp only [hst, Option.some.injEq, Prod.mk.injEq] at h
        obtain ⟨rfl, rfl⟩ := h
        exact hs s s1 _ K a w _ hst rf hw (fun K' a' w' v' f1 rf1 rw1 hv => sat K' a' w' v' f1 rf1 rw1 hv)
      | panic v =>
        simp only [hst, Option.some.injEq, Prod.mk.injEq] at h
        obtain ⟨rfl, rfl⟩ := h
        exact hs s s1 _ K a w _ hst rf hw (fun K' a' w' v' f1 rf1 rw1 hv => sat K' a' w' v' f1 rf1 rw1 hv)

theorem acode_wp (ok : CxOk X P) (hc : CallOk P B W C) {f nt lf : Nat} (hnt : nt < 2 ^ 39) : ∀ (c : Code), codeOk c = true → ∀ (s s' : St) (e : Ex) (K : KC) (a : Act) (w : World) (Q : Exit → Act → World → Prop),
    acode X C f nt lf c s = some (e, s') → RF ds K nt s.fr a → RW B W K s.H w → Sat ds B W nt K s.H e s' Q → c.wp P Q a w := by
  intro c
  induction c with
  | skip =>
    intro _ s s' e K a w Q h rf hw sat
    simp [acode] at h
    obtain ⟨rfl, rfl⟩ := h
    exact wp_skip (sat K a w Go.undef (.refl K s.H) rf hw (fun v hv => by cases hv))
  | region id ops draw =>
    intro hk s s' e K a w Q h rf hw sat
    exact region_wp ok hc hnt (fun hd => by subst hd; simpa [codeOk] using hk) h rf hw sat
  | seq x y ihx ihy =>
    intro hk s s' e K a w Q h rf hw sat
    have hk' := Bool.and_eq_true_iff.1 hk
    simp only [acode] at h
    cases hx : acode X C f nt lf x s with
    | none => simp [hx] at h
    | some p =>
      obtain ⟨e1, s1⟩ := p
      refine wp_seq ?_
      cases e1 with
      | normal =>
        simp only [hx] at h
        refine ihx hk'.1 s s1 .normal K a w _ hx rf hw (fun K' a' w' v' f1 rf1 rw1 _ => ?_)
        exact ihy hk'.2 s1 s' e K' a' w' Q h rf1 rw1 (sat.step f1)
      | exit id =>
        simp only [hx, Option.some.injEq, Prod.mk.injEq] at h
        obtain ⟨rfl, rfl⟩ := h
        exact ihx hk'.1 s s1 _ K a w _ hx rf hw (fun K' a' w' v' f1 rf1 rw1 hv => sat K' a' w' v' f1 rf1 rw1 hv)
      | ret =>
        simp only [hx, Option.some.injEq, Prod.mk.injEq] at h
        obtain ⟨rfl, rfl⟩ := h
        exact ihx hk'.1 s s1 _ K a w _ hx rf hw (fun K' a' w' v' f1 rf1 rw1 hv => sat K' a' w' v' f1 rf1 rw1 hv)
      | panic v =>
        simp only [hx, Option.some.injEq, Prod.mk.injEq] at h
        obtain ⟨rfl, rfl⟩ := h
        exact ihx hk'.1 s s1 _ K a w _ hx rf hw (fun K' a' w' v' f1 rf1 rw1 hv => sat K' a' w' v' f1 rf1 rw1 hv)
  | cond q x y ihx ihy =>
    intro hk s s' e K a w Q h rf hw sat
    have hk' := Bool.and_eq_true_iff.1 hk
    simp only [acode] at h
    cases hq : ev s.fr q with
    | none => simp [hq] at h
    | some v =>
      cases v <;> (try simp only [hq] at h) <;> (try (cases h; done))
      rename_i b
      have hb := (rf.ev hq).bool_inv
      cases b with
      | true =>
        simp only [] at h
        exact wp_cond_true hb (ihx hk'.1 s s' e K a w Q h rf hw sat)
      | false =>
        simp only [] at h
        exact wp_cond_false hb (ihy hk'.2 s s' e K a w Q h rf hw sat)
  | block id x ih =>
    intro hk s s' e K a w Q h rf hw sat
    simp only [acode] at h
    cases hx : acode X C f nt lf x s with
    | none => simp [hx] at h
    | some p =>
      obtain ⟨e1, s1⟩ := p
      refine wp_block ?_
      cases e1 with
      | exit j =>
        simp only [hx] at h
        refine ih hk s s1 _ K a w _ hx rf hw (fun K' a' w' v' f1 rf1 rw1 hv => ?_)
        cases hj : j.beq id with
        | true =>
          have hj' : j = id := by simpa using hj
          simp only [hj, cond_true, Option.some.injEq, Prod.mk.injEq] at h
          obtain ⟨rfl, rfl⟩ := h
          simp only [exOf, Exit.inBlock, hj', if_true]
          exact sat K' a' w' v' f1 rf1 rw1 (fun v hv => by cases hv)
        | false =>
          have hj' : ¬ j = id := fun e => by subst e; simp at hj
          simp only [hj, cond_false, Option.some.injEq, Prod.mk.injEq] at h
          obtain ⟨rfl, rfl⟩ := h
          simp only [exOf, Exit.inBlock, hj', if_false]
          exact sat K' a' w' v' f1 rf1 rw1 (fun v hv => by cases hv)
      | normal =>
        simp only [hx, Option.some.injEq, Prod.mk.injEq] at h
        obtain ⟨rfl, rfl⟩ := h
        exact ih hk s s1 _ K a w _ hx rf hw (fun K' a' w' v' f1 rf1 rw1 hv => sat K' a' w' v' f1 rf1 rw1 hv)
      | ret =>
        simp only [hx, Option.some.injEq, Prod.mk.injEq] at h
        obtain ⟨rfl, rfl⟩ := h
        exact ih hk s s1 _ K a w _ hx rf hw (fun K' a' w' v' f1 rf1 rw1 hv => sat K' a' w' v' f1 rf1 rw1 hv)
      | panic v =>
        simp only [hx, Option.some.injEq, Prod.mk.injEq] at h
        obtain ⟨rfl, rfl⟩ := h
        exact ih hk s s1 _ K a w _ hx rf hw (fun K' a' w' v' f1 rf1 rw1 hv => sat K' a' w' v' f1 rf1 rw1 hv)
  | loop x ih =>
    intro hk s s' e K a w Q h rf hw sat
    simp only [acode] at h
    exact wp_loop_rounds lf (iter_wp (fun s s' e K a w Q => ih hk s s' e K a w Q) lf s s' e K a w Q h rf hw sat)
  | exit id =>
    intro _ s s' e K a w Q h rf hw sat
    simp [acode] at h
    obtain ⟨rfl, rfl⟩ := h
    exact wp_exit (sat K a w Go.undef (.refl K s.H) rf hw (fun v hv => by cases hv))
  | scope x ih =>
    intro hk s s' e K a w Q h rf hw sat
    simp only [acode] at h
    refine wp_scope_straight (ih hk s s' e K a w _ h rf hw (fun K' a' w' v' f1 rf1 rw1 hv => ?_))
    have := sat K' a' w' v' f1 rf1 rw1 hv
    cases e <;> exact this
  | label l =>
    intro _ s s' e K a w Q h rf hw sat
    simp [acode] at h
    obtain ⟨rfl, rfl⟩ := h
    exact wp_label (sat K a w Go.undef (.refl K s.H) rf hw (fun v hv => by cases hv))
  | ret =>
    intro _ s s' e K a w Q h rf hw sat
    simp [acode] at h
    obtain ⟨rfl, rfl⟩ := h
    exact wp_ret (sat K a w Go.undef (.refl K s.H) rf hw (fun v hv => by cases hv))
  | _ => intros; simp_all [acode]

/-! ### calls -/
theorem frame_get : ∀ (as : List AV) (k : Nat) (fr : Fr), k + as.length < 2 ^ 39 → ∀ t, (frame as k fr).get t = if k ≤ t ∧ t < k + as.length then as[t - k]? else fr.get t
  | [], k, fr, h, t => by simp [frame]; intro h1 h2; omega
  | x :: as, k, fr, h, t => by
    simp only [List.length_cons] at h
    simp only [frame]
    rw [frame_get as (k + 1) _ (by omega), Tr.get_put (some x) 40 fr k t (by omega)]
    simp only [List.length_cons]
    by_cases e : t = k
    · subst e
      rw [if_neg (by omega), if_pos rfl, if_pos (by omega)]
      simp
    · rw [if_neg e]
      by_cases e1 : k + 1 ≤ t ∧ t < k + 1 + as.length
      · rw [if_pos e1, if_pos (by omega)]
        have : t - k = (t - (k + 1)) + 1 := by omega
        rw [this, List.getElem?_cons_succ]
      · rw [if_neg e1, if_neg (by omega)]

theorem results_ok (ok : CxOk X P) {nt : Nat} {fr : Fr} {K : KC} {a : Act} {H : AH} {w : World} (rf : RF ds K nt fr a) (hw : RW B W K H w) (F : ResultVar → Sem Value)
    (hF1 : ∀ t, F (.tmp t) = pure (a.tmps.getD t Go.undef)) (hF2 : ∀ p t, F (.cell p t) = (do loadVar t (← asAddr (a.tmps.getD p Go.undef)))) : ∀ (l : List ResultVar) (vs : List AV), results X fr H l = some vs →
    ∃ rs : List Value, RL K vs rs ∧ (l.mapM F).run P w = .ok rs w
  | [], vs, h => by simp [results] at h; subst h; exact ⟨[], .nil, rfl⟩
  | .tmp t :: r, vs, h => by
    simp only [results] at h
    obtain ⟨vs', h1, rfl⟩ := Option.map_eq_some_iff.1 h
    obtain ⟨rs, g1, g2⟩ := results_ok ok rf hw F hF1 hF2 r vs' h1
    refine ⟨_, .cons (rf.at_ t) g1, ?_⟩
    simp only [List.mapM_cons, hF1, Sem.run_bind, Sem.run_pure, Result.andThen_ok, g2]
  | .cell p t :: r, vs, h => by
    simp only [results] at h
    cases hp : fr.get p with
    | none => simp [hp] at h
    | some v =>
      cases v <;> (try simp only [hp] at h) <;> (try (cases h; done))
      rename_i i o
      cases hl : loadAt X t (.ptr i o) H with
      | none => simp [hl] at h
      | some v =>
        simp only [hl] at h
        obtain ⟨vs', h1, rfl⟩ := Option.map_eq_some_iff.1 h
        obtain ⟨rs, g1, g2⟩ := results_ok ok rf hw F hF1 hF2 r vs' h1
        have hpv := rf.at_ p
        rw [hp] at hpv
        obtain ⟨v', k1, k2⟩ := loadAt_ok ok hl hpv hw
        have hptr : ∃ ad, a.tmps.getD p Go.undef = .pointer (some ad) := by
          simp only [Option.getD_some] at hpv
          generalize a.tmps.getD p Go.undef = q at hpv
          cases hpv
          exact ⟨_, rfl⟩
        obtain ⟨ad, had⟩ := hptr
        refine ⟨_, .cons k2 g1, ?_⟩
        rw [had] at k1
        simp only [Instr.loadAt, Instr.sureAddr, Sem.run_bind, Sem.run_pure, Result.andThen_ok] at k1
        have hA : (asAddr (a.tmps.getD p Go.undef)).run P w = .ok ad w := by rw [had]; rfl
        simp only [List.mapM_cons, hF2, Sem.run_bind, hA, Sem.run_pure, Result.andThen_ok, k1, g2]

/-- the program's functions, and their code, are fit -/
structure PrOk (X : Cx) (P : Program) : Prop where
  ok : CxOk X P
  code : ∀ f fn c, X.fn f = some fn → fn.body = some c → codeOk c = true

/-- a function's body -/
def abody (X : Cx) (C : CallF) (lf : Nat) : CallF := fun f as H =>
  match X.fn f with
  | none => none
  | some fn =>
    match fn.body with
    | none => none
    | some c =>
      let nt := max fn.ntmps as.length
      bif !nt.blt 100000 then none else
      match acode X C f nt lf c { fr := frame as 0 .leaf, H := H } with
      | some (.normal, s) => (results X s.fr s.H fn.results.toList).map fun vs => .val (tupOf vs) s.H
      | some (.ret, s) => (results X s.fr s.H fn.results.toList).map fun vs => .val (tupOf vs) s.H
      | some (.panic v, s) => some (.panic v s.H)
      | _ => none

theorem abody_ok (ok : PrOk X P) (ih : CallOk P B W C) (lf : Nat) : CallOk P B W (abody X C lf) := by
    refine ⟨fun g as H r h => ?_, fun g as H r h K w vs hw hvs => ?_⟩
    · simp only [abody] at h
      cases hf : X.fn g with
      | none => simp [hf] at h
      | some fn =>
        obtain ⟨h1, h2⟩ := ok.ok.fn g fn hf
        simp only [hf] at h
        cases hb : fn.body with
        | none => simp [hb] at h
        | some c => exact ⟨fn, h1, h2, by simp [hb]⟩
    · simp only [abody] at h
      cases hf : X.fn g with
      | none => simp [hf] at h
      | some fn =>
        obtain ⟨h1, h2⟩ := ok.ok.fn g fn hf
        simp only [hf] at h
        cases hb : fn.body with
        | none => simp [hb] at h
        | some c =>
          simp only [hb] at h
          cases hn : (max fn.ntmps as.length).blt 100000 with
          | false => simp [hn] at h
          | true =>
            simp only [hn, Bool.not_true, cond_false] at h
            have hnt := blt_of hn
            have hlen := hvs.len
            refine calls_of_wp h1 hb ?_
            have rf0 : RF [] K (max fn.ntmps as.length) (frame as 0 .leaf) { tmps := vs.toArray ++ Array.replicate (fn.ntmps - vs.toArray.size) Go.undef, defers := [] } := by
              refine ⟨by simp; omega, fun t => ?_, rfl⟩
              rw [frame_get as 0 .leaf (by omega) t, Tr.get_leaf]
              rw [Array.getD_eq_getD_getElem?]
              by_cases ht : t < as.length
              · rw [if_pos ⟨Nat.zero_le _, by omega⟩]
                simp only [Nat.sub_zero]
                have ht' : t < vs.length := by omega
                rw [Array.getElem?_append_left (by simpa using ht'), List.getElem?_eq_getElem ht]
                simp only [List.getElem?_toArray, List.getElem?_eq_getElem ht', Option.getD_some]
                exact hvs.at_ t _ _ (List.getElem?_eq_getElem ht) (List.getElem?_eq_getElem ht')
              · rw [if_neg (by omega)]
                rw [Array.getElem?_append_right (by simp; omega)]
                have : (Array.replicate (fn.ntmps - vs.toArray.size) Go.undef)[t - vs.toArray.size]?.getD Go.undef = Go.undef := by
                  rw [Array.getElem?_replicate]
                  split <;> rfl
                rw [this]
                exact .undef
            cases hx : acode X C g (max fn.ntmps as.length) lf c { fr := frame as 0 .leaf, H := H } with
            | none => simp [hx] at h
            | some p =>
              obtain ⟨e, s'⟩ := p
              refine acode_wp ok.ok ih (by omega) c (ok.code g fn c hf hb) _ s' e K _ w _ hx rf0 hw (fun K' a' w' v' f1 rf1 rw1 hv => ?_)
              have fin : RF [] K' (max fn.ntmps as.length) s'.fr a' → ∀ {vs : List AV}, Aes.results X s'.fr s'.H fn.results.toList = some vs → r = .val (tupOf vs) s'.H →
                  a'.defers = [] ∧ ∃ v, (Go.results fn a'.tmps).run P w' = .ok v w' ∧ CPost B W K H r (.returned v) w' := by
                intro rf1 vs2 hr hre
                subst hre
                obtain ⟨rs, g1, g2⟩ := results_ok ok.ok rf1 rw1 (fun x => match x with
                  | .tmp t => pure (a'.tmps.getD t Go.undef)
                  | .cell p t => do loadVar t (← asAddr (a'.tmps.getD p Go.undef))) (fun t => rfl) (fun p t => rfl) fn.results.toList vs2 hr
                refine ⟨rf1.defers, if h : rs.toArray.size = 1 then rs.toArray[0] else .tuple rs.toArray, ?_, K', ?_, rw1, f1⟩
                · unfold Go.results
                  rw [Sem.run_bind, Array.mapM_eq_mapM_toList, Sem.run_map]
                  erw [g2]
                  rfl
                · have hl := g1.len
                  match vs2, rs, hl, g1 with
                  | [], [], _, g1 => exact g1.tup
                  | [a1], [b1], _, g1 => exact g1.at_ 0 a1 b1 (by simp) (by simp)
                  | a1 :: a2 :: l, b1 :: b2 :: m, _, g1 =>
                    rw [dif_neg (by simp)]
                    exact g1.tup
              cases e with
              | normal =>
                simp only [hx] at h
                obtain ⟨vs2, hr, hre⟩ := Option.map_eq_some_iff.1 h
                exact fin rf1 hr hre.symm
              | ret =>
                simp only [hx] at h
                obtain ⟨vs2, hr, hre⟩ := Option.map_eq_some_iff.1 h
                exact fin rf1 hr hre.symm
              | exit id => simp [hx] at h
              | panic v =>
                simp only [hx, Option.some.injEq] at h
                subst h
                exact ⟨rf1, v', K', rfl, hv v rfl, rw1, f1⟩


theorem acall_ok (ok : PrOk X P) (lf : Nat) : ∀ n, CallOk P B W (acall X lf n)
  | 0 => ⟨fun g as H r h => by simp [acall] at h, fun g as H r h => by simp [acall] at h⟩
  | n + 1 => abody_ok ok (acall_ok ok lf n) lf

end
end Go.Aes
set_option linter.unusedVariables false
set_option linter.unusedSimpArgs false
namespace Go.Aes
open Go.RowKit

structure TyE where
  und : TypeDesc
  size : Nat
  bytes : Nat
  zero : Option AV

def aggD : TypeDesc → Bool
  | .struct _ => true
  | .array _ _ => true
  | _ => false

def Cx.of (ft : Tr Func) (tt : Tr TyE) (hm : Nat → Nat → Bool) (td : Nat → Bool) : Cx where
  fn := ft.get
  und := fun t => (tt.get t).map TyE.und
  zero := fun t => match tt.get t with
    | some e => e.zero.map AV.cells
    | none => none
  size := fun t => (tt.get t).map TyE.size
  bytes := fun t => (tt.get t).map TyE.bytes
  ext := fun _ _ _ => none
  hm := hm
  tyd := td

def ofList {α : Type} : List (Nat × α) → Tr α
  | [] => .leaf
  | (k, v) :: r => Tr.put (some v) 40 (ofList r) k

theorem ofList_get {α : Type} : ∀ {l : List (Nat × α)} {k : Nat} {v : α}, (l.all fun p => p.1.blt 1000000000) = true → (ofList l).get k = some v → (k, v) ∈ l
  | [], k, v, _, h => by rw [ofList, Tr.get_leaf] at h; cases h
  | (k', v') :: r, k, v, hb, h => by
    simp only [List.all_cons, Bool.and_eq_true, Nat.blt_eq] at hb
    rw [ofList, Tr.get_put (some v') 40 (ofList r) k' k (by omega)] at h
    by_cases e : k = k'
    · rw [if_pos e] at h
      injection h with h
      rw [e, h]
      exact List.mem_cons_self
    · rw [if_neg e] at h
      exact List.mem_cons_of_mem _ (ofList_get hb.2 h)

/-- of each entry of a list -/
inductive All {α : Type} (p : Nat → α → Prop) : List (Nat × α) → Prop where
  | nil : All p []
  | cons {k : Nat} {v : α} {l : List (Nat × α)} (h : p k v) (r : All p l) : All p ((k, v) :: l)

theorem All.mem {α : Type} {p : Nat → α → Prop} {l : List (Nat × α)} (h : All p l) {k : Nat} {v : α} (hm : (k, v) ∈ l) : p k v := by
  induction h with
  | nil => cases hm
  | cons h r ih =>
    rcases List.mem_cons.1 hm with e | hm
    · injection e with e1 e2
      rw [e1, e2]; exact h
    · exact ih hm

theorem All.append {α : Type} {p : Nat → α → Prop} {l m : List (Nat × α)} (h : All p l) (k : All p m) : All p (l ++ m) := by
  induction h with
  | nil => exact k
  | cons h r ih => exact .cons h ih

def zeroB (d : TypeDesc) (z : Option AV) : Bool :=
  match z with
  | none => true
  | some a => match aggD d, a with
    | true, .agg _ => true
    | false, a => one a
    | _, _ => false

structure TyOk (P : Program) (tt : Tr TyE) (k : Nat) (e : TyE) : Prop where
  info : ∃ i, P.types[k]? = some i ∧ i.size = e.size ∧ i.bytes = e.bytes ∧ (match e.zero with
    | none => True
    | some a => i.zero.bind ofV = some a)
  und : P.underlying k = some e.und
  zero : zeroB e.und e.zero = true
  fields : (match e.und with
    | .struct fs => fs.toList.all fun f => (tt.get f.type).isSome
    | _ => true) = true

structure FnOk (P : Program) (k : Nat) (fn : Func) : Prop where
  isf : P.funcs[k]? = some fn
  name : (fn.name == "runtime.NumGoroutine") = false
  code : (match fn.body with
    | some c => codeOk c
    | none => true) = true

theorem info_of {P : Program} {t : Nat} {i : TypeInfo} (h : P.types[t]? = some i) : P.info? t = some i := by
  unfold Tables.info?
  rw [if_pos (Array.getElem?_eq_some_iff.1 h).1, h]

theorem isAgg_of {ft : Tr Func} {tt : Tr TyE} {hm : Nat → Nat → Bool} {td : Nat → Bool} {t : Nat} {e : TyE} (h : tt.get t = some e) : (Cx.of ft tt hm td).isAgg t = some (aggD e.und) := by
  unfold Cx.isAgg
  simp only [Cx.of, h, Option.map_some]
  cases e.und <;> rfl

theorem PrOk.of {P : Program} {ft : Tr Func} {tt : Tr TyE} {hm : Nat → Nat → Bool} {td : Nat → Bool} {fs : List (Nat × Func)} {ts : List (Nat × TyE)} (hft : ft = ofList fs) (htt : tt = ofList ts)
    (bf : (fs.all fun p => p.1.blt 1000000000) = true) (bt : (ts.all fun p => p.1.blt 1000000000) = true) (hf : All (FnOk P) fs) (ht : All (TyOk P tt) ts) (mixed : P.follows .mixedOrders = true) : PrOk (Cx.of ft tt hm td) P := by
  have hf' : ∀ k fn, ft.get k = some fn → FnOk P k fn := fun k fn h => hf.mem (ofList_get bf (hft ▸ h))
  have ht' : ∀ k e, tt.get k = some e → TyOk P tt k e := fun k e h => ht.mem (ofList_get bt (by rw [← htt]; exact h))
  have und : ∀ t d, (Cx.of ft tt hm td).und t = some d → ∃ e, tt.get t = some e ∧ e.und = d := by
    intro t d h
    obtain ⟨e, h1, h2⟩ := Option.map_eq_some_iff.1 h
    exact ⟨e, h1, h2⟩
  refine ⟨⟨fun f fn h => ⟨(hf' f fn h).isf, (hf' f fn h).name⟩, ?_, ?_, ?_, ?_, ?_, mixed⟩, ?_⟩
  · intro t d h
    obtain ⟨e, h1, h2⟩ := und t d h
    rw [← h2]; exact (ht' t e h1).und
  · intro t n h
    obtain ⟨e, h1, h2⟩ := Option.map_eq_some_iff.1 h
    obtain ⟨i, g1, g2, g3, g4⟩ := (ht' t e h1).info
    exact ⟨i, info_of g1, by rw [g2, h2]⟩
  · intro t n h
    obtain ⟨e, h1, h2⟩ := Option.map_eq_some_iff.1 h
    obtain ⟨i, g1, g2, g3, g4⟩ := (ht' t e h1).info
    exact ⟨i, info_of g1, by rw [g3, h2]⟩
  · intro t z h
    simp only [Cx.of] at h
    cases he : tt.get t with
    | none => simp [he] at h
    | some e =>
      simp only [he] at h
      obtain ⟨a, h1, h2⟩ := Option.map_eq_some_iff.1 h
      obtain ⟨i, g1, g2, g3, g4⟩ := (ht' t e he).info
      have hz := (ht' t e he).zero
      rw [h1] at g4
      simp only [] at g4
      obtain ⟨v, g5, g6⟩ := Option.bind_eq_some_iff.1 g4
      have hag := isAgg_of (ft := ft) (hm := hm) (td := td) he
      refine ⟨i, v, a, info_of g1, g5, g6, h2, fun hA => ?_, fun hA => ?_, by rw [hag]; simp⟩
      · have hA' := hag.symm.trans hA
        injection hA' with hA'
        rw [h1] at hz
        simp only [zeroB, hA'] at hz
        cases a <;> simp [one] at hz
        exact ⟨_, rfl⟩
      · have hA' := hag.symm.trans hA
        injection hA' with hA'
        rw [h1] at hz
        simpa only [zeroB, hA'] using hz
  · intro t fs' h f hfm
    obtain ⟨e, h1, h2⟩ := und t _ h
    have h3 := (ht' t e h1).fields
    rw [h2] at h3
    simp only [] at h3
    have h4 := List.all_eq_true.1 h3 f hfm
    obtain ⟨e', h5⟩ := Option.isSome_iff_exists.1 h4
    exact ⟨e'.size, by simp [Cx.of, h5]⟩
  · intro f fn c h hb
    have h1 := (hf' f fn h).code
    rw [hb] at h1
    exact h1

end Go.Aes
