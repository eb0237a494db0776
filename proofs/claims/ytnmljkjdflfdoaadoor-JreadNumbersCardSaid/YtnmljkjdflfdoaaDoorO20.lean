import Derived.Test.YtnmljkjdflfdoaaDoorS17
import Derived.Recover
set_option linter.all false
set_option linter.unusedVariables false
set_option linter.unusedSimpArgs false
namespace Go.Aes
open Go.RowKit

/-! ### code in the text's order, some calls pending: what is known of the frame where it panics -/
section
variable {ds : List Deferred} {X : Cx} {P : Program} {B : Nat} {W : World} {C : CallF}

def SatU (ds : List Deferred) (B : Nat) (W : World) (nt : Nat) (K : KC) (H : AH) (e : Ex) (s : St) (Q : Exit → Act → World → Prop) : Prop :=
  ∀ K' a' w' v', Fits K H K' s.H → RF ds K' nt s.fr a' → RW B W K' s.H w' → (∀ v, e = .panic v → RV K' v v') → Q (exOf e v') a' w'
theorem SatU.step {H H' : AH} {nt : Nat} {K K' : KC} {e : Ex} {s : St} {Q : Exit → Act → World → Prop} (h : SatU ds B W nt K H e s Q) (f : Fits K H K' H') : SatU ds B W nt K' H' e s Q :=
  fun K2 a2 w2 v2 f2 rf rw hv => h K2 a2 w2 v2 (f.trans f2) rf rw hv

theorem aopsU_wp (ok : CxOk X P) (hc : CallOk P B W C) {f nt : Nat} (hnt : nt < 2 ^ 39) (ops : Array Oper) : ∀ (l : List Oper) (s s' : St) (e : Ex) (K : KC) (a : Act) (w : World) (Q : Exit → Act → World → Prop),
    aops X C f nt ops.toList l s = some (e, s') → RF ds K nt s.fr a → RW B W K s.H w → SatU ds B W nt K s.H e s' Q → wpList P ops Q l a w
  | [], s, s', e, K, a, w, Q, h, rf, hw, sat => by
    simp [aops] at h
    obtain ⟨rfl, rfl⟩ := h
    exact sat K a w Go.undef (.refl K s.H) rf hw (fun v hv => by cases hv)
  | o :: r, s, s', e, K, a, w, Q, h, rf, hw, sat => by
    simp only [aops] at h
    cases hd : dstOk nt o.dst with
    | false => simp [hd] at h
    | true =>
      simp only [hd, Bool.not_true, cond_false] at h
      have hwant := rf.wanted ops o
      unfold wpList
      rw [hwant]
      cases hwb : wantedB s.fr ops.toList o with
      | false =>
        simp only [hwb, cond_false] at h
        simp only [Bool.false_eq_true, if_false]
        exact aopsU_wp ok hc hnt ops r _ s' e K _ w Q h (rf.put hnt hd .undef) hw sat
      | true =>
        simp only [hwb, cond_true] at h
        simp only [if_true]
        cases hin : inst X f s.fr o with
        | none => simp [hin] at h
        | some i =>
          simp only [hin] at h
          cases hex : exec X C i s.H with
          | none => simp [hex] at h
          | some res =>
            refine .inl (exec_wp ok hc hex (inst_sim ok hin rf) hw ?_ ?_)
            · intro v H2 v' K' w' hr f1 hv hw'
              subst hr
              simp only [hex] at h
              exact aopsU_wp ok hc hnt ops r _ s' e K' _ w' Q h ((rf.mono f1.le).put hnt hd hv) hw' (sat.step f1)
            · intro v H2 v' K' w' hr f1 hv hw'
              subst hr
              simp only [hex, Option.some.injEq, Prod.mk.injEq] at h
              obtain ⟨rfl, rfl⟩ := h
              exact sat K' a w' v' f1 (rf.mono f1.le) hw' (fun v0 h0 => by injection h0 with h0; subst h0; exact hv)

/-- code without drawn regions, loops, blocks -/
def okU : Code → Bool
  | .skip => true
  | .region _ _ draw => !draw
  | .seq a b => okU a && okU b
  | .cond _ a b => okU a && okU b
  | .ret => true
  | _ => false

theorem acodeU_wp (ok : CxOk X P) (hc : CallOk P B W C) {f nt lf : Nat} (hnt : nt < 2 ^ 39) : ∀ (c : Code), okU c = true → ∀ (s s' : St) (e : Ex) (K : KC) (a : Act) (w : World) (Q : Exit → Act → World → Prop),
    acode X C f nt lf c s = some (e, s') → RF ds K nt s.fr a → RW B W K s.H w → SatU ds B W nt K s.H e s' Q → c.wp P Q a w := by
  intro c
  induction c with
  | skip =>
    intro _ s s' e K a w Q h rf hw sat
    simp [acode] at h
    obtain ⟨rfl, rfl⟩ := h
    exact wp_skip (sat K a w Go.undef (.refl K s.H) rf hw (fun v hv => by cases hv))
  | region id ops draw =>
    intro hk s s' e K a w Q h rf hw sat
    obtain rfl : draw = false := by simpa [okU] using hk
    simp only [acode, region, cond_false] at h
    exact wp_region_list (aopsU_wp ok hc hnt ops ops.toList s s' e K a w Q h rf hw sat)
  | seq x y ihx ihy =>
    intro hk s s' e K a w Q h rf hw sat
    have hk' := Bool.and_eq_true_iff.1 hk
    simp only [acode] at h
    cases hx : acode X C f nt lf x s with
    | none => simp [hx] at h
    | some p =>
      obtain ⟨e1, s1⟩ := p
      refine wp_seq ?_
      cases e1 with
      | normal =>
        simp only [hx] at h
        refine ihx hk'.1 s s1 .normal K a w _ hx rf hw (fun K' a' w' v' f1 rf1 rw1 _ => ?_)
        exact ihy hk'.2 s1 s' e K' a' w' Q h rf1 rw1 (sat.step f1)
      | exit id =>
        simp only [hx, Option.some.injEq, Prod.mk.injEq] at h
        obtain ⟨rfl, rfl⟩ := h
        exact ihx hk'.1 s s1 _ K a w _ hx rf hw (fun K' a' w' v' f1 rf1 rw1 hv => sat K' a' w' v' f1 rf1 rw1 hv)
      | ret =>
        simp only [hx, Option.some.injEq, Prod.mk.injEq] at h
        obtain ⟨rfl, rfl⟩ := h
        exact ihx hk'.1 s s1 _ K a w _ hx rf hw (fun K' a' w' v' f1 rf1 rw1 hv => sat K' a' w' v' f1 rf1 rw1 hv)
      | panic v =>
        simp only [hx, Option.some.injEq, Prod.mk.injEq] at h
        obtain ⟨rfl, rfl⟩ := h
        exact ihx hk'.1 s s1 _ K a w _ hx rf hw (fun K' a' w' v' f1 rf1 rw1 hv => sat K' a' w' v' f1 rf1 rw1 hv)
  | cond q x y ihx ihy =>
    intro hk s s' e K a w Q h rf hw sat
    have hk' := Bool.and_eq_true_iff.1 hk
    simp only [acode] at h
    cases hq : ev s.fr q with
    | none => simp [hq] at h
    | some v =>
      cases v <;> (try simp only [hq] at h) <;> (try (cases h; done))
      rename_i b
      have hb := (rf.ev hq).bool_inv
      cases b with
      | true =>
        simp only [] at h
        exact wp_cond_true hb (ihx hk'.1 s s' e K a w Q h rf hw sat)
      | false =>
        simp only [] at h
        exact wp_cond_false hb (ihy hk'.2 s s' e K a w Q h rf hw sat)
  | ret =>
    intro _ s s' e K a w Q h rf hw sat
    simp [acode] at h
    obtain ⟨rfl, rfl⟩ := h
    exact wp_ret (sat K a w Go.undef (.refl K s.H) rf hw (fun v hv => by cases hv))
  | _ => intro hk; cases hk

/-! #### what is not written stays -/
def noW (t : Nat) : Code → Bool
  | .skip => true
  | .region _ ops draw => !draw && ops.toList.all fun o => match o.dst with
    | some d => !d.beq t
    | none => true
  | .seq a b => noW t a && noW t b
  | .cond _ a b => noW t a && noW t b
  | .ret => true
  | _ => false
theorem putD_ne {fr : Fr} {nt t : Nat} {d : Option Nat} {v : AV} (hnt : nt < 2 ^ 39) (hd : dstOk nt d = true) (h : d ≠ some t) : (putD fr d v).get t = fr.get t := by
  cases d with
  | none => rfl
  | some d =>
    have hlt : d < nt := by simpa [dstOk, Nat.blt_eq] using hd
    simp only [putD]
    rw [Tr.get_put (some v) 40 fr d t (by omega), if_neg (fun e => h (by rw [e]))]
theorem aops_keep {f nt t : Nat} (hnt : nt < 2 ^ 39) (all : List Oper) : ∀ (l : List Oper) (s s' : St) (e : Ex), (l.all fun o => match o.dst with
    | some d => !d.beq t
    | none => true) = true → aops X C f nt all l s = some (e, s') → s'.fr.get t = s.fr.get t
  | [], s, s', e, _, h => by
    simp [aops] at h
    obtain ⟨rfl, rfl⟩ := h
    rfl
  | o :: r, s, s', e, hl, h => by
    simp only [List.all_cons, Bool.and_eq_true] at hl
    have hne : o.dst ≠ some t := by
      intro e
      have := hl.1
      rw [e] at this
      simp at this
    simp only [aops] at h
    cases hd : dstOk nt o.dst with
    | false => simp [hd] at h
    | true =>
      simp only [hd, Bool.not_true, cond_false] at h
      cases hwb : wantedB s.fr all o with
      | false =>
        simp only [hwb, cond_false] at h
        exact (aops_keep hnt all r _ s' e hl.2 h).trans (putD_ne hnt hd hne)
      | true =>
        simp only [hwb, cond_true] at h
        cases hin : inst X f s.fr o with
        | none => simp [hin] at h
        | some i =>
          simp only [hin] at h
          cases hex : exec X C i s.H with
          | none => simp [hex] at h
          | some res =>
            cases res with
            | val v H2 =>
              simp only [hex] at h
              exact (aops_keep hnt all r _ s' e hl.2 h).trans (putD_ne hnt hd hne)
            | panic v H2 =>
              simp only [hex, Option.some.injEq, Prod.mk.injEq] at h
              obtain ⟨rfl, rfl⟩ := h
              rfl
theorem acode_keep {f nt lf t : Nat} (hnt : nt < 2 ^ 39) : ∀ (c : Code), noW t c = true → ∀ (s s' : St) (e : Ex), acode X C f nt lf c s = some (e, s') → s'.fr.get t = s.fr.get t := by
  intro c
  induction c with
  | skip =>
    intro _ s s' e h
    simp [acode] at h
    obtain ⟨rfl, rfl⟩ := h
    rfl
  | region id ops draw =>
    intro hk s s' e h
    simp only [noW, Bool.and_eq_true, Bool.not_eq_true'] at hk
    obtain ⟨rfl, hk⟩ := hk
    simp only [acode, region, cond_false] at h
    exact aops_keep hnt _ _ s s' e hk h
  | seq x y ihx ihy =>
    intro hk s s' e h
    have hk' := Bool.and_eq_true_iff.1 hk
    simp only [acode] at h
    cases hx : acode X C f nt lf x s with
    | none => simp [hx] at h
    | some p =>
      obtain ⟨e1, s1⟩ := p
      have h1 := ihx hk'.1 s s1 e1 hx
      cases e1 with
      | normal =>
        simp only [hx] at h
        exact (ihy hk'.2 s1 s' e h).trans h1
      | exit id =>
        simp only [hx, Option.some.injEq, Prod.mk.injEq] at h
        obtain ⟨rfl, rfl⟩ := h
        exact h1
      | ret =>
        simp only [hx, Option.some.injEq, Prod.mk.injEq] at h
        obtain ⟨rfl, rfl⟩ := h
        exact h1
      | panic v =>
        simp only [hx, Option.some.injEq, Prod.mk.injEq] at h
        obtain ⟨rfl, rfl⟩ := h
        exact h1
  | cond q x y ihx ihy =>
    intro hk s s' e h
    have hk' := Bool.and_eq_true_iff.1 hk
    simp only [acode] at h
    cases hq : ev s.fr q with
    | none => simp [hq] at h
    | some v =>
      cases v <;> (try simp only [hq] at h) <;> (try (cases h; done))
      rename_i b
      cases b with
      | true =>
        simp only [] at h
        exact ihx hk'.1 s s' e h
      | false =>
        simp only [] at h
        exact ihy hk'.2 s s' e h
  | ret =>
    intro _ s s' e h
    simp [acode] at h
    obtain ⟨rfl, rfl⟩ := h
    rfl
  | _ => intro hk; cases hk

/-- the frame at the start -/
theorem rf_frame {K : KC} {as : List AV} {vs : List Value} (hvs : RL K as vs) (n : Nat) (hn : as.length ≤ n) (hnt : n < 2 ^ 39) : RF [] K n (frame as 0 .leaf) { tmps := vs.toArray ++ Array.replicate (n - vs.toArray.size) Go.undef, defers := [] } := by
  have hlen := hvs.len
  refine ⟨by simp; omega, fun t => ?_, rfl⟩
  rw [frame_get as 0 .leaf (by omega) t, Tr.get_leaf]
  rw [Array.getD_eq_getD_getElem?]
  by_cases ht : t < as.length
  · rw [if_pos ⟨Nat.zero_le _, by omega⟩]
    simp only [Nat.sub_zero]
    have ht' : t < vs.length := by omega
    rw [Array.getElem?_append_left (by simpa using ht'), List.getElem?_eq_getElem ht]
    simp only [List.getElem?_toArray, List.getElem?_eq_getElem ht', Option.getD_some]
    exact hvs.at_ t _ _ (List.getElem?_eq_getElem ht) (List.getElem?_eq_getElem ht')
  · rw [if_neg (by omega)]
    rw [Array.getElem?_append_right (by simp; omega)]
    have : (Array.replicate (n - vs.toArray.size) Go.undef)[t - vs.toArray.size]?.getD Go.undef = Go.undef := by
      rw [Array.getElem?_replicate]
      split <;> rfl
    rw [this]
    exact .undef
/-- a block that nobody is told of -/
theorem RW.junk {K : KC} {H : AH} {w : World} (h : RW B W K H w) (o : Obj) : RW B W K H (w.alloc o) :=
  have hB : B ≤ w.heap.size := Nat.le_trans h.le h.below.size
  ⟨h.below.alloc hB o, h.le, fun b o' v hf => cell_alloc (h.fr b o' v hf), fun i o' hg => (h.obj i o' hg).keep (.refl K) rfl rfl (fun b hb => ⟨heap_alloc w o b (h.low i b (own_of hg hb)).2, fun _ => rfl⟩),
    fun i b hb => ⟨(h.low i b hb).1, by rw [World.size_alloc]; have := (h.low i b hb).2; omega⟩, h.sep, h.fresh, h.zz⟩
end
end Go.Aes
