import Derived.Test.YtnmljkjdflfdoaaDoorS3
set_option linter.all false
set_option linter.unusedVariables false
set_option linter.unusedSimpArgs false
namespace Go.Aes
open Go.RowKit

/-! ### what is found with less is found with more -/
def Sub (C C' : CallF) : Prop := ∀ g as H r, C g as H = some r → C' g as H = some r

theorem exec_mono {X : Cx} {C C' : CallF} (s : Sub C C') {i : In} {H : AH} {r : Res} (h : exec X C i H = some r) : exec X C' i H = some r := by
  cases i <;> first | exact h | exact s _ _ _ _ h

theorem aops_mono {X : Cx} {C C' : CallF} (s : Sub C C') {f nt : Nat} {all : List Oper} : ∀ (l : List Oper) (t : St) (r : Ex × St), aops X C f nt all l t = some r → aops X C' f nt all l t = some r
  | [], t, r, h => h
  | o :: l, t, r, h => by
    simp only [aops] at h ⊢
    cases hd : dstOk nt o.dst with
    | false => simp [hd] at h
    | true =>
      simp only [hd, Bool.not_true, cond_false] at h ⊢
      cases hw : wantedB t.fr all o with
      | false =>
        simp only [hw, cond_false] at h ⊢
        exact aops_mono s l _ r h
      | true =>
        simp only [hw, cond_true] at h ⊢
        cases hi : inst X f t.fr o with
        | none => simp [hi] at h
        | some i =>
          simp only [hi] at h ⊢
          cases he : exec X C i t.H with
          | none => simp [he] at h
          | some q =>
            rw [exec_mono s he]
            cases q with
            | val v H =>
              simp only [he] at h ⊢
              exact aops_mono s l _ r h
            | panic v H =>
              simp only [he] at h ⊢
              exact h

theorem dops_mono {X : Cx} {C C' : CallF} (s : Sub C C') {f nt : Nat} {all : List Oper} : ∀ (l : List (Nat × Nat × Oper)) (effs : Nat) (log : List (Nat × In × AV)) (t : St) (r : Ex × St),
    dops X C f nt all l effs log t = some r → dops X C' f nt all l effs log t = some r
  | [], effs, log, t, r, h => h
  | (j, anc, o) :: l, effs, log, t, r, h => by
    simp only [dops] at h ⊢
    cases hd : dstOk nt o.dst with
    | false => simp [hd] at h
    | true =>
      simp only [hd, Bool.not_true, cond_false] at h ⊢
      cases hw : wantedB t.fr all o with
      | false =>
        simp only [hw, cond_false] at h ⊢
        exact dops_mono s l _ _ _ r h
      | true =>
        simp only [hw, cond_true] at h ⊢
        cases hi : inst X f t.fr o with
        | none => simp [hi] at h
        | some i =>
          simp only [hi] at h ⊢
          cases hb : (effs &&& anc).beq effs with
          | false => simp [hb] at h
          | true =>
            simp only [hb, Bool.not_true, cond_false] at h ⊢
            cases he : exec X C i t.H with
            | none => simp [he] at h
            | some q =>
              rw [exec_mono s he]
              cases q with
              | val v H =>
                simp only [he] at h ⊢
                cases hn : i.eff with
                | true =>
                  simp only [hn, cond_true] at h ⊢
                  cases hr : recheck X anc H log with
                  | false => simp [hr] at h
                  | true =>
                    simp only [hr, cond_true] at h ⊢
                    exact dops_mono s l _ _ _ r h
                | false =>
                  simp only [hn, cond_false] at h ⊢
                  exact dops_mono s l _ _ _ r h
              | panic v H => simp only [he] at h ⊢; exact h

theorem tops_mono {X : Cx} {C C' : CallF} (s : Sub C C') {f nt : Nat} {all : List Oper} {L1 : List PO'} {a1 a2 s1 s2 : PO'} {t : St} {r : Ex × St} (h : tops X C f nt all L1 a1 a2 s1 s2 t = some r) : tops X C' f nt all L1 a1 a2 s1 s2 t = some r := by
  unfold tops at h ⊢
  cases hd : dops X C f nt all L1 0 [] t with
  | none => rw [hd] at h; cases h
  | some p =>
    rw [dops_mono s _ _ _ _ _ hd]
    rw [hd] at h
    exact h

theorem iter_mono {st st' : St → Option (Ex × St)} (hs : ∀ t r, st t = some r → st' t = some r) : ∀ (n m : Nat) (t : St) (r : Ex × St), n ≤ m → iter st n t = some r → iter st' m t = some r
  | 0, m, t, r, hnm, h => by simp [iter] at h
  | n + 1, 0, t, r, hnm, h => by omega
  | n + 1, m + 1, t, r, hnm, h => by
    simp only [iter] at h ⊢
    cases h1 : st t with
    | none => simp [h1] at h
    | some p =>
      rw [hs _ _ h1]
      obtain ⟨e, t'⟩ := p
      cases e with
      | normal =>
        simp only [h1] at h ⊢
        exact iter_mono hs n m t' r (by omega) h
      | exit id => simp only [h1] at h ⊢; exact h
      | ret => simp only [h1] at h ⊢; exact h
      | panic v => simp only [h1] at h ⊢; exact h

theorem acode_mono {X : Cx} {C C' : CallF} (s : Sub C C') {f nt lf lf' : Nat} (hl : lf ≤ lf') : ∀ (c : Code) (t : St) (r : Ex × St), acode X C f nt lf c t = some r → acode X C' f nt lf' c t = some r := by
  intro c
  induction c with
  | skip => intro t r h; exact h
  | region id ops draw =>
    intro t r h
    simp only [acode, region] at h ⊢
    cases draw with
    | true =>
      simp only [cond_true, gB_true] at h ⊢
      split at h
      · exact tops_mono s h
      · exact dops_mono s _ _ _ _ _ h
    | false => simp only [cond_false, gB_false] at h ⊢; exact aops_mono s _ _ _ h
  | seq a b iha ihb =>
    intro t r h
    simp only [acode] at h ⊢
    cases h1 : acode X C f nt lf a t with
    | none => simp [h1] at h
    | some p =>
      rw [iha _ _ h1]
      obtain ⟨e, t'⟩ := p
      cases e with
      | normal => simp only [h1] at h ⊢; exact ihb _ _ h
      | exit id => simp only [h1] at h ⊢; exact h
      | ret => simp only [h1] at h ⊢; exact h
      | panic v => simp only [h1] at h ⊢; exact h
  | cond c a b iha ihb =>
    intro t r h
    simp only [acode] at h ⊢
    split at h
    · exact iha _ _ h
    · exact ihb _ _ h
    · cases h
  | block id a iha =>
    intro t r h
    simp only [acode] at h ⊢
    cases h1 : acode X C f nt lf a t with
    | none => simp [h1] at h
    | some p =>
      rw [iha _ _ h1]
      obtain ⟨e, t'⟩ := p
      cases e with
      | normal => simp only [h1] at h ⊢; exact h
      | exit id => simp only [h1] at h ⊢; exact h
      | ret => simp only [h1] at h ⊢; exact h
      | panic v => simp only [h1] at h ⊢; exact h
  | loop a iha =>
    intro t r h
    simp only [acode] at h ⊢
    exact iter_mono iha lf lf' t r hl h
  | exit id => intro t r h; exact h
  | ret => intro t r h; exact h
  | scope a iha => intro t r h; simp only [acode] at h ⊢; exact iha t r h
  | label l => intro t r h; exact h
  | _ => intro t r h; simp [acode] at h

theorem Sub.refl (C : CallF) : Sub C C := fun _ _ _ _ h => h

section
variable {R : Type} [Mon R] {Sat : R → Prop} {PP : AV → AH → Prop} {X : Cx} {C : CallF}

/-! ### names and slots -/
theorem ER.put {env : Env} {fr : Fr} {nt : Nat} (e : ER env fr) (hnt : nt < 2 ^ 39) {d : Option Nat} (hd : dstOk nt d = true) (v : AV) : ER (putEnv env d v) (putD fr d v) := by
  cases d with
  | none => exact e
  | some d =>
    have hlt : d < nt := by simpa [dstOk, Nat.blt_eq] using hd
    intro t u h
    simp only [putD]
    rw [Tr.get_put (some v) 40 fr d t (by omega)]
    simp only [putEnv, lk] at h
    by_cases ht : t = d
    · subst ht
      simp at h
      simp [h]
    · have : t.beq d = false := by
        cases hb : t.beq d with
        | false => rfl
        | true => exact absurd (Nat.eq_of_beq_eq_true hb) ht
      simp only [this, cond_false] at h
      rw [if_neg ht]
      exact e t u h

theorem lk_put {env : Env} {d : Option Nat} {v : AV} {t : Nat} (h : (lk t env).isSome = true) : (lk t (putEnv env d v)).isSome = true := by
  cases d with
  | none => exact h
  | some d =>
    simp only [putEnv, lk]
    cases t.beq d <;> simp [h]

theorem wanted_sat (ms : MonOk R Sat PP) {all : List Oper} {o : Oper} {env : Env} {fr : Fr} {H : AH} {A : (AV → AH → R) → R} {k : AV → AH → R} (e : ER env fr) {p : Nat × Bool} (hg : o.guard = some p)
    (h : Sat (qO all[p.1]? fun oj => qO oj.dst fun d => qO (lk d env) fun g => qG g p.2 A H k)) : (wantedB fr all o = true ∧ Sat (A k)) ∨ (wantedB fr all o = false ∧ Sat (k undef H)) := by
  obtain ⟨oj, h1, h⟩ := qO_sat ms h
  obtain ⟨d, h2, h⟩ := qO_sat ms h
  obtain ⟨g, h3, h⟩ := qO_sat ms h
  unfold qG at h
  cases g with
  | bool b =>
    have h4 := e d _ h3
    have h5 : fr.get d = some (.bool b) := by
      cases hf : fr.get d with
      | none => rw [hf] at h4; simp [undef] at h4
      | some v => rw [hf] at h4; simpa using h4
    have hw : wantedB fr all o = (b == p.2) := by
      obtain ⟨j, want⟩ := p
      simp only [wantedB, hg]
      simp only at h1
      simp only [h1, h2, h5]
    rw [hw]
    simp only [] at h
    cases hb : b == p.2 with
    | true => simp only [hb, cond_true] at h; exact .inl ⟨rfl, h⟩
    | false => simp only [hb, cond_false] at h; exact .inr ⟨rfl, h⟩
  | tup l =>
    have h4 := e d _ h3
    have hw : wantedB fr all o = false := by
      obtain ⟨j, want⟩ := p
      simp only [wantedB, hg]
      simp only at h1
      simp only [h1, h2]
      cases hf : fr.get d with
      | none => rfl
      | some v =>
        rw [hf] at h4
        simp only [Option.getD_some] at h4
        subst h4
        rfl
    exact .inr ⟨hw, h⟩
  | _ => exact (ms.nf h).elim

theorem hOps_sat (ms : MonOk R Sat PP) {f nt : Nat} (hnt : nt < 2 ^ 39) {all : List Oper} {k : Env → AH → R} {ss : List Nat} : ∀ (l : List Oper) (env : Env) (fr : Fr) (H : AH), ER env fr → (∀ t, t ∈ ss → (lk t env).isSome = true) →
    Sat (hOps X C f nt all l env H k) → (∃ fr' H' env', aops X C f nt all l { fr := fr, H := H } = some (.normal, { fr := fr', H := H' }) ∧ ER env' fr' ∧ (∀ t, t ∈ ss → (lk t env').isSome = true) ∧ Sat (k env' H')) ∨
      ∃ v s', aops X C f nt all l { fr := fr, H := H } = some (.panic v, s') ∧ PP v s'.H
  | [], env, fr, H, e, hs, h => .inl ⟨fr, H, env, rfl, e, hs, h⟩
  | o :: l, env, fr, H, e, hs, h => by
    simp only [hOps] at h
    obtain ⟨hd, h⟩ := bif_sat ms h
    have go : ∀ {v H'}, wantedB fr all o = true → Gives X C (inst X f fr o) H v H' → Sat (hOps X C f nt all l (putEnv env o.dst v) H' k) →
        (∃ fr' H' env', aops X C f nt all (o :: l) { fr := fr, H := H } = some (.normal, { fr := fr', H := H' }) ∧ ER env' fr' ∧ (∀ t, t ∈ ss → (lk t env').isSome = true) ∧ Sat (k env' H')) ∨
        ∃ v s', aops X C f nt all (o :: l) { fr := fr, H := H } = some (.panic v, s') ∧ PP v s'.H := by
      intro v H1 hw hg h
      obtain ⟨i, h1, h2⟩ := hg
      rcases hOps_sat ms hnt l (putEnv env o.dst v) (putD fr o.dst v) H1 (e.put hnt hd v) (fun t ht => lk_put (hs t ht)) h with ⟨fr', H', env', h3, h4, h5, h6⟩ | ⟨v', s', h3, h4⟩
      · exact .inl ⟨fr', H', env', by simp only [aops, hd, Bool.not_true, cond_false, hw, cond_true, h1, h2]; exact h3, h4, h5, h6⟩
      · exact .inr ⟨v', s', by simp only [aops, hd, Bool.not_true, cond_false, hw, cond_true, h1, h2]; exact h3, h4⟩
    have gp : ∀ {v H'}, wantedB fr all o = true → Pans X C (inst X f fr o) H v H' → PP v H' → ∃ v s', aops X C f nt all (o :: l) { fr := fr, H := H } = some (.panic v, s') ∧ PP v s'.H := by
      intro v H1 hw hg h
      obtain ⟨i, h1, h2⟩ := hg
      exact ⟨v, { fr := fr, H := H1 }, by simp only [aops, hd, Bool.not_true, cond_false, hw, cond_true, h1, h2], h⟩
    unfold hStep at h
    cases hg : o.guard with
    | none =>
      simp only [hg] at h
      have hw : wantedB fr all o = true := by simp [wantedB, hg]
      rcases hOp_sat ms e h with ⟨v, H', h1, h2⟩ | ⟨_, v, H', h1, h2⟩
      · exact go hw h1 h2
      · exact .inr (gp hw h1 h2)
    | some p =>
      simp only [hg] at h
      rcases wanted_sat ms e hg h with ⟨h1, h2⟩ | ⟨h1, h2⟩
      · rcases hOp_sat ms e h2 with ⟨v, H', h3, h4⟩ | ⟨_, v, H', h3, h4⟩
        · exact go h1 h3 h4
        · exact .inr (gp h1 h3 h4)
      · rcases hOps_sat ms hnt l (putEnv env o.dst undef) (putD fr o.dst undef) H (e.put hnt hd undef) (fun t ht => lk_put (hs t ht)) h2 with ⟨fr', H', env', h3, h4, h5, h6⟩ | ⟨v', s', h3, h4⟩
        · exact .inl ⟨fr', H', env', by simp only [aops, hd, Bool.not_true, cond_false, h1]; exact h3, h4, h5, h6⟩
        · exact .inr ⟨v', s', by simp only [aops, hd, Bool.not_true, cond_false, h1]; exact h3, h4⟩

end
end Go.Aes
