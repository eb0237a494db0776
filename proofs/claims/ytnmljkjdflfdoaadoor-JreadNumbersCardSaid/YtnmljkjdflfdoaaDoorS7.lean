import Derived.Test.YtnmljkjdflfdoaaDoorS6
set_option linter.all false
set_option linter.unusedVariables false
set_option linter.unusedSimpArgs false
namespace Go.Aes
open Go.RowKit

section
variable {R : Type} [Mon R] {Sat : R → Prop} {PP : AV → AH → Prop} {X : Cx} {C : CallF}

theorem idx_spec {t : Nat} : ∀ {ss : List Nat} {j0 j : Nat}, idx t ss j0 = some j → j0 ≤ j ∧ ss[j - j0]? = some t
  | [], j0, j, h => by cases h
  | s :: r, j0, j, h => by
    simp only [idx] at h
    cases hb : t.beq s with
    | true =>
      simp only [hb, cond_true, Option.some.injEq] at h
      subst h
      have := Nat.eq_of_beq_eq_true hb
      subst this
      exact ⟨Nat.le_refl _, by simp⟩
    | false =>
      simp only [hb, cond_false] at h
      obtain ⟨h1, h2⟩ := idx_spec h
      refine ⟨by omega, ?_⟩
      have : j - j0 = (j - (j0 + 1)) + 1 := by omega
      rw [this, List.getElem?_cons_succ]
      exact h2

/-- where a piece of code comes out -/
def Outs (Sat : R → Prop) (PP : AV → AH → Prop) (ss : List Nat) (kr : KT R) (xs : List (Nat × KT R)) (k : KT R) (e : Ex) (s : St) : Prop :=
  match e with
    | .normal => ∃ l, FR ss l s.fr ∧ Sat (k l s.H)
    | .ret => ∃ l, FR ss l s.fr ∧ Sat (kr l s.H)
    | .exit id => ∃ l, FR ss l s.fr ∧ Sat (lkX id xs l s.H)
    | .panic v => PP v s.H

theorem hC_sat (ms : MonOk R Sat PP) {f nt : Nat} (hnt : nt < 2 ^ 39) {ss : List Nat} {kr : KT R} : ∀ (c : Code) (xs : List (Nat × KT R)) (k : KT R) (l : List AV) (fr : Fr) (H : AH), FR ss l fr →
    Sat (hC X C f nt ss kr c xs k l H) → ∃ lf e s', acode X C f nt lf c { fr := fr, H := H } = some (e, s') ∧ Outs Sat PP ss kr xs k e s' := by
  intro c
  induction c with
  | skip => intro xs k l fr H hf h; exact ⟨0, .normal, _, rfl, l, hf, h⟩
  | region id ops draw =>
    intro xs k l fr H hf h
    simp only [hC] at h
    rcases hReg_sat ms hnt hf h with ⟨fr', H', l', h1, h2, h3⟩ | ⟨v, s', h1, h2⟩
    · exact ⟨0, .normal, _, h1, l', h2, h3⟩
    · exact ⟨0, .panic v, _, h1, h2⟩
  | seq a b iha ihb =>
    intro xs k l fr H hf h
    simp only [hC] at h
    obtain ⟨lf1, e1, s1, h1, hO⟩ := iha _ _ _ _ _ hf h
    cases e1 with
    | normal =>
      obtain ⟨l1, f1, h2⟩ := hO
      obtain ⟨lf2, e2, s2, h3, h4⟩ := ihb _ _ _ _ _ f1 h2
      refine ⟨max lf1 lf2, e2, s2, ?_, h4⟩
      simp only [acode, acode_mono (.refl C) (Nat.le_max_left lf1 lf2) a _ _ h1]
      exact acode_mono (.refl C) (Nat.le_max_right lf1 lf2) b _ _ h3
    | ret => exact ⟨lf1, .ret, s1, by simp only [acode, h1], hO⟩
    | exit id => exact ⟨lf1, .exit id, s1, by simp only [acode, h1], hO⟩
    | panic v => exact ⟨lf1, .panic v, s1, by simp only [acode, h1], hO⟩
  | cond c a b iha ihb =>
    intro xs k l fr H hf h
    simp only [hC] at h
    have go : ∀ {v : AV}, ev fr c = some v → Sat (qIf v (hC X C f nt ss kr a xs k l H) (hC X C f nt ss kr b xs k l H)) →
        ∃ lf e s', acode X C f nt lf (.cond c a b) { fr := fr, H := H } = some (e, s') ∧ Outs Sat PP ss kr xs k e s' := by
      intro v hv h
      unfold qIf at h
      cases v with
      | bool t =>
        cases t with
        | true =>
          obtain ⟨lf, e, s', h1, h2⟩ := iha _ _ _ _ _ hf h
          exact ⟨lf, e, s', by simp only [acode, hv]; exact h1, h2⟩
        | false =>
          obtain ⟨lf, e, s', h1, h2⟩ := ihb _ _ _ _ _ hf h
          exact ⟨lf, e, s', by simp only [acode, hv]; exact h1, h2⟩
      | _ => exact (ms.nf h).elim
    cases c with
    | tmp t =>
      simp only [hCd] at h
      cases hi : idx t ss 0 with
      | none => simp only [hi] at h; exact (ms.nf h).elim
      | some j =>
        simp only [hi, qCd] at h
        obtain ⟨_, h2⟩ := idx_spec hi
        simp only [Nat.sub_zero] at h2
        refine go (v := sel j l) ?_ h
        simp only [ev, hf.at_ j t h2]
    | const v =>
      simp only [hCd] at h
      cases hv : ofV v with
      | none => simp only [hv] at h; exact (ms.nf h).elim
      | some a =>
        simp only [hv, qCd] at h
        exact go (v := a) hv h
    | func g => exact (ms.nf h).elim
    | global g => exact (ms.nf h).elim
  | block id a iha =>
    intro xs k l fr H hf h
    simp only [hC, qBl] at h
    obtain ⟨lf1, e1, s1, h1, hO⟩ := iha _ _ _ _ _ hf h
    cases e1 with
    | normal => exact ⟨lf1, .normal, s1, by simp only [acode, h1], hO⟩
    | ret => exact ⟨lf1, .ret, s1, by simp only [acode, h1], hO⟩
    | exit j =>
      obtain ⟨l1, f1, h2⟩ := hO
      simp only [lkX] at h2
      cases hb : j.beq id with
      | true =>
        simp only [hb, cond_true] at h2
        exact ⟨lf1, .normal, s1, by simp only [acode, h1, hb, cond_true], l1, f1, h2⟩
      | false =>
        simp only [hb, cond_false] at h2
        exact ⟨lf1, .exit j, s1, by simp only [acode, h1, hb, cond_false], l1, f1, h2⟩
    | panic v => exact ⟨lf1, .panic v, s1, by simp only [acode, h1], hO⟩
  | loop a iha =>
    intro xs k l fr H hf h
    simp only [hC, qLoop] at h
    obtain ⟨n, h⟩ := ms.fix _ _ _ h
    suffices key : ∀ (n : Nat) (l : List AV) (fr : Fr) (H : AH), FR ss l fr → Sat (fixN fail (fun k => hC X C f nt ss kr a xs k) n l H) →
        ∃ lf e s', iter (acode X C f nt lf a) lf { fr := fr, H := H } = some (e, s') ∧ Outs Sat PP ss kr xs k e s' by
      obtain ⟨lf, e, s', h1, h2⟩ := key n l fr H hf h
      exact ⟨lf, e, s', by simp only [acode]; exact h1, h2⟩
    intro n
    induction n with
    | zero => intro l fr H hf h; exact (ms.nf h).elim
    | succ n ih =>
      intro l fr H hf h
      obtain ⟨lf1, e1, s1, h1, hO⟩ := iha _ _ _ _ _ hf h
      have fin : ∀ e, (match (some (e, s1) : Option (Ex × St)) with | some (.normal, s) => False | _ => True) → acode X C f nt lf1 a { fr := fr, H := H } = some (e, s1) →
          iter (acode X C f nt (lf1 + 1) a) (lf1 + 1) { fr := fr, H := H } = some (e, s1) := by
        intro e he h1
        simp only [iter, acode_mono (.refl C) (Nat.le_succ lf1) a _ _ h1]
        cases e <;> first | exact he.elim | rfl
      cases e1 with
      | normal =>
        obtain ⟨l1, f1, h2⟩ := hO
        obtain ⟨lf2, e2, s2, h3, h4⟩ := ih _ _ _ f1 h2
        refine ⟨max lf1 lf2 + 1, e2, s2, ?_, h4⟩
        have a1 := acode_mono (lf' := max lf1 lf2 + 1) (.refl C) (by omega) a _ _ h1
        simp only [iter, a1]
        exact iter_mono (fun t r => acode_mono (lf' := max lf1 lf2 + 1) (.refl C) (by omega) a t r) lf2 (max lf1 lf2) _ _ (by omega) h3
      | ret => exact ⟨lf1 + 1, .ret, s1, fin _ trivial h1, hO⟩
      | exit id => exact ⟨lf1 + 1, .exit id, s1, fin _ trivial h1, hO⟩
      | panic v => exact ⟨lf1 + 1, .panic v, s1, fin _ trivial h1, hO⟩
  | exit id => intro xs k l fr H hf h; exact ⟨0, .exit id, _, rfl, l, hf, h⟩
  | ret => intro xs k l fr H hf h; exact ⟨0, .ret, _, rfl, l, hf, h⟩
  | scope a iha =>
    intro xs k l fr H hf h
    simp only [hC] at h
    obtain ⟨lf, e, s', h1, h2⟩ := iha _ _ _ _ _ hf h
    exact ⟨lf, e, s', by simp only [acode]; exact h1, h2⟩
  | label q => intro xs k l fr H hf h; exact ⟨0, .normal, _, rfl, l, hf, h⟩
  | _ => intro xs k l fr H hf h; exact (ms.nf h).elim

theorem hResu_sat (ms : MonOk R Sat PP) {ss : List Nat} {l : List AV} {fr : Fr} {H : AH} (hf : FR ss l fr) : ∀ (rs : List ResultVar) (k : List AV → R), Sat (hResu X ss l H rs k) → ∃ vs, results X fr H rs = some vs ∧ Sat (k vs)
  | [], k, h => ⟨[], rfl, h⟩
  | .tmp t :: r, k, h => by
    simp only [hResu] at h
    obtain ⟨j, h1, h⟩ := qO_sat ms h
    obtain ⟨vs, h2, h3⟩ := hResu_sat ms hf r _ h
    obtain ⟨_, h4⟩ := idx_spec h1
    simp only [Nat.sub_zero] at h4
    exact ⟨sel j l :: vs, by simp [results, h2, hf.at_ j t h4], h3⟩
  | .cell a t :: r, k, h => by
    simp only [hResu] at h
    obtain ⟨j, h1, h⟩ := qO_sat ms h
    obtain ⟨_, h4⟩ := idx_spec h1
    simp only [Nat.sub_zero] at h4
    have hv := hf.at_ j a h4
    unfold qPtr at h
    cases hs : sel j l with
    | ptr i o =>
      rw [hs] at hv
      simp only [hs] at h
      obtain ⟨v, h5, h⟩ := hLoad_sat ms h
      obtain ⟨vs, h2, h3⟩ := hResu_sat ms hf r _ h
      have hg : fr.get a = some (.ptr i o) := by
        cases hfa : fr.get a with
        | none => rw [hfa] at hv; simp [undef] at hv
        | some x => rw [hfa] at hv; simpa using hv
      exact ⟨v :: vs, by simp [results, hg, h5, h2], h3⟩
    | _ => simp only [hs] at h; exact (ms.nf h).elim

theorem nums_len : ∀ (n k : Nat), (nums n k).length = n
  | 0, k => rfl
  | n + 1, k => by simp [nums, nums_len n]

theorem nums_get : ∀ (n k j t : Nat), (nums n k)[j]? = some t → t = k + j ∧ j < n
  | 0, k, j, t, h => by simp [nums] at h
  | n + 1, k, 0, t, h => by simp [nums] at h; omega
  | n + 1, k, j + 1, t, h => by
    simp [nums] at h
    have := nums_get n (k + 1) j t h
    omega

theorem sel_get : ∀ (l : List AV) (j : Nat) (v : AV), l[j]? = some v → sel j l = v
  | [], j, v, h => by simp at h
  | a :: l, 0, v, h => by simpa [sel] using h
  | a :: l, j + 1, v, h => by simp [sel]; exact sel_get l j v (by simpa using h)

theorem hFn_satP (ms : MonOk R Sat PP) {f : Nat} {fn : Func} (hfn : X.fn f = some fn) {np : Nat} {ss : List Nat} {as : List AV} {H : AH} {k : AV → AH → R} (h : Sat (hFn X f fn np ss C as H k)) :
    (∃ lf v H', abody X C lf f as H = some (.val v H') ∧ Sat (k v H')) ∨ ∃ lf v H', abody X C lf f as H = some (.panic v H') ∧ PP v H' := by
  unfold hFn at h
  cases hb : fn.body with
  | none => simp only [hb] at h; exact (ms.nf h).elim
  | some c =>
    simp only [hb] at h
    obtain ⟨h1, h⟩ := bif_sat ms h
    obtain ⟨h2, h⟩ := opn_cur ms _ _ _ h
    simp only [Bool.and_eq_true, Nat.blt_eq, Nat.ble_eq] at h1
    obtain ⟨b1, b2⟩ := h1
    have hmax : max fn.ntmps as.length = fn.ntmps := by omega
    have hnt : fn.ntmps < 2 ^ 39 := by omega
    have hfr : FR ss (mkF ss (zipE (nums np 0) as)) (frame as 0 .leaf) := by
      refine ⟨mkF_len _ _, fun j t hj => ?_⟩
      rw [mkF_sel _ _ j t hj, frame_get as 0 .leaf (by omega) t, Tr.get_leaf]
      by_cases ht : t < as.length
      · rw [if_pos ⟨Nat.zero_le _, by omega⟩]
        simp only [Nat.sub_zero]
        have hs := zipE_some (ss := nums np 0) (l := as) (by rw [nums_len]; exact h2) t (by
          have : (nums np 0)[t]? = some t := by
            cases hg : (nums np 0)[t]? with
            | none =>
              have := List.getElem?_eq_none_iff.1 hg
              rw [nums_len] at this; omega
            | some u => have := (nums_get np 0 t u hg).1; simp at this; rw [this]
          exact List.mem_of_getElem? this)
        cases hv : lk t (zipE (nums np 0) as) with
        | none => rw [hv] at hs; cases hs
        | some v =>
          obtain ⟨i, i1, i2⟩ := zipE_spec hv
          have := (nums_get np 0 i t i1).1
          have hi : i = t := by omega
          subst hi
          rw [List.getElem?_eq_getElem ht, Option.getD_some]
          simp only [odef]
          rw [← i2]
          exact (sel_get as i _ (List.getElem?_eq_getElem ht)).symm
      · rw [if_neg (by omega)]
        have : lk t (zipE (nums np 0) as) = none := by
          cases hv : lk t (zipE (nums np 0) as) with
          | none => rfl
          | some v =>
            obtain ⟨i, i1, i2⟩ := zipE_spec hv
            have := nums_get np 0 i t i1
            omega
        rw [this]
        rfl
    obtain ⟨lf, e, s', h3, hO⟩ := hC_sat ms hnt c [] _ _ _ _ hfr h
    have fin : ∀ l', FR ss l' s'.fr → (e = .normal ∨ e = .ret) → Sat (hResu X ss l' s'.H fn.results.toList fun vs => k (tupOf vs) s'.H) → ∃ lf v H', abody X C lf f as H = some (.val v H') ∧ Sat (k v H') := by
      intro l' f' he h5
      obtain ⟨vs, h6, h7⟩ := hResu_sat ms f' _ _ h5
      refine ⟨lf, tupOf vs, s'.H, ?_, h7⟩
      have hlt : fn.ntmps.blt 100000 = true := by rw [Nat.blt_eq]; exact b1
      simp only [abody, hfn, hb, hmax, hlt, Bool.not_true, cond_false, h3]
      rcases he with rfl | rfl <;> simp [h6]
    cases e with
    | normal => obtain ⟨l', f', h4⟩ := hO; exact .inl (fin l' f' (.inl rfl) h4)
    | ret => obtain ⟨l', f', h4⟩ := hO; exact .inl (fin l' f' (.inr rfl) h4)
    | exit id => obtain ⟨l', f', h4⟩ := hO; exact (ms.nf h4).elim
    | panic v =>
      have hlt : fn.ntmps.blt 100000 = true := by rw [Nat.blt_eq]; exact b1
      exact .inr ⟨lf, v, s'.H, by simp only [abody, hfn, hb, hmax, hlt, Bool.not_true, cond_false, h3], hO⟩

/-- where none panics -/
theorem hFn_sat (ms : MonOk R Sat (fun _ _ => False)) {f : Nat} {fn : Func} (hfn : X.fn f = some fn) {np : Nat} {ss : List Nat} {as : List AV} {H : AH} {k : AV → AH → R} (h : Sat (hFn X f fn np ss C as H k)) :
    ∃ lf v H', abody X C lf f as H = some (.val v H') ∧ Sat (k v H') := by
  rcases hFn_satP ms hfn h with h1 | ⟨_, _, _, _, h2⟩
  · exact h1
  · exact h2.elim

end

end Go.Aes
