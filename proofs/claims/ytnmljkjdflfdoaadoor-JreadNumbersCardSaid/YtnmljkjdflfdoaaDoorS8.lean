import Derived.Test.YtnmljkjdflfdoaaDoorS7
set_option linter.all false
set_option linter.unusedVariables false
set_option linter.unusedSimpArgs false
namespace Go.Aes
open Go.RowKit

/-! ### answers that are statements; answers that are computed -/
instance monP : Mon Prop := ⟨False, fun _ _ => False, fun F l H => ∃ n, fixN False F n l H⟩
theorem monP_ok : MonOk Prop (fun p => p) (fun _ _ => False) := ⟨fun h => h, fun _ _ h => h, fun F l H h => h⟩

/-- answers that are statements, what is so where it panics handed in -/
abbrev RP := (AV → AH → Prop) → Prop
instance monRP : Mon RP := ⟨fun _ => False, fun v H P => P v H, fun F l H P => ∃ n, fixN (fun _ => False) F n l H P⟩
theorem monRP_ok (P : AV → AH → Prop) : MonOk RP (fun p => p P) P := ⟨fun h => h, fun _ _ h => h, fun F l H h => h⟩

def big : Nat := 1000000000000
instance monE : Mon (Option Res) := ⟨none, fun v H => some (.panic v H), fun F l H => fixN none F big l H⟩
theorem monE_ok (r : Res) : MonOk (Option Res) (fun x => x = some r) (fun v H => r = .panic v H) := ⟨fun h => (by cases h), fun v H h => (Option.some.inj h).symm, fun F l H h => ⟨big, h⟩⟩

section
variable {X : Cx}

theorem abody_mono {C C' : CallF} (s : Sub C C') {lf lf' : Nat} (hl : lf ≤ lf') {g : Nat} {as : List AV} {H : AH} {r : Res} (h : abody X C lf g as H = some r) : abody X C' lf' g as H = some r := by
  unfold abody at h ⊢
  cases hf : X.fn g with
  | none => simp [hf] at h
  | some fn =>
    simp only [hf] at h ⊢
    cases hb : fn.body with
    | none => simp [hb] at h
    | some c =>
      simp only [hb] at h ⊢
      cases hn : (max fn.ntmps as.length).blt 100000 with
      | false => simp [hn] at h
      | true =>
        simp only [hn, Bool.not_true, cond_false] at h ⊢
        cases ha : acode X C g (max fn.ntmps as.length) lf c { fr := frame as 0 .leaf, H := H } with
        | none => simp [ha] at h
        | some p =>
          rw [acode_mono s hl c _ _ ha]
          rw [ha] at h
          exact h

/-! ### the limit of the calls; 'O' is asked first -/
def acallN (X : Cx) (O : CallF) : Nat → CallF
  | 0 => O
  | n + 1 => fun g as H => match O g as H with
    | some r => some r
    | none => abody X (acallN X O n) n g as H

theorem acallN_succ (O : CallF) : ∀ n, Sub (acallN X O n) (acallN X O (n + 1))
  | 0, g, as, H, r, h => by
    simp only [acallN] at h ⊢
    rw [h]
  | n + 1, g, as, H, r, h => by
    have h' : (match O g as H with
      | some r => some r
      | none => abody X (acallN X O n) n g as H) = some r := h
    show (match O g as H with
      | some r => some r
      | none => abody X (acallN X O (n + 1)) (n + 1) g as H) = some r
    cases ho : O g as H with
    | some q => rw [ho] at h'; exact h'
    | none =>
      rw [ho] at h'
      exact abody_mono (acallN_succ O n) (Nat.le_succ n) h'

theorem acallN_le (O : CallF) {n m : Nat} (h : n ≤ m) : Sub (acallN X O n) (acallN X O m) := by
  induction h with
  | refl => exact .refl _
  | step h ih => exact fun g as H r hr => acallN_succ O _ g as H r (ih g as H r hr)

open Classical in
noncomputable def evl (X : Cx) (O : CallF) : CallF := fun g as H =>
  if h : ∃ r, ∃ n, acallN X O n g as H = some r then some h.choose else none

theorem evl_iff {O : CallF} {g : Nat} {as : List AV} {H : AH} {r : Res} : evl X O g as H = some r ↔ ∃ n, acallN X O n g as H = some r := by
  unfold evl
  constructor
  · intro h
    split at h
    · rename_i hx
      injection h with h
      subst h
      exact hx.choose_spec
    · cases h
  · rintro ⟨n, hn⟩
    have hx : ∃ r, ∃ n, acallN X O n g as H = some r := ⟨r, n, hn⟩
    rw [dif_pos hx]
    obtain ⟨m, hm⟩ := hx.choose_spec
    have h1 := acallN_le (X := X) O (Nat.le_max_left n m) _ _ _ _ hn
    have h2 := acallN_le (X := X) O (Nat.le_max_right n m) _ _ _ _ hm
    rw [h1] at h2
    exact h2.symm

/-! ### what is found over the limit is found on the way -/
structure Lim (Cs : Nat → CallF) (C : CallF) : Prop where
  le : ∀ n m, n ≤ m → Sub (Cs n) (Cs m)
  lim : ∀ g as H r, C g as H = some r → ∃ n, Cs n g as H = some r

theorem exec_cont {Cs : Nat → CallF} {C : CallF} (hl : Lim Cs C) {i : In} {H : AH} {r : Res} (h : exec X C i H = some r) : ∃ n, exec X (Cs n) i H = some r := by
  cases i <;> first | exact ⟨0, h⟩ | exact hl.lim _ _ _ _ h

theorem aops_cont {Cs : Nat → CallF} {C : CallF} (hl : Lim Cs C) {f nt : Nat} {all : List Oper} : ∀ (l : List Oper) (t : St) (r : Ex × St), aops X C f nt all l t = some r → ∃ n, aops X (Cs n) f nt all l t = some r
  | [], t, r, h => ⟨0, h⟩
  | o :: l, t, r, h => by
    simp only [aops] at h ⊢
    cases hd : dstOk nt o.dst with
    | false => simp [hd] at h
    | true =>
      simp only [hd, Bool.not_true, cond_false] at h ⊢
      cases hw : wantedB t.fr all o with
      | false =>
        simp only [hw, cond_false] at h ⊢
        exact aops_cont hl l _ r h
      | true =>
        simp only [hw, cond_true] at h ⊢
        cases hi : inst X f t.fr o with
        | none => simp [hi] at h
        | some i =>
          simp only [hi] at h ⊢
          cases he : exec X C i t.H with
          | none => simp [he] at h
          | some q =>
            obtain ⟨n1, h1⟩ := exec_cont hl he
            cases q with
            | val v H =>
              simp only [he] at h
              obtain ⟨n2, h2⟩ := aops_cont hl l _ r h
              refine ⟨max n1 n2, ?_⟩
              rw [exec_mono (hl.le _ _ (Nat.le_max_left n1 n2)) h1]
              exact aops_mono (hl.le _ _ (Nat.le_max_right n1 n2)) l _ _ h2
            | panic v H =>
              simp only [he] at h
              exact ⟨n1, by rw [h1]; exact h⟩

theorem dops_cont {Cs : Nat → CallF} {C : CallF} (hl : Lim Cs C) {f nt : Nat} {all : List Oper} : ∀ (l : List (Nat × Nat × Oper)) (effs : Nat) (log : List (Nat × In × AV)) (t : St) (r : Ex × St),
    dops X C f nt all l effs log t = some r → ∃ n, dops X (Cs n) f nt all l effs log t = some r
  | [], effs, log, t, r, h => ⟨0, h⟩
  | (j, anc, o) :: l, effs, log, t, r, h => by
    simp only [dops] at h ⊢
    cases hd : dstOk nt o.dst with
    | false => simp [hd] at h
    | true =>
      simp only [hd, Bool.not_true, cond_false] at h ⊢
      cases hw : wantedB t.fr all o with
      | false =>
        simp only [hw, cond_false] at h ⊢
        exact dops_cont hl l _ _ _ r h
      | true =>
        simp only [hw, cond_true] at h ⊢
        cases hi : inst X f t.fr o with
        | none => simp [hi] at h
        | some i =>
          simp only [hi] at h ⊢
          cases hb : (effs &&& anc).beq effs with
          | false => simp [hb] at h
          | true =>
            simp only [hb, Bool.not_true, cond_false] at h ⊢
            cases he : exec X C i t.H with
            | none => simp [he] at h
            | some q =>
              obtain ⟨n1, h1⟩ := exec_cont hl he
              cases q with
              | val v H =>
                simp only [he] at h
                cases hn : i.eff with
                | true =>
                  simp only [hn, cond_true] at h ⊢
                  cases hr : recheck X anc H log with
                  | false => simp [hr] at h
                  | true =>
                    simp only [hr, cond_true] at h
                    obtain ⟨n2, h2⟩ := dops_cont hl l _ _ _ r h
                    refine ⟨max n1 n2, ?_⟩
                    rw [exec_mono (hl.le _ _ (Nat.le_max_left n1 n2)) h1]
                    simp only [hr, cond_true]
                    exact dops_mono (hl.le _ _ (Nat.le_max_right n1 n2)) l _ _ _ _ h2
                | false =>
                  simp only [hn, cond_false] at h ⊢
                  obtain ⟨n2, h2⟩ := dops_cont hl l _ _ _ r h
                  refine ⟨max n1 n2, ?_⟩
                  rw [exec_mono (hl.le _ _ (Nat.le_max_left n1 n2)) h1]
                  exact dops_mono (hl.le _ _ (Nat.le_max_right n1 n2)) l _ _ _ _ h2
              | panic v H =>
                simp only [he] at h
                exact ⟨n1, by rw [h1]; exact h⟩

theorem tops_cont {Cs : Nat → CallF} {C : CallF} (hl : Lim Cs C) {f nt : Nat} {all : List Oper} {L1 : List PO'} {a1 a2 s1 s2 : PO'} {t : St} {r : Ex × St} (h : tops X C f nt all L1 a1 a2 s1 s2 t = some r) : ∃ n, tops X (Cs n) f nt all L1 a1 a2 s1 s2 t = some r := by
  unfold tops at h
  cases hd : dops X C f nt all L1 0 [] t with
  | none => rw [hd] at h; cases h
  | some p =>
    obtain ⟨n, hn⟩ := dops_cont hl _ _ _ _ _ hd
    refine ⟨n, ?_⟩
    unfold tops
    rw [hn]
    rw [hd] at h
    exact h

theorem iter_cont {st : St → Option (Ex × St)} {sts : Nat → St → Option (Ex × St)} (hm : ∀ n m t r, n ≤ m → sts n t = some r → sts m t = some r) (hs : ∀ t r, st t = some r → ∃ n, sts n t = some r) :
    ∀ (k : Nat) (t : St) (r : Ex × St), iter st k t = some r → ∃ n, iter (sts n) k t = some r
  | 0, t, r, h => by simp [iter] at h
  | k + 1, t, r, h => by
    simp only [iter] at h ⊢
    cases h1 : st t with
    | none => simp [h1] at h
    | some p =>
      obtain ⟨n1, h2⟩ := hs _ _ h1
      obtain ⟨e, t'⟩ := p
      cases e with
      | normal =>
        simp only [h1] at h
        obtain ⟨n2, h3⟩ := iter_cont hm hs k t' r h
        refine ⟨max n1 n2, ?_⟩
        rw [hm _ _ _ _ (Nat.le_max_left n1 n2) h2]
        exact iter_mono (fun t r => hm _ _ t r (Nat.le_max_right n1 n2)) k k t' r (Nat.le_refl _) h3
      | exit id => simp only [h1] at h; exact ⟨n1, by rw [h2]; exact h⟩
      | ret => simp only [h1] at h; exact ⟨n1, by rw [h2]; exact h⟩
      | panic v => simp only [h1] at h; exact ⟨n1, by rw [h2]; exact h⟩

theorem acode_cont {Cs : Nat → CallF} {C : CallF} (hl : Lim Cs C) {f nt lf : Nat} : ∀ (c : Code) (t : St) (r : Ex × St), acode X C f nt lf c t = some r → ∃ n, acode X (Cs n) f nt lf c t = some r := by
  intro c
  induction c with
  | skip => intro t r h; exact ⟨0, h⟩
  | region id ops draw =>
    intro t r h
    simp only [acode, region] at h ⊢
    cases draw with
    | true =>
      simp only [cond_true] at h ⊢
      split at h
      · exact tops_cont hl h
      · exact dops_cont hl _ _ _ _ _ h
    | false => simp only [cond_false] at h ⊢; exact aops_cont hl _ _ _ h
  | seq a b iha ihb =>
    intro t r h
    simp only [acode] at h ⊢
    cases h1 : acode X C f nt lf a t with
    | none => simp [h1] at h
    | some p =>
      obtain ⟨n1, h2⟩ := iha _ _ h1
      obtain ⟨e, t'⟩ := p
      cases e with
      | normal =>
        simp only [h1] at h
        obtain ⟨n2, h3⟩ := ihb _ _ h
        refine ⟨max n1 n2, ?_⟩
        rw [acode_mono (hl.le _ _ (Nat.le_max_left n1 n2)) (Nat.le_refl lf) a _ _ h2]
        exact acode_mono (hl.le _ _ (Nat.le_max_right n1 n2)) (Nat.le_refl lf) b _ _ h3
      | exit id => simp only [h1] at h; exact ⟨n1, by rw [h2]; exact h⟩
      | ret => simp only [h1] at h; exact ⟨n1, by rw [h2]; exact h⟩
      | panic v => simp only [h1] at h; exact ⟨n1, by rw [h2]; exact h⟩
  | cond c a b iha ihb =>
    intro t r h
    simp only [acode] at h ⊢
    split at h
    · exact iha _ _ h
    · exact ihb _ _ h
    · cases h
  | block id a iha =>
    intro t r h
    simp only [acode] at h ⊢
    cases h1 : acode X C f nt lf a t with
    | none => simp [h1] at h
    | some p =>
      obtain ⟨n1, h2⟩ := iha _ _ h1
      refine ⟨n1, ?_⟩
      rw [h2]
      rw [h1] at h
      exact h
  | loop a iha =>
    intro t r h
    simp only [acode] at h ⊢
    exact iter_cont (fun n m t r hnm => acode_mono (hl.le _ _ hnm) (Nat.le_refl lf) a t r) iha lf t r h
  | exit id => intro t r h; exact ⟨0, h⟩
  | ret => intro t r h; exact ⟨0, h⟩
  | scope a iha => intro t r h; simp only [acode] at h ⊢; exact iha t r h
  | label l => intro t r h; exact ⟨0, h⟩
  | _ => intro t r h; simp [acode] at h

theorem abody_cont {Cs : Nat → CallF} {C : CallF} (hl : Lim Cs C) {lf g : Nat} {as : List AV} {H : AH} {r : Res} (h : abody X C lf g as H = some r) : ∃ n, abody X (Cs n) lf g as H = some r := by
  unfold abody at h ⊢
  cases hf : X.fn g with
  | none => simp [hf] at h
  | some fn =>
    simp only [hf] at h ⊢
    cases hb : fn.body with
    | none => simp [hb] at h
    | some c =>
      simp only [hb] at h ⊢
      cases hn : (max fn.ntmps as.length).blt 100000 with
      | false => simp [hn] at h
      | true =>
        simp only [hn, Bool.not_true, cond_false] at h ⊢
        cases ha : acode X C g (max fn.ntmps as.length) lf c { fr := frame as 0 .leaf, H := H } with
        | none => simp [ha] at h
        | some p =>
          obtain ⟨n, h2⟩ := acode_cont hl c _ _ ha
          refine ⟨n, ?_⟩
          rw [h2]
          rw [ha] at h
          exact h

theorem evl_lim (O : CallF) : Lim (acallN X O) (evl X O) := ⟨fun n m h => acallN_le O h, fun g as H r h => evl_iff.1 h⟩

theorem evl_body {O : CallF} {lf g : Nat} {as : List AV} {H : AH} {r : Res} (ho : O g as H = none) (h : abody X (evl X O) lf g as H = some r) : evl X O g as H = some r := by
  obtain ⟨n, h1⟩ := abody_cont (evl_lim O) h
  refine evl_iff.2 ⟨max n lf + 1, ?_⟩
  show (match O g as H with
      | some r => some r
      | none => abody X (acallN X O (max n lf)) (max n lf) g as H) = some r
  rw [ho]
  exact abody_mono (acallN_le O (Nat.le_max_left n lf)) (Nat.le_max_right n lf) h1

theorem evl_O {O : CallF} {g : Nat} {as : List AV} {H : AH} {r : Res} (ho : O g as H = some r) : evl X O g as H = some r := evl_iff.2 ⟨0, ho⟩

theorem CallOk.of_lim {P : Program} {B : Nat} {W : World} {C : CallF} {Cs : Nat → CallF} (h : ∀ n, CallOk P B W (Cs n)) (hl : ∀ g as H r, C g as H = some r → ∃ n, Cs n g as H = some r) : CallOk P B W C :=
  ⟨fun g as H r hr => by obtain ⟨n, hn⟩ := hl _ _ _ _ hr; exact (h n).fn g as H r hn, fun g as H r hr => by obtain ⟨n, hn⟩ := hl _ _ _ _ hr; exact (h n).call g as H r hn⟩

theorem CallOk.none {P : Program} {B : Nat} {W : World} : CallOk P B W (fun _ _ _ => none) := ⟨fun g as H r h => (by cases h), fun g as H r h => (by cases h)⟩

/-- one asked first, then another -/
def orElse (O C : CallF) : CallF := fun g as H => match O g as H with
  | some r => some r
  | none => C g as H

theorem CallOk.orElse {P : Program} {B : Nat} {W : World} {O C : CallF} (h1 : CallOk P B W O) (h2 : CallOk P B W C) : CallOk P B W (orElse O C) := by
  refine ⟨fun g as H r h => ?_, fun g as H r h => ?_⟩
  all_goals
    unfold Aes.orElse at h
    cases ho : O g as H with
    | some q => rw [ho] at h; simp only [Option.some.injEq] at h; subst h; first | exact h1.fn _ _ _ _ ho | exact h1.call _ _ _ _ ho
    | none => rw [ho] at h; first | exact h2.fn _ _ _ _ h | exact h2.call _ _ _ _ h

theorem evl_ok {P : Program} {B : Nat} {W : World} {O : CallF} (ok : PrOk X P) (ho : CallOk P B W O) : CallOk P B W (evl X O) := by
  refine CallOk.of_lim (Cs := acallN X O) (fun n => ?_) (fun g as H r h => evl_iff.1 h)
  induction n with
  | zero => exact ho
  | succ n ih => exact CallOk.orElse ho (abody_ok ok ih n)

/-- a function, by what its form says -/
theorem evl_prop {O : CallF} {g np : Nat} {fn : Func} {ss : List Nat} {as : List AV} {H : AH} {Q : AV → AH → Prop} (hfn : X.fn g = some fn) (ho : O g as H = none)
    (h : hFn (R := Prop) X g fn np ss (evl X O) as H Q) : ∃ v H', evl X O g as H = some (.val v H') ∧ Q v H' := by
  obtain ⟨lf, v, H', h1, h2⟩ := hFn_sat monP_ok hfn h
  exact ⟨v, H', evl_body ho h1, h2⟩

/-- a function that may panic -/
theorem evl_propP {O : CallF} {g np : Nat} {fn : Func} {ss : List Nat} {as : List AV} {H : AH} {Q PP : AV → AH → Prop} (hfn : X.fn g = some fn) (ho : O g as H = none)
    (h : hFn (R := RP) X g fn np ss (evl X O) as H (fun v H' _ => Q v H') PP) : (∃ v H', evl X O g as H = some (.val v H') ∧ Q v H') ∨ ∃ v H', evl X O g as H = some (.panic v H') ∧ PP v H' := by
  rcases hFn_satP (monRP_ok PP) hfn h with ⟨lf, v, H', h1, h2⟩ | ⟨lf, v, H', h1, h2⟩
  · exact .inl ⟨v, H', evl_body ho h1, h2⟩
  · exact .inr ⟨v, H', evl_body ho h1, h2⟩

/-! ### computed -/
def Tabs (X : Cx) (T : Nat → CallF → List AV → AH → Option Res) : Prop := ∀ g C as H r, T g C as H = some r → ∃ lf, abody X C lf g as H = some r

def cev (O : CallF) (T : Nat → CallF → List AV → AH → Option Res) : Nat → CallF
  | 0 => O
  | n + 1 => fun g as H => match O g as H with
    | some r => some r
    | none => T g (cev O T n) as H

theorem cev_ok {P : Program} {B : Nat} {W : World} {O : CallF} {T : Nat → CallF → List AV → AH → Option Res} (ok : PrOk X P) (ho : CallOk P B W O) (hT : Tabs X T) : ∀ n, CallOk P B W (cev O T n)
  | 0 => ho
  | n + 1 => by
    have ih := cev_ok ok ho hT n
    refine CallOk.orElse ho ⟨fun g as H r h => ?_, fun g as H r h => ?_⟩
    · obtain ⟨lf, h1⟩ := hT _ _ _ _ _ h
      exact (abody_ok ok ih lf).fn _ _ _ _ h1
    · obtain ⟨lf, h1⟩ := hT _ _ _ _ _ h
      exact (abody_ok ok ih lf).call _ _ _ _ h1

theorem tab_of {g np : Nat} {fn : Func} {ss : List Nat} {C : CallF} {as : List AV} {H : AH} {r : Res} (hfn : X.fn g = some fn)
    (h : hFn (R := Option Res) X g fn np ss C as H (fun v H => some (.val v H)) = some r) : ∃ lf, abody X C lf g as H = some r := by
  rcases hFn_satP (monE_ok r) hfn h with ⟨lf, v, H', h1, h2⟩ | ⟨lf, v, H', h1, h2⟩
  · rw [← h2]
    exact ⟨lf, h1⟩
  · rw [h2]
    exact ⟨lf, h1⟩

end
end Go.Aes
