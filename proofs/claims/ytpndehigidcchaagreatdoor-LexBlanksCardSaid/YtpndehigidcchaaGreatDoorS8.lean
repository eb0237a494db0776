import Derived.Test.YtpndehigidcchaaGreatDoorS7
set_option linter.all false
set_option linter.unusedVariables false
set_option linter.unusedSimpArgs false
namespace Go.Aes
open Go.RowKit
instance monP : Mon Prop := ⟨False, fun F l H => ∃ n, fixN False F n l H⟩
theorem monP_ok : MonOk Prop (fun p => p) := ⟨fun h => h, fun F l H h => h⟩
def big : Nat := 1000000000000
instance monE : Mon (Option Res) := ⟨none, fun F l H => fixN none F big l H⟩
theorem monE_ok (r : Res) : MonOk (Option Res) (fun x => x = some r) := ⟨fun h => (by cases h), fun F l H h => ⟨big, h⟩⟩
section
variable {X : Cx}
theorem abody_mono {C C' : CallF} (s : Sub C C') {lf lf' : Nat} (hl : lf ≤ lf') {g : Nat} {as : List AV} {H : AH} {r : Res} (h : abody X C lf g as H = some r) : abody X C' lf' g as H = some r := by
  unfold abody at h ⊢
  cases hf : X.fn g with
  | none => simp [hf] at h
  | some fn =>
    simp only [hf] at h ⊢
    cases hb : fn.body with
    | none => simp [hb] at h
    | some c =>
      simp only [hb] at h ⊢
      cases hn : (max fn.ntmps as.length).blt 100000 with
      | false => simp [hn] at h
      | true =>
        simp only [hn, Bool.not_true, cond_false] at h ⊢
        cases ha : acode X C g (max fn.ntmps as.length) lf c { fr := frame as 0 .leaf, H := H } with
        | none => simp [ha] at h
        | some p =>
          rw [acode_mono s hl c _ _ ha]
          rw [ha] at h
          exact h
structure Lim (Cs : Nat → CallF) (C : CallF) : Prop where
  le : ∀ n m, n ≤ m → Sub (Cs n) (Cs m)
  lim : ∀ g as H r, C g as H = some r → ∃ n, Cs n g as H = some r
theorem exec_cont {Cs : Nat → CallF} {C : CallF} (hl : Lim Cs C) {i : In} {H : AH} {r : Res} (h : exec X C i H = some r) : ∃ n, exec X (Cs n) i H = some r := by
  cases i <;> first | exact ⟨0, h⟩ | exact hl.lim _ _ _ _ h
theorem aops_cont {Cs : Nat → CallF} {C : CallF} (hl : Lim Cs C) {f nt : Nat} {all : List Oper} : ∀ (l : List Oper) (t : St) (r : Ex × St), aops X C f nt all l t = some r → ∃ n, aops X (Cs n) f nt all l t = some r
  | [], t, r, h => ⟨0, h⟩
  | o :: l, t, r, h => by
    simp only [aops] at h ⊢
    cases hd : dstOk nt o.dst with
    | false => simp [hd] at h
    | true =>
      simp only [hd, Bool.not_true, cond_false] at h ⊢
      cases hw : wantedB t.fr all o with
      | false =>
        simp only [hw, cond_false] at h ⊢
        exact aops_cont hl l _ r h
      | true =>
        simp only [hw, cond_true] at h ⊢
        cases hi : inst X f t.fr o with
        | none => simp [hi] at h
        | some i =>
          simp only [hi] at h ⊢
          cases he : exec X C i t.H with
          | none => simp [he] at h
          | some q =>
            obtain ⟨n1, h1⟩ := exec_cont hl he
            cases q with
            | val v H =>
              simp only [he] at h
              obtain ⟨n2, h2⟩ := aops_cont hl l _ r h
              refine ⟨max n1 n2, ?_⟩
              rw [exec_mono (hl.le _ _ (Nat.le_max_left n1 n2)) h1]
              exact aops_mono (hl.le _ _ (Nat.le_max_right n1 n2)) l _ _ h2
            | panic v H =>
              simp only [he] at h
              exact ⟨n1, by rw [h1]; exact h⟩
theorem dops_cont {Cs : Nat → CallF} {C : CallF} (hl : Lim Cs C) {f nt : Nat} {all : List Oper} : ∀ (l : List (Nat × Nat × Oper)) (effs : Nat) (log : List (Nat × In × AV)) (t : St) (r : Ex × St),
    dops X C f nt all l effs log t = some r → ∃ n, dops X (Cs n) f nt all l effs log t = some r
  | [], effs, log, t, r, h => ⟨0, h⟩
  | (j, anc, o) :: l, effs, log, t, r, h => by
    simp only [dops] at h ⊢
    cases hd : dstOk nt o.dst with
    | false => simp [hd] at h
    | true =>
      simp only [hd, Bool.not_true, cond_false] at h ⊢
      cases hw : wantedB t.fr all o with
      | false =>
        simp only [hw, cond_false] at h ⊢
        exact dops_cont hl l _ _ _ r h
      | true =>
        simp only [hw, cond_true] at h ⊢
        cases hi : inst X f t.fr o with
        | none => simp [hi] at h
        | some i =>
          simp only [hi] at h ⊢
          cases hb : (effs &&& anc).beq effs with
          | false => simp [hb] at h
          | true =>
            simp only [hb, Bool.not_true, cond_false] at h ⊢
            cases he : exec X C i t.H with
            | none => simp [he] at h
            | some q =>
              obtain ⟨n1, h1⟩ := exec_cont hl he
              cases q with
              | val v H =>
                simp only [he] at h
                cases hn : i.eff with
                | true =>
                  simp only [hn, cond_true] at h ⊢
                  cases hr : recheck X anc H log with
                  | false => simp [hr] at h
                  | true =>
                    simp only [hr, cond_true] at h
                    obtain ⟨n2, h2⟩ := dops_cont hl l _ _ _ r h
                    refine ⟨max n1 n2, ?_⟩
                    rw [exec_mono (hl.le _ _ (Nat.le_max_left n1 n2)) h1]
                    simp only [hr, cond_true]
                    exact dops_mono (hl.le _ _ (Nat.le_max_right n1 n2)) l _ _ _ _ h2
                | false =>
                  simp only [hn, cond_false] at h ⊢
                  obtain ⟨n2, h2⟩ := dops_cont hl l _ _ _ r h
                  refine ⟨max n1 n2, ?_⟩
                  rw [exec_mono (hl.le _ _ (Nat.le_max_left n1 n2)) h1]
                  exact dops_mono (hl.le _ _ (Nat.le_max_right n1 n2)) l _ _ _ _ h2
              | panic v H => simp [he] at h
theorem iter_cont {st : St → Option (Ex × St)} {sts : Nat → St → Option (Ex × St)} (hm : ∀ n m t r, n ≤ m → sts n t = some r → sts m t = some r) (hs : ∀ t r, st t = some r → ∃ n, sts n t = some r) :
    ∀ (k : Nat) (t : St) (r : Ex × St), iter st k t = some r → ∃ n, iter (sts n) k t = some r
  | 0, t, r, h => by simp [iter] at h
  | k + 1, t, r, h => by
    simp only [iter] at h ⊢
    cases h1 : st t with
    | none => simp [h1] at h
    | some p =>
      obtain ⟨n1, h2⟩ := hs _ _ h1
      obtain ⟨e, t'⟩ := p
      cases e with
      | normal =>
        simp only [h1] at h
        obtain ⟨n2, h3⟩ := iter_cont hm hs k t' r h
        refine ⟨max n1 n2, ?_⟩
        rw [hm _ _ _ _ (Nat.le_max_left n1 n2) h2]
        exact iter_mono (fun t r => hm _ _ t r (Nat.le_max_right n1 n2)) k k t' r (Nat.le_refl _) h3
      | exit id => simp only [h1] at h; exact ⟨n1, by rw [h2]; exact h⟩
      | ret => simp only [h1] at h; exact ⟨n1, by rw [h2]; exact h⟩
      | panic v => simp only [h1] at h; exact ⟨n1, by rw [h2]; exact h⟩
theorem acode_cont {Cs : Nat → CallF} {C : CallF} (hl : Lim Cs C) {f nt lf : Nat} : ∀ (c : Code) (t : St) (r : Ex × St), acode X C f nt lf c t = some r → ∃ n, acode X (Cs n) f nt lf c t = some r := by
  intro c
  induction c with
  | skip => intro t r h; exact ⟨0, h⟩
  | region id ops draw =>
    intro t r h
    simp only [acode, region] at h ⊢
    cases draw with
    | true => simp only [cond_true] at h ⊢; exact dops_cont hl _ _ _ _ _ h
    | false => simp only [cond_false] at h ⊢; exact aops_cont hl _ _ _ h
  | seq a b iha ihb =>
    intro t r h
    simp only [acode] at h ⊢
    cases h1 : acode X C f nt lf a t with
    | none => simp [h1] at h
    | some p =>
      obtain ⟨n1, h2⟩ := iha _ _ h1
      obtain ⟨e, t'⟩ := p
      cases e with
      | normal =>
        simp only [h1] at h
        obtain ⟨n2, h3⟩ := ihb _ _ h
        refine ⟨max n1 n2, ?_⟩
        rw [acode_mono (hl.le _ _ (Nat.le_max_left n1 n2)) (Nat.le_refl lf) a _ _ h2]
        exact acode_mono (hl.le _ _ (Nat.le_max_right n1 n2)) (Nat.le_refl lf) b _ _ h3
      | exit id => simp only [h1] at h; exact ⟨n1, by rw [h2]; exact h⟩
      | ret => simp only [h1] at h; exact ⟨n1, by rw [h2]; exact h⟩
      | panic v => simp only [h1] at h; exact ⟨n1, by rw [h2]; exact h⟩
  | cond c a b iha ihb =>
    intro t r h
    simp only [acode] at h ⊢
    split at h
    · exact iha _ _ h
    · exact ihb _ _ h
    · cases h
  | block id a iha =>
    intro t r h
    simp only [acode] at h ⊢
    cases h1 : acode X C f nt lf a t with
    | none => simp [h1] at h
    | some p =>
      obtain ⟨n1, h2⟩ := iha _ _ h1
      refine ⟨n1, ?_⟩
      rw [h2]
      rw [h1] at h
      exact h
  | loop a iha =>
    intro t r h
    simp only [acode] at h ⊢
    exact iter_cont (fun n m t r hnm => acode_mono (hl.le _ _ hnm) (Nat.le_refl lf) a t r) iha lf t r h
  | exit id => intro t r h; exact ⟨0, h⟩
  | ret => intro t r h; exact ⟨0, h⟩
  | scope a iha => intro t r h; simp only [acode] at h ⊢; exact iha t r h
  | label l => intro t r h; exact ⟨0, h⟩
  | _ => intro t r h; simp [acode] at h
theorem abody_cont {Cs : Nat → CallF} {C : CallF} (hl : Lim Cs C) {lf g : Nat} {as : List AV} {H : AH} {r : Res} (h : abody X C lf g as H = some r) : ∃ n, abody X (Cs n) lf g as H = some r := by
  unfold abody at h ⊢
  cases hf : X.fn g with
  | none => simp [hf] at h
  | some fn =>
    simp only [hf] at h ⊢
    cases hb : fn.body with
    | none => simp [hb] at h
    | some c =>
      simp only [hb] at h ⊢
      cases hn : (max fn.ntmps as.length).blt 100000 with
      | false => simp [hn] at h
      | true =>
        simp only [hn, Bool.not_true, cond_false] at h ⊢
        cases ha : acode X C g (max fn.ntmps as.length) lf c { fr := frame as 0 .leaf, H := H } with
        | none => simp [ha] at h
        | some p =>
          obtain ⟨n, h2⟩ := acode_cont hl c _ _ ha
          refine ⟨n, ?_⟩
          rw [h2]
          rw [ha] at h
          exact h
theorem CallOk.of_lim {P : Program} {B : Nat} {W : World} {C : CallF} {Cs : Nat → CallF} (h : ∀ n, CallOk P B W (Cs n)) (hl : ∀ g as H r, C g as H = some r → ∃ n, Cs n g as H = some r) : CallOk P B W C :=
  ⟨fun g as H r hr => by obtain ⟨n, hn⟩ := hl _ _ _ _ hr; exact (h n).fn g as H r hn, fun g as H r hr => by obtain ⟨n, hn⟩ := hl _ _ _ _ hr; exact (h n).call g as H r hn⟩
theorem CallOk.none {P : Program} {B : Nat} {W : World} : CallOk P B W (fun _ _ _ => none) := ⟨fun g as H r h => (by cases h), fun g as H r h => (by cases h)⟩
def orElse (O C : CallF) : CallF := fun g as H => match O g as H with
  | some r => some r
  | none => C g as H
theorem CallOk.orElse {P : Program} {B : Nat} {W : World} {O C : CallF} (h1 : CallOk P B W O) (h2 : CallOk P B W C) : CallOk P B W (orElse O C) := by
  refine ⟨fun g as H r h => ?_, fun g as H r h => ?_⟩
  all_goals
    unfold Aes.orElse at h
    cases ho : O g as H with
    | some q => rw [ho] at h; simp only [Option.some.injEq] at h; subst h; first | exact h1.fn _ _ _ _ ho | exact h1.call _ _ _ _ ho
    | none => rw [ho] at h; first | exact h2.fn _ _ _ _ h | exact h2.call _ _ _ _ h
def Tabs (X : Cx) (T : Nat → CallF → List AV → AH → Option Res) : Prop := ∀ g C as H r, T g C as H = some r → ∃ lf, abody X C lf g as H = some r
def cev (O : CallF) (T : Nat → CallF → List AV → AH → Option Res) : Nat → CallF
  | 0 => O
  | n + 1 => fun g as H => match O g as H with
    | some r => some r
    | none => T g (cev O T n) as H
theorem cev_ok {P : Program} {B : Nat} {W : World} {O : CallF} {T : Nat → CallF → List AV → AH → Option Res} (ok : PrOk X P) (ho : CallOk P B W O) (hT : Tabs X T) : ∀ n, CallOk P B W (cev O T n)
  | 0 => ho
  | n + 1 => by
    have ih := cev_ok ok ho hT n
    refine CallOk.orElse ho ⟨fun g as H r h => ?_, fun g as H r h => ?_⟩
    · obtain ⟨lf, h1⟩ := hT _ _ _ _ _ h
      exact (abody_ok ok ih lf).fn _ _ _ _ h1
    · obtain ⟨lf, h1⟩ := hT _ _ _ _ _ h
      exact (abody_ok ok ih lf).call _ _ _ _ h1
theorem tab_of {g np : Nat} {fn : Func} {ss : List Nat} {C : CallF} {as : List AV} {H : AH} {r : Res} (hfn : X.fn g = some fn)
    (h : hFn (R := Option Res) X g fn np ss C as H (fun v H => some (.val v H)) = some r) : ∃ lf, abody X C lf g as H = some r := by
  obtain ⟨lf, v, H', h1, h2⟩ := hFn_sat (monE_ok r) hfn h
  rw [← h2]
  exact ⟨lf, h1⟩
end
end Go.Aes
