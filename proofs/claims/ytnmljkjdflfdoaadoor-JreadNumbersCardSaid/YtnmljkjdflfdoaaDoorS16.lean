import Derived.Test.YtnmljkjdflfdoaaDoorS13
import Derived.Test.YtnmljkjdflfdoaaDoorS14
set_option linter.all false
set_option linter.unusedVariables false
set_option linter.unusedSimpArgs false
namespace Go.Aes
open Go.RowKit

/-! ### contracts that are asked first; what the first heap holds -/
/-- what the heap below B holds, and goes on to hold -/
structure TbOk (Tb : Nat → World → Prop) : Prop where
  mono : ∀ B W w, Tb B W → Below B W w → B ≤ W.heap.size → Tb w.heap.size w

theorem TbOk.at_ {Tb : Nat → World → Prop} (h : TbOk Tb) {B : Nat} {W w : World} {K : KC} {H : AH} (ht : Tb B W) (hw : RW B W K H w) : Tb w.heap.size w := h.mono B W w ht hw.below hw.le

/-- a call whose arguments have no place in the heap: as 'pure_call' -/
theorem pure_callT {P : Program} {Tb : Nat → World → Prop} (hT : TbOk Tb) {C : CallF} (hC : ∀ B W, Tb B W → CallOk P B W C) {g : Nat} {as : List AV} {v0 : AV} {He H' : AH} (hH : ∀ i, He.get i = none) (ha : AV.frees (AV.kills as) = true)
    (h : C g (AV.kills as) He = some (.val v0 H')) (hv : v0.kill.free = true) {B : Nat} {W w : World} {K : KC} {H : AH} {vs : List Value} (ht : Tb B W) (hw : RW B W K H w) (hl : RL K as vs) :
    Calls P g vs.toArray w (CPost B W K H (.val v0.kill H)) := by
  have hB : B ≤ w.heap.size := Nat.le_trans hw.le hw.below.size
  have hc := (hC w.heap.size w (hT.at_ ht hw)).call g (AV.kills as) He _ h ⟨K.F, fun _ => none, fun _ => none, fun b o => ∃ v, K.F b o = some v⟩ w vs
    { below := .refl _ _
      le := Nat.le_refl _
      fr := hw.fr
      obj := fun i o hg => by rw [hH] at hg; cases hg
      low := fun i b hb => by simp [own, hH] at hb
      sep := fun i j b hi hj => by simp [own, hH] at hi
      fresh := fun i _ => ⟨rfl, rfl⟩
      zz := fun b o v hf => .inr ⟨v, hf⟩ } (RL.free (K := K) (K' := ⟨K.F, fun _ => none, fun _ => none, fun b o => ∃ v, K.F b o = some v⟩) (fun _ _ _ h => h) hl.kill ha)
  refine hc.mono fun e w' hp => ?_
  cases e <;> simp only [CPost] at hp
  obtain ⟨K1, h1, h2, h3⟩ := hp
  have hZ : K1.Z = fun b o => ∃ v, K.F b o = some v := h3.le.Z
  have hold : ∀ b o, b < w.heap.size → K1.F b o = K.F b o := by
    intro b o hb
    cases hk : K.F b o with
    | some v => exact h3.le.F _ _ _ hk
    | none =>
      cases hk1 : K1.F b o with
      | none => rfl
      | some v =>
        rcases h2.zz b o v hk1 with h | h
        · omega
        · rw [hZ] at h
          obtain ⟨v', h⟩ := h
          rw [hk] at h; cases h
  have le : K.le ⟨K1.F, K.μ, K.τ, K.Z⟩ := ⟨h3.le.F, fun _ _ h => h, fun _ _ h => h, rfl⟩
  refine ⟨⟨K1.F, K.μ, K.τ, K.Z⟩, RV.free (K := K1) (K' := ⟨K1.F, K.μ, K.τ, K.Z⟩) (fun _ _ _ h => h) h1.kill hv, ?_, ⟨le, Nat.le_refl _, fun _ _ => ⟨rfl, rfl⟩⟩⟩
  exact {
    below := hw.below.trans (h2.below.mono hB)
    le := hw.le
    fr := h2.fr
    obj := fun i o hg => (hw.obj i o hg).keep le rfl rfl (fun b hb => ⟨h2.below.block b (hw.low i b (own_of hg hb)).2, fun o => hold b o (hw.low i b (own_of hg hb)).2⟩)
    low := fun i b hb => ⟨(hw.low i b hb).1, Nat.lt_of_lt_of_le (hw.low i b hb).2 h2.below.size⟩
    sep := hw.sep
    fresh := hw.fresh
    zz := fun b o v hf => by
      rcases Nat.lt_or_ge b w.heap.size with hb | hb
      · have hf' : K1.F b o = some v := hf
        rw [hold b o hb] at hf'
        exact hw.zz b o v hf'
      · exact .inl (Nat.le_trans hB hb) }

/-- a call that leaves what there was: the answer has no place in the heap -/
theorem call_below {P : Program} {g : Nat} {v : AV} {x : Value} {B : Nat} {W w : World} {K : KC} {H : AH} {vs : Array Value} (hv : ∀ K, RV K v x) (hw : RW B W K H w)
    (h : Calls P g vs w fun e w' => e = .returned x ∧ Below w.heap.size w w') : Calls P g vs w (CPost B W K H (.val v H)) := by
  have hB : B ≤ w.heap.size := Nat.le_trans hw.le hw.below.size
  refine h.mono fun e w' ⟨he, hb⟩ => ?_
  subst he
  refine ⟨K, hv K, ?_, .refl K H⟩
  exact {
    below := hw.below.trans (hb.mono hB)
    le := hw.le
    fr := fun b o v hf => by rw [World.cell?_of_block (hb.block b (hw.F_lt hf))]; exact hw.fr b o v hf
    obj := fun i o hg => (hw.obj i o hg).keep (.refl K) rfl rfl (fun b hb' => ⟨hb.block b (hw.low i b (own_of hg hb')).2, fun o => rfl⟩)
    low := fun i b hb' => ⟨(hw.low i b hb').1, Nat.lt_of_lt_of_le (hw.low i b hb').2 hb.size⟩
    sep := hw.sep
    fresh := hw.fresh
    zz := hw.zz }

section
variable {X : Cx}

theorem frzC_mono {Z : Nat → Bool} {C C' : CallF} {g : Nat} {as : List AV} {H : AH} (h : ∀ r, C g as H = some r → C' g as H = some r) {r : Res} (hr : frzC Z C g as H = some r) : frzC Z C' g as H = some r := by
  unfold frzC at hr ⊢
  cases hz : Z g with
  | false => rw [hz] at hr; exact h r hr
  | true =>
    rw [hz] at hr
    obtain ⟨q, hq, rfl⟩ := Option.map_eq_some_iff.1 hr
    simp only [cond_true]
    rw [h q hq]; rfl

noncomputable def cO (X : Cx) (D : Nat → Bool) (O : CallF) (S Z : Nat → Bool) : Nat → CallF
  | 0 => fun _ _ _ => none
  | n + 1 => fun g as H => bif D g then O g as H else bif S g && AV.frees (AV.kills as) then PO X (cO X D O S Z n) g as H else frzC Z (abody X (cO X D O S Z n) n) g as H

variable {D : Nat → Bool} {O : CallF} {S Z : Nat → Bool}

theorem cO_succ : ∀ n, Sub (cO X D O S Z n) (cO X D O S Z (n + 1))
  | 0, g, as, H, r, h => by simp [cO] at h
  | n + 1, g, as, H, r, h => by
    have h' : (bif D g then O g as H else bif S g && AV.frees (AV.kills as) then PO X (cO X D O S Z n) g as H else frzC Z (abody X (cO X D O S Z n) n) g as H) = some r := h
    show (bif D g then O g as H else bif S g && AV.frees (AV.kills as) then PO X (cO X D O S Z (n + 1)) g as H else frzC Z (abody X (cO X D O S Z (n + 1)) (n + 1)) g as H) = some r
    cases hd : D g with
    | true => rw [hd] at h'; exact h'
    | false =>
      rw [hd] at h'
      simp only [cond_false] at h' ⊢
      cases hs : (S g && AV.frees (AV.kills as)) with
      | true =>
        rw [hs] at h'
        simp only [cond_true] at h' ⊢
        obtain ⟨ha, lf, v0, H', h1, h2, rfl⟩ := PO_inv h'
        exact PO_mk ha (abody_mono (cO_succ n) (Nat.le_refl lf) h1) h2
      | false =>
        rw [hs] at h'
        simp only [cond_false] at h' ⊢
        exact frzC_mono (fun r hr => abody_mono (cO_succ n) (Nat.le_succ n) hr) h'

theorem cO_le {n m : Nat} (h : n ≤ m) : Sub (cO X D O S Z n) (cO X D O S Z m) := by
  induction h with
  | refl => exact .refl _
  | step h ih => exact fun g as H r hr => cO_succ _ g as H r (ih g as H r hr)

open Classical in
noncomputable def evZ (X : Cx) (D : Nat → Bool) (O : CallF) (S Z : Nat → Bool) : CallF := fun g as H =>
  if h : ∃ r, ∃ n, cO X D O S Z n g as H = some r then some h.choose else none

/-- no lists that are frozen -/
noncomputable abbrev evO (X : Cx) (D : Nat → Bool) (O : CallF) (S : Nat → Bool) : CallF := evZ X D O S (fun _ => false)

theorem evO_iff {g : Nat} {as : List AV} {H : AH} {r : Res} : evZ X D O S Z g as H = some r ↔ ∃ n, cO X D O S Z n g as H = some r := by
  unfold evZ
  constructor
  · intro h
    split at h
    · rename_i hx
      injection h with h
      subst h
      exact hx.choose_spec
    · cases h
  · rintro ⟨n, hn⟩
    have hx : ∃ r, ∃ n, cO X D O S Z n g as H = some r := ⟨r, n, hn⟩
    rw [dif_pos hx]
    obtain ⟨m, hm⟩ := hx.choose_spec
    have h1 := cO_le (X := X) (D := D) (O := O) (S := S) (Z := Z) (Nat.le_max_left n m) _ _ _ _ hn
    have h2 := cO_le (X := X) (D := D) (O := O) (S := S) (Z := Z) (Nat.le_max_right n m) _ _ _ _ hm
    rw [h1] at h2
    exact h2.symm

theorem evO_lim : Lim (cO X D O S Z) (evZ X D O S Z) := ⟨fun n m h => cO_le h, fun g as H r h => evO_iff.1 h⟩

theorem evZ_O {g : Nat} {as : List AV} {H : AH} {r : Res} (hd : D g = true) (h : O g as H = some r) : evZ X D O S Z g as H = some r := by
  refine evO_iff.2 ⟨1, ?_⟩
  show (bif D g then O g as H else _) = some r
  rw [hd]
  exact h

theorem evZ_body' {lf g : Nat} {as : List AV} {H : AH} {r : Res} (hd : D g = false) (hs : (S g && AV.frees (AV.kills as)) = false) (h : abody X (evZ X D O S Z) lf g as H = some r) : evZ X D O S Z g as H = some (bif Z g then frzR r else r) := by
  obtain ⟨n, h1⟩ := abody_cont evO_lim h
  refine evO_iff.2 ⟨max n lf + 1, ?_⟩
  show (bif D g then O g as H else bif S g && AV.frees (AV.kills as) then PO X (cO X D O S Z (max n lf)) g as H else frzC Z (abody X (cO X D O S Z (max n lf)) (max n lf)) g as H) = some (bif Z g then frzR r else r)
  rw [hd, hs]
  have h2 := abody_mono (cO_le (X := X) (D := D) (O := O) (S := S) (Z := Z) (Nat.le_max_left n lf)) (Nat.le_max_right n lf) h1
  show frzC Z (abody X (cO X D O S Z (max n lf)) (max n lf)) g as H = _
  unfold frzC
  cases Z g with
  | true => simp only [cond_true]; rw [h2]; rfl
  | false => simp only [cond_false]; exact h2

theorem evZ_body {lf g : Nat} {as : List AV} {H : AH} {r : Res} (hd : D g = false) (hs : (S g && AV.frees (AV.kills as)) = false) (h : abody X (evZ X D O S Z) lf g as H = some r) (hz : Z g = false) : evZ X D O S Z g as H = some r := by
  have := evZ_body' hd hs h
  rw [hz] at this
  exact this

theorem evZ_pure {lf g : Nat} {as : List AV} {v0 : AV} {H' : AH} (hd : D g = false) (hs : S g = true) (ha : AV.frees (AV.kills as) = true) (h : abody X (evZ X D O S Z) lf g (AV.kills as) H0 = some (.val v0 H')) (hv : v0.kill.free = true) (H : AH) :
    evZ X D O S Z g as H = some (.val v0.kill H) := by
  obtain ⟨n, h1⟩ := abody_cont evO_lim h
  refine evO_iff.2 ⟨n + 1, ?_⟩
  show (bif D g then O g as H else bif S g && AV.frees (AV.kills as) then PO X (cO X D O S Z n) g as H else frzC Z (abody X (cO X D O S Z n) n) g as H) = some _
  rw [hd, hs, ha]
  exact PO_mk ha h1 hv

theorem cO_ok {P : Program} {Tb : Nat → World → Prop} (hT : TbOk Tb) (hO : ∀ B W, Tb B W → CallOk P B W O) (ok : PrOk X P) : ∀ n, ∀ B W, Tb B W → CallOk P B W (cO X D O S Z n)
  | 0, B, W, _ => .none
  | n + 1, B, W, ht => by
    have ih := cO_ok hT hO ok n
    have hb : ∀ lf B W, Tb B W → CallOk P B W (abody X (cO X D O S Z n) lf) := fun lf B W h => abody_ok ok (ih B W h) lf
    have hbz : ∀ lf B W, Tb B W → CallOk P B W (frzC Z (abody X (cO X D O S Z n) lf)) := fun lf B W h => frzC_ok (hb lf B W h)
    refine ⟨fun g as H r h => ?_, fun g as H r h => ?_⟩
    all_goals
      have h' : (bif D g then O g as H else bif S g && AV.frees (AV.kills as) then PO X (cO X D O S Z n) g as H else frzC Z (abody X (cO X D O S Z n) n) g as H) = some r := h
      cases hd : D g with
      | true =>
        rw [hd] at h'
        first
          | exact (hO B W ht).fn _ _ _ _ h'
          | exact (hO B W ht).call _ _ _ _ h'
      | false =>
        rw [hd] at h'
        simp only [cond_false] at h'
        cases hs : (S g && AV.frees (AV.kills as)) with
        | true =>
          rw [hs] at h'
          simp only [cond_true] at h'
          obtain ⟨ha, lf, v0, H', h1, h2, rfl⟩ := PO_inv h'
          first
            | exact (hb lf B W ht).fn _ _ _ _ h1
            | exact fun K w vs hw hl => pure_callT hT (hb lf) H0_get ha h1 h2 ht hw hl
        | false =>
          rw [hs] at h'
          simp only [cond_false] at h'
          first
            | exact (hbz n B W ht).fn _ _ _ _ h'
            | exact (hbz n B W ht).call _ _ _ _ h'

theorem evZ_ok {P : Program} {Tb : Nat → World → Prop} (hT : TbOk Tb) (hO : ∀ B W, Tb B W → CallOk P B W O) (ok : PrOk X P) (B : Nat) (W : World) (ht : Tb B W) : CallOk P B W (evZ X D O S Z) :=
  CallOk.of_lim (Cs := cO X D O S Z) (fun n => cO_ok hT hO ok n B W ht) (fun g as H r h => evO_iff.1 h)

/-- out of a function's form: called as it is -/
theorem az_form {g np : Nat} {fn : Func} {ss : List Nat} {c : CallF → List AV → AH → (AV → AH → Prop) → Prop} (he : hFn (R := Prop) X g fn np ss = c) (hfn : X.fn g = some fn) {al : List AV} {H : AH} (hd : D g = false) (hs : (S g && AV.frees (AV.kills al)) = false)
    {Q : AV → AH → Prop} (h : c (evZ X D O S Z) al H Q) (hz : Z g = false := by rfl) : ∃ v H', evZ X D O S Z g al H = some (.val v H') ∧ Q v H' := by
  subst he
  obtain ⟨lf, v, H', h1, h2⟩ := hFn_sat monP_ok hfn h
  exact ⟨v, H', evZ_body hd hs h1 hz, h2⟩

theorem az_form_eq {g np : Nat} {fn : Func} {ss : List Nat} {c : CallF → List AV → AH → (AV → AH → Prop) → Prop} (he : hFn (R := Prop) X g fn np ss = c) (hfn : X.fn g = some fn) {al : List AV} {H : AH} (hd : D g = false) (hs : (S g && AV.frees (AV.kills al)) = false)
    {v : AV} {H' : AH} (h : c (evZ X D O S Z) al H (fun v' H'' => v' = v ∧ H'' = H')) (hz : Z g = false := by rfl) : evZ X D O S Z g al H = some (.val v H') := by
  obtain ⟨v', H'', h1, rfl, rfl⟩ := az_form he hfn hd hs h hz
  exact h1

/-- called as it is; it may panic -/
theorem pz_form {g np : Nat} {fn : Func} {ss : List Nat} {c : CallF → List AV → AH → (AV → AH → RP) → RP} (he : hFn (R := RP) X g fn np ss = c) (hfn : X.fn g = some fn) {al : List AV} {H : AH} (hd : D g = false) (hs : (S g && AV.frees (AV.kills al)) = false)
    {Q PP : AV → AH → Prop} (h : c (evZ X D O S Z) al H (fun v H' _ => Q v H') PP) (hz : Z g = false := by rfl) : (∃ v H', evZ X D O S Z g al H = some (.val v H') ∧ Q v H') ∨ ∃ v H', evZ X D O S Z g al H = some (.panic v H') ∧ PP v H' := by
  subst he
  rcases hFn_satP (monRP_ok PP) hfn h with ⟨lf, v, H', h1, h2⟩ | ⟨lf, v, H', h1, h2⟩
  · exact .inl ⟨v, H', evZ_body hd hs h1 hz, h2⟩
  · exact .inr ⟨v, H', evZ_body hd hs h1 hz, h2⟩

/-- .. its lists are held in the hand from then on -/
theorem panz_form {g np : Nat} {fn : Func} {ss : List Nat} {c : CallF → List AV → AH → (AV → AH → RP) → RP} (he : hFn (R := RP) X g fn np ss = c) (hfn : X.fn g = some fn) {al : List AV} {H : AH} (hd : D g = false) (hs : (S g && AV.frees (AV.kills al)) = false) (hz : Z g = true)
    {Q PP : AV → AH → Prop} (h : c (evZ X D O S Z) al H (fun v H' _ => ∃ cs, v = .agg cs ∧ Q (.agg (frzL cs H').1) (frzL cs H').2) PP) : (∃ v H', evZ X D O S Z g al H = some (.val v H') ∧ Q v H') ∨ ∃ v H', evZ X D O S Z g al H = some (.panic v H') ∧ PP v H' := by
  subst he
  rcases hFn_satP (monRP_ok PP) hfn h with ⟨lf, v, H', h1, cs, rfl, h2⟩ | ⟨lf, v, H', h1, h2⟩
  · refine .inl ⟨_, _, ?_, h2⟩
    have := evZ_body' hd hs h1
    rw [hz] at this
    exact this
  · refine .inr ⟨v, H', ?_, h2⟩
    have := evZ_body' hd hs h1
    rw [hz] at this
    exact this

/-- called purely: worked off in the empty heap -/
theorem uz_form {g np : Nat} {fn : Func} {ss : List Nat} {c : CallF → List AV → AH → (AV → AH → Prop) → Prop} (he : hFn (R := Prop) X g fn np ss = c) (hfn : X.fn g = some fn) (hd : D g = false) (hs : S g = true) {al : List AV} (ha : AV.frees (AV.kills al) = true)
    {v : AV} (hv : v.free = true) (h : c (evZ X D O S Z) (AV.kills al) H0 (fun v' _ => v'.kill = v)) (H : AH) : evZ X D O S Z g al H = some (.val v H) := by
  subst he
  obtain ⟨lf, v', H', h1, rfl⟩ := hFn_sat monP_ok hfn h
  exact evZ_pure hd hs ha h1 hv H

theorem uz_form_ex {g np : Nat} {fn : Func} {ss : List Nat} {c : CallF → List AV → AH → (AV → AH → Prop) → Prop} (he : hFn (R := Prop) X g fn np ss = c) (hfn : X.fn g = some fn) (hd : D g = false) (hs : S g = true) {al : List AV} (ha : AV.frees (AV.kills al) = true)
    {Q : AV → Prop} (h : c (evZ X D O S Z) (AV.kills al) H0 (fun v' _ => v'.kill.free = true ∧ Q v'.kill)) : ∃ v, Q v ∧ ∀ H, evZ X D O S Z g al H = some (.val v H) := by
  subst he
  obtain ⟨lf, v', H', h1, h2, h3⟩ := hFn_sat monP_ok hfn h
  exact ⟨v'.kill, h3, fun H => evZ_pure hd hs ha h1 h2 H⟩

/-- what is worked out holds of the program -/
theorem law_callsZ {P : Program} {Tb : Nat → World → Prop} (hT : TbOk Tb) (hO : ∀ B W, Tb B W → CallOk P B W O) (ok : PrOk X P) {g : Nat} {as : List AV} {vs : Array Value} {w : World} {H H' : AH} {b : Bool} (ht : Tb w.heap.size w) (hH : ∀ i, H.get i = none)
    (ha : RL (K0 w) as vs.toList) (h : evZ X D O S Z g as H = some (.val (.bool b) H')) : Calls P g vs w fun e w' => e = .returned (.bool b) ∧ Below w.heap.size w w' := by
  have hc := (evZ_ok (S := S) (Z := Z) (D := D) hT hO ok w.heap.size w ht).call g as H _ h (K0 w) w vs.toList (RW.start w H hH) ha
  have : vs.toList.toArray = vs := by simp
  rw [this] at hc
  refine hc.mono fun e w' hp => ?_
  cases e <;> simp only [CPost] at hp
  obtain ⟨K', h1, h2, h3⟩ := hp
  have := h1.bool_inv
  subst this
  exact ⟨rfl, h2.below⟩
end

/-! ### the same where no lists are frozen -/
section
variable {X : Cx} {D : Nat → Bool} {O : CallF} {S : Nat → Bool}
theorem evO_O {g : Nat} {as : List AV} {H : AH} {r : Res} (hd : D g = true) (h : O g as H = some r) : evO X D O S g as H = some r := evZ_O hd h
theorem evO_body {lf g : Nat} {as : List AV} {H : AH} {r : Res} (hd : D g = false) (hs : (S g && AV.frees (AV.kills as)) = false) (h : abody X (evO X D O S) lf g as H = some r) : evO X D O S g as H = some r := evZ_body hd hs h rfl
theorem evO_pure {lf g : Nat} {as : List AV} {v0 : AV} {H' : AH} (hd : D g = false) (hs : S g = true) (ha : AV.frees (AV.kills as) = true) (h : abody X (evO X D O S) lf g (AV.kills as) H0 = some (.val v0 H')) (hv : v0.kill.free = true) (H : AH) :
    evO X D O S g as H = some (.val v0.kill H) := evZ_pure hd hs ha h hv H
theorem evO_ok {P : Program} {Tb : Nat → World → Prop} (hT : TbOk Tb) (hO : ∀ B W, Tb B W → CallOk P B W O) (ok : PrOk X P) (B : Nat) (W : World) (ht : Tb B W) : CallOk P B W (evO X D O S) := evZ_ok hT hO ok B W ht
theorem ao_form {g np : Nat} {fn : Func} {ss : List Nat} {c : CallF → List AV → AH → (AV → AH → Prop) → Prop} (he : hFn (R := Prop) X g fn np ss = c) (hfn : X.fn g = some fn) {al : List AV} {H : AH} (hd : D g = false) (hs : (S g && AV.frees (AV.kills al)) = false)
    {Q : AV → AH → Prop} (h : c (evO X D O S) al H Q) : ∃ v H', evO X D O S g al H = some (.val v H') ∧ Q v H' := az_form he hfn hd hs h rfl
theorem ao_form_eq {g np : Nat} {fn : Func} {ss : List Nat} {c : CallF → List AV → AH → (AV → AH → Prop) → Prop} (he : hFn (R := Prop) X g fn np ss = c) (hfn : X.fn g = some fn) {al : List AV} {H : AH} (hd : D g = false) (hs : (S g && AV.frees (AV.kills al)) = false)
    {v : AV} {H' : AH} (h : c (evO X D O S) al H (fun v' H'' => v' = v ∧ H'' = H')) : evO X D O S g al H = some (.val v H') := az_form_eq he hfn hd hs h rfl
theorem uo_form {g np : Nat} {fn : Func} {ss : List Nat} {c : CallF → List AV → AH → (AV → AH → Prop) → Prop} (he : hFn (R := Prop) X g fn np ss = c) (hfn : X.fn g = some fn) (hd : D g = false) (hs : S g = true) {al : List AV} (ha : AV.frees (AV.kills al) = true)
    {v : AV} (hv : v.free = true) (h : c (evO X D O S) (AV.kills al) H0 (fun v' _ => v'.kill = v)) (H : AH) : evO X D O S g al H = some (.val v H) := uz_form he hfn hd hs ha hv h H
theorem uo_form_ex {g np : Nat} {fn : Func} {ss : List Nat} {c : CallF → List AV → AH → (AV → AH → Prop) → Prop} (he : hFn (R := Prop) X g fn np ss = c) (hfn : X.fn g = some fn) (hd : D g = false) (hs : S g = true) {al : List AV} (ha : AV.frees (AV.kills al) = true)
    {Q : AV → Prop} (h : c (evO X D O S) (AV.kills al) H0 (fun v' _ => v'.kill.free = true ∧ Q v'.kill)) : ∃ v, Q v ∧ ∀ H, evO X D O S g al H = some (.val v H) := uz_form_ex he hfn hd hs ha h
theorem law_callsO {P : Program} {Tb : Nat → World → Prop} (hT : TbOk Tb) (hO : ∀ B W, Tb B W → CallOk P B W O) (ok : PrOk X P) {g : Nat} {as : List AV} {vs : Array Value} {w : World} {H H' : AH} {b : Bool} (ht : Tb w.heap.size w) (hH : ∀ i, H.get i = none)
    (ha : RL (K0 w) as vs.toList) (h : evO X D O S g as H = some (.val (.bool b) H')) : Calls P g vs w fun e w' => e = .returned (.bool b) ∧ Below w.heap.size w w' := law_callsZ (S := S) (Z := fun _ => false) (D := D) hT hO ok ht hH ha h
end

/-! ### calls that are computed, contracts asked first -/
/-- one call, with what it gives, where the heap holds its tables -/
def PEntT (P : Program) (Tb : Nat → World → Prop) (g : Nat) (as : List AV) (v : AV) : Prop :=
  (∃ fn, P.funcs[g]? = some fn ∧ (fn.name == "runtime.NumGoroutine") = false ∧ fn.body.isSome = true) ∧
  ∀ B W K H w vs, Tb B W → RW B W K H w → RL K as vs → Calls P g vs.toArray w (CPost B W K H (.val v H))

theorem PEntT.mk {P : Program} {Tb : Nat → World → Prop} (hT : TbOk Tb) {C : CallF} (hC : ∀ B W, Tb B W → CallOk P B W C) {g : Nat} {as : List AV} {v v0 : AV} {He H' : AH}
    (hfn : ∃ fn, P.funcs[g]? = some fn ∧ (fn.name == "runtime.NumGoroutine") = false ∧ fn.body.isSome = true) (hH : ∀ i, He.get i = none) (ha : AV.frees (AV.kills as) = true)
    (h : C g (AV.kills as) He = some (.val v0 H')) (hk : v0.kill = v) (hv : v.free = true) : PEntT P Tb g as v := by
  subst hk
  exact ⟨hfn, fun B W K H w vs ht hw hl => pure_callT hT hC hH ha h hv ht hw hl⟩

/-- a call that was computed -/
theorem PEntT.comp {X : Cx} {P : Program} (ok : PrOk X P) {Tb : Nat → World → Prop} (hT : TbOk Tb) {O : CallF} (hO : ∀ B W, Tb B W → CallOk P B W O) {T : Nat → CallF → List AV → AH → Option Res} (hTab : Tabs X T) {n g : Nat} {as : List AV} {v : AV}
    (hfn : ∃ fn, P.funcs[g]? = some fn ∧ (fn.name == "runtime.NumGoroutine") = false ∧ fn.body.isSome = true)
    (ha : AV.frees (AV.kills as) = true) (hv : v.free = true) (h : givesB (cev O T n g (AV.kills as) HT) v = true) : PEntT P Tb g as v := by
  cases hr : cev O T n g (AV.kills as) HT with
  | none => rw [hr] at h; cases h
  | some r =>
    cases r with
    | panic a b => rw [hr] at h; cases h
    | val w H' =>
      rw [hr] at h
      have e := beqV_sound _ _ h
      exact PEntT.mk hT (fun B W ht => cev_ok ok (hO B W ht) hTab n) hfn HT_get ha hr e hv

theorem tabO_okT {P : Program} {Tb : Nat → World → Prop} {B : Nat} {W : World} (ht : Tb B W) : ∀ (l : List Ent), (∀ e ∈ l, PEntT P Tb e.g e.as e.v) → CallOk P B W (tabO l)
  | [], _ => .none
  | e :: r, h => by
    have he := h e (by simp)
    have ih := tabO_okT ht r (fun x hx => h x (by simp [hx]))
    refine ⟨fun g as H q hq => ?_, fun g as H q hq => ?_⟩
    all_goals
      unfold tabO at hq
      cases hb : (g.beq e.g && beqVs (AV.kills as) e.as) with
      | true =>
        rw [hb] at hq
        simp only [cond_true, Option.some.injEq] at hq
        subst hq
        simp only [Bool.and_eq_true, Nat.beq_eq] at hb
        obtain ⟨h1, h2⟩ := hb
        subst h1
        have h3 := beqVs_sound _ _ h2
        first
          | exact he.1
          | exact fun K w vs hw hl => he.2 B W K H w vs ht hw (by rw [← h3]; exact hl.kill)
      | false =>
        rw [hb] at hq
        simp only [cond_false] at hq
        first
          | exact ih.fn _ _ _ _ hq
          | exact ih.call _ _ _ _ hq

/-- two sets of contracts, the first asked first -/
def orO (D : Nat → Bool) (O O' : CallF) : CallF := fun g as H => bif D g then O g as H else O' g as H
theorem orO_ok {P : Program} {B : Nat} {W : World} {D : Nat → Bool} {O O' : CallF} (h : CallOk P B W O) (h' : CallOk P B W O') : CallOk P B W (orO D O O') := by
  refine ⟨fun g as H q hq => ?_, fun g as H q hq => ?_⟩
  all_goals
    unfold orO at hq
    cases hd : D g with
    | true =>
      rw [hd] at hq
      first
        | exact h.fn _ _ _ _ hq
        | exact h.call _ _ _ _ hq
    | false =>
      rw [hd] at hq
      first
        | exact h'.fn _ _ _ _ hq
        | exact h'.call _ _ _ _ hq

end Go.Aes
