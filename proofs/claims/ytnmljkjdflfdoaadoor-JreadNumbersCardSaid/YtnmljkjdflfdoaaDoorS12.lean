import Derived.Test.YtnmljkjdflfdoaaDoorS10
set_option linter.all false
set_option linter.unusedVariables false
set_option linter.unusedSimpArgs false
namespace Go.Aes
open Go.RowKit

/-! ### values without places in the heap; nobody appends to them -/
mutual
def AV.free : AV → Bool
  | .bool _ => true
  | .int _ _ => true
  | .str _ => true
  | .nilp => true
  | .ptr _ _ => false
  | .vptr r _ => AV.frees r
  | .sl rows tk => (match tk with
    | .own _ => false
    | _ => true) && AV.freess rows
  | .hsl _ _ _ _ _ _ => false
  | .map r => r.isNone
  | .it _ => false
  | .fn _ a b => AV.frees a && AV.frees b
  | .nilfn => true
  | .iface _ v => v.free
  | .nilif => true
  | .agg l => AV.frees l
  | .tup l => AV.frees l
def AV.frees : List AV → Bool
  | [] => true
  | a :: r => a.free && AV.frees r
def AV.freess : List (List AV) → Bool
  | [] => true
  | a :: r => AV.frees a && AV.freess r
end

def Tk.kill : Tk → Tk
  | .nil => .nil
  | _ => .dead

mutual
def AV.kill : AV → AV
  | .vptr r o => .vptr (AV.kills r) o
  | .sl rows tk => .sl (AV.killss rows) tk.kill
  | .fn f a b => .fn f (AV.kills a) (AV.kills b)
  | .iface t v => .iface t v.kill
  | .agg l => .agg (AV.kills l)
  | .tup l => .tup (AV.kills l)
  | .bool b => .bool b
  | .int k n => .int k n
  | .str s => .str s
  | .nilp => .nilp
  | .ptr i o => .ptr i o
  | .hsl i o n c s g => .hsl i o n c s g
  | .map r => .map r
  | .it i => .it i
  | .nilfn => .nilfn
  | .nilif => .nilif
def AV.kills : List AV → List AV
  | [] => []
  | a :: r => a.kill :: AV.kills r
def AV.killss : List (List AV) → List (List AV)
  | [] => []
  | a :: r => AV.kills a :: AV.killss r
end

theorem frees_all : ∀ (l : List AV), AV.frees l = true ↔ ∀ a ∈ l, a.free = true
  | [] => by simp [AV.frees]
  | a :: r => by simp [AV.frees, frees_all r]
theorem freess_all : ∀ (l : List (List AV)), AV.freess l = true ↔ ∀ r ∈ l, ∀ a ∈ r, a.free = true
  | [] => by simp [AV.freess]
  | a :: r => by simp [AV.freess, freess_all r, frees_all a]
theorem kills_map : ∀ (l : List AV), AV.kills l = l.map AV.kill
  | [] => rfl
  | a :: r => by simp [AV.kills, kills_map r]
theorem killss_map : ∀ (l : List (List AV)), AV.killss l = l.map (·.map AV.kill)
  | [] => rfl
  | a :: r => by simp [AV.killss, killss_map r, kills_map a]

theorem RV.kill {K : KC} {a : AV} {v : Value} (h : RV K a v) : RV K a.kill v := by
  induction h with
  | bool b => exact .bool b
  | int k n => exact .int k n
  | str s => exact .str s
  | nilp => exact .nilp
  | ptr i o b z hm => exact .ptr i o b z hm
  | vptr row o b d cv hF hv ih =>
    simp only [AV.kill, kills_map]
    refine .vptr _ o b d cv (fun j a e => ?_) (fun j a e => ?_)
    all_goals
      rw [List.getElem?_map, Option.map_eq_some_iff] at e
      obtain ⟨a', e1, rfl⟩ := e
    · exact hF j a' e1
    · exact ih j a' e1
  | slNil => exact .slNil
  | slE p tk ht => rcases ht with rfl | rfl <;> exact .slE p _ (.inl rfl)
  | sl rows tk b d c sz cv h0 hr hF hv hc ht ih =>
    have hk : tk.kill = .dead := by cases tk <;> first | rfl | exact ht.elim
    simp only [AV.kill, killss_map, hk]
    have key : ∀ (i : Nat) (r : List AV) (j : Nat) (a : AV), (rows.map (·.map AV.kill))[i]? = some r → r[j]? = some a → ∃ r' a', rows[i]? = some r' ∧ r'[j]? = some a' ∧ a = a'.kill := by
      intro i r j a e1 e2
      rw [List.getElem?_map, Option.map_eq_some_iff] at e1
      obtain ⟨r', e1, rfl⟩ := e1
      rw [List.getElem?_map, Option.map_eq_some_iff] at e2
      obtain ⟨a', e2, rfl⟩ := e2
      exact ⟨r', a', e1, e2, rfl⟩
    have := RV.sl (K := K) (rows.map (·.map AV.kill)) .dead b d c sz cv h0 (fun r hm => by
      obtain ⟨r', hm', rfl⟩ := List.mem_map.1 hm
      simpa using hr r' hm') (fun i r j a e1 e2 => by obtain ⟨r', a', g1, g2, rfl⟩ := key i r j a e1 e2; exact hF i r' j a' g1 g2)
      (fun i r j a e1 e2 => by obtain ⟨r', a', g1, g2, rfl⟩ := key i r j a e1 e2; exact ih i r' j a' g1 g2) (by simpa using hc) trivial
    simpa using this
  | hsl i o o' n c c' b z sz g hm hn hc hz ho => exact .hsl i o o' n c c' b z sz g hm hn hc hz ho
  | mapNil => exact .mapNil
  | map i b z hm => exact .map i b z hm
  | it i b z hm => exact .it i b z hm
  | fn f a c a' c' ha hc hav hcv ih1 ih2 =>
    simp only [AV.kill, kills_map]
    refine .fn f _ _ a' c' (by simpa using ha) (by simpa using hc) (fun j x v e e' => ?_) (fun j x v e e' => ?_)
    all_goals
      rw [List.getElem?_map, Option.map_eq_some_iff] at e
      obtain ⟨x', e1, rfl⟩ := e
    · exact ih1 j x' v e1 e'
    · exact ih2 j x' v e1 e'
  | nilfn => exact .nilfn
  | iface t v v' hx ih => exact .iface t _ v' ih
  | nilif => exact .nilif
  | agg cs cs' hl hv ih =>
    simp only [AV.kill, kills_map]
    refine .agg _ cs' (by simpa using hl) (fun j x v e e' => ?_)
    rw [List.getElem?_map, Option.map_eq_some_iff] at e
    obtain ⟨x', e1, rfl⟩ := e
    exact ih j x' v e1 e'
  | tup cs cs' hl hv ih =>
    simp only [AV.kill, kills_map]
    refine .tup _ cs' (by simpa using hl) (fun j x v e e' => ?_)
    rw [List.getElem?_map, Option.map_eq_some_iff] at e
    obtain ⟨x', e1, rfl⟩ := e
    exact ih j x' v e1 e'

theorem RV.free {K K' : KC} (hF : ∀ b o v, K.F b o = some v → K'.F b o = some v) {a : AV} {v : Value} (h : RV K a v) : a.free = true → RV K' a v := by
  induction h with
  | bool b => intro _; exact .bool b
  | int k n => intro _; exact .int k n
  | str s => intro _; exact .str s
  | nilp => intro _; exact .nilp
  | ptr i o b z hm => intro h; simp [AV.free] at h
  | vptr row o b d cv h1 hv ih =>
    intro h
    simp only [AV.free, frees_all] at h
    exact .vptr row o b d cv (fun j a e => hF _ _ _ (h1 j a e)) (fun j a e => ih j a e (h a (List.mem_of_getElem? e)))
  | slNil => intro _; exact .slNil
  | slE p tk ht => intro _; exact .slE p tk ht
  | sl rows tk b d c sz cv h0 hr h1 hv hc ht ih =>
    intro h
    simp only [AV.free, Bool.and_eq_true, freess_all] at h
    refine .sl rows tk b d c sz cv h0 hr (fun i r j a e e' => hF _ _ _ (h1 i r j a e e')) (fun i r j a e e' => ih i r j a e e' (h.2 r (List.mem_of_getElem? e) a (List.mem_of_getElem? e'))) hc ?_
    cases tk with
    | own t => simp at h
    | nil => exact ht
    | full => exact ht
    | dead => exact ht
  | hsl i o o' n c c' b z sz g hm hn hc hz ho => intro h; simp [AV.free] at h
  | mapNil => intro _; exact .mapNil
  | map i b z hm => intro h; simp [AV.free] at h
  | it i b z hm => intro h; simp [AV.free] at h
  | fn f a c a' c' ha hc hav hcv ih1 ih2 =>
    intro h
    simp only [AV.free, Bool.and_eq_true, frees_all] at h
    exact .fn f a c a' c' ha hc (fun j x v e e' => ih1 j x v e e' (h.1 x (List.mem_of_getElem? e))) (fun j x v e e' => ih2 j x v e e' (h.2 x (List.mem_of_getElem? e)))
  | nilfn => intro _; exact .nilfn
  | iface t v v' hx ih => intro h; simp only [AV.free] at h; exact .iface t v v' (ih h)
  | nilif => intro _; exact .nilif
  | agg cs cs' hl hv ih =>
    intro h
    simp only [AV.free, frees_all] at h
    exact .agg cs cs' hl (fun j x v e e' => ih j x v e e' (h x (List.mem_of_getElem? e)))
  | tup cs cs' hl hv ih =>
    intro h
    simp only [AV.free, frees_all] at h
    exact .tup cs cs' hl (fun j x v e e' => ih j x v e e' (h x (List.mem_of_getElem? e)))

theorem RL.free {K K' : KC} (hF : ∀ b o v, K.F b o = some v → K'.F b o = some v) {as : List AV} {vs : List Value} (h : RL K as vs) (ha : AV.frees as = true) : RL K' as vs :=
  ⟨h.len, fun j x v e e' => (h.at_ j x v e e').free hF ((frees_all as).1 ha x (List.mem_of_getElem? e))⟩

theorem RL.kill {K : KC} {as : List AV} {vs : List Value} (h : RL K as vs) : RL K (AV.kills as) vs :=
  ⟨by rw [kills_map, List.length_map]; exact h.len, fun j x v e e' => by
    rw [kills_map, List.getElem?_map, Option.map_eq_some_iff] at e
    obtain ⟨x', e1, rfl⟩ := e
    exact (h.at_ j x' v e1 e').kill⟩

/-- a call whose arguments have no place in the heap: worked out in an empty heap it holds in any, and leaves it alone -/
theorem pure_call {P : Program} {C : CallF} (hC : ∀ B W, CallOk P B W C) {g : Nat} {as : List AV} {v0 : AV} {He H' : AH} (hH : ∀ i, He.get i = none) (ha : AV.frees (AV.kills as) = true)
    (h : C g (AV.kills as) He = some (.val v0 H')) (hv : v0.kill.free = true) {B : Nat} {W w : World} {K : KC} {H : AH} {vs : List Value} (hw : RW B W K H w) (hl : RL K as vs) :
    Calls P g vs.toArray w (CPost B W K H (.val v0.kill H)) := by
  have hB : B ≤ w.heap.size := Nat.le_trans hw.le hw.below.size
  have hc := (hC w.heap.size w).call g (AV.kills as) He _ h ⟨K.F, fun _ => none, fun _ => none, fun b o => ∃ v, K.F b o = some v⟩ w vs
    { below := .refl _ _
      le := Nat.le_refl _
      fr := hw.fr
      obj := fun i o hg => by rw [hH] at hg; cases hg
      low := fun i b hb => by simp [own, hH] at hb
      sep := fun i j b hi hj => by simp [own, hH] at hi
      fresh := fun i _ => ⟨rfl, rfl⟩
      zz := fun b o v hf => .inr ⟨v, hf⟩ } (RL.free (K := K) (K' := ⟨K.F, fun _ => none, fun _ => none, fun b o => ∃ v, K.F b o = some v⟩) (fun _ _ _ h => h) hl.kill ha)
  refine hc.mono fun e w' hp => ?_
  cases e <;> simp only [CPost] at hp
  obtain ⟨K1, h1, h2, h3⟩ := hp
  have hZ : K1.Z = fun b o => ∃ v, K.F b o = some v := h3.le.Z
  have hold : ∀ b o, b < w.heap.size → K1.F b o = K.F b o := by
    intro b o hb
    cases hk : K.F b o with
    | some v => exact h3.le.F _ _ _ hk
    | none =>
      cases hk1 : K1.F b o with
      | none => rfl
      | some v =>
        rcases h2.zz b o v hk1 with h | h
        · omega
        · rw [hZ] at h
          obtain ⟨v', h⟩ := h
          rw [hk] at h; cases h
  have le : K.le ⟨K1.F, K.μ, K.τ, K.Z⟩ := ⟨h3.le.F, fun _ _ h => h, fun _ _ h => h, rfl⟩
  refine ⟨⟨K1.F, K.μ, K.τ, K.Z⟩, RV.free (K := K1) (K' := ⟨K1.F, K.μ, K.τ, K.Z⟩) (fun _ _ _ h => h) h1.kill hv, ?_, ⟨le, Nat.le_refl _, fun _ _ => ⟨rfl, rfl⟩⟩⟩
  exact {
    below := hw.below.trans (h2.below.mono hB)
    le := hw.le
    fr := h2.fr
    obj := fun i o hg => (hw.obj i o hg).keep le rfl rfl (fun b hb => ⟨h2.below.block b (hw.low i b (own_of hg hb)).2, fun o => hold b o (hw.low i b (own_of hg hb)).2⟩)
    low := fun i b hb => ⟨(hw.low i b hb).1, Nat.lt_of_lt_of_le (hw.low i b hb).2 h2.below.size⟩
    sep := hw.sep
    fresh := hw.fresh
    zz := fun b o v hf => by
      rcases Nat.lt_or_ge b w.heap.size with hb | hb
      · have hf' : K1.F b o = some v := hf
        rw [hold b o hb] at hf'
        exact hw.zz b o v hf'
      · exact .inl (Nat.le_trans hB hb) }

/-! ### functions that are called purely: a closed world -/
section
variable {X : Cx}

open Classical in
noncomputable def PO (X : Cx) (C : CallF) : CallF := fun g as H =>
  if h : AV.frees (AV.kills as) = true ∧ ∃ lf v0 H', abody X C lf g (AV.kills as) H0 = some (.val v0 H') ∧ v0.kill.free = true then some (.val h.2.choose_spec.choose.kill H) else none

theorem abody_det {C : CallF} {lf lf' g : Nat} {as : List AV} {H : AH} {r r' : Res} (h : abody X C lf g as H = some r) (h' : abody X C lf' g as H = some r') : r = r' := by
  have h1 := abody_mono (.refl C) (Nat.le_max_left lf lf') h
  have h2 := abody_mono (.refl C) (Nat.le_max_right lf lf') h'
  rw [h1] at h2
  exact Option.some.inj h2

theorem PO_mk {C : CallF} {lf g : Nat} {as : List AV} {v0 : AV} {H' H : AH} (ha : AV.frees (AV.kills as) = true) (h : abody X C lf g (AV.kills as) H0 = some (.val v0 H')) (hv : v0.kill.free = true) : PO X C g as H = some (.val v0.kill H) := by
  have hx : AV.frees (AV.kills as) = true ∧ ∃ lf v0 H', abody X C lf g (AV.kills as) H0 = some (.val v0 H') ∧ v0.kill.free = true := ⟨ha, lf, v0, H', h, hv⟩
  unfold PO
  rw [dif_pos hx]
  obtain ⟨H2, h2, _⟩ := hx.2.choose_spec.choose_spec
  have := abody_det h h2
  injection this with e1 e2
  rw [← e1]

theorem PO_inv {C : CallF} {g : Nat} {as : List AV} {H : AH} {r : Res} (h : PO X C g as H = some r) : AV.frees (AV.kills as) = true ∧ ∃ lf v0 H', abody X C lf g (AV.kills as) H0 = some (.val v0 H') ∧ v0.kill.free = true ∧ r = .val v0.kill H := by
  unfold PO at h
  split at h
  · rename_i hx
    injection h with h
    obtain ⟨H2, h2, h3⟩ := hx.2.choose_spec.choose_spec
    exact ⟨hx.1, _, _, H2, h2, h3, h.symm⟩
  · cases h

noncomputable def cN (X : Cx) (S : Nat → Bool) : Nat → CallF
  | 0 => fun _ _ _ => none
  | n + 1 => fun g as H => bif S g then PO X (cN X S n) g as H else abody X (cN X S n) n g as H

variable {S : Nat → Bool}

theorem cN_succ : ∀ n, Sub (cN X S n) (cN X S (n + 1))
  | 0, g, as, H, r, h => by simp [cN] at h
  | n + 1, g, as, H, r, h => by
    have h' : (bif S g then PO X (cN X S n) g as H else abody X (cN X S n) n g as H) = some r := h
    show (bif S g then PO X (cN X S (n + 1)) g as H else abody X (cN X S (n + 1)) (n + 1) g as H) = some r
    cases hs : S g with
    | true =>
      rw [hs] at h'
      simp only [cond_true] at h' ⊢
      obtain ⟨ha, lf, v0, H', h1, h2, rfl⟩ := PO_inv h'
      exact PO_mk ha (abody_mono (cN_succ n) (Nat.le_refl lf) h1) h2
    | false =>
      rw [hs] at h'
      simp only [cond_false] at h' ⊢
      exact abody_mono (cN_succ n) (Nat.le_succ n) h'

theorem cN_le {n m : Nat} (h : n ≤ m) : Sub (cN X S n) (cN X S m) := by
  induction h with
  | refl => exact .refl _
  | step h ih => exact fun g as H r hr => cN_succ _ g as H r (ih g as H r hr)

open Classical in
noncomputable def evp (X : Cx) (S : Nat → Bool) : CallF := fun g as H =>
  if h : ∃ r, ∃ n, cN X S n g as H = some r then some h.choose else none

theorem evp_iff {g : Nat} {as : List AV} {H : AH} {r : Res} : evp X S g as H = some r ↔ ∃ n, cN X S n g as H = some r := by
  unfold evp
  constructor
  · intro h
    split at h
    · rename_i hx
      injection h with h
      subst h
      exact hx.choose_spec
    · cases h
  · rintro ⟨n, hn⟩
    have hx : ∃ r, ∃ n, cN X S n g as H = some r := ⟨r, n, hn⟩
    rw [dif_pos hx]
    obtain ⟨m, hm⟩ := hx.choose_spec
    have h1 := cN_le (X := X) (S := S) (Nat.le_max_left n m) _ _ _ _ hn
    have h2 := cN_le (X := X) (S := S) (Nat.le_max_right n m) _ _ _ _ hm
    rw [h1] at h2
    exact h2.symm

theorem evp_lim : Lim (cN X S) (evp X S) := ⟨fun n m h => cN_le h, fun g as H r h => evp_iff.1 h⟩

theorem evp_body {lf g : Nat} {as : List AV} {H : AH} {r : Res} (hs : S g = false) (h : abody X (evp X S) lf g as H = some r) : evp X S g as H = some r := by
  obtain ⟨n, h1⟩ := abody_cont evp_lim h
  refine evp_iff.2 ⟨max n lf + 1, ?_⟩
  show (bif S g then PO X (cN X S (max n lf)) g as H else abody X (cN X S (max n lf)) (max n lf) g as H) = some r
  rw [hs]
  exact abody_mono (cN_le (Nat.le_max_left n lf)) (Nat.le_max_right n lf) h1

theorem evp_pure {lf g : Nat} {as : List AV} {v0 : AV} {H' : AH} (hs : S g = true) (ha : AV.frees (AV.kills as) = true) (h : abody X (evp X S) lf g (AV.kills as) H0 = some (.val v0 H')) (hv : v0.kill.free = true) (H : AH) : evp X S g as H = some (.val v0.kill H) := by
  obtain ⟨n, h1⟩ := abody_cont evp_lim h
  refine evp_iff.2 ⟨n + 1, ?_⟩
  show (bif S g then PO X (cN X S n) g as H else abody X (cN X S n) n g as H) = some _
  rw [hs]
  exact PO_mk ha h1 hv

theorem cN_ok {P : Program} (ok : PrOk X P) : ∀ n, ∀ B W, CallOk P B W (cN X S n)
  | 0, B, W => .none
  | n + 1, B, W => by
    have ih := cN_ok ok n
    have hb : ∀ lf B W, CallOk P B W (abody X (cN X S n) lf) := fun lf B W => abody_ok ok (ih B W) lf
    refine ⟨fun g as H r h => ?_, fun g as H r h => ?_⟩
    all_goals
      have h' : (bif S g then PO X (cN X S n) g as H else abody X (cN X S n) n g as H) = some r := h
      cases hs : S g with
      | true =>
        rw [hs] at h'
        simp only [cond_true] at h'
        obtain ⟨ha, lf, v0, H', h1, h2, rfl⟩ := PO_inv h'
        first
          | exact (hb lf B W).fn _ _ _ _ h1
          | exact fun K w vs hw hl => pure_call (hb lf) H0_get ha h1 h2 hw hl
      | false =>
        rw [hs] at h'
        simp only [cond_false] at h'
        first
          | exact (hb n B W).fn _ _ _ _ h'
          | exact (hb n B W).call _ _ _ _ h'

theorem evp_ok {P : Program} (ok : PrOk X P) (B : Nat) (W : World) : CallOk P B W (evp X S) :=
  CallOk.of_lim (Cs := cN X S) (fun n => cN_ok ok n B W) (fun g as H r h => evp_iff.1 h)

/-- out of a function's form: called as it is -/
theorem ap_form {g np : Nat} {fn : Func} {ss : List Nat} {c : CallF → List AV → AH → (AV → AH → Prop) → Prop} (he : hFn (R := Prop) X g fn np ss = c) (hfn : X.fn g = some fn) (hs : S g = false) {as : List AV} {H : AH}
    {Q : AV → AH → Prop} (h : c (evp X S) as H Q) : ∃ v H', evp X S g as H = some (.val v H') ∧ Q v H' := by
  subst he
  obtain ⟨lf, v, H', h1, h2⟩ := hFn_sat monP_ok hfn h
  exact ⟨v, H', evp_body hs h1, h2⟩

theorem ap_form_eq {g np : Nat} {fn : Func} {ss : List Nat} {c : CallF → List AV → AH → (AV → AH → Prop) → Prop} (he : hFn (R := Prop) X g fn np ss = c) (hfn : X.fn g = some fn) (hs : S g = false) {as : List AV} {H : AH}
    {v : AV} {H' : AH} (h : c (evp X S) as H (fun v' H'' => v' = v ∧ H'' = H')) : evp X S g as H = some (.val v H') := by
  obtain ⟨v', H'', h1, rfl, rfl⟩ := ap_form he hfn hs h
  exact h1

/-- called purely: worked off in the empty heap -/
theorem pu_form {g np : Nat} {fn : Func} {ss : List Nat} {c : CallF → List AV → AH → (AV → AH → Prop) → Prop} (he : hFn (R := Prop) X g fn np ss = c) (hfn : X.fn g = some fn) (hs : S g = true) {as : List AV} (ha : AV.frees (AV.kills as) = true)
    {v : AV} (hv : v.free = true) (h : c (evp X S) (AV.kills as) H0 (fun v' _ => v'.kill = v)) (H : AH) : evp X S g as H = some (.val v H) := by
  subst he
  obtain ⟨lf, v', H', h1, rfl⟩ := hFn_sat monP_ok hfn h
  exact evp_pure hs ha h1 hv H

/-- what is worked out holds of the program -/
theorem law_callsP {P : Program} (ok : PrOk X P) {g : Nat} {as : List AV} {vs : Array Value} {w : World} {H H' : AH} {b : Bool} (hH : ∀ i, H.get i = none)
    (ha : RL (K0 w) as vs.toList) (h : evp X S g as H = some (.val (.bool b) H')) : Calls P g vs w fun e w' => e = .returned (.bool b) ∧ Below w.heap.size w w' := by
  have hc := (evp_ok (S := S) ok w.heap.size w).call g as H _ h (K0 w) w vs.toList (RW.start w H hH) ha
  have : vs.toList.toArray = vs := by simp
  rw [this] at hc
  refine hc.mono fun e w' hp => ?_
  cases e <;> simp only [CPost] at hp
  obtain ⟨K', h1, h2, h3⟩ := hp
  have := h1.bool_inv
  subst this
  exact ⟨rfl, h2.below⟩

end

/-! ### a table of calls that were worked out -/
section
variable {X : Cx}

/-- one call, with what it gives -/
def PEnt (P : Program) (g : Nat) (as : List AV) (v : AV) : Prop :=
  (∃ fn, P.funcs[g]? = some fn ∧ (fn.name == "runtime.NumGoroutine") = false ∧ fn.body.isSome = true) ∧
  ∀ B W K H w vs, RW B W K H w → RL K as vs → Calls P g vs.toArray w (CPost B W K H (.val v H))

theorem PEnt.mk {P : Program} {C : CallF} (hC : ∀ B W, CallOk P B W C) {g : Nat} {as : List AV} {v v0 : AV} {He H' : AH} (hH : ∀ i, He.get i = none) (ha : AV.frees (AV.kills as) = true)
    (h : C g (AV.kills as) He = some (.val v0 H')) (hk : v0.kill = v) (hv : v.free = true) : PEnt P g as v := by
  subst hk
  exact ⟨(hC 0 default).fn _ _ _ _ h, fun B W K H w vs hw hl => pure_call hC hH ha h hv hw hl⟩

end
end Go.Aes
