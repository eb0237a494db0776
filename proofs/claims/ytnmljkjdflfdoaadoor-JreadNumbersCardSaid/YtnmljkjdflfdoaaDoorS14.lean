import Derived.Test.YtnmljkjdflfdoaaDoorS12
import Derived.Test.YtnmljkjdflfdoaaDoorS9
set_option linter.all false
set_option linter.unusedVariables false
set_option linter.unusedSimpArgs false
namespace Go.Aes
open Go.RowKit

/-! ### calls that are computed -/
abbrev Form := CallF → List AV → AH → (AV → AH → Option Res) → Option Res

structure FmOk (X : Cx) (g : Nat) (f : Form) : Prop where
  ok : ∃ (fn : Func) (np : Nat) (ss : List Nat), X.fn g = some fn ∧ hFn (R := Option Res) X g fn np ss = f

theorem FmOk.mk' {X : Cx} {g np : Nat} {fn : Func} {ss : List Nat} {f : Form} (h1 : X.fn g = some fn) (h2 : hFn (R := Option Res) X g fn np ss = f) : FmOk X g f := ⟨fn, np, ss, h1, h2⟩

def runT (t : Tr Form) : Nat → CallF → List AV → AH → Option Res := fun g C as H =>
  match t.get g with
  | some f => f C as H (fun v H => some (.val v H))
  | none => none

theorem tabs_of {X : Cx} {t : Tr Form} {l : List (Nat × Form)} (ht : t = ofList l) (hb : (l.all fun p => p.1.blt 1000000000) = true) (h : All (FmOk X) l) : Tabs X (runT t) := by
  intro g C as H r hr
  unfold runT at hr
  cases hg : t.get g with
  | none => rw [hg] at hr; cases hr
  | some f =>
    rw [hg] at hr
    obtain ⟨fn, np, ss, h1, h2⟩ := (h.mem (ofList_get hb (ht ▸ hg))).ok
    subst h2
    exact tab_of h1 hr

/-- the empty heap, to compute with -/
def HT : AH := .tr .leaf 0
theorem HT_get (i : Nat) : HT.get i = none := Tr.get_leaf i

/-! ### a table of calls -/
structure Ent where
  g : Nat
  as : List AV
  v : AV

def tabO (l : List Ent) : CallF := fun g as H =>
  match l with
  | [] => none
  | e :: r => bif g.beq e.g && beqVs (AV.kills as) e.as then some (.val e.v H) else tabO r g as H

def EntOk' (P : Program) (e : Ent) : Prop := PEnt P e.g e.as e.v

theorem tabO_ok {P : Program} : ∀ (l : List Ent), (∀ e ∈ l, PEnt P e.g e.as e.v) → ∀ B W, CallOk P B W (tabO l)
  | [], _, B, W => .none
  | e :: r, h, B, W => by
    have he := h e (by simp)
    have ih := tabO_ok r (fun x hx => h x (by simp [hx])) B W
    refine ⟨fun g as H q hq => ?_, fun g as H q hq => ?_⟩
    all_goals
      unfold tabO at hq
      cases hb : (g.beq e.g && beqVs (AV.kills as) e.as) with
      | true =>
        rw [hb] at hq
        simp only [cond_true, Option.some.injEq] at hq
        subst hq
        simp only [Bool.and_eq_true, Nat.beq_eq] at hb
        obtain ⟨h1, h2⟩ := hb
        subst h1
        have h3 := beqVs_sound _ _ h2
        first
          | exact he.1
          | exact fun K w vs hw hl => he.2 B W K H w vs hw (by rw [← h3]; exact hl.kill)
      | false =>
        rw [hb] at hq
        simp only [cond_false] at hq
        first
          | exact ih.fn _ _ _ _ hq
          | exact ih.call _ _ _ _ hq

/-- a call that was computed -/
def givesB (r : Option Res) (v : AV) : Bool :=
  match r with
  | some (.val w _) => beqV w.kill v
  | _ => false

theorem PEnt.comp {X : Cx} {P : Program} (ok : PrOk X P) {T : Nat → CallF → List AV → AH → Option Res} (hT : Tabs X T) {l : List Ent} (hl : ∀ e ∈ l, PEnt P e.g e.as e.v) {n g : Nat} {as : List AV} {v : AV}
    (ha : AV.frees (AV.kills as) = true) (hv : v.free = true) (h : givesB (cev (tabO l) T n g (AV.kills as) HT) v = true) : PEnt P g as v := by
  cases hr : cev (tabO l) T n g (AV.kills as) HT with
  | none => rw [hr] at h; cases h
  | some r =>
    cases r with
    | panic a b => rw [hr] at h; cases h
    | val w H' =>
      rw [hr] at h
      have e := beqV_sound _ _ h
      exact PEnt.mk (fun B W => cev_ok ok (tabO_ok l hl B W) hT n) HT_get ha hr e hv

/-- what is computed holds of the program -/
theorem law_callsC {P : Program} {C : CallF} (hC : ∀ B W, CallOk P B W C) {g : Nat} {as : List AV} {vs : Array Value} {w : World} {H H' : AH} {b : Bool} (hH : ∀ i, H.get i = none)
    (ha : RL (K0 w) as vs.toList) (h : C g as H = some (.val (.bool b) H')) : Calls P g vs w fun e w' => e = .returned (.bool b) ∧ Below w.heap.size w w' := by
  have hc := (hC w.heap.size w).call g as H _ h (K0 w) w vs.toList (RW.start w H hH) ha
  have : vs.toList.toArray = vs := by simp
  rw [this] at hc
  refine hc.mono fun e w' hp => ?_
  cases e <;> simp only [CPost] at hp
  obtain ⟨K', h1, h2, h3⟩ := hp
  have := h1.bool_inv
  subst this
  exact ⟨rfl, h2.below⟩

/-- true, as it was computed -/
def okT (r : Option Res) : Bool :=
  match r with
  | some (.val (.bool b) _) => b
  | _ => false

theorem okT_inv {r : Option Res} (h : okT r = true) : ∃ H', r = some (.val (.bool true) H') := by
  cases r with
  | none => cases h
  | some q =>
    cases q with
    | panic a b => cases h
    | val v H' =>
      cases v <;> first | (cases h; done) | skip
      rename_i b
      cases b
      · cases h
      · exact ⟨H', rfl⟩

def kk : AV → AH → Option Res := fun v H => some (.val v H)

end Go.Aes
