import Derived.Test.YtgmifbbimcblcaaO16
set_option linter.all false
set_option linter.unusedVariables false
set_option linter.unusedSimpArgs false
namespace Go.Aes
open Go.RowKit

structure TyE where
  und : TypeDesc
  size : Nat
  bytes : Nat
  zero : Option AV

def aggD : TypeDesc → Bool
  | .struct _ => true
  | .array _ _ => true
  | _ => false

def Cx.of (ft : Tr Func) (tt : Tr TyE) (hm : Nat → Nat → Bool) : Cx where
  fn := ft.get
  und := fun t => (tt.get t).map TyE.und
  zero := fun t => match tt.get t with
    | some e => e.zero.map AV.cells
    | none => none
  size := fun t => (tt.get t).map TyE.size
  bytes := fun t => (tt.get t).map TyE.bytes
  ext := fun _ _ _ => none
  hm := hm

def ofList {α : Type} : List (Nat × α) → Tr α
  | [] => .leaf
  | (k, v) :: r => Tr.put (some v) 40 (ofList r) k

theorem ofList_get {α : Type} : ∀ {l : List (Nat × α)} {k : Nat} {v : α}, (l.all fun p => p.1.blt 1000000000) = true → (ofList l).get k = some v → (k, v) ∈ l
  | [], k, v, _, h => by rw [ofList, Tr.get_leaf] at h; cases h
  | (k', v') :: r, k, v, hb, h => by
    simp only [List.all_cons, Bool.and_eq_true, Nat.blt_eq] at hb
    rw [ofList, Tr.get_put (some v') 40 (ofList r) k' k (by omega)] at h
    by_cases e : k = k'
    · rw [if_pos e] at h
      injection h with h
      rw [e, h]
      exact List.mem_cons_self
    · rw [if_neg e] at h
      exact List.mem_cons_of_mem _ (ofList_get hb.2 h)

/-- of each entry of a list -/
inductive All {α : Type} (p : Nat → α → Prop) : List (Nat × α) → Prop where
  | nil : All p []
  | cons {k : Nat} {v : α} {l : List (Nat × α)} (h : p k v) (r : All p l) : All p ((k, v) :: l)

theorem All.mem {α : Type} {p : Nat → α → Prop} {l : List (Nat × α)} (h : All p l) {k : Nat} {v : α} (hm : (k, v) ∈ l) : p k v := by
  induction h with
  | nil => cases hm
  | cons h r ih =>
    rcases List.mem_cons.1 hm with e | hm
    · injection e with e1 e2
      rw [e1, e2]; exact h
    · exact ih hm

theorem All.append {α : Type} {p : Nat → α → Prop} {l m : List (Nat × α)} (h : All p l) (k : All p m) : All p (l ++ m) := by
  induction h with
  | nil => exact k
  | cons h r ih => exact .cons h ih

def zeroB (d : TypeDesc) (z : Option AV) : Bool :=
  match z with
  | none => true
  | some a => match aggD d, a with
    | true, .agg _ => true
    | false, a => one a
    | _, _ => false

structure TyOk (P : Program) (tt : Tr TyE) (k : Nat) (e : TyE) : Prop where
  info : ∃ i, P.types[k]? = some i ∧ i.size = e.size ∧ i.bytes = e.bytes ∧ (match e.zero with
    | none => True
    | some a => i.zero.bind ofV = some a)
  und : P.underlying k = some e.und
  zero : zeroB e.und e.zero = true
  fields : (match e.und with
    | .struct fs => fs.toList.all fun f => (tt.get f.type).isSome
    | _ => true) = true

structure FnOk (P : Program) (k : Nat) (fn : Func) : Prop where
  isf : P.funcs[k]? = some fn
  name : (fn.name == "runtime.NumGoroutine") = false
  code : (match fn.body with
    | some c => codeOk c
    | none => true) = true

theorem info_of {P : Program} {t : Nat} {i : TypeInfo} (h : P.types[t]? = some i) : P.info? t = some i := by
  unfold Tables.info?
  rw [if_pos (Array.getElem?_eq_some_iff.1 h).1, h]

theorem isAgg_of {ft : Tr Func} {tt : Tr TyE} {hm : Nat → Nat → Bool} {t : Nat} {e : TyE} (h : tt.get t = some e) : (Cx.of ft tt hm).isAgg t = some (aggD e.und) := by
  unfold Cx.isAgg
  simp only [Cx.of, h, Option.map_some]
  cases e.und <;> rfl

theorem PrOk.of {P : Program} {ft : Tr Func} {tt : Tr TyE} {hm : Nat → Nat → Bool} {fs : List (Nat × Func)} {ts : List (Nat × TyE)} (hft : ft = ofList fs) (htt : tt = ofList ts)
    (bf : (fs.all fun p => p.1.blt 1000000000) = true) (bt : (ts.all fun p => p.1.blt 1000000000) = true) (hf : All (FnOk P) fs) (ht : All (TyOk P tt) ts) (mixed : P.follows .mixedOrders = true) : PrOk (Cx.of ft tt hm) P := by
  have hf' : ∀ k fn, ft.get k = some fn → FnOk P k fn := fun k fn h => hf.mem (ofList_get bf (hft ▸ h))
  have ht' : ∀ k e, tt.get k = some e → TyOk P tt k e := fun k e h => ht.mem (ofList_get bt (by rw [← htt]; exact h))
  have und : ∀ t d, (Cx.of ft tt hm).und t = some d → ∃ e, tt.get t = some e ∧ e.und = d := by
    intro t d h
    obtain ⟨e, h1, h2⟩ := Option.map_eq_some_iff.1 h
    exact ⟨e, h1, h2⟩
  refine ⟨⟨fun f fn h => ⟨(hf' f fn h).isf, (hf' f fn h).name⟩, ?_, ?_, ?_, ?_, ?_, mixed⟩, ?_⟩
  · intro t d h
    obtain ⟨e, h1, h2⟩ := und t d h
    rw [← h2]; exact (ht' t e h1).und
  · intro t n h
    obtain ⟨e, h1, h2⟩ := Option.map_eq_some_iff.1 h
    obtain ⟨i, g1, g2, g3, g4⟩ := (ht' t e h1).info
    exact ⟨i, info_of g1, by rw [g2, h2]⟩
  · intro t n h
    obtain ⟨e, h1, h2⟩ := Option.map_eq_some_iff.1 h
    obtain ⟨i, g1, g2, g3, g4⟩ := (ht' t e h1).info
    exact ⟨i, info_of g1, by rw [g3, h2]⟩
  · intro t z h
    simp only [Cx.of] at h
    cases he : tt.get t with
    | none => simp [he] at h
    | some e =>
      simp only [he] at h
      obtain ⟨a, h1, h2⟩ := Option.map_eq_some_iff.1 h
      obtain ⟨i, g1, g2, g3, g4⟩ := (ht' t e he).info
      have hz := (ht' t e he).zero
      rw [h1] at g4
      simp only [] at g4
      obtain ⟨v, g5, g6⟩ := Option.bind_eq_some_iff.1 g4
      have hag := isAgg_of (ft := ft) (hm := hm) he
      refine ⟨i, v, a, info_of g1, g5, g6, h2, fun hA => ?_, fun hA => ?_, by rw [hag]; simp⟩
      · have hA' := hag.symm.trans hA
        injection hA' with hA'
        rw [h1] at hz
        simp only [zeroB, hA'] at hz
        cases a <;> simp [one] at hz
        exact ⟨_, rfl⟩
      · have hA' := hag.symm.trans hA
        injection hA' with hA'
        rw [h1] at hz
        simpa only [zeroB, hA'] using hz
  · intro t fs' h f hfm
    obtain ⟨e, h1, h2⟩ := und t _ h
    have h3 := (ht' t e h1).fields
    rw [h2] at h3
    simp only [] at h3
    have h4 := List.all_eq_true.1 h3 f hfm
    obtain ⟨e', h5⟩ := Option.isSome_iff_exists.1 h4
    exact ⟨e'.size, by simp [Cx.of, h5]⟩
  · intro f fn c h hb
    have h1 := (hf' f fn h).code
    rw [hb] at h1
    exact h1

end Go.Aes
