import Derived.Test.YtjbdnbnfjnahlaaGreatDoorSrT
set_option linter.all false
set_option linter.unusedVariables false
set_option linter.unusedSimpArgs false
set_option maxRecDepth 100000
namespace T
open Go Go.Aes Go.Proofs

/-! ### who may be what -/
def N19 : List Str := [[73, 110, 116], [83, 116, 114, 105, 110, 103], [78, 111, 100, 101], [65], [66], [84, 104, 105, 110, 103], [75, 105, 110, 100], [73, 110], [81, 117, 101, 114, 121], [65, 110, 121], [78, 111, 110, 101], [76, 101, 97, 102], [77, 117, 116, 97, 116, 105, 111, 110], [82, 111, 111, 116], [97], [105, 100], [95, 95, 116, 121, 112, 101, 110, 97, 109, 101], [110, 101, 120, 116], [110, 97, 109, 101]]
/-- the objects that a type may be -/
def pos (o : Bool) (a : Str) : List Str :=
  if o then (if a = [82, 111, 111, 116] ∨ a = [76, 101, 97, 102] then [a] else [])
  else if a = [81, 117, 101, 114, 121] ∨ a = [65] ∨ a = [66] ∨ a = [77, 117, 116, 97, 116, 105, 111, 110] then [a] else if a = [78, 111, 100, 101] ∨ a = [84, 104, 105, 110, 103] then [[65], [66]] else []
def strL (l : List Str) : AV :=
  match l with
  | [] => .sl [] .nil
  | l => .sl (l.map fun s => [.str s]) .dead
def mts (o : Bool) (a b : Str) : Bool := (pos o a).any fun n => (pos o b).contains n
theorem mts_comm (o : Bool) (a b : Str) : mts o a b = mts o b a := by
  unfold mts
  rw [Bool.eq_iff_iff, List.any_eq_true, List.any_eq_true]
  constructor <;> (rintro ⟨n, h1, h2⟩; exact ⟨n, List.contains_iff_mem.1 h2, List.contains_iff_mem.2 h1⟩)
theorem po_chk : ([true, false].all fun o => N19.all fun a => chkB OF1 100 23 [sch o, .str a] (strL (pos o a))) = true := by kernel_rfl
theorem rpo_chk : ([true, false].all fun o => N19.all fun a => chkB OF1 100 47 [sch o, .str a] (strL (pos o a))) = true := by kernel_rfl
theorem po_ent (o : Bool) {a : Str} (ha : a ∈ N19) : PEntT Tryz.prog Tb 23 [sch o, .str a] (strL (pos o a)) :=
  compB OF1_ok ⟨_, Tryz.func23, by kernel_rfl, by kernel_rfl⟩ (List.all_eq_true.1 (List.all_eq_true.1 po_chk o (by cases o <;> simp)) a ha)
theorem rpo_ent (o : Bool) {a : Str} (ha : a ∈ N19) : PEntT Tryz.prog Tb 47 [sch o, .str a] (strL (pos o a)) :=
  compB OF1_ok ⟨_, Tryz.func47, by kernel_rfl, by kernel_rfl⟩ (List.all_eq_true.1 (List.all_eq_true.1 rpo_chk o (by cases o <;> simp)) a ha)

/-! ### asked first -/
def memB (l : List Str) (a : Str) : Bool := l.any (eqL a)
theorem memB_iff {l : List Str} {a : Str} : memB l a = true ↔ a ∈ l := by
  unfold memB
  rw [List.any_eq_true]
  constructor
  · rintro ⟨x, h1, h2⟩
    have : a = x := by simpa [eqL_spec] using h2
    rw [this]; exact h1
  · intro h; exact ⟨a, h, by simp [eqL_spec]⟩
/-- the other schema? -/
def isO : AV → Bool
  | .agg (.str q :: _) => eqL q [82, 111, 111, 116]
  | _ => false
theorem isO_sch (o : Bool) : isO (sch o) = o := by cases o <;> rfl
def domO (g : Nat) (Dm : List AV → Bool) (f : List AV → AV) : CallF := fun g' al H => bif g'.beq g && Dm (AV.kills al) then some (.val (f (AV.kills al)) H) else none
theorem domO_ok {P : Program} {B : Nat} {W : World} (ht : Tb B W) {g : Nat} {Dm : List AV → Bool} {f : List AV → AV} (h : ∀ al, Dm al = true → PEntT P Tb g al (f al)) : CallOk P B W (domO g Dm f) := by
  refine ⟨fun g' al H q hq => ?_, fun g' al H q hq => ?_⟩
  all_goals
    unfold domO at hq
    cases hb : (g'.beq g && Dm (AV.kills al)) with
    | true =>
      rw [hb] at hq
      simp only [cond_true, Option.some.injEq] at hq
      subst hq
      simp only [Bool.and_eq_true, Nat.beq_eq] at hb
      obtain ⟨rfl, hd⟩ := hb
      have he := h _ hd
      first
        | exact he.1
        | exact fun K w vs hw hl => he.2 B W K H w vs ht hw hl.kill
    | false =>
      rw [hb] at hq
      cases hq
noncomputable def dXA : List AV → Bool
  | [x, .str a] => beqV x (sch (isO x)) && memB N19 a
  | _ => false
theorem dXA_inv {al : List AV} (h : dXA al = true) : ∃ o a, al = [sch o, .str a] ∧ a ∈ N19 := by
  unfold dXA at h
  split at h
  · rename_i x a
    simp only [Bool.and_eq_true, memB_iff] at h
    exact ⟨isO x, a, by rw [← beqV_sound _ _ h.1], h.2⟩
  · cases h
def fPo : List AV → AV
  | [x, .str a] => strL (pos (isO x) a)
  | _ => Aes.undef
theorem fPo_sch (o : Bool) (a : Str) : fPo [sch o, .str a] = strL (pos o a) := by show strL (pos (isO (sch o)) a) = _; rw [isO_sch]
noncomputable def OFp : CallF := orO (fun g => g.beq 23) (domO 23 dXA fPo) (orO (fun g => g.beq 47) (domO 47 dXA fPo) OF1)
theorem OFp_ok (B : Nat) (W : World) (ht : Tb B W) : CallOk Tryz.prog B W OFp := by
  refine orO_ok (domO_ok ht fun al h => ?_) (orO_ok (domO_ok ht fun al h => ?_) (OF1_ok B W ht))
  · obtain ⟨o, a, rfl, ha⟩ := dXA_inv h; rw [fPo_sch]; exact po_ent o ha
  · obtain ⟨o, a, rfl, ha⟩ := dXA_inv h; rw [fPo_sch]; exact rpo_ent o ha

theorem me_chk : ([true, false].all fun o => N19.all fun a => N19.all fun b => chkB OFp 100 11 [sch o, .str a, .str b] (.bool (mts o a b))) = true := by kernel_rfl
theorem rme_chk : ([true, false].all fun o => N19.all fun a => N19.all fun b => chkB OFp 100 48 [sch o, .str a, .str b] (.bool (mts o a b))) = true := by kernel_rfl
theorem me_ent (o : Bool) {a b : Str} (ha : a ∈ N19) (hb : b ∈ N19) : PEntT Tryz.prog Tb 11 [sch o, .str a, .str b] (.bool (mts o a b)) :=
  compB OFp_ok ⟨_, Tryz.func11, by kernel_rfl, by kernel_rfl⟩ (List.all_eq_true.1 (List.all_eq_true.1 (List.all_eq_true.1 me_chk o (by cases o <;> simp)) a ha) b hb)
theorem rme_ent (o : Bool) {a b : Str} (ha : a ∈ N19) (hb : b ∈ N19) : PEntT Tryz.prog Tb 48 [sch o, .str a, .str b] (.bool (mts o a b)) :=
  compB OFp_ok ⟨_, Tryz.func48, by kernel_rfl, by kernel_rfl⟩ (List.all_eq_true.1 (List.all_eq_true.1 (List.all_eq_true.1 rme_chk o (by cases o <;> simp)) a ha) b hb)
end T
