import Derived.Test.YtjbdnbnfjnahlaaGreatDoorOrA
import Derived.Test.YtjbdnbnfjnahlaaGreatDoorS17
set_option linter.all false
set_option linter.unusedVariables false
set_option linter.unusedSimpArgs false
set_option maxRecDepth 10000
namespace T
open Go Go.Aes Go.Proofs Go.RowKit

/-! ### contracts that are asked first -/
def oCN (al : List AV) (H : AH) : Option Res :=
  match al with
  | [.str s, .str p] => bif s.length.blt 4294967281 then some (.val (.bool (Lib.contains s p)) H) else none
  | _ => none
def oCT (al : List AV) (H : AH) : Option Res :=
  match al with
  | [.str s, .str [c]] => some (.val (.int .i64 (Lib.countByte s c)) H)
  | _ => none

/-- MaxLen's cell holds a number -/
def Tb (B : Nat) (W : World) : Prop := 0 < B ∧ ∃ m, W.cell? ⟨0, 0, none⟩ = some (.int .i64 m)
theorem tbOk : TbOk Tb := ⟨fun B W w ⟨h0, m, h1⟩ hb hB => ⟨Nat.lt_of_lt_of_le h0 (Nat.le_trans hB hb.size), m, by
  rw [World.cell?_of_block (hb.block 0 h0)]; exact h1⟩⟩

section
variable {B : Nat} {W w : World} {K : KC} {H : AH} {r : Res} {al : List AV} {vs : List Value}
theorem str_vs {s : List UInt8} {l : List AV} (hl : RL K (.str s :: l) vs) : ∃ vs', vs = .string ⟨s.toArray⟩ :: vs' ∧ RL K l vs' := by
  obtain ⟨v, vs', rfl, hv, h2⟩ := hl.cons_inv
  obtain rfl := hv.str_inv
  exact ⟨vs', rfl, h2⟩
theorem oCN_ok (ht : Tb B W) (h : oCN al H = some r) (hw : RW B W K H w) (hl : RL K al vs) : Calls Tryz.prog 56 vs.toArray w (CPost B W K H r) := by
  unfold oCN at h
  split at h <;> first | (cases h; done) | skip
  rename_i s p
  cases hs : s.length.blt 4294967281 with
  | false => simp only [hs, cond_false] at h; cases h
  | true =>
    simp only [hs, cond_true, Option.some.injEq] at h
    subst h
    obtain ⟨vs', rfl, h2⟩ := str_vs hl
    obtain ⟨vs', rfl, h3⟩ := str_vs h2
    obtain rfl := h3.nil_inv
    rw [Nat.blt_eq] at hs
    obtain ⟨_, m, hm⟩ := tbOk.at_ ht hw
    refine call_below (fun K => .bool _) hw ((Any.strings_Contains Tryz.laysContains ⟨s.toArray⟩ ⟨p.toArray⟩ m w (by simpa [ByteArray.size] using hs) hm).mono ?_)
    rintro e w' ⟨rfl, rfl⟩
    exact ⟨rfl, .refl _ _⟩
theorem oCT_ok (h : oCT al H = some r) (hw : RW B W K H w) (hl : RL K al vs) : Calls Tryz.prog 57 vs.toArray w (CPost B W K H r) := by
  unfold oCT at h
  split at h <;> first | (cases h; done) | skip
  rename_i s c
  simp only [Option.some.injEq] at h
  subst h
  obtain ⟨vs', rfl, h2⟩ := str_vs hl
  obtain ⟨vs', rfl, h3⟩ := str_vs h2
  obtain rfl := h3.nil_inv
  refine call_below (fun K => .int _ _) hw ((Any.strings_Count_one Tryz.laysCount ⟨s.toArray⟩ c w).mono ?_)
  rintro e w' ⟨rfl, rfl⟩
  exact ⟨rfl, .refl _ _⟩
end

def OD (g : Nat) : Bool := [56, 57].contains g
def OF : CallF := fun g al H => bif g.beq 56 then oCN al H else bif g.beq 57 then oCT al H else none
theorem OF_cases {g : Nat} {al : List AV} {H : AH} {r : Res} (h : OF g al H = some r) : (g = 56 ∧ oCN al H = some r) ∨ (g = 57 ∧ oCT al H = some r) := by
  unfold OF at h
  cases h1 : g.beq 56 with
  | true => rw [h1] at h; exact .inl ⟨by simpa using h1, h⟩
  | false =>
    rw [h1] at h
    cases h2 : g.beq 57 with
    | true => rw [h2] at h; exact .inr ⟨by simpa using h2, h⟩
    | false => rw [h2] at h; cases h
theorem OF_ok (B : Nat) (W : World) (ht : Tb B W) : CallOk Tryz.prog B W OF := by
  refine ⟨fun g al H r h => ?_, fun g al H r h K w vs hw hl => ?_⟩
  · rcases OF_cases h with ⟨rfl, _⟩ | ⟨rfl, _⟩
    · exact ⟨_, Tryz.func56, by kernel_rfl, by kernel_rfl⟩
    · exact ⟨_, Tryz.func57, by kernel_rfl, by kernel_rfl⟩
  · rcases OF_cases h with ⟨rfl, h⟩ | ⟨rfl, h⟩
    · exact oCN_ok ht h hw hl
    · exact oCT_ok h hw hl

/-! ### calls over a finite domain, computed -/
/-- the answers of a function at a list of arguments, as a plain function says them -/
def finO (g : Nat) (l : List (List AV)) (f : List AV → AV) : CallF := fun g' al H =>
  bif g'.beq g && l.any (fun x => beqVs (AV.kills al) x) then some (.val (f (AV.kills al)) H) else none
theorem finO_ok {P : Program} {B : Nat} {W : World} (ht : Tb B W) {g : Nat} {l : List (List AV)} {f : List AV → AV} (h : ∀ al ∈ l, PEntT P Tb g al (f al)) : CallOk P B W (finO g l f) := by
  refine ⟨fun g' al H q hq => ?_, fun g' al H q hq => ?_⟩
  all_goals
    unfold finO at hq
    cases hb : (g'.beq g && l.any (fun x => beqVs (AV.kills al) x)) with
    | true =>
      rw [hb] at hq
      simp only [cond_true, Option.some.injEq] at hq
      subst hq
      simp only [Bool.and_eq_true, Nat.beq_eq, List.any_eq_true] at hb
      obtain ⟨rfl, x, hx, h2⟩ := hb
      have h3 := beqVs_sound _ _ h2
      have he := h x hx
      first
        | exact he.1
        | exact fun K w vs hw hl => by
            have := he.2 B W K H w vs ht hw (by rw [← h3]; exact hl.kill)
            rw [h3]; exact this
    | false =>
      rw [hb] at hq
      cases hq
end T
