import Derived.Test.YtnmljkjdflfdoaaDoorOrC
import Derived.Shelf.Strings.CaseAny
set_option linter.all false
set_option linter.unusedVariables false
set_option maxRecDepth 10000
namespace Go.Proofs
open Go.RowKit Go.Shelf Go.Lib
def Tryd.laysLower_ren : Go.Shelf.Ren := ⟨fun | 159 => 87 | 165 => 91 | 166 => 92 | 167 => 66 | 169 => 67 | 230 => 93 | 204 => 94 | 240 => 77 | 241 => 95 | 197 => 72 | 118 => 96 | 168 => 64 | 270 => 97 | 262 => 98 | 276 => 85 | 277 => 99 | 260 => 82 | 242 => 78 | 313 => 100 | 278 => 86 | 274 => 101 | 275 => 102 | n => n, fun | 9 => 9 | 4 => 4 | 3 => 3 | 5 => 5 | 72 => 93 | 0 => 0 | 76 => 96 | 75 => 95 | 107 => 123 | 70 => 91 | 20 => 20 | 37 => 39 | 127 => 106 | 21 => 21 | 105 => 98 | 164 => 113 | 162 => 130 | 203 => 128 | 119 => 109 | 46 => 103 | 139 => 112 | 138 => 111 | 51 => 115 | 160 => 131 | 208 => 137 | 206 => 135 | 80 => 59 | n => n, fun | 13 => 3 | 3 => 0 | 4 => 1 | n => n⟩
theorem Tryd.laysLower : Go.Proofs.Lays.n159 Tryd.prog Tryd.laysLower_ren := {
  mixed := by kernel_rfl
  f118 := Tryd.func96.trans (congrArg some (by kernel_rfl))
  f159 := Tryd.func87.trans (congrArg some (by kernel_rfl))
  f165 := Tryd.func91.trans (congrArg some (by kernel_rfl))
  f166 := Tryd.func92.trans (congrArg some (by kernel_rfl))
  f167 := Tryd.func66.trans (congrArg some (by kernel_rfl))
  f168 := Tryd.func64.trans (congrArg some (by kernel_rfl))
  f169 := Tryd.func67.trans (congrArg some (by kernel_rfl))
  f197 := Tryd.func72.trans (congrArg some (by kernel_rfl))
  f204 := Tryd.func94.trans (congrArg some (by kernel_rfl))
  f230 := Tryd.func93.trans (congrArg some (by kernel_rfl))
  f240 := Tryd.func77.trans (congrArg some (by kernel_rfl))
  f241 := Tryd.func95.trans (congrArg some (by kernel_rfl))
  f242 := Tryd.func78.trans (congrArg some (by kernel_rfl))
  f260 := Tryd.func82.trans (congrArg some (by kernel_rfl))
  f262 := Tryd.func98.trans (congrArg some (by kernel_rfl))
  f270 := Tryd.func97.trans (congrArg some (by kernel_rfl))
  f274 := Tryd.func101.trans (congrArg some (by kernel_rfl))
  f275 := Tryd.func102.trans (congrArg some (by kernel_rfl))
  f276 := Tryd.func85.trans (congrArg some (by kernel_rfl))
  f277 := Tryd.func99.trans (congrArg some (by kernel_rfl))
  f278 := Tryd.func86.trans (congrArg some (by kernel_rfl))
  f313 := Tryd.func100.trans (congrArg some (by kernel_rfl))
  t0 := Tryd.underlying0
  a0 := Tryd.isAgg0
  z0 := Tryd.sizeOf0
  v0 := Tryd.zeroValue0
  t3 := Tryd.underlying3
  a3 := Tryd.isAgg3
  z3 := Tryd.sizeOf3
  v3 := Tryd.zeroValue3
  t4 := Tryd.underlying4
  a4 := Tryd.isAgg4
  z4 := Tryd.sizeOf4
  v4 := Tryd.zeroValue4
  t5 := Tryd.underlying5
  a5 := Tryd.isAgg5
  z5 := Tryd.sizeOf5
  v5 := Tryd.zeroValue5
  t9 := Tryd.underlying9
  a9 := Tryd.isAgg9
  z9 := Tryd.sizeOf9
  v9 := Tryd.zeroValue9
  t20 := Tryd.underlying20
  a20 := Tryd.isAgg20
  z20 := Tryd.sizeOf20
  v20 := Tryd.zeroValue20
  t21 := Tryd.underlying21
  a21 := Tryd.isAgg21
  z21 := Tryd.sizeOf21
  v21 := Tryd.zeroValue21
  t37 := Tryd.underlying39
  a37 := Tryd.isAgg39
  z37 := Tryd.sizeOf39
  v37 := Tryd.zeroValue39
  t46 := Tryd.underlying103
  a46 := Tryd.isAgg103
  z46 := Tryd.sizeOf103
  v46 := Tryd.zeroValue103
  t51 := Tryd.underlying115
  a51 := Tryd.isAgg115
  z51 := Tryd.sizeOf115
  v51 := Tryd.zeroValue115
  t70 := Tryd.underlying91
  a70 := Tryd.isAgg91
  z70 := Tryd.sizeOf91
  v70 := Tryd.zeroValue91
  t72 := Tryd.underlying93
  a72 := Tryd.isAgg93
  z72 := Tryd.sizeOf93
  v72 := Tryd.zeroValue93
  t75 := Tryd.underlying95
  a75 := Tryd.isAgg95
  z75 := Tryd.sizeOf95
  v75 := Tryd.zeroValue95
  t76 := Tryd.underlying96
  a76 := Tryd.isAgg96
  z76 := Tryd.sizeOf96
  v76 := Tryd.zeroValue96
  t105 := Tryd.underlying98
  a105 := Tryd.isAgg98
  z105 := Tryd.sizeOf98
  v105 := Tryd.zeroValue98
  t107 := Tryd.underlying123
  a107 := Tryd.isAgg123
  z107 := Tryd.sizeOf123
  v107 := Tryd.zeroValue123
  t119 := Tryd.underlying109
  a119 := Tryd.isAgg109
  z119 := Tryd.sizeOf109
  t127 := Tryd.underlying106
  a127 := Tryd.isAgg106
  z127 := Tryd.sizeOf106
  v127 := Tryd.zeroValue106
  t138 := Tryd.underlying111
  a138 := Tryd.isAgg111
  z138 := Tryd.sizeOf111
  v138 := Tryd.zeroValue111
  t139 := Tryd.underlying112
  a139 := Tryd.isAgg112
  z139 := Tryd.sizeOf112
  v139 := Tryd.zeroValue112
  t160 := Tryd.underlying131
  a160 := Tryd.isAgg131
  z160 := Tryd.sizeOf131
  v160 := Tryd.zeroValue131
  t162 := Tryd.underlying130
  a162 := Tryd.isAgg130
  z162 := Tryd.sizeOf130
  v162 := Tryd.zeroValue130
  t164 := Tryd.underlying113
  a164 := Tryd.isAgg113
  z164 := Tryd.sizeOf113
  v164 := Tryd.zeroValue113
  t203 := Tryd.underlying128
  a203 := Tryd.isAgg128
  z203 := Tryd.sizeOf128
  v203 := Tryd.zeroValue128
  t206 := Tryd.underlying135
  a206 := Tryd.isAgg135
  z206 := Tryd.sizeOf135
  v206 := Tryd.zeroValue135
  t208 := Tryd.underlying137
  a208 := Tryd.isAgg137
  z208 := Tryd.sizeOf137
  v208 := Tryd.zeroValue137
  g3 := by kernel_rfl
  g4 := by kernel_rfl
  g13 := by kernel_rfl }
theorem Tryd.extraLower : Builder.Extra Tryd.prog Tryd.laysLower_ren where
  sizeBuilder := by kernel_rfl
  liesBuilder := by kernel_rfl
  t5 := Tryd.laysLower.t5
  a5 := Tryd.laysLower.a5
  z5 := Tryd.laysLower.z5
  v5 := Tryd.laysLower.v5
  infoByte := by kernel_rfl
  cellsByte := by kernel_rfl
  sizeByte := by kernel_rfl
  neB5 := by decide
end Go.Proofs
namespace T
open Go Go.Aes Go.Proofs Go.RowKit

/-! ### the table of the cases lies in the first heap, too -/
def Tb3 (B : Nat) (W : World) : Prop := Tb B W ∧ 3 < B ∧ ∃ R oR cap, R < B ∧ W.cell? ⟨3, 0, none⟩ = some (.slice (some ⟨R, oR, none⟩) Lib.caseA.size cap) ∧ Lib.CaseTab R oR Lib.caseA W
theorem Tb3.var {B : Nat} {W : World} (h : Tb3 B W) : Lib.CaseVar 3 Lib.caseA W := by
  obtain ⟨_, _, R, oR, cap, _, h1, h2⟩ := h
  exact ⟨R, oR, cap, h1, h2⟩
theorem Tb3.of {W : World} (h : Tb W.heap.size W) (hv : Lib.CaseVar 3 Lib.caseA W) : Tb3 W.heap.size W := by
  obtain ⟨R, oR, cap, h1, h2⟩ := hv
  have hsz : 0 < Lib.caseA.size := by rw [Lib.caseA_size]; omega
  exact ⟨h, World.block_lt_of_cell? W _ h1, R, oR, cap, World.block_lt_of_cell? W _ (h2 0 hsz).1, h1, h2⟩
theorem tbOk3 : TbOk Tb3 := ⟨fun B W w ⟨h0, h1, R, oR, cap, hR, h2, h3⟩ hb hB => by
  have key : ∀ g o, g < B → w.cell? ⟨g, o, none⟩ = W.cell? ⟨g, o, none⟩ := fun g o hg => World.cell?_of_block (hb.block g hg)
  refine ⟨tbOk.mono B W w h0 hb hB, Nat.lt_of_lt_of_le h1 (Nat.le_trans hB hb.size), R, oR, cap, Nat.lt_of_lt_of_le hR (Nat.le_trans hB hb.size), by rw [key _ _ h1]; exact h2, fun i hi => ?_⟩
  obtain ⟨a, b, c, d, e⟩ := h3 i hi
  exact ⟨by rw [key _ _ hR]; exact a, by rw [key _ _ hR]; exact b, by rw [key _ _ hR]; exact c, by rw [key _ _ hR]; exact d, by rw [key _ _ hR]; exact e⟩⟩

def oTL (al : List AV) (H : AH) : Option Res :=
  match al with
  | [.str s] => bif s.length.blt 35184372088832 then some (.val (.str (Lib.toLowerD s)) H) else none
  | _ => none

theorem oTL_ok {B : Nat} {W w : World} {K : KC} {H : AH} {r : Res} {al : List AV} {vs : List Value} (ht : Tb3 B W) (h : oTL al H = some r) (hw : RW B W K H w) (hl : RL K al vs) : Calls Tryd.prog 87 vs.toArray w (CPost B W K H r) := by
  unfold oTL at h
  split at h <;> first | (cases h; done) | skip
  rename_i s
  cases hs : s.length.blt 35184372088832 with
  | false => simp [hs] at h
  | true =>
    simp only [hs, cond_true, Option.some.injEq] at h
    subst h
    obtain ⟨vs', rfl, h2⟩ := str_vs hl
    obtain rfl := h2.nil_inv
    have hs' : s.length < 35184372088832 := by simpa [Nat.blt_eq] using hs
    have ht' := tbOk3.at_ ht hw
    exact call_below (fun K => .str _) hw (Any.strings_ToLower_any Tryd.laysLower Tryd.extraLower ⟨s.toArray⟩ w (by simpa [ByteArray.size] using hs') ht'.var ht'.1.1)

def OTL : CallF := fun g al H => bif g.beq 87 then oTL al H else none
theorem OTL_ok (B : Nat) (W : World) (ht : Tb3 B W) : CallOk Tryd.prog B W OTL := by
  refine ⟨fun g al H r h => ?_, fun g al H r h K w vs hw hl => ?_⟩
  all_goals
    unfold OTL at h
    cases hg : g.beq 87 with
    | false => rw [hg] at h; cases h
    | true =>
      rw [hg] at h
      obtain rfl : g = 87 := by simpa using hg
      first
        | exact ⟨_, Tryd.func87, by kernel_rfl, by kernel_rfl⟩
        | exact oTL_ok ht h hw hl
def D3 (g : Nat) : Bool := g.beq 87
noncomputable def OF3 : CallF := orO D3 OTL OF2
theorem OF3_ok (B : Nat) (W : World) (ht : Tb3 B W) : CallOk Tryd.prog B W OF3 := orO_ok (OTL_ok B W ht) (OF2_ok B W ht.1)
theorem OF2_3 : Sub OF2 OF3 := by
  intro g al H r h
  show (bif D3 g then OTL g al H else OF2 g al H) = some r
  cases hg : D3 g with
  | false => exact h
  | true =>
    obtain rfl : g = 87 := by simpa [D3] using hg
    have : OF2 87 al H = none := rfl
    rw [this] at h; cases h

/-! ### what is asked first may be more -/
theorem cO_sub {X : Cx} {D : Nat → Bool} {O O' : CallF} {S Z : Nat → Bool} (s : Sub O O') : ∀ n, Sub (cO X D O S Z n) (cO X D O' S Z n)
  | 0 => fun g al H r h => by simp [cO] at h
  | n + 1 => fun g al H r h => by
    have h' : (bif D g then O g al H else bif S g && AV.frees (AV.kills al) then PO X (cO X D O S Z n) g al H else frzC Z (abody X (cO X D O S Z n) n) g al H) = some r := h
    show (bif D g then O' g al H else bif S g && AV.frees (AV.kills al) then PO X (cO X D O' S Z n) g al H else frzC Z (abody X (cO X D O' S Z n) n) g al H) = some r
    cases hd : D g with
    | true => rw [hd] at h'; exact s _ _ _ _ h'
    | false =>
      rw [hd] at h'
      simp only [cond_false] at h' ⊢
      cases hs : (S g && AV.frees (AV.kills al)) with
      | true =>
        rw [hs] at h'
        simp only [cond_true] at h' ⊢
        obtain ⟨ha, lf, v0, H', h1, h2, rfl⟩ := PO_inv h'
        exact PO_mk ha (abody_mono (cO_sub s n) (Nat.le_refl lf) h1) h2
      | false =>
        rw [hs] at h'
        simp only [cond_false] at h' ⊢
        exact frzC_mono (fun r hr => abody_mono (cO_sub s n) (Nat.le_refl n) hr) h'
theorem evO_sub {X : Cx} {D : Nat → Bool} {O O' : CallF} {S Z : Nat → Bool} (s : Sub O O') : Sub (evZ X D O S Z) (evZ X D O' S Z) := by
  intro g al H r h
  obtain ⟨n, hn⟩ := evO_iff.1 h
  exact evO_iff.2 ⟨n, cO_sub s n g al H r hn⟩
end T
