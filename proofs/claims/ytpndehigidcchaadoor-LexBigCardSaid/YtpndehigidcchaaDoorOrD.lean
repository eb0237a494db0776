import Derived.Test.YtpndehigidcchaaDoorOrC
import Derived.Shelf.Strings.CaseAny
set_option linter.all false
set_option linter.unusedVariables false
set_option maxRecDepth 10000
namespace Go.Proofs
open Go.RowKit Go.Shelf Go.Lib
def Tryd.laysLower_ren : Go.Shelf.Ren := ⟨fun | 159 => 72 | 165 => 55 | 166 => 27 | 167 => 31 | 169 => 29 | 230 => 78 | 204 => 79 | 240 => 37 | 241 => 67 | 197 => 61 | 118 => 81 | 168 => 45 | 270 => 82 | 262 => 83 | 276 => 51 | 277 => 77 | 260 => 73 | 242 => 59 | 313 => 85 | 278 => 71 | 274 => 86 | 275 => 87 | n => n, fun | 9 => 9 | 4 => 4 | 3 => 3 | 5 => 5 | 72 => 54 | 0 => 0 | 76 => 57 | 75 => 56 | 107 => 103 | 70 => 52 | 20 => 20 | 37 => 35 | 127 => 64 | 21 => 21 | 105 => 71 | 164 => 80 | 162 => 111 | 203 => 109 | 119 => 92 | 46 => 89 | 139 => 95 | 138 => 94 | 51 => 99 | 160 => 112 | 208 => 118 | 206 => 116 | 80 => 60 | n => n, fun | 13 => 3 | 3 => 1 | 4 => 2 | n => n⟩
theorem Tryd.laysLower : Go.Proofs.Lays.n159 Tryd.prog Tryd.laysLower_ren := {
  mixed := by kernel_rfl
  f118 := Tryd.func81.trans (congrArg some (by kernel_rfl))
  f159 := Tryd.func72.trans (congrArg some (by kernel_rfl))
  f165 := Tryd.func55.trans (congrArg some (by kernel_rfl))
  f166 := Tryd.func27.trans (congrArg some (by kernel_rfl))
  f167 := Tryd.func31.trans (congrArg some (by kernel_rfl))
  f168 := Tryd.func45.trans (congrArg some (by kernel_rfl))
  f169 := Tryd.func29.trans (congrArg some (by kernel_rfl))
  f197 := Tryd.func61.trans (congrArg some (by kernel_rfl))
  f204 := Tryd.func79.trans (congrArg some (by kernel_rfl))
  f230 := Tryd.func78.trans (congrArg some (by kernel_rfl))
  f240 := Tryd.func37.trans (congrArg some (by kernel_rfl))
  f241 := Tryd.func67.trans (congrArg some (by kernel_rfl))
  f242 := Tryd.func59.trans (congrArg some (by kernel_rfl))
  f260 := Tryd.func73.trans (congrArg some (by kernel_rfl))
  f262 := Tryd.func83.trans (congrArg some (by kernel_rfl))
  f270 := Tryd.func82.trans (congrArg some (by kernel_rfl))
  f274 := Tryd.func86.trans (congrArg some (by kernel_rfl))
  f275 := Tryd.func87.trans (congrArg some (by kernel_rfl))
  f276 := Tryd.func51.trans (congrArg some (by kernel_rfl))
  f277 := Tryd.func77.trans (congrArg some (by kernel_rfl))
  f278 := Tryd.func71.trans (congrArg some (by kernel_rfl))
  f313 := Tryd.func85.trans (congrArg some (by kernel_rfl))
  t0 := Tryd.underlying0
  a0 := Tryd.isAgg0
  z0 := Tryd.sizeOf0
  v0 := Tryd.zeroValue0
  t3 := Tryd.underlying3
  a3 := Tryd.isAgg3
  z3 := Tryd.sizeOf3
  v3 := Tryd.zeroValue3
  t4 := Tryd.underlying4
  a4 := Tryd.isAgg4
  z4 := Tryd.sizeOf4
  v4 := Tryd.zeroValue4
  t5 := Tryd.underlying5
  a5 := Tryd.isAgg5
  z5 := Tryd.sizeOf5
  v5 := Tryd.zeroValue5
  t9 := Tryd.underlying9
  a9 := Tryd.isAgg9
  z9 := Tryd.sizeOf9
  v9 := Tryd.zeroValue9
  t20 := Tryd.underlying20
  a20 := Tryd.isAgg20
  z20 := Tryd.sizeOf20
  v20 := Tryd.zeroValue20
  t21 := Tryd.underlying21
  a21 := Tryd.isAgg21
  z21 := Tryd.sizeOf21
  v21 := Tryd.zeroValue21
  t37 := Tryd.underlying35
  a37 := Tryd.isAgg35
  z37 := Tryd.sizeOf35
  v37 := Tryd.zeroValue35
  t46 := Tryd.underlying89
  a46 := Tryd.isAgg89
  z46 := Tryd.sizeOf89
  v46 := Tryd.zeroValue89
  t51 := Tryd.underlying99
  a51 := Tryd.isAgg99
  z51 := Tryd.sizeOf99
  v51 := Tryd.zeroValue99
  t70 := Tryd.underlying52
  a70 := Tryd.isAgg52
  z70 := Tryd.sizeOf52
  v70 := Tryd.zeroValue52
  t72 := Tryd.underlying54
  a72 := Tryd.isAgg54
  z72 := Tryd.sizeOf54
  v72 := Tryd.zeroValue54
  t75 := Tryd.underlying56
  a75 := Tryd.isAgg56
  z75 := Tryd.sizeOf56
  v75 := Tryd.zeroValue56
  t76 := Tryd.underlying57
  a76 := Tryd.isAgg57
  z76 := Tryd.sizeOf57
  v76 := Tryd.zeroValue57
  t105 := Tryd.underlying71
  a105 := Tryd.isAgg71
  z105 := Tryd.sizeOf71
  v105 := Tryd.zeroValue71
  t107 := Tryd.underlying103
  a107 := Tryd.isAgg103
  z107 := Tryd.sizeOf103
  v107 := Tryd.zeroValue103
  t119 := Tryd.underlying92
  a119 := Tryd.isAgg92
  z119 := Tryd.sizeOf92
  t127 := Tryd.underlying64
  a127 := Tryd.isAgg64
  z127 := Tryd.sizeOf64
  v127 := Tryd.zeroValue64
  t138 := Tryd.underlying94
  a138 := Tryd.isAgg94
  z138 := Tryd.sizeOf94
  v138 := Tryd.zeroValue94
  t139 := Tryd.underlying95
  a139 := Tryd.isAgg95
  z139 := Tryd.sizeOf95
  v139 := Tryd.zeroValue95
  t160 := Tryd.underlying112
  a160 := Tryd.isAgg112
  z160 := Tryd.sizeOf112
  v160 := Tryd.zeroValue112
  t162 := Tryd.underlying111
  a162 := Tryd.isAgg111
  z162 := Tryd.sizeOf111
  v162 := Tryd.zeroValue111
  t164 := Tryd.underlying80
  a164 := Tryd.isAgg80
  z164 := Tryd.sizeOf80
  v164 := Tryd.zeroValue80
  t203 := Tryd.underlying109
  a203 := Tryd.isAgg109
  z203 := Tryd.sizeOf109
  v203 := Tryd.zeroValue109
  t206 := Tryd.underlying116
  a206 := Tryd.isAgg116
  z206 := Tryd.sizeOf116
  v206 := Tryd.zeroValue116
  t208 := Tryd.underlying118
  a208 := Tryd.isAgg118
  z208 := Tryd.sizeOf118
  v208 := Tryd.zeroValue118
  g3 := by kernel_rfl
  g4 := by kernel_rfl
  g13 := by kernel_rfl }
theorem Tryd.extraLower : Builder.Extra Tryd.prog Tryd.laysLower_ren where
  sizeBuilder := by kernel_rfl
  liesBuilder := by kernel_rfl
  t5 := Tryd.laysLower.t5
  a5 := Tryd.laysLower.a5
  z5 := Tryd.laysLower.z5
  v5 := Tryd.laysLower.v5
  infoByte := by kernel_rfl
  cellsByte := by kernel_rfl
  sizeByte := by kernel_rfl
  neB5 := by decide
end Go.Proofs
namespace T
open Go Go.Aes Go.Proofs Go.RowKit

/-! ### the table of the cases lies in the first heap, too -/
def Tb3 (B : Nat) (W : World) : Prop := Tb B W ∧ 3 < B ∧ ∃ R oR cap, R < B ∧ W.cell? ⟨3, 0, none⟩ = some (.slice (some ⟨R, oR, none⟩) Lib.caseA.size cap) ∧ Lib.CaseTab R oR Lib.caseA W
theorem Tb3.var {B : Nat} {W : World} (h : Tb3 B W) : Lib.CaseVar 3 Lib.caseA W := by
  obtain ⟨_, _, R, oR, cap, _, h1, h2⟩ := h
  exact ⟨R, oR, cap, h1, h2⟩
theorem Tb3.of {W : World} (h : Tb W.heap.size W) (hv : Lib.CaseVar 3 Lib.caseA W) : Tb3 W.heap.size W := by
  obtain ⟨R, oR, cap, h1, h2⟩ := hv
  have hsz : 0 < Lib.caseA.size := by rw [Lib.caseA_size]; omega
  exact ⟨h, World.block_lt_of_cell? W _ h1, R, oR, cap, World.block_lt_of_cell? W _ (h2 0 hsz).1, h1, h2⟩
theorem tbOk3 : TbOk Tb3 := ⟨fun B W w ⟨h0, h1, R, oR, cap, hR, h2, h3⟩ hb hB => by
  have key : ∀ g o, g < B → w.cell? ⟨g, o, none⟩ = W.cell? ⟨g, o, none⟩ := fun g o hg => World.cell?_of_block (hb.block g hg)
  refine ⟨tbOk.mono B W w h0 hb hB, Nat.lt_of_lt_of_le h1 (Nat.le_trans hB hb.size), R, oR, cap, Nat.lt_of_lt_of_le hR (Nat.le_trans hB hb.size), by rw [key _ _ h1]; exact h2, fun i hi => ?_⟩
  obtain ⟨a, b, c, d, e⟩ := h3 i hi
  exact ⟨by rw [key _ _ hR]; exact a, by rw [key _ _ hR]; exact b, by rw [key _ _ hR]; exact c, by rw [key _ _ hR]; exact d, by rw [key _ _ hR]; exact e⟩⟩

def oTL (al : List AV) (H : AH) : Option Res :=
  match al with
  | [.str s] => bif s.length.blt 35184372088832 then some (.val (.str (Lib.toLowerD s)) H) else none
  | _ => none

theorem oTL_ok {B : Nat} {W w : World} {K : KC} {H : AH} {r : Res} {al : List AV} {vs : List Value} (ht : Tb3 B W) (h : oTL al H = some r) (hw : RW B W K H w) (hl : RL K al vs) : Calls Tryd.prog 72 vs.toArray w (CPost B W K H r) := by
  unfold oTL at h
  split at h <;> first | (cases h; done) | skip
  rename_i s
  cases hs : s.length.blt 35184372088832 with
  | false => simp [hs] at h
  | true =>
    simp only [hs, cond_true, Option.some.injEq] at h
    subst h
    obtain ⟨vs', rfl, h2⟩ := str_vs hl
    obtain rfl := h2.nil_inv
    have hs' : s.length < 35184372088832 := by simpa [Nat.blt_eq] using hs
    have ht' := tbOk3.at_ ht hw
    exact call_below (fun K => .str _) hw (Any.strings_ToLower_any Tryd.laysLower Tryd.extraLower ⟨s.toArray⟩ w (by simpa [ByteArray.size] using hs') ht'.var ht'.1.1)

def OTL : CallF := fun g al H => bif g.beq 72 then oTL al H else none
theorem OTL_ok (B : Nat) (W : World) (ht : Tb3 B W) : CallOk Tryd.prog B W OTL := by
  refine ⟨fun g al H r h => ?_, fun g al H r h K w vs hw hl => ?_⟩
  all_goals
    unfold OTL at h
    cases hg : g.beq 72 with
    | false => rw [hg] at h; cases h
    | true =>
      rw [hg] at h
      obtain rfl : g = 72 := by simpa using hg
      first
        | exact ⟨_, Tryd.func72, by kernel_rfl, by kernel_rfl⟩
        | exact oTL_ok ht h hw hl
def D3 (g : Nat) : Bool := g.beq 72
noncomputable def OF3 : CallF := orO D3 OTL OF2
theorem OF3_ok (B : Nat) (W : World) (ht : Tb3 B W) : CallOk Tryd.prog B W OF3 := orO_ok (OTL_ok B W ht) (OF2_ok B W ht.1)
theorem OF2_3 : Sub OF2 OF3 := by
  intro g al H r h
  show (bif D3 g then OTL g al H else OF2 g al H) = some r
  cases hg : D3 g with
  | false => exact h
  | true =>
    obtain rfl : g = 72 := by simpa [D3] using hg
    have : OF2 72 al H = none := rfl
    rw [this] at h; cases h

/-! ### what is asked first may be more -/
theorem cO_sub {X : Cx} {D : Nat → Bool} {O O' : CallF} {S : Nat → Bool} (s : Sub O O') : ∀ n, Sub (cO X D O S n) (cO X D O' S n)
  | 0 => fun g al H r h => by simp [cO] at h
  | n + 1 => fun g al H r h => by
    have h' : (bif D g then O g al H else bif S g && AV.frees (AV.kills al) then PO X (cO X D O S n) g al H else abody X (cO X D O S n) n g al H) = some r := h
    show (bif D g then O' g al H else bif S g && AV.frees (AV.kills al) then PO X (cO X D O' S n) g al H else abody X (cO X D O' S n) n g al H) = some r
    cases hd : D g with
    | true => rw [hd] at h'; exact s _ _ _ _ h'
    | false =>
      rw [hd] at h'
      simp only [cond_false] at h' ⊢
      cases hs : (S g && AV.frees (AV.kills al)) with
      | true =>
        rw [hs] at h'
        simp only [cond_true] at h' ⊢
        obtain ⟨ha, lf, v0, H', h1, h2, rfl⟩ := PO_inv h'
        exact PO_mk ha (abody_mono (cO_sub s n) (Nat.le_refl lf) h1) h2
      | false =>
        rw [hs] at h'
        simp only [cond_false] at h' ⊢
        exact abody_mono (cO_sub s n) (Nat.le_refl n) h'
theorem evO_sub {X : Cx} {D : Nat → Bool} {O O' : CallF} {S : Nat → Bool} (s : Sub O O') : Sub (evO X D O S) (evO X D O' S) := by
  intro g al H r h
  obtain ⟨n, hn⟩ := evO_iff.1 h
  exact evO_iff.2 ⟨n, cO_sub s n g al H r hn⟩
end T
